/-
  The statements' do: Redeem.
-/
import Derived.Test.YtioabjniipkncaaGreatDoorRcY
namespace Go.Proofs.YtioabjniipkncaaGreatDoor.Rc
open Go.RowKit Go.Proofs.YtioabjniipkncaaGreatDoor.Fo Go.Proofs.YtioabjniipkncaaGreatDoor.Rf Go.Maps

theorem sc_size (w : World) (p : Addr) (v : Value) : (w.setCell p v).heap.size = w.heap.size := by simp [World.setCell]
theorem sc_os (w : World) (p : Addr) (v : Value) : (w.setCell p v).os = w.os := rfl
theorem sc_tape (w : World) (p : Addr) (v : Value) : (w.setCell p v).tape = w.tape := rfl
theorem sc_out (w : World) (p : Addr) (v : Value) : (w.setCell p v).output = w.output := rfl
theorem nest_block {w : World} {b : Nat} {z0 z1 z2 z3 z4 z5 z6 z7 z8 z9 z10 z11 z12 z13 z14 v0 v1 v2 v3 v4 v5 v6 v7 v8 v9 v10 : Value} {t : TypeId} (h : w.heap[b]? = some (.cells #[z0, z1, z2, z3, z4, z5, z6, z7, z8, z9, z10, z11, z12, z13, z14] t (0, 0))) : (((((((((((w.setCell ⟨b, 0, none⟩ v0).setCell ⟨b, 1, none⟩ v1).setCell ⟨b, 2, none⟩ v2).setCell ⟨b, 3, none⟩ v3).setCell ⟨b, 4, none⟩ v4).setCell ⟨b, 5, none⟩ v5).setCell ⟨b, 6, none⟩ v6).setCell ⟨b, 7, none⟩ v7).setCell ⟨b, 8, none⟩ v8).setCell ⟨b, 9, none⟩ v9).setCell ⟨b, 10, none⟩ v10).heap[b]? = some (.cells #[v0, v1, v2, v3, v4, v5, v6, v7, v8, v9, v10, z11, z12, z13, z14] t (0, 0)) := by
  have a0 : (w.setCell ⟨b, 0, none⟩ v0).heap[b]? = some (.cells #[v0, z1, z2, z3, z4, z5, z6, z7, z8, z9, z10, z11, z12, z13, z14] t (0, 0)) := heap_setCell_same _ b 0 _ _ v0 h
  have a1 : ((w.setCell ⟨b, 0, none⟩ v0).setCell ⟨b, 1, none⟩ v1).heap[b]? = some (.cells #[v0, v1, z2, z3, z4, z5, z6, z7, z8, z9, z10, z11, z12, z13, z14] t (0, 0)) := heap_setCell_same _ b 1 _ _ v1 a0
  have a2 : (((w.setCell ⟨b, 0, none⟩ v0).setCell ⟨b, 1, none⟩ v1).setCell ⟨b, 2, none⟩ v2).heap[b]? = some (.cells #[v0, v1, v2, z3, z4, z5, z6, z7, z8, z9, z10, z11, z12, z13, z14] t (0, 0)) := heap_setCell_same _ b 2 _ _ v2 a1
  have a3 : ((((w.setCell ⟨b, 0, none⟩ v0).setCell ⟨b, 1, none⟩ v1).setCell ⟨b, 2, none⟩ v2).setCell ⟨b, 3, none⟩ v3).heap[b]? = some (.cells #[v0, v1, v2, v3, z4, z5, z6, z7, z8, z9, z10, z11, z12, z13, z14] t (0, 0)) := heap_setCell_same _ b 3 _ _ v3 a2
  have a4 : (((((w.setCell ⟨b, 0, none⟩ v0).setCell ⟨b, 1, none⟩ v1).setCell ⟨b, 2, none⟩ v2).setCell ⟨b, 3, none⟩ v3).setCell ⟨b, 4, none⟩ v4).heap[b]? = some (.cells #[v0, v1, v2, v3, v4, z5, z6, z7, z8, z9, z10, z11, z12, z13, z14] t (0, 0)) := heap_setCell_same _ b 4 _ _ v4 a3
  have a5 : ((((((w.setCell ⟨b, 0, none⟩ v0).setCell ⟨b, 1, none⟩ v1).setCell ⟨b, 2, none⟩ v2).setCell ⟨b, 3, none⟩ v3).setCell ⟨b, 4, none⟩ v4).setCell ⟨b, 5, none⟩ v5).heap[b]? = some (.cells #[v0, v1, v2, v3, v4, v5, z6, z7, z8, z9, z10, z11, z12, z13, z14] t (0, 0)) := heap_setCell_same _ b 5 _ _ v5 a4
  have a6 : (((((((w.setCell ⟨b, 0, none⟩ v0).setCell ⟨b, 1, none⟩ v1).setCell ⟨b, 2, none⟩ v2).setCell ⟨b, 3, none⟩ v3).setCell ⟨b, 4, none⟩ v4).setCell ⟨b, 5, none⟩ v5).setCell ⟨b, 6, none⟩ v6).heap[b]? = some (.cells #[v0, v1, v2, v3, v4, v5, v6, z7, z8, z9, z10, z11, z12, z13, z14] t (0, 0)) := heap_setCell_same _ b 6 _ _ v6 a5
  have a7 : ((((((((w.setCell ⟨b, 0, none⟩ v0).setCell ⟨b, 1, none⟩ v1).setCell ⟨b, 2, none⟩ v2).setCell ⟨b, 3, none⟩ v3).setCell ⟨b, 4, none⟩ v4).setCell ⟨b, 5, none⟩ v5).setCell ⟨b, 6, none⟩ v6).setCell ⟨b, 7, none⟩ v7).heap[b]? = some (.cells #[v0, v1, v2, v3, v4, v5, v6, v7, z8, z9, z10, z11, z12, z13, z14] t (0, 0)) := heap_setCell_same _ b 7 _ _ v7 a6
  have a8 : (((((((((w.setCell ⟨b, 0, none⟩ v0).setCell ⟨b, 1, none⟩ v1).setCell ⟨b, 2, none⟩ v2).setCell ⟨b, 3, none⟩ v3).setCell ⟨b, 4, none⟩ v4).setCell ⟨b, 5, none⟩ v5).setCell ⟨b, 6, none⟩ v6).setCell ⟨b, 7, none⟩ v7).setCell ⟨b, 8, none⟩ v8).heap[b]? = some (.cells #[v0, v1, v2, v3, v4, v5, v6, v7, v8, z9, z10, z11, z12, z13, z14] t (0, 0)) := heap_setCell_same _ b 8 _ _ v8 a7
  have a9 : ((((((((((w.setCell ⟨b, 0, none⟩ v0).setCell ⟨b, 1, none⟩ v1).setCell ⟨b, 2, none⟩ v2).setCell ⟨b, 3, none⟩ v3).setCell ⟨b, 4, none⟩ v4).setCell ⟨b, 5, none⟩ v5).setCell ⟨b, 6, none⟩ v6).setCell ⟨b, 7, none⟩ v7).setCell ⟨b, 8, none⟩ v8).setCell ⟨b, 9, none⟩ v9).heap[b]? = some (.cells #[v0, v1, v2, v3, v4, v5, v6, v7, v8, v9, z10, z11, z12, z13, z14] t (0, 0)) := heap_setCell_same _ b 9 _ _ v9 a8
  have a10 : (((((((((((w.setCell ⟨b, 0, none⟩ v0).setCell ⟨b, 1, none⟩ v1).setCell ⟨b, 2, none⟩ v2).setCell ⟨b, 3, none⟩ v3).setCell ⟨b, 4, none⟩ v4).setCell ⟨b, 5, none⟩ v5).setCell ⟨b, 6, none⟩ v6).setCell ⟨b, 7, none⟩ v7).setCell ⟨b, 8, none⟩ v8).setCell ⟨b, 9, none⟩ v9).setCell ⟨b, 10, none⟩ v10).heap[b]? = some (.cells #[v0, v1, v2, v3, v4, v5, v6, v7, v8, v9, v10, z11, z12, z13, z14] t (0, 0)) := heap_setCell_same _ b 10 _ _ v10 a9
  exact a10
theorem nest_other {w : World} {b : Nat} {v0 v1 v2 v3 v4 v5 v6 v7 v8 v9 v10 : Value} (k : Nat) (hk : k ≠ b) : (((((((((((w.setCell ⟨b, 0, none⟩ v0).setCell ⟨b, 1, none⟩ v1).setCell ⟨b, 2, none⟩ v2).setCell ⟨b, 3, none⟩ v3).setCell ⟨b, 4, none⟩ v4).setCell ⟨b, 5, none⟩ v5).setCell ⟨b, 6, none⟩ v6).setCell ⟨b, 7, none⟩ v7).setCell ⟨b, 8, none⟩ v8).setCell ⟨b, 9, none⟩ v9).setCell ⟨b, 10, none⟩ v10).heap[k]? = w.heap[k]? :=
  (Below.heap_setCell _ _ _ _ hk).trans ((Below.heap_setCell _ _ _ _ hk).trans ((Below.heap_setCell _ _ _ _ hk).trans ((Below.heap_setCell _ _ _ _ hk).trans ((Below.heap_setCell _ _ _ _ hk).trans ((Below.heap_setCell _ _ _ _ hk).trans ((Below.heap_setCell _ _ _ _ hk).trans ((Below.heap_setCell _ _ _ _ hk).trans ((Below.heap_setCell _ _ _ _ hk).trans ((Below.heap_setCell _ _ _ _ hk).trans (Below.heap_setCell _ _ _ _ hk))))))))))
theorem nest_size {w : World} {b : Nat} {v0 v1 v2 v3 v4 v5 v6 v7 v8 v9 v10 : Value} : (((((((((((w.setCell ⟨b, 0, none⟩ v0).setCell ⟨b, 1, none⟩ v1).setCell ⟨b, 2, none⟩ v2).setCell ⟨b, 3, none⟩ v3).setCell ⟨b, 4, none⟩ v4).setCell ⟨b, 5, none⟩ v5).setCell ⟨b, 6, none⟩ v6).setCell ⟨b, 7, none⟩ v7).setCell ⟨b, 8, none⟩ v8).setCell ⟨b, 9, none⟩ v9).setCell ⟨b, 10, none⟩ v10).heap.size = w.heap.size ∧ (((((((((((w.setCell ⟨b, 0, none⟩ v0).setCell ⟨b, 1, none⟩ v1).setCell ⟨b, 2, none⟩ v2).setCell ⟨b, 3, none⟩ v3).setCell ⟨b, 4, none⟩ v4).setCell ⟨b, 5, none⟩ v5).setCell ⟨b, 6, none⟩ v6).setCell ⟨b, 7, none⟩ v7).setCell ⟨b, 8, none⟩ v8).setCell ⟨b, 9, none⟩ v9).setCell ⟨b, 10, none⟩ v10).os = w.os ∧ (((((((((((w.setCell ⟨b, 0, none⟩ v0).setCell ⟨b, 1, none⟩ v1).setCell ⟨b, 2, none⟩ v2).setCell ⟨b, 3, none⟩ v3).setCell ⟨b, 4, none⟩ v4).setCell ⟨b, 5, none⟩ v5).setCell ⟨b, 6, none⟩ v6).setCell ⟨b, 7, none⟩ v7).setCell ⟨b, 8, none⟩ v8).setCell ⟨b, 9, none⟩ v9).setCell ⟨b, 10, none⟩ v10).tape = w.tape ∧ (((((((((((w.setCell ⟨b, 0, none⟩ v0).setCell ⟨b, 1, none⟩ v1).setCell ⟨b, 2, none⟩ v2).setCell ⟨b, 3, none⟩ v3).setCell ⟨b, 4, none⟩ v4).setCell ⟨b, 5, none⟩ v5).setCell ⟨b, 6, none⟩ v6).setCell ⟨b, 7, none⟩ v7).setCell ⟨b, 8, none⟩ v8).setCell ⟨b, 9, none⟩ v9).setCell ⟨b, 10, none⟩ v10).output = w.output := ⟨by simp only [sc_size], by simp only [sc_os], by simp only [sc_tape], by simp only [sc_out]⟩
set_option maxRecDepth 100000 in
set_option maxHeartbeats 4000000 in
theorem do_2 {w : World} {S : Nat → Prop} {F : Nat} {st : Ct} (h : RepE w S F st) (x : Opc) (A : Option Addr) (d : Nat) (hs : Ss w A x.g.scopes.length d x.g.scopes) (hok : greatO x = false) (hm : MX w) (hd : DG w) (hS0 : ∀ k, S k → 2 ≤ k) (q1 : (x.kind == 1) = false) (q2 : (x.kind == 2) = true) (hr : doC st x = ((red st x.code x.cl x.rd (prv x.ver) x.now).1, ⟨(red st x.code x.cl x.rd (prv x.ver) x.now).2.1, 0, false, false, (red st x.code x.cl x.rd (prv x.ver) x.now).2.2⟩)) :
    Calls Tryz.prog 9 #[.pointer (some ⟨F, 0, none⟩), .agg #[.int .i64 x.kind, .string x.code, .string x.cl, .string x.rd, .string x.ver, .string x.g.user, .string x.g.client, .string x.g.tenant, .string x.g.session, .string x.g.redirect, .string x.g.nonce, .string x.g.challenge, .int .i64 x.g.method, .slice A x.g.scopes.length d, .int .i64 x.g.auth, .int .i64 x.g.level, .int .i64 x.now]] w (DoIs w S F (doC st x)) := by
  obtain ⟨z1, z2, z3, z4, z5, z6, z7⟩ := great_parts hok
  have HH := Lib.hid h
  have HS := Lib.hid hs
  have HM := Lib.hid hm
  have HD := Lib.hid hd
  have HR := Lib.hid hr
  have HZ7 := Lib.hid z7
  have HZ5 := Lib.hid z5
  have HS0 := Lib.hid hS0
  clear h hs hm hr z7 hok hd z5 hS0
  go_enter Tryz.func9, Tryz.ntmps9
  go_upto_region 2 with fail
  obtain ⟨wx, hwx⟩ : ∃ wx, wx = ((w.alloc (.cells #[.int .i64 x.kind, .string x.code, .string x.cl, .string x.rd, .string x.ver, .string x.g.user, .string x.g.client, .string x.g.tenant, .string x.g.session, .string x.g.redirect, .string x.g.nonce, .string x.g.challenge, .int .i64 x.g.method, .slice A x.g.scopes.length d, .int .i64 x.g.auth, .int .i64 x.g.level, .int .i64 x.now] 41)).alloc (.cells #[.string ⟨#[]⟩, .string ⟨#[]⟩, .string ⟨#[]⟩, .string ⟨#[]⟩, .string ⟨#[]⟩, .string ⟨#[]⟩, .string ⟨#[]⟩, .int .i64 0, .slice none 0 0, .int .i64 0, .int .i64 0, .int .i64 0, .bool false, .bool false, .int .i64 0] 38)).alloc (.cells #[.string ⟨#[]⟩, .string ⟨#[]⟩, .string ⟨#[]⟩, .string ⟨#[]⟩, .string ⟨#[]⟩, .string ⟨#[]⟩, .string ⟨#[]⟩, .int .i64 0, .slice none 0 0, .int .i64 0, .int .i64 0, .int .i64 0, .bool false, .bool false, .int .i64 0] 38) := ⟨_, rfl⟩
  rw [← hwx]
  have HBX := Lib.hid (show Below w.heap.size w wx by rw [hwx]; go_grown)
  have HX3 := Lib.hid (show wx.heap[w.heap.size]? = some (.cells #[.int .i64 x.kind, .string x.code, .string x.cl, .string x.rd, .string x.ver, .string x.g.user, .string x.g.client, .string x.g.tenant, .string x.g.session, .string x.g.redirect, .string x.g.nonce, .string x.g.challenge, .int .i64 x.g.method, .slice A x.g.scopes.length d, .int .i64 x.g.auth, .int .i64 x.g.level, .int .i64 x.now] 41 (0, 0)) by rw [hwx]; rw [Below.heap_alloc _ _ _ (by simp; omega), Below.heap_alloc _ _ _ (by simp)]; exact heap_alloc_new _ _)
  have HX4 := Lib.hid (show wx.heap[w.heap.size + 1]? = some (.cells #[.string ⟨#[]⟩, .string ⟨#[]⟩, .string ⟨#[]⟩, .string ⟨#[]⟩, .string ⟨#[]⟩, .string ⟨#[]⟩, .string ⟨#[]⟩, .int .i64 0, .slice none 0 0, .int .i64 0, .int .i64 0, .int .i64 0, .bool false, .bool false, .int .i64 0] 38 (0, 0)) by
    rw [hwx, Below.heap_alloc _ _ _ (by simp)]
    have e : w.heap.size + 1 = (w.alloc (.cells #[.int .i64 x.kind, .string x.code, .string x.cl, .string x.rd, .string x.ver, .string x.g.user, .string x.g.client, .string x.g.tenant, .string x.g.session, .string x.g.redirect, .string x.g.nonce, .string x.g.challenge, .int .i64 x.g.method, .slice A x.g.scopes.length d, .int .i64 x.g.auth, .int .i64 x.g.level, .int .i64 x.now] 41)).heap.size := by simp
    rw [e]; exact heap_alloc_new _ _)
  have HX5 := Lib.hid (show wx.heap[w.heap.size + 2]? = some (.cells #[.string ⟨#[]⟩, .string ⟨#[]⟩, .string ⟨#[]⟩, .string ⟨#[]⟩, .string ⟨#[]⟩, .string ⟨#[]⟩, .string ⟨#[]⟩, .int .i64 0, .slice none 0 0, .int .i64 0, .int .i64 0, .int .i64 0, .bool false, .bool false, .int .i64 0] 38 (0, 0)) by
    rw [hwx]
    have e : w.heap.size + 2 = ((w.alloc (.cells #[.int .i64 x.kind, .string x.code, .string x.cl, .string x.rd, .string x.ver, .string x.g.user, .string x.g.client, .string x.g.tenant, .string x.g.session, .string x.g.redirect, .string x.g.nonce, .string x.g.challenge, .int .i64 x.g.method, .slice A x.g.scopes.length d, .int .i64 x.g.auth, .int .i64 x.g.level, .int .i64 x.now] 41)).alloc (.cells #[.string ⟨#[]⟩, .string ⟨#[]⟩, .string ⟨#[]⟩, .string ⟨#[]⟩, .string ⟨#[]⟩, .string ⟨#[]⟩, .string ⟨#[]⟩, .int .i64 0, .slice none 0 0, .int .i64 0, .int .i64 0, .int .i64 0, .bool false, .bool false, .int .i64 0] 38)).heap.size := by simp
    rw [e]; exact heap_alloc_new _ _)
  have HHX := Lib.hid (HH.out.below HBX.out)
  have HLT := Lib.hid HH.out.lt
  clear hwx
  have x0 := cell_block HX3.out 0
  have x1 := cell_block HX3.out 1
  have x2 := cell_block HX3.out 2
  have x3 := cell_block HX3.out 3
  have x4 := cell_block HX3.out 4
  have x16 := cell_block HX3.out 16
  simp only [List.getElem?_toArray, List.getElem?_cons_zero, List.getElem?_cons_succ] at x0 x1 x2 x3 x4 x16
  have HPV := Lib.hid (fun (i : Nat) (y : Cd) (A : Option Addr) (n d : Nat) (w1 : World) (hy : st.l[i]? = some y) (hk : ∀ k, k < wx.heap.size → ¬ S k → w1.heap[k]? = wx.heap[k]?) => prv_any y.g (HH.out.inv.fr y (List.mem_of_getElem? hy)) A n d x.ver w1 (by omega) (show DG w1 from fun j hj => by
    have h0 := HD.out.below HBX.out
    rw [World.cell?_of_block (w := wx) (hk 0 (World.block_lt_of_cell? wx _ (h0 0 (by omega))) (fun e => by have := HS0.out 0 e; omega))]
    exact h0 j hj))
  go_wp2_with fail
  have hcall := red_any HHX.out x.code x.cl x.rd x.ver x.now (by omega) (prv x.ver) HPV.out
  have HDO := Lib.hid HR.out
  generalize hrv : red st x.code x.cl x.rd (prv x.ver) x.now = r at *
  refine hcall.mono ?_
  clear hcall hrv
  rintro e w1 ⟨B, d', rfl, hss, hfr, hr1, hm1⟩
  have hr1 := ref_grow wx hr1
  have HFR := Lib.hid hfr
  have HSS := Lib.hid hss
  have HR1 := Lib.hid hr1
  have HM1 := Lib.hid hm1
  clear hss hfr hr1 hm1
  have HX41 := Lib.hid ((HM1.out.block (w.heap.size + 1) (blk_lt HX4.out) (fun e => by have := HLT.out _ e; omega)).trans HX4.out)
  have HX51 := Lib.hid ((HM1.out.block (w.heap.size + 2) (blk_lt HX5.out) (fun e => by have := HLT.out _ e; omega)).trans HX5.out)
  have x0z : w1.cell? ⟨w.heap.size + 1 + 1, 0, none⟩ = some (.string ⟨#[]⟩) := cell_block HX51.out 0
  have f0z : w1.frozen? ⟨w.heap.size + 1 + 1, 0, none⟩ = false := by have : w1.heap[w.heap.size + 1 + 1]? = _ := HX51.out; simp only [World.frozen?, this]; rfl
  have x1z : w1.cell? ⟨w.heap.size + 1 + 1, 1, none⟩ = some (.string ⟨#[]⟩) := cell_block HX51.out 1
  have f1z : w1.frozen? ⟨w.heap.size + 1 + 1, 1, none⟩ = false := by have : w1.heap[w.heap.size + 1 + 1]? = _ := HX51.out; simp only [World.frozen?, this]; rfl
  have x2z : w1.cell? ⟨w.heap.size + 1 + 1, 2, none⟩ = some (.string ⟨#[]⟩) := cell_block HX51.out 2
  have f2z : w1.frozen? ⟨w.heap.size + 1 + 1, 2, none⟩ = false := by have : w1.heap[w.heap.size + 1 + 1]? = _ := HX51.out; simp only [World.frozen?, this]; rfl
  have x3z : w1.cell? ⟨w.heap.size + 1 + 1, 3, none⟩ = some (.string ⟨#[]⟩) := cell_block HX51.out 3
  have f3z : w1.frozen? ⟨w.heap.size + 1 + 1, 3, none⟩ = false := by have : w1.heap[w.heap.size + 1 + 1]? = _ := HX51.out; simp only [World.frozen?, this]; rfl
  have x4z : w1.cell? ⟨w.heap.size + 1 + 1, 4, none⟩ = some (.string ⟨#[]⟩) := cell_block HX51.out 4
  have f4z : w1.frozen? ⟨w.heap.size + 1 + 1, 4, none⟩ = false := by have : w1.heap[w.heap.size + 1 + 1]? = _ := HX51.out; simp only [World.frozen?, this]; rfl
  have x5z : w1.cell? ⟨w.heap.size + 1 + 1, 5, none⟩ = some (.string ⟨#[]⟩) := cell_block HX51.out 5
  have f5z : w1.frozen? ⟨w.heap.size + 1 + 1, 5, none⟩ = false := by have : w1.heap[w.heap.size + 1 + 1]? = _ := HX51.out; simp only [World.frozen?, this]; rfl
  have x6z : w1.cell? ⟨w.heap.size + 1 + 1, 6, none⟩ = some (.string ⟨#[]⟩) := cell_block HX51.out 6
  have f6z : w1.frozen? ⟨w.heap.size + 1 + 1, 6, none⟩ = false := by have : w1.heap[w.heap.size + 1 + 1]? = _ := HX51.out; simp only [World.frozen?, this]; rfl
  have x7z : w1.cell? ⟨w.heap.size + 1 + 1, 7, none⟩ = some (.int .i64 0) := cell_block HX51.out 7
  have f7z : w1.frozen? ⟨w.heap.size + 1 + 1, 7, none⟩ = false := by have : w1.heap[w.heap.size + 1 + 1]? = _ := HX51.out; simp only [World.frozen?, this]; rfl
  have x8z : w1.cell? ⟨w.heap.size + 1 + 1, 8, none⟩ = some (.slice none 0 0) := cell_block HX51.out 8
  have f8z : w1.frozen? ⟨w.heap.size + 1 + 1, 8, none⟩ = false := by have : w1.heap[w.heap.size + 1 + 1]? = _ := HX51.out; simp only [World.frozen?, this]; rfl
  have x9z : w1.cell? ⟨w.heap.size + 1 + 1, 9, none⟩ = some (.int .i64 0) := cell_block HX51.out 9
  have f9z : w1.frozen? ⟨w.heap.size + 1 + 1, 9, none⟩ = false := by have : w1.heap[w.heap.size + 1 + 1]? = _ := HX51.out; simp only [World.frozen?, this]; rfl
  have x10z : w1.cell? ⟨w.heap.size + 1 + 1, 10, none⟩ = some (.int .i64 0) := cell_block HX51.out 10
  have f10z : w1.frozen? ⟨w.heap.size + 1 + 1, 10, none⟩ = false := by have : w1.heap[w.heap.size + 1 + 1]? = _ := HX51.out; simp only [World.frozen?, this]; rfl
  have x14z : w1.cell? ⟨w.heap.size + 1 + 1, 14, none⟩ = some (.int .i64 0) := cell_block HX51.out 14
  have f14z : w1.frozen? ⟨w.heap.size + 1 + 1, 14, none⟩ = false := by have : w1.heap[w.heap.size + 1 + 1]? = _ := HX51.out; simp only [World.frozen?, this]; rfl
  go_upto_region 17 with fail
  obtain ⟨w2, hw2⟩ : ∃ w2, w2 = (((((((((((w1.setCell ⟨w.heap.size + 1 + 1, 0, none⟩ (.string r.2.1.user)).setCell ⟨w.heap.size + 1 + 1, 1, none⟩ (.string r.2.1.client)).setCell ⟨w.heap.size + 1 + 1, 2, none⟩ (.string r.2.1.tenant)).setCell ⟨w.heap.size + 1 + 1, 3, none⟩ (.string r.2.1.session)).setCell ⟨w.heap.size + 1 + 1, 4, none⟩ (.string r.2.1.redirect)).setCell ⟨w.heap.size + 1 + 1, 5, none⟩ (.string r.2.1.nonce)).setCell ⟨w.heap.size + 1 + 1, 6, none⟩ (.string r.2.1.challenge)).setCell ⟨w.heap.size + 1 + 1, 7, none⟩ (.int .i64 r.2.1.method)).setCell ⟨w.heap.size + 1 + 1, 8, none⟩ (.slice B r.2.1.scopes.length d')).setCell ⟨w.heap.size + 1 + 1, 9, none⟩ (.int .i64 r.2.1.auth)).setCell ⟨w.heap.size + 1 + 1, 10, none⟩ (.int .i64 r.2.1.level)) := ⟨_, rfl⟩
  rw [← hw2]
  have HX51b : w1.heap[w.heap.size + 1 + 1]? = some (.cells #[.string ⟨#[]⟩, .string ⟨#[]⟩, .string ⟨#[]⟩, .string ⟨#[]⟩, .string ⟨#[]⟩, .string ⟨#[]⟩, .string ⟨#[]⟩, .int .i64 0, .slice none 0 0, .int .i64 0, .int .i64 0, .int .i64 0, .bool false, .bool false, .int .i64 0] 38 (0, 0)) := HX51.out
  have HX52 := Lib.hid (show w2.heap[w.heap.size + 1 + 1]? = some (.cells #[.string r.2.1.user, .string r.2.1.client, .string r.2.1.tenant, .string r.2.1.session, .string r.2.1.redirect, .string r.2.1.nonce, .string r.2.1.challenge, .int .i64 r.2.1.method, .slice B r.2.1.scopes.length d', .int .i64 r.2.1.auth, .int .i64 r.2.1.level, .int .i64 0, .bool false, .bool false, .int .i64 0] 38 (0, 0)) from (by rw [hw2]; exact nest_block HX51b))
  have HK2 := Lib.hid (show ∀ k, k ≠ w.heap.size + 1 + 1 → w2.heap[k]? = w1.heap[k]? from fun k hk => (by rw [hw2]; exact nest_other k hk))
  have HZ2 := Lib.hid (show w2.heap.size = w1.heap.size ∧ w2.os = w1.os ∧ w2.tape = w1.tape ∧ w2.output = w1.output from (by rw [hw2]; exact nest_size))
  clear hw2 HX51b x0z f0z x1z f1z x2z f2z x3z f3z x4z f4z x5z f5z x6z f6z x7z f7z x8z f8z x9z f9z x10z f10z x14z f14z
  obtain ⟨wz, hwz⟩ : ∃ wz, wz = w2.setCell ⟨w.heap.size + 1 + 1, 14, none⟩ (.int .i64 r.2.2) := ⟨_, rfl⟩
  rw [← hwz]
  have HT5 := Lib.hid (show wz.heap[w.heap.size + 2]? = some (.cells #[.string r.2.1.user, .string r.2.1.client, .string r.2.1.tenant, .string r.2.1.session, .string r.2.1.redirect, .string r.2.1.nonce, .string r.2.1.challenge, .int .i64 r.2.1.method, .slice B r.2.1.scopes.length d', .int .i64 r.2.1.auth, .int .i64 r.2.1.level, .int .i64 0, .bool false, .bool false, .int .i64 r.2.2] 38 (0, 0)) by rw [hwz]; exact heap_setCell_same _ _ 14 _ _ _ HX52.out)
  have HT4 := Lib.hid (show wz.heap[w.heap.size + 1]? = some (.cells #[.string ⟨#[]⟩, .string ⟨#[]⟩, .string ⟨#[]⟩, .string ⟨#[]⟩, .string ⟨#[]⟩, .string ⟨#[]⟩, .string ⟨#[]⟩, .int .i64 0, .slice none 0 0, .int .i64 0, .int .i64 0, .int .i64 0, .bool false, .bool false, .int .i64 0] 38 (0, 0)) by rw [hwz]; exact ((Below.heap_setCell _ _ _ _ (by simp)).trans (HK2.out (w.heap.size + 1) (by omega))).trans HX41.out)
  have HKZ := Lib.hid (show ∀ k, k ≠ w.heap.size + 2 → wz.heap[k]? = w1.heap[k]? from fun k hk => by rw [hwz]; exact (Below.heap_setCell _ _ _ _ hk).trans (HK2.out k hk))
  have HZZ := Lib.hid (show wz.heap.size = w1.heap.size ∧ wz.os = w1.os ∧ wz.tape = w1.tape ∧ wz.output = w1.output by rw [hwz]; exact ⟨by simp [World.setCell, HZ2.out.1], HZ2.out.2.1, HZ2.out.2.2.1, HZ2.out.2.2.2⟩)
  clear hwz
  have u0 := cell_block HT5.out 0
  have u1 := cell_block HT5.out 1
  have u2 := cell_block HT5.out 2
  have u3 := cell_block HT5.out 3
  have u4 := cell_block HT5.out 4
  have u5 := cell_block HT5.out 5
  have u6 := cell_block HT5.out 6
  have u7 := cell_block HT5.out 7
  have u8 := cell_block HT5.out 8
  have u9 := cell_block HT5.out 9
  have u10 := cell_block HT5.out 10
  have u11 := cell_block HT5.out 11
  have u12 := cell_block HT5.out 12
  have u13 := cell_block HT5.out 13
  have u14 := cell_block HT5.out 14
  simp only [List.getElem?_toArray, List.getElem?_cons_zero, List.getElem?_cons_succ] at u0 u1 u2 u3 u4 u5 u6 u7 u8 u9 u10 u11 u12 u13 u14
  go_wp2_with (refine wpList_store_row rfl 38 (.tmp 4) (.tmp 92) rfl (w.heap.size + 1) #[.string r.2.1.user, .string r.2.1.client, .string r.2.1.tenant, .string r.2.1.session, .string r.2.1.redirect, .string r.2.1.nonce, .string r.2.1.challenge, .int .i64 r.2.1.method, .slice B r.2.1.scopes.length d', .int .i64 r.2.1.auth, .int .i64 r.2.1.level, .int .i64 0, .bool false, .bool false, .int .i64 r.2.2] rfl rfl 38 _ HT4.out (by kernel_rfl) rfl (by simp [Value.oneCell']) ?_)
  obtain ⟨y0, y1, y2, y3, y4, y5, y6, y7, y8, y9, y10, y11, y12, y13, y14⟩ := cells15 (setRow_heap wz (w.heap.size + 1) _ #[.string r.2.1.user, .string r.2.1.client, .string r.2.1.tenant, .string r.2.1.session, .string r.2.1.redirect, .string r.2.1.nonce, .string r.2.1.challenge, .int .i64 r.2.1.method, .slice B r.2.1.scopes.length d', .int .i64 r.2.1.auth, .int .i64 r.2.1.level, .int .i64 0, .bool false, .bool false, .int .i64 r.2.2] _ _ HT4.out)
  refine bodyPost_ret (v := .agg #[.string r.2.1.user, .string r.2.1.client, .string r.2.1.tenant, .string r.2.1.session, .string r.2.1.redirect, .string r.2.1.nonce, .string r.2.1.challenge, .int .i64 r.2.1.method, .slice B r.2.1.scopes.length d', .int .i64 r.2.1.auth, .int .i64 r.2.1.level, .int .i64 0, .bool false, .bool false, .int .i64 r.2.2]) (by simp [results, Tryz.results9, go_sem, y0, y1, y2, y3, y4, y5, y6, y7, y8, y9, y10, y11, y12, y13, y14]) rfl ?_
  rw [HDO.out]
  exact do_pass (r := (r.1, ⟨r.2.1, 0, false, false, r.2.2⟩)) HBX.out HSS.out HFR.out HR1.out HM1.out HLT.out (blk_lt HX5.out) (fun k _ hn1 hn2 => (setRow_other _ _ _ _ hn1).trans (HKZ.out k hn2)) (by rw [setRow_size, HZZ.out.1]; exact Nat.le_refl _) HZZ.out.2.1 HZZ.out.2.2.1 HZZ.out.2.2.2
set_option maxRecDepth 100000 in
set_option maxHeartbeats 4000000 in
theorem do_3 {w : World} {S : Nat → Prop} {F : Nat} {st : Ct} (h : RepE w S F st) (x : Opc) (A : Option Addr) (d : Nat) (hs : Ss w A x.g.scopes.length d x.g.scopes) (hok : greatO x = false) (hm : MX w) (hd : DG w) (hS0 : ∀ k, S k → 2 ≤ k) (q1 : (x.kind == 1) = false) (q2 : (x.kind == 2) = false) (q3 : (x.kind == 3) = true) (hr : doC st x = ((red st x.code x.g.client x.g.redirect (prv x.ver) x.now).1, ⟨(red st x.code x.g.client x.g.redirect (prv x.ver) x.now).2.1, 0, false, false, (red st x.code x.g.client x.g.redirect (prv x.ver) x.now).2.2⟩)) :
    Calls Tryz.prog 9 #[.pointer (some ⟨F, 0, none⟩), .agg #[.int .i64 x.kind, .string x.code, .string x.cl, .string x.rd, .string x.ver, .string x.g.user, .string x.g.client, .string x.g.tenant, .string x.g.session, .string x.g.redirect, .string x.g.nonce, .string x.g.challenge, .int .i64 x.g.method, .slice A x.g.scopes.length d, .int .i64 x.g.auth, .int .i64 x.g.level, .int .i64 x.now]] w (DoIs w S F (doC st x)) := by
  obtain ⟨z1, z2, z3, z4, z5, z6, z7⟩ := great_parts hok
  have HH := Lib.hid h
  have HS := Lib.hid hs
  have HM := Lib.hid hm
  have HD := Lib.hid hd
  have HR := Lib.hid hr
  have HZ7 := Lib.hid z7
  have HZ5 := Lib.hid z5
  have HS0 := Lib.hid hS0
  clear h hs hm hr z7 hok hd z5 hS0
  go_enter Tryz.func9, Tryz.ntmps9
  go_upto_region 2 with fail
  obtain ⟨wx, hwx⟩ : ∃ wx, wx = ((w.alloc (.cells #[.int .i64 x.kind, .string x.code, .string x.cl, .string x.rd, .string x.ver, .string x.g.user, .string x.g.client, .string x.g.tenant, .string x.g.session, .string x.g.redirect, .string x.g.nonce, .string x.g.challenge, .int .i64 x.g.method, .slice A x.g.scopes.length d, .int .i64 x.g.auth, .int .i64 x.g.level, .int .i64 x.now] 41)).alloc (.cells #[.string ⟨#[]⟩, .string ⟨#[]⟩, .string ⟨#[]⟩, .string ⟨#[]⟩, .string ⟨#[]⟩, .string ⟨#[]⟩, .string ⟨#[]⟩, .int .i64 0, .slice none 0 0, .int .i64 0, .int .i64 0, .int .i64 0, .bool false, .bool false, .int .i64 0] 38)).alloc (.cells #[.string ⟨#[]⟩, .string ⟨#[]⟩, .string ⟨#[]⟩, .string ⟨#[]⟩, .string ⟨#[]⟩, .string ⟨#[]⟩, .string ⟨#[]⟩, .int .i64 0, .slice none 0 0, .int .i64 0, .int .i64 0, .int .i64 0, .bool false, .bool false, .int .i64 0] 38) := ⟨_, rfl⟩
  rw [← hwx]
  have HBX := Lib.hid (show Below w.heap.size w wx by rw [hwx]; go_grown)
  have HX3 := Lib.hid (show wx.heap[w.heap.size]? = some (.cells #[.int .i64 x.kind, .string x.code, .string x.cl, .string x.rd, .string x.ver, .string x.g.user, .string x.g.client, .string x.g.tenant, .string x.g.session, .string x.g.redirect, .string x.g.nonce, .string x.g.challenge, .int .i64 x.g.method, .slice A x.g.scopes.length d, .int .i64 x.g.auth, .int .i64 x.g.level, .int .i64 x.now] 41 (0, 0)) by rw [hwx]; rw [Below.heap_alloc _ _ _ (by simp; omega), Below.heap_alloc _ _ _ (by simp)]; exact heap_alloc_new _ _)
  have HX4 := Lib.hid (show wx.heap[w.heap.size + 1]? = some (.cells #[.string ⟨#[]⟩, .string ⟨#[]⟩, .string ⟨#[]⟩, .string ⟨#[]⟩, .string ⟨#[]⟩, .string ⟨#[]⟩, .string ⟨#[]⟩, .int .i64 0, .slice none 0 0, .int .i64 0, .int .i64 0, .int .i64 0, .bool false, .bool false, .int .i64 0] 38 (0, 0)) by
    rw [hwx, Below.heap_alloc _ _ _ (by simp)]
    have e : w.heap.size + 1 = (w.alloc (.cells #[.int .i64 x.kind, .string x.code, .string x.cl, .string x.rd, .string x.ver, .string x.g.user, .string x.g.client, .string x.g.tenant, .string x.g.session, .string x.g.redirect, .string x.g.nonce, .string x.g.challenge, .int .i64 x.g.method, .slice A x.g.scopes.length d, .int .i64 x.g.auth, .int .i64 x.g.level, .int .i64 x.now] 41)).heap.size := by simp
    rw [e]; exact heap_alloc_new _ _)
  have HX5 := Lib.hid (show wx.heap[w.heap.size + 2]? = some (.cells #[.string ⟨#[]⟩, .string ⟨#[]⟩, .string ⟨#[]⟩, .string ⟨#[]⟩, .string ⟨#[]⟩, .string ⟨#[]⟩, .string ⟨#[]⟩, .int .i64 0, .slice none 0 0, .int .i64 0, .int .i64 0, .int .i64 0, .bool false, .bool false, .int .i64 0] 38 (0, 0)) by
    rw [hwx]
    have e : w.heap.size + 2 = ((w.alloc (.cells #[.int .i64 x.kind, .string x.code, .string x.cl, .string x.rd, .string x.ver, .string x.g.user, .string x.g.client, .string x.g.tenant, .string x.g.session, .string x.g.redirect, .string x.g.nonce, .string x.g.challenge, .int .i64 x.g.method, .slice A x.g.scopes.length d, .int .i64 x.g.auth, .int .i64 x.g.level, .int .i64 x.now] 41)).alloc (.cells #[.string ⟨#[]⟩, .string ⟨#[]⟩, .string ⟨#[]⟩, .string ⟨#[]⟩, .string ⟨#[]⟩, .string ⟨#[]⟩, .string ⟨#[]⟩, .int .i64 0, .slice none 0 0, .int .i64 0, .int .i64 0, .int .i64 0, .bool false, .bool false, .int .i64 0] 38)).heap.size := by simp
    rw [e]; exact heap_alloc_new _ _)
  have HHX := Lib.hid (HH.out.below HBX.out)
  have HLT := Lib.hid HH.out.lt
  clear hwx
  have x0 := cell_block HX3.out 0
  have x1 := cell_block HX3.out 1
  have x4 := cell_block HX3.out 4
  have x6 := cell_block HX3.out 6
  have x9 := cell_block HX3.out 9
  have x16 := cell_block HX3.out 16
  simp only [List.getElem?_toArray, List.getElem?_cons_zero, List.getElem?_cons_succ] at x0 x1 x4 x6 x9 x16
  have HPV := Lib.hid (fun (i : Nat) (y : Cd) (A : Option Addr) (n d : Nat) (w1 : World) (hy : st.l[i]? = some y) (hk : ∀ k, k < wx.heap.size → ¬ S k → w1.heap[k]? = wx.heap[k]?) => prv_any y.g (HH.out.inv.fr y (List.mem_of_getElem? hy)) A n d x.ver w1 (by omega) (show DG w1 from fun j hj => by
    have h0 := HD.out.below HBX.out
    rw [World.cell?_of_block (w := wx) (hk 0 (World.block_lt_of_cell? wx _ (h0 0 (by omega))) (fun e => by have := HS0.out 0 e; omega))]
    exact h0 j hj))
  go_wp2_with fail
  have hcall := red_any HHX.out x.code x.g.client x.g.redirect x.ver x.now (by omega) (prv x.ver) HPV.out
  have HDO := Lib.hid HR.out
  generalize hrv : red st x.code x.g.client x.g.redirect (prv x.ver) x.now = r at *
  refine hcall.mono ?_
  clear hcall hrv
  rintro e w1 ⟨B, d', rfl, hss, hfr, hr1, hm1⟩
  have hr1 := ref_grow wx hr1
  have HFR := Lib.hid hfr
  have HSS := Lib.hid hss
  have HR1 := Lib.hid hr1
  have HM1 := Lib.hid hm1
  clear hss hfr hr1 hm1
  have HX41 := Lib.hid ((HM1.out.block (w.heap.size + 1) (blk_lt HX4.out) (fun e => by have := HLT.out _ e; omega)).trans HX4.out)
  have HX51 := Lib.hid ((HM1.out.block (w.heap.size + 2) (blk_lt HX5.out) (fun e => by have := HLT.out _ e; omega)).trans HX5.out)
  have x0z : w1.cell? ⟨w.heap.size + 1 + 1, 0, none⟩ = some (.string ⟨#[]⟩) := cell_block HX51.out 0
  have f0z : w1.frozen? ⟨w.heap.size + 1 + 1, 0, none⟩ = false := by have : w1.heap[w.heap.size + 1 + 1]? = _ := HX51.out; simp only [World.frozen?, this]; rfl
  have x1z : w1.cell? ⟨w.heap.size + 1 + 1, 1, none⟩ = some (.string ⟨#[]⟩) := cell_block HX51.out 1
  have f1z : w1.frozen? ⟨w.heap.size + 1 + 1, 1, none⟩ = false := by have : w1.heap[w.heap.size + 1 + 1]? = _ := HX51.out; simp only [World.frozen?, this]; rfl
  have x2z : w1.cell? ⟨w.heap.size + 1 + 1, 2, none⟩ = some (.string ⟨#[]⟩) := cell_block HX51.out 2
  have f2z : w1.frozen? ⟨w.heap.size + 1 + 1, 2, none⟩ = false := by have : w1.heap[w.heap.size + 1 + 1]? = _ := HX51.out; simp only [World.frozen?, this]; rfl
  have x3z : w1.cell? ⟨w.heap.size + 1 + 1, 3, none⟩ = some (.string ⟨#[]⟩) := cell_block HX51.out 3
  have f3z : w1.frozen? ⟨w.heap.size + 1 + 1, 3, none⟩ = false := by have : w1.heap[w.heap.size + 1 + 1]? = _ := HX51.out; simp only [World.frozen?, this]; rfl
  have x4z : w1.cell? ⟨w.heap.size + 1 + 1, 4, none⟩ = some (.string ⟨#[]⟩) := cell_block HX51.out 4
  have f4z : w1.frozen? ⟨w.heap.size + 1 + 1, 4, none⟩ = false := by have : w1.heap[w.heap.size + 1 + 1]? = _ := HX51.out; simp only [World.frozen?, this]; rfl
  have x5z : w1.cell? ⟨w.heap.size + 1 + 1, 5, none⟩ = some (.string ⟨#[]⟩) := cell_block HX51.out 5
  have f5z : w1.frozen? ⟨w.heap.size + 1 + 1, 5, none⟩ = false := by have : w1.heap[w.heap.size + 1 + 1]? = _ := HX51.out; simp only [World.frozen?, this]; rfl
  have x6z : w1.cell? ⟨w.heap.size + 1 + 1, 6, none⟩ = some (.string ⟨#[]⟩) := cell_block HX51.out 6
  have f6z : w1.frozen? ⟨w.heap.size + 1 + 1, 6, none⟩ = false := by have : w1.heap[w.heap.size + 1 + 1]? = _ := HX51.out; simp only [World.frozen?, this]; rfl
  have x7z : w1.cell? ⟨w.heap.size + 1 + 1, 7, none⟩ = some (.int .i64 0) := cell_block HX51.out 7
  have f7z : w1.frozen? ⟨w.heap.size + 1 + 1, 7, none⟩ = false := by have : w1.heap[w.heap.size + 1 + 1]? = _ := HX51.out; simp only [World.frozen?, this]; rfl
  have x8z : w1.cell? ⟨w.heap.size + 1 + 1, 8, none⟩ = some (.slice none 0 0) := cell_block HX51.out 8
  have f8z : w1.frozen? ⟨w.heap.size + 1 + 1, 8, none⟩ = false := by have : w1.heap[w.heap.size + 1 + 1]? = _ := HX51.out; simp only [World.frozen?, this]; rfl
  have x9z : w1.cell? ⟨w.heap.size + 1 + 1, 9, none⟩ = some (.int .i64 0) := cell_block HX51.out 9
  have f9z : w1.frozen? ⟨w.heap.size + 1 + 1, 9, none⟩ = false := by have : w1.heap[w.heap.size + 1 + 1]? = _ := HX51.out; simp only [World.frozen?, this]; rfl
  have x10z : w1.cell? ⟨w.heap.size + 1 + 1, 10, none⟩ = some (.int .i64 0) := cell_block HX51.out 10
  have f10z : w1.frozen? ⟨w.heap.size + 1 + 1, 10, none⟩ = false := by have : w1.heap[w.heap.size + 1 + 1]? = _ := HX51.out; simp only [World.frozen?, this]; rfl
  have x14z : w1.cell? ⟨w.heap.size + 1 + 1, 14, none⟩ = some (.int .i64 0) := cell_block HX51.out 14
  have f14z : w1.frozen? ⟨w.heap.size + 1 + 1, 14, none⟩ = false := by have : w1.heap[w.heap.size + 1 + 1]? = _ := HX51.out; simp only [World.frozen?, this]; rfl
  go_upto_region 17 with fail
  obtain ⟨w2, hw2⟩ : ∃ w2, w2 = (((((((((((w1.setCell ⟨w.heap.size + 1 + 1, 0, none⟩ (.string r.2.1.user)).setCell ⟨w.heap.size + 1 + 1, 1, none⟩ (.string r.2.1.client)).setCell ⟨w.heap.size + 1 + 1, 2, none⟩ (.string r.2.1.tenant)).setCell ⟨w.heap.size + 1 + 1, 3, none⟩ (.string r.2.1.session)).setCell ⟨w.heap.size + 1 + 1, 4, none⟩ (.string r.2.1.redirect)).setCell ⟨w.heap.size + 1 + 1, 5, none⟩ (.string r.2.1.nonce)).setCell ⟨w.heap.size + 1 + 1, 6, none⟩ (.string r.2.1.challenge)).setCell ⟨w.heap.size + 1 + 1, 7, none⟩ (.int .i64 r.2.1.method)).setCell ⟨w.heap.size + 1 + 1, 8, none⟩ (.slice B r.2.1.scopes.length d')).setCell ⟨w.heap.size + 1 + 1, 9, none⟩ (.int .i64 r.2.1.auth)).setCell ⟨w.heap.size + 1 + 1, 10, none⟩ (.int .i64 r.2.1.level)) := ⟨_, rfl⟩
  rw [← hw2]
  have HX51b : w1.heap[w.heap.size + 1 + 1]? = some (.cells #[.string ⟨#[]⟩, .string ⟨#[]⟩, .string ⟨#[]⟩, .string ⟨#[]⟩, .string ⟨#[]⟩, .string ⟨#[]⟩, .string ⟨#[]⟩, .int .i64 0, .slice none 0 0, .int .i64 0, .int .i64 0, .int .i64 0, .bool false, .bool false, .int .i64 0] 38 (0, 0)) := HX51.out
  have HX52 := Lib.hid (show w2.heap[w.heap.size + 1 + 1]? = some (.cells #[.string r.2.1.user, .string r.2.1.client, .string r.2.1.tenant, .string r.2.1.session, .string r.2.1.redirect, .string r.2.1.nonce, .string r.2.1.challenge, .int .i64 r.2.1.method, .slice B r.2.1.scopes.length d', .int .i64 r.2.1.auth, .int .i64 r.2.1.level, .int .i64 0, .bool false, .bool false, .int .i64 0] 38 (0, 0)) from (by rw [hw2]; exact nest_block HX51b))
  have HK2 := Lib.hid (show ∀ k, k ≠ w.heap.size + 1 + 1 → w2.heap[k]? = w1.heap[k]? from fun k hk => (by rw [hw2]; exact nest_other k hk))
  have HZ2 := Lib.hid (show w2.heap.size = w1.heap.size ∧ w2.os = w1.os ∧ w2.tape = w1.tape ∧ w2.output = w1.output from (by rw [hw2]; exact nest_size))
  clear hw2 HX51b x0z f0z x1z f1z x2z f2z x3z f3z x4z f4z x5z f5z x6z f6z x7z f7z x8z f8z x9z f9z x10z f10z x14z f14z
  obtain ⟨wz, hwz⟩ : ∃ wz, wz = w2.setCell ⟨w.heap.size + 1 + 1, 14, none⟩ (.int .i64 r.2.2) := ⟨_, rfl⟩
  rw [← hwz]
  have HT5 := Lib.hid (show wz.heap[w.heap.size + 2]? = some (.cells #[.string r.2.1.user, .string r.2.1.client, .string r.2.1.tenant, .string r.2.1.session, .string r.2.1.redirect, .string r.2.1.nonce, .string r.2.1.challenge, .int .i64 r.2.1.method, .slice B r.2.1.scopes.length d', .int .i64 r.2.1.auth, .int .i64 r.2.1.level, .int .i64 0, .bool false, .bool false, .int .i64 r.2.2] 38 (0, 0)) by rw [hwz]; exact heap_setCell_same _ _ 14 _ _ _ HX52.out)
  have HT4 := Lib.hid (show wz.heap[w.heap.size + 1]? = some (.cells #[.string ⟨#[]⟩, .string ⟨#[]⟩, .string ⟨#[]⟩, .string ⟨#[]⟩, .string ⟨#[]⟩, .string ⟨#[]⟩, .string ⟨#[]⟩, .int .i64 0, .slice none 0 0, .int .i64 0, .int .i64 0, .int .i64 0, .bool false, .bool false, .int .i64 0] 38 (0, 0)) by rw [hwz]; exact ((Below.heap_setCell _ _ _ _ (by simp)).trans (HK2.out (w.heap.size + 1) (by omega))).trans HX41.out)
  have HKZ := Lib.hid (show ∀ k, k ≠ w.heap.size + 2 → wz.heap[k]? = w1.heap[k]? from fun k hk => by rw [hwz]; exact (Below.heap_setCell _ _ _ _ hk).trans (HK2.out k hk))
  have HZZ := Lib.hid (show wz.heap.size = w1.heap.size ∧ wz.os = w1.os ∧ wz.tape = w1.tape ∧ wz.output = w1.output by rw [hwz]; exact ⟨by simp [World.setCell, HZ2.out.1], HZ2.out.2.1, HZ2.out.2.2.1, HZ2.out.2.2.2⟩)
  clear hwz
  have u0 := cell_block HT5.out 0
  have u1 := cell_block HT5.out 1
  have u2 := cell_block HT5.out 2
  have u3 := cell_block HT5.out 3
  have u4 := cell_block HT5.out 4
  have u5 := cell_block HT5.out 5
  have u6 := cell_block HT5.out 6
  have u7 := cell_block HT5.out 7
  have u8 := cell_block HT5.out 8
  have u9 := cell_block HT5.out 9
  have u10 := cell_block HT5.out 10
  have u11 := cell_block HT5.out 11
  have u12 := cell_block HT5.out 12
  have u13 := cell_block HT5.out 13
  have u14 := cell_block HT5.out 14
  simp only [List.getElem?_toArray, List.getElem?_cons_zero, List.getElem?_cons_succ] at u0 u1 u2 u3 u4 u5 u6 u7 u8 u9 u10 u11 u12 u13 u14
  go_wp2_with (refine wpList_store_row rfl 38 (.tmp 4) (.tmp 92) rfl (w.heap.size + 1) #[.string r.2.1.user, .string r.2.1.client, .string r.2.1.tenant, .string r.2.1.session, .string r.2.1.redirect, .string r.2.1.nonce, .string r.2.1.challenge, .int .i64 r.2.1.method, .slice B r.2.1.scopes.length d', .int .i64 r.2.1.auth, .int .i64 r.2.1.level, .int .i64 0, .bool false, .bool false, .int .i64 r.2.2] rfl rfl 38 _ HT4.out (by kernel_rfl) rfl (by simp [Value.oneCell']) ?_)
  obtain ⟨y0, y1, y2, y3, y4, y5, y6, y7, y8, y9, y10, y11, y12, y13, y14⟩ := cells15 (setRow_heap wz (w.heap.size + 1) _ #[.string r.2.1.user, .string r.2.1.client, .string r.2.1.tenant, .string r.2.1.session, .string r.2.1.redirect, .string r.2.1.nonce, .string r.2.1.challenge, .int .i64 r.2.1.method, .slice B r.2.1.scopes.length d', .int .i64 r.2.1.auth, .int .i64 r.2.1.level, .int .i64 0, .bool false, .bool false, .int .i64 r.2.2] _ _ HT4.out)
  refine bodyPost_ret (v := .agg #[.string r.2.1.user, .string r.2.1.client, .string r.2.1.tenant, .string r.2.1.session, .string r.2.1.redirect, .string r.2.1.nonce, .string r.2.1.challenge, .int .i64 r.2.1.method, .slice B r.2.1.scopes.length d', .int .i64 r.2.1.auth, .int .i64 r.2.1.level, .int .i64 0, .bool false, .bool false, .int .i64 r.2.2]) (by simp [results, Tryz.results9, go_sem, y0, y1, y2, y3, y4, y5, y6, y7, y8, y9, y10, y11, y12, y13, y14]) rfl ?_
  rw [HDO.out]
  exact do_pass (r := (r.1, ⟨r.2.1, 0, false, false, r.2.2⟩)) HBX.out HSS.out HFR.out HR1.out HM1.out HLT.out (blk_lt HX5.out) (fun k _ hn1 hn2 => (setRow_other _ _ _ _ hn1).trans (HKZ.out k hn2)) (by rw [setRow_size, HZZ.out.1]; exact Nat.le_refl _) HZZ.out.2.1 HZZ.out.2.2.1 HZZ.out.2.2.2
end Go.Proofs.YtioabjniipkncaaGreatDoor.Rc
