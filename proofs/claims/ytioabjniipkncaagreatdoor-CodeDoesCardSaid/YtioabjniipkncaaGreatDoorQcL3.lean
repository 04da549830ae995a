/-
  The statements' model: Redeemed, Attacked; any operation.
-/
import Derived.Test.YtioabjniipkncaaGreatDoorQcL1
namespace Go.Proofs.YtioabjniipkncaaGreatDoor.Rc
open Go.RowKit Go.Proofs.YtioabjniipkncaaGreatDoor.Fo Go.Proofs.YtioabjniipkncaaGreatDoor.Rf Go.Maps

set_option maxRecDepth 100000 in
set_option maxHeartbeats 4000000 in
theorem mo_2 {w : World} {S : Nat → Prop} {F : Nat} {st : Ct} (h : RefE w S F st) (x : Opc) (A : Option Addr) (d : Nat) (hs : Ss w A x.g.scopes.length d x.g.scopes) (hok : greatO x = false) (hm : MX w) (hd : DG w) (hS0 : ∀ k, S k → 2 ≤ k) (q1 : (x.kind == 1) = false) (q2 : (x.kind == 2) = true) (hr : doC st x = ((red st x.code x.cl x.rd (prv x.ver) x.now).1, ⟨(red st x.code x.cl x.rd (prv x.ver) x.now).2.1, 0, false, false, (red st x.code x.cl x.rd (prv x.ver) x.now).2.2⟩)) :
    Calls Tryz.prog 10 #[.pointer (some ⟨F, 0, none⟩), .agg #[.int .i64 x.kind, .string x.code, .string x.cl, .string x.rd, .string x.ver, .string x.g.user, .string x.g.client, .string x.g.tenant, .string x.g.session, .string x.g.redirect, .string x.g.nonce, .string x.g.challenge, .int .i64 x.g.method, .slice A x.g.scopes.length d, .int .i64 x.g.auth, .int .i64 x.g.level, .int .i64 x.now]] w (MoIs w S F (doC st x)) := by
  obtain ⟨z1, z2, z3, z4, z5, z6, z7⟩ := great_parts hok
  have HH := Lib.hid h
  have HS := Lib.hid hs
  have HM := Lib.hid hm
  have HD := Lib.hid hd
  have HR := Lib.hid hr
  have HZ7 := Lib.hid z7
  have HZ5 := Lib.hid z5
  have HS0 := Lib.hid hS0
  clear h hs hm hr z7 hok hd z5 hS0
  go_enter Tryz.func10, Tryz.ntmps10
  go_upto_region 2 with fail
  obtain ⟨wx, hwx⟩ : ∃ wx, wx = ((w.alloc (.cells #[.int .i64 x.kind, .string x.code, .string x.cl, .string x.rd, .string x.ver, .string x.g.user, .string x.g.client, .string x.g.tenant, .string x.g.session, .string x.g.redirect, .string x.g.nonce, .string x.g.challenge, .int .i64 x.g.method, .slice A x.g.scopes.length d, .int .i64 x.g.auth, .int .i64 x.g.level, .int .i64 x.now] 41)).alloc (.cells #[.string ⟨#[]⟩, .string ⟨#[]⟩, .string ⟨#[]⟩, .string ⟨#[]⟩, .string ⟨#[]⟩, .string ⟨#[]⟩, .string ⟨#[]⟩, .int .i64 0, .slice none 0 0, .int .i64 0, .int .i64 0, .int .i64 0, .bool false, .bool false, .int .i64 0] 38)).alloc (.cells #[.string ⟨#[]⟩, .string ⟨#[]⟩, .string ⟨#[]⟩, .string ⟨#[]⟩, .string ⟨#[]⟩, .string ⟨#[]⟩, .string ⟨#[]⟩, .int .i64 0, .slice none 0 0, .int .i64 0, .int .i64 0, .int .i64 0, .bool false, .bool false, .int .i64 0] 38) := ⟨_, rfl⟩
  rw [← hwx]
  have HBX := Lib.hid (show Below w.heap.size w wx by rw [hwx]; go_grown)
  have HX3 := Lib.hid (show wx.heap[w.heap.size]? = some (.cells #[.int .i64 x.kind, .string x.code, .string x.cl, .string x.rd, .string x.ver, .string x.g.user, .string x.g.client, .string x.g.tenant, .string x.g.session, .string x.g.redirect, .string x.g.nonce, .string x.g.challenge, .int .i64 x.g.method, .slice A x.g.scopes.length d, .int .i64 x.g.auth, .int .i64 x.g.level, .int .i64 x.now] 41 (0, 0)) by rw [hwx]; rw [Below.heap_alloc _ _ _ (by simp; omega), Below.heap_alloc _ _ _ (by simp)]; exact heap_alloc_new _ _)
  have HX4 := Lib.hid (show wx.heap[w.heap.size + 1]? = some (.cells #[.string ⟨#[]⟩, .string ⟨#[]⟩, .string ⟨#[]⟩, .string ⟨#[]⟩, .string ⟨#[]⟩, .string ⟨#[]⟩, .string ⟨#[]⟩, .int .i64 0, .slice none 0 0, .int .i64 0, .int .i64 0, .int .i64 0, .bool false, .bool false, .int .i64 0] 38 (0, 0)) by
    rw [hwx, Below.heap_alloc _ _ _ (by simp)]
    have e : w.heap.size + 1 = (w.alloc (.cells #[.int .i64 x.kind, .string x.code, .string x.cl, .string x.rd, .string x.ver, .string x.g.user, .string x.g.client, .string x.g.tenant, .string x.g.session, .string x.g.redirect, .string x.g.nonce, .string x.g.challenge, .int .i64 x.g.method, .slice A x.g.scopes.length d, .int .i64 x.g.auth, .int .i64 x.g.level, .int .i64 x.now] 41)).heap.size := by simp
    rw [e]; exact heap_alloc_new _ _)
  have HX5 := Lib.hid (show wx.heap[w.heap.size + 2]? = some (.cells #[.string ⟨#[]⟩, .string ⟨#[]⟩, .string ⟨#[]⟩, .string ⟨#[]⟩, .string ⟨#[]⟩, .string ⟨#[]⟩, .string ⟨#[]⟩, .int .i64 0, .slice none 0 0, .int .i64 0, .int .i64 0, .int .i64 0, .bool false, .bool false, .int .i64 0] 38 (0, 0)) by
    rw [hwx]
    have e : w.heap.size + 2 = ((w.alloc (.cells #[.int .i64 x.kind, .string x.code, .string x.cl, .string x.rd, .string x.ver, .string x.g.user, .string x.g.client, .string x.g.tenant, .string x.g.session, .string x.g.redirect, .string x.g.nonce, .string x.g.challenge, .int .i64 x.g.method, .slice A x.g.scopes.length d, .int .i64 x.g.auth, .int .i64 x.g.level, .int .i64 x.now] 41)).alloc (.cells #[.string ⟨#[]⟩, .string ⟨#[]⟩, .string ⟨#[]⟩, .string ⟨#[]⟩, .string ⟨#[]⟩, .string ⟨#[]⟩, .string ⟨#[]⟩, .int .i64 0, .slice none 0 0, .int .i64 0, .int .i64 0, .int .i64 0, .bool false, .bool false, .int .i64 0] 38)).heap.size := by simp
    rw [e]; exact heap_alloc_new _ _)
  have HHX := Lib.hid (HH.out.below HBX.out)
  have HLT := Lib.hid HH.out.lt
  clear hwx
  have x0 := cell_block HX3.out 0
  have x1 := cell_block HX3.out 1
  have x2 := cell_block HX3.out 2
  have x3 := cell_block HX3.out 3
  have x4 := cell_block HX3.out 4
  have x16 := cell_block HX3.out 16
  simp only [List.getElem?_toArray, List.getElem?_cons_zero, List.getElem?_cons_succ] at x0 x1 x2 x3 x4 x16
  go_wp2_with fail
  have hcall := rred_any HHX.out x.code x.cl x.rd x.ver x.now (by omega) rfl
  have HDO := Lib.hid HR.out
  generalize hrv : red st x.code x.cl x.rd (prv x.ver) x.now = r at *
  refine hcall.mono ?_
  clear hcall hrv
  rintro e w1 ⟨B, d', rfl, hss, hfr, hr1, hm1⟩
  have hr1 := rref_grow wx hr1
  have HFR := Lib.hid hfr
  have HSS := Lib.hid hss
  have HR1 := Lib.hid hr1
  have HM1 := Lib.hid hm1
  clear hss hfr hr1 hm1
  have HX41 := Lib.hid ((HM1.out.block (w.heap.size + 1) (blk_lt HX4.out) (fun e => by have := HLT.out _ e; omega)).trans HX4.out)
  have HX51 := Lib.hid ((HM1.out.block (w.heap.size + 2) (blk_lt HX5.out) (fun e => by have := HLT.out _ e; omega)).trans HX5.out)
  have x0z : w1.cell? ⟨w.heap.size + 1 + 1, 0, none⟩ = some (.string ⟨#[]⟩) := cell_block HX51.out 0
  have f0z : w1.frozen? ⟨w.heap.size + 1 + 1, 0, none⟩ = false := by have : w1.heap[w.heap.size + 1 + 1]? = _ := HX51.out; simp only [World.frozen?, this]; rfl
  have x1z : w1.cell? ⟨w.heap.size + 1 + 1, 1, none⟩ = some (.string ⟨#[]⟩) := cell_block HX51.out 1
  have f1z : w1.frozen? ⟨w.heap.size + 1 + 1, 1, none⟩ = false := by have : w1.heap[w.heap.size + 1 + 1]? = _ := HX51.out; simp only [World.frozen?, this]; rfl
  have x2z : w1.cell? ⟨w.heap.size + 1 + 1, 2, none⟩ = some (.string ⟨#[]⟩) := cell_block HX51.out 2
  have f2z : w1.frozen? ⟨w.heap.size + 1 + 1, 2, none⟩ = false := by have : w1.heap[w.heap.size + 1 + 1]? = _ := HX51.out; simp only [World.frozen?, this]; rfl
  have x3z : w1.cell? ⟨w.heap.size + 1 + 1, 3, none⟩ = some (.string ⟨#[]⟩) := cell_block HX51.out 3
  have f3z : w1.frozen? ⟨w.heap.size + 1 + 1, 3, none⟩ = false := by have : w1.heap[w.heap.size + 1 + 1]? = _ := HX51.out; simp only [World.frozen?, this]; rfl
  have x4z : w1.cell? ⟨w.heap.size + 1 + 1, 4, none⟩ = some (.string ⟨#[]⟩) := cell_block HX51.out 4
  have f4z : w1.frozen? ⟨w.heap.size + 1 + 1, 4, none⟩ = false := by have : w1.heap[w.heap.size + 1 + 1]? = _ := HX51.out; simp only [World.frozen?, this]; rfl
  have x5z : w1.cell? ⟨w.heap.size + 1 + 1, 5, none⟩ = some (.string ⟨#[]⟩) := cell_block HX51.out 5
  have f5z : w1.frozen? ⟨w.heap.size + 1 + 1, 5, none⟩ = false := by have : w1.heap[w.heap.size + 1 + 1]? = _ := HX51.out; simp only [World.frozen?, this]; rfl
  have x6z : w1.cell? ⟨w.heap.size + 1 + 1, 6, none⟩ = some (.string ⟨#[]⟩) := cell_block HX51.out 6
  have f6z : w1.frozen? ⟨w.heap.size + 1 + 1, 6, none⟩ = false := by have : w1.heap[w.heap.size + 1 + 1]? = _ := HX51.out; simp only [World.frozen?, this]; rfl
  have x7z : w1.cell? ⟨w.heap.size + 1 + 1, 7, none⟩ = some (.int .i64 0) := cell_block HX51.out 7
  have f7z : w1.frozen? ⟨w.heap.size + 1 + 1, 7, none⟩ = false := by have : w1.heap[w.heap.size + 1 + 1]? = _ := HX51.out; simp only [World.frozen?, this]; rfl
  have x8z : w1.cell? ⟨w.heap.size + 1 + 1, 8, none⟩ = some (.slice none 0 0) := cell_block HX51.out 8
  have f8z : w1.frozen? ⟨w.heap.size + 1 + 1, 8, none⟩ = false := by have : w1.heap[w.heap.size + 1 + 1]? = _ := HX51.out; simp only [World.frozen?, this]; rfl
  have x9z : w1.cell? ⟨w.heap.size + 1 + 1, 9, none⟩ = some (.int .i64 0) := cell_block HX51.out 9
  have f9z : w1.frozen? ⟨w.heap.size + 1 + 1, 9, none⟩ = false := by have : w1.heap[w.heap.size + 1 + 1]? = _ := HX51.out; simp only [World.frozen?, this]; rfl
  have x10z : w1.cell? ⟨w.heap.size + 1 + 1, 10, none⟩ = some (.int .i64 0) := cell_block HX51.out 10
  have f10z : w1.frozen? ⟨w.heap.size + 1 + 1, 10, none⟩ = false := by have : w1.heap[w.heap.size + 1 + 1]? = _ := HX51.out; simp only [World.frozen?, this]; rfl
  have x14z : w1.cell? ⟨w.heap.size + 1 + 1, 14, none⟩ = some (.int .i64 0) := cell_block HX51.out 14
  have f14z : w1.frozen? ⟨w.heap.size + 1 + 1, 14, none⟩ = false := by have : w1.heap[w.heap.size + 1 + 1]? = _ := HX51.out; simp only [World.frozen?, this]; rfl
  go_upto_region 17 with fail
  obtain ⟨w2, hw2⟩ : ∃ w2, w2 = (((((((((((w1.setCell ⟨w.heap.size + 1 + 1, 0, none⟩ (.string r.2.1.user)).setCell ⟨w.heap.size + 1 + 1, 1, none⟩ (.string r.2.1.client)).setCell ⟨w.heap.size + 1 + 1, 2, none⟩ (.string r.2.1.tenant)).setCell ⟨w.heap.size + 1 + 1, 3, none⟩ (.string r.2.1.session)).setCell ⟨w.heap.size + 1 + 1, 4, none⟩ (.string r.2.1.redirect)).setCell ⟨w.heap.size + 1 + 1, 5, none⟩ (.string r.2.1.nonce)).setCell ⟨w.heap.size + 1 + 1, 6, none⟩ (.string r.2.1.challenge)).setCell ⟨w.heap.size + 1 + 1, 7, none⟩ (.int .i64 r.2.1.method)).setCell ⟨w.heap.size + 1 + 1, 8, none⟩ (.slice B r.2.1.scopes.length d')).setCell ⟨w.heap.size + 1 + 1, 9, none⟩ (.int .i64 r.2.1.auth)).setCell ⟨w.heap.size + 1 + 1, 10, none⟩ (.int .i64 r.2.1.level)) := ⟨_, rfl⟩
  rw [← hw2]
  have HX51b : w1.heap[w.heap.size + 1 + 1]? = some (.cells #[.string ⟨#[]⟩, .string ⟨#[]⟩, .string ⟨#[]⟩, .string ⟨#[]⟩, .string ⟨#[]⟩, .string ⟨#[]⟩, .string ⟨#[]⟩, .int .i64 0, .slice none 0 0, .int .i64 0, .int .i64 0, .int .i64 0, .bool false, .bool false, .int .i64 0] 38 (0, 0)) := HX51.out
  have HX52 := Lib.hid (show w2.heap[w.heap.size + 1 + 1]? = some (.cells #[.string r.2.1.user, .string r.2.1.client, .string r.2.1.tenant, .string r.2.1.session, .string r.2.1.redirect, .string r.2.1.nonce, .string r.2.1.challenge, .int .i64 r.2.1.method, .slice B r.2.1.scopes.length d', .int .i64 r.2.1.auth, .int .i64 r.2.1.level, .int .i64 0, .bool false, .bool false, .int .i64 0] 38 (0, 0)) from (by rw [hw2]; exact nest_block HX51b))
  have HK2 := Lib.hid (show ∀ k, k ≠ w.heap.size + 1 + 1 → w2.heap[k]? = w1.heap[k]? from fun k hk => (by rw [hw2]; exact nest_other k hk))
  have HZ2 := Lib.hid (show w2.heap.size = w1.heap.size ∧ w2.os = w1.os ∧ w2.tape = w1.tape ∧ w2.output = w1.output from (by rw [hw2]; exact nest_size))
  clear hw2 HX51b x0z f0z x1z f1z x2z f2z x3z f3z x4z f4z x5z f5z x6z f6z x7z f7z x8z f8z x9z f9z x10z f10z x14z f14z
  obtain ⟨wz, hwz⟩ : ∃ wz, wz = w2.setCell ⟨w.heap.size + 1 + 1, 14, none⟩ (.int .i64 r.2.2) := ⟨_, rfl⟩
  rw [← hwz]
  have HT5 := Lib.hid (show wz.heap[w.heap.size + 2]? = some (.cells #[.string r.2.1.user, .string r.2.1.client, .string r.2.1.tenant, .string r.2.1.session, .string r.2.1.redirect, .string r.2.1.nonce, .string r.2.1.challenge, .int .i64 r.2.1.method, .slice B r.2.1.scopes.length d', .int .i64 r.2.1.auth, .int .i64 r.2.1.level, .int .i64 0, .bool false, .bool false, .int .i64 r.2.2] 38 (0, 0)) by rw [hwz]; exact heap_setCell_same _ _ 14 _ _ _ HX52.out)
  have HT4 := Lib.hid (show wz.heap[w.heap.size + 1]? = some (.cells #[.string ⟨#[]⟩, .string ⟨#[]⟩, .string ⟨#[]⟩, .string ⟨#[]⟩, .string ⟨#[]⟩, .string ⟨#[]⟩, .string ⟨#[]⟩, .int .i64 0, .slice none 0 0, .int .i64 0, .int .i64 0, .int .i64 0, .bool false, .bool false, .int .i64 0] 38 (0, 0)) by rw [hwz]; exact ((Below.heap_setCell _ _ _ _ (by simp)).trans (HK2.out (w.heap.size + 1) (by omega))).trans HX41.out)
  have HKZ := Lib.hid (show ∀ k, k ≠ w.heap.size + 2 → wz.heap[k]? = w1.heap[k]? from fun k hk => by rw [hwz]; exact (Below.heap_setCell _ _ _ _ hk).trans (HK2.out k hk))
  have HZZ := Lib.hid (show wz.heap.size = w1.heap.size ∧ wz.os = w1.os ∧ wz.tape = w1.tape ∧ wz.output = w1.output by rw [hwz]; exact ⟨by simp [World.setCell, HZ2.out.1], HZ2.out.2.1, HZ2.out.2.2.1, HZ2.out.2.2.2⟩)
  clear hwz
  have u0 := cell_block HT5.out 0
  have u1 := cell_block HT5.out 1
  have u2 := cell_block HT5.out 2
  have u3 := cell_block HT5.out 3
  have u4 := cell_block HT5.out 4
  have u5 := cell_block HT5.out 5
  have u6 := cell_block HT5.out 6
  have u7 := cell_block HT5.out 7
  have u8 := cell_block HT5.out 8
  have u9 := cell_block HT5.out 9
  have u10 := cell_block HT5.out 10
  have u11 := cell_block HT5.out 11
  have u12 := cell_block HT5.out 12
  have u13 := cell_block HT5.out 13
  have u14 := cell_block HT5.out 14
  simp only [List.getElem?_toArray, List.getElem?_cons_zero, List.getElem?_cons_succ] at u0 u1 u2 u3 u4 u5 u6 u7 u8 u9 u10 u11 u12 u13 u14
  go_wp2_with (refine wpList_store_row rfl 38 (.tmp 4) (.tmp 92) rfl (w.heap.size + 1) #[.string r.2.1.user, .string r.2.1.client, .string r.2.1.tenant, .string r.2.1.session, .string r.2.1.redirect, .string r.2.1.nonce, .string r.2.1.challenge, .int .i64 r.2.1.method, .slice B r.2.1.scopes.length d', .int .i64 r.2.1.auth, .int .i64 r.2.1.level, .int .i64 0, .bool false, .bool false, .int .i64 r.2.2] rfl rfl 38 _ HT4.out (by kernel_rfl) rfl (by simp [Value.oneCell']) ?_)
  obtain ⟨y0, y1, y2, y3, y4, y5, y6, y7, y8, y9, y10, y11, y12, y13, y14⟩ := cells15 (setRow_heap wz (w.heap.size + 1) _ #[.string r.2.1.user, .string r.2.1.client, .string r.2.1.tenant, .string r.2.1.session, .string r.2.1.redirect, .string r.2.1.nonce, .string r.2.1.challenge, .int .i64 r.2.1.method, .slice B r.2.1.scopes.length d', .int .i64 r.2.1.auth, .int .i64 r.2.1.level, .int .i64 0, .bool false, .bool false, .int .i64 r.2.2] _ _ HT4.out)
  refine bodyPost_ret (v := .agg #[.string r.2.1.user, .string r.2.1.client, .string r.2.1.tenant, .string r.2.1.session, .string r.2.1.redirect, .string r.2.1.nonce, .string r.2.1.challenge, .int .i64 r.2.1.method, .slice B r.2.1.scopes.length d', .int .i64 r.2.1.auth, .int .i64 r.2.1.level, .int .i64 0, .bool false, .bool false, .int .i64 r.2.2]) (by simp [results, Tryz.results10, go_sem, y0, y1, y2, y3, y4, y5, y6, y7, y8, y9, y10, y11, y12, y13, y14]) rfl ?_
  rw [HDO.out]
  exact mo_pass (r := (r.1, ⟨r.2.1, 0, false, false, r.2.2⟩)) HBX.out HSS.out HFR.out HR1.out HM1.out HLT.out (blk_lt HX5.out) (fun k _ hn1 hn2 => (setRow_other _ _ _ _ hn1).trans (HKZ.out k hn2)) (by rw [setRow_size, HZZ.out.1]; exact Nat.le_refl _) HZZ.out.2.1 HZZ.out.2.2.1 HZZ.out.2.2.2
set_option maxRecDepth 100000 in
set_option maxHeartbeats 4000000 in
theorem mo_3 {w : World} {S : Nat → Prop} {F : Nat} {st : Ct} (h : RefE w S F st) (x : Opc) (A : Option Addr) (d : Nat) (hs : Ss w A x.g.scopes.length d x.g.scopes) (hok : greatO x = false) (hm : MX w) (hd : DG w) (hS0 : ∀ k, S k → 2 ≤ k) (q1 : (x.kind == 1) = false) (q2 : (x.kind == 2) = false) (q3 : (x.kind == 3) = true) (hr : doC st x = ((red st x.code x.g.client x.g.redirect (prv x.ver) x.now).1, ⟨(red st x.code x.g.client x.g.redirect (prv x.ver) x.now).2.1, 0, false, false, (red st x.code x.g.client x.g.redirect (prv x.ver) x.now).2.2⟩)) :
    Calls Tryz.prog 10 #[.pointer (some ⟨F, 0, none⟩), .agg #[.int .i64 x.kind, .string x.code, .string x.cl, .string x.rd, .string x.ver, .string x.g.user, .string x.g.client, .string x.g.tenant, .string x.g.session, .string x.g.redirect, .string x.g.nonce, .string x.g.challenge, .int .i64 x.g.method, .slice A x.g.scopes.length d, .int .i64 x.g.auth, .int .i64 x.g.level, .int .i64 x.now]] w (MoIs w S F (doC st x)) := by
  obtain ⟨z1, z2, z3, z4, z5, z6, z7⟩ := great_parts hok
  have HH := Lib.hid h
  have HS := Lib.hid hs
  have HM := Lib.hid hm
  have HD := Lib.hid hd
  have HR := Lib.hid hr
  have HZ7 := Lib.hid z7
  have HZ5 := Lib.hid z5
  have HS0 := Lib.hid hS0
  clear h hs hm hr z7 hok hd z5 hS0
  go_enter Tryz.func10, Tryz.ntmps10
  go_upto_region 2 with fail
  obtain ⟨wx, hwx⟩ : ∃ wx, wx = ((w.alloc (.cells #[.int .i64 x.kind, .string x.code, .string x.cl, .string x.rd, .string x.ver, .string x.g.user, .string x.g.client, .string x.g.tenant, .string x.g.session, .string x.g.redirect, .string x.g.nonce, .string x.g.challenge, .int .i64 x.g.method, .slice A x.g.scopes.length d, .int .i64 x.g.auth, .int .i64 x.g.level, .int .i64 x.now] 41)).alloc (.cells #[.string ⟨#[]⟩, .string ⟨#[]⟩, .string ⟨#[]⟩, .string ⟨#[]⟩, .string ⟨#[]⟩, .string ⟨#[]⟩, .string ⟨#[]⟩, .int .i64 0, .slice none 0 0, .int .i64 0, .int .i64 0, .int .i64 0, .bool false, .bool false, .int .i64 0] 38)).alloc (.cells #[.string ⟨#[]⟩, .string ⟨#[]⟩, .string ⟨#[]⟩, .string ⟨#[]⟩, .string ⟨#[]⟩, .string ⟨#[]⟩, .string ⟨#[]⟩, .int .i64 0, .slice none 0 0, .int .i64 0, .int .i64 0, .int .i64 0, .bool false, .bool false, .int .i64 0] 38) := ⟨_, rfl⟩
  rw [← hwx]
  have HBX := Lib.hid (show Below w.heap.size w wx by rw [hwx]; go_grown)
  have HX3 := Lib.hid (show wx.heap[w.heap.size]? = some (.cells #[.int .i64 x.kind, .string x.code, .string x.cl, .string x.rd, .string x.ver, .string x.g.user, .string x.g.client, .string x.g.tenant, .string x.g.session, .string x.g.redirect, .string x.g.nonce, .string x.g.challenge, .int .i64 x.g.method, .slice A x.g.scopes.length d, .int .i64 x.g.auth, .int .i64 x.g.level, .int .i64 x.now] 41 (0, 0)) by rw [hwx]; rw [Below.heap_alloc _ _ _ (by simp; omega), Below.heap_alloc _ _ _ (by simp)]; exact heap_alloc_new _ _)
  have HX4 := Lib.hid (show wx.heap[w.heap.size + 1]? = some (.cells #[.string ⟨#[]⟩, .string ⟨#[]⟩, .string ⟨#[]⟩, .string ⟨#[]⟩, .string ⟨#[]⟩, .string ⟨#[]⟩, .string ⟨#[]⟩, .int .i64 0, .slice none 0 0, .int .i64 0, .int .i64 0, .int .i64 0, .bool false, .bool false, .int .i64 0] 38 (0, 0)) by
    rw [hwx, Below.heap_alloc _ _ _ (by simp)]
    have e : w.heap.size + 1 = (w.alloc (.cells #[.int .i64 x.kind, .string x.code, .string x.cl, .string x.rd, .string x.ver, .string x.g.user, .string x.g.client, .string x.g.tenant, .string x.g.session, .string x.g.redirect, .string x.g.nonce, .string x.g.challenge, .int .i64 x.g.method, .slice A x.g.scopes.length d, .int .i64 x.g.auth, .int .i64 x.g.level, .int .i64 x.now] 41)).heap.size := by simp
    rw [e]; exact heap_alloc_new _ _)
  have HX5 := Lib.hid (show wx.heap[w.heap.size + 2]? = some (.cells #[.string ⟨#[]⟩, .string ⟨#[]⟩, .string ⟨#[]⟩, .string ⟨#[]⟩, .string ⟨#[]⟩, .string ⟨#[]⟩, .string ⟨#[]⟩, .int .i64 0, .slice none 0 0, .int .i64 0, .int .i64 0, .int .i64 0, .bool false, .bool false, .int .i64 0] 38 (0, 0)) by
    rw [hwx]
    have e : w.heap.size + 2 = ((w.alloc (.cells #[.int .i64 x.kind, .string x.code, .string x.cl, .string x.rd, .string x.ver, .string x.g.user, .string x.g.client, .string x.g.tenant, .string x.g.session, .string x.g.redirect, .string x.g.nonce, .string x.g.challenge, .int .i64 x.g.method, .slice A x.g.scopes.length d, .int .i64 x.g.auth, .int .i64 x.g.level, .int .i64 x.now] 41)).alloc (.cells #[.string ⟨#[]⟩, .string ⟨#[]⟩, .string ⟨#[]⟩, .string ⟨#[]⟩, .string ⟨#[]⟩, .string ⟨#[]⟩, .string ⟨#[]⟩, .int .i64 0, .slice none 0 0, .int .i64 0, .int .i64 0, .int .i64 0, .bool false, .bool false, .int .i64 0] 38)).heap.size := by simp
    rw [e]; exact heap_alloc_new _ _)
  have HHX := Lib.hid (HH.out.below HBX.out)
  have HLT := Lib.hid HH.out.lt
  clear hwx
  have x0 := cell_block HX3.out 0
  have x1 := cell_block HX3.out 1
  have x4 := cell_block HX3.out 4
  have x6 := cell_block HX3.out 6
  have x9 := cell_block HX3.out 9
  have x16 := cell_block HX3.out 16
  simp only [List.getElem?_toArray, List.getElem?_cons_zero, List.getElem?_cons_succ] at x0 x1 x4 x6 x9 x16
  go_wp2_with fail
  have hcall := rred_any HHX.out x.code x.g.client x.g.redirect x.ver x.now (by omega) rfl
  have HDO := Lib.hid HR.out
  generalize hrv : red st x.code x.g.client x.g.redirect (prv x.ver) x.now = r at *
  refine hcall.mono ?_
  clear hcall hrv
  rintro e w1 ⟨B, d', rfl, hss, hfr, hr1, hm1⟩
  have hr1 := rref_grow wx hr1
  have HFR := Lib.hid hfr
  have HSS := Lib.hid hss
  have HR1 := Lib.hid hr1
  have HM1 := Lib.hid hm1
  clear hss hfr hr1 hm1
  have HX41 := Lib.hid ((HM1.out.block (w.heap.size + 1) (blk_lt HX4.out) (fun e => by have := HLT.out _ e; omega)).trans HX4.out)
  have HX51 := Lib.hid ((HM1.out.block (w.heap.size + 2) (blk_lt HX5.out) (fun e => by have := HLT.out _ e; omega)).trans HX5.out)
  have x0z : w1.cell? ⟨w.heap.size + 1 + 1, 0, none⟩ = some (.string ⟨#[]⟩) := cell_block HX51.out 0
  have f0z : w1.frozen? ⟨w.heap.size + 1 + 1, 0, none⟩ = false := by have : w1.heap[w.heap.size + 1 + 1]? = _ := HX51.out; simp only [World.frozen?, this]; rfl
  have x1z : w1.cell? ⟨w.heap.size + 1 + 1, 1, none⟩ = some (.string ⟨#[]⟩) := cell_block HX51.out 1
  have f1z : w1.frozen? ⟨w.heap.size + 1 + 1, 1, none⟩ = false := by have : w1.heap[w.heap.size + 1 + 1]? = _ := HX51.out; simp only [World.frozen?, this]; rfl
  have x2z : w1.cell? ⟨w.heap.size + 1 + 1, 2, none⟩ = some (.string ⟨#[]⟩) := cell_block HX51.out 2
  have f2z : w1.frozen? ⟨w.heap.size + 1 + 1, 2, none⟩ = false := by have : w1.heap[w.heap.size + 1 + 1]? = _ := HX51.out; simp only [World.frozen?, this]; rfl
  have x3z : w1.cell? ⟨w.heap.size + 1 + 1, 3, none⟩ = some (.string ⟨#[]⟩) := cell_block HX51.out 3
  have f3z : w1.frozen? ⟨w.heap.size + 1 + 1, 3, none⟩ = false := by have : w1.heap[w.heap.size + 1 + 1]? = _ := HX51.out; simp only [World.frozen?, this]; rfl
  have x4z : w1.cell? ⟨w.heap.size + 1 + 1, 4, none⟩ = some (.string ⟨#[]⟩) := cell_block HX51.out 4
  have f4z : w1.frozen? ⟨w.heap.size + 1 + 1, 4, none⟩ = false := by have : w1.heap[w.heap.size + 1 + 1]? = _ := HX51.out; simp only [World.frozen?, this]; rfl
  have x5z : w1.cell? ⟨w.heap.size + 1 + 1, 5, none⟩ = some (.string ⟨#[]⟩) := cell_block HX51.out 5
  have f5z : w1.frozen? ⟨w.heap.size + 1 + 1, 5, none⟩ = false := by have : w1.heap[w.heap.size + 1 + 1]? = _ := HX51.out; simp only [World.frozen?, this]; rfl
  have x6z : w1.cell? ⟨w.heap.size + 1 + 1, 6, none⟩ = some (.string ⟨#[]⟩) := cell_block HX51.out 6
  have f6z : w1.frozen? ⟨w.heap.size + 1 + 1, 6, none⟩ = false := by have : w1.heap[w.heap.size + 1 + 1]? = _ := HX51.out; simp only [World.frozen?, this]; rfl
  have x7z : w1.cell? ⟨w.heap.size + 1 + 1, 7, none⟩ = some (.int .i64 0) := cell_block HX51.out 7
  have f7z : w1.frozen? ⟨w.heap.size + 1 + 1, 7, none⟩ = false := by have : w1.heap[w.heap.size + 1 + 1]? = _ := HX51.out; simp only [World.frozen?, this]; rfl
  have x8z : w1.cell? ⟨w.heap.size + 1 + 1, 8, none⟩ = some (.slice none 0 0) := cell_block HX51.out 8
  have f8z : w1.frozen? ⟨w.heap.size + 1 + 1, 8, none⟩ = false := by have : w1.heap[w.heap.size + 1 + 1]? = _ := HX51.out; simp only [World.frozen?, this]; rfl
  have x9z : w1.cell? ⟨w.heap.size + 1 + 1, 9, none⟩ = some (.int .i64 0) := cell_block HX51.out 9
  have f9z : w1.frozen? ⟨w.heap.size + 1 + 1, 9, none⟩ = false := by have : w1.heap[w.heap.size + 1 + 1]? = _ := HX51.out; simp only [World.frozen?, this]; rfl
  have x10z : w1.cell? ⟨w.heap.size + 1 + 1, 10, none⟩ = some (.int .i64 0) := cell_block HX51.out 10
  have f10z : w1.frozen? ⟨w.heap.size + 1 + 1, 10, none⟩ = false := by have : w1.heap[w.heap.size + 1 + 1]? = _ := HX51.out; simp only [World.frozen?, this]; rfl
  have x14z : w1.cell? ⟨w.heap.size + 1 + 1, 14, none⟩ = some (.int .i64 0) := cell_block HX51.out 14
  have f14z : w1.frozen? ⟨w.heap.size + 1 + 1, 14, none⟩ = false := by have : w1.heap[w.heap.size + 1 + 1]? = _ := HX51.out; simp only [World.frozen?, this]; rfl
  go_upto_region 17 with fail
  obtain ⟨w2, hw2⟩ : ∃ w2, w2 = (((((((((((w1.setCell ⟨w.heap.size + 1 + 1, 0, none⟩ (.string r.2.1.user)).setCell ⟨w.heap.size + 1 + 1, 1, none⟩ (.string r.2.1.client)).setCell ⟨w.heap.size + 1 + 1, 2, none⟩ (.string r.2.1.tenant)).setCell ⟨w.heap.size + 1 + 1, 3, none⟩ (.string r.2.1.session)).setCell ⟨w.heap.size + 1 + 1, 4, none⟩ (.string r.2.1.redirect)).setCell ⟨w.heap.size + 1 + 1, 5, none⟩ (.string r.2.1.nonce)).setCell ⟨w.heap.size + 1 + 1, 6, none⟩ (.string r.2.1.challenge)).setCell ⟨w.heap.size + 1 + 1, 7, none⟩ (.int .i64 r.2.1.method)).setCell ⟨w.heap.size + 1 + 1, 8, none⟩ (.slice B r.2.1.scopes.length d')).setCell ⟨w.heap.size + 1 + 1, 9, none⟩ (.int .i64 r.2.1.auth)).setCell ⟨w.heap.size + 1 + 1, 10, none⟩ (.int .i64 r.2.1.level)) := ⟨_, rfl⟩
  rw [← hw2]
  have HX51b : w1.heap[w.heap.size + 1 + 1]? = some (.cells #[.string ⟨#[]⟩, .string ⟨#[]⟩, .string ⟨#[]⟩, .string ⟨#[]⟩, .string ⟨#[]⟩, .string ⟨#[]⟩, .string ⟨#[]⟩, .int .i64 0, .slice none 0 0, .int .i64 0, .int .i64 0, .int .i64 0, .bool false, .bool false, .int .i64 0] 38 (0, 0)) := HX51.out
  have HX52 := Lib.hid (show w2.heap[w.heap.size + 1 + 1]? = some (.cells #[.string r.2.1.user, .string r.2.1.client, .string r.2.1.tenant, .string r.2.1.session, .string r.2.1.redirect, .string r.2.1.nonce, .string r.2.1.challenge, .int .i64 r.2.1.method, .slice B r.2.1.scopes.length d', .int .i64 r.2.1.auth, .int .i64 r.2.1.level, .int .i64 0, .bool false, .bool false, .int .i64 0] 38 (0, 0)) from (by rw [hw2]; exact nest_block HX51b))
  have HK2 := Lib.hid (show ∀ k, k ≠ w.heap.size + 1 + 1 → w2.heap[k]? = w1.heap[k]? from fun k hk => (by rw [hw2]; exact nest_other k hk))
  have HZ2 := Lib.hid (show w2.heap.size = w1.heap.size ∧ w2.os = w1.os ∧ w2.tape = w1.tape ∧ w2.output = w1.output from (by rw [hw2]; exact nest_size))
  clear hw2 HX51b x0z f0z x1z f1z x2z f2z x3z f3z x4z f4z x5z f5z x6z f6z x7z f7z x8z f8z x9z f9z x10z f10z x14z f14z
  obtain ⟨wz, hwz⟩ : ∃ wz, wz = w2.setCell ⟨w.heap.size + 1 + 1, 14, none⟩ (.int .i64 r.2.2) := ⟨_, rfl⟩
  rw [← hwz]
  have HT5 := Lib.hid (show wz.heap[w.heap.size + 2]? = some (.cells #[.string r.2.1.user, .string r.2.1.client, .string r.2.1.tenant, .string r.2.1.session, .string r.2.1.redirect, .string r.2.1.nonce, .string r.2.1.challenge, .int .i64 r.2.1.method, .slice B r.2.1.scopes.length d', .int .i64 r.2.1.auth, .int .i64 r.2.1.level, .int .i64 0, .bool false, .bool false, .int .i64 r.2.2] 38 (0, 0)) by rw [hwz]; exact heap_setCell_same _ _ 14 _ _ _ HX52.out)
  have HT4 := Lib.hid (show wz.heap[w.heap.size + 1]? = some (.cells #[.string ⟨#[]⟩, .string ⟨#[]⟩, .string ⟨#[]⟩, .string ⟨#[]⟩, .string ⟨#[]⟩, .string ⟨#[]⟩, .string ⟨#[]⟩, .int .i64 0, .slice none 0 0, .int .i64 0, .int .i64 0, .int .i64 0, .bool false, .bool false, .int .i64 0] 38 (0, 0)) by rw [hwz]; exact ((Below.heap_setCell _ _ _ _ (by simp)).trans (HK2.out (w.heap.size + 1) (by omega))).trans HX41.out)
  have HKZ := Lib.hid (show ∀ k, k ≠ w.heap.size + 2 → wz.heap[k]? = w1.heap[k]? from fun k hk => by rw [hwz]; exact (Below.heap_setCell _ _ _ _ hk).trans (HK2.out k hk))
  have HZZ := Lib.hid (show wz.heap.size = w1.heap.size ∧ wz.os = w1.os ∧ wz.tape = w1.tape ∧ wz.output = w1.output by rw [hwz]; exact ⟨by simp [World.setCell, HZ2.out.1], HZ2.out.2.1, HZ2.out.2.2.1, HZ2.out.2.2.2⟩)
  clear hwz
  have u0 := cell_block HT5.out 0
  have u1 := cell_block HT5.out 1
  have u2 := cell_block HT5.out 2
  have u3 := cell_block HT5.out 3
  have u4 := cell_block HT5.out 4
  have u5 := cell_block HT5.out 5
  have u6 := cell_block HT5.out 6
  have u7 := cell_block HT5.out 7
  have u8 := cell_block HT5.out 8
  have u9 := cell_block HT5.out 9
  have u10 := cell_block HT5.out 10
  have u11 := cell_block HT5.out 11
  have u12 := cell_block HT5.out 12
  have u13 := cell_block HT5.out 13
  have u14 := cell_block HT5.out 14
  simp only [List.getElem?_toArray, List.getElem?_cons_zero, List.getElem?_cons_succ] at u0 u1 u2 u3 u4 u5 u6 u7 u8 u9 u10 u11 u12 u13 u14
  go_wp2_with (refine wpList_store_row rfl 38 (.tmp 4) (.tmp 92) rfl (w.heap.size + 1) #[.string r.2.1.user, .string r.2.1.client, .string r.2.1.tenant, .string r.2.1.session, .string r.2.1.redirect, .string r.2.1.nonce, .string r.2.1.challenge, .int .i64 r.2.1.method, .slice B r.2.1.scopes.length d', .int .i64 r.2.1.auth, .int .i64 r.2.1.level, .int .i64 0, .bool false, .bool false, .int .i64 r.2.2] rfl rfl 38 _ HT4.out (by kernel_rfl) rfl (by simp [Value.oneCell']) ?_)
  obtain ⟨y0, y1, y2, y3, y4, y5, y6, y7, y8, y9, y10, y11, y12, y13, y14⟩ := cells15 (setRow_heap wz (w.heap.size + 1) _ #[.string r.2.1.user, .string r.2.1.client, .string r.2.1.tenant, .string r.2.1.session, .string r.2.1.redirect, .string r.2.1.nonce, .string r.2.1.challenge, .int .i64 r.2.1.method, .slice B r.2.1.scopes.length d', .int .i64 r.2.1.auth, .int .i64 r.2.1.level, .int .i64 0, .bool false, .bool false, .int .i64 r.2.2] _ _ HT4.out)
  refine bodyPost_ret (v := .agg #[.string r.2.1.user, .string r.2.1.client, .string r.2.1.tenant, .string r.2.1.session, .string r.2.1.redirect, .string r.2.1.nonce, .string r.2.1.challenge, .int .i64 r.2.1.method, .slice B r.2.1.scopes.length d', .int .i64 r.2.1.auth, .int .i64 r.2.1.level, .int .i64 0, .bool false, .bool false, .int .i64 r.2.2]) (by simp [results, Tryz.results10, go_sem, y0, y1, y2, y3, y4, y5, y6, y7, y8, y9, y10, y11, y12, y13, y14]) rfl ?_
  rw [HDO.out]
  exact mo_pass (r := (r.1, ⟨r.2.1, 0, false, false, r.2.2⟩)) HBX.out HSS.out HFR.out HR1.out HM1.out HLT.out (blk_lt HX5.out) (fun k _ hn1 hn2 => (setRow_other _ _ _ _ hn1).trans (HKZ.out k hn2)) (by rw [setRow_size, HZZ.out.1]; exact Nat.le_refl _) HZZ.out.2.1 HZZ.out.2.2.1 HZZ.out.2.2.2
end Go.Proofs.YtioabjniipkncaaGreatDoor.Rc

namespace Go.Proofs.YtioabjniipkncaaGreatDoor.Rc
open Go.RowKit Go.Proofs.YtioabjniipkncaaGreatDoor.Fo Go.Proofs.YtioabjniipkncaaGreatDoor.Rf Go.Maps

set_option maxRecDepth 100000 in
set_option maxHeartbeats 4000000 in
theorem mo_4 {w : World} {S : Nat → Prop} {F : Nat} {st : Ct} (h : RefE w S F st) (x : Opc) (A : Option Addr) (d : Nat) (hs : Ss w A x.g.scopes.length d x.g.scopes) (hok : greatO x = false) (hm : MX w) (hd : DG w) (hS0 : ∀ k, S k → 2 ≤ k) (q1 : (x.kind == 1) = false) (q2 : (x.kind == 2) = false) (q3 : (x.kind == 3) = false) (q4 : (x.kind == 4) = true) (hr : doC st x = (st, ⟨noG, 0, usedS st x.code, attS st x.code, 0⟩)) :
    Calls Tryz.prog 10 #[.pointer (some ⟨F, 0, none⟩), .agg #[.int .i64 x.kind, .string x.code, .string x.cl, .string x.rd, .string x.ver, .string x.g.user, .string x.g.client, .string x.g.tenant, .string x.g.session, .string x.g.redirect, .string x.g.nonce, .string x.g.challenge, .int .i64 x.g.method, .slice A x.g.scopes.length d, .int .i64 x.g.auth, .int .i64 x.g.level, .int .i64 x.now]] w (MoIs w S F (doC st x)) := by
  obtain ⟨z1, z2, z3, z4, z5, z6, z7⟩ := great_parts hok
  have HH := Lib.hid h
  have HS := Lib.hid hs
  have HM := Lib.hid hm
  have HD := Lib.hid hd
  have HR := Lib.hid hr
  have HZ7 := Lib.hid z7
  have HZ5 := Lib.hid z5
  have HS0 := Lib.hid hS0
  clear h hs hm hr z7 hok hd z5 hS0
  go_enter Tryz.func10, Tryz.ntmps10
  go_upto_region 2 with fail
  obtain ⟨wx, hwx⟩ : ∃ wx, wx = ((w.alloc (.cells #[.int .i64 x.kind, .string x.code, .string x.cl, .string x.rd, .string x.ver, .string x.g.user, .string x.g.client, .string x.g.tenant, .string x.g.session, .string x.g.redirect, .string x.g.nonce, .string x.g.challenge, .int .i64 x.g.method, .slice A x.g.scopes.length d, .int .i64 x.g.auth, .int .i64 x.g.level, .int .i64 x.now] 41)).alloc (.cells #[.string ⟨#[]⟩, .string ⟨#[]⟩, .string ⟨#[]⟩, .string ⟨#[]⟩, .string ⟨#[]⟩, .string ⟨#[]⟩, .string ⟨#[]⟩, .int .i64 0, .slice none 0 0, .int .i64 0, .int .i64 0, .int .i64 0, .bool false, .bool false, .int .i64 0] 38)).alloc (.cells #[.string ⟨#[]⟩, .string ⟨#[]⟩, .string ⟨#[]⟩, .string ⟨#[]⟩, .string ⟨#[]⟩, .string ⟨#[]⟩, .string ⟨#[]⟩, .int .i64 0, .slice none 0 0, .int .i64 0, .int .i64 0, .int .i64 0, .bool false, .bool false, .int .i64 0] 38) := ⟨_, rfl⟩
  rw [← hwx]
  have HBX := Lib.hid (show Below w.heap.size w wx by rw [hwx]; go_grown)
  have HX3 := Lib.hid (show wx.heap[w.heap.size]? = some (.cells #[.int .i64 x.kind, .string x.code, .string x.cl, .string x.rd, .string x.ver, .string x.g.user, .string x.g.client, .string x.g.tenant, .string x.g.session, .string x.g.redirect, .string x.g.nonce, .string x.g.challenge, .int .i64 x.g.method, .slice A x.g.scopes.length d, .int .i64 x.g.auth, .int .i64 x.g.level, .int .i64 x.now] 41 (0, 0)) by rw [hwx]; rw [Below.heap_alloc _ _ _ (by simp; omega), Below.heap_alloc _ _ _ (by simp)]; exact heap_alloc_new _ _)
  have HX4 := Lib.hid (show wx.heap[w.heap.size + 1]? = some (.cells #[.string ⟨#[]⟩, .string ⟨#[]⟩, .string ⟨#[]⟩, .string ⟨#[]⟩, .string ⟨#[]⟩, .string ⟨#[]⟩, .string ⟨#[]⟩, .int .i64 0, .slice none 0 0, .int .i64 0, .int .i64 0, .int .i64 0, .bool false, .bool false, .int .i64 0] 38 (0, 0)) by
    rw [hwx, Below.heap_alloc _ _ _ (by simp)]
    have e : w.heap.size + 1 = (w.alloc (.cells #[.int .i64 x.kind, .string x.code, .string x.cl, .string x.rd, .string x.ver, .string x.g.user, .string x.g.client, .string x.g.tenant, .string x.g.session, .string x.g.redirect, .string x.g.nonce, .string x.g.challenge, .int .i64 x.g.method, .slice A x.g.scopes.length d, .int .i64 x.g.auth, .int .i64 x.g.level, .int .i64 x.now] 41)).heap.size := by simp
    rw [e]; exact heap_alloc_new _ _)
  have HX5 := Lib.hid (show wx.heap[w.heap.size + 2]? = some (.cells #[.string ⟨#[]⟩, .string ⟨#[]⟩, .string ⟨#[]⟩, .string ⟨#[]⟩, .string ⟨#[]⟩, .string ⟨#[]⟩, .string ⟨#[]⟩, .int .i64 0, .slice none 0 0, .int .i64 0, .int .i64 0, .int .i64 0, .bool false, .bool false, .int .i64 0] 38 (0, 0)) by
    rw [hwx]
    have e : w.heap.size + 2 = ((w.alloc (.cells #[.int .i64 x.kind, .string x.code, .string x.cl, .string x.rd, .string x.ver, .string x.g.user, .string x.g.client, .string x.g.tenant, .string x.g.session, .string x.g.redirect, .string x.g.nonce, .string x.g.challenge, .int .i64 x.g.method, .slice A x.g.scopes.length d, .int .i64 x.g.auth, .int .i64 x.g.level, .int .i64 x.now] 41)).alloc (.cells #[.string ⟨#[]⟩, .string ⟨#[]⟩, .string ⟨#[]⟩, .string ⟨#[]⟩, .string ⟨#[]⟩, .string ⟨#[]⟩, .string ⟨#[]⟩, .int .i64 0, .slice none 0 0, .int .i64 0, .int .i64 0, .int .i64 0, .bool false, .bool false, .int .i64 0] 38)).heap.size := by simp
    rw [e]; exact heap_alloc_new _ _)
  have HHX := Lib.hid (HH.out.below HBX.out)
  have HLT := Lib.hid HH.out.lt
  clear hwx
  have x0 := cell_block HX3.out 0
  have x1 := cell_block HX3.out 1
  simp only [List.getElem?_toArray, List.getElem?_cons_zero, List.getElem?_cons_succ] at x0 x1
  obtain ⟨b1, hb1⟩ : ∃ b, usedS st x.code = b := ⟨_, rfl⟩
  obtain ⟨b2, hb2⟩ : ∃ b, attS st x.code = b := ⟨_, rfl⟩
  have HB1 := Lib.hid hb1
  have HB2 := Lib.hid hb2
  clear hb1 hb2
  go_wp2_with fail
  refine wp_region_held_drew (S := (fun w' => w'.cell? ⟨w.heap.size, 1, none⟩ = some (.string x.code))) (by kernel_rfl) ?_ (fun hHeld => ?_)
  focus ((try dsimp only); (first | exact x1 | exact cell_below HV1.out x1 | exact cell_below HV2.out x1 | exact XK1.out | exact XK2.out); done)
  refine wpAnyH_take (i := 0) (oi := ⟨_, _, _, _, _, _⟩) (v := ?_) rfl (by kernel_rfl) (by kernel_rfl) (by kernel_rfl) (fun _ _ _ h => h) (Or.inl ⟨by rfl, ?_⟩) (by assumption) ?_; rotate_left; (focus (intro w hSw; (try dsimp only at hSw); go_simp; (try with_reducible rfl); done)); simp only [Act.put, List.setIfInBounds_toArray, List.set_cons_zero, List.set_cons_succ]
  refine wpAnyH_take (i := 1) (oi := ⟨_, _, _, _, _, _⟩) (v := ?_) rfl (by kernel_rfl) (by kernel_rfl) (by kernel_rfl) (fun _ _ _ h => h) (Or.inl ⟨by rfl, ?_⟩) (by assumption) ?_; rotate_left; (focus (intro w hSw; (try dsimp only at hSw); go_simp; (try with_reducible rfl); done)); simp only [Act.put, List.setIfInBounds_toArray, List.set_cons_zero, List.set_cons_succ]
  refine wpAnyH_take (i := 2) (oi := ⟨_, _, _, _, _, _⟩) (v := ?_) rfl (by kernel_rfl) (by kernel_rfl) (by kernel_rfl) (fun _ _ _ h => h) (Or.inl ⟨by rfl, ?_⟩) (by assumption) ?_; rotate_left; (focus (intro w hSw; (try dsimp only at hSw); go_simp; (try with_reducible rfl); done)); simp only [Act.put, List.setIfInBounds_toArray, List.set_cons_zero, List.set_cons_succ]
  refine wpAnyH_take (i := 4) (oi := ⟨_, _, _, _, _, _⟩) (v := ?_) rfl (by kernel_rfl) (by kernel_rfl) (by kernel_rfl) (fun _ _ _ h => h) (Or.inl ⟨by rfl, ?_⟩) (by assumption) ?_; rotate_left; (focus (intro w hSw; (try dsimp only at hSw); go_simp; (try with_reducible rfl); done)); simp only [Act.put, List.setIfInBounds_toArray, List.set_cons_zero, List.set_cons_succ]
  refine wpAnyH_take (i := 5) (oi := ⟨_, _, _, _, _, _⟩) (v := ?_) rfl (by kernel_rfl) (by kernel_rfl) (by kernel_rfl) (fun _ _ _ h => h) (Or.inl ⟨by rfl, ?_⟩) (by assumption) ?_; rotate_left; (focus (intro w hSw; (try dsimp only at hSw); go_simp; (try with_reducible rfl); done)); simp only [Act.put, List.setIfInBounds_toArray, List.set_cons_zero, List.set_cons_succ]
  refine wpAnyH_take (i := 6) (oi := ⟨_, _, _, _, _, _⟩) (v := ?_) rfl (by kernel_rfl) (by kernel_rfl) (by kernel_rfl) (fun _ _ _ h => h) (Or.inl ⟨by rfl, ?_⟩) (by assumption) ?_; rotate_left; (focus (intro w hSw; (try dsimp only at hSw); go_simp; (try with_reducible rfl); done)); simp only [Act.put, List.setIfInBounds_toArray, List.set_cons_zero, List.set_cons_succ]
  refine wpAnyH_ready (rs := [3]) (by kernel_rfl) (by simp) ?_
  refine AllReadyH.cons (o := ⟨_, _, _, _, _, _⟩) rfl (fun K hK => ?_) AllReadyH.nil
  go_simp
  go_wp2_with fail
  refine (rused_q (HHX.out.below ((Below.refl _ _).drew)) x.code (by omega) HB1.out).mono ?_
  rintro e v1 ⟨rfl, hv⟩
  have HV1 := Lib.hid (show Below wx.heap.size wx v1 from ((Below.refl _ _).drew).trans hv)
  clear hv
  (try go_wp2_with fail)
  refine hK.out _ _ ?_ (fun hHeld => ?_)
  focus ((try dsimp only); (first | exact x1 | exact cell_below HV1.out x1 | exact cell_below HV2.out x1 | exact XK1.out | exact XK2.out); done)
  clear hK K
  (try simp only [Act.put, List.setIfInBounds_toArray, List.set_cons_zero, List.set_cons_succ])
  refine wpAnyH_take (i := 8) (oi := ⟨_, _, _, _, _, _⟩) (v := ?_) rfl (by kernel_rfl) (by kernel_rfl) (by kernel_rfl) (fun _ _ _ h => h) (Or.inl ⟨by rfl, ?_⟩) (by assumption) ?_; rotate_left; (focus (intro w hSw; (try dsimp only at hSw); go_simp; (try with_reducible rfl); done)); simp only [Act.put, List.setIfInBounds_toArray, List.set_cons_zero, List.set_cons_succ]
  refine wpAnyH_ready (rs := [7]) (by kernel_rfl) (by simp) ?_
  refine AllReadyH.cons (o := ⟨_, _, _, _, _, _⟩) rfl (fun K hK => ?_) AllReadyH.nil
  go_simp
  go_wp2_with fail
  refine (ratt_q (HHX.out.below HV1.out) x.code (by omega) HB2.out).mono ?_
  rintro e v2 ⟨rfl, hv⟩
  have HV2 := Lib.hid (HV1.out.trans (hv.mono HV1.out.size))
  clear hv
  have HX52 := Lib.hid (show v2.heap[w.heap.size + 1 + 1]? = some (.cells #[.string ⟨#[]⟩, .string ⟨#[]⟩, .string ⟨#[]⟩, .string ⟨#[]⟩, .string ⟨#[]⟩, .string ⟨#[]⟩, .string ⟨#[]⟩, .int .i64 0, .slice none 0 0, .int .i64 0, .int .i64 0, .int .i64 0, .bool false, .bool false, .int .i64 0] 38 (0, 0)) from (HV2.out.block _ (blk_lt HX5.out)).trans HX5.out)
  have HX42 := Lib.hid ((HV2.out.block _ (blk_lt HX4.out)).trans HX4.out)
  have y12 := cell_block HX52.out 12
  have y13 := cell_block HX52.out 13
  simp only [List.getElem?_toArray, List.getElem?_cons_zero, List.getElem?_cons_succ] at y12 y13
  have g12 : v2.frozen? ⟨w.heap.size + 1 + 1, 12, none⟩ = false := by have := HX52.out; simp only [World.frozen?, this]; rfl
  have g13 : v2.frozen? ⟨w.heap.size + 1 + 1, 13, none⟩ = false := by have := HX52.out; simp only [World.frozen?, this]; rfl
  have XK1 := Lib.hid ((World.cell?_of_block (Below.heap_setCell v2 ⟨w.heap.size + 1 + 1, 12, none⟩ (.bool b1) w.heap.size (by simp; omega))).trans (cell_below HV2.out x1))
  have XK2 := Lib.hid ((World.cell?_of_block ((Below.heap_setCell (v2.setCell ⟨w.heap.size + 1 + 1, 12, none⟩ (.bool b1)) ⟨w.heap.size + 1 + 1, 13, none⟩ (.bool b2) w.heap.size (by simp; omega)).trans (Below.heap_setCell v2 ⟨w.heap.size + 1 + 1, 12, none⟩ (.bool b1) w.heap.size (by simp; omega)))).trans (cell_below HV2.out x1))
  (try go_wp2_with fail)
  refine hK.out _ _ ?_ (fun hHeld => ?_)
  focus ((try dsimp only); (first | exact x1 | exact cell_below HV1.out x1 | exact cell_below HV2.out x1 | exact XK1.out | exact XK2.out); done)
  clear hK K
  (try simp only [Act.put, List.setIfInBounds_toArray, List.set_cons_zero, List.set_cons_succ])
  refine wpAnyH_ready (rs := [9]) (by kernel_rfl) (by simp) ?_
  refine AllReadyH.cons (o := ⟨_, _, _, _, _, _⟩) rfl (fun K hK => ?_) AllReadyH.nil
  go_simp
  (try go_wp2_with fail)
  refine hK.out _ _ ?_ (fun hHeld => ?_)
  focus ((try dsimp only); (first | exact x1 | exact cell_below HV1.out x1 | exact cell_below HV2.out x1 | exact XK1.out | exact XK2.out); done)
  clear hK K
  (try simp only [Act.put, List.setIfInBounds_toArray, List.set_cons_zero, List.set_cons_succ])
  refine wpAnyH_take (i := 10) (oi := ⟨_, _, _, _, _, _⟩) (v := ?_) rfl (by kernel_rfl) (by kernel_rfl) (by kernel_rfl) (fun _ _ _ h => h) (Or.inl ⟨by rfl, ?_⟩) (by assumption) ?_; rotate_left; (focus (intro w hSw; (try dsimp only at hSw); go_simp; (try with_reducible rfl); done)); simp only [Act.put, List.setIfInBounds_toArray, List.set_cons_zero, List.set_cons_succ]
  refine wpAnyH_ready (rs := [11]) (by kernel_rfl) (by simp) ?_
  refine AllReadyH.cons (o := ⟨_, _, _, _, _, _⟩) rfl (fun K hK => ?_) AllReadyH.nil
  go_simp
  (try go_wp2_with fail)
  refine hK.out _ _ ?_ (fun hHeld => ?_)
  focus ((try dsimp only); (first | exact x1 | exact cell_below HV1.out x1 | exact cell_below HV2.out x1 | exact XK1.out | exact XK2.out); done)
  clear hK K
  (try simp only [Act.put, List.setIfInBounds_toArray, List.set_cons_zero, List.set_cons_succ])
  refine wpAnyH_done (by kernel_rfl) ?_ _
  go_upto_region 17 with fail
  obtain ⟨wz, hwz⟩ : ∃ wz, wz = (v2.setCell ⟨w.heap.size + 1 + 1, 12, none⟩ (.bool b1)).setCell ⟨w.heap.size + 1 + 1, 13, none⟩ (.bool b2) := ⟨_, rfl⟩
  rw [← hwz]
  have HT5 := Lib.hid (show wz.heap[w.heap.size + 1 + 1]? = some (.cells #[.string ⟨#[]⟩, .string ⟨#[]⟩, .string ⟨#[]⟩, .string ⟨#[]⟩, .string ⟨#[]⟩, .string ⟨#[]⟩, .string ⟨#[]⟩, .int .i64 0, .slice none 0 0, .int .i64 0, .int .i64 0, .int .i64 0, .bool b1, .bool b2, .int .i64 0] 38 (0, 0)) by rw [hwz]; exact heap_setCell_same _ _ 13 _ _ _ (heap_setCell_same _ _ 12 _ _ (.bool b1) HX52.out))
  have HKZ := Lib.hid (show ∀ k, k ≠ w.heap.size + 1 + 1 → wz.heap[k]? = v2.heap[k]? from fun k hk => by rw [hwz]; exact (Below.heap_setCell _ _ _ _ hk).trans (Below.heap_setCell _ _ _ _ hk))
  have HT4 := Lib.hid ((HKZ.out (w.heap.size + 1) (by omega)).trans HX42.out)
  have HZZ := Lib.hid (show wz.heap.size = v2.heap.size ∧ wz.os = v2.os ∧ wz.tape = v2.tape ∧ wz.output = v2.output by rw [hwz]; exact ⟨by simp only [sc_size], rfl, rfl, rfl⟩)
  clear hwz y12 y13 g12 g13
  have u0 := cell_block HT5.out 0
  have u1 := cell_block HT5.out 1
  have u2 := cell_block HT5.out 2
  have u3 := cell_block HT5.out 3
  have u4 := cell_block HT5.out 4
  have u5 := cell_block HT5.out 5
  have u6 := cell_block HT5.out 6
  have u7 := cell_block HT5.out 7
  have u8 := cell_block HT5.out 8
  have u9 := cell_block HT5.out 9
  have u10 := cell_block HT5.out 10
  have u11 := cell_block HT5.out 11
  have u12 := cell_block HT5.out 12
  have u13 := cell_block HT5.out 13
  have u14 := cell_block HT5.out 14
  simp only [List.getElem?_toArray, List.getElem?_cons_zero, List.getElem?_cons_succ] at u0 u1 u2 u3 u4 u5 u6 u7 u8 u9 u10 u11 u12 u13 u14
  go_wp2_with (refine wpList_store_row rfl 38 (.tmp 4) (.tmp 92) rfl (w.heap.size + 1) #[.string ⟨#[]⟩, .string ⟨#[]⟩, .string ⟨#[]⟩, .string ⟨#[]⟩, .string ⟨#[]⟩, .string ⟨#[]⟩, .string ⟨#[]⟩, .int .i64 0, .slice none 0 0, .int .i64 0, .int .i64 0, .int .i64 0, .bool b1, .bool b2, .int .i64 0] rfl rfl 38 _ HT4.out (by kernel_rfl) rfl (by simp [Value.oneCell']) ?_)
  obtain ⟨y0, y1, y2, y3, y4, y5, y6, y7, y8, y9, y10, y11, y12, y13, y14⟩ := cells15 (setRow_heap wz (w.heap.size + 1) _ #[.string ⟨#[]⟩, .string ⟨#[]⟩, .string ⟨#[]⟩, .string ⟨#[]⟩, .string ⟨#[]⟩, .string ⟨#[]⟩, .string ⟨#[]⟩, .int .i64 0, .slice none 0 0, .int .i64 0, .int .i64 0, .int .i64 0, .bool b1, .bool b2, .int .i64 0] _ _ HT4.out)
  refine bodyPost_ret (v := .agg #[.string ⟨#[]⟩, .string ⟨#[]⟩, .string ⟨#[]⟩, .string ⟨#[]⟩, .string ⟨#[]⟩, .string ⟨#[]⟩, .string ⟨#[]⟩, .int .i64 0, .slice none 0 0, .int .i64 0, .int .i64 0, .int .i64 0, .bool b1, .bool b2, .int .i64 0]) (by simp [results, Tryz.results10, go_sem, y0, y1, y2, y3, y4, y5, y6, y7, y8, y9, y10, y11, y12, y13, y14]) rfl ?_
  rw [HR.out, HB1.out, HB2.out]
  exact mo_pass (r := (st, ⟨noG, 0, b1, b2, 0⟩)) HBX.out (Ss.nil _ _ _) (fun a h => by cases h) (rref_grow wx (HHX.out.below HV2.out)) (Mods.of_below S HV2.out) HLT.out (blk_lt HX5.out) (fun k _ hn1 hn2 => (setRow_other _ _ _ _ hn1).trans (HKZ.out k hn2)) (by rw [setRow_size, HZZ.out.1]; exact Nat.le_refl _) HZZ.out.2.1 HZZ.out.2.2.1 HZZ.out.2.2.2
set_option maxRecDepth 100000 in
set_option maxHeartbeats 4000000 in
theorem mo_0 {w : World} {S : Nat → Prop} {F : Nat} {st : Ct} (h : RefE w S F st) (x : Opc) (A : Option Addr) (d : Nat) (hs : Ss w A x.g.scopes.length d x.g.scopes) (hok : greatO x = false) (hm : MX w) (hd : DG w) (hS0 : ∀ k, S k → 2 ≤ k) (q1 : (x.kind == 1) = false) (q2 : (x.kind == 2) = false) (q3 : (x.kind == 3) = false) (q4 : (x.kind == 4) = false) (q5 : (x.kind == 5) = false) (q6 : (x.kind == 6) = false) (q7 : (x.kind == 7) = false) (hr : doC st x = (st, ⟨noG, 0, false, false, 0⟩)) :
    Calls Tryz.prog 10 #[.pointer (some ⟨F, 0, none⟩), .agg #[.int .i64 x.kind, .string x.code, .string x.cl, .string x.rd, .string x.ver, .string x.g.user, .string x.g.client, .string x.g.tenant, .string x.g.session, .string x.g.redirect, .string x.g.nonce, .string x.g.challenge, .int .i64 x.g.method, .slice A x.g.scopes.length d, .int .i64 x.g.auth, .int .i64 x.g.level, .int .i64 x.now]] w (MoIs w S F (doC st x)) := by
  obtain ⟨z1, z2, z3, z4, z5, z6, z7⟩ := great_parts hok
  have HH := Lib.hid h
  have HS := Lib.hid hs
  have HM := Lib.hid hm
  have HD := Lib.hid hd
  have HR := Lib.hid hr
  have HZ7 := Lib.hid z7
  have HZ5 := Lib.hid z5
  have HS0 := Lib.hid hS0
  clear h hs hm hr z7 hok hd z5 hS0
  go_enter Tryz.func10, Tryz.ntmps10
  go_upto_region 2 with fail
  obtain ⟨wx, hwx⟩ : ∃ wx, wx = ((w.alloc (.cells #[.int .i64 x.kind, .string x.code, .string x.cl, .string x.rd, .string x.ver, .string x.g.user, .string x.g.client, .string x.g.tenant, .string x.g.session, .string x.g.redirect, .string x.g.nonce, .string x.g.challenge, .int .i64 x.g.method, .slice A x.g.scopes.length d, .int .i64 x.g.auth, .int .i64 x.g.level, .int .i64 x.now] 41)).alloc (.cells #[.string ⟨#[]⟩, .string ⟨#[]⟩, .string ⟨#[]⟩, .string ⟨#[]⟩, .string ⟨#[]⟩, .string ⟨#[]⟩, .string ⟨#[]⟩, .int .i64 0, .slice none 0 0, .int .i64 0, .int .i64 0, .int .i64 0, .bool false, .bool false, .int .i64 0] 38)).alloc (.cells #[.string ⟨#[]⟩, .string ⟨#[]⟩, .string ⟨#[]⟩, .string ⟨#[]⟩, .string ⟨#[]⟩, .string ⟨#[]⟩, .string ⟨#[]⟩, .int .i64 0, .slice none 0 0, .int .i64 0, .int .i64 0, .int .i64 0, .bool false, .bool false, .int .i64 0] 38) := ⟨_, rfl⟩
  rw [← hwx]
  have HBX := Lib.hid (show Below w.heap.size w wx by rw [hwx]; go_grown)
  have HX3 := Lib.hid (show wx.heap[w.heap.size]? = some (.cells #[.int .i64 x.kind, .string x.code, .string x.cl, .string x.rd, .string x.ver, .string x.g.user, .string x.g.client, .string x.g.tenant, .string x.g.session, .string x.g.redirect, .string x.g.nonce, .string x.g.challenge, .int .i64 x.g.method, .slice A x.g.scopes.length d, .int .i64 x.g.auth, .int .i64 x.g.level, .int .i64 x.now] 41 (0, 0)) by rw [hwx]; rw [Below.heap_alloc _ _ _ (by simp; omega), Below.heap_alloc _ _ _ (by simp)]; exact heap_alloc_new _ _)
  have HX4 := Lib.hid (show wx.heap[w.heap.size + 1]? = some (.cells #[.string ⟨#[]⟩, .string ⟨#[]⟩, .string ⟨#[]⟩, .string ⟨#[]⟩, .string ⟨#[]⟩, .string ⟨#[]⟩, .string ⟨#[]⟩, .int .i64 0, .slice none 0 0, .int .i64 0, .int .i64 0, .int .i64 0, .bool false, .bool false, .int .i64 0] 38 (0, 0)) by
    rw [hwx, Below.heap_alloc _ _ _ (by simp)]
    have e : w.heap.size + 1 = (w.alloc (.cells #[.int .i64 x.kind, .string x.code, .string x.cl, .string x.rd, .string x.ver, .string x.g.user, .string x.g.client, .string x.g.tenant, .string x.g.session, .string x.g.redirect, .string x.g.nonce, .string x.g.challenge, .int .i64 x.g.method, .slice A x.g.scopes.length d, .int .i64 x.g.auth, .int .i64 x.g.level, .int .i64 x.now] 41)).heap.size := by simp
    rw [e]; exact heap_alloc_new _ _)
  have HX5 := Lib.hid (show wx.heap[w.heap.size + 2]? = some (.cells #[.string ⟨#[]⟩, .string ⟨#[]⟩, .string ⟨#[]⟩, .string ⟨#[]⟩, .string ⟨#[]⟩, .string ⟨#[]⟩, .string ⟨#[]⟩, .int .i64 0, .slice none 0 0, .int .i64 0, .int .i64 0, .int .i64 0, .bool false, .bool false, .int .i64 0] 38 (0, 0)) by
    rw [hwx]
    have e : w.heap.size + 2 = ((w.alloc (.cells #[.int .i64 x.kind, .string x.code, .string x.cl, .string x.rd, .string x.ver, .string x.g.user, .string x.g.client, .string x.g.tenant, .string x.g.session, .string x.g.redirect, .string x.g.nonce, .string x.g.challenge, .int .i64 x.g.method, .slice A x.g.scopes.length d, .int .i64 x.g.auth, .int .i64 x.g.level, .int .i64 x.now] 41)).alloc (.cells #[.string ⟨#[]⟩, .string ⟨#[]⟩, .string ⟨#[]⟩, .string ⟨#[]⟩, .string ⟨#[]⟩, .string ⟨#[]⟩, .string ⟨#[]⟩, .int .i64 0, .slice none 0 0, .int .i64 0, .int .i64 0, .int .i64 0, .bool false, .bool false, .int .i64 0] 38)).heap.size := by simp
    rw [e]; exact heap_alloc_new _ _)
  have HHX := Lib.hid (HH.out.below HBX.out)
  have HLT := Lib.hid HH.out.lt
  clear hwx
  have x0 := cell_block HX3.out 0
  have x1 := cell_block HX3.out 1
  simp only [List.getElem?_toArray, List.getElem?_cons_zero, List.getElem?_cons_succ] at x0 x1
  go_upto_region 17 with fail
  have HT5 := Lib.hid (show wx.heap[w.heap.size + 1 + 1]? = some (.cells #[.string ⟨#[]⟩, .string ⟨#[]⟩, .string ⟨#[]⟩, .string ⟨#[]⟩, .string ⟨#[]⟩, .string ⟨#[]⟩, .string ⟨#[]⟩, .int .i64 0, .slice none 0 0, .int .i64 0, .int .i64 0, .int .i64 0, .bool false, .bool false, .int .i64 0] 38 (0, 0)) from HX5.out)
  have HT4 := Lib.hid HX4.out
  have u0 := cell_block HT5.out 0
  have u1 := cell_block HT5.out 1
  have u2 := cell_block HT5.out 2
  have u3 := cell_block HT5.out 3
  have u4 := cell_block HT5.out 4
  have u5 := cell_block HT5.out 5
  have u6 := cell_block HT5.out 6
  have u7 := cell_block HT5.out 7
  have u8 := cell_block HT5.out 8
  have u9 := cell_block HT5.out 9
  have u10 := cell_block HT5.out 10
  have u11 := cell_block HT5.out 11
  have u12 := cell_block HT5.out 12
  have u13 := cell_block HT5.out 13
  have u14 := cell_block HT5.out 14
  simp only [List.getElem?_toArray, List.getElem?_cons_zero, List.getElem?_cons_succ] at u0 u1 u2 u3 u4 u5 u6 u7 u8 u9 u10 u11 u12 u13 u14
  go_wp2_with (refine wpList_store_row rfl 38 (.tmp 4) (.tmp 92) rfl (w.heap.size + 1) #[.string ⟨#[]⟩, .string ⟨#[]⟩, .string ⟨#[]⟩, .string ⟨#[]⟩, .string ⟨#[]⟩, .string ⟨#[]⟩, .string ⟨#[]⟩, .int .i64 0, .slice none 0 0, .int .i64 0, .int .i64 0, .int .i64 0, .bool false, .bool false, .int .i64 0] rfl rfl 38 _ HT4.out (by kernel_rfl) rfl (by simp [Value.oneCell']) ?_)
  obtain ⟨y0, y1, y2, y3, y4, y5, y6, y7, y8, y9, y10, y11, y12, y13, y14⟩ := cells15 (setRow_heap wx (w.heap.size + 1) _ #[.string ⟨#[]⟩, .string ⟨#[]⟩, .string ⟨#[]⟩, .string ⟨#[]⟩, .string ⟨#[]⟩, .string ⟨#[]⟩, .string ⟨#[]⟩, .int .i64 0, .slice none 0 0, .int .i64 0, .int .i64 0, .int .i64 0, .bool false, .bool false, .int .i64 0] _ _ HT4.out)
  refine bodyPost_ret (v := .agg #[.string ⟨#[]⟩, .string ⟨#[]⟩, .string ⟨#[]⟩, .string ⟨#[]⟩, .string ⟨#[]⟩, .string ⟨#[]⟩, .string ⟨#[]⟩, .int .i64 0, .slice none 0 0, .int .i64 0, .int .i64 0, .int .i64 0, .bool false, .bool false, .int .i64 0]) (by simp [results, Tryz.results10, go_sem, y0, y1, y2, y3, y4, y5, y6, y7, y8, y9, y10, y11, y12, y13, y14]) rfl ?_
  rw [HR.out]
  exact mo_pass (r := (st, ⟨noG, 0, false, false, 0⟩)) HBX.out (Ss.nil _ _ _) (fun a h => by cases h) (rref_grow wx HHX.out) (Mods.of_below S (Below.refl _ _)) HLT.out (blk_lt HX5.out) (fun k _ hn1 hn2 => setRow_other _ _ _ _ hn1) (by rw [setRow_size]; exact Nat.le_refl _) rfl rfl rfl
/-- Any operation. -/
theorem mo_any {w : World} {S : Nat → Prop} {F : Nat} {st : Ct} (h : RefE w S F st) (x : Opc) (A : Option Addr) (d : Nat) (hs : Ss w A x.g.scopes.length d x.g.scopes) (hok : greatO x = false) (hm : MX w) (hd : DG w) (hS0 : ∀ k, S k → 2 ≤ k) :
    Calls Tryz.prog 10 #[.pointer (some ⟨F, 0, none⟩), .agg #[.int .i64 x.kind, .string x.code, .string x.cl, .string x.rd, .string x.ver, .string x.g.user, .string x.g.client, .string x.g.tenant, .string x.g.session, .string x.g.redirect, .string x.g.nonce, .string x.g.challenge, .int .i64 x.g.method, .slice A x.g.scopes.length d, .int .i64 x.g.auth, .int .i64 x.g.level, .int .i64 x.now]] w (MoIs w S F (doC st x)) := by
  have f : ∀ n : Int, x.kind ≠ n → (x.kind == n) = false := fun n h => beq_eq_false_iff_ne.2 h
  by_cases h1 : x.kind = 1
  · exact mo_1 h x A d hs hok hm hd hS0 (by rw [h1]; rfl) (by unfold doC; rw [if_pos h1])
  · by_cases h2 : x.kind = 2
    · exact mo_2 h x A d hs hok hm hd hS0 (f _ h1) (by rw [h2]; rfl) (by unfold doC; rw [if_neg h1, if_pos h2])
    · by_cases h3 : x.kind = 3
      · exact mo_3 h x A d hs hok hm hd hS0 (f _ h1) (f _ h2) (by rw [h3]; rfl) (by unfold doC; rw [if_neg h1, if_neg h2, if_pos h3])
      · by_cases h4 : x.kind = 4
        · exact mo_4 h x A d hs hok hm hd hS0 (f _ h1) (f _ h2) (f _ h3) (by rw [h4]; rfl) (by unfold doC; rw [if_neg h1, if_neg h2, if_neg h3, if_pos h4])
        · by_cases h5 : x.kind = 5
          · exact mo_5 h x A d hs hok hm hd hS0 (f _ h1) (f _ h2) (f _ h3) (f _ h4) (by rw [h5]; rfl) (by unfold doC; rw [if_neg h1, if_neg h2, if_neg h3, if_neg h4, if_pos h5])
          · by_cases h6 : x.kind = 6
            · exact mo_6 h x A d hs hok hm hd hS0 (f _ h1) (f _ h2) (f _ h3) (f _ h4) (f _ h5) (by rw [h6]; rfl) (by unfold doC; rw [if_neg h1, if_neg h2, if_neg h3, if_neg h4, if_neg h5, if_pos h6])
            · by_cases h7 : x.kind = 7
              · exact mo_7 h x A d hs hok hm hd hS0 (f _ h1) (f _ h2) (f _ h3) (f _ h4) (f _ h5) (f _ h6) (by rw [h7]; rfl) (by unfold doC; rw [if_neg h1, if_neg h2, if_neg h3, if_neg h4, if_neg h5, if_neg h6, if_pos h7])
              · exact mo_0 h x A d hs hok hm hd hS0 (f _ h1) (f _ h2) (f _ h3) (f _ h4) (f _ h5) (f _ h6) (f _ h7) (by unfold doC; rw [if_neg h1, if_neg h2, if_neg h3, if_neg h4, if_neg h5, if_neg h6, if_neg h7])
end Go.Proofs.YtioabjniipkncaaGreatDoor.Rc
