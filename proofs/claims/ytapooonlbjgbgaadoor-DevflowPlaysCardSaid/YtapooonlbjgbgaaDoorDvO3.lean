/-
  Deny, Approve.
-/
import Derived.Test.YtapooonlbjgbgaaDoorDvO2
import Derived.Deep.MidRow
namespace Go.Proofs.YtapooonlbjgbgaaDoor.Dv
open Go.RowKit Go.Proofs.YtapooonlbjgbgaaDoor.Fo Go.Proofs.YtapooonlbjgbgaaDoor.Rf Go.Maps

theorem nest_block {w : World} {b : Nat} {z0 z1 z2 z3 z4 z5 z6 z7 z8 z9 z10 z11 z12 z13 z14 z15 z16 z17 z18 v5 v6 v7 v8 v9 v10 v11 v12 v13 v14 v15 v16 : Value} {t : TypeId} (h : w.heap[b]? = some (.cells #[z0, z1, z2, z3, z4, z5, z6, z7, z8, z9, z10, z11, z12, z13, z14, z15, z16, z17, z18] t (0, 0))) : ((((((((((((w.setCell ⟨b, 5, none⟩ v5).setCell ⟨b, 6, none⟩ v6).setCell ⟨b, 7, none⟩ v7).setCell ⟨b, 8, none⟩ v8).setCell ⟨b, 9, none⟩ v9).setCell ⟨b, 10, none⟩ v10).setCell ⟨b, 11, none⟩ v11).setCell ⟨b, 12, none⟩ v12).setCell ⟨b, 13, none⟩ v13).setCell ⟨b, 14, none⟩ v14).setCell ⟨b, 15, none⟩ v15).setCell ⟨b, 16, none⟩ v16).heap[b]? = some (.cells #[z0, z1, z2, z3, z4, v5, v6, v7, v8, v9, v10, v11, v12, v13, v14, v15, v16, z17, z18] t (0, 0)) := by
  have a5 : (w.setCell ⟨b, 5, none⟩ v5).heap[b]? = some (.cells #[z0, z1, z2, z3, z4, v5, z6, z7, z8, z9, z10, z11, z12, z13, z14, z15, z16, z17, z18] t (0, 0)) := heap_setCell_same _ b 5 _ _ v5 h
  have a6 : ((w.setCell ⟨b, 5, none⟩ v5).setCell ⟨b, 6, none⟩ v6).heap[b]? = some (.cells #[z0, z1, z2, z3, z4, v5, v6, z7, z8, z9, z10, z11, z12, z13, z14, z15, z16, z17, z18] t (0, 0)) := heap_setCell_same _ b 6 _ _ v6 a5
  have a7 : (((w.setCell ⟨b, 5, none⟩ v5).setCell ⟨b, 6, none⟩ v6).setCell ⟨b, 7, none⟩ v7).heap[b]? = some (.cells #[z0, z1, z2, z3, z4, v5, v6, v7, z8, z9, z10, z11, z12, z13, z14, z15, z16, z17, z18] t (0, 0)) := heap_setCell_same _ b 7 _ _ v7 a6
  have a8 : ((((w.setCell ⟨b, 5, none⟩ v5).setCell ⟨b, 6, none⟩ v6).setCell ⟨b, 7, none⟩ v7).setCell ⟨b, 8, none⟩ v8).heap[b]? = some (.cells #[z0, z1, z2, z3, z4, v5, v6, v7, v8, z9, z10, z11, z12, z13, z14, z15, z16, z17, z18] t (0, 0)) := heap_setCell_same _ b 8 _ _ v8 a7
  have a9 : (((((w.setCell ⟨b, 5, none⟩ v5).setCell ⟨b, 6, none⟩ v6).setCell ⟨b, 7, none⟩ v7).setCell ⟨b, 8, none⟩ v8).setCell ⟨b, 9, none⟩ v9).heap[b]? = some (.cells #[z0, z1, z2, z3, z4, v5, v6, v7, v8, v9, z10, z11, z12, z13, z14, z15, z16, z17, z18] t (0, 0)) := heap_setCell_same _ b 9 _ _ v9 a8
  have a10 : ((((((w.setCell ⟨b, 5, none⟩ v5).setCell ⟨b, 6, none⟩ v6).setCell ⟨b, 7, none⟩ v7).setCell ⟨b, 8, none⟩ v8).setCell ⟨b, 9, none⟩ v9).setCell ⟨b, 10, none⟩ v10).heap[b]? = some (.cells #[z0, z1, z2, z3, z4, v5, v6, v7, v8, v9, v10, z11, z12, z13, z14, z15, z16, z17, z18] t (0, 0)) := heap_setCell_same _ b 10 _ _ v10 a9
  have a11 : (((((((w.setCell ⟨b, 5, none⟩ v5).setCell ⟨b, 6, none⟩ v6).setCell ⟨b, 7, none⟩ v7).setCell ⟨b, 8, none⟩ v8).setCell ⟨b, 9, none⟩ v9).setCell ⟨b, 10, none⟩ v10).setCell ⟨b, 11, none⟩ v11).heap[b]? = some (.cells #[z0, z1, z2, z3, z4, v5, v6, v7, v8, v9, v10, v11, z12, z13, z14, z15, z16, z17, z18] t (0, 0)) := heap_setCell_same _ b 11 _ _ v11 a10
  have a12 : ((((((((w.setCell ⟨b, 5, none⟩ v5).setCell ⟨b, 6, none⟩ v6).setCell ⟨b, 7, none⟩ v7).setCell ⟨b, 8, none⟩ v8).setCell ⟨b, 9, none⟩ v9).setCell ⟨b, 10, none⟩ v10).setCell ⟨b, 11, none⟩ v11).setCell ⟨b, 12, none⟩ v12).heap[b]? = some (.cells #[z0, z1, z2, z3, z4, v5, v6, v7, v8, v9, v10, v11, v12, z13, z14, z15, z16, z17, z18] t (0, 0)) := heap_setCell_same _ b 12 _ _ v12 a11
  have a13 : (((((((((w.setCell ⟨b, 5, none⟩ v5).setCell ⟨b, 6, none⟩ v6).setCell ⟨b, 7, none⟩ v7).setCell ⟨b, 8, none⟩ v8).setCell ⟨b, 9, none⟩ v9).setCell ⟨b, 10, none⟩ v10).setCell ⟨b, 11, none⟩ v11).setCell ⟨b, 12, none⟩ v12).setCell ⟨b, 13, none⟩ v13).heap[b]? = some (.cells #[z0, z1, z2, z3, z4, v5, v6, v7, v8, v9, v10, v11, v12, v13, z14, z15, z16, z17, z18] t (0, 0)) := heap_setCell_same _ b 13 _ _ v13 a12
  have a14 : ((((((((((w.setCell ⟨b, 5, none⟩ v5).setCell ⟨b, 6, none⟩ v6).setCell ⟨b, 7, none⟩ v7).setCell ⟨b, 8, none⟩ v8).setCell ⟨b, 9, none⟩ v9).setCell ⟨b, 10, none⟩ v10).setCell ⟨b, 11, none⟩ v11).setCell ⟨b, 12, none⟩ v12).setCell ⟨b, 13, none⟩ v13).setCell ⟨b, 14, none⟩ v14).heap[b]? = some (.cells #[z0, z1, z2, z3, z4, v5, v6, v7, v8, v9, v10, v11, v12, v13, v14, z15, z16, z17, z18] t (0, 0)) := heap_setCell_same _ b 14 _ _ v14 a13
  have a15 : (((((((((((w.setCell ⟨b, 5, none⟩ v5).setCell ⟨b, 6, none⟩ v6).setCell ⟨b, 7, none⟩ v7).setCell ⟨b, 8, none⟩ v8).setCell ⟨b, 9, none⟩ v9).setCell ⟨b, 10, none⟩ v10).setCell ⟨b, 11, none⟩ v11).setCell ⟨b, 12, none⟩ v12).setCell ⟨b, 13, none⟩ v13).setCell ⟨b, 14, none⟩ v14).setCell ⟨b, 15, none⟩ v15).heap[b]? = some (.cells #[z0, z1, z2, z3, z4, v5, v6, v7, v8, v9, v10, v11, v12, v13, v14, v15, z16, z17, z18] t (0, 0)) := heap_setCell_same _ b 15 _ _ v15 a14
  have a16 : ((((((((((((w.setCell ⟨b, 5, none⟩ v5).setCell ⟨b, 6, none⟩ v6).setCell ⟨b, 7, none⟩ v7).setCell ⟨b, 8, none⟩ v8).setCell ⟨b, 9, none⟩ v9).setCell ⟨b, 10, none⟩ v10).setCell ⟨b, 11, none⟩ v11).setCell ⟨b, 12, none⟩ v12).setCell ⟨b, 13, none⟩ v13).setCell ⟨b, 14, none⟩ v14).setCell ⟨b, 15, none⟩ v15).setCell ⟨b, 16, none⟩ v16).heap[b]? = some (.cells #[z0, z1, z2, z3, z4, v5, v6, v7, v8, v9, v10, v11, v12, v13, v14, v15, v16, z17, z18] t (0, 0)) := heap_setCell_same _ b 16 _ _ v16 a15
  exact a16
theorem nest_other {w : World} {b : Nat} {v5 v6 v7 v8 v9 v10 v11 v12 v13 v14 v15 v16 : Value} (k : Nat) (hk : k ≠ b) : ((((((((((((w.setCell ⟨b, 5, none⟩ v5).setCell ⟨b, 6, none⟩ v6).setCell ⟨b, 7, none⟩ v7).setCell ⟨b, 8, none⟩ v8).setCell ⟨b, 9, none⟩ v9).setCell ⟨b, 10, none⟩ v10).setCell ⟨b, 11, none⟩ v11).setCell ⟨b, 12, none⟩ v12).setCell ⟨b, 13, none⟩ v13).setCell ⟨b, 14, none⟩ v14).setCell ⟨b, 15, none⟩ v15).setCell ⟨b, 16, none⟩ v16).heap[k]? = w.heap[k]? :=
  (Below.heap_setCell _ _ _ _ hk).trans ((Below.heap_setCell _ _ _ _ hk).trans ((Below.heap_setCell _ _ _ _ hk).trans ((Below.heap_setCell _ _ _ _ hk).trans ((Below.heap_setCell _ _ _ _ hk).trans ((Below.heap_setCell _ _ _ _ hk).trans ((Below.heap_setCell _ _ _ _ hk).trans ((Below.heap_setCell _ _ _ _ hk).trans ((Below.heap_setCell _ _ _ _ hk).trans ((Below.heap_setCell _ _ _ _ hk).trans ((Below.heap_setCell _ _ _ _ hk).trans (Below.heap_setCell _ _ _ _ hk)))))))))))
theorem sc_os (w : World) (p : Addr) (v : Value) : (w.setCell p v).os = w.os := rfl
theorem sc_tape (w : World) (p : Addr) (v : Value) : (w.setCell p v).tape = w.tape := rfl
theorem sc_out (w : World) (p : Addr) (v : Value) : (w.setCell p v).output = w.output := rfl
theorem nest_size {w : World} {b : Nat} {v5 v6 v7 v8 v9 v10 v11 v12 v13 v14 v15 v16 : Value} : ((((((((((((w.setCell ⟨b, 5, none⟩ v5).setCell ⟨b, 6, none⟩ v6).setCell ⟨b, 7, none⟩ v7).setCell ⟨b, 8, none⟩ v8).setCell ⟨b, 9, none⟩ v9).setCell ⟨b, 10, none⟩ v10).setCell ⟨b, 11, none⟩ v11).setCell ⟨b, 12, none⟩ v12).setCell ⟨b, 13, none⟩ v13).setCell ⟨b, 14, none⟩ v14).setCell ⟨b, 15, none⟩ v15).setCell ⟨b, 16, none⟩ v16).heap.size = w.heap.size ∧ ((((((((((((w.setCell ⟨b, 5, none⟩ v5).setCell ⟨b, 6, none⟩ v6).setCell ⟨b, 7, none⟩ v7).setCell ⟨b, 8, none⟩ v8).setCell ⟨b, 9, none⟩ v9).setCell ⟨b, 10, none⟩ v10).setCell ⟨b, 11, none⟩ v11).setCell ⟨b, 12, none⟩ v12).setCell ⟨b, 13, none⟩ v13).setCell ⟨b, 14, none⟩ v14).setCell ⟨b, 15, none⟩ v15).setCell ⟨b, 16, none⟩ v16).os = w.os ∧ ((((((((((((w.setCell ⟨b, 5, none⟩ v5).setCell ⟨b, 6, none⟩ v6).setCell ⟨b, 7, none⟩ v7).setCell ⟨b, 8, none⟩ v8).setCell ⟨b, 9, none⟩ v9).setCell ⟨b, 10, none⟩ v10).setCell ⟨b, 11, none⟩ v11).setCell ⟨b, 12, none⟩ v12).setCell ⟨b, 13, none⟩ v13).setCell ⟨b, 14, none⟩ v14).setCell ⟨b, 15, none⟩ v15).setCell ⟨b, 16, none⟩ v16).tape = w.tape ∧ ((((((((((((w.setCell ⟨b, 5, none⟩ v5).setCell ⟨b, 6, none⟩ v6).setCell ⟨b, 7, none⟩ v7).setCell ⟨b, 8, none⟩ v8).setCell ⟨b, 9, none⟩ v9).setCell ⟨b, 10, none⟩ v10).setCell ⟨b, 11, none⟩ v11).setCell ⟨b, 12, none⟩ v12).setCell ⟨b, 13, none⟩ v13).setCell ⟨b, 14, none⟩ v14).setCell ⟨b, 15, none⟩ v15).setCell ⟨b, 16, none⟩ v16).output = w.output := ⟨by simp only [sc_size], by simp only [sc_os], by simp only [sc_tape], by simp only [sc_out]⟩
theorem ok_state {st : Fs} (h : Inv st) {x : Fw} (hx : x ∈ st.l) (k : Int) : Fw.Ok st.cap x { x with state := k } := ⟨rfl, rfl, rfl, rfl, rfl, h.gs x hx, h.iv x hx, h.ls x hx⟩
theorem num_same {w w' : World} {S : Nat → Prop} {F : Nat} {st : Fs} {x : Int} (h : RepE w S F st) (hb : Below w.heap.size w w') : NumIs w S F x st (.returned (.int .i64 x)) w' :=
  ⟨rfl, ref_grow w (h.below hb), Mods.of_below _ hb⟩
theorem mods_blk {w w' : World} {S : Nat → Prop} {b : Nat} (h : Mods (fun k => k = b) w w') (hb : S b) : Mods S w w' := ⟨h.os, h.tape, h.output, h.size, fun k hk hn => h.block k hk (fun e => hn (by subst e; exact hb))⟩
theorem mods_pre {w w1 w2 : World} {S : Nat → Prop} (hb : Below w.heap.size w w1) (h : Mods S w1 w2) : Mods S w w2 := ⟨h.os.trans hb.os, h.tape.trans hb.tape, h.output.trans hb.output, Nat.le_trans hb.size h.size, fun k hk hn => (h.block k (Nat.lt_of_lt_of_le hk hb.size) hn).trans (hb.block k hk)⟩
theorem rep_e {w : World} {S I : Nat → Prop} {F M : Nat} {st : Fs} {pl : List (Nat × Fw)} (h : RepP w S I F st M pl) : RepE w S F st := ⟨I, M, pl, h⟩
set_option maxRecDepth 100000 in
set_option maxHeartbeats 4000000 in
theorem den_any {w : World} {S : Nat → Prop} {F : Nat} {st : Fs} (h : RepE w S F st) (u : Bs) (hu : u.size ≤ 100000) (now : Int) (hm : MX w) :
    Calls Tryd.prog 24 #[.pointer (some ⟨F, 0, none⟩), .string u, .int .i64 now] w (NumIs w S F (den st u now).2 (den st u now).1) := by
  have HE := Lib.hid h
  obtain ⟨I, M, pl, h⟩ := h
  have H := Lib.hid h
  have hf := find_any h u hu now hm
  have hnz : ∀ k, fnF st u now = (none, k) → k ≠ 0 := fun k => fnF_nz
  clear h hm
  unfold den
  generalize fnF st u now = o at hf hnz ⊢
  have HNZ := Lib.hid hnz
  clear hnz
  have HF := Lib.hid hf
  clear hf
  obtain ⟨q, k⟩ := o
  cases q with
  | none =>
    go_enter Tryd.func24, Tryd.ntmps24
    go_wp2_with fail
    refine HF.out.mono ?_
    rintro e w1 ⟨he, hb⟩
    simp only [FindIs] at he
    subst he
    have HB := Lib.hid hb
    have hkb : (k == 0) = false := beq_eq_false_iff_ne.2 (HNZ.out k rfl)
    clear hb
    go_wp2
    go_ret
    exact num_same HE.out HB.out
  | some q =>
    obtain ⟨i, x⟩ := q
    go_enter Tryd.func24, Tryd.ntmps24
    go_wp2_with fail
    refine HF.out.mono ?_
    rintro e w1 ⟨he, hb⟩
    simp only [FindIs] at he
    obtain ⟨b, hpl, he⟩ := he
    subst he
    have HB := Lib.hid hb
    have H1 := Lib.hid (H.out.below hb)
    have HPL := Lib.hid hpl
    have hmem := List.mem_of_getElem? hpl
    have HX := Lib.hid (pl_st H.out.hl hpl)
    have HSB := Lib.hid (H.out.sb _ hmem).1
    obtain ⟨A, c, A2, c2, hblk, hs1, hs2⟩ := H1.out.hb _ hmem
    have HS1 := Lib.hid hs1
    have HS2 := Lib.hid hs2
    simp only at hblk
    have HBK := Lib.hid hblk
    clear hs1 hs2 hb hmem hpl
    have k5 := cell_block hblk 5
    simp only [List.getElem?_toArray, List.getElem?_cons_zero, List.getElem?_cons_succ] at k5
    have f5 : w1.frozen? ⟨b, 5, none⟩ = false := by have := HBK.out; simp only [World.frozen?, this]; rfl
    clear hblk
    go_upto_region 4 with fail
    obtain ⟨w2, hw2⟩ : ∃ w2, w2 = w1.setCell ⟨b, 5, none⟩ (.int .i64 2) := ⟨_, rfl⟩
    rw [← hw2]
    have HX2 := Lib.hid (show w2.heap[b]? = some (.cells #[.string ({ x with state := 2 } : Fw).code, .string ({ x with state := 2 } : Fw).client, .slice A ({ x with state := 2 } : Fw).scopes.length c, .int .i64 ({ x with state := 2 } : Fw).fin, .int .i64 ({ x with state := 2 } : Fw).iv, .int .i64 ({ x with state := 2 } : Fw).state, .string ({ x with state := 2 } : Fw).g.user, .string ({ x with state := 2 } : Fw).g.client, .string ({ x with state := 2 } : Fw).g.tenant, .string ({ x with state := 2 } : Fw).g.session, .string ({ x with state := 2 } : Fw).g.redirect, .string ({ x with state := 2 } : Fw).g.nonce, .string ({ x with state := 2 } : Fw).g.challenge, .int .i64 ({ x with state := 2 } : Fw).g.method, .slice A2 ({ x with state := 2 } : Fw).g.scopes.length c2, .int .i64 ({ x with state := 2 } : Fw).g.auth, .int .i64 ({ x with state := 2 } : Fw).g.level, .bool ({ x with state := 2 } : Fw).polled, .int .i64 ({ x with state := 2 } : Fw).last] 81 (0, 0)) by rw [hw2]; exact heap_setCell_same _ _ 5 _ _ _ HBK.out)
    have HM2 := Lib.hid (mods_set (b := b) (Below.refl w1.heap.size w1) (w2 := w2) (fun k hk => by rw [hw2]; exact Below.heap_setCell _ _ _ _ hk) (by rw [hw2]; exact ⟨by simp only [sc_size], rfl, rfl, rfl⟩))
    clear hw2 k5 f5
    have HR2 := Lib.hid (rep_turn H1.out HX.out HPL.out (Int.le_refl _) (ok_state H.out.inv (List.mem_of_getElem? HX.out) 2) rfl HS1.out HS2.out HX2.out HM2.out)
    go_wp2
    go_ret
    exact ⟨rfl, ref_grow w (rep_e HR2.out), mods_pre HB.out (mods_blk HM2.out HSB.out)⟩
theorem within_q (A B : Option Addr) (n c m d : Nat) (l k : List Bs) (w : World) (hl : Ss w A n c l) (hk : Ss w B m d k) (hsl : Short l) (hsk : Short k) (hn : n ≤ 100000) (hmm : m ≤ 100000) (hm : MX w) :
    Calls Tryd.prog 37 #[.slice A n c, .slice B m d] w fun e w' => e = .returned (.bool (withinS l k)) ∧ w' = w := (within_any A B n c m d l k w hl hk hsl hsk hn hmm hm).mono fun _ _ ⟨h1, h2⟩ => ⟨h1, h2.symm⟩
theorem ss_block {w : World} {A : Option Addr} {n c : Nat} {l : List Bs} (h : Ss w A n c l) {a : Addr} (ha : A = some a) (hn : 0 < n) : a.block < w.heap.size := by
  obtain ⟨b, off, e, hb, _⟩ := h.2.2 hn
  rw [ha] at e
  injection e with e
  rw [e]
  exact hb
set_option maxRecDepth 100000 in
set_option maxHeartbeats 8000000 in
theorem apr_any {w : World} {S : Nat → Prop} {F : Nat} {st : Fs} (h : RepE w S F st) (u : Bs) (g : Gr) (Ag : Option Addr) (dg : Nat) (hu : u.size ≤ 100000) (now : Int) (hs : Ss w Ag g.scopes.length dg g.scopes) (hsh : Short g.scopes) (hn : g.scopes.length ≤ 1000) (hm : MX w) :
    Calls Tryd.prog 22 #[.pointer (some ⟨F, 0, none⟩), .string u, .agg #[.string g.user, .string g.client, .string g.tenant, .string g.session, .string g.redirect, .string g.nonce, .string g.challenge, .int .i64 g.method, .slice Ag g.scopes.length dg, .int .i64 g.auth, .int .i64 g.level], .int .i64 now] w (NumIs w S F (apr st u g now).2 (apr st u g now).1) := by
  obtain ⟨w0, hw0⟩ : ∃ w0, w0 = w.alloc (.cells #[.string g.user, .string g.client, .string g.tenant, .string g.session, .string g.redirect, .string g.nonce, .string g.challenge, .int .i64 g.method, .slice Ag g.scopes.length dg, .int .i64 g.auth, .int .i64 g.level] 39) := ⟨_, rfl⟩
  have hb0 : Below w.heap.size w w0 := by rw [hw0]; go_grown
  have HE := Lib.hid h
  obtain ⟨I, M, pl, h⟩ := h
  have H := Lib.hid h
  have HB0 := Lib.hid hb0
  have HP0 := Lib.hid (show w0.heap[w.heap.size]? = some (.cells #[.string g.user, .string g.client, .string g.tenant, .string g.session, .string g.redirect, .string g.nonce, .string g.challenge, .int .i64 g.method, .slice Ag g.scopes.length dg, .int .i64 g.auth, .int .i64 g.level] 39 (0, 0)) by rw [hw0]; exact heap_alloc_new _ _)
  have HSG := Lib.hid (hs.below hb0)
  have HSH := Lib.hid hsh
  have HMX := Lib.hid (hm.below hb0)
  have hf := find_any (h.below hb0) u hu now (hm.below hb0)
  have hnz : ∀ k, fnF st u now = (none, k) → k ≠ 0 := fun k => fnF_nz
  clear h hm hs hsh hb0
  unfold apr
  generalize fnF st u now = o at hf hnz ⊢
  have HNZ := Lib.hid hnz
  clear hnz
  have HF := Lib.hid hf
  clear hf
  obtain ⟨q, k⟩ := o
  cases q with
  | none =>
    go_enter Tryd.func22, Tryd.ntmps22
    go_upto_region 1 with fail
    rw [← hw0]
    clear hw0
    go_wp2_with fail
    refine HF.out.mono ?_
    rintro e w1 ⟨he, hb⟩
    simp only [FindIs] at he
    subst he
    have HB := Lib.hid (HB0.out.trans (hb.mono HB0.out.size))
    have hkb : (k == 0) = false := beq_eq_false_iff_ne.2 (HNZ.out k rfl)
    clear hb
    go_wp2
    go_ret
    exact num_same HE.out HB.out
  | some q =>
    obtain ⟨i, x⟩ := q
    dsimp only
    by_cases hcl : g.client = x.client
    · have hcb : (g.client.toList == x.client.toList) = true := by rw [beq_bs]; simpa using hcl
      have hcb2 : g.client.toList = x.client.toList := by rw [hcl]
      rw [if_neg (by simpa using hcl)]
      clear hcl
      cases hwi : withinS g.scopes x.scopes with
      | false =>
        have HWI := Lib.hid hwi
        clear hwi
        rw [if_pos rfl]
        go_enter Tryd.func22, Tryd.ntmps22
        go_upto_region 1 with fail
        rw [← hw0]
        clear hw0
        go_wp2_with fail
        refine HF.out.mono ?_
        rintro e w1 ⟨he, hb⟩
        simp only [FindIs] at he
        obtain ⟨b, hpl, he⟩ := he
        subst he
        have HB := Lib.hid (HB0.out.trans (hb.mono HB0.out.size))
        have HPL := Lib.hid hpl
        have hmem := List.mem_of_getElem? hpl
        have HMEM := Lib.hid hmem
        have HX := Lib.hid (pl_st H.out.hl hpl)
        have HSB := Lib.hid (H.out.sb _ hmem)
        have HSC := Lib.hid (H.out.inv.sc x (snd_mem H.out.hl hmem))
        have H1 := Lib.hid (H.out.below HB.out)
        have HP1 := Lib.hid (blk_below hb HP0.out)
        have HSG1 := Lib.hid (HSG.out.below hb)
        have HM1 := Lib.hid (HMX.out.below hb)
        clear hb hmem hpl
        obtain ⟨A, c, A2, c2, hblk, ⟨hs1, _⟩, _⟩ := H1.out.hb _ HMEM.out
        have HSS1 := Lib.hid hs1
        simp only at hblk
        have k1 := cell_block hblk 1
        have k2 := cell_block hblk 2
        simp only [List.getElem?_toArray, List.getElem?_cons_zero, List.getElem?_cons_succ] at k1 k2
        have p1 := cell_block HP1.out 1
        have p8 := cell_block HP1.out 8
        simp only [List.getElem?_toArray, List.getElem?_cons_zero, List.getElem?_cons_succ] at p1 p8
        clear hblk hs1
        go_wp2_with fail
        go_quiet (fail)
        obtain ⟨w2, hw2⟩ : ∃ w2, w2 = w1.drewN nq := ⟨_, rfl⟩
        rw [← hw2]
        have hb2 : Below w1.heap.size w1 w2 := by rw [hw2]; exact below_drewN (Below.refl _ _) _
        have HB2 := Lib.hid (HB.out.trans (hb2.mono HB.out.size))
        have k2' := cell_below hb2 k2
        have p8' := cell_below hb2 p8
        have HSG2 := Lib.hid (HSG1.out.below hb2)
        have HSS2 := Lib.hid (HSS1.out.below hb2)
        have HM2 := Lib.hid (HM1.out.below hb2)
        clear hw2 hb2 k1 k2 p1 p8
        go_wp2_with fail
        go_quiet ((go_at_call 37; exact Calls.quiet_of_same (within_q Ag A g.scopes.length dg x.scopes.length c g.scopes x.scopes _ (HSG2.out.below (below_drewN (Below.refl _ _) _)) (HSS2.out.below (below_drewN (Below.refl _ _) _)) HSH.out HSC.out.1 (by omega) (by have := HSC.out.2; omega) (HM2.out.below (below_drewN (Below.refl _ _) _)))))
        simp only [HWI.out]
        go_wp2
        go_ret
        exact num_same HE.out (HB2.out.trans ((below_drewN (Below.refl _ _) _).mono HB2.out.size))
      | true =>
        have HWI := Lib.hid hwi
        clear hwi
        rw [if_neg (by decide)]
        go_enter Tryd.func22, Tryd.ntmps22
        go_upto_region 1 with fail
        rw [← hw0]
        clear hw0
        go_wp2_with fail
        refine HF.out.mono ?_
        rintro e w1 ⟨he, hb⟩
        simp only [FindIs] at he
        obtain ⟨b, hpl, he⟩ := he
        subst he
        have HB := Lib.hid (HB0.out.trans (hb.mono HB0.out.size))
        have HPL := Lib.hid hpl
        have hmem := List.mem_of_getElem? hpl
        have HMEM := Lib.hid hmem
        have HX := Lib.hid (pl_st H.out.hl hpl)
        have HSB := Lib.hid (H.out.sb _ hmem)
        have HSC := Lib.hid (H.out.inv.sc x (snd_mem H.out.hl hmem))
        have H1 := Lib.hid (H.out.below HB.out)
        have HP1 := Lib.hid (blk_below hb HP0.out)
        have HSG1 := Lib.hid (HSG.out.below hb)
        have HM1 := Lib.hid (HMX.out.below hb)
        clear hb hmem hpl
        obtain ⟨A, c, A2, c2, hblk, ⟨hs1, _⟩, _⟩ := H1.out.hb _ HMEM.out
        have HSS1 := Lib.hid hs1
        simp only at hblk
        have k1 := cell_block hblk 1
        have k2 := cell_block hblk 2
        simp only [List.getElem?_toArray, List.getElem?_cons_zero, List.getElem?_cons_succ] at k1 k2
        have p1 := cell_block HP1.out 1
        have p8 := cell_block HP1.out 8
        simp only [List.getElem?_toArray, List.getElem?_cons_zero, List.getElem?_cons_succ] at p1 p8
        clear hblk hs1
        go_wp2_with fail
        go_quiet (fail)
        obtain ⟨w2, hw2⟩ : ∃ w2, w2 = w1.drewN nq := ⟨_, rfl⟩
        rw [← hw2]
        have hb2 : Below w1.heap.size w1 w2 := by rw [hw2]; exact below_drewN (Below.refl _ _) _
        have HB2 := Lib.hid (HB.out.trans (hb2.mono HB.out.size))
        have HP2 := Lib.hid (blk_below hb2 HP1.out)
        have k2' := cell_below hb2 k2
        have p8' := cell_below hb2 p8
        have HSG2 := Lib.hid (HSG1.out.below hb2)
        have HSS2 := Lib.hid (HSS1.out.below hb2)
        have HM2 := Lib.hid (HM1.out.below hb2)
        clear hw2 hb2 k1 k2 p1 p8
        go_wp2_with fail
        go_quiet ((go_at_call 37; exact Calls.quiet_of_same (within_q Ag A g.scopes.length dg x.scopes.length c g.scopes x.scopes _ (HSG2.out.below (below_drewN (Below.refl _ _) _)) (HSS2.out.below (below_drewN (Below.refl _ _) _)) HSH.out HSC.out.1 (by omega) (by have := HSC.out.2; omega) (HM2.out.below (below_drewN (Below.refl _ _) _)))))
        simp only [HWI.out]
        obtain ⟨wq, hwq⟩ : ∃ wq, wq = w2.drewN nq := ⟨_, rfl⟩
        rw [← hwq]
        have hbq : Below w2.heap.size w2 wq := by rw [hwq]; exact below_drewN (Below.refl _ _) _
        have HBQ := Lib.hid (HB2.out.trans (hbq.mono HB2.out.size))
        have HPQ := Lib.hid (blk_below hbq HP2.out)
        have HSGQ := Lib.hid (HSG2.out.below hbq)
        clear hwq hbq k2' p8'
        obtain ⟨y0, y1, y2, y3, y4, y5, y6, y7, y8, y9, y10⟩ := cells11 HPQ.out
        go_wp2_with fail
        refine (own_any wq g Ag dg HSGQ.out (by omega)).mono ?_
        rintro e w3 ⟨B, d, rfl, hfr, hb⟩
        have HFR := Lib.hid hfr
        have HB3 := Lib.hid (HBQ.out.trans (hb.mono HBQ.out.size))
        have H3 := Lib.hid (H.out.below HB3.out)
        have HZQ := Lib.hid HBQ.out.size
        clear hfr hb y0 y1 y2 y3 y4 y5 y6 y7 y8 y9 y10
        obtain ⟨A, c, A2, c2, hblk, hs1, hs2⟩ := H3.out.hb _ HMEM.out
        have HS1 := Lib.hid hs1
        simp only at hblk
        have HBK := Lib.hid hblk
        clear hs1 hs2
        have k5 := cell_block hblk 5
        have k6 := cell_block hblk 6
        have k7 := cell_block hblk 7
        have k8 := cell_block hblk 8
        have k9 := cell_block hblk 9
        have k10 := cell_block hblk 10
        have k11 := cell_block hblk 11
        have k12 := cell_block hblk 12
        have k13 := cell_block hblk 13
        have k14 := cell_block hblk 14
        have k15 := cell_block hblk 15
        have k16 := cell_block hblk 16
        simp only [List.getElem?_toArray, List.getElem?_cons_zero, List.getElem?_cons_succ] at k5 k6 k7 k8 k9 k10 k11 k12 k13 k14 k15 k16
        clear hblk
        have f5 : w3.frozen? ⟨b, 5, none⟩ = false := by have := HBK.out; simp only [World.frozen?, this]; rfl
        have f6 : w3.frozen? ⟨b, 6, none⟩ = false := by have := HBK.out; simp only [World.frozen?, this]; rfl
        have f7 : w3.frozen? ⟨b, 7, none⟩ = false := by have := HBK.out; simp only [World.frozen?, this]; rfl
        have f8 : w3.frozen? ⟨b, 8, none⟩ = false := by have := HBK.out; simp only [World.frozen?, this]; rfl
        have f9 : w3.frozen? ⟨b, 9, none⟩ = false := by have := HBK.out; simp only [World.frozen?, this]; rfl
        have f10 : w3.frozen? ⟨b, 10, none⟩ = false := by have := HBK.out; simp only [World.frozen?, this]; rfl
        have f11 : w3.frozen? ⟨b, 11, none⟩ = false := by have := HBK.out; simp only [World.frozen?, this]; rfl
        have f12 : w3.frozen? ⟨b, 12, none⟩ = false := by have := HBK.out; simp only [World.frozen?, this]; rfl
        have f13 : w3.frozen? ⟨b, 13, none⟩ = false := by have := HBK.out; simp only [World.frozen?, this]; rfl
        have f14 : w3.frozen? ⟨b, 14, none⟩ = false := by have := HBK.out; simp only [World.frozen?, this]; rfl
        have f15 : w3.frozen? ⟨b, 15, none⟩ = false := by have := HBK.out; simp only [World.frozen?, this]; rfl
        have f16 : w3.frozen? ⟨b, 16, none⟩ = false := by have := HBK.out; simp only [World.frozen?, this]; rfl
        go_upto_region 9 with fail
        obtain ⟨w4, hw4⟩ : ∃ w4, w4 = ((((((((((((w3.setCell ⟨b, 5, none⟩ (.int .i64 1)).setCell ⟨b, 6, none⟩ (.string g.user)).setCell ⟨b, 7, none⟩ (.string g.client)).setCell ⟨b, 8, none⟩ (.string g.tenant)).setCell ⟨b, 9, none⟩ (.string g.session)).setCell ⟨b, 10, none⟩ (.string g.redirect)).setCell ⟨b, 11, none⟩ (.string g.nonce)).setCell ⟨b, 12, none⟩ (.string g.challenge)).setCell ⟨b, 13, none⟩ (.int .i64 g.method)).setCell ⟨b, 14, none⟩ (.slice B g.scopes.length d)).setCell ⟨b, 15, none⟩ (.int .i64 g.auth)).setCell ⟨b, 16, none⟩ (.int .i64 g.level)) := ⟨_, rfl⟩
        rw [← hw4]
        have HX4 := Lib.hid (show w4.heap[b]? = some (.cells #[.string ({ x with state := 1, g := g } : Fw).code, .string ({ x with state := 1, g := g } : Fw).client, .slice A ({ x with state := 1, g := g } : Fw).scopes.length c, .int .i64 ({ x with state := 1, g := g } : Fw).fin, .int .i64 ({ x with state := 1, g := g } : Fw).iv, .int .i64 ({ x with state := 1, g := g } : Fw).state, .string ({ x with state := 1, g := g } : Fw).g.user, .string ({ x with state := 1, g := g } : Fw).g.client, .string ({ x with state := 1, g := g } : Fw).g.tenant, .string ({ x with state := 1, g := g } : Fw).g.session, .string ({ x with state := 1, g := g } : Fw).g.redirect, .string ({ x with state := 1, g := g } : Fw).g.nonce, .string ({ x with state := 1, g := g } : Fw).g.challenge, .int .i64 ({ x with state := 1, g := g } : Fw).g.method, .slice B ({ x with state := 1, g := g } : Fw).g.scopes.length d, .int .i64 ({ x with state := 1, g := g } : Fw).g.auth, .int .i64 ({ x with state := 1, g := g } : Fw).g.level, .bool ({ x with state := 1, g := g } : Fw).polled, .int .i64 ({ x with state := 1, g := g } : Fw).last] 81 (0, 0)) by rw [hw4]; exact nest_block HBK.out)
        have HK4 := Lib.hid (show ∀ k, k ≠ b → w4.heap[k]? = w3.heap[k]? from fun k hk => by rw [hw4]; exact nest_other k hk)
        have HZ4 := Lib.hid (show w4.heap.size = w3.heap.size ∧ w4.os = w3.os ∧ w4.tape = w3.tape ∧ w4.output = w3.output by rw [hw4]; exact nest_size)
        clear hw4 k5 f5 k6 f6 k7 f7 k8 f8 k9 f9 k10 f10 k11 f11 k12 f12 k13 f13 k14 f14 k15 f15 k16 f16
        have HM4 := Lib.hid (mods_set HB3.out HK4.out HZ4.out)
        have HLT := Lib.hid H.out.lt
        have HR4 := Lib.hid (rep_put (S' := Go.Proofs.YtapooonlbjgbgaaDoor.grow S w w4) (I' := fun k => I k ∨ (wq.heap.size ≤ k ∧ k < w3.heap.size)) (w' := w4) (y := ({ x with state := 1, g := g } : Fw)) (A := A) (c := c) (A2 := B) (c2 := d) H3.out HX.out HPL.out (Int.le_refl _) ⟨rfl, rfl, rfl, rfl, rfl, ⟨HSH.out, hn⟩, H.out.inv.iv x (List.mem_of_getElem? HX.out), H.out.inv.ls x (List.mem_of_getElem? HX.out)⟩ HX4.out (fun k _ hne => HK4.out k hne) (by rw [HZ4.out.1]; exact Nat.le_refl _) (fun _ e => Or.inl e) (fun _ e => Or.inl e)
          (fun k e => by
            rcases e with e | e
            · exact Or.inl (H.out.sI k e)
            · exact Or.inr ⟨by have := HZQ.out; omega, by rw [HZ4.out.1]; exact e.2⟩)
          (fun k e es => by
            rcases e with e | e
            · exact e
            · exact absurd (HLT.out k es) (by have := HZQ.out; omega))
          ⟨ss_keep HS1.out.1 HS1.out.2 (fun k e => HK4.out k (fun e2 => HSB.out.2 (by rw [← e2]; exact e))) (by rw [HZ4.out.1]; exact Nat.le_refl _), fun a ha hl => Or.inl (HS1.out.2 a ha hl)⟩
          ⟨ss_keep (S := fun k => wq.heap.size ≤ k) HFR.out.1 (fun a ha hl => HFR.out.2 a ha hl) (fun k e => HK4.out k (fun e2 => by have := HLT.out b HSB.out.1; have := HZQ.out; omega)) (by rw [HZ4.out.1]; exact Nat.le_refl _), fun a ha hl => Or.inr ⟨HFR.out.2 a ha hl, ss_block HFR.out.1 ha hl⟩⟩
          (fun k e => by
            rcases e with e | e
            · have := HLT.out k e; have := HB3.out.size; rw [HZ4.out.1]; omega
            · exact e.2))
        go_wp2
        go_ret
        exact ⟨rfl, rep_e HR4.out, mods_blk HM4.out HSB.out.1⟩
    · have hcb : (g.client.toList == x.client.toList) = false := by rw [beq_bs]; simpa using hcl
      have hcb2 : ¬ g.client.toList = x.client.toList := by rw [← beq_iff_eq, hcb]; decide
      rw [if_pos hcl]
      clear hcl
      go_enter Tryd.func22, Tryd.ntmps22
      go_upto_region 1 with fail
      rw [← hw0]
      clear hw0
      go_wp2_with fail
      refine HF.out.mono ?_
      rintro e w1 ⟨he, hb⟩
      simp only [FindIs] at he
      obtain ⟨b, hpl, he⟩ := he
      subst he
      have HB := Lib.hid (HB0.out.trans (hb.mono HB0.out.size))
      have HPL := Lib.hid hpl
      have hmem := List.mem_of_getElem? hpl
      have HMEM := Lib.hid hmem
      have HX := Lib.hid (pl_st H.out.hl hpl)
      have HSB := Lib.hid (H.out.sb _ hmem)
      have HSC := Lib.hid (H.out.inv.sc x (snd_mem H.out.hl hmem))
      have H1 := Lib.hid (H.out.below HB.out)
      have HP1 := Lib.hid (blk_below hb HP0.out)
      have HSG1 := Lib.hid (HSG.out.below hb)
      have HM1 := Lib.hid (HMX.out.below hb)
      clear hb hmem hpl
      obtain ⟨A, c, A2, c2, hblk, ⟨hs1, _⟩, _⟩ := H1.out.hb _ HMEM.out
      have HSS1 := Lib.hid hs1
      simp only at hblk
      have k1 := cell_block hblk 1
      have k2 := cell_block hblk 2
      simp only [List.getElem?_toArray, List.getElem?_cons_zero, List.getElem?_cons_succ] at k1 k2
      have p1 := cell_block HP1.out 1
      have p8 := cell_block HP1.out 8
      simp only [List.getElem?_toArray, List.getElem?_cons_zero, List.getElem?_cons_succ] at p1 p8
      clear hblk hs1
      go_wp2_with fail
      go_quiet (fail)
      go_wp2
      go_ret
      exact num_same HE.out (HB.out.trans ((below_drewN (Below.refl _ _) _).mono HB.out.size))
end Go.Proofs.YtapooonlbjgbgaaDoor.Dv
