/-
  Operations in memory; which are too great; the grant of the examples.
-/
import Derived.Test.YtioabjniipkncaaGreatDoorRcW
namespace Go.Proofs.YtioabjniipkncaaGreatDoor.Rc
open Go.RowKit Go.Proofs.YtioabjniipkncaaGreatDoor.Fo Go.Proofs.YtioabjniipkncaaGreatDoor.Rf

/-- An operation. -/
structure Opc where
  kind : Int
  code : Bs
  cl : Bs
  rd : Bs
  ver : Bs
  g : Gr
  now : Int
def op0 : Opc := ⟨0, eB, eB, eB, eB, noG, 0⟩
def oAt (l : List Opc) (i : Nat) : Opc := l.getD i op0
theorem oAt_get (l : List Opc) (i : Nat) (h : i < l.length) : l[i]? = some (oAt l i) := by simp [oAt, List.getD, h]
def greatO (x : Opc) : Bool := greatG x.g || greatB [x.code, x.cl, x.rd, x.ver] 4 300
def longB (l : List Opc) (m : Int) : Bool := decide (m < (l.length : Int)) || l.any greatO
def OpAt (w : World) (b o : Nat) (x : Opc) : Prop :=
  ∃ A c, w.cell? ⟨b, o, none⟩ = some (.int .i64 x.kind) ∧ w.cell? ⟨b, o + 1, none⟩ = some (.string x.code) ∧ w.cell? ⟨b, o + 2, none⟩ = some (.string x.cl) ∧ w.cell? ⟨b, o + 3, none⟩ = some (.string x.rd) ∧ w.cell? ⟨b, o + 4, none⟩ = some (.string x.ver) ∧ w.cell? ⟨b, o + 5, none⟩ = some (.string x.g.user) ∧ w.cell? ⟨b, o + 6, none⟩ = some (.string x.g.client) ∧ w.cell? ⟨b, o + 7, none⟩ = some (.string x.g.tenant) ∧ w.cell? ⟨b, o + 8, none⟩ = some (.string x.g.session) ∧ w.cell? ⟨b, o + 9, none⟩ = some (.string x.g.redirect) ∧ w.cell? ⟨b, o + 10, none⟩ = some (.string x.g.nonce) ∧ w.cell? ⟨b, o + 11, none⟩ = some (.string x.g.challenge) ∧ w.cell? ⟨b, o + 12, none⟩ = some (.int .i64 x.g.method) ∧ w.cell? ⟨b, o + 13, none⟩ = some (.slice A x.g.scopes.length c) ∧ w.cell? ⟨b, o + 14, none⟩ = some (.int .i64 x.g.auth) ∧ w.cell? ⟨b, o + 15, none⟩ = some (.int .i64 x.g.level) ∧ w.cell? ⟨b, o + 16, none⟩ = some (.int .i64 x.now) ∧ Ss w A x.g.scopes.length c x.g.scopes
def Os (w : World) (A : Option Addr) (n c : Nat) (l : List Opc) : Prop :=
  l.length = n ∧ n ≤ c ∧ (0 < n → ∃ b off, A = some ⟨b, off, none⟩ ∧ b < w.heap.size ∧ ∀ i, i < n → OpAt w b (off + i * 17) (oAt l i))
theorem OpAt.below {w w' : World} {b o : Nat} {x : Opc} (h : OpAt w b o x) (hb : Below w.heap.size w w') (hl : b < w.heap.size) : OpAt w' b o x := by
  obtain ⟨A, c, h0, h1, h2, h3, h4, h5, h6, h7, h8, h9, h10, h11, h12, h13, h14, h15, h16, hs⟩ := h
  have k := bkeep hb hl
  exact ⟨A, c, by rw [k]; exact h0, by rw [k]; exact h1, by rw [k]; exact h2, by rw [k]; exact h3, by rw [k]; exact h4, by rw [k]; exact h5, by rw [k]; exact h6, by rw [k]; exact h7, by rw [k]; exact h8, by rw [k]; exact h9, by rw [k]; exact h10, by rw [k]; exact h11, by rw [k]; exact h12, by rw [k]; exact h13, by rw [k]; exact h14, by rw [k]; exact h15, by rw [k]; exact h16, hs.below hb⟩
theorem Os.below {w w' : World} {A : Option Addr} {n c : Nat} {l : List Opc} (h : Os w A n c l) (hb : Below w.heap.size w w') : Os w' A n c l := by
  refine ⟨h.1, h.2.1, fun hn => ?_⟩
  obtain ⟨b, off, hA, hl, hc⟩ := h.2.2 hn
  exact ⟨b, off, hA, Nat.lt_of_lt_of_le hl hb.size, fun i hi => (hc i hi).below hb hl⟩
theorem ss_lt {w : World} {A : Option Addr} {n c : Nat} {l : List Bs} (h : Ss w A n c l) (a : Addr) (ha : A = some a) (hn : 0 < n) : a.block < w.heap.size := by
  obtain ⟨b, off, e, hb, _⟩ := h.2.2 hn
  rw [ha] at e
  injection e with e
  rw [e]
  exact hb
theorem Os.at {w : World} {A : Option Addr} {n c : Nat} {l : List Opc} (h : Os w A n c l) {k : Nat} (hk : k < n) :
    ∃ b off A' d x, A = some ⟨b, off, none⟩ ∧ b < w.heap.size ∧ oAt l k = x ∧ w.cell? ⟨b, off + k * 17, none⟩ = some (.int .i64 x.kind) ∧ w.cell? ⟨b, off + k * 17 + 1, none⟩ = some (.string x.code) ∧ w.cell? ⟨b, off + k * 17 + 2, none⟩ = some (.string x.cl) ∧ w.cell? ⟨b, off + k * 17 + 3, none⟩ = some (.string x.rd) ∧ w.cell? ⟨b, off + k * 17 + 4, none⟩ = some (.string x.ver) ∧ w.cell? ⟨b, off + k * 17 + 5, none⟩ = some (.string x.g.user) ∧ w.cell? ⟨b, off + k * 17 + 6, none⟩ = some (.string x.g.client) ∧ w.cell? ⟨b, off + k * 17 + 7, none⟩ = some (.string x.g.tenant) ∧ w.cell? ⟨b, off + k * 17 + 8, none⟩ = some (.string x.g.session) ∧ w.cell? ⟨b, off + k * 17 + 9, none⟩ = some (.string x.g.redirect) ∧ w.cell? ⟨b, off + k * 17 + 10, none⟩ = some (.string x.g.nonce) ∧ w.cell? ⟨b, off + k * 17 + 11, none⟩ = some (.string x.g.challenge) ∧ w.cell? ⟨b, off + k * 17 + 12, none⟩ = some (.int .i64 x.g.method) ∧ w.cell? ⟨b, off + k * 17 + 13, none⟩ = some (.slice A' x.g.scopes.length d) ∧ w.cell? ⟨b, off + k * 17 + 14, none⟩ = some (.int .i64 x.g.auth) ∧ w.cell? ⟨b, off + k * 17 + 15, none⟩ = some (.int .i64 x.g.level) ∧ w.cell? ⟨b, off + k * 17 + 16, none⟩ = some (.int .i64 x.now) ∧ Ss w A' x.g.scopes.length d x.g.scopes := by
  obtain ⟨b, off, rfl, hb, hc⟩ := h.2.2 (by omega)
  obtain ⟨A', d, h0, h1, h2, h3, h4, h5, h6, h7, h8, h9, h10, h11, h12, h13, h14, h15, h16, hs⟩ := hc k hk
  exact ⟨b, off, A', d, _, rfl, hb, rfl, h0, h1, h2, h3, h4, h5, h6, h7, h8, h9, h10, h11, h12, h13, h14, h15, h16, hs⟩
theorem long_at {l : List Opc} {m : Int} (h : longB l m = false) {k : Nat} (hk : k < l.length) : greatO (oAt l k) = false := by
  unfold longB at h
  simp only [Bool.or_eq_false_iff] at h
  have := List.any_eq_false.1 h.2 (oAt l k) (List.mem_of_getElem? (oAt_get l k hk))
  simpa using this
theorem long_len {l : List Opc} {m : Int} (h : longB l m = false) : (l.length : Int) ≤ m := by
  unfold longB at h
  simp only [Bool.or_eq_false_iff, decide_eq_false_iff_not] at h
  omega
theorem great_sz {l : List Bs} {m k : Int} (h : greatB l m k = false) : (l.length : Int) ≤ m ∧ ∀ s ∈ l, (s.size : Int) ≤ k := by
  unfold greatB at h
  simp only [Bool.or_eq_false_iff, decide_eq_false_iff_not] at h
  refine ⟨by omega, fun s hs => ?_⟩
  have := List.any_eq_false.1 h.2 s hs
  simp at this
  omega
set_option maxRecDepth 100000 in
set_option maxHeartbeats 8000000 in
theorem long_any (w : World) (A : Option Addr) (n c : Nat) (l : List Opc) (m : Int) (hs : Os w A n c l) (hm : m ≤ 1000) :
    Calls Tryz.prog 4 #[.slice A n c, .int .i64 m] w fun e w' => e = .returned (.bool (longB l m)) ∧ Below w.heap.size w w' := by
  have HS := Lib.hid hs
  have HLN := Lib.hid hs.1
  clear hs
  by_cases h1 : m < (n : Int)
  · have HR := Lib.hid (show longB l m = true by unfold longB; rw [HLN.out, decide_eq_true h1]; rfl)
    go_enter Tryz.func4, Tryz.ntmps4
    go_wp2
    go_ret
    exact ⟨ret_bool HR.out.symm, Below.refl _ _⟩
  · have HV := Lib.hid (show longB l m = l.any greatO by unfold longB; rw [HLN.out, decide_eq_false h1]; rfl)
    go_enter Tryz.func4, Tryz.ntmps4
    go_wp2
    go_loopw [5, 12] (fun _ i wr => ∃ k : Nat, i = .int .i64 k ∧ k ≤ n ∧ Hid (∀ q, q < k → greatO (oAt l q) = false) ∧ Below w.heap.size w wr) (fun _ i _ => n - (intOf i).toNat)
    case atStart => exact ⟨0, rfl, Nat.zero_le _, fun q hq => absurd hq (Nat.not_lt_zero _), Below.refl _ _⟩
    case round =>
      obtain ⟨k, rfl, hk, HA, hb⟩ := hrel
      have HB := Lib.hid hb
      clear hb
      by_cases hlt : k < n
      · obtain ⟨bh, oh, Ah, dh, xh, rfl, hlh, hxh, h0, h1, h2, h3, h4, h5, h6, h7, h8, h9, h10, h11, h12, h13, h14, h15, h16, hsh⟩ := (HS.out.below HB.out).at hlt
        have HXH := Lib.hid hxh
        have HSh := Lib.hid hsh
        have HSK := Lib.hid (fun (w' : World) (hb : Below wr.heap.size wr w') => (show w'.cell? ⟨bh, oh + k * 17 + 1, none⟩ = some (.string xh.code) ∧ w'.cell? ⟨bh, oh + k * 17 + 2, none⟩ = some (.string xh.cl) ∧ w'.cell? ⟨bh, oh + k * 17 + 3, none⟩ = some (.string xh.rd) ∧ w'.cell? ⟨bh, oh + k * 17 + 4, none⟩ = some (.string xh.ver) ∧ w'.cell? ⟨bh, oh + k * 17 + 5, none⟩ = some (.string xh.g.user) ∧ w'.cell? ⟨bh, oh + k * 17 + 6, none⟩ = some (.string xh.g.client) ∧ w'.cell? ⟨bh, oh + k * 17 + 7, none⟩ = some (.string xh.g.tenant) ∧ w'.cell? ⟨bh, oh + k * 17 + 8, none⟩ = some (.string xh.g.session) ∧ w'.cell? ⟨bh, oh + k * 17 + 9, none⟩ = some (.string xh.g.redirect) ∧ w'.cell? ⟨bh, oh + k * 17 + 10, none⟩ = some (.string xh.g.nonce) ∧ w'.cell? ⟨bh, oh + k * 17 + 11, none⟩ = some (.string xh.g.challenge) ∧ w'.cell? ⟨bh, oh + k * 17 + 12, none⟩ = some (.int .i64 xh.g.method) ∧ w'.cell? ⟨bh, oh + k * 17 + 13, none⟩ = some (.slice Ah xh.g.scopes.length dh) ∧ w'.cell? ⟨bh, oh + k * 17 + 14, none⟩ = some (.int .i64 xh.g.auth) ∧ w'.cell? ⟨bh, oh + k * 17 + 15, none⟩ = some (.int .i64 xh.g.level) from ⟨(bkeep hb hlh _).trans h1, (bkeep hb hlh _).trans h2, (bkeep hb hlh _).trans h3, (bkeep hb hlh _).trans h4, (bkeep hb hlh _).trans h5, (bkeep hb hlh _).trans h6, (bkeep hb hlh _).trans h7, (bkeep hb hlh _).trans h8, (bkeep hb hlh _).trans h9, (bkeep hb hlh _).trans h10, (bkeep hb hlh _).trans h11, (bkeep hb hlh _).trans h12, (bkeep hb hlh _).trans h13, (bkeep hb hlh _).trans h14, (bkeep hb hlh _).trans h15⟩))
        clear hxh hsh h0 h16
        cases q1 : greatG xh.g with
        | true =>
          have Q1 := Lib.hid q1
          have HG := Lib.hid (show longB l m = true by
            rw [HV.out, List.any_eq_true]
            exact ⟨oAt l k, List.mem_of_getElem? (oAt_get l k (by rw [HLN.out]; exact hlt)), by rw [HXH.out]; unfold greatO; rw [q1]; rfl⟩)
          clear q1 h1 h2 h3 h4 h5 h6 h7 h8 h9 h10 h11 h12 h13 h14 h15
          go_wp2_with fail
          refine wp_region_held_drew (S := (fun w' => w'.cell? ⟨bh, oh + k * 17 + 1, none⟩ = some (.string xh.code) ∧ w'.cell? ⟨bh, oh + k * 17 + 2, none⟩ = some (.string xh.cl) ∧ w'.cell? ⟨bh, oh + k * 17 + 3, none⟩ = some (.string xh.rd) ∧ w'.cell? ⟨bh, oh + k * 17 + 4, none⟩ = some (.string xh.ver) ∧ w'.cell? ⟨bh, oh + k * 17 + 5, none⟩ = some (.string xh.g.user) ∧ w'.cell? ⟨bh, oh + k * 17 + 6, none⟩ = some (.string xh.g.client) ∧ w'.cell? ⟨bh, oh + k * 17 + 7, none⟩ = some (.string xh.g.tenant) ∧ w'.cell? ⟨bh, oh + k * 17 + 8, none⟩ = some (.string xh.g.session) ∧ w'.cell? ⟨bh, oh + k * 17 + 9, none⟩ = some (.string xh.g.redirect) ∧ w'.cell? ⟨bh, oh + k * 17 + 10, none⟩ = some (.string xh.g.nonce) ∧ w'.cell? ⟨bh, oh + k * 17 + 11, none⟩ = some (.string xh.g.challenge) ∧ w'.cell? ⟨bh, oh + k * 17 + 12, none⟩ = some (.int .i64 xh.g.method) ∧ w'.cell? ⟨bh, oh + k * 17 + 13, none⟩ = some (.slice Ah xh.g.scopes.length dh) ∧ w'.cell? ⟨bh, oh + k * 17 + 14, none⟩ = some (.int .i64 xh.g.auth) ∧ w'.cell? ⟨bh, oh + k * 17 + 15, none⟩ = some (.int .i64 xh.g.level))) (by kernel_rfl) ?_ (fun hHeld => ?_)
          focus ((try dsimp only); (first | exact HSK.out _ (Below.refl _ _) | exact HSK.out _ ((Below.refl _ _).drew) | exact HSK.out _ HV1.out | exact HSK.out _ (HV1.out.alloc HV1.out.size _)); done)
          refine wpAnyH_take (i := 0) (oi := ⟨_, _, _, _, _, _⟩) (v := ?_) rfl (by kernel_rfl) (by kernel_rfl) (by kernel_rfl) (fun _ _ _ h => h) (Or.inl ⟨by rfl, ?_⟩) (by assumption) ?_; rotate_left; (focus (intro w hSw; (try dsimp only at hSw); go_simp; (try with_reducible rfl); done)); simp only [Act.put, List.setIfInBounds_toArray, List.set_cons_zero, List.set_cons_succ]
          refine wpAnyH_take (i := 1) (oi := ⟨_, _, _, _, _, _⟩) (v := ?_) rfl (by kernel_rfl) (by kernel_rfl) (by kernel_rfl) (fun _ _ _ h => h) (Or.inl ⟨by rfl, ?_⟩) (by assumption) ?_; rotate_left; (focus (intro w hSw; (try dsimp only at hSw); go_simp; (try with_reducible rfl); done)); simp only [Act.put, List.setIfInBounds_toArray, List.set_cons_zero, List.set_cons_succ]
          refine wpAnyH_take (i := 2) (oi := ⟨_, _, _, _, _, _⟩) (v := ?_) rfl (by kernel_rfl) (by kernel_rfl) (by kernel_rfl) (fun _ _ _ h => h) (Or.inl ⟨by rfl, ?_⟩) (by assumption) ?_; rotate_left; (focus (intro w hSw; (try dsimp only at hSw); go_simp; (try with_reducible rfl); done)); simp only [Act.put, List.setIfInBounds_toArray, List.set_cons_zero, List.set_cons_succ]
          refine wpAnyH_take (i := 3) (oi := ⟨_, _, _, _, _, _⟩) (v := ?_) rfl (by kernel_rfl) (by kernel_rfl) (by kernel_rfl) (fun _ _ _ h => h) (Or.inl ⟨by rfl, ?_⟩) (by assumption) ?_; rotate_left; (focus (intro w hSw; (try dsimp only at hSw); go_simp; (try with_reducible rfl); done)); simp only [Act.put, List.setIfInBounds_toArray, List.set_cons_zero, List.set_cons_succ]
          refine wpAnyH_take (i := 4) (oi := ⟨_, _, _, _, _, _⟩) (v := ?_) rfl (by kernel_rfl) (by kernel_rfl) (by kernel_rfl) (fun _ _ _ h => h) (Or.inl ⟨by rfl, ?_⟩) (by assumption) ?_; rotate_left; (focus (intro w hSw; (try dsimp only at hSw); go_simp; (try with_reducible rfl); done)); simp only [Act.put, List.setIfInBounds_toArray, List.set_cons_zero, List.set_cons_succ]
          refine wpAnyH_ready (rs := [5]) (by kernel_rfl) (by simp) ?_
          refine AllReadyH.cons (o := ⟨_, _, _, _, _, _⟩) rfl (fun K hK => ?_) AllReadyH.nil
          go_simp
          go_wp2_with fail
          refine (greatg_any xh.g Ah xh.g.scopes.length dh _ (HSh.out.below ((Below.refl _ _).drew))).mono ?_
          rintro e v1 ⟨rfl, hv⟩
          have HV1 := Lib.hid (show Below wr.heap.size wr v1 from ((Below.refl _ _).drew).trans hv)
          clear hv
          rw [Q1.out]
          (try go_wp2_with fail)
          refine hK.out _ _ ?_ (fun hHeld => ?_)
          focus ((try dsimp only); (first | exact HSK.out _ (Below.refl _ _) | exact HSK.out _ ((Below.refl _ _).drew) | exact HSK.out _ HV1.out | exact HSK.out _ (HV1.out.alloc HV1.out.size _)); done)
          clear hK K
          (try simp only [Act.put, List.setIfInBounds_toArray, List.set_cons_zero, List.set_cons_succ])
          refine wpAnyH_take (i := 6) (oi := ⟨_, _, _, _, _, _⟩) (v := ?_) rfl (by kernel_rfl) (by kernel_rfl) (by kernel_rfl) (fun _ _ _ h => h) (Or.inl ⟨by rfl, ?_⟩) (by assumption) ?_; rotate_left; (focus (intro w hSw; (try dsimp only at hSw); go_simp; (try with_reducible rfl); done)); simp only [Act.put, List.setIfInBounds_toArray, List.set_cons_zero, List.set_cons_succ]
          refine wpAnyH_take (i := 7) (oi := ⟨_, _, _, _, _, _⟩) rfl (by kernel_rfl) (by kernel_rfl) (by kernel_rfl) (fun _ _ _ h => h) (Or.inr ⟨by rfl, rfl⟩) (by assumption) ?_; simp only [Act.put, List.setIfInBounds_toArray, List.set_cons_zero, List.set_cons_succ]
          refine wpAnyH_take (i := 8) (oi := ⟨_, _, _, _, _, _⟩) rfl (by kernel_rfl) (by kernel_rfl) (by kernel_rfl) (fun _ _ _ h => h) (Or.inr ⟨by rfl, rfl⟩) (by assumption) ?_; simp only [Act.put, List.setIfInBounds_toArray, List.set_cons_zero, List.set_cons_succ]
          refine wpAnyH_take (i := 9) (oi := ⟨_, _, _, _, _, _⟩) rfl (by kernel_rfl) (by kernel_rfl) (by kernel_rfl) (fun _ _ _ h => h) (Or.inr ⟨by rfl, rfl⟩) (by assumption) ?_; simp only [Act.put, List.setIfInBounds_toArray, List.set_cons_zero, List.set_cons_succ]
          refine wpAnyH_take (i := 10) (oi := ⟨_, _, _, _, _, _⟩) rfl (by kernel_rfl) (by kernel_rfl) (by kernel_rfl) (fun _ _ _ h => h) (Or.inr ⟨by rfl, rfl⟩) (by assumption) ?_; simp only [Act.put, List.setIfInBounds_toArray, List.set_cons_zero, List.set_cons_succ]
          refine wpAnyH_take (i := 11) (oi := ⟨_, _, _, _, _, _⟩) rfl (by kernel_rfl) (by kernel_rfl) (by kernel_rfl) (fun _ _ _ h => h) (Or.inr ⟨by rfl, rfl⟩) (by assumption) ?_; simp only [Act.put, List.setIfInBounds_toArray, List.set_cons_zero, List.set_cons_succ]
          refine wpAnyH_take (i := 12) (oi := ⟨_, _, _, _, _, _⟩) rfl (by kernel_rfl) (by kernel_rfl) (by kernel_rfl) (fun _ _ _ h => h) (Or.inr ⟨by rfl, rfl⟩) (by assumption) ?_; simp only [Act.put, List.setIfInBounds_toArray, List.set_cons_zero, List.set_cons_succ]
          refine wpAnyH_take (i := 13) (oi := ⟨_, _, _, _, _, _⟩) rfl (by kernel_rfl) (by kernel_rfl) (by kernel_rfl) (fun _ _ _ h => h) (Or.inr ⟨by rfl, rfl⟩) (by assumption) ?_; simp only [Act.put, List.setIfInBounds_toArray, List.set_cons_zero, List.set_cons_succ]
          refine wpAnyH_take (i := 14) (oi := ⟨_, _, _, _, _, _⟩) rfl (by kernel_rfl) (by kernel_rfl) (by kernel_rfl) (fun _ _ _ h => h) (Or.inr ⟨by rfl, rfl⟩) (by assumption) ?_; simp only [Act.put, List.setIfInBounds_toArray, List.set_cons_zero, List.set_cons_succ]
          refine wpAnyH_take (i := 15) (oi := ⟨_, _, _, _, _, _⟩) rfl (by kernel_rfl) (by kernel_rfl) (by kernel_rfl) (fun _ _ _ h => h) (Or.inr ⟨by rfl, rfl⟩) (by assumption) ?_; simp only [Act.put, List.setIfInBounds_toArray, List.set_cons_zero, List.set_cons_succ]
          refine wpAnyH_take (i := 16) (oi := ⟨_, _, _, _, _, _⟩) rfl (by kernel_rfl) (by kernel_rfl) (by kernel_rfl) (fun _ _ _ h => h) (Or.inr ⟨by rfl, rfl⟩) (by assumption) ?_; simp only [Act.put, List.setIfInBounds_toArray, List.set_cons_zero, List.set_cons_succ]
          refine wpAnyH_take (i := 17) (oi := ⟨_, _, _, _, _, _⟩) rfl (by kernel_rfl) (by kernel_rfl) (by kernel_rfl) (fun _ _ _ h => h) (Or.inr ⟨by rfl, rfl⟩) (by assumption) ?_; simp only [Act.put, List.setIfInBounds_toArray, List.set_cons_zero, List.set_cons_succ]
          refine wpAnyH_take (i := 18) (oi := ⟨_, _, _, _, _, _⟩) rfl (by kernel_rfl) (by kernel_rfl) (by kernel_rfl) (fun _ _ _ h => h) (Or.inr ⟨by rfl, rfl⟩) (by assumption) ?_; simp only [Act.put, List.setIfInBounds_toArray, List.set_cons_zero, List.set_cons_succ]
          refine wpAnyH_take (i := 19) (oi := ⟨_, _, _, _, _, _⟩) rfl (by kernel_rfl) (by kernel_rfl) (by kernel_rfl) (fun _ _ _ h => h) (Or.inr ⟨by rfl, rfl⟩) (by assumption) ?_; simp only [Act.put, List.setIfInBounds_toArray, List.set_cons_zero, List.set_cons_succ]
          refine wpAnyH_take (i := 20) (oi := ⟨_, _, _, _, _, _⟩) rfl (by kernel_rfl) (by kernel_rfl) (by kernel_rfl) (fun _ _ _ h => h) (Or.inr ⟨by rfl, rfl⟩) (by assumption) ?_; simp only [Act.put, List.setIfInBounds_toArray, List.set_cons_zero, List.set_cons_succ]
          refine wpAnyH_take (i := 21) (oi := ⟨_, _, _, _, _, _⟩) rfl (by kernel_rfl) (by kernel_rfl) (by kernel_rfl) (fun _ _ _ h => h) (Or.inr ⟨by rfl, rfl⟩) (by assumption) ?_; simp only [Act.put, List.setIfInBounds_toArray, List.set_cons_zero, List.set_cons_succ]
          refine wpAnyH_take (i := 22) (oi := ⟨_, _, _, _, _, _⟩) rfl (by kernel_rfl) (by kernel_rfl) (by kernel_rfl) (fun _ _ _ h => h) (Or.inr ⟨by rfl, rfl⟩) (by assumption) ?_; simp only [Act.put, List.setIfInBounds_toArray, List.set_cons_zero, List.set_cons_succ]
          refine wpAnyH_take (i := 23) (oi := ⟨_, _, _, _, _, _⟩) rfl (by kernel_rfl) (by kernel_rfl) (by kernel_rfl) (fun _ _ _ h => h) (Or.inr ⟨by rfl, rfl⟩) (by assumption) ?_; simp only [Act.put, List.setIfInBounds_toArray, List.set_cons_zero, List.set_cons_succ]
          refine wpAnyH_take (i := 24) (oi := ⟨_, _, _, _, _, _⟩) rfl (by kernel_rfl) (by kernel_rfl) (by kernel_rfl) (fun _ _ _ h => h) (Or.inr ⟨by rfl, rfl⟩) (by assumption) ?_; simp only [Act.put, List.setIfInBounds_toArray, List.set_cons_zero, List.set_cons_succ]
          refine wpAnyH_take (i := 25) (oi := ⟨_, _, _, _, _, _⟩) rfl (by kernel_rfl) (by kernel_rfl) (by kernel_rfl) (fun _ _ _ h => h) (Or.inr ⟨by rfl, rfl⟩) (by assumption) ?_; simp only [Act.put, List.setIfInBounds_toArray, List.set_cons_zero, List.set_cons_succ]
          refine wpAnyH_take (i := 26) (oi := ⟨_, _, _, _, _, _⟩) rfl (by kernel_rfl) (by kernel_rfl) (by kernel_rfl) (fun _ _ _ h => h) (Or.inr ⟨by rfl, rfl⟩) (by assumption) ?_; simp only [Act.put, List.setIfInBounds_toArray, List.set_cons_zero, List.set_cons_succ]
          refine wpAnyH_take (i := 27) (oi := ⟨_, _, _, _, _, _⟩) rfl (by kernel_rfl) (by kernel_rfl) (by kernel_rfl) (fun _ _ _ h => h) (Or.inr ⟨by rfl, rfl⟩) (by assumption) ?_; simp only [Act.put, List.setIfInBounds_toArray, List.set_cons_zero, List.set_cons_succ]
          refine wpAnyH_take (i := 28) (oi := ⟨_, _, _, _, _, _⟩) rfl (by kernel_rfl) (by kernel_rfl) (by kernel_rfl) (fun _ _ _ h => h) (Or.inr ⟨by rfl, rfl⟩) (by assumption) ?_; simp only [Act.put, List.setIfInBounds_toArray, List.set_cons_zero, List.set_cons_succ]
          refine wpAnyH_take (i := 29) (oi := ⟨_, _, _, _, _, _⟩) (v := ?_) rfl (by kernel_rfl) (by kernel_rfl) (by kernel_rfl) (fun _ _ _ h => h) (Or.inl ⟨by rfl, ?_⟩) (by assumption) ?_; rotate_left; (focus (intro w hSw; (try dsimp only at hSw); go_simp; (try with_reducible rfl); done)); simp only [Act.put, List.setIfInBounds_toArray, List.set_cons_zero, List.set_cons_succ]
          refine wpAnyH_done (by kernel_rfl) ?_ _
          go_wp2
          go_ret
          exact ⟨ret_bool HG.out.symm, HB.out.trans (HV1.out.mono HB.out.size)⟩
        | false =>
          have Q1 := Lib.hid q1
          clear q1
          cases q2 : greatB [xh.code, xh.cl, xh.rd, xh.ver] 4 300 with
          | true =>
            have Q2 := Lib.hid q2
            have HG := Lib.hid (show longB l m = true by
              rw [HV.out, List.any_eq_true]
              exact ⟨oAt l k, List.mem_of_getElem? (oAt_get l k (by rw [HLN.out]; exact hlt)), by rw [HXH.out]; unfold greatO; rw [Q1.out, q2]; rfl⟩)
            clear q2 h1 h2 h3 h4 h5 h6 h7 h8 h9 h10 h11 h12 h13 h14 h15
            go_wp2_with fail
            refine wp_region_held_drew (S := (fun w' => w'.cell? ⟨bh, oh + k * 17 + 1, none⟩ = some (.string xh.code) ∧ w'.cell? ⟨bh, oh + k * 17 + 2, none⟩ = some (.string xh.cl) ∧ w'.cell? ⟨bh, oh + k * 17 + 3, none⟩ = some (.string xh.rd) ∧ w'.cell? ⟨bh, oh + k * 17 + 4, none⟩ = some (.string xh.ver) ∧ w'.cell? ⟨bh, oh + k * 17 + 5, none⟩ = some (.string xh.g.user) ∧ w'.cell? ⟨bh, oh + k * 17 + 6, none⟩ = some (.string xh.g.client) ∧ w'.cell? ⟨bh, oh + k * 17 + 7, none⟩ = some (.string xh.g.tenant) ∧ w'.cell? ⟨bh, oh + k * 17 + 8, none⟩ = some (.string xh.g.session) ∧ w'.cell? ⟨bh, oh + k * 17 + 9, none⟩ = some (.string xh.g.redirect) ∧ w'.cell? ⟨bh, oh + k * 17 + 10, none⟩ = some (.string xh.g.nonce) ∧ w'.cell? ⟨bh, oh + k * 17 + 11, none⟩ = some (.string xh.g.challenge) ∧ w'.cell? ⟨bh, oh + k * 17 + 12, none⟩ = some (.int .i64 xh.g.method) ∧ w'.cell? ⟨bh, oh + k * 17 + 13, none⟩ = some (.slice Ah xh.g.scopes.length dh) ∧ w'.cell? ⟨bh, oh + k * 17 + 14, none⟩ = some (.int .i64 xh.g.auth) ∧ w'.cell? ⟨bh, oh + k * 17 + 15, none⟩ = some (.int .i64 xh.g.level))) (by kernel_rfl) ?_ (fun hHeld => ?_)
            focus ((try dsimp only); (first | exact HSK.out _ (Below.refl _ _) | exact HSK.out _ ((Below.refl _ _).drew) | exact HSK.out _ HV1.out | exact HSK.out _ (HV1.out.alloc HV1.out.size _)); done)
            refine wpAnyH_take (i := 0) (oi := ⟨_, _, _, _, _, _⟩) (v := ?_) rfl (by kernel_rfl) (by kernel_rfl) (by kernel_rfl) (fun _ _ _ h => h) (Or.inl ⟨by rfl, ?_⟩) (by assumption) ?_; rotate_left; (focus (intro w hSw; (try dsimp only at hSw); go_simp; (try with_reducible rfl); done)); simp only [Act.put, List.setIfInBounds_toArray, List.set_cons_zero, List.set_cons_succ]
            refine wpAnyH_take (i := 1) (oi := ⟨_, _, _, _, _, _⟩) (v := ?_) rfl (by kernel_rfl) (by kernel_rfl) (by kernel_rfl) (fun _ _ _ h => h) (Or.inl ⟨by rfl, ?_⟩) (by assumption) ?_; rotate_left; (focus (intro w hSw; (try dsimp only at hSw); go_simp; (try with_reducible rfl); done)); simp only [Act.put, List.setIfInBounds_toArray, List.set_cons_zero, List.set_cons_succ]
            refine wpAnyH_take (i := 2) (oi := ⟨_, _, _, _, _, _⟩) (v := ?_) rfl (by kernel_rfl) (by kernel_rfl) (by kernel_rfl) (fun _ _ _ h => h) (Or.inl ⟨by rfl, ?_⟩) (by assumption) ?_; rotate_left; (focus (intro w hSw; (try dsimp only at hSw); go_simp; (try with_reducible rfl); done)); simp only [Act.put, List.setIfInBounds_toArray, List.set_cons_zero, List.set_cons_succ]
            refine wpAnyH_take (i := 3) (oi := ⟨_, _, _, _, _, _⟩) (v := ?_) rfl (by kernel_rfl) (by kernel_rfl) (by kernel_rfl) (fun _ _ _ h => h) (Or.inl ⟨by rfl, ?_⟩) (by assumption) ?_; rotate_left; (focus (intro w hSw; (try dsimp only at hSw); go_simp; (try with_reducible rfl); done)); simp only [Act.put, List.setIfInBounds_toArray, List.set_cons_zero, List.set_cons_succ]
            refine wpAnyH_take (i := 4) (oi := ⟨_, _, _, _, _, _⟩) (v := ?_) rfl (by kernel_rfl) (by kernel_rfl) (by kernel_rfl) (fun _ _ _ h => h) (Or.inl ⟨by rfl, ?_⟩) (by assumption) ?_; rotate_left; (focus (intro w hSw; (try dsimp only at hSw); go_simp; (try with_reducible rfl); done)); simp only [Act.put, List.setIfInBounds_toArray, List.set_cons_zero, List.set_cons_succ]
            refine wpAnyH_ready (rs := [5]) (by kernel_rfl) (by simp) ?_
            refine AllReadyH.cons (o := ⟨_, _, _, _, _, _⟩) rfl (fun K hK => ?_) AllReadyH.nil
            go_simp
            go_wp2_with fail
            refine (greatg_any xh.g Ah xh.g.scopes.length dh _ (HSh.out.below ((Below.refl _ _).drew))).mono ?_
            rintro e v1 ⟨rfl, hv⟩
            have HV1 := Lib.hid (show Below wr.heap.size wr v1 from ((Below.refl _ _).drew).trans hv)
            clear hv
            rw [Q1.out]
            (try go_wp2_with fail)
            refine hK.out _ _ ?_ (fun hHeld => ?_)
            focus ((try dsimp only); (first | exact HSK.out _ (Below.refl _ _) | exact HSK.out _ ((Below.refl _ _).drew) | exact HSK.out _ HV1.out | exact HSK.out _ (HV1.out.alloc HV1.out.size _)); done)
            clear hK K
            (try simp only [Act.put, List.setIfInBounds_toArray, List.set_cons_zero, List.set_cons_succ])
            refine wpAnyH_take (i := 6) (oi := ⟨_, _, _, _, _, _⟩) (v := ?_) rfl (by kernel_rfl) (by kernel_rfl) (by kernel_rfl) (fun _ _ _ h => h) (Or.inl ⟨by rfl, ?_⟩) (by assumption) ?_; rotate_left; (focus (intro w hSw; (try dsimp only at hSw); go_simp; (try with_reducible rfl); done)); simp only [Act.put, List.setIfInBounds_toArray, List.set_cons_zero, List.set_cons_succ]
            refine wpAnyH_take (i := 7) (oi := ⟨_, _, _, _, _, _⟩) (v := ?_) rfl (by kernel_rfl) (by kernel_rfl) (by kernel_rfl) (fun _ _ _ h => h) (Or.inl ⟨by rfl, ?_⟩) (by assumption) ?_; rotate_left; (focus (intro w hSw; (try dsimp only at hSw); go_simp; (try with_reducible rfl); done)); simp only [Act.put, List.setIfInBounds_toArray, List.set_cons_zero, List.set_cons_succ]
            refine wpAnyH_take (i := 8) (oi := ⟨_, _, _, _, _, _⟩) (v := ?_) rfl (by kernel_rfl) (by kernel_rfl) (by kernel_rfl) (fun _ _ _ h => h) (Or.inl ⟨by rfl, ?_⟩) (by assumption) ?_; rotate_left; (focus (intro w hSw; (try dsimp only at hSw); go_simp; (try with_reducible rfl); done)); simp only [Act.put, List.setIfInBounds_toArray, List.set_cons_zero, List.set_cons_succ]
            refine wpAnyH_take (i := 9) (oi := ⟨_, _, _, _, _, _⟩) (v := ?_) rfl (by kernel_rfl) (by kernel_rfl) (by kernel_rfl) (fun _ _ _ h => h) (Or.inl ⟨by rfl, ?_⟩) (by assumption) ?_; rotate_left; (focus (intro w hSw; (try dsimp only at hSw); go_simp; (try with_reducible rfl); done)); simp only [Act.put, List.setIfInBounds_toArray, List.set_cons_zero, List.set_cons_succ]
            refine wpAnyH_take (i := 10) (oi := ⟨_, _, _, _, _, _⟩) (v := ?_) rfl (by kernel_rfl) (by kernel_rfl) (by kernel_rfl) (fun _ _ _ h => h) (Or.inl ⟨by rfl, ?_⟩) (by assumption) ?_; rotate_left; (focus (intro w hSw; (try dsimp only at hSw); go_simp; (try with_reducible rfl); done)); simp only [Act.put, List.setIfInBounds_toArray, List.set_cons_zero, List.set_cons_succ]
            refine wpAnyH_take (i := 11) (oi := ⟨_, _, _, _, _, _⟩) (v := ?_) rfl (by kernel_rfl) (by kernel_rfl) (by kernel_rfl) (fun _ _ _ h => h) (Or.inl ⟨by rfl, ?_⟩) (by assumption) ?_; rotate_left; (focus (intro w hSw; (try dsimp only at hSw); go_simp; (try with_reducible rfl); done)); simp only [Act.put, List.setIfInBounds_toArray, List.set_cons_zero, List.set_cons_succ]
            refine wpAnyH_take (i := 12) (oi := ⟨_, _, _, _, _, _⟩) (v := ?_) rfl (by kernel_rfl) (by kernel_rfl) (by kernel_rfl) (fun _ _ _ h => h) (Or.inl ⟨by rfl, ?_⟩) (by assumption) ?_; rotate_left; (focus (intro w hSw; (try dsimp only at hSw); go_simp; (try with_reducible rfl); done)); simp only [Act.put, List.setIfInBounds_toArray, List.set_cons_zero, List.set_cons_succ]
            refine wpAnyH_take (i := 13) (oi := ⟨_, _, _, _, _, _⟩) (v := ?_) rfl (by kernel_rfl) (by kernel_rfl) (by kernel_rfl) (fun _ _ _ h => h) (Or.inl ⟨by rfl, ?_⟩) (by assumption) ?_; rotate_left; (focus (intro w hSw; (try dsimp only at hSw); go_simp; (try with_reducible rfl); done)); simp only [Act.put, List.setIfInBounds_toArray, List.set_cons_zero, List.set_cons_succ]
            refine wpAnyH_take (i := 14) (oi := ⟨_, _, _, _, _, _⟩) (v := ?_) rfl (by kernel_rfl) (by kernel_rfl) (by kernel_rfl) (fun _ _ _ h => h) (Or.inl ⟨by rfl, ?_⟩) (by assumption) ?_; rotate_left; (focus (intro w hSw; (try dsimp only at hSw); go_simp; (try with_reducible rfl); done)); simp only [Act.put, List.setIfInBounds_toArray, List.set_cons_zero, List.set_cons_succ]
            refine wpAnyH_take (i := 15) (oi := ⟨_, _, _, _, _, _⟩) (v := ?_) rfl (by kernel_rfl) (by kernel_rfl) (by kernel_rfl) (fun _ _ _ h => h) (Or.inl ⟨by rfl, ?_⟩) (by assumption) ?_; rotate_left; (focus (intro w hSw; (try dsimp only at hSw); go_simp; (try with_reducible rfl); done)); simp only [Act.put, List.setIfInBounds_toArray, List.set_cons_zero, List.set_cons_succ]
            refine wpAnyH_take (i := 16) (oi := ⟨_, _, _, _, _, _⟩) (v := ?_) rfl (by kernel_rfl) (by kernel_rfl) (by kernel_rfl) (fun _ _ _ h => h) (Or.inl ⟨by rfl, ?_⟩) (by assumption) ?_; rotate_left; (focus (intro w hSw; (try dsimp only at hSw); go_simp; (try with_reducible rfl); done)); simp only [Act.put, List.setIfInBounds_toArray, List.set_cons_zero, List.set_cons_succ]
            refine wpAnyH_take (i := 17) (oi := ⟨_, _, _, _, _, _⟩) (v := ?_) rfl (by kernel_rfl) (by kernel_rfl) (by kernel_rfl) (fun _ _ _ h => h) (Or.inl ⟨by rfl, ?_⟩) (by assumption) ?_; rotate_left; (focus (intro w hSw; (try dsimp only at hSw); go_simp; (try with_reducible rfl); done)); simp only [Act.put, List.setIfInBounds_toArray, List.set_cons_zero, List.set_cons_succ]
            refine wpAnyH_take (i := 18) (oi := ⟨_, _, _, _, _, _⟩) (v := ?_) rfl (by kernel_rfl) (by kernel_rfl) (by kernel_rfl) (fun _ _ _ h => h) (Or.inl ⟨by rfl, ?_⟩) (by assumption) ?_; rotate_left; (focus (intro w hSw; (try dsimp only at hSw); go_simp; (try with_reducible rfl); done)); simp only [Act.put, List.setIfInBounds_toArray, List.set_cons_zero, List.set_cons_succ]
            refine wpAnyH_take (i := 19) (oi := ⟨_, _, _, _, _, _⟩) (v := ?_) rfl (by kernel_rfl) (by kernel_rfl) (by kernel_rfl) (fun _ _ _ h => h) (Or.inl ⟨by rfl, ?_⟩) (by assumption) ?_; rotate_left; (focus (intro w hSw; (try dsimp only at hSw); go_simp; (try with_reducible rfl); done)); simp only [Act.put, List.setIfInBounds_toArray, List.set_cons_zero, List.set_cons_succ]
            refine wpAnyH_take (i := 20) (oi := ⟨_, _, _, _, _, _⟩) (v := ?_) rfl (by kernel_rfl) (by kernel_rfl) (by kernel_rfl) (fun _ _ _ h => h) (Or.inl ⟨by rfl, ?_⟩) (by assumption) ?_; rotate_left; (focus (intro w hSw; (try dsimp only at hSw); go_simp; (try with_reducible rfl); done)); simp only [Act.put, List.setIfInBounds_toArray, List.set_cons_zero, List.set_cons_succ]
            refine wpAnyH_take (i := 21) (oi := ⟨_, _, _, _, _, _⟩) (v := ?_) rfl (by kernel_rfl) (by kernel_rfl) (by kernel_rfl) (fun _ _ _ h => h) (Or.inl ⟨by rfl, ?_⟩) (by assumption) ?_; rotate_left; (focus (intro w hSw; (try dsimp only at hSw); go_simp; (try with_reducible rfl); done)); simp only [Act.put, List.setIfInBounds_toArray, List.set_cons_zero, List.set_cons_succ]
            refine wpAnyH_take (i := 22) (oi := ⟨_, _, _, _, _, _⟩) (v := ?_) rfl (by kernel_rfl) (by kernel_rfl) (by kernel_rfl) (fun _ _ _ h => h) (Or.inl ⟨by rfl, ?_⟩) (by assumption) ?_; rotate_left; (focus (intro w hSw; (try dsimp only at hSw); go_simp; (try with_reducible rfl); done)); simp only [Act.put, List.setIfInBounds_toArray, List.set_cons_zero, List.set_cons_succ]
            refine wpAnyH_take (i := 23) (oi := ⟨_, _, _, _, _, _⟩) (v := ?_) rfl (by kernel_rfl) (by kernel_rfl) (by kernel_rfl) (fun _ _ _ h => h) (Or.inl ⟨by rfl, ?_⟩) (by assumption) ?_; rotate_left; (focus (intro w hSw; (try dsimp only at hSw); go_simp; (try with_reducible rfl); done)); simp only [Act.put, List.setIfInBounds_toArray, List.set_cons_zero, List.set_cons_succ]
            refine wpAnyH_take (i := 24) (oi := ⟨_, _, _, _, _, _⟩) (v := ?_) rfl (by kernel_rfl) (by kernel_rfl) (by kernel_rfl) (fun _ _ _ h => h) (Or.inl ⟨by rfl, ?_⟩) (by assumption) ?_; rotate_left; (focus (intro w hSw; (try dsimp only at hSw); go_simp; (try with_reducible rfl); done)); simp only [Act.put, List.setIfInBounds_toArray, List.set_cons_zero, List.set_cons_succ]
            refine wpAnyH_take (i := 25) (oi := ⟨_, _, _, _, _, _⟩) (v := ?_) rfl (by kernel_rfl) (by kernel_rfl) (by kernel_rfl) (fun _ _ _ h => h) (Or.inl ⟨by rfl, ?_⟩) (by assumption) ?_; rotate_left; (focus (intro w hSw; (try dsimp only at hSw); go_simp; (try with_reducible rfl); done)); simp only [Act.put, List.setIfInBounds_toArray, List.set_cons_zero, List.set_cons_succ]
            refine wpAnyH_take (i := 26) (oi := ⟨_, _, _, _, _, _⟩) (v := ?_) rfl (by kernel_rfl) (by kernel_rfl) (by kernel_rfl) (fun _ _ _ h => h) (Or.inl ⟨by rfl, ?_⟩) (by assumption) ?_; rotate_left; (focus (intro w hSw; (try dsimp only at hSw); go_simp; (try with_reducible rfl); done)); simp only [Act.put, List.setIfInBounds_toArray, List.set_cons_zero, List.set_cons_succ]
            refine wpAnyH_ready (rs := [27]) (by kernel_rfl) (by simp) ?_
            refine AllReadyH.cons (o := ⟨_, _, _, _, _, _⟩) rfl (fun K hK => ?_) AllReadyH.nil
            go_simp
            (try go_wp2_with fail)
            refine hK.out _ _ ?_ (fun hHeld => ?_)
            focus ((try dsimp only); (first | exact HSK.out _ (Below.refl _ _) | exact HSK.out _ ((Below.refl _ _).drew) | exact HSK.out _ HV1.out | exact HSK.out _ (HV1.out.alloc HV1.out.size _)); done)
            clear hK K
            (try simp only [Act.put, List.setIfInBounds_toArray, List.set_cons_zero, List.set_cons_succ])
            refine wpAnyH_ready (rs := [28]) (by kernel_rfl) (by simp) ?_
            refine AllReadyH.cons (o := ⟨_, _, _, _, _, _⟩) rfl (fun K hK => ?_) AllReadyH.nil
            go_simp
            go_wp2_with fail
            refine (great2_any (some ⟨v1.heap.size, 0, none⟩) 4 4 [xh.code, xh.cl, xh.rd, xh.ver] 4 300 _ (ss_row (l := [xh.code, xh.cl, xh.rd, xh.ver]) (heap_alloc_new v1 (.cells #[.string xh.code, .string xh.cl, .string xh.rd, .string xh.ver] 9))) (by omega)).mono ?_
            rintro e v2 ⟨rfl, rfl⟩
            rw [Q2.out]
            (try go_wp2_with fail)
            refine hK.out _ _ ?_ (fun hHeld => ?_)
            focus ((try dsimp only); (first | exact HSK.out _ (Below.refl _ _) | exact HSK.out _ ((Below.refl _ _).drew) | exact HSK.out _ HV1.out | exact HSK.out _ (HV1.out.alloc HV1.out.size _)); done)
            clear hK K
            (try simp only [Act.put, List.setIfInBounds_toArray, List.set_cons_zero, List.set_cons_succ])
            refine wpAnyH_take (i := 29) (oi := ⟨_, _, _, _, _, _⟩) (v := ?_) rfl (by kernel_rfl) (by kernel_rfl) (by kernel_rfl) (fun _ _ _ h => h) (Or.inl ⟨by rfl, ?_⟩) (by assumption) ?_; rotate_left; (focus (intro w hSw; (try dsimp only at hSw); go_simp; (try with_reducible rfl); done)); simp only [Act.put, List.setIfInBounds_toArray, List.set_cons_zero, List.set_cons_succ]
            refine wpAnyH_done (by kernel_rfl) ?_ _
            go_wp2
            go_ret
            exact ⟨ret_bool HG.out.symm, HB.out.trans ((show Below wr.heap.size wr (v1.alloc (.cells #[.string xh.code, .string xh.cl, .string xh.rd, .string xh.ver] 9)) from (HV1.out).alloc HV1.out.size _).mono HB.out.size)⟩
          | false =>
            have Q2 := Lib.hid q2
            have HG := Lib.hid (show greatO (oAt l k) = false by rw [HXH.out]; unfold greatO; rw [Q1.out, q2]; rfl)
            clear q2 h1 h2 h3 h4 h5 h6 h7 h8 h9 h10 h11 h12 h13 h14 h15
            go_wp2_with fail
            refine wp_region_held_drew (S := (fun w' => w'.cell? ⟨bh, oh + k * 17 + 1, none⟩ = some (.string xh.code) ∧ w'.cell? ⟨bh, oh + k * 17 + 2, none⟩ = some (.string xh.cl) ∧ w'.cell? ⟨bh, oh + k * 17 + 3, none⟩ = some (.string xh.rd) ∧ w'.cell? ⟨bh, oh + k * 17 + 4, none⟩ = some (.string xh.ver) ∧ w'.cell? ⟨bh, oh + k * 17 + 5, none⟩ = some (.string xh.g.user) ∧ w'.cell? ⟨bh, oh + k * 17 + 6, none⟩ = some (.string xh.g.client) ∧ w'.cell? ⟨bh, oh + k * 17 + 7, none⟩ = some (.string xh.g.tenant) ∧ w'.cell? ⟨bh, oh + k * 17 + 8, none⟩ = some (.string xh.g.session) ∧ w'.cell? ⟨bh, oh + k * 17 + 9, none⟩ = some (.string xh.g.redirect) ∧ w'.cell? ⟨bh, oh + k * 17 + 10, none⟩ = some (.string xh.g.nonce) ∧ w'.cell? ⟨bh, oh + k * 17 + 11, none⟩ = some (.string xh.g.challenge) ∧ w'.cell? ⟨bh, oh + k * 17 + 12, none⟩ = some (.int .i64 xh.g.method) ∧ w'.cell? ⟨bh, oh + k * 17 + 13, none⟩ = some (.slice Ah xh.g.scopes.length dh) ∧ w'.cell? ⟨bh, oh + k * 17 + 14, none⟩ = some (.int .i64 xh.g.auth) ∧ w'.cell? ⟨bh, oh + k * 17 + 15, none⟩ = some (.int .i64 xh.g.level))) (by kernel_rfl) ?_ (fun hHeld => ?_)
            focus ((try dsimp only); (first | exact HSK.out _ (Below.refl _ _) | exact HSK.out _ ((Below.refl _ _).drew) | exact HSK.out _ HV1.out | exact HSK.out _ (HV1.out.alloc HV1.out.size _)); done)
            refine wpAnyH_take (i := 0) (oi := ⟨_, _, _, _, _, _⟩) (v := ?_) rfl (by kernel_rfl) (by kernel_rfl) (by kernel_rfl) (fun _ _ _ h => h) (Or.inl ⟨by rfl, ?_⟩) (by assumption) ?_; rotate_left; (focus (intro w hSw; (try dsimp only at hSw); go_simp; (try with_reducible rfl); done)); simp only [Act.put, List.setIfInBounds_toArray, List.set_cons_zero, List.set_cons_succ]
            refine wpAnyH_take (i := 1) (oi := ⟨_, _, _, _, _, _⟩) (v := ?_) rfl (by kernel_rfl) (by kernel_rfl) (by kernel_rfl) (fun _ _ _ h => h) (Or.inl ⟨by rfl, ?_⟩) (by assumption) ?_; rotate_left; (focus (intro w hSw; (try dsimp only at hSw); go_simp; (try with_reducible rfl); done)); simp only [Act.put, List.setIfInBounds_toArray, List.set_cons_zero, List.set_cons_succ]
            refine wpAnyH_take (i := 2) (oi := ⟨_, _, _, _, _, _⟩) (v := ?_) rfl (by kernel_rfl) (by kernel_rfl) (by kernel_rfl) (fun _ _ _ h => h) (Or.inl ⟨by rfl, ?_⟩) (by assumption) ?_; rotate_left; (focus (intro w hSw; (try dsimp only at hSw); go_simp; (try with_reducible rfl); done)); simp only [Act.put, List.setIfInBounds_toArray, List.set_cons_zero, List.set_cons_succ]
            refine wpAnyH_take (i := 3) (oi := ⟨_, _, _, _, _, _⟩) (v := ?_) rfl (by kernel_rfl) (by kernel_rfl) (by kernel_rfl) (fun _ _ _ h => h) (Or.inl ⟨by rfl, ?_⟩) (by assumption) ?_; rotate_left; (focus (intro w hSw; (try dsimp only at hSw); go_simp; (try with_reducible rfl); done)); simp only [Act.put, List.setIfInBounds_toArray, List.set_cons_zero, List.set_cons_succ]
            refine wpAnyH_take (i := 4) (oi := ⟨_, _, _, _, _, _⟩) (v := ?_) rfl (by kernel_rfl) (by kernel_rfl) (by kernel_rfl) (fun _ _ _ h => h) (Or.inl ⟨by rfl, ?_⟩) (by assumption) ?_; rotate_left; (focus (intro w hSw; (try dsimp only at hSw); go_simp; (try with_reducible rfl); done)); simp only [Act.put, List.setIfInBounds_toArray, List.set_cons_zero, List.set_cons_succ]
            refine wpAnyH_ready (rs := [5]) (by kernel_rfl) (by simp) ?_
            refine AllReadyH.cons (o := ⟨_, _, _, _, _, _⟩) rfl (fun K hK => ?_) AllReadyH.nil
            go_simp
            go_wp2_with fail
            refine (greatg_any xh.g Ah xh.g.scopes.length dh _ (HSh.out.below ((Below.refl _ _).drew))).mono ?_
            rintro e v1 ⟨rfl, hv⟩
            have HV1 := Lib.hid (show Below wr.heap.size wr v1 from ((Below.refl _ _).drew).trans hv)
            clear hv
            rw [Q1.out]
            (try go_wp2_with fail)
            refine hK.out _ _ ?_ (fun hHeld => ?_)
            focus ((try dsimp only); (first | exact HSK.out _ (Below.refl _ _) | exact HSK.out _ ((Below.refl _ _).drew) | exact HSK.out _ HV1.out | exact HSK.out _ (HV1.out.alloc HV1.out.size _)); done)
            clear hK K
            (try simp only [Act.put, List.setIfInBounds_toArray, List.set_cons_zero, List.set_cons_succ])
            refine wpAnyH_take (i := 6) (oi := ⟨_, _, _, _, _, _⟩) (v := ?_) rfl (by kernel_rfl) (by kernel_rfl) (by kernel_rfl) (fun _ _ _ h => h) (Or.inl ⟨by rfl, ?_⟩) (by assumption) ?_; rotate_left; (focus (intro w hSw; (try dsimp only at hSw); go_simp; (try with_reducible rfl); done)); simp only [Act.put, List.setIfInBounds_toArray, List.set_cons_zero, List.set_cons_succ]
            refine wpAnyH_take (i := 7) (oi := ⟨_, _, _, _, _, _⟩) (v := ?_) rfl (by kernel_rfl) (by kernel_rfl) (by kernel_rfl) (fun _ _ _ h => h) (Or.inl ⟨by rfl, ?_⟩) (by assumption) ?_; rotate_left; (focus (intro w hSw; (try dsimp only at hSw); go_simp; (try with_reducible rfl); done)); simp only [Act.put, List.setIfInBounds_toArray, List.set_cons_zero, List.set_cons_succ]
            refine wpAnyH_take (i := 8) (oi := ⟨_, _, _, _, _, _⟩) (v := ?_) rfl (by kernel_rfl) (by kernel_rfl) (by kernel_rfl) (fun _ _ _ h => h) (Or.inl ⟨by rfl, ?_⟩) (by assumption) ?_; rotate_left; (focus (intro w hSw; (try dsimp only at hSw); go_simp; (try with_reducible rfl); done)); simp only [Act.put, List.setIfInBounds_toArray, List.set_cons_zero, List.set_cons_succ]
            refine wpAnyH_take (i := 9) (oi := ⟨_, _, _, _, _, _⟩) (v := ?_) rfl (by kernel_rfl) (by kernel_rfl) (by kernel_rfl) (fun _ _ _ h => h) (Or.inl ⟨by rfl, ?_⟩) (by assumption) ?_; rotate_left; (focus (intro w hSw; (try dsimp only at hSw); go_simp; (try with_reducible rfl); done)); simp only [Act.put, List.setIfInBounds_toArray, List.set_cons_zero, List.set_cons_succ]
            refine wpAnyH_take (i := 10) (oi := ⟨_, _, _, _, _, _⟩) (v := ?_) rfl (by kernel_rfl) (by kernel_rfl) (by kernel_rfl) (fun _ _ _ h => h) (Or.inl ⟨by rfl, ?_⟩) (by assumption) ?_; rotate_left; (focus (intro w hSw; (try dsimp only at hSw); go_simp; (try with_reducible rfl); done)); simp only [Act.put, List.setIfInBounds_toArray, List.set_cons_zero, List.set_cons_succ]
            refine wpAnyH_take (i := 11) (oi := ⟨_, _, _, _, _, _⟩) (v := ?_) rfl (by kernel_rfl) (by kernel_rfl) (by kernel_rfl) (fun _ _ _ h => h) (Or.inl ⟨by rfl, ?_⟩) (by assumption) ?_; rotate_left; (focus (intro w hSw; (try dsimp only at hSw); go_simp; (try with_reducible rfl); done)); simp only [Act.put, List.setIfInBounds_toArray, List.set_cons_zero, List.set_cons_succ]
            refine wpAnyH_take (i := 12) (oi := ⟨_, _, _, _, _, _⟩) (v := ?_) rfl (by kernel_rfl) (by kernel_rfl) (by kernel_rfl) (fun _ _ _ h => h) (Or.inl ⟨by rfl, ?_⟩) (by assumption) ?_; rotate_left; (focus (intro w hSw; (try dsimp only at hSw); go_simp; (try with_reducible rfl); done)); simp only [Act.put, List.setIfInBounds_toArray, List.set_cons_zero, List.set_cons_succ]
            refine wpAnyH_take (i := 13) (oi := ⟨_, _, _, _, _, _⟩) (v := ?_) rfl (by kernel_rfl) (by kernel_rfl) (by kernel_rfl) (fun _ _ _ h => h) (Or.inl ⟨by rfl, ?_⟩) (by assumption) ?_; rotate_left; (focus (intro w hSw; (try dsimp only at hSw); go_simp; (try with_reducible rfl); done)); simp only [Act.put, List.setIfInBounds_toArray, List.set_cons_zero, List.set_cons_succ]
            refine wpAnyH_take (i := 14) (oi := ⟨_, _, _, _, _, _⟩) (v := ?_) rfl (by kernel_rfl) (by kernel_rfl) (by kernel_rfl) (fun _ _ _ h => h) (Or.inl ⟨by rfl, ?_⟩) (by assumption) ?_; rotate_left; (focus (intro w hSw; (try dsimp only at hSw); go_simp; (try with_reducible rfl); done)); simp only [Act.put, List.setIfInBounds_toArray, List.set_cons_zero, List.set_cons_succ]
            refine wpAnyH_take (i := 15) (oi := ⟨_, _, _, _, _, _⟩) (v := ?_) rfl (by kernel_rfl) (by kernel_rfl) (by kernel_rfl) (fun _ _ _ h => h) (Or.inl ⟨by rfl, ?_⟩) (by assumption) ?_; rotate_left; (focus (intro w hSw; (try dsimp only at hSw); go_simp; (try with_reducible rfl); done)); simp only [Act.put, List.setIfInBounds_toArray, List.set_cons_zero, List.set_cons_succ]
            refine wpAnyH_take (i := 16) (oi := ⟨_, _, _, _, _, _⟩) (v := ?_) rfl (by kernel_rfl) (by kernel_rfl) (by kernel_rfl) (fun _ _ _ h => h) (Or.inl ⟨by rfl, ?_⟩) (by assumption) ?_; rotate_left; (focus (intro w hSw; (try dsimp only at hSw); go_simp; (try with_reducible rfl); done)); simp only [Act.put, List.setIfInBounds_toArray, List.set_cons_zero, List.set_cons_succ]
            refine wpAnyH_take (i := 17) (oi := ⟨_, _, _, _, _, _⟩) (v := ?_) rfl (by kernel_rfl) (by kernel_rfl) (by kernel_rfl) (fun _ _ _ h => h) (Or.inl ⟨by rfl, ?_⟩) (by assumption) ?_; rotate_left; (focus (intro w hSw; (try dsimp only at hSw); go_simp; (try with_reducible rfl); done)); simp only [Act.put, List.setIfInBounds_toArray, List.set_cons_zero, List.set_cons_succ]
            refine wpAnyH_take (i := 18) (oi := ⟨_, _, _, _, _, _⟩) (v := ?_) rfl (by kernel_rfl) (by kernel_rfl) (by kernel_rfl) (fun _ _ _ h => h) (Or.inl ⟨by rfl, ?_⟩) (by assumption) ?_; rotate_left; (focus (intro w hSw; (try dsimp only at hSw); go_simp; (try with_reducible rfl); done)); simp only [Act.put, List.setIfInBounds_toArray, List.set_cons_zero, List.set_cons_succ]
            refine wpAnyH_take (i := 19) (oi := ⟨_, _, _, _, _, _⟩) (v := ?_) rfl (by kernel_rfl) (by kernel_rfl) (by kernel_rfl) (fun _ _ _ h => h) (Or.inl ⟨by rfl, ?_⟩) (by assumption) ?_; rotate_left; (focus (intro w hSw; (try dsimp only at hSw); go_simp; (try with_reducible rfl); done)); simp only [Act.put, List.setIfInBounds_toArray, List.set_cons_zero, List.set_cons_succ]
            refine wpAnyH_take (i := 20) (oi := ⟨_, _, _, _, _, _⟩) (v := ?_) rfl (by kernel_rfl) (by kernel_rfl) (by kernel_rfl) (fun _ _ _ h => h) (Or.inl ⟨by rfl, ?_⟩) (by assumption) ?_; rotate_left; (focus (intro w hSw; (try dsimp only at hSw); go_simp; (try with_reducible rfl); done)); simp only [Act.put, List.setIfInBounds_toArray, List.set_cons_zero, List.set_cons_succ]
            refine wpAnyH_take (i := 21) (oi := ⟨_, _, _, _, _, _⟩) (v := ?_) rfl (by kernel_rfl) (by kernel_rfl) (by kernel_rfl) (fun _ _ _ h => h) (Or.inl ⟨by rfl, ?_⟩) (by assumption) ?_; rotate_left; (focus (intro w hSw; (try dsimp only at hSw); go_simp; (try with_reducible rfl); done)); simp only [Act.put, List.setIfInBounds_toArray, List.set_cons_zero, List.set_cons_succ]
            refine wpAnyH_take (i := 22) (oi := ⟨_, _, _, _, _, _⟩) (v := ?_) rfl (by kernel_rfl) (by kernel_rfl) (by kernel_rfl) (fun _ _ _ h => h) (Or.inl ⟨by rfl, ?_⟩) (by assumption) ?_; rotate_left; (focus (intro w hSw; (try dsimp only at hSw); go_simp; (try with_reducible rfl); done)); simp only [Act.put, List.setIfInBounds_toArray, List.set_cons_zero, List.set_cons_succ]
            refine wpAnyH_take (i := 23) (oi := ⟨_, _, _, _, _, _⟩) (v := ?_) rfl (by kernel_rfl) (by kernel_rfl) (by kernel_rfl) (fun _ _ _ h => h) (Or.inl ⟨by rfl, ?_⟩) (by assumption) ?_; rotate_left; (focus (intro w hSw; (try dsimp only at hSw); go_simp; (try with_reducible rfl); done)); simp only [Act.put, List.setIfInBounds_toArray, List.set_cons_zero, List.set_cons_succ]
            refine wpAnyH_take (i := 24) (oi := ⟨_, _, _, _, _, _⟩) (v := ?_) rfl (by kernel_rfl) (by kernel_rfl) (by kernel_rfl) (fun _ _ _ h => h) (Or.inl ⟨by rfl, ?_⟩) (by assumption) ?_; rotate_left; (focus (intro w hSw; (try dsimp only at hSw); go_simp; (try with_reducible rfl); done)); simp only [Act.put, List.setIfInBounds_toArray, List.set_cons_zero, List.set_cons_succ]
            refine wpAnyH_take (i := 25) (oi := ⟨_, _, _, _, _, _⟩) (v := ?_) rfl (by kernel_rfl) (by kernel_rfl) (by kernel_rfl) (fun _ _ _ h => h) (Or.inl ⟨by rfl, ?_⟩) (by assumption) ?_; rotate_left; (focus (intro w hSw; (try dsimp only at hSw); go_simp; (try with_reducible rfl); done)); simp only [Act.put, List.setIfInBounds_toArray, List.set_cons_zero, List.set_cons_succ]
            refine wpAnyH_take (i := 26) (oi := ⟨_, _, _, _, _, _⟩) (v := ?_) rfl (by kernel_rfl) (by kernel_rfl) (by kernel_rfl) (fun _ _ _ h => h) (Or.inl ⟨by rfl, ?_⟩) (by assumption) ?_; rotate_left; (focus (intro w hSw; (try dsimp only at hSw); go_simp; (try with_reducible rfl); done)); simp only [Act.put, List.setIfInBounds_toArray, List.set_cons_zero, List.set_cons_succ]
            refine wpAnyH_ready (rs := [27]) (by kernel_rfl) (by simp) ?_
            refine AllReadyH.cons (o := ⟨_, _, _, _, _, _⟩) rfl (fun K hK => ?_) AllReadyH.nil
            go_simp
            (try go_wp2_with fail)
            refine hK.out _ _ ?_ (fun hHeld => ?_)
            focus ((try dsimp only); (first | exact HSK.out _ (Below.refl _ _) | exact HSK.out _ ((Below.refl _ _).drew) | exact HSK.out _ HV1.out | exact HSK.out _ (HV1.out.alloc HV1.out.size _)); done)
            clear hK K
            (try simp only [Act.put, List.setIfInBounds_toArray, List.set_cons_zero, List.set_cons_succ])
            refine wpAnyH_ready (rs := [28]) (by kernel_rfl) (by simp) ?_
            refine AllReadyH.cons (o := ⟨_, _, _, _, _, _⟩) rfl (fun K hK => ?_) AllReadyH.nil
            go_simp
            go_wp2_with fail
            refine (great2_any (some ⟨v1.heap.size, 0, none⟩) 4 4 [xh.code, xh.cl, xh.rd, xh.ver] 4 300 _ (ss_row (l := [xh.code, xh.cl, xh.rd, xh.ver]) (heap_alloc_new v1 (.cells #[.string xh.code, .string xh.cl, .string xh.rd, .string xh.ver] 9))) (by omega)).mono ?_
            rintro e v2 ⟨rfl, rfl⟩
            rw [Q2.out]
            (try go_wp2_with fail)
            refine hK.out _ _ ?_ (fun hHeld => ?_)
            focus ((try dsimp only); (first | exact HSK.out _ (Below.refl _ _) | exact HSK.out _ ((Below.refl _ _).drew) | exact HSK.out _ HV1.out | exact HSK.out _ (HV1.out.alloc HV1.out.size _)); done)
            clear hK K
            (try simp only [Act.put, List.setIfInBounds_toArray, List.set_cons_zero, List.set_cons_succ])
            refine wpAnyH_take (i := 29) (oi := ⟨_, _, _, _, _, _⟩) (v := ?_) rfl (by kernel_rfl) (by kernel_rfl) (by kernel_rfl) (fun _ _ _ h => h) (Or.inl ⟨by rfl, ?_⟩) (by assumption) ?_; rotate_left; (focus (intro w hSw; (try dsimp only at hSw); go_simp; (try with_reducible rfl); done)); simp only [Act.put, List.setIfInBounds_toArray, List.set_cons_zero, List.set_cons_succ]
            refine wpAnyH_done (by kernel_rfl) ?_ _
            go_wp2
            go_roundw
            case rel => exact ⟨k + 1, by go_num, by omega, (fun q hq => if e : q = k then by rw [e]; exact HG.out else HA.out q (by omega)), HB.out.trans ((show Below wr.heap.size wr (v1.alloc (.cells #[.string xh.code, .string xh.cl, .string xh.rd, .string xh.ver] 9)) from (HV1.out).alloc HV1.out.size _).mono HB.out.size)⟩
            case measure => simp [intOf]; omega
      · have e : k = n := by omega
        have HR := Lib.hid (show longB l m = false by
          rw [HV.out, List.any_eq_false]
          intro x hx
          obtain ⟨q, hq, rfl⟩ := List.getElem_of_mem hx
          have h2 := HA.out q (by rw [e, ← HLN.out]; exact hq)
          have h3 := oAt_get l q hq
          rw [List.getElem?_eq_getElem hq] at h3
          rw [Option.some.inj h3, h2]
          simp)
        go_wp2
        go_ret
        exact ⟨ret_bool HR.out.symm, HB.out⟩
end Go.Proofs.YtioabjniipkncaaGreatDoor.Rc
