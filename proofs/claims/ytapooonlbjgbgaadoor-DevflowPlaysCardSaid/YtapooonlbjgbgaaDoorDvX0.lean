/-
  Operations of the statements in memory.
-/
import Derived.Test.YtapooonlbjgbgaaDoorDvSb
namespace Go.Proofs.YtapooonlbjgbgaaDoor.Dv
open Go.RowKit Go.Proofs.YtapooonlbjgbgaaDoor.Fo Go.Proofs.YtapooonlbjgbgaaDoor.Rf

/-- An operation. -/
structure Opd where
  kind : Int
  dev : Bs
  user : Bs
  cl : Bs
  sc : List Bs
  g : Gr
  now : Int
def op0 : Opd := ⟨0, eB, eB, eB, [], noG, 0⟩
def oAt (l : List Opd) (i : Nat) : Opd := l.getD i op0
theorem oAt_get (l : List Opd) (i : Nat) (h : i < l.length) : l[i]? = some (oAt l i) := by simp [oAt, List.getD, h]
def OpAt (w : World) (b o : Nat) (x : Opd) : Prop :=
  ∃ A c B d, w.cell? ⟨b, o, none⟩ = some (.int .i64 x.kind) ∧ w.cell? ⟨b, o + 1, none⟩ = some (.string x.dev) ∧ w.cell? ⟨b, o + 2, none⟩ = some (.string x.user) ∧ w.cell? ⟨b, o + 3, none⟩ = some (.string x.cl) ∧ w.cell? ⟨b, o + 4, none⟩ = some (.slice B x.sc.length d) ∧ w.cell? ⟨b, o + 5, none⟩ = some (.string x.g.user) ∧ w.cell? ⟨b, o + 6, none⟩ = some (.string x.g.client) ∧ w.cell? ⟨b, o + 7, none⟩ = some (.string x.g.tenant) ∧ w.cell? ⟨b, o + 8, none⟩ = some (.string x.g.session) ∧ w.cell? ⟨b, o + 9, none⟩ = some (.string x.g.redirect) ∧ w.cell? ⟨b, o + 10, none⟩ = some (.string x.g.nonce) ∧ w.cell? ⟨b, o + 11, none⟩ = some (.string x.g.challenge) ∧ w.cell? ⟨b, o + 12, none⟩ = some (.int .i64 x.g.method) ∧ w.cell? ⟨b, o + 13, none⟩ = some (.slice A x.g.scopes.length c) ∧ w.cell? ⟨b, o + 14, none⟩ = some (.int .i64 x.g.auth) ∧ w.cell? ⟨b, o + 15, none⟩ = some (.int .i64 x.g.level) ∧ w.cell? ⟨b, o + 16, none⟩ = some (.int .i64 x.now) ∧ Ss w A x.g.scopes.length c x.g.scopes ∧ Ss w B x.sc.length d x.sc ∧ x.g.scopes.length ≤ 9223372036854775807 ∧ x.sc.length ≤ 9223372036854775807
def Os (w : World) (A : Option Addr) (n _c : Nat) (l : List Opd) : Prop :=
  l.length = n ∧ n ≤ 9223372036854775807 ∧ (0 < n → ∃ b off, A = some ⟨b, off, none⟩ ∧ b < w.heap.size ∧ ∀ i, i < n → OpAt w b (off + i * 17) (oAt l i))
theorem OpAt.below {w w' : World} {b o : Nat} {x : Opd} (h : OpAt w b o x) (hb : Below w.heap.size w w') (hl : b < w.heap.size) : OpAt w' b o x := by
  obtain ⟨A, c, B, d, h0, h1, h2, h3, h4, h5, h6, h7, h8, h9, h10, h11, h12, h13, h14, h15, h16, hs, ht, hu, hv⟩ := h
  have k := bkeep hb hl
  exact ⟨A, c, B, d, by rw [k]; exact h0, by rw [k]; exact h1, by rw [k]; exact h2, by rw [k]; exact h3, by rw [k]; exact h4, by rw [k]; exact h5, by rw [k]; exact h6, by rw [k]; exact h7, by rw [k]; exact h8, by rw [k]; exact h9, by rw [k]; exact h10, by rw [k]; exact h11, by rw [k]; exact h12, by rw [k]; exact h13, by rw [k]; exact h14, by rw [k]; exact h15, by rw [k]; exact h16, hs.below hb, ht.below hb, hu, hv⟩
theorem Os.below {w w' : World} {A : Option Addr} {n c : Nat} {l : List Opd} (h : Os w A n c l) (hb : Below w.heap.size w w') : Os w' A n c l := by
  refine ⟨h.1, h.2.1, fun hn => ?_⟩
  obtain ⟨b, off, hA, hl, hc⟩ := h.2.2 hn
  exact ⟨b, off, hA, Nat.lt_of_lt_of_le hl hb.size, fun i hi => (hc i hi).below hb hl⟩
theorem Os.at {w : World} {A : Option Addr} {n c : Nat} {l : List Opd} (h : Os w A n c l) {k : Nat} (hk : k < n) :
    ∃ b off A' c' B d x, A = some ⟨b, off, none⟩ ∧ b < w.heap.size ∧ oAt l k = x ∧ w.cell? ⟨b, off + k * 17, none⟩ = some (.int .i64 x.kind) ∧ w.cell? ⟨b, off + k * 17 + 1, none⟩ = some (.string x.dev) ∧ w.cell? ⟨b, off + k * 17 + 2, none⟩ = some (.string x.user) ∧ w.cell? ⟨b, off + k * 17 + 3, none⟩ = some (.string x.cl) ∧ w.cell? ⟨b, off + k * 17 + 4, none⟩ = some (.slice B x.sc.length d) ∧ w.cell? ⟨b, off + k * 17 + 5, none⟩ = some (.string x.g.user) ∧ w.cell? ⟨b, off + k * 17 + 6, none⟩ = some (.string x.g.client) ∧ w.cell? ⟨b, off + k * 17 + 7, none⟩ = some (.string x.g.tenant) ∧ w.cell? ⟨b, off + k * 17 + 8, none⟩ = some (.string x.g.session) ∧ w.cell? ⟨b, off + k * 17 + 9, none⟩ = some (.string x.g.redirect) ∧ w.cell? ⟨b, off + k * 17 + 10, none⟩ = some (.string x.g.nonce) ∧ w.cell? ⟨b, off + k * 17 + 11, none⟩ = some (.string x.g.challenge) ∧ w.cell? ⟨b, off + k * 17 + 12, none⟩ = some (.int .i64 x.g.method) ∧ w.cell? ⟨b, off + k * 17 + 13, none⟩ = some (.slice A' x.g.scopes.length c') ∧ w.cell? ⟨b, off + k * 17 + 14, none⟩ = some (.int .i64 x.g.auth) ∧ w.cell? ⟨b, off + k * 17 + 15, none⟩ = some (.int .i64 x.g.level) ∧ w.cell? ⟨b, off + k * 17 + 16, none⟩ = some (.int .i64 x.now) ∧ Ss w A' x.g.scopes.length c' x.g.scopes ∧ Ss w B x.sc.length d x.sc ∧ x.g.scopes.length ≤ 9223372036854775807 ∧ x.sc.length ≤ 9223372036854775807 := by
  obtain ⟨b, off, rfl, hb, hc⟩ := h.2.2 (by omega)
  obtain ⟨A', c', B, d, h0, h1, h2, h3, h4, h5, h6, h7, h8, h9, h10, h11, h12, h13, h14, h15, h16, hs, ht, hu, hv⟩ := hc k hk
  exact ⟨b, off, A', c', B, d, _, rfl, hb, rfl, h0, h1, h2, h3, h4, h5, h6, h7, h8, h9, h10, h11, h12, h13, h14, h15, h16, hs, ht, hu, hv⟩
/-- At most twenty strings of at most a hundred bytes. -/
def shortB (l : List Bs) : Bool := l.all (fun s => decide (s.size ≤ 100)) && decide (l.length ≤ 20)
def fewO (x : Opd) : Bool := shortB [x.dev, x.user, x.cl, x.g.client, x.g.user] && shortB x.sc && shortB x.g.scopes
def fewB (l : List Opd) : Bool := l.all fewO && decide (l.length ≤ 25)
theorem short_at {l : List Bs} (h : shortB l = true) : Short l ∧ l.length ≤ 20 ∧ ∀ s ∈ l, s.size ≤ 100 := by
  unfold shortB at h
  simp only [Bool.and_eq_true, decide_eq_true_eq, List.all_eq_true] at h
  refine ⟨fun i hi => ?_, h.2, h.1⟩
  have := h.1 (sAt l i) (by simp [sAt, List.getD, hi])
  omega
theorem few_at {l : List Opd} (h : fewB l = true) {k : Nat} (hk : k < l.length) : fewO (oAt l k) = true := by
  unfold fewB at h
  simp only [Bool.and_eq_true, List.all_eq_true] at h
  exact h.1 _ (List.mem_of_getElem? (oAt_get l k hk))
theorem few_len {l : List Opd} (h : fewB l = true) : l.length ≤ 25 := by
  unfold fewB at h
  simp only [Bool.and_eq_true, decide_eq_true_eq] at h
  exact h.2
theorem few_parts {x : Opd} (h : fewO x = true) : (x.dev.size ≤ 100 ∧ x.user.size ≤ 100 ∧ x.cl.size ≤ 100 ∧ x.g.client.size ≤ 100 ∧ x.g.user.size ≤ 100) ∧ (Short x.sc ∧ x.sc.length ≤ 20) ∧ Short x.g.scopes ∧ x.g.scopes.length ≤ 20 := by
  unfold fewO at h
  simp only [Bool.and_eq_true] at h
  obtain ⟨⟨h1, h2⟩, h3⟩ := h
  have k1 := (short_at h1).2.2
  have k2 := short_at h2
  have k3 := short_at h3
  exact ⟨⟨k1 _ (by simp), k1 _ (by simp), k1 _ (by simp), k1 _ (by simp), k1 _ (by simp)⟩, ⟨k2.1, k2.2.1⟩, k3.1, k3.2.1⟩
theorem short_any (A : Option Addr) (n c : Nat) (l : List Bs) (w : World) (hs : Ss w A n c l) (hn : n ≤ 9223372036854775807) {b : Bool} (hb : shortB l = b) : Calls Tryd.prog 34 #[.slice A n c] w fun e w' => e = .returned (.bool b) ∧ w = w' := by
  have HS := Lib.hid hs
  have HB := Lib.hid hb
  have HLN := Lib.hid hs.1
  clear hs hb
  go_enter Tryd.func34, Tryd.ntmps34
  go_wp2
  go_loop [3] (fun i => ∃ k : Nat, i = .int .i64 k ∧ k ≤ n ∧ Hid (∀ q, q < k → (sAt l q).size ≤ 100)) (fun i => n - (intOf i).toNat)
  case atStart => exact ⟨0, rfl, Nat.zero_le _, Lib.hid (fun q hq => absurd hq (Nat.not_lt_zero _))⟩
  case round =>
    obtain ⟨k, rfl, hk, HA⟩ := hrel
    by_cases hlt : k < n
    · obtain ⟨b0, off, rfl, hbl, hc⟩ := HS.out.2.2 (by omega)
      have hck := hc k hlt
      obtain ⟨x, hx⟩ : ∃ x, sAt l k = x := ⟨_, rfl⟩
      rw [hx] at hck
      have HX := Lib.hid hx
      clear hx hc
      by_cases hz : (100 : Int) < (x.size : Int)
      · have HF := Lib.hid (show b = false by
          rw [← HB.out]
          unfold shortB
          rw [Bool.and_eq_false_iff]
          refine Or.inl (List.all_eq_false.2 ⟨sAt l k, ?_, ?_⟩)
          · have hk2 : k < l.length := by rw [HLN.out]; exact hlt
            simp [sAt, List.getD, hk2]
          · rw [HX.out]; simp; omega)
        go_wp2
        go_ret
        exact ⟨ret_bool HF.out.symm, rfl⟩
      · have HZ := Lib.hid (show x.size ≤ 100 by omega)
        go_wp2
        go_round
        case rel => exact ⟨k + 1, by go_num, by omega, Lib.hid (fun q hq => if e : q = k then by rw [e, HX.out]; exact HZ.out else HA.out q (by omega))⟩
        case measure => simp [intOf]; omega
    · have e : k = n := by omega
      subst e
      have HF := Lib.hid (show b = decide ((k : Int) ≤ 20) by
        rw [← HB.out]
        unfold shortB
        rw [List.all_eq_true.2 (fun s hs => by
          obtain ⟨q, hq, e⟩ := List.getElem_of_mem hs
          have := HA.out q (by rw [← HLN.out]; exact hq)
          simp only [sAt, List.getD, List.getElem?_eq_getElem hq, Option.getD_some] at this
          rw [← e]; simpa using this), Bool.true_and, HLN.out]
        exact decide_eq_decide.2 (by omega))
      go_wp2
      go_ret
      exact ⟨ret_bool HF.out.symm, rfl⟩
end Go.Proofs.YtapooonlbjgbgaaDoor.Dv
