/-
  Plain facts of CsnChain; slices of integers; a box that is written. No walk of the law.
-/
import Derived.Test.YteidbomkbddliaaCsnTx
namespace Go.Proofs.Yteidbomkbddliaa.Csn
open Go.RowKit

/-- Element i of a list of integers. -/
def iAt (l : List Int) (i : Nat) : Int := l.getD i 0
/-- A slice of integers. -/
def Si (w : World) (A : Option Addr) (n c : Nat) (l : List Int) : Prop :=
  l.length = n ∧ n ≤ c ∧ (0 < n → ∃ b off, A = some ⟨b, off, none⟩ ∧ b < w.heap.size ∧ ∀ i, i < n → w.cell? ⟨b, off + i, none⟩ = some (.int .i64 (iAt l i)))
theorem Si.below {w w' : World} {A : Option Addr} {n c : Nat} {l : List Int} (h : Si w A n c l) (hb : Below w.heap.size w w') : Si w' A n c l := by
  refine ⟨h.1, h.2.1, fun hn => ?_⟩
  obtain ⟨b, off, hA, hl, hc⟩ := h.2.2 hn
  refine ⟨b, off, hA, Nat.lt_of_lt_of_le hl hb.size, fun i hi => ?_⟩
  rw [bkeep hb hl]
  exact hc i hi
/-- A box that may be written. -/
def Fz (w : World) (g : Nat) : Prop := w.frozen? ⟨g, 0, none⟩ = false ∧ w.frozen? ⟨g, 1, none⟩ = false ∧ w.frozen? ⟨g, 2, none⟩ = false
theorem Fz.later {w w' : World} {g : Nat} (h : Fz w g) (hg : g < w.heap.size) (hb : Below w.heap.size w w') : Fz w' g := by
  obtain ⟨a, b, c⟩ := h
  exact ⟨by rw [bkeepf hb hg]; exact a, by rw [bkeepf hb hg]; exact b, by rw [bkeepf hb hg]; exact c⟩
theorem Fz.mk_ (w : World) (t s r : Int) (T : TypeId) : Fz (w.alloc (.cells #[.int .i64 t, .int .i64 s, .int .i64 r] T)) w.heap.size := ⟨by simp [go_sem], by simp [go_sem], by simp [go_sem]⟩
theorem Fz.set {w : World} {g : Nat} (h : Fz w g) (p : Addr) (u : Value) : Fz (w.setCell p u) g := by
  obtain ⟨a, b, c⟩ := h
  exact ⟨by rw [World.frozen?_setCell]; exact a, by rw [World.frozen?_setCell]; exact b, by rw [World.frozen?_setCell]; exact c⟩
theorem Bx.stored {w : World} {g : Nat} {t s r : Int} (h : Bx w g t s r) (a b d : Int) : Bx (((w.setCell ⟨g, 0, none⟩ (.int .i64 a)).setCell ⟨g, 1, none⟩ (.int .i64 b)).setCell ⟨g, 2, none⟩ (.int .i64 d)) g a b d := by
  obtain ⟨h0, h1, h2, h3⟩ := h
  refine ⟨by simp [World.setCell]; exact h0, ?_, ?_, ?_⟩
  · rw [World.cell?_setCell_other _ _ _ _ (by simp), World.cell?_setCell_other _ _ _ _ (by simp)]
    exact World.cell?_setCell_same _ _ _ h1
  · rw [World.cell?_setCell_other _ _ _ _ (by simp)]
    exact World.cell?_setCell_same _ _ _ (by rw [World.cell?_setCell_other _ _ _ _ (by simp)]; exact h2)
  · exact World.cell?_setCell_same _ _ _ (by rw [World.cell?_setCell_other _ _ _ _ (by simp), World.cell?_setCell_other _ _ _ _ (by simp)]; exact h3)
theorem chain_ok {t s r now rep : Int} (hv : vld t s r = true) (h : (nextC t s r now rep).2 = 0) :
    vld (nextC t s r now rep).1.1 (nextC t s r now rep).1.2.1 (nextC t s r now rep).1.2.2 = true ∧
    cmpC t s r (nextC t s r now rep).1.1 (nextC t s r now rep).1.2.1 (nextC t s r now rep).1.2.2 = -1 ∧
    Op.bytesLess (fmtC t s r) (fmtC (nextC t s r now rep).1.1 (nextC t s r now rep).1.2.1 (nextC t s r now rep).1.2.2) = true ∧ inst now ≤ (nextC t s r now rep).1.1 := by
  obtain ⟨h1, h2, _⟩ := next_law h
  have h3 : cmpC t s r (nextC t s r now rep).1.1 (nextC t s r now rep).1.2.1 (nextC t s r now rep).1.2.2 = -1 := by rw [cmp_neg, h2]
  refine ⟨h1, h3, ?_, ?_⟩
  · have h4 := text_order hv h1
    rw [h3] at h4
    unfold ordS at h4
    split at h4
    · assumption
    · split at h4 <;> omega
  · unfold nextC at h ⊢
    by_cases b1 : vld t s r = false ∨ rep < 0 ∨ 8 ≤ rep
    · rw [if_pos b1] at h; cases h
    · rw [if_neg b1] at h ⊢
      by_cases b2 : t < inst now
      · rw [if_pos b2]; exact Int.le_refl _
      · rw [if_neg b2] at h ⊢
        by_cases b3 : s = 4294967295
        · rw [if_pos b3] at h; cases h
        · rw [if_neg b3]; simp only; omega
theorem chain_bad {t s r now rep : Int} (hv : vld t s r = true) (h : (nextC t s r now rep).2 ≠ 0) :
    ((nextC t s r now rep).2 = 2 ∧ (rep < 0 ∨ 8 ≤ rep)) ∨ ((nextC t s r now rep).2 = 27 ∧ 0 ≤ rep ∧ rep < 8) := by
  unfold nextC at h ⊢
  by_cases b1 : vld t s r = false ∨ rep < 0 ∨ 8 ≤ rep
  · rw [if_pos b1]
    rw [hv] at b1
    exact Or.inl ⟨rfl, by simpa using b1⟩
  · rw [if_neg b1] at h ⊢
    by_cases b2 : t < inst now
    · rw [if_pos b2] at h; exact absurd rfl h
    · rw [if_neg b2] at h ⊢
      by_cases b3 : s = 4294967295
      · rw [if_pos b3]
        exact Or.inr ⟨rfl, by omega, by omega⟩
      · rw [if_neg b3] at h; exact absurd rfl h
theorem compare_is (t s r t' s' r' z : Int) (w : World) (h : cmpC t s r t' s' r' = z) :
    Calls Try.prog 11 #[.agg #[.int .i64 t, .int .i64 s, .int .i64 r], .agg #[.int .i64 t', .int .i64 s', .int .i64 r']] w fun e w' => e = .returned (.int .i64 z) ∧ Below w.heap.size w w' := by
  have := compare_any t s r t' s' r' w
  rwa [h] at this
theorem instant_b (n : Int) (w : World) :
    Calls Try.prog 23 #[.int .i64 n] w fun e w' => e = .returned (.int .i64 (inst n)) ∧ Below w.heap.size w w' :=
  (instant_any n w).mono fun _ _ ⟨h1, h2⟩ => ⟨h1, by subst h2; exact Below.refl _ _⟩
theorem c4_mk {w w' : World} {g b o : Nat} {t s r z : Int} (h1 : Bx w g t s r) (hb0 : b < w.heap.size) (h2 : w.cell? ⟨b, o, none⟩ = some (.int .i64 z)) (hb : Below w.heap.size w w') :
    w'.cell? ⟨g, 0, none⟩ = some (.int .i64 t) ∧ w'.cell? ⟨g, 1, none⟩ = some (.int .i64 s) ∧ w'.cell? ⟨g, 2, none⟩ = some (.int .i64 r) ∧ w'.cell? ⟨b, o, none⟩ = some (.int .i64 z) :=
  ⟨(h1.later hb).2.1, (h1.later hb).2.2.1, (h1.later hb).2.2.2, by rw [bkeep hb hb0]; exact h2⟩
theorem c7_mk {w w' : World} {g g' b o : Nat} {t s r t' s' r' z : Int} (h1 : Bx w g t s r) (h3 : Bx w g' t' s' r') (hb0 : b < w.heap.size) (h2 : w.cell? ⟨b, o, none⟩ = some (.int .i64 z)) (hb : Below w.heap.size w w') :
    w'.cell? ⟨g, 0, none⟩ = some (.int .i64 t) ∧ w'.cell? ⟨g, 1, none⟩ = some (.int .i64 s) ∧ w'.cell? ⟨g, 2, none⟩ = some (.int .i64 r) ∧ w'.cell? ⟨g', 0, none⟩ = some (.int .i64 t') ∧ w'.cell? ⟨g', 1, none⟩ = some (.int .i64 s') ∧ w'.cell? ⟨g', 2, none⟩ = some (.int .i64 r') ∧ w'.cell? ⟨b, o, none⟩ = some (.int .i64 z) :=
  ⟨(h1.later hb).2.1, (h1.later hb).2.2.1, (h1.later hb).2.2.2, (h3.later hb).2.1, (h3.later hb).2.2.1, (h3.later hb).2.2.2, by rw [bkeep hb hb0]; exact h2⟩
end Go.Proofs.Yteidbomkbddliaa.Csn
