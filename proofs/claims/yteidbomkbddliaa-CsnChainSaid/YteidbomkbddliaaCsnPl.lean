/-
  Plain facts on the order and on Next. No walk here.
-/
import Derived.Test.YteidbomkbddliaaCsnP
namespace Go.Proofs.Yteidbomkbddliaa.Csn
theorem ord_range (a b : Int) : -1 ≤ ord a b ∧ ord a b ≤ 1 := by unfold ord; split <;> (try split) <;> decide
theorem ord_neg (a b : Int) : ord b a = - ord a b := by
  rcases (by omega : a < b ∨ a = b ∨ b < a) with h | h | h
  · rw [ord_lt h, ord_gt h]; rfl
  · rw [h, ord_eq]; rfl
  · rw [ord_lt h, ord_gt h]
theorem ord_zero {a b : Int} : ord a b = 0 ↔ a = b := by unfold ord; split <;> (try split) <;> omega
theorem ord_le {a b : Int} : ord a b ≤ 0 ↔ a ≤ b := by unfold ord; split <;> (try split) <;> omega
theorem ord_lt0 {a b : Int} : ord a b < 0 ↔ a < b := by unfold ord; split <;> (try split) <;> omega
theorem cmp_range (t s r t' s' r' : Int) : -1 ≤ cmpC t s r t' s' r' ∧ cmpC t s r t' s' r' ≤ 1 := by
  unfold cmpC
  split
  · exact ord_range _ _
  · split <;> exact ord_range _ _
theorem cmp_neg (t s r t' s' r' : Int) : cmpC t' s' r' t s r = - cmpC t s r t' s' r' := by
  unfold cmpC
  by_cases h1 : t = t'
  · subst h1
    by_cases h2 : s = s'
    · subst h2
      simpa using ord_neg r r'
    · rw [if_neg (by simp), if_pos (Ne.symm h2), if_neg (by simp), if_pos h2]; exact ord_neg _ _
  · rw [if_pos (Ne.symm h1), if_pos h1]; exact ord_neg _ _
theorem cmp_zero {t s r t' s' r' : Int} : cmpC t s r t' s' r' = 0 ↔ t = t' ∧ s = s' ∧ r = r' := by
  unfold cmpC
  by_cases h1 : t = t'
  · rw [if_neg (by simp [h1])]
    by_cases h2 : s = s'
    · rw [if_neg (by simp [h2]), ord_zero]; simp [h1, h2]
    · rw [if_pos h2, ord_zero]; simp [h2]
  · rw [if_pos h1, ord_zero]; simp [h1]
/-- Ascending, lexicographically. -/
theorem cmp_le {t s r t' s' r' : Int} : cmpC t s r t' s' r' ≤ 0 ↔ t < t' ∨ (t = t' ∧ (s < s' ∨ (s = s' ∧ r ≤ r'))) := by
  unfold cmpC
  by_cases h1 : t = t'
  · rw [if_neg (by simp [h1])]
    by_cases h2 : s = s'
    · rw [if_neg (by simp [h2]), ord_le]; omega
    · rw [if_pos h2, ord_le]; omega
  · rw [if_pos h1, ord_le]; omega
theorem cmp_lt {t s r t' s' r' : Int} : cmpC t s r t' s' r' < 0 ↔ t < t' ∨ (t = t' ∧ (s < s' ∨ (s = s' ∧ r < r'))) := by
  unfold cmpC
  by_cases h1 : t = t'
  · rw [if_neg (by simp [h1])]
    by_cases h2 : s = s'
    · rw [if_neg (by simp [h2]), ord_lt0]; omega
    · rw [if_pos h2, ord_lt0]; omega
  · rw [if_pos h1, ord_lt0]; omega
theorem cmp_trans {t s r t' s' r' t'' s'' r'' : Int} (h1 : cmpC t s r t' s' r' ≤ 0) (h2 : cmpC t' s' r' t'' s'' r'' ≤ 0) : cmpC t s r t'' s'' r'' ≤ 0 := by
  rw [cmp_le] at *
  omega
theorem next_law {t s r now rep : Int} (h : (nextC t s r now rep).2 = 0) :
    vld (nextC t s r now rep).1.1 (nextC t s r now rep).1.2.1 (nextC t s r now rep).1.2.2 = true ∧
    cmpC (nextC t s r now rep).1.1 (nextC t s r now rep).1.2.1 (nextC t s r now rep).1.2.2 t s r = 1 ∧ (nextC t s r now rep).1.2.2 = rep := by
  unfold nextC at *
  by_cases h1 : vld t s r = false ∨ rep < 0 ∨ 8 ≤ rep
  · rw [if_pos h1] at h; cases h
  · rw [if_neg h1] at h ⊢
    have hv : vld t s r = true := by cases hh : vld t s r <;> simp_all
    have hv' := vld_iff.1 hv
    have hi : 0 ≤ inst now ∧ inst now ≤ 1099511627776 := by unfold inst; split <;> (try split) <;> omega
    by_cases h2 : t < inst now
    · rw [if_pos h2] at h ⊢
      refine ⟨vld_iff.2 (by simp; omega), ?_, rfl⟩
      have a1 := cmp_range (inst now) 0 rep t s r
      have a2 : ¬ cmpC (inst now) 0 rep t s r ≤ 0 := by rw [cmp_le]; omega
      simp only
      omega
    · rw [if_neg h2] at h ⊢
      by_cases h3 : s = 4294967295
      · rw [if_pos h3] at h; cases h
      · rw [if_neg h3] at h ⊢
        refine ⟨vld_iff.2 (by simp; omega), ?_, rfl⟩
        have a1 := cmp_range t (s + 1) rep t s r
        have a2 : ¬ cmpC t (s + 1) rep t s r ≤ 0 := by rw [cmp_le]; omega
        simp only
        omega
end Go.Proofs.Yteidbomkbddliaa.Csn
