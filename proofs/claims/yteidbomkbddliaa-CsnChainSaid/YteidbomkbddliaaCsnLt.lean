/-
  Plain facts: a vector is what it contains; Note and Join add, Within is inclusion. No walk here.
-/
import Derived.Test.YteidbomkbddliaaCsnR
import Derived.Test.YteidbomkbddliaaCsnPl
namespace Go.Proofs.Yteidbomkbddliaa.Csn

theorem cmp_ge {t s r t' s' r' : Int} : 0 ≤ cmpC t s r t' s' r' ↔ cmpC t' s' r' t s r ≤ 0 := by
  have := cmp_neg t s r t' s' r'; omega
theorem pCov_iff {T S R : Int} {x : C} : pCov T S R x = true ↔ x.2.2 = R ∧ cmpC T S R x.1 x.2.1 x.2.2 ≤ 0 := by
  simp only [pCov, Bool.and_eq_true, beq_iff_eq, decide_eq_true_eq, cmp_ge]
theorem pCov_refl (x : C) : pCov x.1 x.2.1 x.2.2 x = true := by
  rw [pCov_iff]
  exact ⟨rfl, by rw [cmp_zero.2 ⟨rfl, rfl, rfl⟩]; exact Int.le_refl 0⟩
theorem pCov_trans {T S R : Int} {x y : C} (h1 : pCov T S R x = true) (h2 : pCov x.1 x.2.1 x.2.2 y = true) : pCov T S R y = true := by
  rw [pCov_iff] at *
  exact ⟨by omega, cmp_trans h1.2 h2.2⟩
theorem pCov_anti {x y : C} (h1 : pCov x.1 x.2.1 x.2.2 y = true) (h2 : pCov y.1 y.2.1 y.2.2 x = true) : x = y := by
  rw [pCov_iff] at *
  have hn := cmp_neg x.1 x.2.1 x.2.2 y.1 y.2.1 y.2.2
  have h0 : cmpC x.1 x.2.1 x.2.2 y.1 y.2.1 y.2.2 = 0 := by omega
  obtain ⟨a, b, c⟩ := cmp_zero.1 h0
  obtain ⟨x1, x2, x3⟩ := x
  obtain ⟨y1, y2, y3⟩ := y
  simp only at a b c
  subst a b c
  rfl

theorem any_insC {l : List C} (h : Asc l) (x : C) (T S R : Int) : (insC l x).any (pCov T S R) = (l.any (pCov T S R) || pCov T S R x) := by
  obtain ⟨t, s, r⟩ := x
  cases hc : l.any (pCov t s r) with
  | true =>
    rw [insC_cov h t s r hc]
    cases hp : pCov T S R (t, s, r) with
    | false => simp
    | true =>
      obtain ⟨z, hz, hzp⟩ := List.any_eq_true.1 hc
      have : l.any (pCov T S R) = true := List.any_eq_true.2 ⟨z, hz, pCov_trans hp hzp⟩
      simp [this]
  | false =>
    rw [← rn_insC h t s r hc]
    unfold rn
    rw [Bool.eq_iff_iff, Bool.or_eq_true, List.any_eq_true, List.any_eq_true]
    constructor
    · rintro ⟨z, hz, hp⟩
      simp only [List.mem_append, List.mem_filter, List.mem_singleton] at hz
      rcases hz with (hz | hz) | hz
      · exact Or.inl ⟨z, hz.1, hp⟩
      · subst hz; exact Or.inr hp
      · exact Or.inl ⟨z, hz.1, hp⟩
    · rintro (⟨z, hz, hp⟩ | hp)
      · rcases (by omega : z.2.2 < r ∨ z.2.2 = r ∨ r < z.2.2) with h1 | h1 | h1
        · exact ⟨z, by simp [hz, h1], hp⟩
        · refine ⟨(t, s, r), by simp, ?_⟩
          have hnc : ¬ pCov t s r z = true := by
            intro hh
            have : l.any (pCov t s r) = true := List.any_eq_true.2 ⟨z, hz, hh⟩
            rw [hc] at this; cases this
          rw [pCov_iff] at hnc hp ⊢
          have hn := cmp_neg t s r z.1 z.2.1 z.2.2
          refine ⟨by simp only; omega, cmp_trans hp.2 ?_⟩
          have : ¬ cmpC t s r z.1 z.2.1 z.2.2 ≤ 0 := fun hh => hnc ⟨h1, hh⟩
          simp only
          omega
        · exact ⟨z, by simp [hz, h1], hp⟩
      · exact ⟨(t, s, r), by simp, hp⟩
theorem any_foldl (b : List C) (T S R : Int) : ∀ a, Asc a → (b.foldl insC a).any (pCov T S R) = (a.any (pCov T S R) || b.any (pCov T S R)) := by
  induction b with
  | nil => intro a _; simp
  | cons x r ih =>
    intro a ha
    rw [List.foldl_cons, ih _ (asc_insC ha), any_insC ha, List.any_cons, Bool.or_assoc]
theorem cov_of_chk {l : List C} (h : chk l = 0) (T S R : Int) : cov l T S R = (vld T S R && l.any (pCov T S R)) := by rw [cov, vec_yes h]
theorem cov_joinC (a b : List C) (T S R : Int) : cov (joinC a b) T S R = (cov a T S R || cov b T S R) := by
  rw [cov_of_chk (chk_joinC a b), joinC, any_foldl _ _ _ _ _ (asc_vec a), cov, cov, Bool.and_or_distrib_left]
theorem note_law (v : List C) (c : C) (T S R : Int) : cov (noteC v c) T S R = (cov v T S R || (vld c.1 c.2.1 c.2.2 && (vld T S R && (c.2.2 == R && decide (cmpC T S R c.1 c.2.1 c.2.2 ≤ 0))))) := by
  rw [cov_of_chk (chk_noteC v c), noteC, cov]
  cases hv : vld c.1 c.2.1 c.2.2 with
  | false => simp
  | true =>
    have e : pCov T S R c = (c.2.2 == R && decide (cmpC T S R c.1 c.2.1 c.2.2 ≤ 0)) := by
      rw [Bool.eq_iff_iff, pCov_iff]; simp
    simp only [if_true]
    rw [any_insC (asc_vec v), Bool.and_or_distrib_left, e]
    simp
theorem within_iff {a b : List C} : within a b = true ↔ ∀ T S R, cov a T S R = true → cov b T S R = true := by
  unfold within
  rw [List.all_eq_true]
  constructor
  · intro h T S R hc
    simp only [cov, Bool.and_eq_true] at hc ⊢
    obtain ⟨z, hz, hp⟩ := List.any_eq_true.1 hc.2
    have h2 := h z hz
    simp only [cov, Bool.and_eq_true] at h2
    obtain ⟨y, hy, hq⟩ := List.any_eq_true.1 h2.2
    exact ⟨hc.1, List.any_eq_true.2 ⟨y, hy, pCov_trans hp hq⟩⟩
  · intro h x hx
    apply h
    simp only [cov, Bool.and_eq_true]
    exact ⟨vals_iff.1 (vals_vec a) x hx, List.any_eq_true.2 ⟨x, hx, pCov_refl x⟩⟩
theorem mem_eq : ∀ {a b : List C}, Pw a → Pw b → (∀ x, x ∈ a ↔ x ∈ b) → a = b := by
  intro a
  induction a with
  | nil =>
    intro b _ _ h
    cases b with
    | nil => rfl
    | cons y s => exact absurd ((h y).2 (by simp)) (by simp)
  | cons x r ih =>
    intro b ha hb h
    cases b with
    | nil => exact absurd ((h x).1 (by simp)) (by simp)
    | cons y s =>
      have ha1 := List.pairwise_cons.1 ha
      have hb1 := List.pairwise_cons.1 hb
      have hxy : x = y := by
        have h1 := (h x).1 (by simp)
        have h2 := (h y).2 (by simp)
        rw [List.mem_cons] at h1 h2
        rcases h1 with h1 | h1
        · exact h1
        · rcases h2 with h2 | h2
          · exact h2.symm
          · have := ha1.1 y h2; have := hb1.1 x h1; omega
      subst hxy
      have : r = s := by
        apply ih ha1.2 hb1.2
        intro z
        constructor
        · intro hz
          have hlt := ha1.1 z hz
          rcases List.mem_cons.1 ((h z).1 (by simp [hz])) with h1 | h1
          · subst h1; omega
          · exact h1
        · intro hz
          have hlt := hb1.1 z hz
          rcases List.mem_cons.1 ((h z).2 (by simp [hz])) with h1 | h1
          · subst h1; omega
          · exact h1
      rw [this]
theorem pw_uniq {l : List C} (h : Pw l) {x y : C} (hx : x ∈ l) (hy : y ∈ l) (e : x.2.2 = y.2.2) : x = y := by
  induction l with
  | nil => cases hx
  | cons z r ih =>
    have h1 := List.pairwise_cons.1 h
    rcases List.mem_cons.1 hx with h2 | h2 <;> rcases List.mem_cons.1 hy with h3 | h3
    · rw [h2, h3]
    · have := h1.1 y h3; rw [h2] at e; omega
    · have := h1.1 x h2; rw [h3] at e; omega
    · exact ih h1.2 h2 h3
theorem mem_of_cov {a b : List C} (ha : chk a = 0) (hb : chk b = 0) (h : ∀ T S R, cov a T S R = cov b T S R) (x : C) (hx : x ∈ a) : x ∈ b := by
  have hxc : cov a x.1 x.2.1 x.2.2 = true := by
    rw [cov_of_chk ha, Bool.and_eq_true]
    exact ⟨vals_iff.1 (vals_of_chk ha) x hx, List.any_eq_true.2 ⟨x, hx, pCov_refl x⟩⟩
  rw [h, cov_of_chk hb, Bool.and_eq_true] at hxc
  obtain ⟨z, hz, hp⟩ := List.any_eq_true.1 hxc.2
  have hzc : cov b z.1 z.2.1 z.2.2 = true := by
    rw [cov_of_chk hb, Bool.and_eq_true]
    exact ⟨vals_iff.1 (vals_of_chk hb) z hz, List.any_eq_true.2 ⟨z, hz, pCov_refl z⟩⟩
  rw [← h, cov_of_chk ha, Bool.and_eq_true] at hzc
  obtain ⟨y, hy, hq⟩ := List.any_eq_true.1 hzc.2
  have e : y = x := pw_uniq (pw_of_asc (asc_of_chk ha)) hy hx (by rw [(pCov_iff.1 hq).1, (pCov_iff.1 hp).1])
  subst e
  rw [pCov_anti hp hq]
  exact hz
theorem vec_ext {a b : List C} (ha : chk a = 0) (hb : chk b = 0) (h : ∀ T S R, cov a T S R = cov b T S R) : a = b :=
  mem_eq (pw_of_asc (asc_of_chk ha)) (pw_of_asc (asc_of_chk hb)) (fun x => ⟨mem_of_cov ha hb h x, mem_of_cov hb ha (fun T S R => (h T S R).symm) x⟩)
theorem join_comm (a b : List C) : joinC a b = joinC b a :=
  vec_ext (chk_joinC a b) (chk_joinC b a) (fun T S R => by rw [cov_joinC, cov_joinC, Bool.or_comm])
theorem join_assoc (a b c : List C) : joinC (joinC a b) c = joinC a (joinC b c) :=
  vec_ext (chk_joinC _ _) (chk_joinC _ _) (fun T S R => by simp only [cov_joinC, Bool.or_assoc])
theorem join_idem {j : List C} (h : chk j = 0) : joinC j j = j :=
  vec_ext (chk_joinC _ _) h (fun T S R => by simp only [cov_joinC, Bool.or_self])
theorem within_refl (a : List C) : within a a = true := within_iff.2 (fun _ _ _ h => h)
theorem within_trans {a b c : List C} (h1 : within a b = true) (h2 : within b c = true) : within a c = true :=
  within_iff.2 (fun T S R h => within_iff.1 h2 T S R (within_iff.1 h1 T S R h))
theorem within_left (a b : List C) : within a (joinC a b) = true := within_iff.2 (fun T S R h => by rw [cov_joinC, h, Bool.true_or])
theorem within_right (a b : List C) : within b (joinC a b) = true := within_iff.2 (fun T S R h => by rw [cov_joinC, h, Bool.or_true])
theorem within_least {a b c : List C} (h1 : within a c = true) (h2 : within b c = true) : within (joinC a b) c = true :=
  within_iff.2 (fun T S R h => by
    rw [cov_joinC, Bool.or_eq_true] at h
    exact h.elim (within_iff.1 h1 T S R) (within_iff.1 h2 T S R))
theorem within_anti {a b : List C} (ha : chk a = 0) (hb : chk b = 0) (h1 : within a b = true) (h2 : within b a = true) : a = b :=
  vec_ext ha hb (fun T S R => by
    rw [Bool.eq_iff_iff]
    exact ⟨within_iff.1 h1 T S R, within_iff.1 h2 T S R⟩)
end Go.Proofs.Yteidbomkbddliaa.Csn
