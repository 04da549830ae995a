/-
  Plain facts on vectors: the reference's Note is the program's. No walk here.
-/
import Derived.Test.YteidbomkbddliaaCsnQ
namespace Go.Proofs.Yteidbomkbddliaa.Csn

def Pw (l : List C) : Prop := l.Pairwise fun x y => x.2.2 < y.2.2
theorem pw_of_asc {l : List C} (h : Asc l) : Pw l := by
  unfold Pw
  rw [List.pairwise_iff_getElem]
  intro i j hi hj hij
  have := h i j hij hj
  simpa [cR, List.getD, List.getElem?_eq_getElem hi, List.getElem?_eq_getElem hj] using this
theorem filt_lt {l : List C} (h : Pw l) (k : Int) : l.filter (fun y => decide (y.2.2 < k)) = l.take (lb l k) := by
  induction l with
  | nil => simp
  | cons x r ih =>
    have h1 := List.pairwise_cons.1 h
    by_cases hx : x.2.2 < k
    · simp only [lb, if_pos hx, List.take_succ_cons]
      rw [List.filter_cons_of_pos (by simpa using hx), ih h1.2]
    · simp only [lb, if_neg hx, List.take_zero]
      rw [List.filter_cons_of_neg (by simpa using hx), List.filter_eq_nil_iff]
      intro y hy
      have := h1.1 y hy
      simp
      omega
theorem filt_gt {l : List C} (h : Pw l) (k : Int) : l.filter (fun y => decide (k < y.2.2)) = l.drop (lb l k + if fnd l k then 1 else 0) := by
  induction l with
  | nil => simp
  | cons x r ih =>
    have h1 := List.pairwise_cons.1 h
    by_cases hx : x.2.2 < k
    · have e : fnd (x :: r) k = fnd r k := by simp [fnd, lb, hx, cR]
      rw [List.filter_cons_of_neg (by simp; omega), ih h1.2, e]
      simp only [lb, if_pos hx]
      rw [show lb r k + 1 + (if fnd r k = true then 1 else 0) = (lb r k + if fnd r k = true then 1 else 0) + 1 by omega, List.drop_succ_cons]
    · have hall : r.filter (fun y => decide (k < y.2.2)) = r := by
        rw [List.filter_eq_self]
        intro y hy
        have := h1.1 y hy
        simp
        omega
      have e : fnd (x :: r) k = decide (x.2.2 = k) := by simp [fnd, lb, hx, cR]
      simp only [lb, if_neg hx, e]
      by_cases hk : x.2.2 = k
      · rw [List.filter_cons_of_neg (by simp; omega), hall]
        simp [hk]
      · rw [List.filter_cons_of_pos (by simp; omega), hall]
        simp [hk]
theorem any_pCov {l : List C} (h : Asc l) (T S R : Int) : l.any (pCov T S R) = (fnd l R && decide (0 ≤ cmpC (cT l (lb l R)) (cS l (lb l R)) (cR l (lb l R)) T S R)) := by
  rw [Bool.eq_iff_iff, List.any_eq_true]
  constructor
  · rintro ⟨y, hy, hp⟩
    obtain ⟨i, hi⟩ := List.mem_iff_getElem?.1 hy
    have hil : i < l.length := (List.getElem?_eq_some_iff.1 hi).1
    have e : cAt l i = y := by simp [cAt, List.getD, hi]
    simp only [pCov, Bool.and_eq_true, beq_iff_eq, decide_eq_true_eq] at hp
    have hR : cR l i = R := by rw [cR_of, e]; exact hp.1
    have hlb : lb l R = i := lb_eq l R i (by omega) (fun q hq => by have := h q i hq hil; omega) (fun q h1 h2 => asc_ge h h1 h2 (by omega))
    have hf : fnd l R = true := by simp [fnd, hlb, hil, hR]
    rw [hlb, hf]
    have hy2 : y = (cT l i, cS l i, cR l i) := by rw [← e, cAt_eq]
    have := hp.2
    rw [hy2] at this
    simpa using this
  · intro hp
    simp only [Bool.and_eq_true, decide_eq_true_eq] at hp
    obtain ⟨hf, hc⟩ := hp
    have hfd : lb l R < l.length ∧ cR l (lb l R) = R := by simpa [fnd] using hf
    refine ⟨cAt l (lb l R), ?_, ?_⟩
    · rw [List.mem_iff_getElem?]
      exact ⟨lb l R, by simp [cAt, List.getD, List.getElem?_eq_getElem hfd.1]⟩
    · rw [cAt_eq]
      simp only [pCov, Bool.and_eq_true, beq_iff_eq, decide_eq_true_eq]
      exact ⟨hfd.2, hc⟩
theorem set_split (l : List C) (i : Nat) (x : C) (h : i < l.length) : l.set i x = l.take i ++ [x] ++ l.drop (i + 1) := by
  rw [List.set_eq_take_append_cons_drop, if_pos h]
  simp
theorem rn_insC {l : List C} (h : Asc l) (T S R : Int) (hc : l.any (pCov T S R) = false) : rn l (T, S, R) = insC l (T, S, R) := by
  unfold rn insC
  rw [filt_lt (pw_of_asc h), filt_gt (pw_of_asc h)]
  rw [any_pCov h] at hc
  cases hf : fnd l R with
  | true =>
    have hfd : lb l R < l.length ∧ cR l (lb l R) = R := by simpa [fnd] using hf
    rw [hf] at hc
    simp only [Bool.true_and, decide_eq_false_iff_not] at hc
    simp only [if_true]
    rw [if_pos (by omega), set_split _ _ _ hfd.1]
  | false => simp [insAt]
theorem insC_cov {l : List C} (h : Asc l) (T S R : Int) (hc : l.any (pCov T S R) = true) : insC l (T, S, R) = l := by
  rw [any_pCov h] at hc
  simp only [Bool.and_eq_true, decide_eq_true_eq] at hc
  unfold insC
  simp only
  rw [if_pos hc.1, if_neg (by omega)]
theorem cov_vec (l : List C) (T S R : Int) : cov (vec l) T S R = cov l T S R := by simp [cov, vec_vec]
/-- The reference's Note is the program's. -/
theorem rnoteC_eq (l : List C) (x : C) : rnoteC l x = noteC l x := by
  obtain ⟨T, S, R⟩ := x
  unfold rnoteC noteC
  cases hv : vld T S R with
  | false => simp
  | true =>
    cases hc : (vec l).any (pCov T S R) with
    | true =>
      have : cov (vec l) T S R = true := by rw [cov_good hv, vec_vec]; exact hc
      rw [if_pos (by simp [this])]
      simp [insC_cov (asc_vec l) T S R hc]
    | false =>
      have : cov (vec l) T S R = false := by rw [cov_good hv, vec_vec]; exact hc
      rw [if_neg (by simp [this])]
      simp [rn_insC (asc_vec l) T S R hc]

theorem vals_iff {l : List C} : Vals l ↔ ∀ x ∈ l, vld x.1 x.2.1 x.2.2 = true := by
  constructor
  · intro h x hx
    obtain ⟨i, hi⟩ := List.mem_iff_getElem?.1 hx
    have hil : i < l.length := (List.getElem?_eq_some_iff.1 hi).1
    have := h i hil
    simpa [cT, cS, cR, List.getD, hi] using this
  · intro h j hj
    have := h l[j] (List.getElem_mem hj)
    simpa [cT, cS, cR, List.getD, List.getElem?_eq_getElem hj] using this
theorem vals_insC {l : List C} {x : C} (hl : Vals l) (hx : vld x.1 x.2.1 x.2.2 = true) : Vals (insC l x) := by
  rw [vals_iff] at *
  unfold insC
  split
  · split
    · intro y hy
      rcases List.mem_or_eq_of_mem_set hy with h | h
      · exact hl y h
      · subst h; exact hx
    · exact hl
  · intro y hy
    simp only [insAt, List.mem_append, List.mem_cons] at hy
    rcases hy with h | h | h
    · exact hl y (List.mem_of_mem_take h)
    · subst h; exact hx
    · exact hl y (List.mem_of_mem_drop h)
theorem noteC_vec {l : List C} {x : C} (hl : chk l = 0) (hx : vld x.1 x.2.1 x.2.2 = true) : noteC l x = insC l x := by simp [noteC, hx, vec_yes hl]
theorem chk_insC {l : List C} {x : C} (hl : chk l = 0) (hx : vld x.1 x.2.1 x.2.2 = true) : chk (insC l x) = 0 := chk_of (asc_insC (asc_of_chk hl)) (vals_insC (vals_of_chk hl) hx)
theorem chk_noteC (l : List C) (x : C) : chk (noteC l x) = 0 := by
  unfold noteC
  split
  · exact chk_insC (chk_vec l) (by assumption)
  · exact chk_vec l
theorem chk_foldl (b : List C) : ∀ a, chk a = 0 → (∀ x ∈ b, vld x.1 x.2.1 x.2.2 = true) → chk (b.foldl insC a) = 0 ∧ b.foldl noteC a = b.foldl insC a := by
  induction b with
  | nil => intro a ha _; exact ⟨ha, rfl⟩
  | cons x r ih =>
    intro a ha hb
    have hx := hb x (by simp)
    have := ih (insC a x) (chk_insC ha hx) (fun y hy => hb y (by simp [hy]))
    simp only [List.foldl_cons, noteC_vec ha hx]
    exact this
theorem chk_joinC (a b : List C) : chk (joinC a b) = 0 := (chk_foldl (vec b) (vec a) (chk_vec a) (vals_iff.1 (vals_vec b))).1
theorem joinC_note (a b : List C) : (vec b).foldl noteC (vec a) = joinC a b := (chk_foldl (vec b) (vec a) (chk_vec a) (vals_iff.1 (vals_vec b))).2
end Go.Proofs.Yteidbomkbddliaa.Csn
