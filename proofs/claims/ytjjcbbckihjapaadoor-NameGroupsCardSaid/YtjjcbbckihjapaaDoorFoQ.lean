/-
  Plain laws of layer 1: Lower, Trim and Fold change nothing in their own results; Compare is a total order; names, words, values; Match and empty parts. No walk.
-/
import Derived.Test.YtjjcbbckihjapaaDoorFoG
import Derived.Test.YtjjcbbckihjapaaDoorFoO
namespace Go.Proofs.YtjjcbbckihjapaaDoor.Fo
open Go.RowKit

theorem lowB_idem (c : UInt8) : lowB (lowB c) = lowB c := by
  have h : ∀ c : Fin 256, lowB (lowB (UInt8.ofNat c.1)) = lowB (UInt8.ofNat c.1) := by decide +kernel
  have := h ⟨c.toNat, c.toNat_lt⟩
  simpa using this
theorem lowL_idem (l : List UInt8) : lowL (lowL l) = lowL l := by simp [lowL, Function.comp_def, lowB_idem]
theorem lowB_space' (c : UInt8) : (lowB c == 32) = (c == 32) := by
  rw [Bool.eq_iff_iff]; simp [lowB_space]
theorem dropWhile_low (l : List UInt8) : (lowL l).dropWhile (· == 32) = lowL (l.dropWhile (· == 32)) := by
  induction l with
  | nil => rfl
  | cons x r ih =>
    show (lowB x :: lowL r).dropWhile (· == 32) = _
    rw [List.dropWhile_cons, List.dropWhile_cons, lowB_space']
    split
    · exact ih
    · rfl
theorem lowL_reverse (l : List UInt8) : (lowL l).reverse = lowL l.reverse := by simp [lowL]
theorem trim_low (l : List UInt8) : trimL (lowL l) = lowL (trimL l) := by
  unfold trimL Lib.trimB Lib.trimLeftB Lib.trimRightB
  rw [lowL_reverse, dropWhile_low, lowL_reverse, dropWhile_low]
theorem bAt_last_reverse (l : List UInt8) (h : 0 < l.length) : bAt l (l.length - 1) = bAt l.reverse 0 := by
  unfold bAt
  rw [List.getD, List.getD, List.getElem?_reverse (by omega)]
  simp
theorem suffix_last {t r : List UInt8} (h : t <:+ r) (h0 : 0 < t.length) : bAt t (t.length - 1) = bAt r (r.length - 1) := by
  obtain ⟨a, rfl⟩ := h
  unfold bAt
  rw [List.getD, List.getD, List.length_append, List.getElem?_append_right (by omega)]
  congr 2
  omega
theorem trimL_last (l : List UInt8) (h : 0 < (trimL l).length) : bAt (trimL l) ((trimL l).length - 1) ≠ 32 := by
  have hs : trimL l <:+ Lib.trimRightB l 32 := by
    unfold trimL Lib.trimB Lib.trimLeftB
    exact List.dropWhile_suffix _
  rw [suffix_last hs h]
  have hl := hs.length_le
  unfold Lib.trimRightB at hl ⊢
  rw [bAt_last_reverse _ (by omega), List.reverse_reverse]
  exact dropWhile_head _ (by rw [List.length_reverse] at hl; omega)
theorem trim_fix {l : List UInt8} (h1 : 0 < l.length → bAt l 0 ≠ 32) (h2 : 0 < l.length → bAt l (l.length - 1) ≠ 32) : trimL l = l := by
  rcases Nat.eq_zero_or_pos l.length with h | h
  · have : l = [] := List.eq_nil_of_length_eq_zero h
    subst this
    rfl
  · exact trim_same (h1 h) (h2 h)
theorem trimL_idem (l : List UInt8) : trimL (trimL l) = trimL l := trim_fix (trimL_head l) (trimL_last l)
theorem fold_low (l : List UInt8) : foldL (lowL l) = foldL l := by unfold foldL; rw [trim_low, lowL_idem]
theorem fold_trim (l : List UInt8) : foldL (trimL l) = foldL l := by unfold foldL; rw [trimL_idem]

theorem bAt_append_left {a b : List UInt8} {i : Nat} (h : i < a.length) : bAt (a ++ b) i = bAt a i := by
  unfold bAt; rw [List.getD, List.getD, List.getElem?_append_left h]
theorem bAt_snoc {a : List UInt8} {c : UInt8} : bAt (a ++ [c]) a.length = c := by
  unfold bAt; rw [List.getD, List.getElem?_append_right (Nat.le_refl _)]; simp
/-- What the squeeze keeps true. -/
theorem sq_inv (T : List UInt8) (k : Nat) : (∀ i, i + 1 < (sqTo T k).length → ¬ (bAt (sqTo T k) i = 32 ∧ bAt (sqTo T k) (i + 1) = 32)) ∧
    (0 < k → 0 < (sqTo T k).length ∧ (bAt (sqTo T k) ((sqTo T k).length - 1) = 32 ↔ bAt T (k - 1) = 32) ∧ bAt (sqTo T k) 0 = bAt T 0 ∧ (bAt T (k - 1) ≠ 32 → bAt (sqTo T k) ((sqTo T k).length - 1) ≠ 32)) := by
  induction k with
  | zero => exact ⟨fun i hi => by simp [sqTo] at hi, fun h => absurd h (by omega)⟩
  | succ k ih =>
    obtain ⟨ih1, ih2⟩ := ih
    cases hk : keepB T k with
    | true =>
      rw [sqTo_yes T k hk]
      have hlen : (sqTo T k ++ [bAt T k]).length = (sqTo T k).length + 1 := by simp
      refine ⟨fun i hi => ?_, fun _ => ⟨by omega, ?_, ?_, ?_⟩⟩
      · rw [hlen] at hi
        by_cases e : i + 1 = (sqTo T k).length
        · rw [bAt_append_left (by omega), e, bAt_snoc]
          rintro ⟨h1, h2⟩
          have hk0 : 0 < k := by
            rcases Nat.eq_zero_or_pos k with h | h
            · subst h; simp [sqTo] at e
            · exact h
          obtain ⟨_, hl, _, _⟩ := ih2 hk0
          rw [show i = (sqTo T k).length - 1 by omega] at h1
          have h3 := hl.1 h1
          simp only [keepB, decide_eq_true_eq] at hk
          rcases hk with h | h | h
          · exact h (by rw [h2]; rfl)
          · omega
          · exact h (by rw [h3]; rfl)
        · rw [bAt_append_left (by omega), bAt_append_left (by omega)]
          exact ih1 i (by omega)
      · rw [hlen, Nat.add_sub_cancel, bAt_snoc, Nat.add_sub_cancel]
      · rcases Nat.eq_zero_or_pos k with h | h
        · subst h; simp [sqTo, bAt]
        · rw [bAt_append_left (ih2 h).1]
          exact (ih2 h).2.2.1
      · intro h
        rw [hlen, Nat.add_sub_cancel, bAt_snoc]
        simpa using h
    | false =>
      rw [sqTo_no T k hk]
      simp only [keepB, decide_eq_false_iff_not] at hk
      have hk0 : 0 < k := by
        rcases Nat.eq_zero_or_pos k with h | h
        · exact absurd (Or.inr (Or.inl h)) hk
        · exact h
      obtain ⟨a, b, c, d⟩ := ih2 hk0
      have h1 : bAt T k = 32 := by
        by_cases h : bAt T k = 32
        · exact h
        · exact absurd (Or.inl fun e => h (UInt8.toNat_inj.1 e)) hk
      have h2 : bAt T (k - 1) = 32 := by
        by_cases h : bAt T (k - 1) = 32
        · exact h
        · exact absurd (Or.inr (Or.inr fun e => h (UInt8.toNat_inj.1 e))) hk
      refine ⟨ih1, fun _ => ⟨a, ?_, c, ?_⟩⟩
      · rw [Nat.add_sub_cancel, b, h1, h2]
      · rw [Nat.add_sub_cancel]
        intro h
        exact absurd h1 h
theorem sq_mem (T : List UInt8) (k : Nat) (hk : k ≤ T.length) : ∀ x ∈ sqTo T k, x ∈ T := by
  induction k with
  | zero => intro x hx; simp [sqTo] at hx
  | succ k ih =>
    intro x hx
    rw [sqTo] at hx
    split at hx
    · rcases List.mem_append.1 hx with h | h
      · exact ih (by omega) x h
      · simp at h
        rw [h, bAt_get T k (by omega)]
        exact List.getElem_mem _
    · exact ih (by omega) x hx
theorem sq_fix (f : List UInt8) (h : ∀ i, i + 1 < f.length → ¬ (bAt f i = 32 ∧ bAt f (i + 1) = 32)) (k : Nat) (hk : k ≤ f.length) : sqTo f k = f.take k := by
  induction k with
  | zero => simp [sqTo]
  | succ k ih =>
    have hkeep : keepB f k = true := by
      cases k with
      | zero => exact keep_0 f
      | succ q =>
        by_cases h1 : bAt f (q + 1) = 32
        · exact keep_b fun h2 => h q (by omega) ⟨h2, h1⟩
        · exact keep_a h1
    rw [sqTo_yes f k hkeep, ih (by omega), List.take_succ_eq_append_getElem (by omega), bAt_get f k (by omega)]
theorem fold_parts (l : List UInt8) : lowL (foldL l) = foldL l ∧ trimL (foldL l) = foldL l ∧ sqTo (foldL l) (foldL l).length = foldL l := by
  obtain ⟨h1, h2⟩ := sq_inv (lowL (trimL l)) (lowL (trimL l)).length
  have hm := sq_mem (lowL (trimL l)) (lowL (trimL l)).length (Nat.le_refl _)
  refine ⟨?_, ?_, ?_⟩
  · have e : (foldL l).map lowB = (foldL l).map id := List.map_congr_left fun x hx => by
      have := hm x hx
      rw [lowL, List.mem_map] at this
      obtain ⟨y, _, rfl⟩ := this
      exact lowB_idem y
    rw [lowL, e, List.map_id]
  · refine trim_fix (fun h0 => ?_) (fun h0 => ?_)
    · rcases Nat.eq_zero_or_pos (lowL (trimL l)).length with h | h
      · unfold foldL at h0; rw [h] at h0; simp [sqTo] at h0
      · show bAt (sqTo _ _) 0 ≠ 32
        rw [(h2 h).2.2.1]
        exact folded_head l h
    · rcases Nat.eq_zero_or_pos (lowL (trimL l)).length with h | h
      · unfold foldL at h0; rw [h] at h0; simp [sqTo] at h0
      · show bAt (sqTo _ _) ((sqTo _ _).length - 1) ≠ 32
        refine (h2 h).2.2.2 ?_
        rw [lowL_length] at h ⊢
        rw [lowL_at _ _ (by omega)]
        intro hc
        exact trimL_last l h ((lowB_space _).1 hc)
  · rw [sq_fix (foldL l) h1 _ (Nat.le_refl _), List.take_length]
theorem fold_idem (l : List UInt8) : foldL (foldL l) = foldL l := by
  obtain ⟨h1, h2, h3⟩ := fold_parts l
  rw [foldL, h2, h1, h3]
theorem okB_low (c : UInt8) (h : okB c = true) : okB (lowB c) = true := by
  have h' : ∀ c : Fin 256, okB (UInt8.ofNat c.1) = true → okB (lowB (UInt8.ofNat c.1)) = true := by decide +kernel
  have := h' ⟨c.toNat, c.toNat_lt⟩
  simp at this
  exact this h
theorem clean_fold {l : List UInt8} (h : clnL l = true) : clnL (foldL l) = true := by
  simp only [clnL, Bool.and_eq_true, decide_eq_true_eq] at h ⊢
  obtain ⟨⟨h1, h2, h3⟩, h4⟩ := h
  refine ⟨⟨?_, ?_, ?_⟩, (fold_parts l).2.1⟩
  · rw [List.all_eq_true] at h1 ⊢
    intro x hx
    have := sq_mem _ _ (Nat.le_refl _) x hx
    rw [h4, lowL, List.mem_map] at this
    obtain ⟨y, hy, rfl⟩ := this
    exact okB_low y (h1 y hy)
  · have := (sq_inv (lowL (trimL l)) (lowL (trimL l)).length).2 (by rw [lowL_length, h4]; omega)
    exact this.1
  · have h5 := sqTo_le (lowL (trimL l)) (lowL (trimL l)).length
    rw [lowL_length, h4] at h5
    unfold foldL
    rw [lowL_length, h4]
    omega

theorem ordS_range (a b : List UInt8) : -1 ≤ ordS a b ∧ ordS a b ≤ 1 := by unfold ordS; split <;> (try split) <;> omega
theorem ordS_zero (a b : List UInt8) : ordS a b = 0 ↔ a = b := by
  induction a generalizing b with
  | nil =>
    cases b with
    | nil => simp [ordS, Op.bytesLess]
    | cons y b => simp [ordS, Op.bytesLess]
  | cons x a ih =>
    cases b with
    | nil => simp [ordS, Op.bytesLess]
    | cons y b =>
      rw [ordS_cons]
      by_cases h1 : x < y
      · simp [h1]
        intro h
        subst h
        exact absurd h1 (UInt8.lt_irrefl _)
      · by_cases h2 : y < x
        · simp [h1, h2]
          intro h
          subst h
          exact absurd h2 (UInt8.lt_irrefl _)
        · have : x = y := UInt8.le_antisymm (UInt8.not_lt.1 h2) (UInt8.not_lt.1 h1)
          subst this
          simp [UInt8.lt_irrefl, ih]
theorem ordS_neg (a b : List UInt8) : ordS b a = - ordS a b := by
  induction a generalizing b with
  | nil =>
    cases b with
    | nil => rfl
    | cons y b => simp [ordS, Op.bytesLess]
  | cons x a ih =>
    cases b with
    | nil => simp [ordS, Op.bytesLess]
    | cons y b =>
      rw [ordS_cons, ordS_cons]
      by_cases h1 : x < y
      · have : ¬ y < x := fun h => UInt8.lt_irrefl _ (UInt8.lt_trans h1 h)
        simp [h1, this]
      · by_cases h2 : y < x
        · simp [h1, h2]
        · simp [h1, h2, ih]
theorem ordS_trans (a b c : List UInt8) (h1 : ordS a b ≤ 0) (h2 : ordS b c ≤ 0) : ordS a c ≤ 0 ∧ (ordS a c = 0 → ordS a b = 0 ∧ ordS b c = 0) := by
  induction a generalizing b c with
  | nil =>
    cases c with
    | nil =>
      cases b with
      | nil => simp [ordS, Op.bytesLess]
      | cons y b => simp [ordS, Op.bytesLess] at h2
    | cons z c => simp [ordS, Op.bytesLess]
  | cons x a ih =>
    cases b with
    | nil => simp [ordS, Op.bytesLess] at h1
    | cons y b =>
      cases c with
      | nil => simp [ordS, Op.bytesLess] at h2
      | cons z c =>
        rw [ordS_cons] at h1 h2 ⊢
        rw [ordS_cons, ordS_cons]
        simp only [UInt8.lt_iff_toNat_lt] at *
        by_cases a1 : x.toNat < y.toNat
        · by_cases b1 : y.toNat < z.toNat
          · rw [if_pos (by omega)]; simp
          · by_cases b2 : z.toNat < y.toNat
            · simp [b1, b2] at h2
            · rw [if_pos (by omega)]; simp
        · by_cases a2 : y.toNat < x.toNat
          · simp [a1, a2] at h1
          · by_cases b1 : y.toNat < z.toNat
            · rw [if_pos (by omega)]; simp
            · by_cases b2 : z.toNat < y.toNat
              · simp [b1, b2] at h2
              · have e1 : ¬ x.toNat < z.toNat := by omega
                have e2 : ¬ z.toNat < x.toNat := by omega
                simp only [a1, a2, b1, b2, e1, e2, if_false] at h1 h2 ⊢
                exact ih b c h1 h2
theorem nmB_wdB (c : UInt8) (h : nmB c = true) : wdB c = true := by
  simp only [nmB, wdB, Bool.or_eq_true] at *
  rcases h with (h | h) | h <;> simp [h]
theorem name_word {l : List UInt8} (h : namL l = true) : wrdL l = true := by
  simp only [namL, wrdL, madeL, Bool.and_eq_true] at *
  refine ⟨?_, h.1.2⟩
  have := h.1.1
  rw [List.all_eq_true] at this ⊢
  exact fun x hx => nmB_wdB x (this x hx)
theorem wdB_ok (c : UInt8) (h : wdB c = true) : okB c = true ∧ c ≠ 32 := by
  have h' : ∀ c : Fin 256, wdB (UInt8.ofNat c.1) = true → okB (UInt8.ofNat c.1) = true ∧ UInt8.ofNat c.1 ≠ 32 := by decide +kernel
  have := h' ⟨c.toNat, c.toNat_lt⟩
  simp only [UInt8.ofNat_toNat] at this
  exact this h
theorem word_clean {l : List UInt8} (h : wrdL l = true) : clnL l = true := by
  simp only [wrdL, madeL, clnL, Bool.and_eq_true, decide_eq_true_eq] at *
  obtain ⟨h1, h2, h3⟩ := h
  rw [List.all_eq_true] at h1
  refine ⟨⟨?_, h2, by omega⟩, trim_fix (fun h0 => ?_) (fun h0 => ?_)⟩
  · rw [List.all_eq_true]
    exact fun x hx => (wdB_ok x (h1 x hx)).1
  · rw [bAt_get _ _ h0]
    exact (wdB_ok _ (h1 _ (List.getElem_mem _))).2
  · rw [bAt_get _ _ (by omega)]
    exact (wdB_ok _ (h1 _ (List.getElem_mem _))).2

end Go.Proofs.YtjjcbbckihjapaaDoor.Fo
