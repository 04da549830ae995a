/-
  The plain law of Match (layer 1): cutting part by part and searching by places answer alike. No walk.
-/
import Derived.Test.YtphlihmngbmiiaaDoorFoG
import Derived.Lib.Index
import Derived.Lib.IndexMore
import Derived.Lib.IndexBytes
namespace Go.Proofs.YtphlihmngbmiiaaDoor.Fo
open Go.RowKit

/-- Part i of a list. -/
def pAt (ps : List (List UInt8)) (i : Nat) : List UInt8 := ps.getD i []
/-- What is left behind the parts between. -/
def midF (rest : List UInt8) : List (List UInt8) → Option (List UInt8)
  | [] => some rest
  | p :: ps => if (Lib.cut rest p).2.2 then midF (Lib.cut rest p).2.1 ps else none
/-- The end fits. -/
def finB (last : List UInt8) : Option (List UInt8) → Bool
  | none => false
  | some r => Lib.hasSuffix r last
/-- The parts between, in lower case. -/
def midsL (ps : List (List UInt8)) : List (List UInt8) := ((ps.drop 1).take (ps.length - 2)).map lowL
/-- Match. -/
def matL (l : List UInt8) (ps : List (List UInt8)) : Bool :=
  decide (2 ≤ ps.length) && Lib.hasPrefix (foldL l) (lowL (pAt ps 0)) && finB (lowL (pAt ps (ps.length - 1))) (midF (Lib.trimPrefix (foldL l) (lowL (pAt ps 0))) (midsL ps))
theorem midsL_length (ps : List (List UInt8)) (h : 2 ≤ ps.length) : (midsL ps).length = ps.length - 2 := by simp [midsL]; omega
theorem midsL_at (ps : List (List UInt8)) (k : Nat) (h : k < ps.length - 2) : (midsL ps).drop k = lowL (pAt ps (k + 1)) :: (midsL ps).drop (k + 1) := by
  have hl : k < (midsL ps).length := by rw [midsL_length _ (by omega)]; exact h
  rw [List.drop_eq_getElem_cons hl]
  congr 1
  have h1 : 1 + k < ps.length := by omega
  simp [midsL, pAt, List.getD, Nat.add_comm k 1, h1]
theorem midF_step (rest p : List UInt8) (ps : List (List UInt8)) : midF rest (p :: ps) = if (Lib.cut rest p).2.2 then midF (Lib.cut rest p).2.1 ps else none := rfl

theorem least (p : Nat → Bool) (n : Nat) : (∃ i, i ≤ n ∧ p i = true ∧ ∀ j, j < i → p j = false) ∨ (∀ i, i ≤ n → p i = false) := by
  induction n with
  | zero =>
    cases h : p 0 with
    | true => exact Or.inl ⟨0, Nat.le_refl _, h, fun j hj => absurd hj (Nat.not_lt_zero _)⟩
    | false => exact Or.inr fun i hi => by rw [Nat.le_zero.1 hi]; exact h
  | succ n ih =>
    rcases ih with ⟨i, hi, h1, h2⟩ | h
    · exact Or.inl ⟨i, by omega, h1, h2⟩
    · cases hp : p (n + 1) with
      | true => exact Or.inl ⟨n + 1, Nat.le_refl _, hp, fun j hj => h j (by omega)⟩
      | false => exact Or.inr fun i hi => if e : i = n + 1 then by rw [e]; exact hp else h i (by omega)
theorem occ_drop (t p : List UInt8) (a j : Nat) : Lib.occAt (t.drop a) p j = Lib.occAt t p (a + j) := by simp [Lib.occAt]
/-- What Cut leaves, by the first place. -/
theorem cut_found (r p : List UInt8) (i : Nat) (hi : i ≤ r.length) (h : Lib.occAt r p i = true) (hn : ∀ j, j < i → Lib.occAt r p j = false) : (Lib.cut r p).2 = (r.drop (i + p.length), true) := by
  have := Lib.index_first hi h hn
  rw [Lib.cut, this, if_pos (by omega)]
  simp
theorem cut_none (r p : List UInt8) (h : ∀ j, j ≤ r.length → Lib.occAt r p j = false) : (Lib.cut r p).2.2 = false := by
  rw [Lib.cut, Lib.index_none h, if_neg (by omega)]
theorem midF_drop (t : List UInt8) (a : Nat) (ps : List (List UInt8)) (r : List UInt8) (h : midF (t.drop a) ps = some r) : ∃ q, a ≤ q ∧ r = t.drop q := by
  induction ps generalizing a with
  | nil => simp [midF] at h; exact ⟨a, Nat.le_refl _, h.symm⟩
  | cons p ps ih =>
    rw [midF_step] at h
    rcases least (Lib.occAt (t.drop a) p) (t.drop a).length with ⟨i, hi, h1, h2⟩ | hno
    · have hc := cut_found _ _ i hi h1 h2
      rw [hc] at h
      simp only [if_true, List.drop_drop] at h
      obtain ⟨q, hq, e⟩ := ih _ h
      exact ⟨q, by omega, e⟩
    · rw [cut_none _ _ hno] at h
      simp at h
theorem suffix_len {r l : List UInt8} (h : Lib.hasSuffix r l = true) : l.length ≤ r.length := (List.isSuffixOf_iff_suffix.1 h).length_le
/-- Past the end nothing fits. -/
theorem past_end (t last : List UInt8) (a : Nat) (ps : List (List UInt8)) (h : t.length < a + last.length) (h0 : 0 < last.length) : finB last (midF (t.drop a) ps) = false := by
  cases hm : midF (t.drop a) ps with
  | none => rfl
  | some r =>
    obtain ⟨q, hq, e⟩ := midF_drop t a ps r hm
    cases hs : Lib.hasSuffix r last with
    | false => exact hs
    | true =>
      have := suffix_len hs
      rw [e, List.length_drop] at this
      omega
theorem no_suffix (t last : List UInt8) (a : Nat) (ps : List (List UInt8)) (h : Lib.hasSuffix t last = false) : finB last (midF (t.drop a) ps) = false := by
  cases hm : midF (t.drop a) ps with
  | none => rfl
  | some r =>
    obtain ⟨q, hq, e⟩ := midF_drop t a ps r hm
    cases hs : Lib.hasSuffix r last with
    | false => exact hs
    | true =>
      have h1 := List.isSuffixOf_iff_suffix.1 hs
      rw [e] at h1
      have h2 := h1.trans (List.drop_suffix q t)
      have := List.isSuffixOf_iff_suffix.2 h2
      rw [Lib.hasSuffix] at h
      rw [h] at this
      cases this
theorem occ_len {t p : List UInt8} {i : Nat} (h : Lib.occAt t p i = true) (hp : 0 < p.length) : i + p.length ≤ t.length := by
  rcases Lib.occAt_room h with h1 | h1
  · exact h1
  · rw [h1] at hp; simp at hp
/-- A part is found. -/
theorem found (t p : List UInt8) (a b : Nat) (ps : List (List UInt8)) (hab : a ≤ b) (hb : b ≤ t.length) (hno : ∀ j, a ≤ j → j < b → Lib.occAt t p j = false) (h : Lib.occAt t p b = true) : midF (t.drop a) (p :: ps) = midF (t.drop (b + p.length)) ps := by
  have hc := cut_found (t.drop a) p (b - a) (by rw [List.length_drop]; omega) (by rw [occ_drop, show a + (b - a) = b by omega]; exact h) (fun j hj => by rw [occ_drop]; exact hno _ (by omega) (by omega))
  rw [midF_step, hc]
  simp only [if_true, List.drop_drop]
  rw [show a + (b - a + p.length) = b + p.length by omega]
/-- A part is not found ahead of the end. -/
theorem not_found (t p last : List UInt8) (a b : Nat) (ps : List (List UInt8)) (hat : a ≤ t.length) (hno : ∀ j, a ≤ j → j < b → Lib.occAt t p j = false) (hb : t.length < b + p.length + last.length) : finB last (midF (t.drop a) (p :: ps)) = false := by
  rw [midF_step]
  rcases least (Lib.occAt (t.drop a) p) (t.drop a).length with ⟨i, hi, h1, h2⟩ | hn
  · have hc := cut_found _ _ i hi h1 h2
    rw [hc]
    simp only [if_true, List.drop_drop]
    rw [occ_drop] at h1
    have hge : b ≤ a + i := by
      rcases Nat.lt_or_ge (a + i) b with h | h
      · rw [hno _ (by omega) h] at h1; cases h1
      · exact h
    by_cases h0 : 0 < last.length
    · exact past_end t last _ ps (by omega) h0
    · by_cases hp : 0 < p.length
      · have := occ_len h1 hp
        omega
      · have hpi : i ≤ t.length - a := by simpa using hi
        omega
  · rw [cut_none _ _ hn]
    rfl
theorem last_fits (t last : List UInt8) (a : Nat) (ha : a + last.length ≤ t.length) (h : Lib.hasSuffix t last = true) : finB last (midF (t.drop a) []) = true := by
  have h1 := List.isSuffixOf_iff_suffix.1 h
  refine List.isSuffixOf_iff_suffix.2 ?_
  rw [List.suffix_iff_eq_drop] at h1 ⊢
  rw [List.drop_drop, List.length_drop]
  rw [show a + (t.length - a - last.length) = t.length - last.length by omega]
  exact h1
theorem suffix_occ (t last : List UInt8) (e : Nat) (he : e + last.length = t.length) : Lib.occAt t last e = Lib.hasSuffix t last := by
  rw [Bool.eq_iff_iff, Lib.occAt, Lib.hasSuffix, List.isPrefixOf_iff_prefix, List.isSuffixOf_iff_suffix, List.suffix_iff_eq_drop]
  rw [show t.length - last.length = e by omega]
  constructor
  · intro h
    exact h.eq_of_length (by rw [List.length_drop]; omega)
  · intro h
    rw [← h]
    exact List.prefix_refl _
theorem prefix_occ (t p : List UInt8) : Lib.occAt t p 0 = Lib.hasPrefix t p := by simp [Lib.occAt, Lib.hasPrefix]
/-- What occurs answers. -/
def occL (t p : List UInt8) (i : Nat) : Bool := decide (i + p.length ≤ t.length) && Lib.occAt t p i
theorem occL_prefix (t p : List UInt8) : occL t p 0 = Lib.hasPrefix t p := by
  rw [occL, prefix_occ]
  cases h : Lib.hasPrefix t p with
  | false => simp
  | true =>
    have := (List.isPrefixOf_iff_prefix.1 h).length_le
    simp; exact this
theorem occL_suffix (t last : List UInt8) (e : Nat) (he : e + last.length = t.length) : occL t last e = Lib.hasSuffix t last := by
  rw [occL, suffix_occ t last e he, decide_eq_true (by omega)]; rfl
end Go.Proofs.YtphlihmngbmiiaaDoor.Fo
