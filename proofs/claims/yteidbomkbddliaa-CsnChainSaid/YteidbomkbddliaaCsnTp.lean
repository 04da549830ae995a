/-
  Plain facts on the text forms of layer 15: Format and Parse are inverse, the order of the texts is that of the numbers. No walk.
-/
import Derived.Test.YteidbomkbddliaaCsnE
import Derived.Lib.Strings
namespace Go.Proofs.Yteidbomkbddliaa.Csn
open Go.RowKit

theorem hexd_dig (d : Nat) (h : d < 16) : hexd (dig d).toNat = d := by
  have h3 : ∀ q : Fin 16, hexd (dig q.1).toNat = q.1 := by decide +kernel
  exact h3 ⟨d, h⟩
theorem dig_hexd (c : UInt8) (h : 0 ≤ hexd c.toNat) : dig (hexd c.toNat).toNat = c := by
  have h3 : ∀ q : Fin 256, 0 ≤ hexd q.1 → dig (hexd q.1).toNat = q.1.toUInt8 := by decide +kernel
  have := h3 ⟨c.toNat, c.toNat_lt⟩ h
  rw [this]
  simp
theorem numF_hexL (n k : Nat) (a : Nat) : numF (hexL n k) (a : Int) = ((a * 16 ^ k + n % 16 ^ k : Nat) : Int) := by
  induction k generalizing a with
  | zero => simp [hexL, numF, Nat.mod_one]
  | succ k ih =>
    have hd := hexd_dig (n / 16 ^ k % 16) (Nat.mod_lt _ (by decide))
    rw [hexL_head, numF, if_neg (by omega), hd]
    have e : (16 * (a : Int) + ((n / 16 ^ k % 16 : Nat) : Int)) = ((16 * a + n / 16 ^ k % 16 : Nat) : Int) := by omega
    rw [e, ih]
    congr 1
    have h1 : n % 16 ^ (k + 1) = 16 ^ k * (n / 16 ^ k % 16) + n % 16 ^ k := by
      rw [Nat.pow_succ, Nat.mod_mul]; omega
    rw [h1, Nat.add_mul, Nat.pow_succ]
    have h2 : 16 * a * 16 ^ k = a * (16 ^ k * 16) := by rw [Nat.mul_comm 16 a, Nat.mul_assoc, Nat.mul_comm 16]
    rw [h2, Nat.mul_comm (n / 16 ^ k % 16)]
    omega
theorem numF_inv (l : List UInt8) (a : Nat) (h : 0 ≤ numF l (a : Int)) : ∃ y : Nat, y < 16 ^ l.length ∧ numF l (a : Int) = ((a * 16 ^ l.length + y : Nat) : Int) ∧ hexL y l.length = l := by
  induction l generalizing a with
  | nil => exact ⟨0, by simp, by simp [numF], rfl⟩
  | cons c r ih =>
    rw [numF] at h ⊢
    by_cases hc : hexd c.toNat < 0
    · rw [if_pos hc] at h; omega
    · rw [if_neg hc] at h ⊢
      obtain ⟨d, hd⟩ : ∃ d : Nat, hexd c.toNat = d := ⟨(hexd c.toNat).toNat, by omega⟩
      have hd16 := (hexd_lt c.toNat).2
      have hdc := dig_hexd c (by omega)
      rw [hd] at h ⊢ hd16 hdc
      rw [Int.toNat_natCast] at hdc
      have e : (16 * (a : Int) + (d : Int)) = ((16 * a + d : Nat) : Int) := by omega
      rw [e] at h ⊢
      obtain ⟨y, hy, hn, hl⟩ := ih _ h
      have hp : 0 < 16 ^ r.length := Nat.pow_pos (by decide)
      refine ⟨d * 16 ^ r.length + y, ?_, ?_, ?_⟩
      · rw [List.length_cons, Nat.pow_succ]
        have : d * 16 ^ r.length + 16 ^ r.length ≤ 16 ^ r.length * 16 := by
          have := Nat.mul_le_mul_right (16 ^ r.length) (show d + 1 ≤ 16 by omega)
          rw [Nat.add_mul, Nat.one_mul] at this
          omega
        omega
      · rw [hn, List.length_cons, Nat.pow_succ]
        congr 1
        rw [Nat.add_mul]
        have h2 : 16 * a * 16 ^ r.length = a * (16 ^ r.length * 16) := by rw [Nat.mul_comm 16 a, Nat.mul_assoc, Nat.mul_comm 16]
        omega
      · rw [List.length_cons, hexL_head]
        have e1 : (d * 16 ^ r.length + y) / 16 ^ r.length % 16 = d := by
          rw [Nat.mul_comm, Nat.mul_add_div hp, Nat.div_eq_of_lt hy]; omega
        rw [e1, hdc]
        congr 1
        have e2 : ∀ k n m, n % 16 ^ k = m % 16 ^ k → hexL n k = hexL m k := by
          intro k
          induction k with
          | zero => intro n m _; rfl
          | succ k ih2 =>
            intro n m hnm
            rw [hexL_head, hexL_head]
            have g1 : n % 16 ^ k = m % 16 ^ k := by
              have := congrArg (· % 16 ^ k) hnm
              simp only [Nat.pow_succ, Nat.mod_mul_right_mod] at this
              exact this
            have g2 : n / 16 ^ k % 16 = m / 16 ^ k % 16 := by
              rw [Nat.pow_succ, Nat.mod_mul, Nat.mod_mul, g1] at hnm
              have hp2 : 0 < 16 ^ k := Nat.pow_pos (by decide)
              have : 16 ^ k * (n / 16 ^ k % 16) = 16 ^ k * (m / 16 ^ k % 16) := by omega
              exact Nat.eq_of_mul_eq_mul_left hp2 this
            rw [g2, ih2 n m g1]
        rw [e2 r.length _ y (by rw [Nat.mul_comm, Nat.mul_add_mod]), hl]

/-- The order of two texts. -/
def ordS (a b : List UInt8) : Int := if Op.bytesLess a b then -1 else if a = b then 0 else 1
theorem ordS_cons (x y : UInt8) (a b : List UInt8) : ordS (x :: a) (y :: b) = if x < y then -1 else if y < x then 1 else ordS a b := by
  unfold ordS
  by_cases h1 : x < y
  · simp [Op.bytesLess, h1]
  · by_cases h2 : y < x
    · have hne : x ≠ y := fun h => by subst h; exact h1 h2
      simp [Op.bytesLess, h1, h2, hne]
    · have : x = y := UInt8.le_antisymm (UInt8.not_lt.1 h2) (UInt8.not_lt.1 h1)
      subst this
      simp [Op.bytesLess, h1]
theorem ordS_range (a b : List UInt8) : ordS a b = -1 ∨ ordS a b = 0 ∨ ordS a b = 1 := by unfold ordS; split <;> (try split) <;> simp
theorem ordS_append (a b a' b' : List UInt8) (h : a.length = b.length) : ordS (a ++ a') (b ++ b') = if ordS a b = 0 then ordS a' b' else ordS a b := by
  induction a generalizing b with
  | nil =>
    cases b with
    | nil => simp [ordS, Op.bytesLess]
    | cons _ _ => simp at h
  | cons x a ih =>
    cases b with
    | nil => simp at h
    | cons y b =>
      rw [List.cons_append, List.cons_append, ordS_cons, ordS_cons, ih b (by simpa using h)]
      by_cases h1 : x < y
      · simp [h1]
      · by_cases h2 : y < x
        · simp [h1, h2]
        · simp [h1, h2]
theorem dig_lt (d e : Nat) (h : d < 16) (h' : e < 16) : (dig d < dig e) ↔ d < e := by
  have h3 : ∀ q p : Fin 16, (dig q.1 < dig p.1) ↔ q.1 < p.1 := by decide +kernel
  exact h3 ⟨d, h⟩ ⟨e, h'⟩
theorem ordS_hexL (n m k : Nat) : ordS (hexL n k) (hexL m k) = ord ((n % 16 ^ k : Nat) : Int) ((m % 16 ^ k : Nat) : Int) := by
  induction k with
  | zero => simp [hexL, ordS, ord, Nat.mod_one, Op.bytesLess]
  | succ k ih =>
    have hp : 0 < 16 ^ k := Nat.pow_pos (by decide)
    have l1 := Nat.mod_lt n hp
    have l2 := Nat.mod_lt m hp
    have h1 : n % 16 ^ (k + 1) = 16 ^ k * (n / 16 ^ k % 16) + n % 16 ^ k := by rw [Nat.pow_succ, Nat.mod_mul]; omega
    have h2 : m % 16 ^ (k + 1) = 16 ^ k * (m / 16 ^ k % 16) + m % 16 ^ k := by rw [Nat.pow_succ, Nat.mod_mul]; omega
    rw [hexL_head, hexL_head, ordS_cons, ih, h1, h2]
    generalize hd : n / 16 ^ k % 16 = d
    generalize he : m / 16 ^ k % 16 = e
    have hd16 : d < 16 := by rw [← hd]; exact Nat.mod_lt _ (by decide)
    have he16 : e < 16 := by rw [← he]; exact Nat.mod_lt _ (by decide)
    generalize n % 16 ^ k = x at *
    generalize m % 16 ^ k = y at *
    generalize 16 ^ k = p at *
    simp only [dig_lt d e hd16 he16, dig_lt e d he16 hd16]
    by_cases h3 : d < e
    · have := Nat.mul_le_mul_left p (show d + 1 ≤ e by omega)
      rw [Nat.mul_add, Nat.mul_one] at this
      rw [if_pos h3, ord_lt (by omega)]
    · by_cases h4 : e < d
      · have := Nat.mul_le_mul_left p (show e + 1 ≤ d by omega)
        rw [Nat.mul_add, Nat.mul_one] at this
        rw [if_neg h3, if_pos h4, ord_gt (by omega)]
      · have : d = e := by omega
        subst this
        rw [if_neg h3, if_neg h4]
        unfold ord
        congr 1
        · simp only [eq_iff_iff]; omega
        · congr 1
          simp only [eq_iff_iff]; omega
theorem ord_zero {a b : Int} : ord a b = 0 ↔ a = b := by unfold ord; split <;> (try split) <;> omega
theorem text_order {t s r t' s' r' : Int} (h : vld t s r = true) (h' : vld t' s' r' = true) : ordS (fmtC t s r) (fmtC t' s' r') = cmpC t s r t' s' r' := by
  obtain ⟨a1, a2, a3, a4, a5, a6⟩ := vld_iff.1 h
  obtain ⟨b1, b2, b3, b4, b5, b6⟩ := vld_iff.1 h'
  have g : ∀ (x y : Int) (k : Nat), 0 ≤ x → 0 ≤ y → x < 16 ^ k → y < 16 ^ k → ordS (hexL x.toNat k) (hexL y.toNat k) = ord x y := by
    intro x y k hx hy hx2 hy2
    rw [ordS_hexL, Nat.mod_eq_of_lt (by have : (x.toNat : Int) < ((16 ^ k : Nat) : Int) := by rw [Int.toNat_of_nonneg hx]; simpa using hx2
                                        omega), Nat.mod_eq_of_lt (by have : (y.toNat : Int) < ((16 ^ k : Nat) : Int) := by rw [Int.toNat_of_nonneg hy]; simpa using hy2
                                                                     omega), Int.toNat_of_nonneg hx, Int.toNat_of_nonneg hy]
  rw [fmtC, fmtC, if_pos h, if_pos h', fmtL, fmtL]
  rw [ordS_append _ _ _ _ (by simp [hexL_length]), ordS_append _ _ _ _ (by simp [hexL_length]), ordS_append _ _ _ _ (by simp [hexL_length]), ordS_append _ _ _ _ (by simp [hexL_length])]
  rw [g t t' 11 a1 b1 (by omega) (by omega), g s s' 8 a3 b3 (by omega) (by omega), g r r' 1 a5 b5 (by omega) (by omega)]
  have e0 : ordS [45] [45] = 0 := by decide
  rw [e0]
  unfold cmpC
  by_cases h1 : t = t'
  · subst h1
    have : ord t t = 0 := ord_eq t
    by_cases h2 : s = s'
    · subst h2
      have : ord s s = 0 := ord_eq s
      simp [*]
    · have hs : ord s s' ≠ 0 := fun h => h2 (ord_zero.1 h)
      simp [*]
  · have ht : ord t t' ≠ 0 := fun h => h1 (ord_zero.1 h)
    simp [*]

theorem fmt_length {t s r : Int} (h : vld t s r = true) : (fmtC t s r).length = 22 := by
  rw [fmtC, if_pos h, fmtL]; simp [hexL_length]
theorem ext_list (l : List UInt8) (i j : Nat) : ((⟨l.toArray⟩ : ByteArray).extract i j).data.toList = (l.drop i).take (j - i) := by
  simp [ByteArray.data_extract, List.take_drop]
theorem parse_fmt {t s r : Int} (h : vld t s r = true) : parseC ⟨(fmtC t s r).toArray⟩ = ((t, s, r), 0) := by
  obtain ⟨a1, a2, a3, a4, a5, a6⟩ := vld_iff.1 h
  have l1 := hexL_length t.toNat 11
  have l2 := hexL_length s.toNat 8
  have l3 := hexL_length r.toNat 1
  have hf : fmtC t s r = hexL t.toNat 11 ++ ([45] ++ (hexL s.toNat 8 ++ ([45] ++ hexL r.toNat 1))) := by rw [fmtC, if_pos h, fmtL]; simp
  have hl := fmt_length h
  have hsz : (⟨(fmtC t s r).toArray⟩ : ByteArray).size = 22 := by
    show (fmtC t s r).toArray.size = 22
    simpa using hl
  have d11 : (fmtC t s r).getD 11 0 = 45 := by
    rw [hf, List.getD, List.getElem?_append_right (by omega), l1]; rfl
  have d20 : (fmtC t s r).getD 20 0 = 45 := by
    rw [hf, List.getD, List.getElem?_append_right (by omega), l1, List.getElem?_append_right (by simp), List.length_singleton, List.getElem?_append_right (by omega), l2]; rfl
  have hshp : shp ⟨(fmtC t s r).toArray⟩ = true := by
    unfold shp
    rw [hsz]
    show (decide (22 = 22) && decide ((((fmtC t s r).toArray.toList).getD 11 0).toNat = 45) && decide ((((fmtC t s r).toArray.toList).getD 20 0).toNat = 45)) = true
    rw [List.toList_toArray, d11, d20]
    rfl
  have hA : pA ⟨(fmtC t s r).toArray⟩ = t := by
    unfold pA
    rw [ext_list, List.drop_zero, hf, List.take_left' (by omega)]
    have := numF_hexL t.toNat 11 0
    rw [Nat.zero_mul, Nat.zero_add, Nat.mod_eq_of_lt (by omega)] at this
    rw [show (0 : Int) = ((0 : Nat) : Int) from rfl, this]
    omega
  have hB : pB ⟨(fmtC t s r).toArray⟩ = s := by
    unfold pB
    rw [ext_list, hf, show (12 : Nat) = 11 + 1 from rfl, ← List.drop_drop, List.drop_left' l1]
    show numF (List.take 8 (hexL s.toNat 8 ++ ([45] ++ hexL r.toNat 1))) 0 = s
    rw [List.take_left' (by omega)]
    have := numF_hexL s.toNat 8 0
    rw [Nat.zero_mul, Nat.zero_add, Nat.mod_eq_of_lt (by omega)] at this
    rw [show (0 : Int) = ((0 : Nat) : Int) from rfl, this]
    omega
  have hD : pD ⟨(fmtC t s r).toArray⟩ = r := by
    unfold pD
    rw [ext_list, hf, show (21 : Nat) = 11 + (1 + (8 + 1)) from rfl, ← List.drop_drop, List.drop_left' l1, ← List.drop_drop]
    show numF (List.take 1 (List.drop (8 + 1) (hexL s.toNat 8 ++ ([45] ++ hexL r.toNat 1)))) 0 = r
    rw [← List.drop_drop, List.drop_left' l2]
    show numF (List.take 1 (hexL r.toNat 1)) 0 = r
    rw [List.take_of_length_le (by omega)]
    have := numF_hexL r.toNat 1 0
    rw [Nat.zero_mul, Nat.zero_add, Nat.mod_eq_of_lt (by omega)] at this
    rw [show (0 : Int) = ((0 : Nat) : Int) from rfl, this]
    omega
  rw [parse_good hshp (by omega) (by omega) (by omega) (by rw [hA, hB, hD]; exact h), hA, hB, hD]

theorem list22 (l : List UInt8) (h : l.length = 22) (h11 : l.getD 11 0 = 45) (h20 : l.getD 20 0 = 45) : l = l.take 11 ++ [45] ++ (l.drop 12).take 8 ++ [45] ++ (l.drop 21).take 1 := by
  match l, h with
  | [a0, a1, a2, a3, a4, a5, a6, a7, a8, a9, a10, a11, a12, a13, a14, a15, a16, a17, a18, a19, a20, a21], _ =>
    simp at h11 h20
    simp [h11, h20]
theorem fmt_parse {s : ByteArray} (h : (parseC s).2 = 0) : fmtC (parseC s).1.1 (parseC s).1.2.1 (parseC s).1.2.2 = s.data.toList := by
  by_cases h1 : shp s = false
  · rw [parse_shape h1] at h; simp at h
  · have h1' : shp s = true := by simpa using h1
    by_cases h2 : pA s < 0 ∨ pB s < 0 ∨ pD s < 0
    · rw [parse_neg h1' h2] at h; simp at h
    · have h3 : 0 ≤ pA s ∧ 0 ≤ pB s ∧ 0 ≤ pD s := by omega
      by_cases h4 : vld (pA s) (pB s) (pD s) = false
      · rw [parse_range h1' h3.1 h3.2.1 h3.2.2 h4] at h; simp at h
      · have h4' : vld (pA s) (pB s) (pD s) = true := by simpa using h4
        rw [parse_good h1' h3.1 h3.2.1 h3.2.2 h4']
        simp only
        rw [fmtC, if_pos h4', fmtL]
        simp only [shp, Bool.and_eq_true, decide_eq_true_eq] at h1'
        obtain ⟨⟨e1, e2⟩, e3⟩ := h1'
        have hl : s.data.toList.length = 22 := by simpa using e1
        have e2' : s.data.toList.getD 11 0 = 45 := UInt8.toNat_inj.1 e2
        have e3' : s.data.toList.getD 20 0 = 45 := UInt8.toNat_inj.1 e3
        have key := list22 _ hl e2' e3'
        have hs : s = ⟨(s.data.toList).toArray⟩ := by simp
        obtain ⟨g1, g2, g3⟩ := h3
        unfold pA at g1
        unfold pB at g2
        unfold pD at g3
        have x1 : (s.extract 0 11).data.toList = s.data.toList.take 11 := by rw [hs, ext_list]; simp
        have x2 : (s.extract 12 20).data.toList = (s.data.toList.drop 12).take 8 := by rw [hs, ext_list]
        have x3 : (s.extract 21 22).data.toList = (s.data.toList.drop 21).take 1 := by rw [hs, ext_list]
        unfold pA pB pD
        rw [x1] at g1 ⊢
        rw [x2] at g2 ⊢
        rw [x3] at g3 ⊢
        obtain ⟨y1, _, k1, j1⟩ := numF_inv _ 0 g1
        obtain ⟨y2, _, k2, j2⟩ := numF_inv _ 0 g2
        obtain ⟨y3, _, k3, j3⟩ := numF_inv _ 0 g3
        rw [Nat.zero_mul, Nat.zero_add] at k1 k2 k3
        have z0 : (0 : Int) = ((0 : Nat) : Int) := rfl
        rw [z0, k1, k2, k3, Int.toNat_natCast, Int.toNat_natCast, Int.toNat_natCast]
        have m1 : (s.data.toList.take 11).length = 11 := by rw [List.length_take, hl]; rfl
        have m2 : ((s.data.toList.drop 12).take 8).length = 8 := by rw [List.length_take, List.length_drop, hl]; rfl
        have m3 : ((s.data.toList.drop 21).take 1).length = 1 := by rw [List.length_take, List.length_drop, hl]; rfl
        rw [m1] at j1
        rw [m2] at j2
        rw [m3] at j3
        rw [j1, j2, j3]
        exact key.symm
end Go.Proofs.Yteidbomkbddliaa.Csn
