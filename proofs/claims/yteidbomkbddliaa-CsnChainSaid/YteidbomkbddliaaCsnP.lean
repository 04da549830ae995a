/-
  The plain functions of layer 15 (change sequence numbers): what both texts compute. No program.
-/
namespace Go.Proofs.Yteidbomkbddliaa.Csn
def vld (t s r : Int) : Bool := decide (0 ≤ t ∧ t ≤ 1099511627776 ∧ 0 ≤ s ∧ s ≤ 4294967295 ∧ 0 ≤ r ∧ r < 8)
theorem vld_iff {t s r : Int} : vld t s r = true ↔ 0 ≤ t ∧ t ≤ 1099511627776 ∧ 0 ≤ s ∧ s ≤ 4294967295 ∧ 0 ≤ r ∧ r < 8 := by simp [vld]
def ord (a b : Int) : Int := if a < b then -1 else if b < a then 1 else 0
def cmpC (t s r t' s' r' : Int) : Int := if t ≠ t' then ord t t' else if s ≠ s' then ord s s' else ord r r'
theorem ord_lt {a b : Int} (h : a < b) : ord a b = -1 := by simp [ord, h]
theorem ord_gt {a b : Int} (h : b < a) : ord a b = 1 := by unfold ord; rw [if_neg (by omega), if_pos h]
theorem ord_eq (a : Int) : ord a a = 0 := by simp [ord]

/-- cmp.Or. -/
def orL : List Int → Int
  | [] => 0
  | x :: r => if x ≠ 0 then x else orL r
/-- Element k of a list of numbers. -/
def ie (l : List Int) (k : Nat) : Int := l.getD k 0
theorem orL_at (l : List Int) (k : Nat) (hk : k < l.length) (hz : ∀ j, j < k → ie l j = 0) (h : ie l k ≠ 0) : orL l = ie l k := by
  unfold ie at *
  induction l generalizing k with
  | nil => simp at hk
  | cons x r ih =>
    cases k with
    | zero => simp at h; simp [orL, h]
    | succ k =>
      have h0 := hz 0 (by omega)
      simp at h0
      subst h0
      simp [orL]
      exact ih k (by simpa using hk) (fun j hj => by simpa using hz (j + 1) (by omega)) (by simpa using h)
theorem orL_zero (l : List Int) (hz : ∀ j, j < l.length → ie l j = 0) : orL l = 0 := by
  unfold ie at *
  induction l with
  | nil => rfl
  | cons x r ih =>
    have h0 := hz 0 (by simp)
    simp at h0
    subst h0
    simp [orL]
    exact ih fun j hj => by simpa using hz (j + 1) (by simpa using hj)
theorem cmp_or (t s r t' s' r' : Int) : orL [ord t t', ord s s', ord r r'] = cmpC t s r t' s' r' := by
  have h : ∀ a b, ord a b = 0 ↔ a = b := fun a b => by unfold ord; split <;> (try split) <;> omega
  have h2 : (if ord r r' ≠ 0 then ord r r' else 0) = ord r r' := by by_cases e : ord r r' = 0 <;> simp [e]
  simp only [orL, cmpC, h2]
  simp [h]
theorem cmp_self (t s r : Int) : cmpC t s r t s r = 0 := by simp [cmpC, ord]

/-- The clock, cut to the instants. -/
def inst (n : Int) : Int := if n < 0 then 0 else if 1099511627776 < n then 1099511627776 else n
/-- Next: the number and the error. -/
def nextC (t s r now rep : Int) : (Int × Int × Int) × Int :=
  if vld t s r = false ∨ rep < 0 ∨ 8 ≤ rep then ((0, 0, 0), 2)
  else if t < inst now then ((inst now, 0, rep), 0)
  else if s = 4294967295 then ((0, 0, 0), 27)
  else ((t, s + 1, rep), 0)

/-- A hexadecimal digit's value, or -1. -/
def hexd (c : Nat) : Int := if 48 ≤ c ∧ c ≤ 57 then (c : Int) - 48 else if 97 ≤ c ∧ c ≤ 102 then (c : Int) - 87 else -1
theorem hexd_lt (c : Nat) : -1 ≤ hexd c ∧ hexd c ≤ 15 := by unfold hexd; split <;> (try split) <;> omega
def numF : List UInt8 → Int → Int
  | [], n => n
  | c :: r, n => if hexd c.toNat < 0 then -1 else numF r (16 * n + hexd c.toNat)
/-- The digit of a value. -/
def dig (n : Nat) : UInt8 := if n < 10 then (48 + n).toUInt8 else (87 + n).toUInt8
/-- The last k hexadecimal digits of n. -/
def hexL (n : Nat) : Nat → List UInt8
  | 0 => []
  | k + 1 => hexL (n / 16) k ++ [dig (n % 16)]
theorem hexL_length (n k : Nat) : (hexL n k).length = k := by
  induction k generalizing n with
  | zero => rfl
  | succ k ih => simp [hexL, ih]
end Go.Proofs.Yteidbomkbddliaa.Csn
