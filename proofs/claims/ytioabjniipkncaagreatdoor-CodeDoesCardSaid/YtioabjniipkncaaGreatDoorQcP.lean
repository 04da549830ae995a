/-
  Plain laws: base64 by groups of three bytes; hexadecimal digits; verifiers.
-/
import Derived.Test.YtioabjniipkncaaGreatDoorRcV
namespace Go.Proofs.YtioabjniipkncaaGreatDoor.Rc
open Go.RowKit Go.Proofs.YtioabjniipkncaaGreatDoor.Fo Go.Proofs.YtioabjniipkncaaGreatDoor.Rf Go.Maps

theorem wraps_i64 (n : Int) (h0 : 0 ≤ n) (h1 : n < 2 ^ 63) : IntKind.i64.wrap n = n := by rw [IntKind.wrap_i64]; omega
theorem wrap64_small {n : Int} (h0 : 0 ≤ n) (h1 : n < 4611686018427387904) : wrap64 n = n := by
  unfold wrap64
  omega
theorem orB_is (b : Int) (c : UInt8) (h0 : 0 ≤ b) (h1 : b < 1000000) : orB b c = b * 256 + (c.toNat : Int) := by
  have hc : c.toNat < 256 := c.toNat_lt
  unfold orB
  rw [wrap64_small (by omega) (by omega), wrap64_small (n := (c.toNat : Int)) (by omega) (by omega)]
  exact bits_join .i64 63 (by decide) wraps_i64 8 (b * 256) (c.toNat : Int) (by omega) (by omega) (by omega) (by omega) (by omega) (by omega)
theorem maskB_is (b : Int) (m : Nat) (hm : m ≤ 20) (h0 : 0 ≤ b) (h1 : b < 1000000000) : maskB b m = b % 2 ^ m := by
  have hp : (2 : Int) ^ m ≤ 2 ^ 20 := by
    have := Nat.pow_le_pow_right (n := 2) (by decide) hm
    exact_mod_cast this
  have hq : (1 : Int) ≤ 2 ^ m := by
    have := Nat.one_le_two_pow (n := m)
    exact_mod_cast this
  unfold maskB
  rw [wrap64_small (n := (2 : Int) ^ m) (by omega) (by omega), wrap64_small (n := (2 : Int) ^ m - 1) (by omega) (by omega)]
  exact bits_mask .i64 63 (by decide) wraps_i64 m (by omega) b h0 (by omega)
/-- What a divisor is in the j-th round. -/
def dvB (j : Nat) : Int := if j = 0 then 262144 else if j = 1 then 4096 else if j = 2 then 64 else if j = 3 then 1 else 0
/-- The number of a group. -/
def nB (l : List UInt8) (i : Nat) : Int := (bAt l i).toNat * 65536 + (bAt l (i + 1)).toNat * 256 + (bAt l (i + 2)).toNat
/-- The letters of a group, as many as were written. -/
def gB (n : Int) (k : Nat) : List UInt8 := (List.range k).map fun j => alB (n / dvB j)
theorem gB_succ (n : Int) (k : Nat) : gB n (k + 1) = gB n k ++ [alB (n / dvB k)] := by unfold gB; rw [List.range_succ, List.map_append]; rfl
/-- How many letters a group has. -/
def kB (len i : Nat) : Nat := if i + 2 < len then 4 else if i + 1 < len then 3 else 2
/-- What was written after q groups. -/
def rB (l : List UInt8) : Nat → List UInt8
  | 0 => []
  | q + 1 => rB l q ++ gB (nB l (3 * q)) (kB l.length (3 * q))
theorem alB_eq {a b : Int} (h : a % 64 = b % 64) : alB a = alB b := by unfold alB ixB; rw [h]
theorem drain1 {b : Int} {out : List UInt8} {m : Nat} (h : m < 6) : drain b (m + 6) out = (m, out ++ [alB (b / 2 ^ m)]) := by
  rw [← drain_step (by omega), show m + 6 - 6 = m by omega, drain_end (by omega)]
theorem drain2 {b : Int} {out : List UInt8} : drain b 12 out = (0, out ++ [alB (b / 2 ^ 6), alB (b / 2 ^ 0)]) := by
  rw [← drain_step (by omega), show 12 - 6 = 0 + 6 from rfl, drain1 (by omega), List.append_assoc]
  rfl
theorem bAt_lt (l : List UInt8) (i : Nat) : ((bAt l i).toNat : Int) < 256 := by have := (bAt l i).toNat_lt; omega
theorem st64_one {l : List UInt8} {k : Nat} {out : List UInt8} (h : st64 l k = (0, 0, out)) : st64 l (k + 1) = (((bAt l k).toNat : Int) % 4, 2, out ++ [alB (nB l k / dvB 0)]) := by
  have hb := bAt_lt l k
  have hb1 := bAt_lt l (k + 1)
  have hb2 := bAt_lt l (k + 2)
  have e1 : orB 0 (bAt l k) = (bAt l k).toNat := by rw [orB_is 0 _ (by omega) (by omega)]; omega
  rw [st64, h]
  show (maskB (orB 0 (bAt l k)) (drain (orB 0 (bAt l k)) (2 + 6) out).1, (drain (orB 0 (bAt l k)) (2 + 6) out).1, (drain (orB 0 (bAt l k)) (2 + 6) out).2) = _
  rw [e1, drain1 (by omega)]
  show (maskB _ 2, 2, _) = _
  rw [maskB_is _ _ (by omega) (by omega) (by omega), alB_eq (a := ((bAt l k).toNat : Int) / 2 ^ 2) (b := nB l k / dvB 0) (by unfold nB dvB; simp only [if_pos]; omega)]
  rfl
theorem st64_two {l : List UInt8} {k : Nat} {out : List UInt8} (h : st64 l (k + 1) = (((bAt l k).toNat : Int) % 4, 2, out)) : st64 l (k + 2) = ((((bAt l k).toNat : Int) * 256 + ((bAt l (k + 1)).toNat : Int)) % 16, 4, out ++ [alB (nB l k / dvB 1)]) := by
  have hb := bAt_lt l k
  have hb1 := bAt_lt l (k + 1)
  have hb2 := bAt_lt l (k + 2)
  obtain ⟨a, ha⟩ : ∃ a, ((bAt l k).toNat : Int) % 4 = a := ⟨_, rfl⟩
  have e1 : orB a (bAt l (k + 1)) = a * 256 + (bAt l (k + 1)).toNat := orB_is a _ (by omega) (by omega)
  rw [show k + 2 = (k + 1) + 1 from rfl, st64, h, ha]
  show (maskB (orB a (bAt l (k + 1))) (drain (orB a (bAt l (k + 1))) (4 + 6) out).1, (drain (orB a (bAt l (k + 1))) (4 + 6) out).1, (drain (orB a (bAt l (k + 1))) (4 + 6) out).2) = _
  rw [e1, drain1 (by omega)]
  show (maskB _ 4, 4, _) = _
  rw [maskB_is _ _ (by omega) (by omega) (by omega), alB_eq (a := (a * 256 + ((bAt l (k + 1)).toNat : Int)) / 2 ^ 4) (b := nB l k / dvB 1) (by unfold nB dvB; simp only [if_neg (show ¬ 1 = 0 by decide), if_pos]; omega)]
  refine Prod.ext ?_ rfl
  show (a * 256 + ((bAt l (k + 1)).toNat : Int)) % 2 ^ 4 = _
  omega
theorem st64_three {l : List UInt8} {k : Nat} {out : List UInt8} (h : st64 l (k + 2) = ((((bAt l k).toNat : Int) * 256 + ((bAt l (k + 1)).toNat : Int)) % 16, 4, out)) : st64 l (k + 3) = (0, 0, out ++ [alB (nB l k / dvB 2), alB (nB l k / dvB 3)]) := by
  have hb := bAt_lt l k
  have hb1 := bAt_lt l (k + 1)
  have hb2 := bAt_lt l (k + 2)
  obtain ⟨a, ha⟩ : ∃ a, (((bAt l k).toNat : Int) * 256 + (bAt l (k + 1)).toNat) % 16 = a := ⟨_, rfl⟩
  have e1 : orB a (bAt l (k + 2)) = a * 256 + (bAt l (k + 2)).toNat := orB_is a _ (by omega) (by omega)
  rw [show k + 3 = (k + 2) + 1 from rfl, st64, h, ha]
  show (maskB (orB a (bAt l (k + 2))) (drain (orB a (bAt l (k + 2))) 12 out).1, (drain (orB a (bAt l (k + 2))) 12 out).1, (drain (orB a (bAt l (k + 2))) 12 out).2) = _
  rw [e1, drain2]
  show (maskB _ 0, 0, _) = _
  rw [maskB_is _ _ (by omega) (by omega) (by omega), alB_eq (a := (a * 256 + ((bAt l (k + 2)).toNat : Int)) / 2 ^ 6) (b := nB l k / dvB 2) (by unfold nB dvB; simp only [if_neg (show ¬ 2 = 0 by decide), if_neg (show ¬ 2 = 1 by decide), if_pos]; omega), alB_eq (a := (a * 256 + ((bAt l (k + 2)).toNat : Int)) / 2 ^ 0) (b := nB l k / dvB 3) (by unfold nB dvB; simp only [if_neg (show ¬ 3 = 0 by decide), if_neg (show ¬ 3 = 1 by decide), if_neg (show ¬ 3 = 2 by decide), if_pos]; omega)]
  refine Prod.ext ?_ rfl
  show (a * 256 + ((bAt l (k + 2)).toNat : Int)) % 2 ^ 0 = 0
  omega
theorem gB4 (n : Int) : gB n 4 = [alB (n / dvB 0), alB (n / dvB 1), alB (n / dvB 2), alB (n / dvB 3)] := rfl
theorem st64_groups (l : List UInt8) : ∀ q, 3 * q ≤ l.length → st64 l (3 * q) = (0, 0, rB l q)
  | 0, _ => rfl
  | q + 1, h => by
    have h0 := st64_groups l q (by omega)
    have h3 := st64_three (st64_two (st64_one h0))
    rw [show 3 * (q + 1) = 3 * q + 3 by omega, h3, rB, show kB l.length (3 * q) = 4 by unfold kB; rw [if_pos (by omega)], gB4]
    simp
/-- The two ways to write a digest in base64 agree. -/
theorem b64_groups {l : List UInt8} (h : l.length = 16) : b64V l = rB l 6 := by
  have h0 := st64_groups l 5 (by omega)
  have h1 := st64_one h0
  have hb := bAt_lt l 15
  unfold b64V
  rw [h, show (16 : Nat) = 3 * 5 + 1 from rfl, h1]
  show (if 0 < 2 then _ else _) = _
  rw [if_pos (by decide), show rB l 6 = rB l 5 ++ gB (nB l 15) (kB l.length 15) from rfl, show kB l.length 15 = 2 by unfold kB; rw [h]; rfl]
  show (rB l 5 ++ [alB (nB l 15 / dvB 0)]) ++ [alB (wrap64 (((bAt l 15).toNat : Int) % 4 * 2 ^ (6 - 2)))] = rB l 5 ++ [alB (nB l 15 / dvB 0), alB (nB l 15 / dvB 1)]
  have hz1 : bAt l (15 + 1) = 0 := by unfold bAt; simp [List.getD, h]
  have hz2 : bAt l (15 + 2) = 0 := by unfold bAt; simp [List.getD, h]
  rw [wrap64_small (by omega) (by omega), alB_eq (a := ((bAt l 15).toNat : Int) % 4 * 2 ^ (6 - 2)) (b := nB l 15 / dvB 1) (by unfold nB dvB; rw [hz1, hz2]; simp only [if_neg (show ¬ 1 = 0 by decide), if_pos]; show ((bAt l 15).toNat : Int) % 4 * 2 ^ (6 - 2) % 64 = (((bAt l 15).toNat : Int) * 65536 + ((0 : UInt8).toNat : Int) * 256 + ((0 : UInt8).toNat : Int)) / 4096 % 64; have : ((0 : UInt8).toNat : Int) = 0 := rfl; omega), List.append_assoc]
  rfl
/-! ### Hexadecimal digits -/
/-- The last k digits. -/
def hxT (n : Int) (k : Nat) : List UInt8 := (hexV n).drop (16 - k)
theorem hexV_at (n : Int) (j : Nat) (hj : j < 16) : (hexV n)[j]? = some (dgI (nib n (15 - j))) := by
  unfold hexV hxL
  simp only [List.getElem?_map, List.getElem?_range hj, Option.map_some]
  rw [if_pos (by omega)]
theorem hxT_zero (n : Int) : hxT n 0 = [] := by unfold hxT; rw [List.drop_eq_nil_iff]; rw [hexV_length]; omega
theorem hxT_all (n : Int) : hxT n 16 = hexV n := rfl
theorem hxT_succ (n : Int) (k : Nat) (hk : k < 16) : hxT n (k + 1) = dgI (nib n k) :: hxT n k := by
  have hl := hexV_length n
  unfold hxT
  have e := hexV_at n (15 - k) (by omega)
  rw [show 15 - (15 - k) = k by omega] at e
  have h2 : 16 - (k + 1) < (hexV n).length := by omega
  rw [List.drop_eq_getElem_cons h2]
  congr 1
  · have e2 := (List.getElem?_eq_some_iff.1 e).2
    rw [← e2]
    congr 1
    omega
  · congr 1
    omega
theorem nib_step (n : Int) (k : Nat) : ((nib n k : Nat) : Int) = n / 16 ^ k % 16 := by
  unfold nib
  rw [show (2 : Int) ^ (4 * k) = 16 ^ k by rw [Int.pow_mul]; rfl]
  omega
theorem div16 (n : Int) (k : Nat) : n / 16 ^ k / 16 = n / 16 ^ (k + 1) := by
  rw [Int.pow_succ, Int.ediv_ediv_of_nonneg (Int.pow_nonneg (by decide))]
/-! ### Verifiers -/
def vrC (c : UInt8) : Bool := alnB c || (decide (c.toNat = 45) || decide (c.toNat = 46) || decide (c.toNat = 95) || decide (c.toNat = 126))
def ltB (n : Nat) : Bool := decide ((n.toUInt8.toNat = n) ∧ okV n.toUInt8 = vrC n.toUInt8)
theorem okV_all : (List.range 256).all ltB = true := by kernel_rfl
theorem okV_is (c : UInt8) : okV c = vrC c := by
  have h := List.all_eq_true.1 okV_all c.toNat (List.mem_range.2 c.toNat_lt)
  unfold ltB at h
  have h2 := (of_decide_eq_true h).2
  rwa [show c.toNat.toUInt8 = c from by simp] at h2
end Go.Proofs.YtioabjniipkncaaGreatDoor.Rc
