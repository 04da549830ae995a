/-
  The walks of layer 15: hexadecimal digits.
-/
import Derived.Test.YteidbomkbddliaaCsnA
import Derived.Test.YteidbomkbddliaaShelf
namespace Go.Proofs.Yteidbomkbddliaa.Csn
open Go.RowKit

theorem indexByte_digits (c : Nat) (hc : c < 256) : Lib.indexByte [48, 49, 50, 51, 52, 53, 54, 55, 56, 57, 97, 98, 99, 100, 101, 102] (Int.toNat (c : Int)).toUInt8 = hexd c := by
  have h : ∀ c : Fin 256, Lib.indexByte [48, 49, 50, 51, 52, 53, 54, 55, 56, 57, 97, 98, 99, 100, 101, 102] (c.1).toUInt8 = hexd c.1 := by decide +kernel
  exact h ⟨c, hc⟩

theorem i64_or16 (m d : Int) (h0 : 0 ≤ m) (h1 : m ≤ 72057594037927935) (h2 : 0 ≤ d) (h3 : d ≤ 15) : bits .or .i64 (m * 16) d = 16 * m + d := by
  obtain ⟨a, rfl⟩ := Int.eq_ofNat_of_zero_le h0
  obtain ⟨b, rfl⟩ := Int.eq_ofNat_of_zero_le h2
  have key : (BitVec.ofInt 64 ((a : Int) * 16) ||| BitVec.ofInt 64 (b : Int)).toNat = 16 * a + b := by
    rw [BitVec.toNat_or, BitVec.toNat_ofInt, BitVec.toNat_ofInt]
    have e1 : ((a : Int) * 16 % ((2 ^ 64 : Nat) : Int)).toNat = a <<< 4 := by rw [Nat.shiftLeft_eq]; omega
    have e2 : ((b : Int) % ((2 ^ 64 : Nat) : Int)).toNat = b := by omega
    rw [e1, e2, ← Nat.shiftLeft_add_eq_or_of_lt (by omega : b < 2 ^ 4), Nat.shiftLeft_eq]
    omega
  show IntKind.i64.wrap ((BitVec.ofInt 64 ((a : Int) * 16) ||| BitVec.ofInt 64 (b : Int)).toNat : Nat) = _
  rw [key, IntKind.wrap_i64]
  omega
theorem i64_and15 (n : Int) : bits .and .i64 n 15 = n % 16 := by
  have h15 : (BitVec.ofInt 64 15).toNat = 2 ^ 4 - 1 := by decide
  have key : (BitVec.ofInt 64 n &&& BitVec.ofInt 64 15).toNat = (n % ((2 ^ 64 : Nat) : Int)).toNat % 2 ^ 4 := by
    rw [BitVec.toNat_and, BitVec.toNat_ofInt, h15, Nat.and_two_pow_sub_one_eq_mod]
  show IntKind.i64.wrap ((BitVec.ofInt 64 n &&& BitVec.ofInt 64 15).toNat : Nat) = n % 16
  rw [key, IntKind.wrap_i64]
  omega
theorem ibyte_any (b : UInt8) (w : World) :
    Calls Try.prog 51 #[.string ⟨#[48, 49, 50, 51, 52, 53, 54, 55, 56, 57, 97, 98, 99, 100, 101, 102]⟩, .int .u8 (b.toNat : Int)] w fun e w' => e = .returned (.int .i64 (hexd b.toNat)) ∧ w = w' := by
  refine (Try.strings_IndexByte _ _ _).mono ?_
  rintro e w1 ⟨rfl, rfl⟩
  exact ⟨ret_int (indexByte_digits b.toNat b.toNat_lt), rfl⟩
theorem numF_bad {c : UInt8} (h : hexd c.toNat < 0) (r : List UInt8) (n : Int) : numF (c :: r) n = -1 := by rw [numF, if_pos h]
theorem numF_good {c : UInt8} (h : 0 ≤ hexd c.toNat) (r : List UInt8) (n : Int) : numF (c :: r) n = numF r (16 * n + hexd c.toNat) := by rw [numF, if_neg (by omega)]
theorem pow16 {k : Nat} (h : k ≤ 14) {m : Int} (hm : m < 16 ^ k) : m ≤ 72057594037927935 := by
  have h' : ∀ k : Fin 15, (16 : Int) ^ k.1 ≤ 16 ^ 14 := by decide
  have h2 : (16 : Int) ^ k ≤ 16 ^ 14 := h' ⟨k, by omega⟩
  have e : (16 : Int) ^ 14 = 72057594037927936 := by decide
  omega

set_option maxHeartbeats 1000000 in
theorem number_any (s : ByteArray) (w : World) (hs : s.size ≤ 15) :
    Calls Try.prog 40 #[.string s] w fun e w' => e = .returned (.int .i64 (numF s.data.toList 0)) ∧ w = w' := by
  go_enter Try.func40, Try.ntmps40
  go_wp2
  go_loop [3, 4, 5, 8] (fun n _ _ i => ∃ k : Nat, ∃ m : Int, k ≤ s.size ∧ i = .int .i64 k ∧ n = .int .i64 m ∧ 0 ≤ m ∧ Hid (m < 16 ^ k) ∧ Hid (numF (s.data.toList.drop k) m = numF s.data.toList 0)) (fun _ _ _ i => s.size - (intOf i).toNat)
  case atStart => exact ⟨0, 0, Nat.zero_le _, rfl, rfl, by omega, show (0 : Int) < 16 ^ 0 by decide, rfl⟩
  case round =>
    obtain ⟨k, m, hk, rfl, rfl, hm0, hm1, hn⟩ := hrel
    by_cases hlt : k < s.size
    · have hd := Lib.hid (drop_cons s k hlt)
      have hx := hexd_lt s[k].toNat
      have hm2 := pow16 (by omega) hm1.out
      by_cases hx0 : hexd s[k].toNat < 0
      · have HN := Lib.hid (numF_bad hx0 (s.data.toList.drop (k + 1)) m)
        go_wp2_with (go_at_call 51; refine (ibyte_any _ _).mono ?_; rintro e w1 ⟨rfl, rfl⟩)
        go_ret
        exact ⟨ret_int (by rw [← hn.out, hd.out, HN.out]), rfl⟩
      · have hx1 : 0 ≤ hexd s[k].toNat := by omega
        have HN := Lib.hid (numF_good hx1 (s.data.toList.drop (k + 1)) m)
        have HO := Lib.hid (i64_or16 m (hexd s[k].toNat) hm0 hm2 hx1 hx.2)
        have hp : Hid (16 * m + hexd s[k].toNat < 16 ^ (k + 1)) := by
          show 16 * m + hexd s[k].toNat < 16 ^ (k + 1)
          have := hm1.out
          rw [Int.pow_succ]
          omega
        go_wp2_with (go_at_call 51; refine (ibyte_any _ _).mono ?_; rintro e w1 ⟨rfl, rfl⟩)
        go_round
        case rel => exact ⟨k + 1, _, by omega, by go_num, by rw [HO.out], by omega, hp, by show _ = _; rw [← HN.out, ← hd.out, hn.out]⟩
        case measure => simp [intOf]; omega
    · go_wp2
      go_ret
      exact ⟨ret_int (by have := hn.out; rw [List.drop_of_length_le (by simp; omega)] at this; simpa [numF] using this), rfl⟩

/-- What the reference's inner loop holds after k digits. -/
def upto (k : Nat) (c : Nat) : Int := if hexd c < k then hexd c else -1
theorem upto_hit {q c : Nat} (h : hexd c = q) : upto (q + 1) c = q := by unfold upto; rw [if_pos (by omega), h]
theorem upto_miss {q c : Nat} (h : ¬ hexd c = q) : upto (q + 1) c = upto q c := by
  unfold upto
  by_cases h1 : hexd c < q
  · rw [if_pos (by omega), if_pos h1]
  · rw [if_neg (by omega), if_neg h1]
theorem upto_all (c : Nat) : upto 16 c = hexd c := by unfold upto; rw [if_pos (by have := hexd_lt c; omega)]
theorem digit_at (q : Nat) (c : UInt8) (hq : q < (⟨#[48, 49, 50, 51, 52, 53, 54, 55, 56, 57, 97, 98, 99, 100, 101, 102]⟩ : ByteArray).size) :
    (((⟨#[48, 49, 50, 51, 52, 53, 54, 55, 56, 57, 97, 98, 99, 100, 101, 102]⟩ : ByteArray)[q].toNat : Int) == (c.toNat : Int)) = decide (hexd c.toNat = q) := by
  have h : ∀ (q : Fin 16) (c : Fin 256), (([48, 49, 50, 51, 52, 53, 54, 55, 56, 57, 97, 98, 99, 100, 101, 102] : List Nat).getD q.1 0 == c.1) = decide (hexd c.1 = q.1) := by decide +kernel
  have h2 := h ⟨q, hq⟩ ⟨c.toNat, c.toNat_lt⟩
  have e : (⟨#[48, 49, 50, 51, 52, 53, 54, 55, 56, 57, 97, 98, 99, 100, 101, 102]⟩ : ByteArray)[q].toNat = ([48, 49, 50, 51, 52, 53, 54, 55, 56, 57, 97, 98, 99, 100, 101, 102] : List Nat).getD q 0 := by
    have h3 : ∀ q : Fin 16, ((⟨#[48, 49, 50, 51, 52, 53, 54, 55, 56, 57, 97, 98, 99, 100, 101, 102]⟩ : ByteArray)[q.1]'(q.2)).toNat = ([48, 49, 50, 51, 52, 53, 54, 55, 56, 57, 97, 98, 99, 100, 101, 102] : List Nat).getD q.1 0 := by decide +kernel
    exact h3 ⟨q, hq⟩
  simp only at h2
  rw [e, ← h2]
  rw [Bool.eq_iff_iff]
  simp
  omega
set_option maxHeartbeats 1000000 in
theorem rnumber_any (s : ByteArray) (w : World) (hs : s.size ≤ 15) :
    Calls Try.prog 41 #[.string s] w fun e w' => e = .returned (.int .i64 (numF s.data.toList 0)) ∧ ∃ nd, w' = w.drewN nd := by
  go_enter Try.func41, Try.ntmps41
  go_wp2
  go_loopw [3, 4, 5, 6] (fun n i _ _ wr => ∃ k : Nat, ∃ m : Int, k ≤ s.size ∧ i = .int .i64 k ∧ n = .int .i64 m ∧ 0 ≤ m ∧ Hid (m < 16 ^ k) ∧ Hid (numF (s.data.toList.drop k) m = numF s.data.toList 0) ∧ ∃ nd, wr = w.drewN nd) (fun _ i _ _ _ => s.size - (intOf i).toNat)
  case atStart => exact ⟨0, 0, Nat.zero_le _, rfl, rfl, by omega, show (0 : Int) < 16 ^ 0 by decide, rfl, 0, rfl⟩
  case round =>
    obtain ⟨k, m, hk, rfl, rfl, hm0, hm1, hn, n0, rfl⟩ := hrel
    by_cases hlt : k < s.size
    · have hd := Lib.hid (drop_cons s k hlt)
      have hx := hexd_lt s[k].toNat
      have hm2 := pow16 (by omega) hm1.out
      go_wp2
      go_loopw [5, 6] (fun d j wr => ∃ q : Nat, q ≤ 16 ∧ j = .int .i64 q ∧ d = .int .i64 (upto q s[k].toNat) ∧ ∃ nd, wr = w.drewN nd) (fun _ j _ => 16 - (intOf j).toNat)
      case atStart => exact ⟨0, by omega, rfl, by simp [upto]; omega, n0, rfl⟩
      case round =>
        obtain ⟨q, hq, rfl, rfl, n1, rfl⟩ := hrel
        by_cases hq1 : q < 16
        · have hda := digit_at q s[k] hq1
          by_cases hh : hexd s[k].toNat = q
          · rw [decide_eq_true hh] at hda
            have HU := Lib.hid (upto_hit hh)
            clear hh
            go_wp2
            go_quiet (fail)
            go_wp2
            go_roundw
            case rel => exact ⟨q + 1, by omega, by go_num, by rw [HU.out], _, rfl⟩
            case measure => simp [intOf]; omega
          · rw [decide_eq_false hh] at hda
            have HU := Lib.hid (upto_miss hh)
            clear hh
            go_wp2
            go_quiet (fail)
            go_wp2
            go_roundw
            case rel => exact ⟨q + 1, by omega, by go_num, by rw [HU.out], _, rfl⟩
            case measure => simp [intOf]; omega
        · have e : q = 16 := by omega
          subst e
          have HU := Lib.hid (upto_all s[k].toNat)
          by_cases hx0 : hexd s[k].toNat < 0
          · have HN := Lib.hid (numF_bad hx0 (s.data.toList.drop (k + 1)) m)
            have ht : upto 16 s[k].toNat < 0 := by rw [HU.out]; exact hx0
            go_wp2
            go_ret
            exact ⟨ret_int (by rw [← hn.out, hd.out, HN.out]), _, rfl⟩
          · have hx1 : 0 ≤ hexd s[k].toNat := by omega
            have HN := Lib.hid (numF_good hx1 (s.data.toList.drop (k + 1)) m)
            have ht : 0 ≤ upto 16 s[k].toNat := by rw [HU.out]; exact hx1
            have ht2 : upto 16 s[k].toNat ≤ 15 := by rw [HU.out]; exact hx.2
            have hp : Hid (16 * m + hexd s[k].toNat < 16 ^ (k + 1)) := by
              show 16 * m + hexd s[k].toNat < 16 ^ (k + 1)
              have := hm1.out
              rw [Int.pow_succ]
              omega
            go_wp2
            go_roundw
            case rel => exact ⟨k + 1, _, by omega, by go_num, by rw [HU.out], by omega, hp, by show _ = _; rw [← HN.out, ← hd.out, hn.out], _, rfl⟩
            case measure => simp [intOf]; omega
    · go_wp2
      go_ret
      exact ⟨ret_int (by have := hn.out; rw [List.drop_of_length_le (by simp; omega)] at this; simpa [numF] using this), _, rfl⟩
end Go.Proofs.Yteidbomkbddliaa.Csn
