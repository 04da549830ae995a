/-
  The text of a digest; the URL-safe base64 form.
-/
import Derived.Test.YtioabjniipkncaaGreatDoorRcD
import Derived.Test.YtioabjniipkncaaGreatDoorShelfW
namespace Go.Proofs.YtioabjniipkncaaGreatDoor.Rc
open Go.RowKit Go.Proofs.YtioabjniipkncaaGreatDoor.Fo Go.Proofs.YtioabjniipkncaaGreatDoor.Rf

def txtV (l : List UInt8) : List UInt8 := hexV (sumV l)
theorem sumV_range (l : List UInt8) : 0 ≤ sumV l ∧ sumV l < 18446744073709551616 := by
  have h := wf_bits BinOp.xor .u64 (mixB (mixA (sumP l l.length))) (mixB (mixA (sumP l l.length)) / 8589934592)
  simp only [Lit.wf, Bool.and_eq_true, decide_eq_true_eq] at h
  have e1 : IntKind.u64.min = 0 := rfl
  have e2 : IntKind.u64.max = 18446744073709551615 := rfl
  unfold sumV mixC
  omega
theorem hexV_length (n : Int) : (hexV n).length = 16 := hxL_length n 16
theorem text_any (s : Bs) (w : World) (hs : s.size ≤ 100000) (hd : DG w) : Calls Tryz.prog 76 #[.string s] w fun e w' => e = .returned (.string ⟨(txtV s.data.toList).toArray⟩) ∧ Below w.heap.size w w' := by
  have hr := sumV_range s.data.toList
  have HH := Lib.hid (fun w hd => hex_any (sumV s.data.toList) hr.1 hr.2 w hd)
  have HD := Lib.hid hd
  clear hr hd
  go_enter Tryz.func76, Tryz.ntmps76
  go_wp2_with fail
  refine (sum_any s w hs).mono ?_
  rintro e w1 ⟨rfl, rfl⟩
  go_wp2_with fail
  refine (HH.out w HD.out).mono ?_
  rintro e w1 ⟨rfl, hb⟩
  have HB := Lib.hid hb
  clear hb
  go_wp2
  go_ret
  exact ⟨rfl, HB.out⟩
theorem i64_and63 (n : Int) : bits .and .i64 n 63 = n % 64 := by
  have h127 : (BitVec.ofInt 64 63).toNat = 2 ^ 6 - 1 := by decide
  have key : (BitVec.ofInt 64 n &&& BitVec.ofInt 64 63).toNat = (n % ((2 ^ 64 : Nat) : Int)).toNat % 2 ^ 6 := by
    rw [BitVec.toNat_and, BitVec.toNat_ofInt, h127, Nat.and_two_pow_sub_one_eq_mod]
  show IntKind.i64.wrap ((BitVec.ofInt 64 n &&& BitVec.ofInt 64 63).toNat : Nat) = n % 64
  rw [key, IntKind.wrap_i64]
  omega
def orB (b : Int) (c : UInt8) : Int := bits BinOp.or IntKind.i64 (wrap64 (b * 256)) (wrap64 (c.toNat : Int))
def maskB (b : Int) (m : Nat) : Int := bits BinOp.and IntKind.i64 b (wrap64 (wrap64 (2 ^ m) - 1))
def alC : Bs := ⟨#[65, 66, 67, 68, 69, 70, 71, 72, 73, 74, 75, 76, 77, 78, 79, 80, 81, 82, 83, 84, 85, 86, 87, 88, 89, 90, 97, 98, 99, 100, 101, 102, 103, 104, 105, 106, 107, 108, 109, 110, 111, 112, 113, 114, 115, 116, 117, 118, 119, 120, 121, 122, 48, 49, 50, 51, 52, 53, 54, 55, 56, 57, 45, 95]⟩
def ixB (b : Int) : Nat := (b % 64).toNat
theorem ixB_lt (b : Int) : ixB b < 64 := by unfold ixB; omega
theorem ixB_is (b : Int) : bits BinOp.and IntKind.i64 b 63 = ((ixB b : Nat) : Int) := by rw [i64_and63]; unfold ixB; omega
def alB (b : Int) : UInt8 := bAt alC.data.toList (ixB b)
theorem al_size : alC.size = 64 := by decide
theorem alB_at {b : Int} {q : Nat} (h : ixB b = q) (hq : q < alC.size) : alC[q] = alB b := by
  unfold alB
  rw [h, bAt_str alC q hq]
/-- Six bits after six are written. -/
def drain (b : Int) (m : Nat) (out : List UInt8) : Nat × List UInt8 := if 6 ≤ m then drain b (m - 6) (out ++ [alB (b / 2 ^ (m - 6))]) else (m, out)
termination_by m
theorem drain_step {b : Int} {m : Nat} {out : List UInt8} (h : 6 ≤ m) : drain b (m - 6) (out ++ [alB (b / 2 ^ (m - 6))]) = drain b m out := by
  rw [drain.eq_def b m out, if_pos h]
theorem drain_end {b : Int} {m : Nat} {out : List UInt8} (h : ¬ 6 ≤ m) : drain b m out = (m, out) := by
  rw [drain.eq_def, if_neg h]
/-- What stands after k bytes: bits, how many, what is written. -/
def st64 (l : List UInt8) : Nat → Int × Nat × List UInt8
  | 0 => (0, 0, [])
  | k + 1 =>
    let b := orB (st64 l k).1 (bAt l k)
    let d := drain b ((st64 l k).2.1 + 8) (st64 l k).2.2
    (maskB b d.1, d.1, d.2)
def b64V (l : List UInt8) : List UInt8 :=
  if 0 < (st64 l l.length).2.1 then (st64 l l.length).2.2 ++ [alB (wrap64 ((st64 l l.length).1 * 2 ^ (6 - (st64 l l.length).2.1)))] else (st64 l l.length).2.2
set_option maxRecDepth 100000 in
set_option maxHeartbeats 4000000 in
theorem b64_any (s : Bs) (w : World) (hs : s.size ≤ 100000) : Calls Tryz.prog 75 #[.string s] w fun e w' => e = .returned (.string ⟨(b64V s.data.toList).toArray⟩) ∧ Below w.heap.size w w' := by
  have HLN := Lib.hid (show s.data.toList.length = s.size by simp)
  have HB0 := Lib.hid (show Below w.heap.size w (w.alloc (.cells #[.pointer none, .slice none 0 0] 92)) from (Below.refl _ w).alloc (Nat.le_refl _) _)
  go_enter Tryz.func75, Tryz.ntmps75
  go_wp2
  go_loopw [4, 5, 6, 9] (fun b m _ i wr => ∃ (k m1 : Nat) (b1 : Int) (out : List UInt8), i = .int .i64 k ∧ b = .int .i64 b1 ∧ m = .int .i64 m1 ∧ k ≤ s.size ∧ m1 ≤ 5 ∧ 6 * out.length + m1 = 8 * k ∧ Hid (st64 s.data.toList k = (b1, m1, out)) ∧ Hid (Lib.IsBuilder 92 5 w.heap.size w.heap.size (Lib.byteCells out) wr) ∧ Below w.heap.size w wr) (fun _ _ _ i _ => s.size - (intOf i).toNat)
  case atStart => exact ⟨0, 0, 0, [], rfl, rfl, rfl, Nat.zero_le _, by omega, by simp, rfl, Lib.fresh_isBuilder _ _ w, HB0.out⟩
  case round =>
    obtain ⟨k, m, b, out, rfl, rfl, rfl, hk, hm, hl, HS, HO, hb⟩ := hrel
    have HB := Lib.hid hb
    clear hb
    by_cases hlt : k < s.size
    · have HC := Lib.hid (bAt_str s k hlt)
      go_upto_region 7 with fail
      obtain ⟨b2, hb2⟩ : ∃ b2, b2 = orB b s[k] := ⟨_, rfl⟩
      rw [show bits BinOp.or IntKind.i64 (wrap64 (b * 256)) (wrap64 (s[k].toNat : Int)) = b2 from hb2.symm]
      have HB2 := Lib.hid hb2
      clear hb2
      go_loopw [5] (fun m0 wr => ∃ (m1 : Nat) (out1 : List UInt8), m0 = .int .i64 m1 ∧ m1 ≤ 13 ∧ 6 * out1.length + m1 = 8 * k + 8 ∧ Hid (drain b2 m1 out1 = drain b2 (m + 8) out) ∧ Hid (Lib.IsBuilder 92 5 w.heap.size w.heap.size (Lib.byteCells out1) wr) ∧ Below w.heap.size w wr) (fun m0 _ => (intOf m0).toNat)
      case atStart => exact ⟨m + 8, out, by go_num, by omega, by omega, rfl, HO.out, HB.out⟩
      case round =>
        obtain ⟨m1, out1, rfl, hm1, hl1, HD1, HO1, hb1⟩ := hrel
        have HB1 := Lib.hid hb1
        have hbz := hb1.size
        clear hb1
        by_cases h6 : 6 ≤ m1
        · have e6 : (m1 : Int) - 6 = ((m1 - 6 : Nat) : Int) := by omega
          have hand := ixB_is (b2 / 2 ^ (m1 - 6))
          obtain ⟨q, hq⟩ : ∃ q, ixB (b2 / 2 ^ (m1 - 6)) = q := ⟨_, rfl⟩
          have hq64 : q < 64 := by rw [← hq]; exact ixB_lt _
          rw [hq] at hand
          have HAL := Lib.hid (alB_at hq (by rw [al_size]; exact hq64))
          have HST := Lib.hid (drain_step (b := b2) (m := m1) (out := out1) h6)
          clear hq
          go_wp2_with fail
          refine (Tryz.Builder_WriteByte w.heap.size w.heap.size (Lib.byteCells out1) _ _ HO1.out (by rw [Lib.byteCells_length]; omega) hbz).mono ?_
          rintro e w1 ⟨rfl, hO2, hb2⟩
          have HO2 := Lib.hid (show Lib.BuilderAt 92 5 w.heap.size w.heap.size (.pointer (some ⟨w.heap.size, 0, none⟩)) (Lib.byteCells (out1 ++ [alB (b2 / 2 ^ (m1 - 6))])) w1 by rw [Lib.byteCells_append, ← HAL.out]; exact hO2)
          have HB3 := Lib.hid (HB1.out.trans hb2)
          clear hO2 hb2
          go_wp2
          go_roundw
          case rel => exact ⟨m1 - 6, out1 ++ [alB (b2 / 2 ^ (m1 - 6))], by first | rfl | go_num, by omega, by simp; omega, HST.out.trans HD1.out, Or.inr HO2.out, HB3.out⟩
          case measure => simp [intOf]; omega
        · have HE := Lib.hid (HD1.out.symm.trans (drain_end h6))
          go_wp2
          go_roundw
          case rel => exact ⟨k + 1, m1, _, out1, by go_num, rfl, rfl, by omega, by omega, by omega, (by show (_ : Int × Nat × List UInt8) = _; rw [st64, HS.out, HC.out, ← HB2.out]; simp only [HE.out]; rfl), HO1.out, HB1.out⟩
          case measure => simp [intOf]; omega
    · have e : k = s.size := by omega
      have hbz := HB.out.size
      have HR : Hid (b64V s.data.toList = if 0 < m then out ++ [alB (wrap64 (b * 2 ^ (6 - m)))] else out) := Lib.hid (by unfold b64V; rw [HLN.out, ← e, HS.out])
      by_cases h0 : 0 < m
      · have h0' : (0 : Int) < (m : Int) := by omega
        have e6 : (6 : Int) - (m : Int) = ((6 - m : Nat) : Int) := by omega
        have hand := ixB_is (wrap64 (b * 2 ^ (6 - m)))
        obtain ⟨q, hq⟩ : ∃ q, ixB (wrap64 (b * 2 ^ (6 - m))) = q := ⟨_, rfl⟩
        have hq64 : q < 64 := by rw [← hq]; exact ixB_lt _
        rw [hq] at hand
        have HAL := Lib.hid (alB_at hq (by rw [al_size]; exact hq64))
        have HRR := Lib.hid (show b64V s.data.toList = out ++ [alB (wrap64 (b * 2 ^ (6 - m)))] by rw [HR.out, if_pos h0])
        clear hq
        go_wp2_with fail
        refine (Tryz.Builder_WriteByte w.heap.size w.heap.size (Lib.byteCells out) _ _ HO.out (by rw [Lib.byteCells_length]; omega) hbz).mono ?_
        rintro e w1 ⟨rfl, hO2, hb2⟩
        have HO2 := Lib.hid (show Lib.BuilderAt 92 5 w.heap.size w.heap.size (.pointer (some ⟨w.heap.size, 0, none⟩)) (Lib.byteCells (out ++ [alB (wrap64 (b * 2 ^ (6 - m)))])) w1 by rw [Lib.byteCells_append, ← HAL.out]; exact hO2)
        have HB3 := Lib.hid (HB.out.trans hb2)
        clear hO2 hb2
        go_wp2_with (go_at_call 84; refine (Tryz.Builder_String_any w.heap.size w.heap.size (out ++ [alB (wrap64 (b * 2 ^ (6 - m)))]) _ (Or.inr HO2.out) HB3.out.size).mono ?_; rintro e w1 ⟨rfl, hb1⟩; have HB4 := Lib.hid (HB3.out.trans hb1); clear hb1)
        go_ret
        exact ⟨by rw [HRR.out]; rfl, HB4.out⟩
      · have h0' : ¬ (0 : Int) < (m : Int) := by omega
        have HRR := Lib.hid (show b64V s.data.toList = out by rw [HR.out, if_neg h0])
        go_wp2_with (go_at_call 84; refine (Tryz.Builder_String_any w.heap.size w.heap.size out _ HO.out hbz).mono ?_; rintro e w1 ⟨rfl, hb1⟩; have HB4 := Lib.hid (HB.out.trans hb1); clear hb1)
        go_ret
        exact ⟨by rw [HRR.out]; rfl, HB4.out⟩
end Go.Proofs.YtioabjniipkncaaGreatDoor.Rc
