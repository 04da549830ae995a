/-
  The walks of layer 1: the reference's Lower; Fold and its reference.
-/
import Derived.Test.YtjjcbbckihjapaaDoorFoB
import Derived.IntWalk
namespace Go.Proofs.YtjjcbbckihjapaaDoor.Fo
open Go.RowKit

theorem one_src (w : World) (x : Value) (T : TypeId) : ∀ j u, [x][j]? = some u → (w.alloc (.cells #[x] T)).cell? ((⟨w.heap.size, 0, none⟩ : Addr).add j) = some u := by
  intro j u hu
  cases j with
  | zero =>
    simp at hu
    subst hu
    simp [Addr.add, go_sem]
  | succ j => simp at hu
theorem one_one (c : UInt8) : ∀ u ∈ [Value.int .u8 (c.toNat : Int)], u.oneCell' = true := by
  intro u hu
  simp at hu
  subst hu
  rfl
theorem lowL_take (l : List UInt8) (k : Nat) (h : k < l.length) : (lowL l).take (k + 1) = (lowL l).take k ++ [lowB (bAt l k)] := by
  rw [List.take_succ_eq_append_getElem (by simpa [lowL] using h)]
  simp [lowL, bAt_get l k h]
theorem lowL_length (l : List UInt8) : (lowL l).length = l.length := by simp [lowL]
set_option maxHeartbeats 2000000 in
theorem rlower_any (s : ByteArray) (w : World) (hs : s.size ≤ 100000) :
    Calls Tryd.prog 48 #[.string s] w fun e w' => e = .returned (.string ⟨(lowL s.data.toList).toArray⟩) ∧ Below w.heap.size w w' := by
  obtain ⟨i0, hi, hz0, hz1, hz2⟩ := info_parts byte_info
  have HSZ := Lib.hid (show s.data.toList.length = s.size by simp)
  go_enter Tryd.func48, Tryd.ntmps48
  go_wp2
  go_loopw [3, 4, 5] (fun v i _ wr => ∃ (k : Nat) (l : List UInt8) (A : Option Addr) (cc : Nat), k ≤ s.size ∧ i = .int .i64 k ∧ v = .slice A k cc ∧ Hid (l = (lowL s.data.toList).take k) ∧ Hid (OwnS wr w.heap.size A k cc l) ∧ Below w.heap.size w wr) (fun _ i _ _ => s.size - (intOf i).toNat)
  case atStart => exact ⟨0, [], none, 0, Nat.zero_le _, rfl, rfl, rfl, OwnS.nil _ _, Below.refl _ _⟩
  case round =>
    obtain ⟨k, l, A, cc, hk, rfl, rfl, hL, HO, hb⟩ := hrel
    have HB := Lib.hid hb
    clear hb
    by_cases hlt : k < s.size
    · have hlk : k < s.data.toList.length := by rw [HSZ.out]; exact hlt
      obtain ⟨c, hc⟩ : ∃ c, c = s[k] := ⟨_, rfl⟩
      have HC := Lib.hid hc
      have HT := Lib.hid (lowL_take s.data.toList k hlk)
      have hcc : bAt s.data.toList k = c := by rw [bAt_str s k hlt, hc]
      have HCC := Lib.hid hcc
      have hcl : c.toNat < 256 := c.toNat_lt
      clear hcc
      have hbase : w.heap.size ≤ wr.heap.size := HB.out.size
      cases hu : upB c with
      | true =>
        have h2 := lowB_up hu
        have hu2 : 65 ≤ c.toNat ∧ c.toNat ≤ 90 := by simpa [upB] using hu
        have hw1 : IntKind.u8.wrap ((c.toNat : Int) + 97) = (c.toNat : Int) + 97 := IntWalk.u8_in _ (by omega)
        have hw2 : IntKind.u8.wrap ((c.toNat : Int) + 97 - 65) = ((lowB c).toNat : Int) := by rw [h2, IntWalk.u8_in _ (by omega)]; omega
        have ha : (65 : Int) ≤ (c.toNat : Int) := by omega
        have hb : (c.toNat : Int) ≤ 90 := by omega
        rw [hc] at hw1 hw2 ha hb
        clear hc h2 hu2 hcl
        go_wp2_with (at_builtin; go_must (refine wpList_append_own_at _ rfl (.tmp 24) (.tmp 26) _ rfl w.heap.size 5 i0 _ 1 1 Tryd.underlying53 hi hz0 hz1 hz2 rfl (by decide) (.slice A k cc) k (bytesV l) rfl (HO.out.row _) ⟨wr.heap.size, 0, none⟩ 1 1 [.int .u8 ((lowB s[k]).toNat : Int)] rfl rfl (one_src _ _ _) (one_one _) (by simp only [maxLen]; omega) (by omega) (by simp; omega) ?_); intro v' w1 hown1 hgrow hnil hat; have HB1 := Lib.hid (OwnS.grow (HO.out.row _) HB.out (Nat.le_refl _) hgrow); obtain ⟨A1, c1, rfl, hO1⟩ := OwnS.snoc HO.out.1 hown1; have HO1 := Lib.hid hO1; clear hown1 hgrow hnil hat hO1)
        go_roundw
        case rel => exact ⟨k + 1, l ++ [lowB s[k]], A1, c1, by omega, by go_num, rfl, by show _ = _; rw [HT.out, hL.out, HCC.out, HC.out], HO1.out, HB1.out⟩
        case measure => simp [intOf]; omega
      | false =>
        have hu2 : c.toNat < 65 ∨ 90 < c.toNat := by simp [upB] at hu; omega
        have HLB := Lib.hid (lowB_no hu)
        rcases hu2 with ha0 | ha0
        · have ha : decide ((65 : Int) ≤ (c.toNat : Int)) = false := by simp; omega
          rw [hc] at ha
          clear hc ha0 hcl hu
          go_wp2_with (at_builtin; go_must (refine wpList_append_own_at _ rfl (.tmp 24) (.tmp 26) _ rfl w.heap.size 5 i0 _ 1 1 Tryd.underlying53 hi hz0 hz1 hz2 rfl (by decide) (.slice A k cc) k (bytesV l) rfl (HO.out.row _) ⟨wr.heap.size, 0, none⟩ 1 1 [.int .u8 ((s[k]).toNat : Int)] rfl rfl (one_src _ _ _) (one_one _) (by simp only [maxLen]; omega) (by omega) (by simp; omega) ?_); intro v' w1 hown1 hgrow hnil hat; have HB1 := Lib.hid (OwnS.grow (HO.out.row _) HB.out (Nat.le_refl _) hgrow); obtain ⟨A1, c1, rfl, hO1⟩ := OwnS.snoc HO.out.1 hown1; have HO1 := Lib.hid hO1; clear hown1 hgrow hnil hat hO1)
          go_roundw
          case rel => exact ⟨k + 1, l ++ [s[k]], A1, c1, by omega, by go_num, rfl, by show _ = _; rw [HT.out, hL.out, HCC.out, HLB.out, HC.out], HO1.out, HB1.out⟩
          case measure => simp [intOf]; omega
        · have ha : decide ((65 : Int) ≤ (c.toNat : Int)) = true := by simp; omega
          have hb : decide ((c.toNat : Int) ≤ 90) = false := by simp; omega
          rw [hc] at ha hb
          clear hc ha0 hcl hu
          go_wp2_with (at_builtin; go_must (refine wpList_append_own_at _ rfl (.tmp 24) (.tmp 26) _ rfl w.heap.size 5 i0 _ 1 1 Tryd.underlying53 hi hz0 hz1 hz2 rfl (by decide) (.slice A k cc) k (bytesV l) rfl (HO.out.row _) ⟨wr.heap.size, 0, none⟩ 1 1 [.int .u8 ((s[k]).toNat : Int)] rfl rfl (one_src _ _ _) (one_one _) (by simp only [maxLen]; omega) (by omega) (by simp; omega) ?_); intro v' w1 hown1 hgrow hnil hat; have HB1 := Lib.hid (OwnS.grow (HO.out.row _) HB.out (Nat.le_refl _) hgrow); obtain ⟨A1, c1, rfl, hO1⟩ := OwnS.snoc HO.out.1 hown1; have HO1 := Lib.hid hO1; clear hown1 hgrow hnil hat hO1)
          go_roundw
          case rel => exact ⟨k + 1, l ++ [s[k]], A1, c1, by omega, by go_num, rfl, by show _ = _; rw [HT.out, hL.out, HCC.out, HLB.out, HC.out], HO1.out, HB1.out⟩
          case measure => simp [intOf]; omega
    · have e : k = s.size := by omega
      subst e
      have hcv := HO.out.str
      have HX := Lib.hid (show l = lowL s.data.toList by rw [hL.out, List.take_of_length_le (by rw [lowL_length, HSZ.out]; exact Nat.le_refl _)])
      go_wp2
      go_ret
      exact ⟨ret_str (by rw [HX.out]), HB.out⟩
end Go.Proofs.YtjjcbbckihjapaaDoor.Fo
