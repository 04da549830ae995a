/-
  The walks of the statements DevflowCodes and DevflowTyped.
-/
import Derived.Test.YtapooonlbjgbgaaDoorDvV
import Derived.Test.YtapooonlbjgbgaaDoorDvAl
namespace Go.Proofs.YtapooonlbjgbgaaDoor.Dv
open Go.RowKit Go.Proofs.YtapooonlbjgbgaaDoor.Fo Go.Proofs.YtapooonlbjgbgaaDoor.Rf

theorem eb_list : ByteArray.toList eB = [] := by simp [eB]
theorem tmod_two (n : Int) : -25600000000 < n.tmod 25600000000 ∧ n.tmod 25600000000 < 25600000000 := by
  have h1 := Int.tmod_lt_of_pos n (b := 25600000000) (by decide)
  refine ⟨?_, h1⟩
  rcases Int.le_total 0 n with h | h
  · have := Int.tmod_nonneg 25600000000 h; omega
  · have h3 := Int.tmod_lt_of_pos (-n) (b := 25600000000) (by decide)
    rw [Int.neg_tmod] at h3
    omega
theorem lowered_is (s : Bs) (w : World) (hs : s.size ≤ 100000) {r : Bs} (hr : (⟨(lwL s.data.toList).toArray⟩ : Bs) = r) :
    Calls Tryd.prog 33 #[.string s] w fun e w' => e = .returned (.string r) ∧ Below w.heap.size w w' := by
  rw [← hr]; exact lowered_any s w hs
set_option maxRecDepth 100000 in
set_option maxHeartbeats 4000000 in
theorem codes_any (w : World) (n : Int) (s : Bs) (hm : MX w) : Calls Tryd.prog 3 #[.int .i64 n, .string s] w fun e w' => e = .returned (.bool true) ∧ Below w.heap.size w w' := by
  have HM := Lib.hid hm
  have HB0 := Lib.hid (Below.refl w.heap.size w)
  clear hm
  obtain ⟨⟨t, er⟩, hc⟩ : ∃ r, cuC s = r := ⟨_, rfl⟩
  obtain ⟨u, hu⟩ : ∃ r, ucC n = r := ⟨_, rfl⟩
  have HC := Lib.hid hc
  have HU := Lib.hid hu
  clear hc hu
  go_enter Tryd.func3, Tryd.ntmps3
  by_cases hl : (300 : Int) < (s.size : Int)
  · go_wp2_with fail
    refine (alive_any w HM.out).mono ?_
    rintro e w1 ⟨rfl, hb⟩
    have HB1 := Lib.hid (HB0.out.trans (hb.mono HB0.out.size))
    clear hb
    go_wp2
    go_ret
    exact ⟨rfl, HB1.out⟩
  · have HS := Lib.hid (show s.size ≤ 100000 by omega)
    go_wp2_with fail
    refine (clean_is s w HS.out HM.out HC.out).mono ?_
    rintro e w1 ⟨rfl, hb⟩
    have HB1 := Lib.hid (HB0.out.trans (hb.mono HB0.out.size))
    clear hb
    go_wp2_with fail
    refine (rclean_any s w1 HS.out HC.out).mono ?_
    rintro e w2 ⟨rfl, hb⟩
    have HB2 := Lib.hid (HB1.out.trans (hb.mono HB1.out.size))
    clear hb
    go_wp2_with fail
    refine (ucode_is n w2 HU.out).mono ?_
    rintro e w3 ⟨rfl, hb⟩
    have HB3 := Lib.hid (HB2.out.trans (hb.mono HB2.out.size))
    clear hb
    go_wp2_with fail
    refine (rucode_any n w3 HU.out).mono ?_
    rintro e w4 ⟨rfl, hb⟩
    have HB4 := Lib.hid (HB3.out.trans (hb.mono HB3.out.size))
    clear hb
    go_wp2_with fail
    refine (alive_any w4 (HM.out.below HB4.out)).mono ?_
    rintro e w5 ⟨rfl, hb⟩
    have HB5 := Lib.hid (HB4.out.trans (hb.mono HB4.out.size))
    clear hb
    go_wp2
    go_ret
    exact ⟨rfl, HB5.out⟩
set_option maxRecDepth 100000 in
set_option maxHeartbeats 4000000 in
theorem typed_any (w : World) (n m : Int) (s : Bs) (hm : MX w) : Calls Tryd.prog 5 #[.int .i64 n, .int .i64 m, .string s] w fun e w' => e = .returned (.bool true) ∧ Below w.heap.size w w' := by
  have HM := Lib.hid hm
  have HB0 := Lib.hid (Below.refl w.heap.size w)
  clear hm
  obtain ⟨a, ha⟩ : ∃ r, ucC n = r := ⟨_, rfl⟩
  obtain ⟨b, hb⟩ : ∃ r, ucC m = r := ⟨_, rfl⟩
  have HA := Lib.hid ha
  have HBB := Lib.hid hb
  have HCA := Lib.hid (show cuC a = (a, 0) by rw [← ha]; exact clean_code n)
  obtain ⟨la, hla⟩ : ∃ r, (⟨(lwL a.data.toList).toArray⟩ : Bs) = r := ⟨_, rfl⟩
  have HLA := Lib.hid hla
  have HCL := Lib.hid (show cuC ((⟨#[32]⟩ : ByteArray) ++ la) = (a, 0) by rw [← hla, ← ha]; exact clean_low n)
  have hz : a.size = 9 := by rw [← ha]; exact code_size n
  have HZ := Lib.hid hz
  have hlz : la.size ≤ 9 := by rw [← hla]; exact Nat.le_trans (lwL_len _) (by rw [← hz]; simp)
  obtain ⟨x, hx⟩ : ∃ r, ucN n = r := ⟨_, rfl⟩
  obtain ⟨y, hy⟩ : ∃ r, ucN m = r := ⟨_, rfl⟩
  have e1 := ucN_is n
  have e2 := ucN_is m
  rw [hx] at e1
  rw [hy] at e2
  obtain ⟨b1, b2⟩ := tmod_two n
  obtain ⟨b3, b4⟩ := tmod_two m
  obtain ⟨rn, hrn⟩ : ∃ r, n.tmod 25600000000 = r := ⟨_, rfl⟩
  obtain ⟨rm, hrm⟩ : ∃ r, m.tmod 25600000000 = r := ⟨_, rfl⟩
  rw [hrn] at e1 b1 b2
  rw [hrm] at e2 b3 b4
  have HEQ := Lib.hid (show decide (a = b) = decide ((x : Int) = (y : Int)) by rw [← ha, ← hb, ← hx, ← hy]; exact code_inj n m)
  clear ha hb hla hx hy
  go_enter Tryd.func5, Tryd.ntmps5
  go_wp2_with fail
  refine (ucode_is n w HA.out).mono ?_
  rintro e w1 ⟨rfl, hb⟩
  have HB1 := Lib.hid (HB0.out.trans (hb.mono HB0.out.size))
  clear hb
  go_wp2_with fail
  refine (ucode_is m w1 HBB.out).mono ?_
  rintro e w2 ⟨rfl, hb⟩
  have HB2 := Lib.hid (HB1.out.trans (hb.mono HB1.out.size))
  clear hb
  go_wp2_with fail
  refine (clean_is a w2 (by omega) (HM.out.below HB2.out) HCA.out).mono ?_
  rintro e w3 ⟨rfl, hb⟩
  have HB3 := Lib.hid (HB2.out.trans (hb.mono HB2.out.size))
  clear hb
  go_wp2_with fail
  refine (lowered_is a w3 (by omega) HLA.out).mono ?_
  rintro e w4 ⟨rfl, hb⟩
  have HB4 := Lib.hid (HB3.out.trans (hb.mono HB3.out.size))
  clear hb
  go_wp2_with fail
  refine (clean_is ((⟨#[32]⟩ : ByteArray) ++ la) w4 (by rw [ByteArray.size_append]; exact Nat.le_trans (Nat.add_le_add_left hlz 1) (by decide)) (HM.out.below HB4.out) HCL.out).mono ?_
  rintro e w5 ⟨rfl, hb⟩
  have HB5 := Lib.hid (HB4.out.trans (hb.mono HB4.out.size))
  clear hb
  by_cases hab : a = b
  · have hxy : x = y := by have := HEQ.out; simp [hab] at this; omega
    subst hab
    subst hxy
    clear HEQ
    by_cases hl : (300 : Int) < (s.size : Int)
    · go_wp2_with fail
      refine (alive_any w5 (HM.out.below HB5.out)).mono ?_
      rintro e w6 ⟨rfl, hb⟩
      have HB6 := Lib.hid (HB5.out.trans (hb.mono HB5.out.size))
      clear hb
      go_wp2
      go_ret
      exact ⟨rfl, HB6.out⟩
    · have HS := Lib.hid (show s.size ≤ 100000 by omega)
      rcases cu_split s with ⟨t, h1, h2, h3⟩ | h1
      · have HCS := Lib.hid h1
        have HCT := Lib.hid h2
        have h3b : ((t.size : Int) == 9) = true := by rw [h3]; rfl
        clear h1 h2
        go_wp2_with fail
        refine (clean_is s w5 HS.out (HM.out.below HB5.out) HCS.out).mono ?_
        rintro e w6 ⟨rfl, hb⟩
        have HB6 := Lib.hid (HB5.out.trans (hb.mono HB5.out.size))
        clear hb
        go_wp2_with fail
        refine (clean_is t w6 (by omega) (HM.out.below HB6.out) HCT.out).mono ?_
        rintro e w7 ⟨rfl, hb⟩
        have HB7 := Lib.hid (HB6.out.trans (hb.mono HB6.out.size))
        clear hb
        go_wp2_with fail
        refine (alive_any w7 (HM.out.below HB7.out)).mono ?_
        rintro e w8 ⟨rfl, hb⟩
        have HB8 := Lib.hid (HB7.out.trans (hb.mono HB7.out.size))
        clear hb
        go_wp2
        go_ret
        exact ⟨rfl, HB8.out⟩
      · have HCS := Lib.hid h1
        have hcu : cuC eB = (eB, 4) := by kernel_rfl
        have heb := eb_list
        have hebb : (ByteArray.toList eB == []) = true := by rw [heb]; rfl
        have HCT := Lib.hid hcu
        clear h1 hcu
        go_wp2_with fail
        refine (clean_is s w5 HS.out (HM.out.below HB5.out) HCS.out).mono ?_
        rintro e w6 ⟨rfl, hb⟩
        have HB6 := Lib.hid (HB5.out.trans (hb.mono HB5.out.size))
        clear hb
        go_wp2_with fail
        refine (clean_is eB w6 (by decide) (HM.out.below HB6.out) HCT.out).mono ?_
        rintro e w7 ⟨rfl, hb⟩
        have HB7 := Lib.hid (HB6.out.trans (hb.mono HB6.out.size))
        clear hb
        go_wp2_with fail
        refine (alive_any w7 (HM.out.below HB7.out)).mono ?_
        rintro e w8 ⟨rfl, hb⟩
        have HB8 := Lib.hid (HB7.out.trans (hb.mono HB7.out.size))
        clear hb
        go_wp2
        go_ret
        exact ⟨rfl, HB8.out⟩
  · have hxy : ¬ x = y := by have := HEQ.out; simp [hab] at this; omega
    have hxy2 : ¬ (x : Int) = (y : Int) := by omega
    have hxyb : ((x : Int) == (y : Int)) = false := beq_eq_false_iff_ne.2 hxy2
    have habb : (a.toList == b.toList) = false := by rw [beq_bs]; simpa using hab
    have hab2 : ¬ a.toList = b.toList := by rw [← beq_iff_eq, habb]; decide
    clear HEQ
    by_cases hl : (300 : Int) < (s.size : Int)
    · go_wp2_with fail
      refine (alive_any w5 (HM.out.below HB5.out)).mono ?_
      rintro e w6 ⟨rfl, hb⟩
      have HB6 := Lib.hid (HB5.out.trans (hb.mono HB5.out.size))
      clear hb
      go_wp2
      go_ret
      exact ⟨rfl, HB6.out⟩
    · have HS := Lib.hid (show s.size ≤ 100000 by omega)
      rcases cu_split s with ⟨t, h1, h2, h3⟩ | h1
      · have HCS := Lib.hid h1
        have HCT := Lib.hid h2
        have h3b : ((t.size : Int) == 9) = true := by rw [h3]; rfl
        clear h1 h2
        go_wp2_with fail
        refine (clean_is s w5 HS.out (HM.out.below HB5.out) HCS.out).mono ?_
        rintro e w6 ⟨rfl, hb⟩
        have HB6 := Lib.hid (HB5.out.trans (hb.mono HB5.out.size))
        clear hb
        go_wp2_with fail
        refine (clean_is t w6 (by omega) (HM.out.below HB6.out) HCT.out).mono ?_
        rintro e w7 ⟨rfl, hb⟩
        have HB7 := Lib.hid (HB6.out.trans (hb.mono HB6.out.size))
        clear hb
        go_wp2_with fail
        refine (alive_any w7 (HM.out.below HB7.out)).mono ?_
        rintro e w8 ⟨rfl, hb⟩
        have HB8 := Lib.hid (HB7.out.trans (hb.mono HB7.out.size))
        clear hb
        go_wp2
        go_ret
        exact ⟨rfl, HB8.out⟩
      · have HCS := Lib.hid h1
        have hcu : cuC eB = (eB, 4) := by kernel_rfl
        have heb := eb_list
        have hebb : (ByteArray.toList eB == []) = true := by rw [heb]; rfl
        have HCT := Lib.hid hcu
        clear h1 hcu
        go_wp2_with fail
        refine (clean_is s w5 HS.out (HM.out.below HB5.out) HCS.out).mono ?_
        rintro e w6 ⟨rfl, hb⟩
        have HB6 := Lib.hid (HB5.out.trans (hb.mono HB5.out.size))
        clear hb
        go_wp2_with fail
        refine (clean_is eB w6 (by decide) (HM.out.below HB6.out) HCT.out).mono ?_
        rintro e w7 ⟨rfl, hb⟩
        have HB7 := Lib.hid (HB6.out.trans (hb.mono HB6.out.size))
        clear hb
        go_wp2_with fail
        refine (alive_any w7 (HM.out.below HB7.out)).mono ?_
        rintro e w8 ⟨rfl, hb⟩
        have HB8 := Lib.hid (HB7.out.trans (hb.mono HB7.out.size))
        clear hb
        go_wp2
        go_ret
        exact ⟨rfl, HB8.out⟩
end Go.Proofs.YtapooonlbjgbgaaDoor.Dv
