/-
  User codes: the walks of the program's Clean and UserCode.
-/
import Derived.Test.YtapooonlbjgbgaaDoorDvC
namespace Go.Proofs.YtapooonlbjgbgaaDoor.Dv
open Go.RowKit Go.Proofs.YtapooonlbjgbgaaDoor.Fo Go.Proofs.YtapooonlbjgbgaaDoor.Rf

theorem cuC_yes {s : Bs} (h : okL (typL s.data.toList) = true) : cuC s = (⟨(divL (typL s.data.toList)).toArray⟩, 0) := by unfold cuC; rw [if_pos h]
theorem cuC_no {s : Bs} (h : okL (typL s.data.toList) = false) : cuC s = (eB, 4) := by unfold cuC; rw [if_neg (by rw [h]; decide)]
set_option maxHeartbeats 4000000 in
theorem clean_any (s : Bs) (w : World) (hs : s.size ≤ 100000) (hm : MX w) :
    Calls Tryd.prog 10 #[.string s] w fun e w' => e = .returned (.tuple #[.string (cuC s).1, .int .i64 (cuC s).2]) ∧ Below w.heap.size w w' := by
  have HM := Lib.hid hm
  clear hm
  have hz : s.data.toList.length = s.size := by simp
  obtain ⟨s1, hs1⟩ : ∃ t, t = s.data.toList.filter fun x => decide (x ≠ 32) := ⟨_, rfl⟩
  obtain ⟨s2, hs2⟩ : ∃ t, t = s1.filter fun x => decide (x ≠ 45) := ⟨_, rfl⟩
  obtain ⟨L, hL⟩ : ∃ t, t = lowL s2 := ⟨_, rfl⟩
  have hz1 : s1.length ≤ 100000 := by rw [hs1]; exact Nat.le_trans (List.length_filter_le _ _) (by omega)
  have hz2 : s2.length ≤ 100000 := by rw [hs2]; exact Nat.le_trans (List.length_filter_le _ _) hz1
  have hz3 : L.length ≤ 100000 := by rw [hL]; simpa [lowL] using hz2
  have HT := Lib.hid (show L.map capB = typL s.data.toList by rw [hL, hs2, hs1]; exact typ_is _)
  have HS1 := Lib.hid hs1
  have HS2 := Lib.hid hs2
  have HL := Lib.hid hL
  clear hs1 hs2 hL hz
  go_enter Tryd.func10, Tryd.ntmps10
  go_wp2_with fail
  refine (repl_any s 32 w hs HM.out).mono ?_
  rintro e w1 ⟨rfl, hb⟩
  rw [← HS1.out]
  have HB1 := Lib.hid hb
  clear hb
  go_wp2_with fail
  refine (repl_any ⟨s1.toArray⟩ 45 w1 (show s1.toArray.size ≤ 100000 by simpa using hz1) (HM.out.below HB1.out)).mono ?_
  rintro e w2 ⟨rfl, hb⟩
  simp only [← HS2.out]
  have HB2 := Lib.hid (HB1.out.trans (hb.mono HB1.out.size))
  clear hb
  go_wp2_with fail
  refine (lower_any ⟨s2.toArray⟩ w2 (show s2.toArray.size ≤ 100000 by simpa using hz2)).mono ?_
  rintro e w3 ⟨rfl, hb⟩
  simp only [← HL.out]
  have HB3 := Lib.hid (HB2.out.trans (hb.mono HB2.out.size))
  clear hb
  obtain ⟨n, hn⟩ : ∃ n, L.length = n := ⟨_, rfl⟩
  have hnz : (⟨L.toArray⟩ : Bs).size = n := by rw [← hn]; rfl
  obtain ⟨C, w4, hcv, hC, hby, hb4⟩ := conv_bytes ⟨L.toArray⟩ w3
  rw [hnz] at hcv hC
  obtain ⟨q, hq⟩ : ∃ q, q = w3.heap.size := ⟨_, rfl⟩
  rw [← hq] at hcv hby
  have HQ := Lib.hid (show w.heap.size ≤ q by rw [hq]; exact HB3.out.size)
  have HB4 := Lib.hid (HB3.out.trans (hb4.mono HB3.out.size))
  have HY := Lib.hid (show Bys w4 q (capTo L 0) by rw [capTo_zero]; exact hby)
  have HN := Lib.hid hn
  have hnm : n ≤ 100000 := by omega
  clear hby hb4 hn hq hz3
  go_wp2_with fail
  go_loopw [6, 16] (fun _ i wr => ∃ k : Nat, k ≤ n ∧ i = .int .i64 k ∧ Bys wr q (capTo L k) ∧ Below w.heap.size w wr) (fun _ i _ => n - (intOf i).toNat)
  case atStart => exact ⟨0, Nat.zero_le _, rfl, HY.out, HB4.out⟩
  case round =>
    obtain ⟨k, hk, rfl, hby, hb⟩ := hrel
    have HY2 := Lib.hid hby
    have HB := Lib.hid hb
    clear hby hb hcv
    by_cases hlt : k < n
    · have hlk : k < L.length := by rw [HN.out]; exact hlt
      obtain ⟨hcell, hfr⟩ := HY2.out.2 k (by rw [capTo_length]; exact hlk)
      rw [capTo_at _ _ hlk] at hcell
      obtain ⟨c, hc⟩ : ∃ c, c = bAt L k := ⟨_, rfl⟩
      rw [← hc] at hcell
      have HC := Lib.hid hc
      clear hc
      by_cases hu : 97 ≤ c.toNat ∧ c.toNat ≤ 122
      · have hwr : IntKind.u8.wrap ((c.toNat : Int) - 32) = ((capB c).toNat : Int) := by
          have h2 := capB_lo hu
          rw [h2]
          simp [IntKind.wrap, IntKind.signed, IntKind.bits]
          omega
        have ha : (97 : Int) ≤ (c.toNat : Int) := by omega
        have hb : (c.toNat : Int) ≤ 122 := by omega
        have HS := Lib.hid (capTo_set L k hlk)
        clear hu
        go_wp2
        go_roundw
        case rel => exact ⟨k + 1, by omega, by go_num, by rw [← HS.out, ← HC.out]; exact HY2.out.set k (by rw [capTo_length]; exact hlk) _, HB.out.setCell HQ.out _⟩
        case measure => simp [intOf]; omega
      · have HS := Lib.hid (capTo_keep L k hlk (capB_no (by rw [← HC.out]; exact hu)))
        by_cases ha : (97 : Int) ≤ (c.toNat : Int)
        · have hb : ¬ (c.toNat : Int) ≤ 122 := by omega
          clear hu
          go_wp2
          go_roundw
          case rel => exact ⟨k + 1, by omega, by go_num, by rw [← HS.out]; exact HY2.out, HB.out⟩
          case measure => simp [intOf]; omega
        · clear hu
          go_wp2
          go_roundw
          case rel => exact ⟨k + 1, by omega, by go_num, by rw [← HS.out]; exact HY2.out, HB.out⟩
          case measure => simp [intOf]; omega
    · have e : k = n := by omega
      subst e
      have HE := Lib.hid (show capTo L k = typL s.data.toList by rw [← HT.out, ← HN.out, capTo_all])
      rw [HE.out] at HY2
      have HTN := Lib.hid (show (typL s.data.toList).length = k by rw [← HT.out, List.length_map, HN.out])
      obtain ⟨T, hT⟩ : ∃ T, typL s.data.toList = T := ⟨_, rfl⟩
      have HTT := Lib.hid hT
      rw [hT] at HY2 HTN
      clear hT
      by_cases h8 : k = 8
      · have h8b : ((k : Int) == 8) = true := by rw [h8]; rfl
        have h8c : (k : Int) = 8 := by omega
        cases hal : T.all conB with
        | true =>
          have HR := Lib.hid (cuC_yes (s := s) (by unfold okL; rw [HTT.out, hal, HTN.out, h8]; rfl))
          have HAL := Lib.hid (show (!T.all conB) = false by rw [hal]; rfl)
          clear hal h8
          go_wp2_with fail
          refine (cont_any wr q k C T HY2.out HTN.out hnm HAL.out).mono ?_
          rintro e w5 ⟨rfl, hb⟩
          have HB5 := Lib.hid (HB.out.trans (hb.mono HB.out.size))
          have HY5 := Lib.hid (HY2.out.later hb)
          clear hb
          have hcv := run_convert_bytes_arg (P := Tryd.prog) w5 61 5 Tryd.underlying61 Tryd.underlying5 q 0 k C (T.map fun c => (c.toNat : Int)) (by rw [List.length_map]; exact HTN.out) (by
            intro i hi
            exact HY5.out.ints i (by rw [List.length_map, HTN.out]; exact hi)) 9 Tryd.underlying9
          rw [strOf] at hcv
          go_wp2_with fail
          refine (divided_any ⟨T.toArray⟩ (by show 4 ≤ T.toArray.size; have := HTN.out; simp; omega) (by show T.toArray.size ≤ 100000; have := HTN.out; simp; omega) _).mono ?_
          rintro e w6 ⟨rfl, hb⟩
          have HB6 := Lib.hid (HB5.out.trans (hb.mono HB5.out.size))
          clear hb hcv
          go_wp2
          go_ret2
          rw [HR.out, HTT.out]
          exact ⟨rfl, HB6.out⟩
        | false =>
          have HR := Lib.hid (cuC_no (s := s) (by unfold okL; rw [HTT.out, hal]; simp))
          have HAL := Lib.hid (show (!T.all conB) = true by rw [hal]; rfl)
          clear hal h8
          go_wp2_with fail
          refine (cont_any wr q k C T HY2.out HTN.out hnm HAL.out).mono ?_
          rintro e w5 ⟨rfl, hb⟩
          have HB5 := Lib.hid (HB.out.trans (hb.mono HB.out.size))
          clear hb
          go_wp2
          go_ret2
          rw [HR.out]
          exact ⟨rfl, HB5.out⟩
      · have HR := Lib.hid (cuC_no (s := s) (by unfold okL; rw [HTT.out, HTN.out]; simp [h8]))
        have h8b : ((k : Int) == 8) = false := beq_eq_false_iff_ne.2 (by omega)
        have h8c : ¬ (k : Int) = 8 := by omega
        clear h8
        go_wp2
        go_ret2
        rw [HR.out]
        exact ⟨rfl, HB.out⟩
theorem mk8 (w : World) : (Instr.makeSlice 61 (.int .i64 8) (.int .i64 8)).run Tryd.prog w = .ok (.slice (some ⟨w.heap.size, 0, none⟩) 8 8) (w.alloc (.cells #[.int .u8 0, .int .u8 0, .int .u8 0, .int .u8 0, .int .u8 0, .int .u8 0, .int .u8 0, .int .u8 0] 5)) := by
  have hi := byte_info
  cases h : Tryd.prog.info? 5 with
  | none => rw [h] at hi; cases hi
  | some i =>
    rw [h] at hi
    simp only [Option.map_some, Option.some.injEq, Prod.mk.injEq] at hi
    obtain ⟨h1, h2, h3⟩ := hi
    have := run_makeSlice (P := Tryd.prog) w 61 5 i (.int .u8 0) Tryd.underlying61 h h1 .i64 .i64 8 8 (by decide) (by decide) (by rw [h2]; decide) (by rw [h3]; decide) (by decide)
    rw [this, h2, show madeCells (Value.int IntKind.u8 0).cells (Int.toNat 8 * 1) = #[.int .u8 0, .int .u8 0, .int .u8 0, .int .u8 0, .int .u8 0, .int .u8 0, .int .u8 0, .int .u8 0] by kernel_rfl]
    rfl
/-- The digits written so far. -/
def udL (m k : Nat) : List UInt8 := (List.range 8).map fun j => if 7 - j < k then conL.getD (m / 20 ^ (7 - j) % 20) 0 else 0
theorem udL_length (m k : Nat) : (udL m k).length = 8 := by simp [udL]
theorem udL_set (m k : Nat) (hk : k < 8) : (udL m k).set (7 - k) (conL.getD (m / 20 ^ k % 20) 0) = udL m (k + 1) := by
  refine List.ext_getElem? fun j => ?_
  rw [List.getElem?_set, udL_length]
  by_cases hj : j < 8
  · have e1 : (udL m (k + 1))[j]? = some (if 7 - j < k + 1 then conL.getD (m / 20 ^ (7 - j) % 20) 0 else 0) := by simp [udL, hj]
    have e2 : (udL m k)[j]? = some (if 7 - j < k then conL.getD (m / 20 ^ (7 - j) % 20) 0 else 0) := by simp [udL, hj]
    rw [e1, e2]
    by_cases e : 7 - k = j
    · rw [if_pos e, if_pos (by omega), if_pos (by omega), show 7 - j = k by omega]
    · rw [if_neg e]
      by_cases h : 7 - j < k
      · rw [if_pos h, if_pos (by omega)]
      · rw [if_neg h, if_neg (by omega)]
  · have e1 : (udL m (k + 1))[j]? = none := by rw [List.getElem?_eq_none]; rw [udL_length]; omega
    have e2 : (udL m k)[j]? = none := by rw [List.getElem?_eq_none]; rw [udL_length]; omega
    rw [e1, e2, if_neg (by omega)]
theorem udL_all (m : Nat) : udL m 8 = ucD m := by
  unfold udL ucD
  refine List.map_congr_left fun j hj => ?_
  rw [if_pos (by omega)]
def conC : Bs := ⟨#[66, 67, 68, 70, 71, 72, 74, 75, 76, 77, 78, 80, 81, 82, 83, 84, 86, 87, 88, 90]⟩
theorem con_at (q : Nat) (hq : q < conC.size) : conC[q] = conL.getD q 0 := by
  have h : ∀ i : Fin 20, conC.data[i.1]? = some (conL.getD i.1 0) := by decide
  have hq2 : q < 20 := hq
  have := h ⟨q, hq2⟩
  rw [Array.getElem?_eq_getElem (show q < conC.data.size from hq)] at this
  exact Option.some.inj this
theorem con_size : (⟨conL.toArray⟩ : Bs).size = 20 := by decide
theorem ucN_lt (n : Int) : ucN n < 25600000000 := by unfold ucN; omega
theorem ucN_is (n : Int) : (n.tmod 25600000000 + 25600000000).tmod 25600000000 = (ucN n : Int) := by
  unfold ucN
  have h1 := Int.tmod_lt_of_pos n (b := 25600000000) (by decide)
  have h2 : -25600000000 < n.tmod 25600000000 := by
    rcases Int.le_total 0 n with h | h
    · have := Int.tmod_nonneg 25600000000 h; omega
    · have h3 := Int.tmod_lt_of_pos (-n) (b := 25600000000) (by decide)
      rw [Int.neg_tmod] at h3
      omega
  rw [Int.tmod_eq_emod_of_nonneg (by omega)]
  have h4 : (n.tmod 25600000000 + 25600000000) % 25600000000 = n % 25600000000 := by
    have h5 := Int.tmod_add_mul_tdiv n 25600000000
    have : n.tmod 25600000000 + 25600000000 = n + 25600000000 * (1 - n.tdiv 25600000000) := by rw [Int.mul_sub]; omega
    rw [this, Int.add_mul_emod_self_left]
  rw [h4]
  have := Int.emod_nonneg n (b := 25600000000) (by decide)
  omega
set_option maxHeartbeats 4000000 in
theorem ucode_any (n : Int) (w : World) :
    Calls Tryd.prog 12 #[.int .i64 n] w fun e w' => e = .returned (.string (ucC n)) ∧ Below w.heap.size w w' := by
  obtain ⟨w0, hw0⟩ : ∃ w0, w0 = w.alloc (.cells #[.int .u8 0, .int .u8 0, .int .u8 0, .int .u8 0, .int .u8 0, .int .u8 0, .int .u8 0, .int .u8 0] 5) := ⟨_, rfl⟩
  have hmk := mk8 w
  rw [← hw0] at hmk
  have HB0 := Lib.hid (show Below w.heap.size w w0 by rw [hw0]; go_grown)
  have HX0 := Lib.hid (show w0.heap[w.heap.size]? = some (.cells #[.int .u8 0, .int .u8 0, .int .u8 0, .int .u8 0, .int .u8 0, .int .u8 0, .int .u8 0, .int .u8 0] 5 (0, 0)) by rw [hw0]; exact heap_alloc_new _ _)
  obtain ⟨m, hmm⟩ : ∃ m, ucN n = m := ⟨_, rfl⟩
  have hmi := ucN_is n
  have hml := ucN_lt n
  rw [hmm] at hmi hml
  have HMM := Lib.hid hmm
  have HY0 := Lib.hid (show Bys w0 w.heap.size (udL m 0) by
    refine ⟨by rw [hw0]; simp, fun j hj => ⟨?_, by simp only [World.frozen?, HX0.out]; rfl⟩⟩
    rw [udL_length] at hj
    have e1 : bAt (udL m 0) j = 0 := by simp [bAt, List.getD, udL, hj]
    rw [e1]
    simp only [World.cell?, HX0.out]
    match j, hj with
    | 0, _ => rfl
    | 1, _ => rfl
    | 2, _ => rfl
    | 3, _ => rfl
    | 4, _ => rfl
    | 5, _ => rfl
    | 6, _ => rfl
    | 7, _ => rfl
    | j + 8, h => exact absurd h (by omega))
  clear hw0 hmm
  have h1 := Int.tmod_lt_of_pos n (b := 25600000000) (by decide)
  have h2 : -25600000000 < n.tmod 25600000000 := by
    rcases Int.le_total 0 n with h | h
    · have := Int.tmod_nonneg 25600000000 h; omega
    · have h3 := Int.tmod_lt_of_pos (-n) (b := 25600000000) (by decide)
      rw [Int.neg_tmod] at h3
      omega
  obtain ⟨r, hr⟩ : ∃ r, n.tmod 25600000000 = r := ⟨_, rfl⟩
  rw [hr] at hmi h1 h2
  go_enter Tryd.func12, Tryd.ntmps12
  go_wp2
  go_loopw [3, 5, 11] (fun rest _ i wr => ∃ (k d : Nat), rest = .int .i64 d ∧ i = .int .i64 k ∧ k ≤ 8 ∧ d < 25600000000 ∧ Hid (d = m / 20 ^ k) ∧ Bys wr w.heap.size (udL m k) ∧ Below w.heap.size w wr) (fun _ _ i _ => 8 - (intOf i).toNat)
  case atStart => exact ⟨0, m, rfl, rfl, Nat.zero_le _, hml, Lib.hid (by simp), HY0.out, HB0.out⟩
  case round =>
    obtain ⟨k, d, rfl, rfl, hk, hd, HDD, hby, hb⟩ := hrel
    have HY := Lib.hid hby
    have HB := Lib.hid hb
    clear hby hb hmk hr hmi h1 h2
    by_cases hlt : k < 8
    · have e7 : (7 : Int) - (k : Int) = ((7 - k : Nat) : Int) := by omega
      obtain ⟨q, hq⟩ : ∃ q, d % 20 = q := ⟨_, rfl⟩
      have hq20 : q < 20 := by omega
      have eq1 : (d : Int).tmod 20 = (q : Int) := by rw [Int.tmod_eq_emod_of_nonneg (by omega)]; omega
      have eq2 : (d : Int).tdiv 20 = ((d / 20 : Nat) : Int) := by rw [Int.tdiv_eq_ediv_of_nonneg (by omega)]; omega
      obtain ⟨hcell, hfr⟩ := HY.out.2 (7 - k) (by rw [udL_length]; omega)
      have HST := Lib.hid (show (udL m k).set (7 - k) (conC[q]'(by rw [show conC.size = 20 from rfl]; exact hq20)) = udL m (k + 1) by rw [con_at, ← hq, HDD.out]; exact udL_set m k hlt)
      clear hq
      go_wp2
      go_roundw
      case rel => exact ⟨k + 1, d / 20, rfl, by go_num, by omega, by omega, Lib.hid (by rw [HDD.out, Nat.div_div_eq_div_mul, Nat.pow_succ]), (by rw [← HST.out]; exact HY.out.set (7 - k) (by rw [udL_length]; omega) _), HB.out.setCell (Nat.le_refl _) _⟩
      case measure => simp [intOf]; omega
    · have e : k = 8 := by omega
      subst e
      have hcv := run_convert_bytes_arg (P := Tryd.prog) wr 61 5 Tryd.underlying61 Tryd.underlying5 w.heap.size 0 8 8 ((udL m 8).map fun c => (c.toNat : Int)) (by rw [List.length_map]; exact udL_length m 8) (by
        intro i hi
        exact HY.out.ints i (by rw [List.length_map, udL_length]; exact hi)) 9 Tryd.underlying9
      rw [strOf] at hcv
      go_wp2_with fail
      refine (divided_any ⟨(udL m 8).toArray⟩ (show 4 ≤ (udL m 8).toArray.size by have := udL_length m 8; simp; omega) (show (udL m 8).toArray.size ≤ 100000 by have := udL_length m 8; simp; omega) wr).mono ?_
      rintro e w6 ⟨rfl, hb⟩
      have HB6 := Lib.hid (HB.out.trans (hb.mono HB.out.size))
      clear hb hcv
      go_wp2
      go_ret
      exact ⟨ret_str (by unfold ucC; rw [HMM.out, udL_all]), HB6.out⟩
end Go.Proofs.YtapooonlbjgbgaaDoor.Dv
