/-
  The reference: digests and base64.
-/
import Derived.Test.YtioabjniipkncaaGreatDoorQcP
import Derived.OwnWalk
import Derived.IntWalk
import Derived.Test.YtioabjniipkncaaGreatDoorFoB
namespace Go.Proofs.YtioabjniipkncaaGreatDoor.Rc
open Go.RowKit Go.Proofs.YtioabjniipkncaaGreatDoor.Fo Go.Proofs.YtioabjniipkncaaGreatDoor.Rf Go.Maps

theorem rsum_any (s : Bs) (w : World) (hs : s.size ≤ 100000) : Calls Tryz.prog 91 #[.string s] w fun e w' => e = .returned (.int .u64 (sumV s.data.toList)) ∧ w = w' := by
  have HLN := Lib.hid (show s.data.toList.length = s.size by simp)
  go_enter Tryz.func91, Tryz.ntmps91
  go_wp2
  go_loopw [3, 4] (fun h i wr => ∃ (k : Nat) (n : Int), i = .int .i64 k ∧ h = .int .u64 n ∧ Hid (n = sumP s.data.toList k) ∧ k ≤ s.size ∧ w = wr) (fun _ i _ => s.size - (intOf i).toNat)
  case atStart => exact ⟨0, _, rfl, rfl, rfl, Nat.zero_le _, rfl⟩
  case round =>
    obtain ⟨k, n, rfl, rfl, HN, hk, rfl⟩ := hrel
    by_cases hlt : k < s.size
    · have HBB := Lib.hid (bAt_str s k hlt)
      go_wp2
      go_roundw
      case rel => exact ⟨k + 1, _, by go_num, rfl, (show _ = sumP s.data.toList (k + 1) by rw [sumP, stepH, ← HN.out, HBB.out]), by omega, trivial⟩
      case measure => simp [intOf]; omega
    · have e : k = s.size := by omega
      have HR := Lib.hid (show sumV s.data.toList = mixC (mixB (mixA n)) by unfold sumV; rw [HLN.out, ← e, ← HN.out])
      go_wp2
      go_ret
      exact ⟨by rw [HR.out]; rfl, rfl⟩
def dgC : Bs := ⟨#[48, 49, 50, 51, 52, 53, 54, 55, 56, 57, 97, 98, 99, 100, 101, 102]⟩
theorem dgC_size : dgC.size = 16 := by decide
theorem str_one (d : Nat) (hd : d < 16) : dgC.extract d (d + 1) = ⟨#[dgI d]⟩ := by
  match d, hd with
  | 0, _ => rfl
  | 1, _ => rfl
  | 2, _ => rfl
  | 3, _ => rfl
  | 4, _ => rfl
  | 5, _ => rfl
  | 6, _ => rfl
  | 7, _ => rfl
  | 8, _ => rfl
  | 9, _ => rfl
  | 10, _ => rfl
  | 11, _ => rfl
  | 12, _ => rfl
  | 13, _ => rfl
  | 14, _ => rfl
  | 15, _ => rfl
  | d + 16, h => exact absurd h (by omega)
theorem bs_cons (c : UInt8) (l : List UInt8) : (⟨#[c]⟩ : Bs) ++ ⟨l.toArray⟩ = ⟨(c :: l).toArray⟩ := by
  apply bs_ext
  simp [ByteArray.data_append]
set_option maxRecDepth 100000 in
theorem rhex_any (n : Int) (h0 : 0 ≤ n) (h1 : n < 18446744073709551616) (w : World) : Calls Tryz.prog 90 #[.int .u64 n] w fun e w' => e = .returned (.string ⟨(hexV n).toArray⟩) ∧ w = w' := by
  have HRG := Lib.hid (show ∀ k : Nat, 0 ≤ n / 16 ^ k ∧ n / 16 ^ k < 18446744073709551616 from fun k => by
    have hp : (0 : Int) < 16 ^ k := Int.pow_pos (by decide)
    have h2 : 0 ≤ n / 16 ^ k := Int.ediv_nonneg h0 (Int.le_of_lt hp)
    have h3 : n / 16 ^ k ≤ n := Int.ediv_le_self _ h0
    omega)
  go_enter Tryz.func90, Tryz.ntmps90
  go_wp2
  go_loopw [0, 3, 4] (fun nv sv iv wr => ∃ (k : Nat) (m : Int) (l : List UInt8), iv = .int .i64 k ∧ nv = .int .u64 m ∧ sv = .string ⟨l.toArray⟩ ∧ Hid (m = n / 16 ^ k) ∧ Hid (l = hxT n k) ∧ l.length ≤ 16 ∧ k ≤ 16 ∧ w = wr) (fun _ _ iv _ => 16 - (intOf iv).toNat)
  case atStart => exact ⟨0, n, [], rfl, rfl, rfl, Lib.hid (by simp), Lib.hid (hxT_zero n).symm, by simp, Nat.zero_le _, rfl⟩
  case round =>
    obtain ⟨k, m, l, rfl, rfl, rfl, HM, HL, hll, hk, rfl⟩ := hrel
    by_cases hlt : k < 16
    · have hm0 : 0 ≤ m ∧ m < 18446744073709551616 := by rw [HM.out]; exact HRG.out k
      obtain ⟨d, hd⟩ : ∃ d, nib n k = d := ⟨_, rfl⟩
      have hd16 : d < 16 := by rw [← hd]; exact nib_lt _ _
      have eq1 : m.tmod 16 = (d : Int) := by rw [Int.tmod_eq_emod_of_nonneg (by omega), HM.out, ← nib_step, hd]
      have eq2 : m.tdiv 16 = m / 16 := Int.tdiv_eq_ediv_of_nonneg (by omega)
      have HQ := Lib.hid (show m / 16 = n / 16 ^ (k + 1) by rw [HM.out, div16])
      have HE := Lib.hid (str_one d hd16)
      have HS := Lib.hid (show dgI d :: l = hxT n (k + 1) by rw [HL.out, ← hd]; exact (hxT_succ n k hlt).symm)
      have hll2 : l.length ≤ 15 := by rw [HL.out]; unfold hxT; rw [List.length_drop, hexV_length]; omega
      have HZ := Lib.hid dgC_size
      clear hd
      go_wp2
      go_roundw
      case rel => exact ⟨k + 1, m / 16, dgI d :: l, by go_num, rfl, by (show Value.string (dgC.extract d (d + 1) ++ _) = _; rw [HE.out, bs_cons]), HQ, HS, by simp; omega, by omega, trivial⟩
      case measure => simp [intOf]; omega
    · have e : k = 16 := by omega
      have HR := Lib.hid (show l = hexV n by rw [← hxT_all, ← e]; exact HL.out)
      clear e
      go_wp2
      go_ret
      exact ⟨by rw [HR.out]; rfl, rfl⟩
theorem rtext_any (s : Bs) (w : World) (hs : s.size ≤ 100000) : Calls Tryz.prog 80 #[.string s] w fun e w' => e = .returned (.string ⟨(txtV s.data.toList).toArray⟩) ∧ w = w' := by
  have hr := sumV_range s.data.toList
  have HH := Lib.hid (fun w => rhex_any (sumV s.data.toList) hr.1 hr.2 w)
  clear hr
  go_enter Tryz.func80, Tryz.ntmps80
  go_wp2_with fail
  refine (rsum_any s w hs).mono ?_
  rintro e w1 ⟨rfl, rfl⟩
  go_wp2_with fail
  refine (HH.out w).mono ?_
  rintro e w1 ⟨rfl, rfl⟩
  go_wp2
  go_ret
  exact ⟨rfl, rfl⟩
theorem nB_range (l : List UInt8) (i : Nat) : 0 ≤ nB l i ∧ nB l i < 16777216 := by
  have h0 := bAt_lt l i
  have h1 := bAt_lt l (i + 1)
  have h2 := bAt_lt l (i + 2)
  unfold nB
  omega
theorem nv2 (a : UInt8) : wrap64 (wrap64 ((a.toNat : Nat) : Int) * 65536) = (a.toNat : Int) * 65536 + ((0 : UInt8).toNat : Int) * 256 + ((0 : UInt8).toNat : Int) := by
  have ha := a.toNat_lt
  have hz : ((0 : UInt8).toNat : Int) = 0 := rfl
  rw [hz, wrap64_small (n := (a.toNat : Int)) (by omega) (by omega), wrap64_small (by omega) (by omega)]
  omega
theorem nv3 (a b : UInt8) : wrap64 (wrap64 (wrap64 ((a.toNat : Nat) : Int) * 65536) + wrap64 (wrap64 ((b.toNat : Nat) : Int) * 256)) = (a.toNat : Int) * 65536 + (b.toNat : Int) * 256 + ((0 : UInt8).toNat : Int) := by
  have ha := a.toNat_lt
  have hb := b.toNat_lt
  have hz : ((0 : UInt8).toNat : Int) = 0 := rfl
  rw [hz, wrap64_small (n := (a.toNat : Int)) (by omega) (by omega), wrap64_small (n := (b.toNat : Int)) (by omega) (by omega), wrap64_small (n := (a.toNat : Int) * 65536) (by omega) (by omega), wrap64_small (n := (b.toNat : Int) * 256) (by omega) (by omega), wrap64_small (by omega) (by omega)]
  omega
theorem nv4 (a b c : UInt8) : wrap64 (wrap64 (wrap64 (wrap64 ((a.toNat : Nat) : Int) * 65536) + wrap64 (wrap64 ((b.toNat : Nat) : Int) * 256)) + wrap64 ((c.toNat : Nat) : Int)) = (a.toNat : Int) * 65536 + (b.toNat : Int) * 256 + (c.toNat : Int) := by
  have ha := a.toNat_lt
  have hb := b.toNat_lt
  have hc := c.toNat_lt
  rw [wrap64_small (n := (a.toNat : Int)) (by omega) (by omega), wrap64_small (n := (b.toNat : Int)) (by omega) (by omega), wrap64_small (n := (a.toNat : Int) * 65536) (by omega) (by omega), wrap64_small (n := (b.toNat : Int) * 256) (by omega) (by omega), wrap64_small (n := (a.toNat : Int) * 65536 + (b.toNat : Int) * 256) (by omega) (by omega), wrap64_small (n := (c.toNat : Int)) (by omega) (by omega), wrap64_small (by omega) (by omega)]
theorem bAt_out (l : List UInt8) (i : Nat) (h : l.length ≤ i) : bAt l i = 0 := by unfold bAt; simp [List.getD, h]
theorem one_src (w : World) (x : Value) (T : TypeId) : ∀ j u, [x][j]? = some u → (w.alloc (.cells #[x] T)).cell? ((⟨w.heap.size, 0, none⟩ : Addr).add j) = some u := by
  intro j u hu
  cases j with
  | zero =>
    simp at hu
    subst hu
    simp [Addr.add, go_sem]
  | succ j => simp at hu
theorem one_one (c : UInt8) : ∀ u ∈ [Value.int .u8 (c.toNat : Int)], u.oneCell' = true := by
  intro u hu
  simp at hu
  subst hu
  rfl
def r64V (l : List UInt8) : List UInt8 := rB l ((l.length + 2) / 3)
theorem kB_le (n i : Nat) : kB n i ≤ 4 := by unfold kB; split <;> (try split) <;> omega
theorem rB_len (l : List UInt8) : ∀ q, (rB l q).length ≤ 4 * q
  | 0 => Nat.zero_le _
  | q + 1 => by
    have h1 := rB_len l q
    have h2 := kB_le l.length (3 * q)
    rw [rB, List.length_append]
    unfold gB
    rw [List.length_map, List.length_range]
    omega
theorem dvB_next (j : Nat) (h : j < 4) : (dvB j).tdiv 64 = dvB (j + 1) := by
  match j, h with
  | 0, _ => rfl
  | 1, _ => rfl
  | 2, _ => rfl
  | 3, _ => rfl
  | j + 4, h => exact absurd h (by omega)
theorem dvB_range (j : Nat) : 0 ≤ dvB j ∧ dvB j ≤ 262144 := by
  unfold dvB
  split
  · omega
  · split
    · omega
    · split
      · omega
      · split <;> omega
theorem dvB_pos (j : Nat) (h : j < 4) : 0 < dvB j := by
  match j, h with
  | 0, _ => decide
  | 1, _ => decide
  | 2, _ => decide
  | 3, _ => decide
  | j + 4, h => exact absurd h (by omega)
set_option maxRecDepth 100000 in
set_option maxHeartbeats 4000000 in
theorem rb64_any (s : Bs) (w : World) (hs : s.size ≤ 100000) : Calls Tryz.prog 79 #[.string s] w fun e w' => e = .returned (.string ⟨(r64V s.data.toList).toArray⟩) ∧ Below w.heap.size w w' := by
  obtain ⟨i0, hi, hz0, hz1, hz2⟩ := info_parts byte_info
  have HLN := Lib.hid (show s.data.toList.length = s.size by simp)
  go_enter Tryz.func79, Tryz.ntmps79
  go_wp2
  go_loopw [3, 4, 5, 6, 7, 8] (fun v i _ _ _ _ wr => ∃ (q p m : Nat) (A : Option Addr) (cc : Nat), Hid (p = 3 * q) ∧ p ≤ s.size + 2 ∧ i = .int .i64 p ∧ v = .slice A m cc ∧ m ≤ 2 * p ∧ Hid (OwnS wr w.heap.size A m cc (rB s.data.toList q)) ∧ Below w.heap.size w wr) (fun _ i _ _ _ _ _ => s.size + 2 - (intOf i).toNat)
  case atStart => exact ⟨0, 0, 0, none, 0, Lib.hid rfl, Nat.zero_le _, rfl, rfl, Nat.le_refl _, Lib.hid (OwnS.nil _ _), Below.refl _ _⟩
  case round =>
    obtain ⟨q, p, m, A, cc, HP, hp, rfl, rfl, hm, HO, hb⟩ := hrel
    have HB := Lib.hid hb
    clear hb
    by_cases hlt : p < s.size
    · have HB0 := Lib.hid (bAt_str s p hlt)
      by_cases h2 : p + 2 < s.size
      · as_aux_lemma =>
        have h1 : p + 1 < s.size := by omega
        have HB1 := Lib.hid (bAt_str s (p + 1) h1)
        have HB2 := Lib.hid (bAt_str s (p + 2) h2)
        have HNV := Lib.hid (show wrap64 (wrap64 (wrap64 (wrap64 ((s[p].toNat : Nat) : Int) * 65536) + wrap64 (wrap64 ((s[p + 1].toNat : Nat) : Int) * 256)) + wrap64 ((s[p + 2].toNat : Nat) : Int)) = nB s.data.toList p by
          unfold nB
          rw [HB0.out, HB1.out, HB2.out]
          exact nv4 s[p] s[p + 1] s[p + 2])
        have HKB := Lib.hid (show kB s.data.toList.length (3 * q) = 4 by rw [HLN.out, ← HP.out]; unfold kB; rw [if_pos (by omega)])
        go_wp2
        rw [HNV.out]
        obtain ⟨N, hN⟩ : ∃ N, nB s.data.toList p = N := ⟨_, rfl⟩
        have hnr : 0 ≤ N ∧ N < 16777216 := by rw [← hN]; exact nB_range _ _
        rw [hN]
        have HN := Lib.hid hN
        clear hN HNV
        go_loopw [3, 7, 8] (fun v dv jv w2 => ∃ (j m1 : Nat) (A1 : Option Addr) (c1 : Nat) (d : Int), jv = .int .i64 j ∧ dv = .int .i64 d ∧ v = .slice A1 m1 c1 ∧ j ≤ 4 ∧ Hid (d = dvB j) ∧ m1 = m + j ∧ Hid (OwnS w2 w.heap.size A1 m1 c1 (rB s.data.toList q ++ gB N j)) ∧ Below w.heap.size w w2) (fun _ _ jv _ => 4 - (intOf jv).toNat)
        case atStart => exact ⟨0, m, A, cc, 262144, rfl, rfl, rfl, Nat.zero_le _, Lib.hid rfl, rfl, (by rw [show gB N 0 = [] from rfl, List.append_nil]; exact HO), HB.out⟩
        case round =>
          obtain ⟨j, m1, A1, c1, d, rfl, rfl, rfl, hj, HDV, rfl, HO1, hb1⟩ := hrel
          have HB1x := Lib.hid hb1
          clear hb1
          by_cases hjl : j < 4
          · have hd0 : 0 < d := by rw [HDV.out]; exact dvB_pos j (by omega)
            have HGS := Lib.hid (gB_succ N j)
            obtain ⟨x, hx⟩ : ∃ x, N / d = x := ⟨_, rfl⟩
            have hx0 : 0 ≤ x := by rw [← hx]; exact Int.ediv_nonneg hnr.1 (by omega)
            have hx1 : x ≤ N := by rw [← hx]; exact Int.ediv_le_self _ hnr.1
            have eq1 : N.tdiv d = x := by rw [Int.tdiv_eq_ediv_of_nonneg hnr.1, hx]
            obtain ⟨u, hu⟩ : ∃ u, ixB x = u := ⟨_, rfl⟩
            have hu64 : u < 64 := by rw [← hu]; exact ixB_lt _
            have eq2 : x.tmod 64 = (u : Int) := by rw [Int.tmod_eq_emod_of_nonneg hx0, ← hu]; unfold ixB; omega
            have eq3 : d.tdiv 64 = dvB (j + 1) := by rw [HDV.out]; exact dvB_next j (by omega)
            have HAL := Lib.hid (alB_at hu (by rw [al_size]; exact hu64))
            have HXB := Lib.hid (show alB x = alB (N / dvB j) by rw [← hx, HDV.out])
            have hdb : (d == 0) = false := beq_eq_false_iff_ne.2 (by omega)
            have hdz : ¬ d = 0 := by omega
            have hbase : w.heap.size ≤ wr.heap.size := HB1x.out.size
            obtain ⟨d2, hd2⟩ : ∃ d2, dvB (j + 1) = d2 := ⟨_, rfl⟩
            rw [hd2] at eq3
            have HW2 := Lib.hid (show wrap64 d2 = d2 by rw [← hd2]; exact wrap64_small (dvB_range (j + 1)).1 (by have := (dvB_range (j + 1)).2; omega))
            have HD2 := Lib.hid hd2
            clear hu hx hd2
            go_wp2_with (at_builtin; go_must (refine wpList_append_own_at _ rfl (.tmp 50) (.tmp 56) _ rfl w.heap.size 5 i0 _ 1 1 Tryz.underlying90 hi hz0 hz1 hz2 rfl (by decide) (.slice A1 (m + j) c1) (m + j) (bytesV (rB s.data.toList q ++ gB N j)) rfl (HO1.out.row _) ⟨wr.heap.size, 0, none⟩ 1 1 [.int .u8 ((alC[u].toNat : Nat) : Int)] rfl rfl (one_src _ _ _) (one_one _) (by simp only [maxLen]; omega) (by omega) (by simp; omega) ?_); intro v' w3 hown1 hgrow hnil hat; have HB3 := Lib.hid (OwnS.grow (HO1.out.row _) HB1x.out (Nat.le_refl _) hgrow); obtain ⟨A3, c3, rfl, hO3⟩ := OwnS.snoc HO1.out.1 hown1; have HO3 := Lib.hid hO3; clear hown1 hgrow hnil hat hO3)
            go_roundw
            case rel => exact ⟨j + 1, m + j + 1, A3, c3, d2, by go_num, by rw [HW2.out], rfl, by omega, Lib.hid HD2.out.symm, by omega, (by rw [HGS.out, ← HXB.out, ← HAL.out, ← List.append_assoc]; exact HO3), HB3.out⟩
            case measure => simp [intOf]; omega
          · have HRX := Lib.hid (show rB s.data.toList (q + 1) = rB s.data.toList q ++ gB N 4 by rw [rB, HKB.out, ← HP.out, HN.out])
            have ej : j = 4 := by omega
            subst ej
            go_wp2
            go_roundw
            case rel => exact ⟨q + 1, p + 3, m + 4, A1, c1, Lib.hid (by rw [HP.out]; omega), by omega, by go_num, rfl, by omega, (by rw [HRX.out]; exact HO1), HB1x.out⟩
            case measure => simp [intOf]; omega
      · by_cases h1 : p + 1 < s.size
        · as_aux_lemma =>
          have HB1 := Lib.hid (bAt_str s (p + 1) h1)
          have z2 : bAt s.data.toList (p + 2) = 0 := bAt_out _ _ (by rw [HLN.out]; omega)
          have HNV := Lib.hid (show wrap64 (wrap64 (wrap64 ((s[p].toNat : Nat) : Int) * 65536) + wrap64 (wrap64 ((s[p + 1].toNat : Nat) : Int) * 256)) = nB s.data.toList p by
            unfold nB
            rw [HB0.out, HB1.out, z2]
            exact nv3 s[p] s[p + 1])
          have HKB := Lib.hid (show kB s.data.toList.length (3 * q) = 3 by rw [HLN.out, ← HP.out]; unfold kB; rw [if_neg (by omega), if_pos (by omega)])
          go_wp2
          rw [HNV.out]
          obtain ⟨N, hN⟩ : ∃ N, nB s.data.toList p = N := ⟨_, rfl⟩
          have hnr : 0 ≤ N ∧ N < 16777216 := by rw [← hN]; exact nB_range _ _
          rw [hN]
          have HN := Lib.hid hN
          clear hN HNV
          go_loopw [3, 7, 8] (fun v dv jv w2 => ∃ (j m1 : Nat) (A1 : Option Addr) (c1 : Nat) (d : Int), jv = .int .i64 j ∧ dv = .int .i64 d ∧ v = .slice A1 m1 c1 ∧ j ≤ 3 ∧ Hid (d = dvB j) ∧ m1 = m + j ∧ Hid (OwnS w2 w.heap.size A1 m1 c1 (rB s.data.toList q ++ gB N j)) ∧ Below w.heap.size w w2) (fun _ _ jv _ => 3 - (intOf jv).toNat)
          case atStart => exact ⟨0, m, A, cc, 262144, rfl, rfl, rfl, Nat.zero_le _, Lib.hid rfl, rfl, (by rw [show gB N 0 = [] from rfl, List.append_nil]; exact HO), HB.out⟩
          case round =>
            obtain ⟨j, m1, A1, c1, d, rfl, rfl, rfl, hj, HDV, rfl, HO1, hb1⟩ := hrel
            have HB1x := Lib.hid hb1
            clear hb1
            by_cases hjl : j < 3
            · have hd0 : 0 < d := by rw [HDV.out]; exact dvB_pos j (by omega)
              have HGS := Lib.hid (gB_succ N j)
              obtain ⟨x, hx⟩ : ∃ x, N / d = x := ⟨_, rfl⟩
              have hx0 : 0 ≤ x := by rw [← hx]; exact Int.ediv_nonneg hnr.1 (by omega)
              have hx1 : x ≤ N := by rw [← hx]; exact Int.ediv_le_self _ hnr.1
              have eq1 : N.tdiv d = x := by rw [Int.tdiv_eq_ediv_of_nonneg hnr.1, hx]
              obtain ⟨u, hu⟩ : ∃ u, ixB x = u := ⟨_, rfl⟩
              have hu64 : u < 64 := by rw [← hu]; exact ixB_lt _
              have eq2 : x.tmod 64 = (u : Int) := by rw [Int.tmod_eq_emod_of_nonneg hx0, ← hu]; unfold ixB; omega
              have eq3 : d.tdiv 64 = dvB (j + 1) := by rw [HDV.out]; exact dvB_next j (by omega)
              have HAL := Lib.hid (alB_at hu (by rw [al_size]; exact hu64))
              have HXB := Lib.hid (show alB x = alB (N / dvB j) by rw [← hx, HDV.out])
              have hdb : (d == 0) = false := beq_eq_false_iff_ne.2 (by omega)
              have hdz : ¬ d = 0 := by omega
              have hbase : w.heap.size ≤ wr.heap.size := HB1x.out.size
              obtain ⟨d2, hd2⟩ : ∃ d2, dvB (j + 1) = d2 := ⟨_, rfl⟩
              rw [hd2] at eq3
              have HW2 := Lib.hid (show wrap64 d2 = d2 by rw [← hd2]; exact wrap64_small (dvB_range (j + 1)).1 (by have := (dvB_range (j + 1)).2; omega))
              have HD2 := Lib.hid hd2
              clear hu hx hd2
              go_wp2_with (at_builtin; go_must (refine wpList_append_own_at _ rfl (.tmp 50) (.tmp 56) _ rfl w.heap.size 5 i0 _ 1 1 Tryz.underlying90 hi hz0 hz1 hz2 rfl (by decide) (.slice A1 (m + j) c1) (m + j) (bytesV (rB s.data.toList q ++ gB N j)) rfl (HO1.out.row _) ⟨wr.heap.size, 0, none⟩ 1 1 [.int .u8 ((alC[u].toNat : Nat) : Int)] rfl rfl (one_src _ _ _) (one_one _) (by simp only [maxLen]; omega) (by omega) (by simp; omega) ?_); intro v' w3 hown1 hgrow hnil hat; have HB3 := Lib.hid (OwnS.grow (HO1.out.row _) HB1x.out (Nat.le_refl _) hgrow); obtain ⟨A3, c3, rfl, hO3⟩ := OwnS.snoc HO1.out.1 hown1; have HO3 := Lib.hid hO3; clear hown1 hgrow hnil hat hO3)
              go_roundw
              case rel => exact ⟨j + 1, m + j + 1, A3, c3, d2, by go_num, by rw [HW2.out], rfl, by omega, Lib.hid HD2.out.symm, by omega, (by rw [HGS.out, ← HXB.out, ← HAL.out, ← List.append_assoc]; exact HO3), HB3.out⟩
              case measure => simp [intOf]; omega
            · have HRX := Lib.hid (show rB s.data.toList (q + 1) = rB s.data.toList q ++ gB N 3 by rw [rB, HKB.out, ← HP.out, HN.out])
              have ej : j = 3 := by omega
              subst ej
              go_wp2
              go_roundw
              case rel => exact ⟨q + 1, p + 3, m + 3, A1, c1, Lib.hid (by rw [HP.out]; omega), by omega, by go_num, rfl, by omega, (by rw [HRX.out]; exact HO1), HB1x.out⟩
              case measure => simp [intOf]; omega
        · as_aux_lemma =>
          have z1 : bAt s.data.toList (p + 1) = 0 := bAt_out _ _ (by rw [HLN.out]; omega)
          have z2 : bAt s.data.toList (p + 2) = 0 := bAt_out _ _ (by rw [HLN.out]; omega)
          have HNV := Lib.hid (show wrap64 (wrap64 ((s[p].toNat : Nat) : Int) * 65536) = nB s.data.toList p by
            unfold nB
            rw [HB0.out, z1, z2]
            exact nv2 s[p])
          have HKB := Lib.hid (show kB s.data.toList.length (3 * q) = 2 by rw [HLN.out, ← HP.out]; unfold kB; rw [if_neg (by omega), if_neg (by omega)])
          go_wp2
          rw [HNV.out]
          obtain ⟨N, hN⟩ : ∃ N, nB s.data.toList p = N := ⟨_, rfl⟩
          have hnr : 0 ≤ N ∧ N < 16777216 := by rw [← hN]; exact nB_range _ _
          rw [hN]
          have HN := Lib.hid hN
          clear hN HNV
          go_loopw [3, 7, 8] (fun v dv jv w2 => ∃ (j m1 : Nat) (A1 : Option Addr) (c1 : Nat) (d : Int), jv = .int .i64 j ∧ dv = .int .i64 d ∧ v = .slice A1 m1 c1 ∧ j ≤ 2 ∧ Hid (d = dvB j) ∧ m1 = m + j ∧ Hid (OwnS w2 w.heap.size A1 m1 c1 (rB s.data.toList q ++ gB N j)) ∧ Below w.heap.size w w2) (fun _ _ jv _ => 2 - (intOf jv).toNat)
          case atStart => exact ⟨0, m, A, cc, 262144, rfl, rfl, rfl, Nat.zero_le _, Lib.hid rfl, rfl, (by rw [show gB N 0 = [] from rfl, List.append_nil]; exact HO), HB.out⟩
          case round =>
            obtain ⟨j, m1, A1, c1, d, rfl, rfl, rfl, hj, HDV, rfl, HO1, hb1⟩ := hrel
            have HB1x := Lib.hid hb1
            clear hb1
            by_cases hjl : j < 2
            · have hd0 : 0 < d := by rw [HDV.out]; exact dvB_pos j (by omega)
              have HGS := Lib.hid (gB_succ N j)
              obtain ⟨x, hx⟩ : ∃ x, N / d = x := ⟨_, rfl⟩
              have hx0 : 0 ≤ x := by rw [← hx]; exact Int.ediv_nonneg hnr.1 (by omega)
              have hx1 : x ≤ N := by rw [← hx]; exact Int.ediv_le_self _ hnr.1
              have eq1 : N.tdiv d = x := by rw [Int.tdiv_eq_ediv_of_nonneg hnr.1, hx]
              obtain ⟨u, hu⟩ : ∃ u, ixB x = u := ⟨_, rfl⟩
              have hu64 : u < 64 := by rw [← hu]; exact ixB_lt _
              have eq2 : x.tmod 64 = (u : Int) := by rw [Int.tmod_eq_emod_of_nonneg hx0, ← hu]; unfold ixB; omega
              have eq3 : d.tdiv 64 = dvB (j + 1) := by rw [HDV.out]; exact dvB_next j (by omega)
              have HAL := Lib.hid (alB_at hu (by rw [al_size]; exact hu64))
              have HXB := Lib.hid (show alB x = alB (N / dvB j) by rw [← hx, HDV.out])
              have hdb : (d == 0) = false := beq_eq_false_iff_ne.2 (by omega)
              have hdz : ¬ d = 0 := by omega
              have hbase : w.heap.size ≤ wr.heap.size := HB1x.out.size
              obtain ⟨d2, hd2⟩ : ∃ d2, dvB (j + 1) = d2 := ⟨_, rfl⟩
              rw [hd2] at eq3
              have HW2 := Lib.hid (show wrap64 d2 = d2 by rw [← hd2]; exact wrap64_small (dvB_range (j + 1)).1 (by have := (dvB_range (j + 1)).2; omega))
              have HD2 := Lib.hid hd2
              clear hu hx hd2
              go_wp2_with (at_builtin; go_must (refine wpList_append_own_at _ rfl (.tmp 50) (.tmp 56) _ rfl w.heap.size 5 i0 _ 1 1 Tryz.underlying90 hi hz0 hz1 hz2 rfl (by decide) (.slice A1 (m + j) c1) (m + j) (bytesV (rB s.data.toList q ++ gB N j)) rfl (HO1.out.row _) ⟨wr.heap.size, 0, none⟩ 1 1 [.int .u8 ((alC[u].toNat : Nat) : Int)] rfl rfl (one_src _ _ _) (one_one _) (by simp only [maxLen]; omega) (by omega) (by simp; omega) ?_); intro v' w3 hown1 hgrow hnil hat; have HB3 := Lib.hid (OwnS.grow (HO1.out.row _) HB1x.out (Nat.le_refl _) hgrow); obtain ⟨A3, c3, rfl, hO3⟩ := OwnS.snoc HO1.out.1 hown1; have HO3 := Lib.hid hO3; clear hown1 hgrow hnil hat hO3)
              go_roundw
              case rel => exact ⟨j + 1, m + j + 1, A3, c3, d2, by go_num, by rw [HW2.out], rfl, by omega, Lib.hid HD2.out.symm, by omega, (by rw [HGS.out, ← HXB.out, ← HAL.out, ← List.append_assoc]; exact HO3), HB3.out⟩
              case measure => simp [intOf]; omega
            · have HRX := Lib.hid (show rB s.data.toList (q + 1) = rB s.data.toList q ++ gB N 2 by rw [rB, HKB.out, ← HP.out, HN.out])
              have ej : j = 2 := by omega
              subst ej
              go_wp2
              go_roundw
              case rel => exact ⟨q + 1, p + 3, m + 2, A1, c1, Lib.hid (by rw [HP.out]; omega), by omega, by go_num, rfl, by omega, (by rw [HRX.out]; exact HO1), HB1x.out⟩
              case measure => simp [intOf]; omega
    · have HR := Lib.hid (show rB s.data.toList q = r64V s.data.toList by
        unfold r64V
        rw [HLN.out, show (s.size + 2) / 3 = q by have := HP.out; omega])
      have hcv := HO.out.str
      go_wp2
      go_ret
      exact ⟨by rw [← HR.out]; rfl, HB.out⟩
end Go.Proofs.YtioabjniipkncaaGreatDoor.Rc
