/-
  The walks of layer 15: vectors, Covers, Within, Same.
-/
import Derived.Test.YteidbomkbddliaaCsnV
namespace Go.Proofs.Yteidbomkbddliaa.Csn
open Go.RowKit

/-- The list if it is an update vector, else the empty one. -/
def vec (l : List C) : List C := if chk l = 0 then l else []
theorem vec_yes {l : List C} (h : chk l = 0) : vec l = l := by simp [vec, h]
theorem vec_no {l : List C} (h : ¬ chk l = 0) : vec l = [] := by simp [vec, h]

theorem vector_any (w : World) (A : Option Addr) (n c : Nat) (l : List C) (hs : Sl w A n c l) (hn : n ≤ 1000) :
    Calls Try.prog 47 #[.slice A n c] w (IsSl w n (vec l)) := by
  have HS := Lib.hid hs
  clear hs
  by_cases h : chk l = 0
  · have HV := Lib.hid (vec_yes h)
    have h1 : (chk l != 0) = false := by simpa using h
    have H := Lib.hid h
    clear h
    go_enter Try.func47, Try.ntmps47
    go_wp2_with (go_at_call 25; refine (check_any _ _ _ _ _ HS.out hn).mono ?_; rintro e w1 ⟨rfl, hb⟩)
    go_ret
    exact ⟨A, n, c, rfl, by rw [HV.out]; exact HS.out.below hb, Nat.le_refl _, hb⟩
  · have HV := Lib.hid (vec_no h)
    have h1 : (chk l != 0) = true := by simpa using h
    have H := Lib.hid h
    clear h
    go_enter Try.func47, Try.ntmps47
    go_wp2_with (go_at_call 25; refine (check_any _ _ _ _ _ HS.out hn).mono ?_; rintro e w1 ⟨rfl, hb⟩)
    go_ret
    exact ⟨none, 0, 0, rfl, by rw [HV.out]; exact Sl.nil _ _, Nat.zero_le _, hb⟩
theorem rvector_any (w : World) (A : Option Addr) (n c : Nat) (l : List C) (hs : Sl w A n c l) (hn : n ≤ 1000) :
    Calls Try.prog 49 #[.slice A n c] w (IsSl w n (vec l)) := by
  have HS := Lib.hid hs
  clear hs
  by_cases h : chk l = 0
  · have HV := Lib.hid (vec_yes h)
    have h1 : (chk l != 0) = false := by simpa using h
    have H := Lib.hid h
    clear h
    go_enter Try.func49, Try.ntmps49
    go_wp2_with (go_at_call 26; refine (rcheck_any _ _ _ _ _ HS.out hn).mono ?_; rintro e w1 ⟨rfl, hb⟩)
    go_ret
    exact ⟨A, n, c, rfl, by rw [HV.out]; exact HS.out.below hb, Nat.le_refl _, hb⟩
  · have HV := Lib.hid (vec_no h)
    have h1 : (chk l != 0) = true := by simpa using h
    have H := Lib.hid h
    clear h
    go_enter Try.func49, Try.ntmps49
    go_wp2_with (go_at_call 26; refine (rcheck_any _ _ _ _ _ HS.out hn).mono ?_; rintro e w1 ⟨rfl, hb⟩)
    go_ret
    exact ⟨none, 0, 0, rfl, by rw [HV.out]; exact Sl.nil _ _, Nat.zero_le _, hb⟩

/-- Covers. -/
def cov (l : List C) (T S R : Int) : Bool := vld T S R && (vec l).any (pCov T S R)
theorem cov_bad {l : List C} {T S R : Int} (h : vld T S R = false) : cov l T S R = false := by simp [cov, h]
theorem cov_good {l : List C} {T S R : Int} (h : vld T S R = true) : cov l T S R = (vec l).any (pCov T S R) := by simp [cov, h]

set_option maxHeartbeats 1000000 in
theorem covers_any (w : World) (A : Option Addr) (n c : Nat) (l : List C) (T S R : Int) (hs : Sl w A n c l) (hn : n ≤ 1000) :
    Calls Try.prog 28 #[.slice A n c, .agg #[.int .i64 T, .int .i64 S, .int .i64 R]] w fun e w' => e = .returned (.bool (cov l T S R)) ∧ Below w.heap.size w w' := by
  have HS := Lib.hid hs
  clear hs
  cases h : vld T S R with
  | false =>
    have HV := Lib.hid (cov_bad (l := l) h)
    go_enter Try.func28, Try.ntmps28
    go_wp2_with (go_at_call 12; refine (valid_any _ _ _ _).mono ?_; rintro e w1 ⟨rfl, hb⟩)
    go_ret
    exact ⟨ret_bool HV.out.symm, ((Below.refl _ _).alloc (Nat.le_refl _) _).trans (hb.mono (by simp))⟩
  | true =>
    have HV := Lib.hid (cov_good (l := l) h)
    go_enter Try.func28, Try.ntmps28
    go_wp2_with (go_at_call 12; refine (valid_any _ _ _ _).mono ?_; rintro e w1 ⟨rfl, hb⟩)
    have hz1 : w.heap.size < w1.heap.size := by have := hb.size; simp at this; omega
    have k1 : ∀ o, w1.cell? ⟨w.heap.size, o, none⟩ = #[Value.int .i64 T, .int .i64 S, .int .i64 R][o]? := fun o => by rw [bkeep hb (by simp)]; simp [go_sem]
    have HB1 := Lib.hid (((Below.refl w.heap.size w).alloc (Nat.le_refl _) (.cells #[.int .i64 T, .int .i64 S, .int .i64 R] 23)).trans (hb.mono (by simp)))
    refine (vector_any _ _ _ _ _ (HS.out.below HB1.out) hn).mono ?_
    rintro e w2 ⟨A1, n1, c1, rfl, hs1, hn1, hb2⟩
    have HK2 := Lib.hid (fun o => (bkeep hb2 hz1 o).trans (k1 o))
    have hz2 := Nat.lt_of_lt_of_le hz1 hb2.size
    have HB2 := Lib.hid (HB1.out.trans (hb2.mono (by omega)))
    have HCF := Lib.hid (containsFunc_any 48 #[.pointer (some ⟨w.heap.size, 0, none⟩)] (pCov T S R) w2 _ _ _ _ hs1 (by omega) enters48 (fun t s r w' hb' => coversFn_any t s r T S R w.heap.size w' (Nat.lt_of_lt_of_le hz2 hb'.size) (by rw [bkeep hb' hz2, HK2.out]; rfl) (by rw [bkeep hb' hz2, HK2.out]; rfl) (by rw [bkeep hb' hz2, HK2.out]; rfl)))
    clear k1 hb hb2 hs1
    go_wp2_with (go_at_call 44; refine HCF.out.mono ?_; rintro e w3 ⟨rfl, hb3⟩)
    go_ret
    exact ⟨ret_bool HV.out.symm, HB2.out.trans (hb3.mono (by omega))⟩

set_option maxHeartbeats 4000000 in
theorem rcovers_any (w : World) (A : Option Addr) (n c : Nat) (l : List C) (T S R : Int) (hs : Sl w A n c l) (hn : n ≤ 1000) :
    Calls Try.prog 29 #[.slice A n c, .agg #[.int .i64 T, .int .i64 S, .int .i64 R]] w fun e w' => e = .returned (.bool (cov l T S R)) ∧ Below w.heap.size w w' := by
  have HS := Lib.hid hs
  clear hs
  cases h : vld T S R with
  | false =>
    have HV := Lib.hid (cov_bad (l := l) h)
    go_enter Try.func29, Try.ntmps29
    go_wp2_with (go_at_call 13; refine (rvalid_any _ _ _ _).mono ?_; rintro e w1 ⟨rfl, hb⟩)
    go_ret
    exact ⟨ret_bool HV.out.symm, ((Below.refl _ _).alloc (Nat.le_refl _) _).trans (hb.mono (by simp))⟩
  | true =>
    have HV := Lib.hid (cov_good (l := l) h)
    have HVT := Lib.hid h
    go_enter Try.func29, Try.ntmps29
    go_wp2_with (go_at_call 13; refine (rvalid_any _ _ _ _).mono ?_; rintro e w1 ⟨rfl, hb⟩)
    have hz1 : w.heap.size < w1.heap.size := by have := hb.size; simp at this; omega
    have k1 : ∀ o, w1.cell? ⟨w.heap.size, o, none⟩ = #[Value.int .i64 T, .int .i64 S, .int .i64 R][o]? := fun o => by rw [bkeep hb (by simp)]; simp [go_sem]
    have HB1 := Lib.hid (((Below.refl w.heap.size w).alloc (Nat.le_refl _) (.cells #[.int .i64 T, .int .i64 S, .int .i64 R] 23)).trans (hb.mono (by simp)))
    refine (rvector_any _ _ _ _ _ (HS.out.below HB1.out) hn).mono ?_
    rintro e w2 ⟨A1, n1, c1, rfl, hs1, hn1, hb2⟩
    have HK2 := Lib.hid (fun o => (bkeep hb2 hz1 o).trans (k1 o))
    have hz2 := Nat.lt_of_lt_of_le hz1 hb2.size
    have HB2 := Lib.hid (HB1.out.trans (hb2.mono (by omega)))
    have HS1 := Lib.hid hs1
    have HL := Lib.hid hs1.1
    clear k1 hb hb2 hs1 h
    go_wp2
    go_loopw [6] (fun i wr => ∃ k : Nat, i = .int .i64 k ∧ k ≤ n1 ∧ Below w2.heap.size w2 wr ∧ Hid (((vec l).take k).any (pCov T S R) = false)) (fun i _ => n1 - (intOf i).toNat)
    case atStart => exact ⟨0, rfl, Nat.zero_le _, Below.refl _ _, rfl⟩
    case round =>
      obtain ⟨k, rfl, hk, hb, hno⟩ := hrel
      have hsz := hb.size
      have HB := Lib.hid (HB2.out.trans (hb.mono (by omega)))
      have hzr : w.heap.size < wr.heap.size := by omega
      have z0 := (bkeep hb hz2 0).trans (HK2.out 0)
      have z1 := (bkeep hb hz2 1).trans (HK2.out 1)
      have z2 := (bkeep hb hz2 2).trans (HK2.out 2)
      simp only [List.getElem?_toArray, List.getElem?_cons_zero, List.getElem?_cons_succ] at z0 z1 z2
      by_cases hlt : k < n1
      · have hslr := HS1.out.below hb
        obtain ⟨b, off, rfl, hbl, hc⟩ := hslr.2.2 (by omega)
        have hnc := hslr.2.1
        obtain ⟨c0, c1', c2⟩ := hc k hlt
        have HTS := Lib.hid (any_take_succ (vec l) (pCov T S R) k (by rw [HL.out]; exact hlt))
        have HTH := Lib.hid (any_take_hit (vec l) (pCov T S R) k n1 hlt (by rw [HL.out]; exact Nat.le_refl _))
        have HTA := Lib.hid (show (vec l).take n1 = vec l from List.take_of_length_le (by rw [HL.out]; exact Nat.le_refl _))
        have HW := Lib.hid hb
        clear hc hslr hb
        by_cases he : cR (vec l) k = R
        · subst he
          have HP := Lib.hid (show pCov T S (cR (vec l) k) (cAt (vec l) k) = decide (0 ≤ cmpC (cT (vec l) k) (cS (vec l) k) (cR (vec l) k) T S (cR (vec l) k)) by rw [cAt_eq]; unfold pCov; simp only [beq_self_eq_true, Bool.true_and])
          go_wp2
          go_region_held3 (fun w' => w'.cell? ⟨b, off + k * 3, none⟩ = some (.int .i64 (cT (vec l) k)) ∧ w'.cell? ⟨b, off + k * 3 + 1, none⟩ = some (.int .i64 (cS (vec l) k)) ∧ w'.cell? ⟨b, off + k * 3 + 2, none⟩ = some (.int .i64 (cR (vec l) k)) ∧ w'.cell? ⟨w.heap.size, 0, none⟩ = some (.int .i64 T) ∧ w'.cell? ⟨w.heap.size, 1, none⟩ = some (.int .i64 S) ∧ w'.cell? ⟨w.heap.size, 2, none⟩ = some (.int .i64 (cR (vec l) k))) (simp [go_sem, *])
            ((go_at_call 14; refine (rcompare_any _ _ _ _ _ _ _).mono ?_; rintro e w3 ⟨rfl, hb3⟩; have q3 := bkeep hb3 hbl; have q4 := bkeep hb3 hzr))
          have HB3 := Lib.hid (HB.out.drew.trans (hb3.mono (Nat.le_of_lt hzr)))
          have HW3 := Lib.hid (HW.out.drew.trans (hb3.mono hsz))
          clear hb3
          by_cases hcm : 0 ≤ cmpC (cT (vec l) k) (cS (vec l) k) (cR (vec l) k) T S (cR (vec l) k)
          · have HF := Lib.hid (show cov l T S (cR (vec l) k) = true by have h0 := HTH.out (by rw [HP.out]; simpa using hcm); rw [HTA.out] at h0; rw [HV.out]; exact h0)
            go_wp2
            go_ret
            exact ⟨ret_bool HF.out.symm, HB3.out⟩
          · have HN := Lib.hid (show ((vec l).take (k + 1)).any (pCov T S (cR (vec l) k)) = false by rw [HTS.out, hno.out, HP.out]; simpa using hcm)
            go_wp2
            go_roundw
            case rel => exact ⟨k + 1, by go_num, by omega, HW3.out, HN.out⟩
            case measure => simp [intOf]; omega
        · have HP := Lib.hid (show pCov T S R (cAt (vec l) k) = false by rw [cAt_eq]; unfold pCov; simp [he])
          have HN := Lib.hid (show ((vec l).take (k + 1)).any (pCov T S R) = false by rw [HTS.out, hno.out, HP.out]; rfl)
          have he2 : (cR (vec l) k == R) = false := by simpa using he
          clear he
          go_wp2
          go_quiet (fail)
          go_wp2
          go_roundw
          case rel => exact ⟨k + 1, by go_num, by omega, below_drewN HW.out _, HN.out⟩
          case measure => simp [intOf]; omega
      · have HF := Lib.hid (show cov l T S R = false by rw [HV.out, ← hno.out, List.take_of_length_le (by rw [HL.out]; omega)])
        clear hb
        go_wp2
        go_ret
        exact ⟨ret_bool HF.out.symm, HB.out⟩

/-- Within. -/
def within (a b : List C) : Bool := (vec a).all (fun x => cov b x.1 x.2.1 x.2.2)
theorem all_take_succ (l : List C) (p : C → Bool) (q : Nat) (hq : q < l.length) : (l.take (q + 1)).all p = ((l.take q).all p && p (cAt l q)) := by
  rw [List.take_succ_eq_append_getElem hq, List.all_append]
  simp [cAt, List.getD, List.getElem?_eq_getElem hq]
theorem all_take_miss (l : List C) (p : C → Bool) (q : Nat) (hq : q < l.length) (h : p (cAt l q) = false) : l.all p = false := by
  rw [List.all_eq_false]
  exact ⟨l[q], List.getElem_mem hq, by simpa [cAt, List.getD, List.getElem?_eq_getElem hq] using h⟩

set_option maxHeartbeats 1000000 in
theorem within_any (w : World) (A A2 : Option Addr) (n c m d : Nat) (a b : List C) (ha : Sl w A n c a) (hb : Sl w A2 m d b) (hn : n ≤ 1000) (hm : m ≤ 1000) :
    Calls Try.prog 34 #[.slice A n c, .slice A2 m d] w fun e w' => e = .returned (.bool (within a b)) ∧ Below w.heap.size w w' := by
  have HA := Lib.hid ha
  have HB := Lib.hid hb
  clear ha hb
  go_enter Try.func34, Try.ntmps34
  go_wp2_with fail
  refine (vector_any _ _ _ _ _ HA.out hn).mono ?_
  rintro e w2 ⟨A1, n1, c1, rfl, hs1, hn1, hb2⟩
  have hz2 := hb2.size
  have HB2 := Lib.hid hb2
  have HS1 := Lib.hid hs1
  have HL := Lib.hid hs1.1
  clear hb2 hs1
  go_wp2
  go_loopw [6, 10] (fun _ i wr => ∃ k : Nat, i = .int .i64 k ∧ k ≤ n1 ∧ Below w2.heap.size w2 wr ∧ Hid (((vec a).take k).all (fun x => cov b x.1 x.2.1 x.2.2) = true)) (fun _ i _ => n1 - (intOf i).toNat)
  case atStart => exact ⟨0, rfl, Nat.zero_le _, Below.refl _ _, rfl⟩
  case round =>
    obtain ⟨k, rfl, hk, hw, hall⟩ := hrel
    have HW := Lib.hid hw
    have hzr := hw.size
    have HBR := Lib.hid (HB2.out.trans (hw.mono hz2))
    by_cases hlt : k < n1
    · have hslr := HS1.out.below hw
      obtain ⟨b0, off, rfl, hbl, hc⟩ := hslr.2.2 (by omega)
      obtain ⟨c0, c1', c2⟩ := hc k hlt
      have hk2 : k < (vec a).length := by rw [HL.out]; exact hlt
      have HTS := Lib.hid (all_take_succ (vec a) (fun x => cov b x.1 x.2.1 x.2.2) k hk2)
      have HTA := Lib.hid (all_take_miss (vec a) (fun x => cov b x.1 x.2.1 x.2.2) k hk2)
      have HSB := Lib.hid (HB.out.below HBR.out)
      clear hc hslr hw hk2
      cases hv : cov b (cT (vec a) k) (cS (vec a) k) (cR (vec a) k) with
      | false =>
        have HF := Lib.hid (show within a b = false from HTA.out hv)
        go_wp2_with (go_at_call 28; refine (covers_any _ _ _ _ _ _ _ _ (HSB.out.below ((Below.refl _ _).alloc (Nat.le_refl _) _)) hm).mono ?_; rintro e w3 ⟨rfl, hb3⟩)
        go_ret
        exact ⟨ret_bool HF.out.symm, (HBR.out.alloc (Nat.le_trans hz2 hzr) _).trans (hb3.mono (by simp; omega))⟩
      | true =>
        have HN := Lib.hid (show ((vec a).take (k + 1)).all (fun x => cov b x.1 x.2.1 x.2.2) = true by rw [HTS.out, hall.out]; exact hv)
        go_wp2_with (go_at_call 28; refine (covers_any _ _ _ _ _ _ _ _ (HSB.out.below ((Below.refl _ _).alloc (Nat.le_refl _) _)) hm).mono ?_; rintro e w3 ⟨rfl, hb3⟩)
        go_roundw
        case rel => exact ⟨k + 1, by go_num, by omega, (HW.out.alloc hzr _).trans (hb3.mono (by simp; omega)), HN.out⟩
        case measure => simp [intOf]; omega
    · have HF := Lib.hid (show within a b = true by have h0 := hall.out; rw [List.take_of_length_le (by rw [HL.out]; omega)] at h0; exact h0)
      clear hw
      go_wp2
      go_ret
      exact ⟨ret_bool HF.out.symm, HBR.out⟩

set_option maxHeartbeats 1000000 in
theorem rwithin_any (w : World) (A A2 : Option Addr) (n c m d : Nat) (a b : List C) (ha : Sl w A n c a) (hb : Sl w A2 m d b) (hn : n ≤ 1000) (hm : m ≤ 1000) :
    Calls Try.prog 35 #[.slice A n c, .slice A2 m d] w fun e w' => e = .returned (.bool (within a b)) ∧ Below w.heap.size w w' := by
  have HA := Lib.hid ha
  have HB := Lib.hid hb
  clear ha hb
  go_enter Try.func35, Try.ntmps35
  go_wp2_with fail
  refine (rvector_any _ _ _ _ _ HA.out hn).mono ?_
  rintro e w2 ⟨A1, n1, c1, rfl, hs1, hn1, hb2⟩
  have hz2 := hb2.size
  have HB2 := Lib.hid hb2
  have HS1 := Lib.hid hs1
  have HL := Lib.hid hs1.1
  clear hb2 hs1
  go_wp2
  go_loopw [6] (fun i wr => ∃ k : Nat, i = .int .i64 k ∧ k ≤ n1 ∧ Below w2.heap.size w2 wr ∧ Hid (((vec a).take k).all (fun x => cov b x.1 x.2.1 x.2.2) = true)) (fun i _ => n1 - (intOf i).toNat)
  case atStart => exact ⟨0, rfl, Nat.zero_le _, Below.refl _ _, rfl⟩
  case round =>
    obtain ⟨k, rfl, hk, hw, hall⟩ := hrel
    have HW := Lib.hid hw
    have hzr := hw.size
    have HBR := Lib.hid (HB2.out.trans (hw.mono hz2))
    by_cases hlt : k < n1
    · have hslr := HS1.out.below hw
      obtain ⟨b0, off, rfl, hbl, hc⟩ := hslr.2.2 (by omega)
      obtain ⟨c0, c1', c2⟩ := hc k hlt
      have hk2 : k < (vec a).length := by rw [HL.out]; exact hlt
      have HTS := Lib.hid (all_take_succ (vec a) (fun x => cov b x.1 x.2.1 x.2.2) k hk2)
      have HTA := Lib.hid (all_take_miss (vec a) (fun x => cov b x.1 x.2.1 x.2.2) k hk2)
      have HSB := Lib.hid (HB.out.below HBR.out)
      clear hc hslr hw hk2
      cases hv : cov b (cT (vec a) k) (cS (vec a) k) (cR (vec a) k) with
      | false =>
        have HF := Lib.hid (show within a b = false from HTA.out hv)
        go_wp2_with (go_at_call 29; refine (rcovers_any _ _ _ _ _ _ _ _ HSB.out hm).mono ?_; rintro e w3 ⟨rfl, hb3⟩)
        go_ret
        exact ⟨ret_bool HF.out.symm, HBR.out.trans (hb3.mono (Nat.le_trans hz2 hzr))⟩
      | true =>
        have HN := Lib.hid (show ((vec a).take (k + 1)).all (fun x => cov b x.1 x.2.1 x.2.2) = true by rw [HTS.out, hall.out]; exact hv)
        go_wp2_with (go_at_call 29; refine (rcovers_any _ _ _ _ _ _ _ _ HSB.out hm).mono ?_; rintro e w3 ⟨rfl, hb3⟩)
        go_roundw
        case rel => exact ⟨k + 1, by go_num, by omega, HW.out.trans (hb3.mono hzr), HN.out⟩
        case measure => simp [intOf]; omega
    · have HF := Lib.hid (show within a b = true by have h0 := hall.out; rw [List.take_of_length_le (by rw [HL.out]; omega)] at h0; exact h0)
      clear hw
      go_wp2
      go_ret
      exact ⟨ret_bool HF.out.symm, HBR.out⟩

theorem ext_cAt {a b : List C} (h : a.length = b.length) (he : ∀ j, j < a.length → cAt a j = cAt b j) : a = b := by
  apply List.ext_getElem h
  intro i h1 h2
  have := he i h1
  simpa [cAt, List.getD, List.getElem?_eq_getElem h1, List.getElem?_eq_getElem h2] using this

set_option maxHeartbeats 1000000 in
theorem same_any (w : World) (A A2 : Option Addr) (n c m d : Nat) (a b : List C) (ha : Sl w A n c a) (hb : Sl w A2 m d b) (hn : n ≤ 1000) :
    Calls Try.prog 30 #[.slice A n c, .slice A2 m d] w fun e w' => e = .returned (.bool (decide (a = b))) ∧ Below w.heap.size w w' := by
  have HA := Lib.hid ha
  have HB := Lib.hid hb
  have HLA := Lib.hid ha.1
  have HLB := Lib.hid hb.1
  clear ha hb
  by_cases hnm : n = m
  · subst hnm
    go_enter Try.func30, Try.ntmps30
    go_wp2
    go_loopw [5] (fun i wr => ∃ k : Nat, i = .int .i64 k ∧ k ≤ n ∧ (∃ nd, wr = w.drewN nd) ∧ Hid (∀ j, j < k → cAt a j = cAt b j)) (fun i _ => n - (intOf i).toNat)
    case atStart => exact ⟨0, rfl, Nat.zero_le _, ⟨0, rfl⟩, fun j hj => absurd hj (by omega)⟩
    case round =>
      obtain ⟨k, rfl, hk, ⟨nd, rfl⟩, hall⟩ := hrel
      by_cases hlt : k < n
      · obtain ⟨b0, off, rfl, hbl, hc⟩ := HA.out.2.2 (by omega)
        obtain ⟨b1, off1, rfl, hbl1, hc1⟩ := HB.out.2.2 (by omega)
        obtain ⟨p0, p1, p2⟩ := hc k hlt
        obtain ⟨q0, q1, q2⟩ := hc1 k hlt
        clear hc hc1
        by_cases he : cAt a k = cAt b k
        · have he2 := he
          rw [cAt_eq, cAt_eq] at he2
          simp only [Prod.mk.injEq] at he2
          obtain ⟨e0, e1, e2⟩ := he2
          rw [← e0] at q0
          rw [← e1] at q1
          rw [← e2] at q2
          have HN := Lib.hid (show ∀ j, j < k + 1 → cAt a j = cAt b j from fun j hj => if h : j = k then h ▸ he else hall.out j (by omega))
          clear e0 e1 e2 he
          go_wp2
          go_quiet (fail)
          go_wp2
          go_roundw
          case rel => exact ⟨k + 1, by go_num, by omega, ⟨_, rfl⟩, HN.out⟩
          case measure => simp [intOf]; omega
        · have HF := Lib.hid (show decide (a = b) = false by simp; intro h; exact he (by rw [h]))
          have hne : ¬ (cT a k = cT b k ∧ cS a k = cS b k ∧ cR a k = cR b k) := fun ⟨x, y, z⟩ => he (by rw [cAt_eq, cAt_eq, x, y, z])
          clear he
          by_cases e0 : cT a k = cT b k
          · rw [← e0] at q0
            by_cases e1 : cS a k = cS b k
            · rw [← e1] at q1
              have e2 : ¬ cR a k = cR b k := fun e2 => hne ⟨e0, e1, e2⟩
              clear hne e0 e1
              go_wp2
              go_quiet (fail)
              go_wp2
              go_ret
              exact ⟨ret_bool HF.out.symm, below_drewN (below_drewN (Below.refl _ _) _) _⟩
            · clear hne e0
              go_wp2
              go_quiet (fail)
              go_wp2
              go_ret
              exact ⟨ret_bool HF.out.symm, below_drewN (below_drewN (Below.refl _ _) _) _⟩
          · clear hne
            go_wp2
            go_quiet (fail)
            go_wp2
            go_ret
            exact ⟨ret_bool HF.out.symm, below_drewN (below_drewN (Below.refl _ _) _) _⟩
      · have HF := Lib.hid (show decide (a = b) = true by simp; exact ext_cAt (by rw [HLA.out, HLB.out]) fun j hj => hall.out j (by rw [HLA.out] at hj; omega))
        go_wp2
        go_ret
        exact ⟨ret_bool HF.out.symm, below_drewN (Below.refl _ _) _⟩
  · have HF := Lib.hid (show decide (a = b) = false by simp; intro h; exact hnm (by rw [← HLA.out, ← HLB.out, h]))
    go_enter Try.func30, Try.ntmps30
    go_wp2
    go_ret
    exact ⟨ret_bool HF.out.symm, Below.refl _ _⟩
end Go.Proofs.Yteidbomkbddliaa.Csn
