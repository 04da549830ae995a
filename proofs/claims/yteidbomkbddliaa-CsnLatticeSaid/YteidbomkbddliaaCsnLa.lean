/-
  The walk of the law CsnLattice, live taken as a hypothesis.
-/
import Derived.Test.YteidbomkbddliaaCsnJn
namespace Go.Proofs.Yteidbomkbddliaa.Csn
open Go.RowKit

set_option maxRecDepth 100000 in
set_option maxHeartbeats 4000000 in
theorem lattice_few (hlive0 : LiveOk) (w : World) (A B D : Option Addr) (n c m d k f : Nat) (h : ¬ (n ≤ 12 ∧ m ≤ 12 ∧ k ≤ 12)) :
    Calls Try.prog 10 #[.slice A n c, .slice B m d, .slice D k f] w fun e w' => e = .returned (.bool true) ∧ Below w.heap.size w w' := by
  have hlive := Lib.hid hlive0
  have HW := Lib.hid (Below.refl w.heap.size w)
  clear hlive0
  by_cases hn : n ≤ 12
  · have hd1 : decide (n ≤ 12) = true := by simpa using hn
    by_cases hm : m ≤ 12
    · have hd2 : decide (m ≤ 12) = true := by simpa using hm
      have hd3 : decide (k ≤ 12) = false := decide_eq_false (fun hk => h ⟨hn, hm, hk⟩)
      clear h hn hm
      go_enter Try.func10, Try.ntmps10
      go_wp2_with (go_at_call 24; refine (few_any _ _ _ _).mono ?_; rintro e w1 ⟨rfl, rfl⟩)
      refine (hlive.out _).mono ?_
      rintro e w99 ⟨rfl, hb⟩
      replace HW := Lib.hid (ext_call HW.out hb)
      clear hb
      go_wp2
      go_ret
      exact ⟨rfl, HW.out⟩
    · have hd2 : decide (m ≤ 12) = false := by simpa using hm
      clear h hn hm
      go_enter Try.func10, Try.ntmps10
      go_wp2_with (go_at_call 24; refine (few_any _ _ _ _).mono ?_; rintro e w1 ⟨rfl, rfl⟩)
      refine (hlive.out _).mono ?_
      rintro e w99 ⟨rfl, hb⟩
      replace HW := Lib.hid (ext_call HW.out hb)
      clear hb
      go_wp2
      go_ret
      exact ⟨rfl, HW.out⟩
  · have hd1 : decide (n ≤ 12) = false := by simpa using hn
    clear h hn
    go_enter Try.func10, Try.ntmps10
    go_wp2_with (go_at_call 24; refine (few_any _ _ _ _).mono ?_; rintro e w1 ⟨rfl, rfl⟩)
    refine (hlive.out _).mono ?_
    rintro e w99 ⟨rfl, hb⟩
    replace HW := Lib.hid (ext_call HW.out hb)
    clear hb
    go_wp2
    go_ret
    exact ⟨rfl, HW.out⟩
set_option maxRecDepth 100000 in
set_option maxHeartbeats 8000000 in
theorem lattice_c1 (hlive0 : LiveOk) (w : World) (A B D : Option Addr) (n c m d k f : Nat) (a b z : List C) (ha : Sl w A n c a) (hb : Sl w B m d b) (hc : Sl w D k f z) (hn : n ≤ 12) (hm : m ≤ 12) (hk : k ≤ 12) (hz : ¬ chk a = 0) :
    Calls Try.prog 10 #[.slice A n c, .slice B m d, .slice D k f] w fun e w' => e = .returned (.bool true) ∧ Below w.heap.size w w' := by
  have hlive := Lib.hid hlive0
  have HW := Lib.hid (Below.refl w.heap.size w)
  have SA := Lib.hid ha
  have SB := Lib.hid hb
  have SC := Lib.hid hc
  have hd1 : decide (n ≤ 12) = true := by simpa using hn
  have hd2 : decide (m ≤ 12) = true := by simpa using hm
  have hd3 : decide (k ≤ 12) = true := by simpa using hk
  clear hlive0 ha hb hc
  go_enter Try.func10, Try.ntmps10
  go_wp2_with (go_at_call 24; refine (few_any _ _ _ _).mono ?_; rintro e w1 ⟨rfl, rfl⟩)
  refine (check_any _ _ _ _ _ SA.out (by omega)).mono ?_
  rintro e w1 ⟨rfl, hb⟩
  replace SA := Lib.hid (SA.out.below hb)
  replace SB := Lib.hid (SB.out.below hb)
  replace SC := Lib.hid (SC.out.below hb)
  replace HW := Lib.hid (ext_call HW.out hb)
  clear hb hd1 hd2 hd3
  go_wp2_with fail
  refine (hlive.out _).mono ?_
  rintro e w99 ⟨rfl, hb⟩
  replace HW := Lib.hid (ext_call HW.out hb)
  clear hb
  go_wp2
  go_ret
  exact ⟨rfl, HW.out⟩
set_option maxRecDepth 100000 in
set_option maxHeartbeats 8000000 in
theorem lattice_c2 (hlive0 : LiveOk) (w : World) (A B D : Option Addr) (n c m d k f : Nat) (a b z : List C) (ha : Sl w A n c a) (hb : Sl w B m d b) (hc : Sl w D k f z) (hn : n ≤ 12) (hm : m ≤ 12) (hk : k ≤ 12) (h1 : chk a = 0) (hz : ¬ chk b = 0) :
    Calls Try.prog 10 #[.slice A n c, .slice B m d, .slice D k f] w fun e w' => e = .returned (.bool true) ∧ Below w.heap.size w w' := by
  have hlive := Lib.hid hlive0
  have HW := Lib.hid (Below.refl w.heap.size w)
  have SA := Lib.hid ha
  have SB := Lib.hid hb
  have SC := Lib.hid hc
  have hd1 : decide (n ≤ 12) = true := by simpa using hn
  have hd2 : decide (m ≤ 12) = true := by simpa using hm
  have hd3 : decide (k ≤ 12) = true := by simpa using hk
  clear hlive0 ha hb hc
  go_enter Try.func10, Try.ntmps10
  go_wp2_with (go_at_call 24; refine (few_any _ _ _ _).mono ?_; rintro e w1 ⟨rfl, rfl⟩)
  refine (check_zero _ _ _ _ _ SA.out (by omega) h1).mono ?_
  rintro e w1 ⟨rfl, hb⟩
  replace SA := Lib.hid (SA.out.below hb)
  replace SB := Lib.hid (SB.out.below hb)
  replace SC := Lib.hid (SC.out.below hb)
  replace HW := Lib.hid (ext_call HW.out hb)
  clear hb hd1 hd2 hd3
  go_wp2_with fail
  refine (check_any _ _ _ _ _ SB.out (by omega)).mono ?_
  rintro e w2 ⟨rfl, hb⟩
  replace SA := Lib.hid (SA.out.below hb)
  replace SB := Lib.hid (SB.out.below hb)
  replace SC := Lib.hid (SC.out.below hb)
  replace HW := Lib.hid (ext_call HW.out hb)
  clear hb
  go_wp2_with fail
  refine (hlive.out _).mono ?_
  rintro e w99 ⟨rfl, hb⟩
  replace HW := Lib.hid (ext_call HW.out hb)
  clear hb
  go_wp2
  go_ret
  exact ⟨rfl, HW.out⟩
set_option maxRecDepth 100000 in
set_option maxHeartbeats 8000000 in
theorem lattice_c3 (hlive0 : LiveOk) (w : World) (A B D : Option Addr) (n c m d k f : Nat) (a b z : List C) (ha : Sl w A n c a) (hb : Sl w B m d b) (hc : Sl w D k f z) (hn : n ≤ 12) (hm : m ≤ 12) (hk : k ≤ 12) (h1 : chk a = 0) (h2 : chk b = 0) (hz : ¬ chk z = 0) :
    Calls Try.prog 10 #[.slice A n c, .slice B m d, .slice D k f] w fun e w' => e = .returned (.bool true) ∧ Below w.heap.size w w' := by
  have hlive := Lib.hid hlive0
  have HW := Lib.hid (Below.refl w.heap.size w)
  have SA := Lib.hid ha
  have SB := Lib.hid hb
  have SC := Lib.hid hc
  have hd1 : decide (n ≤ 12) = true := by simpa using hn
  have hd2 : decide (m ≤ 12) = true := by simpa using hm
  have hd3 : decide (k ≤ 12) = true := by simpa using hk
  clear hlive0 ha hb hc
  go_enter Try.func10, Try.ntmps10
  go_wp2_with (go_at_call 24; refine (few_any _ _ _ _).mono ?_; rintro e w1 ⟨rfl, rfl⟩)
  refine (check_zero _ _ _ _ _ SA.out (by omega) h1).mono ?_
  rintro e w1 ⟨rfl, hb⟩
  replace SA := Lib.hid (SA.out.below hb)
  replace SB := Lib.hid (SB.out.below hb)
  replace SC := Lib.hid (SC.out.below hb)
  replace HW := Lib.hid (ext_call HW.out hb)
  clear hb hd1 hd2 hd3
  go_wp2_with fail
  refine (check_zero _ _ _ _ _ SB.out (by omega) h2).mono ?_
  rintro e w2 ⟨rfl, hb⟩
  replace SA := Lib.hid (SA.out.below hb)
  replace SB := Lib.hid (SB.out.below hb)
  replace SC := Lib.hid (SC.out.below hb)
  replace HW := Lib.hid (ext_call HW.out hb)
  clear hb
  go_wp2_with fail
  refine (check_any _ _ _ _ _ SC.out (by omega)).mono ?_
  rintro e w3 ⟨rfl, hb⟩
  replace SA := Lib.hid (SA.out.below hb)
  replace SB := Lib.hid (SB.out.below hb)
  replace SC := Lib.hid (SC.out.below hb)
  replace HW := Lib.hid (ext_call HW.out hb)
  clear hb
  go_wp2_with fail
  refine (hlive.out _).mono ?_
  rintro e w99 ⟨rfl, hb⟩
  replace HW := Lib.hid (ext_call HW.out hb)
  clear hb
  go_wp2
  go_ret
  exact ⟨rfl, HW.out⟩
set_option maxRecDepth 100000 in
set_option maxHeartbeats 8000000 in
theorem lattice_m0 (hlive0 : LiveOk) (w : World) (A B D : Option Addr) (n c m d k f : Nat) (a b z : List C) (ha : Sl w A n c a) (hb : Sl w B m d b) (hc : Sl w D k f z) (hn : n ≤ 12) (hm : m ≤ 12) (hk : k ≤ 12) (h1 : chk a = 0) (h2 : chk b = 0) (h3 : chk z = 0) (hx : within a z = false) (hp : within a b = false) :
    Calls Try.prog 10 #[.slice A n c, .slice B m d, .slice D k f] w fun e w' => e = .returned (.bool true) ∧ Below w.heap.size w w' := by
  have hlive := Lib.hid hlive0
  have HW := Lib.hid (Below.refl w.heap.size w)
  have SA := Lib.hid ha
  have SB := Lib.hid hb
  have SC := Lib.hid hc
  have hd1 : decide (n ≤ 12) = true := by simpa using hn
  have hd2 : decide (m ≤ 12) = true := by simpa using hm
  have hd3 : decide (k ≤ 12) = true := by simpa using hk
  clear hlive0 ha hb hc
  go_enter Try.func10, Try.ntmps10
  go_wp2_with (go_at_call 24; refine (few_any _ _ _ _).mono ?_; rintro e w1 ⟨rfl, rfl⟩)
  refine (check_zero _ _ _ _ _ SA.out (by omega) h1).mono ?_
  rintro e w1 ⟨rfl, hb⟩
  replace SA := Lib.hid (SA.out.below hb)
  replace SB := Lib.hid (SB.out.below hb)
  replace SC := Lib.hid (SC.out.below hb)
  replace HW := Lib.hid (ext_call HW.out hb)
  clear hb hd1 hd2 hd3
  go_wp2_with fail
  refine (check_zero _ _ _ _ _ SB.out (by omega) h2).mono ?_
  rintro e w2 ⟨rfl, hb⟩
  replace SA := Lib.hid (SA.out.below hb)
  replace SB := Lib.hid (SB.out.below hb)
  replace SC := Lib.hid (SC.out.below hb)
  replace HW := Lib.hid (ext_call HW.out hb)
  clear hb
  go_wp2_with fail
  refine (check_zero _ _ _ _ _ SC.out (by omega) h3).mono ?_
  rintro e w3 ⟨rfl, hb⟩
  replace SA := Lib.hid (SA.out.below hb)
  replace SB := Lib.hid (SB.out.below hb)
  replace SC := Lib.hid (SC.out.below hb)
  replace HW := Lib.hid (ext_call HW.out hb)
  clear hb
  go_wp2_with fail
  refine (join_any _ _ _ _ _ _ _ _ _ SA.out SB.out (by omega) (by omega)).mono ?_
  rintro e w4 ⟨A4, n4, c4, rfl, hj, hn4, hb⟩
  replace SA := Lib.hid (SA.out.below hb)
  replace SB := Lib.hid (SB.out.below hb)
  replace SC := Lib.hid (SC.out.below hb)
  replace HW := Lib.hid (ext_call HW.out hb)
  have SJ := Lib.hid hj
  clear hj
  clear hb
  go_wp2_with fail
  refine (within_is _ _ _ _ _ _ _ _ _ _ SA.out SA.out (by omega) (by omega) (within_refl _)).mono ?_
  rintro e w5 ⟨rfl, hb⟩
  replace SA := Lib.hid (SA.out.below hb)
  replace SB := Lib.hid (SB.out.below hb)
  replace SC := Lib.hid (SC.out.below hb)
  replace SJ := Lib.hid (SJ.out.below hb)
  replace HW := Lib.hid (ext_call HW.out hb)
  clear hb
  go_wp2_with fail
  refine (within_is _ _ _ _ _ _ _ _ _ _ SA.out SJ.out (by omega) (by omega) (within_left _ _)).mono ?_
  rintro e w6 ⟨rfl, hb⟩
  replace SA := Lib.hid (SA.out.below hb)
  replace SB := Lib.hid (SB.out.below hb)
  replace SC := Lib.hid (SC.out.below hb)
  replace SJ := Lib.hid (SJ.out.below hb)
  replace HW := Lib.hid (ext_call HW.out hb)
  clear hb
  go_wp2_with fail
  refine (within_is _ _ _ _ _ _ _ _ _ _ SB.out SJ.out (by omega) (by omega) (within_right _ _)).mono ?_
  rintro e w7 ⟨rfl, hb⟩
  replace SA := Lib.hid (SA.out.below hb)
  replace SB := Lib.hid (SB.out.below hb)
  replace SC := Lib.hid (SC.out.below hb)
  replace SJ := Lib.hid (SJ.out.below hb)
  replace HW := Lib.hid (ext_call HW.out hb)
  clear hb
  go_wp2_with fail
  refine (within_is _ _ _ _ _ _ _ _ _ _ SA.out SC.out (by omega) (by omega) hx).mono ?_
  rintro e w8 ⟨rfl, hb⟩
  replace SA := Lib.hid (SA.out.below hb)
  replace SB := Lib.hid (SB.out.below hb)
  replace SC := Lib.hid (SC.out.below hb)
  replace SJ := Lib.hid (SJ.out.below hb)
  replace HW := Lib.hid (ext_call HW.out hb)
  clear hb
  go_wp2_with fail
  refine (within_is _ _ _ _ _ _ _ _ _ _ SA.out SB.out (by omega) (by omega) hp).mono ?_
  rintro e w9 ⟨rfl, hb⟩
  replace SA := Lib.hid (SA.out.below hb)
  replace SB := Lib.hid (SB.out.below hb)
  replace SC := Lib.hid (SC.out.below hb)
  replace SJ := Lib.hid (SJ.out.below hb)
  replace HW := Lib.hid (ext_call HW.out hb)
  clear hb
  go_wp2_with fail
  refine (within_is _ _ _ _ _ _ _ _ _ _ SA.out SB.out (by omega) (by omega) hp).mono ?_
  rintro e w10 ⟨rfl, hb⟩
  replace SA := Lib.hid (SA.out.below hb)
  replace SB := Lib.hid (SB.out.below hb)
  replace SC := Lib.hid (SC.out.below hb)
  replace SJ := Lib.hid (SJ.out.below hb)
  replace HW := Lib.hid (ext_call HW.out hb)
  clear hb
  go_wp2_with fail
  refine (hlive.out _).mono ?_
  rintro e w99 ⟨rfl, hb⟩
  replace HW := Lib.hid (ext_call HW.out hb)
  clear hb
  go_wp2
  go_ret
  exact ⟨rfl, HW.out⟩
set_option maxRecDepth 100000 in
set_option maxHeartbeats 8000000 in
theorem lattice_m1 (hlive0 : LiveOk) (w : World) (A B D : Option Addr) (n c m d k f : Nat) (a b z : List C) (ha : Sl w A n c a) (hb : Sl w B m d b) (hc : Sl w D k f z) (hn : n ≤ 12) (hm : m ≤ 12) (hk : k ≤ 12) (h1 : chk a = 0) (h2 : chk b = 0) (h3 : chk z = 0) (hx : within a z = false) (hy : within b z = false) (hp : within a b = true) (hq : within b a = false) :
    Calls Try.prog 10 #[.slice A n c, .slice B m d, .slice D k f] w fun e w' => e = .returned (.bool true) ∧ Below w.heap.size w w' := by
  have hlive := Lib.hid hlive0
  have HW := Lib.hid (Below.refl w.heap.size w)
  have SA := Lib.hid ha
  have SB := Lib.hid hb
  have SC := Lib.hid hc
  have hd1 : decide (n ≤ 12) = true := by simpa using hn
  have hd2 : decide (m ≤ 12) = true := by simpa using hm
  have hd3 : decide (k ≤ 12) = true := by simpa using hk
  clear hlive0 ha hb hc
  go_enter Try.func10, Try.ntmps10
  go_wp2_with (go_at_call 24; refine (few_any _ _ _ _).mono ?_; rintro e w1 ⟨rfl, rfl⟩)
  refine (check_zero _ _ _ _ _ SA.out (by omega) h1).mono ?_
  rintro e w1 ⟨rfl, hb⟩
  replace SA := Lib.hid (SA.out.below hb)
  replace SB := Lib.hid (SB.out.below hb)
  replace SC := Lib.hid (SC.out.below hb)
  replace HW := Lib.hid (ext_call HW.out hb)
  clear hb hd1 hd2 hd3
  go_wp2_with fail
  refine (check_zero _ _ _ _ _ SB.out (by omega) h2).mono ?_
  rintro e w2 ⟨rfl, hb⟩
  replace SA := Lib.hid (SA.out.below hb)
  replace SB := Lib.hid (SB.out.below hb)
  replace SC := Lib.hid (SC.out.below hb)
  replace HW := Lib.hid (ext_call HW.out hb)
  clear hb
  go_wp2_with fail
  refine (check_zero _ _ _ _ _ SC.out (by omega) h3).mono ?_
  rintro e w3 ⟨rfl, hb⟩
  replace SA := Lib.hid (SA.out.below hb)
  replace SB := Lib.hid (SB.out.below hb)
  replace SC := Lib.hid (SC.out.below hb)
  replace HW := Lib.hid (ext_call HW.out hb)
  clear hb
  go_wp2_with fail
  refine (join_any _ _ _ _ _ _ _ _ _ SA.out SB.out (by omega) (by omega)).mono ?_
  rintro e w4 ⟨A4, n4, c4, rfl, hj, hn4, hb⟩
  replace SA := Lib.hid (SA.out.below hb)
  replace SB := Lib.hid (SB.out.below hb)
  replace SC := Lib.hid (SC.out.below hb)
  replace HW := Lib.hid (ext_call HW.out hb)
  have SJ := Lib.hid hj
  clear hj
  clear hb
  go_wp2_with fail
  refine (within_is _ _ _ _ _ _ _ _ _ _ SA.out SA.out (by omega) (by omega) (within_refl _)).mono ?_
  rintro e w5 ⟨rfl, hb⟩
  replace SA := Lib.hid (SA.out.below hb)
  replace SB := Lib.hid (SB.out.below hb)
  replace SC := Lib.hid (SC.out.below hb)
  replace SJ := Lib.hid (SJ.out.below hb)
  replace HW := Lib.hid (ext_call HW.out hb)
  clear hb
  go_wp2_with fail
  refine (within_is _ _ _ _ _ _ _ _ _ _ SA.out SJ.out (by omega) (by omega) (within_left _ _)).mono ?_
  rintro e w6 ⟨rfl, hb⟩
  replace SA := Lib.hid (SA.out.below hb)
  replace SB := Lib.hid (SB.out.below hb)
  replace SC := Lib.hid (SC.out.below hb)
  replace SJ := Lib.hid (SJ.out.below hb)
  replace HW := Lib.hid (ext_call HW.out hb)
  clear hb
  go_wp2_with fail
  refine (within_is _ _ _ _ _ _ _ _ _ _ SB.out SJ.out (by omega) (by omega) (within_right _ _)).mono ?_
  rintro e w7 ⟨rfl, hb⟩
  replace SA := Lib.hid (SA.out.below hb)
  replace SB := Lib.hid (SB.out.below hb)
  replace SC := Lib.hid (SC.out.below hb)
  replace SJ := Lib.hid (SJ.out.below hb)
  replace HW := Lib.hid (ext_call HW.out hb)
  clear hb
  go_wp2_with fail
  refine (within_is _ _ _ _ _ _ _ _ _ _ SA.out SC.out (by omega) (by omega) hx).mono ?_
  rintro e w8 ⟨rfl, hb⟩
  replace SA := Lib.hid (SA.out.below hb)
  replace SB := Lib.hid (SB.out.below hb)
  replace SC := Lib.hid (SC.out.below hb)
  replace SJ := Lib.hid (SJ.out.below hb)
  replace HW := Lib.hid (ext_call HW.out hb)
  clear hb
  go_wp2_with fail
  refine (within_is _ _ _ _ _ _ _ _ _ _ SA.out SB.out (by omega) (by omega) hp).mono ?_
  rintro e w9 ⟨rfl, hb⟩
  replace SA := Lib.hid (SA.out.below hb)
  replace SB := Lib.hid (SB.out.below hb)
  replace SC := Lib.hid (SC.out.below hb)
  replace SJ := Lib.hid (SJ.out.below hb)
  replace HW := Lib.hid (ext_call HW.out hb)
  clear hb
  go_wp2_with fail
  refine (within_is _ _ _ _ _ _ _ _ _ _ SB.out SC.out (by omega) (by omega) hy).mono ?_
  rintro e w10 ⟨rfl, hb⟩
  replace SA := Lib.hid (SA.out.below hb)
  replace SB := Lib.hid (SB.out.below hb)
  replace SC := Lib.hid (SC.out.below hb)
  replace SJ := Lib.hid (SJ.out.below hb)
  replace HW := Lib.hid (ext_call HW.out hb)
  clear hb
  go_wp2_with fail
  refine (within_is _ _ _ _ _ _ _ _ _ _ SA.out SB.out (by omega) (by omega) hp).mono ?_
  rintro e w11 ⟨rfl, hb⟩
  replace SA := Lib.hid (SA.out.below hb)
  replace SB := Lib.hid (SB.out.below hb)
  replace SC := Lib.hid (SC.out.below hb)
  replace SJ := Lib.hid (SJ.out.below hb)
  replace HW := Lib.hid (ext_call HW.out hb)
  clear hb
  go_wp2_with fail
  refine (within_is _ _ _ _ _ _ _ _ _ _ SB.out SA.out (by omega) (by omega) hq).mono ?_
  rintro e w12 ⟨rfl, hb⟩
  replace SA := Lib.hid (SA.out.below hb)
  replace SB := Lib.hid (SB.out.below hb)
  replace SC := Lib.hid (SC.out.below hb)
  replace SJ := Lib.hid (SJ.out.below hb)
  replace HW := Lib.hid (ext_call HW.out hb)
  clear hb
  go_wp2_with fail
  refine (hlive.out _).mono ?_
  rintro e w99 ⟨rfl, hb⟩
  replace HW := Lib.hid (ext_call HW.out hb)
  clear hb
  go_wp2
  go_ret
  exact ⟨rfl, HW.out⟩
set_option maxRecDepth 100000 in
set_option maxHeartbeats 8000000 in
theorem lattice_m2 (hlive0 : LiveOk) (w : World) (A B D : Option Addr) (n c m d k f : Nat) (a b z : List C) (ha : Sl w A n c a) (hb : Sl w B m d b) (hc : Sl w D k f z) (hn : n ≤ 12) (hm : m ≤ 12) (hk : k ≤ 12) (h1 : chk a = 0) (h2 : chk b = 0) (h3 : chk z = 0) (hx : within a z = false) (hy : within b z = false) (hp : within a b = true) (hq : within b a = true) :
    Calls Try.prog 10 #[.slice A n c, .slice B m d, .slice D k f] w fun e w' => e = .returned (.bool true) ∧ Below w.heap.size w w' := by
  have hlive := Lib.hid hlive0
  have HW := Lib.hid (Below.refl w.heap.size w)
  have SA := Lib.hid ha
  have SB := Lib.hid hb
  have SC := Lib.hid hc
  have hd1 : decide (n ≤ 12) = true := by simpa using hn
  have hd2 : decide (m ≤ 12) = true := by simpa using hm
  have hd3 : decide (k ≤ 12) = true := by simpa using hk
  clear hlive0 ha hb hc
  go_enter Try.func10, Try.ntmps10
  go_wp2_with (go_at_call 24; refine (few_any _ _ _ _).mono ?_; rintro e w1 ⟨rfl, rfl⟩)
  refine (check_zero _ _ _ _ _ SA.out (by omega) h1).mono ?_
  rintro e w1 ⟨rfl, hb⟩
  replace SA := Lib.hid (SA.out.below hb)
  replace SB := Lib.hid (SB.out.below hb)
  replace SC := Lib.hid (SC.out.below hb)
  replace HW := Lib.hid (ext_call HW.out hb)
  clear hb hd1 hd2 hd3
  go_wp2_with fail
  refine (check_zero _ _ _ _ _ SB.out (by omega) h2).mono ?_
  rintro e w2 ⟨rfl, hb⟩
  replace SA := Lib.hid (SA.out.below hb)
  replace SB := Lib.hid (SB.out.below hb)
  replace SC := Lib.hid (SC.out.below hb)
  replace HW := Lib.hid (ext_call HW.out hb)
  clear hb
  go_wp2_with fail
  refine (check_zero _ _ _ _ _ SC.out (by omega) h3).mono ?_
  rintro e w3 ⟨rfl, hb⟩
  replace SA := Lib.hid (SA.out.below hb)
  replace SB := Lib.hid (SB.out.below hb)
  replace SC := Lib.hid (SC.out.below hb)
  replace HW := Lib.hid (ext_call HW.out hb)
  clear hb
  go_wp2_with fail
  refine (join_any _ _ _ _ _ _ _ _ _ SA.out SB.out (by omega) (by omega)).mono ?_
  rintro e w4 ⟨A4, n4, c4, rfl, hj, hn4, hb⟩
  replace SA := Lib.hid (SA.out.below hb)
  replace SB := Lib.hid (SB.out.below hb)
  replace SC := Lib.hid (SC.out.below hb)
  replace HW := Lib.hid (ext_call HW.out hb)
  have SJ := Lib.hid hj
  clear hj
  clear hb
  go_wp2_with fail
  refine (within_is _ _ _ _ _ _ _ _ _ _ SA.out SA.out (by omega) (by omega) (within_refl _)).mono ?_
  rintro e w5 ⟨rfl, hb⟩
  replace SA := Lib.hid (SA.out.below hb)
  replace SB := Lib.hid (SB.out.below hb)
  replace SC := Lib.hid (SC.out.below hb)
  replace SJ := Lib.hid (SJ.out.below hb)
  replace HW := Lib.hid (ext_call HW.out hb)
  clear hb
  go_wp2_with fail
  refine (within_is _ _ _ _ _ _ _ _ _ _ SA.out SJ.out (by omega) (by omega) (within_left _ _)).mono ?_
  rintro e w6 ⟨rfl, hb⟩
  replace SA := Lib.hid (SA.out.below hb)
  replace SB := Lib.hid (SB.out.below hb)
  replace SC := Lib.hid (SC.out.below hb)
  replace SJ := Lib.hid (SJ.out.below hb)
  replace HW := Lib.hid (ext_call HW.out hb)
  clear hb
  go_wp2_with fail
  refine (within_is _ _ _ _ _ _ _ _ _ _ SB.out SJ.out (by omega) (by omega) (within_right _ _)).mono ?_
  rintro e w7 ⟨rfl, hb⟩
  replace SA := Lib.hid (SA.out.below hb)
  replace SB := Lib.hid (SB.out.below hb)
  replace SC := Lib.hid (SC.out.below hb)
  replace SJ := Lib.hid (SJ.out.below hb)
  replace HW := Lib.hid (ext_call HW.out hb)
  clear hb
  go_wp2_with fail
  refine (within_is _ _ _ _ _ _ _ _ _ _ SA.out SC.out (by omega) (by omega) hx).mono ?_
  rintro e w8 ⟨rfl, hb⟩
  replace SA := Lib.hid (SA.out.below hb)
  replace SB := Lib.hid (SB.out.below hb)
  replace SC := Lib.hid (SC.out.below hb)
  replace SJ := Lib.hid (SJ.out.below hb)
  replace HW := Lib.hid (ext_call HW.out hb)
  clear hb
  go_wp2_with fail
  refine (within_is _ _ _ _ _ _ _ _ _ _ SA.out SB.out (by omega) (by omega) hp).mono ?_
  rintro e w9 ⟨rfl, hb⟩
  replace SA := Lib.hid (SA.out.below hb)
  replace SB := Lib.hid (SB.out.below hb)
  replace SC := Lib.hid (SC.out.below hb)
  replace SJ := Lib.hid (SJ.out.below hb)
  replace HW := Lib.hid (ext_call HW.out hb)
  clear hb
  go_wp2_with fail
  refine (within_is _ _ _ _ _ _ _ _ _ _ SB.out SC.out (by omega) (by omega) hy).mono ?_
  rintro e w10 ⟨rfl, hb⟩
  replace SA := Lib.hid (SA.out.below hb)
  replace SB := Lib.hid (SB.out.below hb)
  replace SC := Lib.hid (SC.out.below hb)
  replace SJ := Lib.hid (SJ.out.below hb)
  replace HW := Lib.hid (ext_call HW.out hb)
  clear hb
  go_wp2_with fail
  refine (within_is _ _ _ _ _ _ _ _ _ _ SA.out SB.out (by omega) (by omega) hp).mono ?_
  rintro e w11 ⟨rfl, hb⟩
  replace SA := Lib.hid (SA.out.below hb)
  replace SB := Lib.hid (SB.out.below hb)
  replace SC := Lib.hid (SC.out.below hb)
  replace SJ := Lib.hid (SJ.out.below hb)
  replace HW := Lib.hid (ext_call HW.out hb)
  clear hb
  go_wp2_with fail
  refine (within_is _ _ _ _ _ _ _ _ _ _ SB.out SA.out (by omega) (by omega) hq).mono ?_
  rintro e w12 ⟨rfl, hb⟩
  replace SA := Lib.hid (SA.out.below hb)
  replace SB := Lib.hid (SB.out.below hb)
  replace SC := Lib.hid (SC.out.below hb)
  replace SJ := Lib.hid (SJ.out.below hb)
  replace HW := Lib.hid (ext_call HW.out hb)
  clear hb
  go_wp2_with fail
  refine (same_yes _ _ _ _ _ _ _ _ _ SA.out SB.out (by omega) (within_anti h1 h2 hp hq)).mono ?_
  rintro e w13 ⟨rfl, hb⟩
  replace SA := Lib.hid (SA.out.below hb)
  replace SB := Lib.hid (SB.out.below hb)
  replace SC := Lib.hid (SC.out.below hb)
  replace SJ := Lib.hid (SJ.out.below hb)
  replace HW := Lib.hid (ext_call HW.out hb)
  clear hb
  go_wp2_with fail
  refine (hlive.out _).mono ?_
  rintro e w99 ⟨rfl, hb⟩
  replace HW := Lib.hid (ext_call HW.out hb)
  clear hb
  go_wp2
  go_ret
  exact ⟨rfl, HW.out⟩
set_option maxRecDepth 100000 in
set_option maxHeartbeats 8000000 in
theorem lattice_m3 (hlive0 : LiveOk) (w : World) (A B D : Option Addr) (n c m d k f : Nat) (a b z : List C) (ha : Sl w A n c a) (hb : Sl w B m d b) (hc : Sl w D k f z) (hn : n ≤ 12) (hm : m ≤ 12) (hk : k ≤ 12) (h1 : chk a = 0) (h2 : chk b = 0) (h3 : chk z = 0) (hx : within a z = true) (hy : within b z = false) (hp : within a b = false) :
    Calls Try.prog 10 #[.slice A n c, .slice B m d, .slice D k f] w fun e w' => e = .returned (.bool true) ∧ Below w.heap.size w w' := by
  have hlive := Lib.hid hlive0
  have HW := Lib.hid (Below.refl w.heap.size w)
  have SA := Lib.hid ha
  have SB := Lib.hid hb
  have SC := Lib.hid hc
  have hd1 : decide (n ≤ 12) = true := by simpa using hn
  have hd2 : decide (m ≤ 12) = true := by simpa using hm
  have hd3 : decide (k ≤ 12) = true := by simpa using hk
  clear hlive0 ha hb hc
  go_enter Try.func10, Try.ntmps10
  go_wp2_with (go_at_call 24; refine (few_any _ _ _ _).mono ?_; rintro e w1 ⟨rfl, rfl⟩)
  refine (check_zero _ _ _ _ _ SA.out (by omega) h1).mono ?_
  rintro e w1 ⟨rfl, hb⟩
  replace SA := Lib.hid (SA.out.below hb)
  replace SB := Lib.hid (SB.out.below hb)
  replace SC := Lib.hid (SC.out.below hb)
  replace HW := Lib.hid (ext_call HW.out hb)
  clear hb hd1 hd2 hd3
  go_wp2_with fail
  refine (check_zero _ _ _ _ _ SB.out (by omega) h2).mono ?_
  rintro e w2 ⟨rfl, hb⟩
  replace SA := Lib.hid (SA.out.below hb)
  replace SB := Lib.hid (SB.out.below hb)
  replace SC := Lib.hid (SC.out.below hb)
  replace HW := Lib.hid (ext_call HW.out hb)
  clear hb
  go_wp2_with fail
  refine (check_zero _ _ _ _ _ SC.out (by omega) h3).mono ?_
  rintro e w3 ⟨rfl, hb⟩
  replace SA := Lib.hid (SA.out.below hb)
  replace SB := Lib.hid (SB.out.below hb)
  replace SC := Lib.hid (SC.out.below hb)
  replace HW := Lib.hid (ext_call HW.out hb)
  clear hb
  go_wp2_with fail
  refine (join_any _ _ _ _ _ _ _ _ _ SA.out SB.out (by omega) (by omega)).mono ?_
  rintro e w4 ⟨A4, n4, c4, rfl, hj, hn4, hb⟩
  replace SA := Lib.hid (SA.out.below hb)
  replace SB := Lib.hid (SB.out.below hb)
  replace SC := Lib.hid (SC.out.below hb)
  replace HW := Lib.hid (ext_call HW.out hb)
  have SJ := Lib.hid hj
  clear hj
  clear hb
  go_wp2_with fail
  refine (within_is _ _ _ _ _ _ _ _ _ _ SA.out SA.out (by omega) (by omega) (within_refl _)).mono ?_
  rintro e w5 ⟨rfl, hb⟩
  replace SA := Lib.hid (SA.out.below hb)
  replace SB := Lib.hid (SB.out.below hb)
  replace SC := Lib.hid (SC.out.below hb)
  replace SJ := Lib.hid (SJ.out.below hb)
  replace HW := Lib.hid (ext_call HW.out hb)
  clear hb
  go_wp2_with fail
  refine (within_is _ _ _ _ _ _ _ _ _ _ SA.out SJ.out (by omega) (by omega) (within_left _ _)).mono ?_
  rintro e w6 ⟨rfl, hb⟩
  replace SA := Lib.hid (SA.out.below hb)
  replace SB := Lib.hid (SB.out.below hb)
  replace SC := Lib.hid (SC.out.below hb)
  replace SJ := Lib.hid (SJ.out.below hb)
  replace HW := Lib.hid (ext_call HW.out hb)
  clear hb
  go_wp2_with fail
  refine (within_is _ _ _ _ _ _ _ _ _ _ SB.out SJ.out (by omega) (by omega) (within_right _ _)).mono ?_
  rintro e w7 ⟨rfl, hb⟩
  replace SA := Lib.hid (SA.out.below hb)
  replace SB := Lib.hid (SB.out.below hb)
  replace SC := Lib.hid (SC.out.below hb)
  replace SJ := Lib.hid (SJ.out.below hb)
  replace HW := Lib.hid (ext_call HW.out hb)
  clear hb
  go_wp2_with fail
  refine (within_is _ _ _ _ _ _ _ _ _ _ SA.out SC.out (by omega) (by omega) hx).mono ?_
  rintro e w8 ⟨rfl, hb⟩
  replace SA := Lib.hid (SA.out.below hb)
  replace SB := Lib.hid (SB.out.below hb)
  replace SC := Lib.hid (SC.out.below hb)
  replace SJ := Lib.hid (SJ.out.below hb)
  replace HW := Lib.hid (ext_call HW.out hb)
  clear hb
  go_wp2_with fail
  refine (within_is _ _ _ _ _ _ _ _ _ _ SB.out SC.out (by omega) (by omega) hy).mono ?_
  rintro e w9 ⟨rfl, hb⟩
  replace SA := Lib.hid (SA.out.below hb)
  replace SB := Lib.hid (SB.out.below hb)
  replace SC := Lib.hid (SC.out.below hb)
  replace SJ := Lib.hid (SJ.out.below hb)
  replace HW := Lib.hid (ext_call HW.out hb)
  clear hb
  go_wp2_with fail
  refine (within_is _ _ _ _ _ _ _ _ _ _ SA.out SB.out (by omega) (by omega) hp).mono ?_
  rintro e w10 ⟨rfl, hb⟩
  replace SA := Lib.hid (SA.out.below hb)
  replace SB := Lib.hid (SB.out.below hb)
  replace SC := Lib.hid (SC.out.below hb)
  replace SJ := Lib.hid (SJ.out.below hb)
  replace HW := Lib.hid (ext_call HW.out hb)
  clear hb
  go_wp2_with fail
  refine (within_is _ _ _ _ _ _ _ _ _ _ SA.out SB.out (by omega) (by omega) hp).mono ?_
  rintro e w11 ⟨rfl, hb⟩
  replace SA := Lib.hid (SA.out.below hb)
  replace SB := Lib.hid (SB.out.below hb)
  replace SC := Lib.hid (SC.out.below hb)
  replace SJ := Lib.hid (SJ.out.below hb)
  replace HW := Lib.hid (ext_call HW.out hb)
  clear hb
  go_wp2_with fail
  refine (hlive.out _).mono ?_
  rintro e w99 ⟨rfl, hb⟩
  replace HW := Lib.hid (ext_call HW.out hb)
  clear hb
  go_wp2
  go_ret
  exact ⟨rfl, HW.out⟩
set_option maxRecDepth 100000 in
set_option maxHeartbeats 8000000 in
theorem lattice_m4 (hlive0 : LiveOk) (w : World) (A B D : Option Addr) (n c m d k f : Nat) (a b z : List C) (ha : Sl w A n c a) (hb : Sl w B m d b) (hc : Sl w D k f z) (hn : n ≤ 12) (hm : m ≤ 12) (hk : k ≤ 12) (h1 : chk a = 0) (h2 : chk b = 0) (h3 : chk z = 0) (hx : within a z = true) (hy : within b z = false) (hp : within a b = true) (hq : within b a = false) :
    Calls Try.prog 10 #[.slice A n c, .slice B m d, .slice D k f] w fun e w' => e = .returned (.bool true) ∧ Below w.heap.size w w' := by
  have hlive := Lib.hid hlive0
  have HW := Lib.hid (Below.refl w.heap.size w)
  have SA := Lib.hid ha
  have SB := Lib.hid hb
  have SC := Lib.hid hc
  have hd1 : decide (n ≤ 12) = true := by simpa using hn
  have hd2 : decide (m ≤ 12) = true := by simpa using hm
  have hd3 : decide (k ≤ 12) = true := by simpa using hk
  clear hlive0 ha hb hc
  go_enter Try.func10, Try.ntmps10
  go_wp2_with (go_at_call 24; refine (few_any _ _ _ _).mono ?_; rintro e w1 ⟨rfl, rfl⟩)
  refine (check_zero _ _ _ _ _ SA.out (by omega) h1).mono ?_
  rintro e w1 ⟨rfl, hb⟩
  replace SA := Lib.hid (SA.out.below hb)
  replace SB := Lib.hid (SB.out.below hb)
  replace SC := Lib.hid (SC.out.below hb)
  replace HW := Lib.hid (ext_call HW.out hb)
  clear hb hd1 hd2 hd3
  go_wp2_with fail
  refine (check_zero _ _ _ _ _ SB.out (by omega) h2).mono ?_
  rintro e w2 ⟨rfl, hb⟩
  replace SA := Lib.hid (SA.out.below hb)
  replace SB := Lib.hid (SB.out.below hb)
  replace SC := Lib.hid (SC.out.below hb)
  replace HW := Lib.hid (ext_call HW.out hb)
  clear hb
  go_wp2_with fail
  refine (check_zero _ _ _ _ _ SC.out (by omega) h3).mono ?_
  rintro e w3 ⟨rfl, hb⟩
  replace SA := Lib.hid (SA.out.below hb)
  replace SB := Lib.hid (SB.out.below hb)
  replace SC := Lib.hid (SC.out.below hb)
  replace HW := Lib.hid (ext_call HW.out hb)
  clear hb
  go_wp2_with fail
  refine (join_any _ _ _ _ _ _ _ _ _ SA.out SB.out (by omega) (by omega)).mono ?_
  rintro e w4 ⟨A4, n4, c4, rfl, hj, hn4, hb⟩
  replace SA := Lib.hid (SA.out.below hb)
  replace SB := Lib.hid (SB.out.below hb)
  replace SC := Lib.hid (SC.out.below hb)
  replace HW := Lib.hid (ext_call HW.out hb)
  have SJ := Lib.hid hj
  clear hj
  clear hb
  go_wp2_with fail
  refine (within_is _ _ _ _ _ _ _ _ _ _ SA.out SA.out (by omega) (by omega) (within_refl _)).mono ?_
  rintro e w5 ⟨rfl, hb⟩
  replace SA := Lib.hid (SA.out.below hb)
  replace SB := Lib.hid (SB.out.below hb)
  replace SC := Lib.hid (SC.out.below hb)
  replace SJ := Lib.hid (SJ.out.below hb)
  replace HW := Lib.hid (ext_call HW.out hb)
  clear hb
  go_wp2_with fail
  refine (within_is _ _ _ _ _ _ _ _ _ _ SA.out SJ.out (by omega) (by omega) (within_left _ _)).mono ?_
  rintro e w6 ⟨rfl, hb⟩
  replace SA := Lib.hid (SA.out.below hb)
  replace SB := Lib.hid (SB.out.below hb)
  replace SC := Lib.hid (SC.out.below hb)
  replace SJ := Lib.hid (SJ.out.below hb)
  replace HW := Lib.hid (ext_call HW.out hb)
  clear hb
  go_wp2_with fail
  refine (within_is _ _ _ _ _ _ _ _ _ _ SB.out SJ.out (by omega) (by omega) (within_right _ _)).mono ?_
  rintro e w7 ⟨rfl, hb⟩
  replace SA := Lib.hid (SA.out.below hb)
  replace SB := Lib.hid (SB.out.below hb)
  replace SC := Lib.hid (SC.out.below hb)
  replace SJ := Lib.hid (SJ.out.below hb)
  replace HW := Lib.hid (ext_call HW.out hb)
  clear hb
  go_wp2_with fail
  refine (within_is _ _ _ _ _ _ _ _ _ _ SA.out SC.out (by omega) (by omega) hx).mono ?_
  rintro e w8 ⟨rfl, hb⟩
  replace SA := Lib.hid (SA.out.below hb)
  replace SB := Lib.hid (SB.out.below hb)
  replace SC := Lib.hid (SC.out.below hb)
  replace SJ := Lib.hid (SJ.out.below hb)
  replace HW := Lib.hid (ext_call HW.out hb)
  clear hb
  go_wp2_with fail
  refine (within_is _ _ _ _ _ _ _ _ _ _ SB.out SC.out (by omega) (by omega) hy).mono ?_
  rintro e w9 ⟨rfl, hb⟩
  replace SA := Lib.hid (SA.out.below hb)
  replace SB := Lib.hid (SB.out.below hb)
  replace SC := Lib.hid (SC.out.below hb)
  replace SJ := Lib.hid (SJ.out.below hb)
  replace HW := Lib.hid (ext_call HW.out hb)
  clear hb
  go_wp2_with fail
  refine (within_is _ _ _ _ _ _ _ _ _ _ SA.out SB.out (by omega) (by omega) hp).mono ?_
  rintro e w10 ⟨rfl, hb⟩
  replace SA := Lib.hid (SA.out.below hb)
  replace SB := Lib.hid (SB.out.below hb)
  replace SC := Lib.hid (SC.out.below hb)
  replace SJ := Lib.hid (SJ.out.below hb)
  replace HW := Lib.hid (ext_call HW.out hb)
  clear hb
  go_wp2_with fail
  refine (within_is _ _ _ _ _ _ _ _ _ _ SB.out SC.out (by omega) (by omega) hy).mono ?_
  rintro e w11 ⟨rfl, hb⟩
  replace SA := Lib.hid (SA.out.below hb)
  replace SB := Lib.hid (SB.out.below hb)
  replace SC := Lib.hid (SC.out.below hb)
  replace SJ := Lib.hid (SJ.out.below hb)
  replace HW := Lib.hid (ext_call HW.out hb)
  clear hb
  go_wp2_with fail
  refine (within_is _ _ _ _ _ _ _ _ _ _ SA.out SB.out (by omega) (by omega) hp).mono ?_
  rintro e w12 ⟨rfl, hb⟩
  replace SA := Lib.hid (SA.out.below hb)
  replace SB := Lib.hid (SB.out.below hb)
  replace SC := Lib.hid (SC.out.below hb)
  replace SJ := Lib.hid (SJ.out.below hb)
  replace HW := Lib.hid (ext_call HW.out hb)
  clear hb
  go_wp2_with fail
  refine (within_is _ _ _ _ _ _ _ _ _ _ SB.out SA.out (by omega) (by omega) hq).mono ?_
  rintro e w13 ⟨rfl, hb⟩
  replace SA := Lib.hid (SA.out.below hb)
  replace SB := Lib.hid (SB.out.below hb)
  replace SC := Lib.hid (SC.out.below hb)
  replace SJ := Lib.hid (SJ.out.below hb)
  replace HW := Lib.hid (ext_call HW.out hb)
  clear hb
  go_wp2_with fail
  refine (hlive.out _).mono ?_
  rintro e w99 ⟨rfl, hb⟩
  replace HW := Lib.hid (ext_call HW.out hb)
  clear hb
  go_wp2
  go_ret
  exact ⟨rfl, HW.out⟩
set_option maxRecDepth 100000 in
set_option maxHeartbeats 8000000 in
theorem lattice_m5 (hlive0 : LiveOk) (w : World) (A B D : Option Addr) (n c m d k f : Nat) (a b z : List C) (ha : Sl w A n c a) (hb : Sl w B m d b) (hc : Sl w D k f z) (hn : n ≤ 12) (hm : m ≤ 12) (hk : k ≤ 12) (h1 : chk a = 0) (h2 : chk b = 0) (h3 : chk z = 0) (hx : within a z = true) (hy : within b z = false) (hp : within a b = true) (hq : within b a = true) :
    Calls Try.prog 10 #[.slice A n c, .slice B m d, .slice D k f] w fun e w' => e = .returned (.bool true) ∧ Below w.heap.size w w' := by
  have hlive := Lib.hid hlive0
  have HW := Lib.hid (Below.refl w.heap.size w)
  have SA := Lib.hid ha
  have SB := Lib.hid hb
  have SC := Lib.hid hc
  have hd1 : decide (n ≤ 12) = true := by simpa using hn
  have hd2 : decide (m ≤ 12) = true := by simpa using hm
  have hd3 : decide (k ≤ 12) = true := by simpa using hk
  clear hlive0 ha hb hc
  go_enter Try.func10, Try.ntmps10
  go_wp2_with (go_at_call 24; refine (few_any _ _ _ _).mono ?_; rintro e w1 ⟨rfl, rfl⟩)
  refine (check_zero _ _ _ _ _ SA.out (by omega) h1).mono ?_
  rintro e w1 ⟨rfl, hb⟩
  replace SA := Lib.hid (SA.out.below hb)
  replace SB := Lib.hid (SB.out.below hb)
  replace SC := Lib.hid (SC.out.below hb)
  replace HW := Lib.hid (ext_call HW.out hb)
  clear hb hd1 hd2 hd3
  go_wp2_with fail
  refine (check_zero _ _ _ _ _ SB.out (by omega) h2).mono ?_
  rintro e w2 ⟨rfl, hb⟩
  replace SA := Lib.hid (SA.out.below hb)
  replace SB := Lib.hid (SB.out.below hb)
  replace SC := Lib.hid (SC.out.below hb)
  replace HW := Lib.hid (ext_call HW.out hb)
  clear hb
  go_wp2_with fail
  refine (check_zero _ _ _ _ _ SC.out (by omega) h3).mono ?_
  rintro e w3 ⟨rfl, hb⟩
  replace SA := Lib.hid (SA.out.below hb)
  replace SB := Lib.hid (SB.out.below hb)
  replace SC := Lib.hid (SC.out.below hb)
  replace HW := Lib.hid (ext_call HW.out hb)
  clear hb
  go_wp2_with fail
  refine (join_any _ _ _ _ _ _ _ _ _ SA.out SB.out (by omega) (by omega)).mono ?_
  rintro e w4 ⟨A4, n4, c4, rfl, hj, hn4, hb⟩
  replace SA := Lib.hid (SA.out.below hb)
  replace SB := Lib.hid (SB.out.below hb)
  replace SC := Lib.hid (SC.out.below hb)
  replace HW := Lib.hid (ext_call HW.out hb)
  have SJ := Lib.hid hj
  clear hj
  clear hb
  go_wp2_with fail
  refine (within_is _ _ _ _ _ _ _ _ _ _ SA.out SA.out (by omega) (by omega) (within_refl _)).mono ?_
  rintro e w5 ⟨rfl, hb⟩
  replace SA := Lib.hid (SA.out.below hb)
  replace SB := Lib.hid (SB.out.below hb)
  replace SC := Lib.hid (SC.out.below hb)
  replace SJ := Lib.hid (SJ.out.below hb)
  replace HW := Lib.hid (ext_call HW.out hb)
  clear hb
  go_wp2_with fail
  refine (within_is _ _ _ _ _ _ _ _ _ _ SA.out SJ.out (by omega) (by omega) (within_left _ _)).mono ?_
  rintro e w6 ⟨rfl, hb⟩
  replace SA := Lib.hid (SA.out.below hb)
  replace SB := Lib.hid (SB.out.below hb)
  replace SC := Lib.hid (SC.out.below hb)
  replace SJ := Lib.hid (SJ.out.below hb)
  replace HW := Lib.hid (ext_call HW.out hb)
  clear hb
  go_wp2_with fail
  refine (within_is _ _ _ _ _ _ _ _ _ _ SB.out SJ.out (by omega) (by omega) (within_right _ _)).mono ?_
  rintro e w7 ⟨rfl, hb⟩
  replace SA := Lib.hid (SA.out.below hb)
  replace SB := Lib.hid (SB.out.below hb)
  replace SC := Lib.hid (SC.out.below hb)
  replace SJ := Lib.hid (SJ.out.below hb)
  replace HW := Lib.hid (ext_call HW.out hb)
  clear hb
  go_wp2_with fail
  refine (within_is _ _ _ _ _ _ _ _ _ _ SA.out SC.out (by omega) (by omega) hx).mono ?_
  rintro e w8 ⟨rfl, hb⟩
  replace SA := Lib.hid (SA.out.below hb)
  replace SB := Lib.hid (SB.out.below hb)
  replace SC := Lib.hid (SC.out.below hb)
  replace SJ := Lib.hid (SJ.out.below hb)
  replace HW := Lib.hid (ext_call HW.out hb)
  clear hb
  go_wp2_with fail
  refine (within_is _ _ _ _ _ _ _ _ _ _ SB.out SC.out (by omega) (by omega) hy).mono ?_
  rintro e w9 ⟨rfl, hb⟩
  replace SA := Lib.hid (SA.out.below hb)
  replace SB := Lib.hid (SB.out.below hb)
  replace SC := Lib.hid (SC.out.below hb)
  replace SJ := Lib.hid (SJ.out.below hb)
  replace HW := Lib.hid (ext_call HW.out hb)
  clear hb
  go_wp2_with fail
  refine (within_is _ _ _ _ _ _ _ _ _ _ SA.out SB.out (by omega) (by omega) hp).mono ?_
  rintro e w10 ⟨rfl, hb⟩
  replace SA := Lib.hid (SA.out.below hb)
  replace SB := Lib.hid (SB.out.below hb)
  replace SC := Lib.hid (SC.out.below hb)
  replace SJ := Lib.hid (SJ.out.below hb)
  replace HW := Lib.hid (ext_call HW.out hb)
  clear hb
  go_wp2_with fail
  refine (within_is _ _ _ _ _ _ _ _ _ _ SB.out SC.out (by omega) (by omega) hy).mono ?_
  rintro e w11 ⟨rfl, hb⟩
  replace SA := Lib.hid (SA.out.below hb)
  replace SB := Lib.hid (SB.out.below hb)
  replace SC := Lib.hid (SC.out.below hb)
  replace SJ := Lib.hid (SJ.out.below hb)
  replace HW := Lib.hid (ext_call HW.out hb)
  clear hb
  go_wp2_with fail
  refine (within_is _ _ _ _ _ _ _ _ _ _ SA.out SB.out (by omega) (by omega) hp).mono ?_
  rintro e w12 ⟨rfl, hb⟩
  replace SA := Lib.hid (SA.out.below hb)
  replace SB := Lib.hid (SB.out.below hb)
  replace SC := Lib.hid (SC.out.below hb)
  replace SJ := Lib.hid (SJ.out.below hb)
  replace HW := Lib.hid (ext_call HW.out hb)
  clear hb
  go_wp2_with fail
  refine (within_is _ _ _ _ _ _ _ _ _ _ SB.out SA.out (by omega) (by omega) hq).mono ?_
  rintro e w13 ⟨rfl, hb⟩
  replace SA := Lib.hid (SA.out.below hb)
  replace SB := Lib.hid (SB.out.below hb)
  replace SC := Lib.hid (SC.out.below hb)
  replace SJ := Lib.hid (SJ.out.below hb)
  replace HW := Lib.hid (ext_call HW.out hb)
  clear hb
  go_wp2_with fail
  refine (same_yes _ _ _ _ _ _ _ _ _ SA.out SB.out (by omega) (within_anti h1 h2 hp hq)).mono ?_
  rintro e w14 ⟨rfl, hb⟩
  replace SA := Lib.hid (SA.out.below hb)
  replace SB := Lib.hid (SB.out.below hb)
  replace SC := Lib.hid (SC.out.below hb)
  replace SJ := Lib.hid (SJ.out.below hb)
  replace HW := Lib.hid (ext_call HW.out hb)
  clear hb
  go_wp2_with fail
  refine (hlive.out _).mono ?_
  rintro e w99 ⟨rfl, hb⟩
  replace HW := Lib.hid (ext_call HW.out hb)
  clear hb
  go_wp2
  go_ret
  exact ⟨rfl, HW.out⟩
set_option maxRecDepth 100000 in
set_option maxHeartbeats 8000000 in
theorem lattice_m6 (hlive0 : LiveOk) (w : World) (A B D : Option Addr) (n c m d k f : Nat) (a b z : List C) (ha : Sl w A n c a) (hb : Sl w B m d b) (hc : Sl w D k f z) (hn : n ≤ 12) (hm : m ≤ 12) (hk : k ≤ 12) (h1 : chk a = 0) (h2 : chk b = 0) (h3 : chk z = 0) (hx : within a z = true) (hy : within b z = true) (hp : within a b = false) :
    Calls Try.prog 10 #[.slice A n c, .slice B m d, .slice D k f] w fun e w' => e = .returned (.bool true) ∧ Below w.heap.size w w' := by
  have hlive := Lib.hid hlive0
  have HW := Lib.hid (Below.refl w.heap.size w)
  have SA := Lib.hid ha
  have SB := Lib.hid hb
  have SC := Lib.hid hc
  have hd1 : decide (n ≤ 12) = true := by simpa using hn
  have hd2 : decide (m ≤ 12) = true := by simpa using hm
  have hd3 : decide (k ≤ 12) = true := by simpa using hk
  clear hlive0 ha hb hc
  go_enter Try.func10, Try.ntmps10
  go_wp2_with (go_at_call 24; refine (few_any _ _ _ _).mono ?_; rintro e w1 ⟨rfl, rfl⟩)
  refine (check_zero _ _ _ _ _ SA.out (by omega) h1).mono ?_
  rintro e w1 ⟨rfl, hb⟩
  replace SA := Lib.hid (SA.out.below hb)
  replace SB := Lib.hid (SB.out.below hb)
  replace SC := Lib.hid (SC.out.below hb)
  replace HW := Lib.hid (ext_call HW.out hb)
  clear hb hd1 hd2 hd3
  go_wp2_with fail
  refine (check_zero _ _ _ _ _ SB.out (by omega) h2).mono ?_
  rintro e w2 ⟨rfl, hb⟩
  replace SA := Lib.hid (SA.out.below hb)
  replace SB := Lib.hid (SB.out.below hb)
  replace SC := Lib.hid (SC.out.below hb)
  replace HW := Lib.hid (ext_call HW.out hb)
  clear hb
  go_wp2_with fail
  refine (check_zero _ _ _ _ _ SC.out (by omega) h3).mono ?_
  rintro e w3 ⟨rfl, hb⟩
  replace SA := Lib.hid (SA.out.below hb)
  replace SB := Lib.hid (SB.out.below hb)
  replace SC := Lib.hid (SC.out.below hb)
  replace HW := Lib.hid (ext_call HW.out hb)
  clear hb
  go_wp2_with fail
  refine (join_any _ _ _ _ _ _ _ _ _ SA.out SB.out (by omega) (by omega)).mono ?_
  rintro e w4 ⟨A4, n4, c4, rfl, hj, hn4, hb⟩
  replace SA := Lib.hid (SA.out.below hb)
  replace SB := Lib.hid (SB.out.below hb)
  replace SC := Lib.hid (SC.out.below hb)
  replace HW := Lib.hid (ext_call HW.out hb)
  have SJ := Lib.hid hj
  clear hj
  clear hb
  go_wp2_with fail
  refine (within_is _ _ _ _ _ _ _ _ _ _ SA.out SA.out (by omega) (by omega) (within_refl _)).mono ?_
  rintro e w5 ⟨rfl, hb⟩
  replace SA := Lib.hid (SA.out.below hb)
  replace SB := Lib.hid (SB.out.below hb)
  replace SC := Lib.hid (SC.out.below hb)
  replace SJ := Lib.hid (SJ.out.below hb)
  replace HW := Lib.hid (ext_call HW.out hb)
  clear hb
  go_wp2_with fail
  refine (within_is _ _ _ _ _ _ _ _ _ _ SA.out SJ.out (by omega) (by omega) (within_left _ _)).mono ?_
  rintro e w6 ⟨rfl, hb⟩
  replace SA := Lib.hid (SA.out.below hb)
  replace SB := Lib.hid (SB.out.below hb)
  replace SC := Lib.hid (SC.out.below hb)
  replace SJ := Lib.hid (SJ.out.below hb)
  replace HW := Lib.hid (ext_call HW.out hb)
  clear hb
  go_wp2_with fail
  refine (within_is _ _ _ _ _ _ _ _ _ _ SB.out SJ.out (by omega) (by omega) (within_right _ _)).mono ?_
  rintro e w7 ⟨rfl, hb⟩
  replace SA := Lib.hid (SA.out.below hb)
  replace SB := Lib.hid (SB.out.below hb)
  replace SC := Lib.hid (SC.out.below hb)
  replace SJ := Lib.hid (SJ.out.below hb)
  replace HW := Lib.hid (ext_call HW.out hb)
  clear hb
  go_wp2_with fail
  refine (within_is _ _ _ _ _ _ _ _ _ _ SA.out SC.out (by omega) (by omega) hx).mono ?_
  rintro e w8 ⟨rfl, hb⟩
  replace SA := Lib.hid (SA.out.below hb)
  replace SB := Lib.hid (SB.out.below hb)
  replace SC := Lib.hid (SC.out.below hb)
  replace SJ := Lib.hid (SJ.out.below hb)
  replace HW := Lib.hid (ext_call HW.out hb)
  clear hb
  go_wp2_with fail
  refine (within_is _ _ _ _ _ _ _ _ _ _ SB.out SC.out (by omega) (by omega) hy).mono ?_
  rintro e w9 ⟨rfl, hb⟩
  replace SA := Lib.hid (SA.out.below hb)
  replace SB := Lib.hid (SB.out.below hb)
  replace SC := Lib.hid (SC.out.below hb)
  replace SJ := Lib.hid (SJ.out.below hb)
  replace HW := Lib.hid (ext_call HW.out hb)
  clear hb
  go_wp2_with fail
  refine (within_is _ _ _ _ _ _ _ _ _ _ SJ.out SC.out (by omega) (by omega) (within_least hx hy)).mono ?_
  rintro e w10 ⟨rfl, hb⟩
  replace SA := Lib.hid (SA.out.below hb)
  replace SB := Lib.hid (SB.out.below hb)
  replace SC := Lib.hid (SC.out.below hb)
  replace SJ := Lib.hid (SJ.out.below hb)
  replace HW := Lib.hid (ext_call HW.out hb)
  clear hb
  go_wp2_with fail
  refine (within_is _ _ _ _ _ _ _ _ _ _ SA.out SB.out (by omega) (by omega) hp).mono ?_
  rintro e w11 ⟨rfl, hb⟩
  replace SA := Lib.hid (SA.out.below hb)
  replace SB := Lib.hid (SB.out.below hb)
  replace SC := Lib.hid (SC.out.below hb)
  replace SJ := Lib.hid (SJ.out.below hb)
  replace HW := Lib.hid (ext_call HW.out hb)
  clear hb
  go_wp2_with fail
  refine (within_is _ _ _ _ _ _ _ _ _ _ SA.out SB.out (by omega) (by omega) hp).mono ?_
  rintro e w12 ⟨rfl, hb⟩
  replace SA := Lib.hid (SA.out.below hb)
  replace SB := Lib.hid (SB.out.below hb)
  replace SC := Lib.hid (SC.out.below hb)
  replace SJ := Lib.hid (SJ.out.below hb)
  replace HW := Lib.hid (ext_call HW.out hb)
  clear hb
  go_wp2_with fail
  refine (hlive.out _).mono ?_
  rintro e w99 ⟨rfl, hb⟩
  replace HW := Lib.hid (ext_call HW.out hb)
  clear hb
  go_wp2
  go_ret
  exact ⟨rfl, HW.out⟩
set_option maxRecDepth 100000 in
set_option maxHeartbeats 8000000 in
theorem lattice_m7 (hlive0 : LiveOk) (w : World) (A B D : Option Addr) (n c m d k f : Nat) (a b z : List C) (ha : Sl w A n c a) (hb : Sl w B m d b) (hc : Sl w D k f z) (hn : n ≤ 12) (hm : m ≤ 12) (hk : k ≤ 12) (h1 : chk a = 0) (h2 : chk b = 0) (h3 : chk z = 0) (hx : within a z = true) (hy : within b z = true) (hp : within a b = true) (hq : within b a = false) :
    Calls Try.prog 10 #[.slice A n c, .slice B m d, .slice D k f] w fun e w' => e = .returned (.bool true) ∧ Below w.heap.size w w' := by
  have hlive := Lib.hid hlive0
  have HW := Lib.hid (Below.refl w.heap.size w)
  have SA := Lib.hid ha
  have SB := Lib.hid hb
  have SC := Lib.hid hc
  have hd1 : decide (n ≤ 12) = true := by simpa using hn
  have hd2 : decide (m ≤ 12) = true := by simpa using hm
  have hd3 : decide (k ≤ 12) = true := by simpa using hk
  clear hlive0 ha hb hc
  go_enter Try.func10, Try.ntmps10
  go_wp2_with (go_at_call 24; refine (few_any _ _ _ _).mono ?_; rintro e w1 ⟨rfl, rfl⟩)
  refine (check_zero _ _ _ _ _ SA.out (by omega) h1).mono ?_
  rintro e w1 ⟨rfl, hb⟩
  replace SA := Lib.hid (SA.out.below hb)
  replace SB := Lib.hid (SB.out.below hb)
  replace SC := Lib.hid (SC.out.below hb)
  replace HW := Lib.hid (ext_call HW.out hb)
  clear hb hd1 hd2 hd3
  go_wp2_with fail
  refine (check_zero _ _ _ _ _ SB.out (by omega) h2).mono ?_
  rintro e w2 ⟨rfl, hb⟩
  replace SA := Lib.hid (SA.out.below hb)
  replace SB := Lib.hid (SB.out.below hb)
  replace SC := Lib.hid (SC.out.below hb)
  replace HW := Lib.hid (ext_call HW.out hb)
  clear hb
  go_wp2_with fail
  refine (check_zero _ _ _ _ _ SC.out (by omega) h3).mono ?_
  rintro e w3 ⟨rfl, hb⟩
  replace SA := Lib.hid (SA.out.below hb)
  replace SB := Lib.hid (SB.out.below hb)
  replace SC := Lib.hid (SC.out.below hb)
  replace HW := Lib.hid (ext_call HW.out hb)
  clear hb
  go_wp2_with fail
  refine (join_any _ _ _ _ _ _ _ _ _ SA.out SB.out (by omega) (by omega)).mono ?_
  rintro e w4 ⟨A4, n4, c4, rfl, hj, hn4, hb⟩
  replace SA := Lib.hid (SA.out.below hb)
  replace SB := Lib.hid (SB.out.below hb)
  replace SC := Lib.hid (SC.out.below hb)
  replace HW := Lib.hid (ext_call HW.out hb)
  have SJ := Lib.hid hj
  clear hj
  clear hb
  go_wp2_with fail
  refine (within_is _ _ _ _ _ _ _ _ _ _ SA.out SA.out (by omega) (by omega) (within_refl _)).mono ?_
  rintro e w5 ⟨rfl, hb⟩
  replace SA := Lib.hid (SA.out.below hb)
  replace SB := Lib.hid (SB.out.below hb)
  replace SC := Lib.hid (SC.out.below hb)
  replace SJ := Lib.hid (SJ.out.below hb)
  replace HW := Lib.hid (ext_call HW.out hb)
  clear hb
  go_wp2_with fail
  refine (within_is _ _ _ _ _ _ _ _ _ _ SA.out SJ.out (by omega) (by omega) (within_left _ _)).mono ?_
  rintro e w6 ⟨rfl, hb⟩
  replace SA := Lib.hid (SA.out.below hb)
  replace SB := Lib.hid (SB.out.below hb)
  replace SC := Lib.hid (SC.out.below hb)
  replace SJ := Lib.hid (SJ.out.below hb)
  replace HW := Lib.hid (ext_call HW.out hb)
  clear hb
  go_wp2_with fail
  refine (within_is _ _ _ _ _ _ _ _ _ _ SB.out SJ.out (by omega) (by omega) (within_right _ _)).mono ?_
  rintro e w7 ⟨rfl, hb⟩
  replace SA := Lib.hid (SA.out.below hb)
  replace SB := Lib.hid (SB.out.below hb)
  replace SC := Lib.hid (SC.out.below hb)
  replace SJ := Lib.hid (SJ.out.below hb)
  replace HW := Lib.hid (ext_call HW.out hb)
  clear hb
  go_wp2_with fail
  refine (within_is _ _ _ _ _ _ _ _ _ _ SA.out SC.out (by omega) (by omega) hx).mono ?_
  rintro e w8 ⟨rfl, hb⟩
  replace SA := Lib.hid (SA.out.below hb)
  replace SB := Lib.hid (SB.out.below hb)
  replace SC := Lib.hid (SC.out.below hb)
  replace SJ := Lib.hid (SJ.out.below hb)
  replace HW := Lib.hid (ext_call HW.out hb)
  clear hb
  go_wp2_with fail
  refine (within_is _ _ _ _ _ _ _ _ _ _ SB.out SC.out (by omega) (by omega) hy).mono ?_
  rintro e w9 ⟨rfl, hb⟩
  replace SA := Lib.hid (SA.out.below hb)
  replace SB := Lib.hid (SB.out.below hb)
  replace SC := Lib.hid (SC.out.below hb)
  replace SJ := Lib.hid (SJ.out.below hb)
  replace HW := Lib.hid (ext_call HW.out hb)
  clear hb
  go_wp2_with fail
  refine (within_is _ _ _ _ _ _ _ _ _ _ SJ.out SC.out (by omega) (by omega) (within_least hx hy)).mono ?_
  rintro e w10 ⟨rfl, hb⟩
  replace SA := Lib.hid (SA.out.below hb)
  replace SB := Lib.hid (SB.out.below hb)
  replace SC := Lib.hid (SC.out.below hb)
  replace SJ := Lib.hid (SJ.out.below hb)
  replace HW := Lib.hid (ext_call HW.out hb)
  clear hb
  go_wp2_with fail
  refine (within_is _ _ _ _ _ _ _ _ _ _ SA.out SB.out (by omega) (by omega) hp).mono ?_
  rintro e w11 ⟨rfl, hb⟩
  replace SA := Lib.hid (SA.out.below hb)
  replace SB := Lib.hid (SB.out.below hb)
  replace SC := Lib.hid (SC.out.below hb)
  replace SJ := Lib.hid (SJ.out.below hb)
  replace HW := Lib.hid (ext_call HW.out hb)
  clear hb
  go_wp2_with fail
  refine (within_is _ _ _ _ _ _ _ _ _ _ SB.out SC.out (by omega) (by omega) hy).mono ?_
  rintro e w12 ⟨rfl, hb⟩
  replace SA := Lib.hid (SA.out.below hb)
  replace SB := Lib.hid (SB.out.below hb)
  replace SC := Lib.hid (SC.out.below hb)
  replace SJ := Lib.hid (SJ.out.below hb)
  replace HW := Lib.hid (ext_call HW.out hb)
  clear hb
  go_wp2_with fail
  refine (within_is _ _ _ _ _ _ _ _ _ _ SA.out SC.out (by omega) (by omega) hx).mono ?_
  rintro e w13 ⟨rfl, hb⟩
  replace SA := Lib.hid (SA.out.below hb)
  replace SB := Lib.hid (SB.out.below hb)
  replace SC := Lib.hid (SC.out.below hb)
  replace SJ := Lib.hid (SJ.out.below hb)
  replace HW := Lib.hid (ext_call HW.out hb)
  clear hb
  go_wp2_with fail
  refine (within_is _ _ _ _ _ _ _ _ _ _ SA.out SB.out (by omega) (by omega) hp).mono ?_
  rintro e w14 ⟨rfl, hb⟩
  replace SA := Lib.hid (SA.out.below hb)
  replace SB := Lib.hid (SB.out.below hb)
  replace SC := Lib.hid (SC.out.below hb)
  replace SJ := Lib.hid (SJ.out.below hb)
  replace HW := Lib.hid (ext_call HW.out hb)
  clear hb
  go_wp2_with fail
  refine (within_is _ _ _ _ _ _ _ _ _ _ SB.out SA.out (by omega) (by omega) hq).mono ?_
  rintro e w15 ⟨rfl, hb⟩
  replace SA := Lib.hid (SA.out.below hb)
  replace SB := Lib.hid (SB.out.below hb)
  replace SC := Lib.hid (SC.out.below hb)
  replace SJ := Lib.hid (SJ.out.below hb)
  replace HW := Lib.hid (ext_call HW.out hb)
  clear hb
  go_wp2_with fail
  refine (hlive.out _).mono ?_
  rintro e w99 ⟨rfl, hb⟩
  replace HW := Lib.hid (ext_call HW.out hb)
  clear hb
  go_wp2
  go_ret
  exact ⟨rfl, HW.out⟩
set_option maxRecDepth 100000 in
set_option maxHeartbeats 8000000 in
theorem lattice_m8 (hlive0 : LiveOk) (w : World) (A B D : Option Addr) (n c m d k f : Nat) (a b z : List C) (ha : Sl w A n c a) (hb : Sl w B m d b) (hc : Sl w D k f z) (hn : n ≤ 12) (hm : m ≤ 12) (hk : k ≤ 12) (h1 : chk a = 0) (h2 : chk b = 0) (h3 : chk z = 0) (hx : within a z = true) (hy : within b z = true) (hp : within a b = true) (hq : within b a = true) :
    Calls Try.prog 10 #[.slice A n c, .slice B m d, .slice D k f] w fun e w' => e = .returned (.bool true) ∧ Below w.heap.size w w' := by
  have hlive := Lib.hid hlive0
  have HW := Lib.hid (Below.refl w.heap.size w)
  have SA := Lib.hid ha
  have SB := Lib.hid hb
  have SC := Lib.hid hc
  have hd1 : decide (n ≤ 12) = true := by simpa using hn
  have hd2 : decide (m ≤ 12) = true := by simpa using hm
  have hd3 : decide (k ≤ 12) = true := by simpa using hk
  clear hlive0 ha hb hc
  go_enter Try.func10, Try.ntmps10
  go_wp2_with (go_at_call 24; refine (few_any _ _ _ _).mono ?_; rintro e w1 ⟨rfl, rfl⟩)
  refine (check_zero _ _ _ _ _ SA.out (by omega) h1).mono ?_
  rintro e w1 ⟨rfl, hb⟩
  replace SA := Lib.hid (SA.out.below hb)
  replace SB := Lib.hid (SB.out.below hb)
  replace SC := Lib.hid (SC.out.below hb)
  replace HW := Lib.hid (ext_call HW.out hb)
  clear hb hd1 hd2 hd3
  go_wp2_with fail
  refine (check_zero _ _ _ _ _ SB.out (by omega) h2).mono ?_
  rintro e w2 ⟨rfl, hb⟩
  replace SA := Lib.hid (SA.out.below hb)
  replace SB := Lib.hid (SB.out.below hb)
  replace SC := Lib.hid (SC.out.below hb)
  replace HW := Lib.hid (ext_call HW.out hb)
  clear hb
  go_wp2_with fail
  refine (check_zero _ _ _ _ _ SC.out (by omega) h3).mono ?_
  rintro e w3 ⟨rfl, hb⟩
  replace SA := Lib.hid (SA.out.below hb)
  replace SB := Lib.hid (SB.out.below hb)
  replace SC := Lib.hid (SC.out.below hb)
  replace HW := Lib.hid (ext_call HW.out hb)
  clear hb
  go_wp2_with fail
  refine (join_any _ _ _ _ _ _ _ _ _ SA.out SB.out (by omega) (by omega)).mono ?_
  rintro e w4 ⟨A4, n4, c4, rfl, hj, hn4, hb⟩
  replace SA := Lib.hid (SA.out.below hb)
  replace SB := Lib.hid (SB.out.below hb)
  replace SC := Lib.hid (SC.out.below hb)
  replace HW := Lib.hid (ext_call HW.out hb)
  have SJ := Lib.hid hj
  clear hj
  clear hb
  go_wp2_with fail
  refine (within_is _ _ _ _ _ _ _ _ _ _ SA.out SA.out (by omega) (by omega) (within_refl _)).mono ?_
  rintro e w5 ⟨rfl, hb⟩
  replace SA := Lib.hid (SA.out.below hb)
  replace SB := Lib.hid (SB.out.below hb)
  replace SC := Lib.hid (SC.out.below hb)
  replace SJ := Lib.hid (SJ.out.below hb)
  replace HW := Lib.hid (ext_call HW.out hb)
  clear hb
  go_wp2_with fail
  refine (within_is _ _ _ _ _ _ _ _ _ _ SA.out SJ.out (by omega) (by omega) (within_left _ _)).mono ?_
  rintro e w6 ⟨rfl, hb⟩
  replace SA := Lib.hid (SA.out.below hb)
  replace SB := Lib.hid (SB.out.below hb)
  replace SC := Lib.hid (SC.out.below hb)
  replace SJ := Lib.hid (SJ.out.below hb)
  replace HW := Lib.hid (ext_call HW.out hb)
  clear hb
  go_wp2_with fail
  refine (within_is _ _ _ _ _ _ _ _ _ _ SB.out SJ.out (by omega) (by omega) (within_right _ _)).mono ?_
  rintro e w7 ⟨rfl, hb⟩
  replace SA := Lib.hid (SA.out.below hb)
  replace SB := Lib.hid (SB.out.below hb)
  replace SC := Lib.hid (SC.out.below hb)
  replace SJ := Lib.hid (SJ.out.below hb)
  replace HW := Lib.hid (ext_call HW.out hb)
  clear hb
  go_wp2_with fail
  refine (within_is _ _ _ _ _ _ _ _ _ _ SA.out SC.out (by omega) (by omega) hx).mono ?_
  rintro e w8 ⟨rfl, hb⟩
  replace SA := Lib.hid (SA.out.below hb)
  replace SB := Lib.hid (SB.out.below hb)
  replace SC := Lib.hid (SC.out.below hb)
  replace SJ := Lib.hid (SJ.out.below hb)
  replace HW := Lib.hid (ext_call HW.out hb)
  clear hb
  go_wp2_with fail
  refine (within_is _ _ _ _ _ _ _ _ _ _ SB.out SC.out (by omega) (by omega) hy).mono ?_
  rintro e w9 ⟨rfl, hb⟩
  replace SA := Lib.hid (SA.out.below hb)
  replace SB := Lib.hid (SB.out.below hb)
  replace SC := Lib.hid (SC.out.below hb)
  replace SJ := Lib.hid (SJ.out.below hb)
  replace HW := Lib.hid (ext_call HW.out hb)
  clear hb
  go_wp2_with fail
  refine (within_is _ _ _ _ _ _ _ _ _ _ SJ.out SC.out (by omega) (by omega) (within_least hx hy)).mono ?_
  rintro e w10 ⟨rfl, hb⟩
  replace SA := Lib.hid (SA.out.below hb)
  replace SB := Lib.hid (SB.out.below hb)
  replace SC := Lib.hid (SC.out.below hb)
  replace SJ := Lib.hid (SJ.out.below hb)
  replace HW := Lib.hid (ext_call HW.out hb)
  clear hb
  go_wp2_with fail
  refine (within_is _ _ _ _ _ _ _ _ _ _ SA.out SB.out (by omega) (by omega) hp).mono ?_
  rintro e w11 ⟨rfl, hb⟩
  replace SA := Lib.hid (SA.out.below hb)
  replace SB := Lib.hid (SB.out.below hb)
  replace SC := Lib.hid (SC.out.below hb)
  replace SJ := Lib.hid (SJ.out.below hb)
  replace HW := Lib.hid (ext_call HW.out hb)
  clear hb
  go_wp2_with fail
  refine (within_is _ _ _ _ _ _ _ _ _ _ SB.out SC.out (by omega) (by omega) hy).mono ?_
  rintro e w12 ⟨rfl, hb⟩
  replace SA := Lib.hid (SA.out.below hb)
  replace SB := Lib.hid (SB.out.below hb)
  replace SC := Lib.hid (SC.out.below hb)
  replace SJ := Lib.hid (SJ.out.below hb)
  replace HW := Lib.hid (ext_call HW.out hb)
  clear hb
  go_wp2_with fail
  refine (within_is _ _ _ _ _ _ _ _ _ _ SA.out SC.out (by omega) (by omega) hx).mono ?_
  rintro e w13 ⟨rfl, hb⟩
  replace SA := Lib.hid (SA.out.below hb)
  replace SB := Lib.hid (SB.out.below hb)
  replace SC := Lib.hid (SC.out.below hb)
  replace SJ := Lib.hid (SJ.out.below hb)
  replace HW := Lib.hid (ext_call HW.out hb)
  clear hb
  go_wp2_with fail
  refine (within_is _ _ _ _ _ _ _ _ _ _ SA.out SB.out (by omega) (by omega) hp).mono ?_
  rintro e w14 ⟨rfl, hb⟩
  replace SA := Lib.hid (SA.out.below hb)
  replace SB := Lib.hid (SB.out.below hb)
  replace SC := Lib.hid (SC.out.below hb)
  replace SJ := Lib.hid (SJ.out.below hb)
  replace HW := Lib.hid (ext_call HW.out hb)
  clear hb
  go_wp2_with fail
  refine (within_is _ _ _ _ _ _ _ _ _ _ SB.out SA.out (by omega) (by omega) hq).mono ?_
  rintro e w15 ⟨rfl, hb⟩
  replace SA := Lib.hid (SA.out.below hb)
  replace SB := Lib.hid (SB.out.below hb)
  replace SC := Lib.hid (SC.out.below hb)
  replace SJ := Lib.hid (SJ.out.below hb)
  replace HW := Lib.hid (ext_call HW.out hb)
  clear hb
  go_wp2_with fail
  refine (same_yes _ _ _ _ _ _ _ _ _ SA.out SB.out (by omega) (within_anti h1 h2 hp hq)).mono ?_
  rintro e w16 ⟨rfl, hb⟩
  replace SA := Lib.hid (SA.out.below hb)
  replace SB := Lib.hid (SB.out.below hb)
  replace SC := Lib.hid (SC.out.below hb)
  replace SJ := Lib.hid (SJ.out.below hb)
  replace HW := Lib.hid (ext_call HW.out hb)
  clear hb
  go_wp2_with fail
  refine (hlive.out _).mono ?_
  rintro e w99 ⟨rfl, hb⟩
  replace HW := Lib.hid (ext_call HW.out hb)
  clear hb
  go_wp2
  go_ret
  exact ⟨rfl, HW.out⟩
theorem latticeLaw_any (hlive0 : LiveOk) (w : World) (A B D : Option Addr) (n c m d k f : Nat) (a b z : List C) (ha : Sl w A n c a) (hb : Sl w B m d b) (hc : Sl w D k f z) :
    Calls Try.prog 10 #[.slice A n c, .slice B m d, .slice D k f] w fun e w' => e = .returned (.bool true) ∧ Below w.heap.size w w' := by
  by_cases h : n ≤ 12 ∧ m ≤ 12 ∧ k ≤ 12
  · obtain ⟨hn, hm, hk⟩ := h
    by_cases h1 : chk a = 0
    · by_cases h2 : chk b = 0
      · by_cases h3 : chk z = 0
        · cases hx : within a z with
          | false =>
            cases hp : within a b with
            | false => exact lattice_m0 hlive0 w A B D n c m d k f a b z ha hb hc hn hm hk h1 h2 h3 hx hp
            | true =>
              cases hy : within b z with
              | true => rw [within_trans hp hy] at hx; cases hx
              | false =>
                cases hq : within b a with
                | false => exact lattice_m1 hlive0 w A B D n c m d k f a b z ha hb hc hn hm hk h1 h2 h3 hx hy hp hq
                | true => exact lattice_m2 hlive0 w A B D n c m d k f a b z ha hb hc hn hm hk h1 h2 h3 hx hy hp hq
          | true =>
            cases hy : within b z with
            | false =>
              cases hp : within a b with
              | false => exact lattice_m3 hlive0 w A B D n c m d k f a b z ha hb hc hn hm hk h1 h2 h3 hx hy hp
              | true =>
                cases hq : within b a with
                | false => exact lattice_m4 hlive0 w A B D n c m d k f a b z ha hb hc hn hm hk h1 h2 h3 hx hy hp hq
                | true => exact lattice_m5 hlive0 w A B D n c m d k f a b z ha hb hc hn hm hk h1 h2 h3 hx hy hp hq
            | true =>
              cases hp : within a b with
              | false => exact lattice_m6 hlive0 w A B D n c m d k f a b z ha hb hc hn hm hk h1 h2 h3 hx hy hp
              | true =>
                cases hq : within b a with
                | false => exact lattice_m7 hlive0 w A B D n c m d k f a b z ha hb hc hn hm hk h1 h2 h3 hx hy hp hq
                | true => exact lattice_m8 hlive0 w A B D n c m d k f a b z ha hb hc hn hm hk h1 h2 h3 hx hy hp hq
        · exact lattice_c3 hlive0 w A B D n c m d k f a b z ha hb hc hn hm hk h1 h2 h3
      · exact lattice_c2 hlive0 w A B D n c m d k f a b z ha hb hc hn hm hk h1 h2
    · exact lattice_c1 hlive0 w A B D n c m d k f a b z ha hb hc hn hm hk h1
  · exact lattice_few hlive0 w A B D n c m d k f h
end Go.Proofs.Yteidbomkbddliaa.Csn
