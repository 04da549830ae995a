/-
  The walks of the laws CsnJoins and CsnLattice, live taken as a hypothesis.
-/
import Derived.Test.YteidbomkbddliaaCsnZ
import Derived.Test.YteidbomkbddliaaCsnT
import Derived.Test.YteidbomkbddliaaCsnLt
namespace Go.Proofs.Yteidbomkbddliaa.Csn
open Go.RowKit

theorem check_zero (w : World) (A : Option Addr) (n c : Nat) (l : List C) (hs : Sl w A n c l) (hn : n ≤ 1000) (h : chk l = 0) :
    Calls Try.prog 25 #[.slice A n c] w fun e w' => e = .returned (.int .i64 0) ∧ Below w.heap.size w w' := by
  have := check_any w A n c l hs hn
  rwa [h] at this
theorem same_yes (w : World) (A A2 : Option Addr) (n c m d : Nat) (a b : List C) (ha : Sl w A n c a) (hb : Sl w A2 m d b) (hn : n ≤ 1000) (h : a = b) :
    Calls Try.prog 30 #[.slice A n c, .slice A2 m d] w fun e w' => e = .returned (.bool true) ∧ Below w.heap.size w w' := by
  have := same_any w A A2 n c m d a b ha hb hn
  rwa [decide_eq_true h] at this
theorem within_is (w : World) (A A2 : Option Addr) (n c m d : Nat) (a b : List C) (x : Bool) (ha : Sl w A n c a) (hb : Sl w A2 m d b) (hn : n ≤ 1000) (hm : m ≤ 1000) (h : within a b = x) :
    Calls Try.prog 34 #[.slice A n c, .slice A2 m d] w fun e w' => e = .returned (.bool x) ∧ Below w.heap.size w w' := by
  have := within_any w A A2 n c m d a b ha hb hn hm
  rwa [h] at this
theorem join_is (w : World) (A A2 : Option Addr) (n c m d : Nat) (a b j : List C) (ha : Sl w A n c a) (hb : Sl w A2 m d b) (hn : n ≤ 50) (hm : m ≤ 50) (h : joinC a b = j) :
    Calls Try.prog 32 #[.slice A n c, .slice A2 m d] w (IsSl w (n + m) j) := by
  subst h
  exact join_any w A A2 n c m d a b ha hb hn hm

set_option maxRecDepth 100000 in
set_option maxHeartbeats 4000000 in
theorem joins_few (hlive0 : LiveOk) (w : World) (A B D : Option Addr) (n c m d k f : Nat) (h : ¬ (n ≤ 12 ∧ m ≤ 12 ∧ k ≤ 12)) :
    Calls Try.prog 9 #[.slice A n c, .slice B m d, .slice D k f] w fun e w' => e = .returned (.bool true) ∧ Below w.heap.size w w' := by
  have hlive := Lib.hid hlive0
  have HW := Lib.hid (Below.refl w.heap.size w)
  clear hlive0
  by_cases hn : n ≤ 12
  · have hd1 : decide (n ≤ 12) = true := by simpa using hn
    by_cases hm : m ≤ 12
    · have hd2 : decide (m ≤ 12) = true := by simpa using hm
      have hd3 : decide (k ≤ 12) = false := decide_eq_false (fun hk => h ⟨hn, hm, hk⟩)
      clear h hn hm
      go_enter Try.func9, Try.ntmps9
      go_wp2_with (go_at_call 24; refine (few_any _ _ _ _).mono ?_; rintro e w1 ⟨rfl, rfl⟩)
      refine (hlive.out _).mono ?_
      rintro e w99 ⟨rfl, hb⟩
      replace HW := Lib.hid (ext_call HW.out hb)
      clear hb
      go_wp2
      go_ret
      exact ⟨rfl, HW.out⟩
    · have hd2 : decide (m ≤ 12) = false := by simpa using hm
      clear h hn hm
      go_enter Try.func9, Try.ntmps9
      go_wp2_with (go_at_call 24; refine (few_any _ _ _ _).mono ?_; rintro e w1 ⟨rfl, rfl⟩)
      refine (hlive.out _).mono ?_
      rintro e w99 ⟨rfl, hb⟩
      replace HW := Lib.hid (ext_call HW.out hb)
      clear hb
      go_wp2
      go_ret
      exact ⟨rfl, HW.out⟩
  · have hd1 : decide (n ≤ 12) = false := by simpa using hn
    clear h hn
    go_enter Try.func9, Try.ntmps9
    go_wp2_with (go_at_call 24; refine (few_any _ _ _ _).mono ?_; rintro e w1 ⟨rfl, rfl⟩)
    refine (hlive.out _).mono ?_
    rintro e w99 ⟨rfl, hb⟩
    replace HW := Lib.hid (ext_call HW.out hb)
    clear hb
    go_wp2
    go_ret
    exact ⟨rfl, HW.out⟩
set_option maxRecDepth 100000 in
set_option maxHeartbeats 8000000 in
theorem joins_main (hlive0 : LiveOk) (w : World) (A B D : Option Addr) (n c m d k f : Nat) (a b z : List C) (ha : Sl w A n c a) (hb : Sl w B m d b) (hc : Sl w D k f z) (hn : n ≤ 12) (hm : m ≤ 12) (hk : k ≤ 12) :
    Calls Try.prog 9 #[.slice A n c, .slice B m d, .slice D k f] w fun e w' => e = .returned (.bool true) ∧ Below w.heap.size w w' := by
  have hlive := Lib.hid hlive0
  have HW := Lib.hid (Below.refl w.heap.size w)
  have SA := Lib.hid ha
  have SB := Lib.hid hb
  have SC := Lib.hid hc
  have hd1 : decide (n ≤ 12) = true := by simpa using hn
  have hd2 : decide (m ≤ 12) = true := by simpa using hm
  have hd3 : decide (k ≤ 12) = true := by simpa using hk
  clear hlive0 ha hb hc
  go_enter Try.func9, Try.ntmps9
  go_wp2_with (go_at_call 24; refine (few_any _ _ _ _).mono ?_; rintro e w1 ⟨rfl, rfl⟩)
  refine (join_any _ _ _ _ _ _ _ _ _ SA.out SB.out (by omega) (by omega)).mono ?_
  rintro e w1 ⟨A1, n1, c1, rfl, hj, hn1, hb⟩
  replace SA := Lib.hid (SA.out.below hb)
  replace SB := Lib.hid (SB.out.below hb)
  replace SC := Lib.hid (SC.out.below hb)
  replace HW := Lib.hid (ext_call HW.out hb)
  have SJ := Lib.hid hj
  clear hj
  clear hb hd1 hd2 hd3
  go_wp2_with fail
  refine (rjoin_any _ _ _ _ _ _ _ _ _ SA.out SB.out (by omega) (by omega)).mono ?_
  rintro e w2 ⟨A2, n2, c2, rfl, hj, hn2, hb⟩
  replace SA := Lib.hid (SA.out.below hb)
  replace SB := Lib.hid (SB.out.below hb)
  replace SC := Lib.hid (SC.out.below hb)
  replace SJ := Lib.hid (SJ.out.below hb)
  replace HW := Lib.hid (ext_call HW.out hb)
  have SR := Lib.hid hj
  clear hj
  clear hb
  go_wp2_with fail
  refine (same_yes _ _ _ _ _ _ _ _ _ SJ.out SR.out (by omega) rfl).mono ?_
  rintro e w3 ⟨rfl, hb⟩
  replace SA := Lib.hid (SA.out.below hb)
  replace SB := Lib.hid (SB.out.below hb)
  replace SC := Lib.hid (SC.out.below hb)
  replace SJ := Lib.hid (SJ.out.below hb)
  replace SR := Lib.hid (SR.out.below hb)
  replace HW := Lib.hid (ext_call HW.out hb)
  clear hb
  go_wp2_with fail
  refine (within_any _ _ _ _ _ _ _ _ _ SA.out SB.out (by omega) (by omega)).mono ?_
  rintro e w4 ⟨rfl, hb⟩
  replace SA := Lib.hid (SA.out.below hb)
  replace SB := Lib.hid (SB.out.below hb)
  replace SC := Lib.hid (SC.out.below hb)
  replace SJ := Lib.hid (SJ.out.below hb)
  replace SR := Lib.hid (SR.out.below hb)
  replace HW := Lib.hid (ext_call HW.out hb)
  clear hb
  go_wp2_with fail
  refine (rwithin_any _ _ _ _ _ _ _ _ _ SA.out SB.out (by omega) (by omega)).mono ?_
  rintro e w5 ⟨rfl, hb⟩
  replace SA := Lib.hid (SA.out.below hb)
  replace SB := Lib.hid (SB.out.below hb)
  replace SC := Lib.hid (SC.out.below hb)
  replace SJ := Lib.hid (SJ.out.below hb)
  replace SR := Lib.hid (SR.out.below hb)
  replace HW := Lib.hid (ext_call HW.out hb)
  clear hb
  go_wp2_with fail
  refine (check_zero _ _ _ _ _ SJ.out (by omega) (chk_joinC _ _)).mono ?_
  rintro e w6 ⟨rfl, hb⟩
  replace SA := Lib.hid (SA.out.below hb)
  replace SB := Lib.hid (SB.out.below hb)
  replace SC := Lib.hid (SC.out.below hb)
  replace SJ := Lib.hid (SJ.out.below hb)
  replace SR := Lib.hid (SR.out.below hb)
  replace HW := Lib.hid (ext_call HW.out hb)
  clear hb
  go_wp2_with fail
  refine (join_any _ _ _ _ _ _ _ _ _ SB.out SA.out (by omega) (by omega)).mono ?_
  rintro e w7 ⟨A7, n7, c7, rfl, hj, hn7, hb⟩
  replace SA := Lib.hid (SA.out.below hb)
  replace SB := Lib.hid (SB.out.below hb)
  replace SC := Lib.hid (SC.out.below hb)
  replace SJ := Lib.hid (SJ.out.below hb)
  replace SR := Lib.hid (SR.out.below hb)
  replace HW := Lib.hid (ext_call HW.out hb)
  have SK := Lib.hid hj
  clear hj
  clear hb
  go_wp2_with fail
  refine (same_yes _ _ _ _ _ _ _ _ _ SJ.out SK.out (by omega) (join_comm _ _)).mono ?_
  rintro e w8 ⟨rfl, hb⟩
  replace SA := Lib.hid (SA.out.below hb)
  replace SB := Lib.hid (SB.out.below hb)
  replace SC := Lib.hid (SC.out.below hb)
  replace SJ := Lib.hid (SJ.out.below hb)
  replace SR := Lib.hid (SR.out.below hb)
  replace SK := Lib.hid (SK.out.below hb)
  replace HW := Lib.hid (ext_call HW.out hb)
  clear hb
  go_wp2_with fail
  refine (join_any _ _ _ _ _ _ _ _ _ SJ.out SC.out (by omega) (by omega)).mono ?_
  rintro e w9 ⟨A9, n9, c9, rfl, hj, hn9, hb⟩
  replace SA := Lib.hid (SA.out.below hb)
  replace SB := Lib.hid (SB.out.below hb)
  replace SC := Lib.hid (SC.out.below hb)
  replace SJ := Lib.hid (SJ.out.below hb)
  replace SR := Lib.hid (SR.out.below hb)
  replace SK := Lib.hid (SK.out.below hb)
  replace HW := Lib.hid (ext_call HW.out hb)
  have SL := Lib.hid hj
  clear hj
  clear hb
  go_wp2_with fail
  refine (join_any _ _ _ _ _ _ _ _ _ SB.out SC.out (by omega) (by omega)).mono ?_
  rintro e w10 ⟨A10, n10, c10, rfl, hj, hn10, hb⟩
  replace SA := Lib.hid (SA.out.below hb)
  replace SB := Lib.hid (SB.out.below hb)
  replace SC := Lib.hid (SC.out.below hb)
  replace SJ := Lib.hid (SJ.out.below hb)
  replace SR := Lib.hid (SR.out.below hb)
  replace SK := Lib.hid (SK.out.below hb)
  replace SL := Lib.hid (SL.out.below hb)
  replace HW := Lib.hid (ext_call HW.out hb)
  have SM := Lib.hid hj
  clear hj
  clear hb
  go_wp2_with fail
  refine (join_any _ _ _ _ _ _ _ _ _ SA.out SM.out (by omega) (by omega)).mono ?_
  rintro e w11 ⟨A11, n11, c11, rfl, hj, hn11, hb⟩
  replace SA := Lib.hid (SA.out.below hb)
  replace SB := Lib.hid (SB.out.below hb)
  replace SC := Lib.hid (SC.out.below hb)
  replace SJ := Lib.hid (SJ.out.below hb)
  replace SR := Lib.hid (SR.out.below hb)
  replace SK := Lib.hid (SK.out.below hb)
  replace SL := Lib.hid (SL.out.below hb)
  replace SM := Lib.hid (SM.out.below hb)
  replace HW := Lib.hid (ext_call HW.out hb)
  have SN := Lib.hid hj
  clear hj
  clear hb
  go_wp2_with fail
  refine (same_yes _ _ _ _ _ _ _ _ _ SL.out SN.out (by omega) (join_assoc _ _ _)).mono ?_
  rintro e w12 ⟨rfl, hb⟩
  replace SA := Lib.hid (SA.out.below hb)
  replace SB := Lib.hid (SB.out.below hb)
  replace SC := Lib.hid (SC.out.below hb)
  replace SJ := Lib.hid (SJ.out.below hb)
  replace SR := Lib.hid (SR.out.below hb)
  replace SK := Lib.hid (SK.out.below hb)
  replace SL := Lib.hid (SL.out.below hb)
  replace SM := Lib.hid (SM.out.below hb)
  replace SN := Lib.hid (SN.out.below hb)
  replace HW := Lib.hid (ext_call HW.out hb)
  clear hb
  go_wp2_with fail
  refine (join_any _ _ _ _ _ _ _ _ _ SJ.out SJ.out (by omega) (by omega)).mono ?_
  rintro e w13 ⟨A13, n13, c13, rfl, hj, hn13, hb⟩
  replace SA := Lib.hid (SA.out.below hb)
  replace SB := Lib.hid (SB.out.below hb)
  replace SC := Lib.hid (SC.out.below hb)
  replace SJ := Lib.hid (SJ.out.below hb)
  replace SR := Lib.hid (SR.out.below hb)
  replace SK := Lib.hid (SK.out.below hb)
  replace SL := Lib.hid (SL.out.below hb)
  replace SM := Lib.hid (SM.out.below hb)
  replace SN := Lib.hid (SN.out.below hb)
  replace HW := Lib.hid (ext_call HW.out hb)
  have SO := Lib.hid hj
  clear hj
  clear hb
  go_wp2_with fail
  refine (same_yes _ _ _ _ _ _ _ _ _ SO.out SJ.out (by omega) (join_idem (chk_joinC _ _))).mono ?_
  rintro e w14 ⟨rfl, hb⟩
  replace SA := Lib.hid (SA.out.below hb)
  replace SB := Lib.hid (SB.out.below hb)
  replace SC := Lib.hid (SC.out.below hb)
  replace SJ := Lib.hid (SJ.out.below hb)
  replace SR := Lib.hid (SR.out.below hb)
  replace SK := Lib.hid (SK.out.below hb)
  replace SL := Lib.hid (SL.out.below hb)
  replace SM := Lib.hid (SM.out.below hb)
  replace SN := Lib.hid (SN.out.below hb)
  replace SO := Lib.hid (SO.out.below hb)
  replace HW := Lib.hid (ext_call HW.out hb)
  clear hb
  go_wp2_with fail
  refine (hlive.out _).mono ?_
  rintro e w99 ⟨rfl, hb⟩
  replace HW := Lib.hid (ext_call HW.out hb)
  clear hb
  go_wp2
  go_ret
  exact ⟨rfl, HW.out⟩
theorem joinsLaw_any (hlive0 : LiveOk) (w : World) (A B D : Option Addr) (n c m d k f : Nat) (a b z : List C) (ha : Sl w A n c a) (hb : Sl w B m d b) (hc : Sl w D k f z) :
    Calls Try.prog 9 #[.slice A n c, .slice B m d, .slice D k f] w fun e w' => e = .returned (.bool true) ∧ Below w.heap.size w w' := by
  by_cases h : n ≤ 12 ∧ m ≤ 12 ∧ k ≤ 12
  · exact joins_main hlive0 w A B D n c m d k f a b z ha hb hc h.1 h.2.1 h.2.2
  · exact joins_few hlive0 w A B D n c m d k f h
end Go.Proofs.Yteidbomkbddliaa.Csn
