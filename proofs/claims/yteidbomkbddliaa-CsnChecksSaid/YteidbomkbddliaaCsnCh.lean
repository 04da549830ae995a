/-
  The walk of the law CsnChecks, live taken as a hypothesis.
-/
import Derived.Test.YteidbomkbddliaaCsnZ
import Derived.Test.YteidbomkbddliaaCsnT
namespace Go.Proofs.Yteidbomkbddliaa.Csn
open Go.RowKit

set_option maxRecDepth 100000 in
set_option maxHeartbeats 4000000 in
theorem checksLaw_any (hlive0 : LiveOk) (w : World) (A : Option Addr) (n c : Nat) (l : List C) (hs : Sl w A n c l) :
    Calls Try.prog 7 #[.slice A n c] w fun e w' => e = .returned (.bool true) ∧ Below w.heap.size w w' := by
  have hlive := Lib.hid hlive0
  have HS := Lib.hid hs
  clear hlive0 hs
  by_cases hn : n ≤ 12
  · have hd : decide (n ≤ 12) = true := by simpa using hn
    go_enter Try.func7, Try.ntmps7
    go_wp2_with (go_at_call 24; refine (few_any _ _ _ _).mono ?_; rintro e w1 ⟨rfl, rfl⟩)
    refine (check_any _ _ _ _ _ HS.out (by omega)).mono ?_
    rintro e w1 ⟨rfl, hb1⟩
    have HB1 := Lib.hid hb1
    clear hb1
    go_wp2_with fail
    refine (rcheck_any _ _ _ _ _ (HS.out.below HB1.out) (by omega)).mono ?_
    rintro e w2 ⟨rfl, hb2⟩
    have HB2 := Lib.hid (ext_call HB1.out hb2)
    clear hb2
    go_wp2_with fail
    refine (hlive.out _).mono ?_
    rintro e w3 ⟨rfl, hb3⟩
    have HB3 := Lib.hid (ext_call HB2.out hb3)
    clear hb3
    go_wp2
    go_ret
    exact ⟨rfl, HB3.out⟩
  · have hd : decide (n ≤ 12) = false := by simpa using hn
    go_enter Try.func7, Try.ntmps7
    go_wp2_with (go_at_call 24; refine (few_any _ _ _ _).mono ?_; rintro e w1 ⟨rfl, rfl⟩)
    refine (hlive.out _).mono ?_
    rintro e w3 ⟨rfl, hb3⟩
    have HB3 := Lib.hid hb3
    clear hb3
    go_wp2
    go_ret
    exact ⟨rfl, HB3.out⟩
end Go.Proofs.Yteidbomkbddliaa.Csn
