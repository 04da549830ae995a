/-
  The walks of layer 5: check.
-/
import Derived.Test.YtjjcbbckihjapaaDoorNaG
namespace Go.Proofs.YtjjcbbckihjapaaDoor.Na
open Go.RowKit Go.Proofs.YtjjcbbckihjapaaDoor.Fo

/-- All strings are short. -/
def Sh (l : List B2) : Prop := ∀ i, i < l.length → (pX l i).size ≤ 100000 ∧ (pY l i).size ≤ 100000
theorem prL_drop (l : List B2) (k : Nat) (h : k < l.length) : (prL l).drop k = ((pX l k).data.toList, (pY l k).data.toList) :: (prL l).drop (k + 1) := by
  rw [List.drop_eq_getElem_cons (by simpa [prL] using h), prL_at l k (by simpa [prL] using h)]
theorem chkF_a {p : Pr} {r : List Pr} (h : namL p.1 = false) : chkF (p :: r) = 5 := by rw [chkF, if_pos h]
theorem chkF_b {p : Pr} {r : List Pr} (h : namL p.1 = true) (h2 : clnL p.2 = false) : chkF (p :: r) = 8 := by rw [chkF, if_neg (by simp [h]), if_pos h2]

set_option maxHeartbeats 4000000 in
theorem check_any (w : World) (A : Option Addr) (n c : Nat) (l : List B2) (hs : Ps w A n c l) (hz : Sh l) (hn : n ≤ 100000) :
    Calls Tryd.prog 40 #[.slice A n c] w fun e w' => e = .returned (.int .i64 (chkL (prL l))) ∧ Below w.heap.size w w' := by
  have HS := Lib.hid hs
  have HL := Lib.hid hs.1
  have HZ := Lib.hid hz
  clear hs hz
  go_enter Tryd.func40, Tryd.ntmps40
  go_wp2
  go_loopw [7, 2] (fun i _ wr => ∃ k : Nat, i = .int .i64 k ∧ k ≤ n ∧ Hid (chkF (prL l) = chkF ((prL l).drop k)) ∧ Below w.heap.size w wr) (fun i _ _ => n - (intOf i).toNat)
  case atStart => exact ⟨0, rfl, Nat.zero_le _, by rw [List.drop_zero]; trivial, Below.refl _ _⟩
  case round =>
    obtain ⟨k, rfl, hk, HI, hb⟩ := hrel
    have HB := Lib.hid hb
    have hbz := hb.size
    have HSW := Lib.hid (HS.out.below hb)
    clear hb
    by_cases hlt : k < n
    · obtain ⟨b, off, rfl, hbl, hc⟩ := HSW.out.2.2 (by omega)
      obtain ⟨c0, c1⟩ := hc k hlt
      obtain ⟨z0, z1⟩ := HZ.out k (by rw [HL.out]; exact hlt)
      have HD := Lib.hid (prL_drop l k (by rw [HL.out]; exact hlt))
      obtain ⟨x, hx⟩ : ∃ x, pX l k = x := ⟨_, rfl⟩
      obtain ⟨y, hy⟩ : ∃ y, pY l k = y := ⟨_, rfl⟩
      rw [hx] at c0 z0 HD
      rw [hy] at c1 z1 HD
      have HZ0 := Lib.hid z0
      have HZ1 := Lib.hid z1
      clear hx hy hc z0 z1
      have HX := Lib.hid (Px.new wr x y 36)
      have HB4 := Lib.hid (HB.out.alloc hbz (.cells #[.string x, .string y] 36))
      cases hnm : namL x.data.toList with
      | false =>
        have HR := Lib.hid (show chkL (prL l) = 5 by unfold chkL; rw [HI.out, HD.out, chkF_a hnm]; rfl)
        have HNM := Lib.hid hnm
        clear hnm
        go_wp2_with (go_at_call 64; refine (name_is x _ _ HZ0.out HNM.out).mono ?_; rintro e w4 ⟨rfl, rfl⟩)
        go_ret
        exact ⟨ret_int HR.out.symm, HB4.out⟩
      | true =>
        have HNM := Lib.hid hnm
        clear hnm
        go_wp2_with (first | (go_at_call 64; refine (name_is x _ _ HZ0.out HNM.out).mono ?_; rintro e w4 ⟨rfl, rfl⟩) | fail)
        refine (clean_any y _ HZ1.out).mono ?_
        rintro e w4 ⟨rfl, hb4⟩
        have HB5 := Lib.hid (HB4.out.trans (hb4.mono HB4.out.size))
        clear hb4
        cases hcl : clnL y.data.toList with
        | false =>
          have HR := Lib.hid (show chkL (prL l) = 8 by unfold chkL; rw [HI.out, HD.out, chkF_b HNM.out hcl]; rfl)
          clear hcl
          go_wp2
          go_ret
          exact ⟨ret_int HR.out.symm, HB5.out⟩
        | true =>
          have HI2 := Lib.hid (show chkF (prL l) = chkF ((prL l).drop (k + 1)) by rw [HI.out, HD.out, chkF_mk HNM.out hcl])
          clear hcl
          go_wp2
          go_roundw
          case rel => exact ⟨k + 1, by go_num, by omega, HI2.out, HB5.out⟩
          case measure => simp [intOf]; omega
    · have e : k = n := by omega
      subst e
      have HC := Lib.hid (show chkF (prL l) = 0 by rw [HI.out, List.drop_eq_nil_of_le (by rw [prL_length, HL.out]; exact Nat.le_refl _)]; rfl)
      by_cases h8 : 8 < k
      · have HR := Lib.hid (show chkL (prL l) = 3 by unfold chkL; rw [HC.out, prL_length, HL.out, if_neg (by simp), if_pos h8])
        go_wp2
        go_ret
        exact ⟨ret_int HR.out.symm, HB.out⟩
      · have HR := Lib.hid (show chkL (prL l) = 0 by unfold chkL; rw [HC.out, prL_length, HL.out, if_neg (by simp), if_neg h8])
        go_wp2
        go_ret
        exact ⟨ret_int HR.out.symm, HB.out⟩
end Go.Proofs.YtjjcbbckihjapaaDoor.Na
