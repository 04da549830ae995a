/-
  The reference's Same, of equal grants.
-/
import Derived.Test.YtfeljihbaekfmaaRfX
namespace Go.Proofs.Ytfeljihbaekfmaa.Rf
open Go.RowKit Go.Proofs.Ytfeljihbaekfmaa.Fo

theorem same03 (A B : Option Addr) (n c d : Nat) (l : List Bs) (w : World) (hl : Ss w A n c l) (hk : Ss w B n d l) (hn : n ≤ 100000) :
    Calls Try.prog 43 #[.slice A n c, .slice B n d] w fun e w' => e = .returned (.bool true) ∧ Below w.heap.size w w' := by
  have HL := Lib.hid hl
  have HK := Lib.hid hk
  clear hl hk
  go_enter Try.func43, Try.ntmps43
  go_wp2
  go_loopw [5] (fun i wr => ∃ j : Nat, i = .int .i64 j ∧ j ≤ n ∧ Below w.heap.size w wr) (fun i _ => n - (intOf i).toNat)
  case atStart => exact ⟨0, rfl, Nat.zero_le _, Below.refl _ _⟩
  case round =>
    obtain ⟨j, rfl, hj, hb⟩ := hrel
    have HB := Lib.hid hb
    clear hb
    by_cases hlt : j < n
    · obtain ⟨b, off, rfl, hbl, hc⟩ := (HL.out.below HB.out).2.2 (by omega)
      obtain ⟨b2, off2, rfl, hbl2, hc2⟩ := (HK.out.below HB.out).2.2 (by omega)
      have hck := hc j hlt
      have hck2 := hc2 j hlt
      obtain ⟨x, hx⟩ : ∃ x, sAt l j = x := ⟨_, rfl⟩
      rw [hx] at hck hck2
      clear hx hc hc2
      go_wp2_with fail
      go_quiet (fail)
      go_wp2
      go_roundw
      case rel => exact ⟨j + 1, by go_num, by omega, below_drewN HB.out _⟩
      case measure => simp [intOf]; omega
    · go_wp2
      go_ret
      exact ⟨rfl, HB.out⟩
set_option maxRecDepth 100000 in
set_option maxHeartbeats 4000000 in
/-- Two grants of the same fields, whose scopes read alike. -/
theorem same_yes (u c t s r nn ch : Bs) (m a lv : Int) (A B : Option Addr) (n d d2 : Nat) (l : List Bs) (w : World) (hl : Ss w A n d l) (hk : Ss w B n d2 l) (hn : n ≤ 100000) :
    Calls Try.prog 17 #[.agg #[.string u, .string c, .string t, .string s, .string r, .string nn, .string ch, .int .i64 m, .slice A n d, .int .i64 a, .int .i64 lv], .agg #[.string u, .string c, .string t, .string s, .string r, .string nn, .string ch, .int .i64 m, .slice B n d2, .int .i64 a, .int .i64 lv]] w fun e w' => e = .returned (.bool true) ∧ Below w.heap.size w w' := by
  have HL := Lib.hid hl
  have HK := Lib.hid hk
  clear hl hk
  go_enter Try.func17, Try.ntmps17
  go_wp2_with fail
  refine (same03 A B n d d2 l _ (HL.out.below (by go_grown)) (HK.out.below (by go_grown)) hn).mono ?_
  rintro e w1 ⟨rfl, hb1⟩
  have HB1 := Lib.hid hb1
  clear hb1
  go_wp2
  go_ret
  exact ⟨rfl, Below.trans (by go_grown) (HB1.out.mono (by simp; omega))⟩
end Go.Proofs.Ytfeljihbaekfmaa.Rf
