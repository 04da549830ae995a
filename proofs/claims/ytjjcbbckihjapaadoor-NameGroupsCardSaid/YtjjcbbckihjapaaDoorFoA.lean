/-
  The plain functions on bytes of layer 1 (fold), and the walks that answer about one byte.
-/
import Derived.Test.YtjjcbbckihjapaaDoorProg
import Derived.Test.YtjjcbbckihjapaaDoorBase
namespace Go.Proofs.YtjjcbbckihjapaaDoor.Fo
open Go.RowKit

/-- A capital letter. -/
def upB (c : UInt8) : Bool := decide (65 ≤ c.toNat ∧ c.toNat ≤ 90)
/-- A letter. -/
def letB (c : UInt8) : Bool := decide ((65 ≤ c.toNat ∧ c.toNat ≤ 90) ∨ (97 ≤ c.toNat ∧ c.toNat ≤ 122))
/-- A digit. -/
def digB (c : UInt8) : Bool := decide (48 ≤ c.toNat ∧ c.toNat ≤ 57)
/-- A byte of a name. -/
def nmB (c : UInt8) : Bool := letB c || digB c || decide (c.toNat = 45)
/-- A byte of a word. -/
def wdB (c : UInt8) : Bool := letB c || digB c || decide (c.toNat = 45) || decide (c.toNat = 95) || decide (c.toNat = 46) || decide (c.toNat = 58)

theorem upper_any (c : UInt8) (w : World) :
    Calls Tryd.prog 52 #[.int .u8 (c.toNat : Int)] w fun e w' => e = .returned (.bool (upB c)) ∧ w = w' := by
  go_enter Tryd.func52, Tryd.ntmps52
  go_wp2
  all_goals (go_ret; exact ⟨ret_bool (by rw [Bool.eq_iff_iff]; simp [upB]; omega), rfl⟩)
theorem digit_any (c : UInt8) (w : World) :
    Calls Tryd.prog 78 #[.int .u8 (c.toNat : Int)] w fun e w' => e = .returned (.bool (digB c)) ∧ w = w' := by
  go_enter Tryd.func78, Tryd.ntmps78
  go_wp2
  all_goals (go_ret; exact ⟨ret_bool (by rw [Bool.eq_iff_iff]; simp [digB]; omega), rfl⟩)
theorem rdigit_any (c : UInt8) (w : World) :
    Calls Tryd.prog 70 #[.int .u8 (c.toNat : Int)] w fun e w' => e = .returned (.bool (digB c)) ∧ w = w' := by
  go_enter Tryd.func70, Tryd.ntmps70
  go_wp2
  all_goals (go_ret; exact ⟨ret_bool (by rw [Bool.eq_iff_iff]; simp [digB]; omega), rfl⟩)
theorem rletter_any (c : UInt8) (w : World) :
    Calls Tryd.prog 69 #[.int .u8 (c.toNat : Int)] w fun e w' => e = .returned (.bool (letB c)) ∧ w = w' := by
  go_enter Tryd.func69, Tryd.ntmps69
  go_wp2
  all_goals (go_ret; exact ⟨ret_bool (by rw [Bool.eq_iff_iff]; simp [letB]; omega), rfl⟩)
theorem letter_any (c : UInt8) (w : World) :
    Calls Tryd.prog 77 #[.int .u8 (c.toNat : Int)] w fun e w' => e = .returned (.bool (letB c)) ∧ w = w' := by
  cases h : upB c with
  | true =>
    have HL := Lib.hid (show letB c = true by simp [upB] at h; simp [letB]; omega)
    go_enter Tryd.func77, Tryd.ntmps77
    go_wp2_with (go_at_call 52; refine (upper_any _ _).mono ?_; rintro e w' ⟨rfl, rfl⟩)
    go_ret
    exact ⟨ret_bool HL.out.symm, rfl⟩
  | false =>
    have HU := Lib.hid h
    go_enter Tryd.func77, Tryd.ntmps77
    go_wp2_with (go_at_call 52; refine (upper_any _ _).mono ?_; rintro e w' ⟨rfl, rfl⟩)
    all_goals (go_ret; exact ⟨ret_bool (by have h1 := HU.out; rw [Bool.eq_iff_iff]; simp [upB] at h1; simp [letB]; omega), rfl⟩)

theorem nameFn_any (c : UInt8) (w : World) :
    Calls Tryd.prog 76 #[.int .u8 (c.toNat : Int)] w fun e w' => e = .returned (.bool (nmB c)) ∧ w = w' := by
  cases h : letB c with
  | true =>
    have HL := Lib.hid (show nmB c = true by simp [nmB, h])
    go_enter Tryd.func76, Tryd.ntmps76
    go_wp2_with (go_at_call 77; refine (letter_any _ _).mono ?_; rintro e w' ⟨rfl, rfl⟩)
    go_ret
    exact ⟨ret_bool HL.out.symm, rfl⟩
  | false =>
    cases h2 : digB c with
    | true =>
      have HL := Lib.hid (show nmB c = true by simp [nmB, h2])
      go_enter Tryd.func76, Tryd.ntmps76
      go_wp2_with (first | (go_at_call 77; refine (letter_any _ _).mono ?_; rintro e w' ⟨rfl, rfl⟩) | (go_at_call 78; refine (digit_any _ _).mono ?_; rintro e w' ⟨rfl, rfl⟩))
      go_ret
      exact ⟨ret_bool HL.out.symm, rfl⟩
    | false =>
      have HL := Lib.hid (show nmB c = ((c.toNat : Int) == 45) by simp only [nmB, h, h2]; rw [Bool.eq_iff_iff]; simp; omega)
      go_enter Tryd.func76, Tryd.ntmps76
      go_wp2_with (first | (go_at_call 77; refine (letter_any _ _).mono ?_; rintro e w' ⟨rfl, rfl⟩) | (go_at_call 78; refine (digit_any _ _).mono ?_; rintro e w' ⟨rfl, rfl⟩))
      go_ret
      exact ⟨ret_bool HL.out.symm, rfl⟩
end Go.Proofs.YtjjcbbckihjapaaDoor.Fo
