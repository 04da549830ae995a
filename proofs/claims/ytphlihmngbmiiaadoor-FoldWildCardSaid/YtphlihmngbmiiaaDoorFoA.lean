/-
  The plain functions on bytes of layer 1 (fold), and the walks that answer about one byte.
-/
import Derived.Test.YtphlihmngbmiiaaDoorProg
import Derived.Test.YtphlihmngbmiiaaDoorBase
namespace Go.Proofs.YtphlihmngbmiiaaDoor.Fo
open Go.RowKit

/-- A capital letter. -/
def upB (c : UInt8) : Bool := decide (65 ≤ c.toNat ∧ c.toNat ≤ 90)
/-- A letter. -/
def letB (c : UInt8) : Bool := decide ((65 ≤ c.toNat ∧ c.toNat ≤ 90) ∨ (97 ≤ c.toNat ∧ c.toNat ≤ 122))
/-- A digit. -/
def digB (c : UInt8) : Bool := decide (48 ≤ c.toNat ∧ c.toNat ≤ 57)
/-- A byte of a name. -/
def nmB (c : UInt8) : Bool := letB c || digB c || decide (c.toNat = 45)
/-- A byte of a word. -/
def wdB (c : UInt8) : Bool := letB c || digB c || decide (c.toNat = 45) || decide (c.toNat = 95) || decide (c.toNat = 46) || decide (c.toNat = 58)

theorem upper_any (c : UInt8) (w : World) :
    Calls Tryd.prog 28 #[.int .u8 (c.toNat : Int)] w fun e w' => e = .returned (.bool (upB c)) ∧ w = w' := by
  go_enter Tryd.func28, Tryd.ntmps28
  go_wp2
  all_goals (go_ret; exact ⟨ret_bool (by rw [Bool.eq_iff_iff]; simp [upB]; omega), rfl⟩)
theorem digit_any (c : UInt8) (w : World) :
    Calls Tryd.prog 33 #[.int .u8 (c.toNat : Int)] w fun e w' => e = .returned (.bool (digB c)) ∧ w = w' := by
  go_enter Tryd.func33, Tryd.ntmps33
  go_wp2
  all_goals (go_ret; exact ⟨ret_bool (by rw [Bool.eq_iff_iff]; simp [digB]; omega), rfl⟩)
theorem rdigit_any (c : UInt8) (w : World) :
    Calls Tryd.prog 35 #[.int .u8 (c.toNat : Int)] w fun e w' => e = .returned (.bool (digB c)) ∧ w = w' := by
  go_enter Tryd.func35, Tryd.ntmps35
  go_wp2
  all_goals (go_ret; exact ⟨ret_bool (by rw [Bool.eq_iff_iff]; simp [digB]; omega), rfl⟩)
theorem rletter_any (c : UInt8) (w : World) :
    Calls Tryd.prog 34 #[.int .u8 (c.toNat : Int)] w fun e w' => e = .returned (.bool (letB c)) ∧ w = w' := by
  go_enter Tryd.func34, Tryd.ntmps34
  go_wp2
  all_goals (go_ret; exact ⟨ret_bool (by rw [Bool.eq_iff_iff]; simp [letB]; omega), rfl⟩)
theorem letter_any (c : UInt8) (w : World) :
    Calls Tryd.prog 32 #[.int .u8 (c.toNat : Int)] w fun e w' => e = .returned (.bool (letB c)) ∧ w = w' := by
  cases h : upB c with
  | true =>
    have HL := Lib.hid (show letB c = true by simp [upB] at h; simp [letB]; omega)
    go_enter Tryd.func32, Tryd.ntmps32
    go_wp2_with (go_at_call 28; refine (upper_any _ _).mono ?_; rintro e w' ⟨rfl, rfl⟩)
    go_ret
    exact ⟨ret_bool HL.out.symm, rfl⟩
  | false =>
    have HU := Lib.hid h
    go_enter Tryd.func32, Tryd.ntmps32
    go_wp2_with (go_at_call 28; refine (upper_any _ _).mono ?_; rintro e w' ⟨rfl, rfl⟩)
    all_goals (go_ret; exact ⟨ret_bool (by have h1 := HU.out; rw [Bool.eq_iff_iff]; simp [upB] at h1; simp [letB]; omega), rfl⟩)

theorem nameFn_any (c : UInt8) (w : World) :
    Calls Tryd.prog 31 #[.int .u8 (c.toNat : Int)] w fun e w' => e = .returned (.bool (nmB c)) ∧ w = w' := by
  cases h : letB c with
  | true =>
    have HL := Lib.hid (show nmB c = true by simp [nmB, h])
    go_enter Tryd.func31, Tryd.ntmps31
    go_wp2_with (go_at_call 32; refine (letter_any _ _).mono ?_; rintro e w' ⟨rfl, rfl⟩)
    go_ret
    exact ⟨ret_bool HL.out.symm, rfl⟩
  | false =>
    cases h2 : digB c with
    | true =>
      have HL := Lib.hid (show nmB c = true by simp [nmB, h2])
      go_enter Tryd.func31, Tryd.ntmps31
      go_wp2_with (first | (go_at_call 32; refine (letter_any _ _).mono ?_; rintro e w' ⟨rfl, rfl⟩) | (go_at_call 33; refine (digit_any _ _).mono ?_; rintro e w' ⟨rfl, rfl⟩))
      go_ret
      exact ⟨ret_bool HL.out.symm, rfl⟩
    | false =>
      have HL := Lib.hid (show nmB c = ((c.toNat : Int) == 45) by simp only [nmB, h, h2]; rw [Bool.eq_iff_iff]; simp; omega)
      go_enter Tryd.func31, Tryd.ntmps31
      go_wp2_with (first | (go_at_call 32; refine (letter_any _ _).mono ?_; rintro e w' ⟨rfl, rfl⟩) | (go_at_call 33; refine (digit_any _ _).mono ?_; rintro e w' ⟨rfl, rfl⟩))
      go_ret
      exact ⟨ret_bool HL.out.symm, rfl⟩
theorem wordFn_any (c : UInt8) (w : World) :
    Calls Tryd.prog 36 #[.int .u8 (c.toNat : Int)] w fun e w' => e = .returned (.bool (wdB c)) ∧ w = w' := by
  cases h : letB c with
  | true =>
    have HL := Lib.hid (show wdB c = true by simp [wdB, h])
    go_enter Tryd.func36, Tryd.ntmps36
    go_wp2_with (go_at_call 32; refine (letter_any _ _).mono ?_; rintro e w' ⟨rfl, rfl⟩)
    go_ret
    exact ⟨ret_bool HL.out.symm, rfl⟩
  | false =>
    cases h2 : digB c with
    | true =>
      have HL := Lib.hid (show wdB c = true by simp [wdB, h2])
      go_enter Tryd.func36, Tryd.ntmps36
      go_wp2_with (first | (go_at_call 32; refine (letter_any _ _).mono ?_; rintro e w' ⟨rfl, rfl⟩) | (go_at_call 33; refine (digit_any _ _).mono ?_; rintro e w' ⟨rfl, rfl⟩))
      go_ret
      exact ⟨ret_bool HL.out.symm, rfl⟩
    | false =>
      have H1 := Lib.hid h
      have H2 := Lib.hid h2
      go_enter Tryd.func36, Tryd.ntmps36
      go_wp2_with (first | (go_at_call 32; refine (letter_any _ _).mono ?_; rintro e w' ⟨rfl, rfl⟩) | (go_at_call 33; refine (digit_any _ _).mono ?_; rintro e w' ⟨rfl, rfl⟩))
      all_goals (go_ret; exact ⟨ret_bool (by simp only [wdB, H1.out, H2.out]; rw [Bool.eq_iff_iff]; simp_all; try omega), rfl⟩)
end Go.Proofs.YtphlihmngbmiiaaDoor.Fo
