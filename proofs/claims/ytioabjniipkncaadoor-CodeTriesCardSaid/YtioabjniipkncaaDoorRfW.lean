/-
  Words: fold.Word and its reference.
-/
import Derived.Test.YtioabjniipkncaaDoorProg
import Derived.Test.YtioabjniipkncaaDoorBase
import Derived.IntWalk
import Derived.Laws.RangeAny
import Derived.Shelf.Abstract
namespace Go.Proofs.YtioabjniipkncaaDoor.Fo
open Go.RowKit

/-- A capital letter. -/
def upB (c : UInt8) : Bool := decide (65 ≤ c.toNat ∧ c.toNat ≤ 90)
/-- A letter. -/
def letB (c : UInt8) : Bool := decide ((65 ≤ c.toNat ∧ c.toNat ≤ 90) ∨ (97 ≤ c.toNat ∧ c.toNat ≤ 122))
/-- A digit. -/
def digB (c : UInt8) : Bool := decide (48 ≤ c.toNat ∧ c.toNat ≤ 57)
/-- A byte of a word. -/
def wdB (c : UInt8) : Bool := letB c || digB c || decide (c.toNat = 45) || decide (c.toNat = 95) || decide (c.toNat = 46) || decide (c.toNat = 58)

theorem upper_any (c : UInt8) (w : World) :
    Calls Tryd.prog 50 #[.int .u8 (c.toNat : Int)] w fun e w' => e = .returned (.bool (upB c)) ∧ w = w' := by
  go_enter Tryd.func50, Tryd.ntmps50
  go_wp2
  all_goals (go_ret; exact ⟨ret_bool (by rw [Bool.eq_iff_iff]; simp [upB]; omega), rfl⟩)
theorem digit_any (c : UInt8) (w : World) :
    Calls Tryd.prog 43 #[.int .u8 (c.toNat : Int)] w fun e w' => e = .returned (.bool (digB c)) ∧ w = w' := by
  go_enter Tryd.func43, Tryd.ntmps43
  go_wp2
  all_goals (go_ret; exact ⟨ret_bool (by rw [Bool.eq_iff_iff]; simp [digB]; omega), rfl⟩)
theorem letter_any (c : UInt8) (w : World) :
    Calls Tryd.prog 42 #[.int .u8 (c.toNat : Int)] w fun e w' => e = .returned (.bool (letB c)) ∧ w = w' := by
  cases h : upB c with
  | true =>
    have HL := Lib.hid (show letB c = true by simp [upB] at h; simp [letB]; omega)
    go_enter Tryd.func42, Tryd.ntmps42
    go_wp2_with (go_at_call 50; refine (upper_any _ _).mono ?_; rintro e w' ⟨rfl, rfl⟩)
    go_ret
    exact ⟨ret_bool HL.out.symm, rfl⟩
  | false =>
    have HU := Lib.hid h
    go_enter Tryd.func42, Tryd.ntmps42
    go_wp2_with (go_at_call 50; refine (upper_any _ _).mono ?_; rintro e w' ⟨rfl, rfl⟩)
    all_goals (go_ret; exact ⟨ret_bool (by have h1 := HU.out; rw [Bool.eq_iff_iff]; simp [upB] at h1; simp [letB]; omega), rfl⟩)

theorem wordFn_any (c : UInt8) (w : World) :
    Calls Tryd.prog 41 #[.int .u8 (c.toNat : Int)] w fun e w' => e = .returned (.bool (wdB c)) ∧ w = w' := by
  cases h : letB c with
  | true =>
    have HL := Lib.hid (show wdB c = true by simp [wdB, h])
    go_enter Tryd.func41, Tryd.ntmps41
    go_wp2_with (go_at_call 42; refine (letter_any _ _).mono ?_; rintro e w' ⟨rfl, rfl⟩)
    go_ret
    exact ⟨ret_bool HL.out.symm, rfl⟩
  | false =>
    cases h2 : digB c with
    | true =>
      have HL := Lib.hid (show wdB c = true by simp [wdB, h2])
      go_enter Tryd.func41, Tryd.ntmps41
      go_wp2_with (first | (go_at_call 42; refine (letter_any _ _).mono ?_; rintro e w' ⟨rfl, rfl⟩) | (go_at_call 43; refine (digit_any _ _).mono ?_; rintro e w' ⟨rfl, rfl⟩))
      go_ret
      exact ⟨ret_bool HL.out.symm, rfl⟩
    | false =>
      have H1 := Lib.hid h
      have H2 := Lib.hid h2
      go_enter Tryd.func41, Tryd.ntmps41
      go_wp2_with (first | (go_at_call 42; refine (letter_any _ _).mono ?_; rintro e w' ⟨rfl, rfl⟩) | (go_at_call 43; refine (digit_any _ _).mono ?_; rintro e w' ⟨rfl, rfl⟩))
      all_goals (go_ret; exact ⟨ret_bool (by simp only [wdB, H1.out, H2.out]; rw [Bool.eq_iff_iff]; simp_all; try omega), rfl⟩)
/-- Byte i of a list. -/
def bAt (l : List UInt8) (i : Nat) : UInt8 := l.getD i 0
theorem bAt_get (l : List UInt8) (i : Nat) (h : i < l.length) : bAt l i = l[i] := by simp [bAt, List.getD, h]
theorem bAt_str (s : ByteArray) (i : Nat) (h : i < s.size) : bAt s.data.toList i = s[i] := by
  rw [bAt_get _ _ (by simpa using h)]; rfl
theorem all_take {p : UInt8 → Bool} (l : List UInt8) (h : ∀ j, j < l.length → p (bAt l j) = true) : l.all p = true := by
  rw [List.all_eq_true]
  intro x hx
  obtain ⟨j, hj, rfl⟩ := List.getElem_of_mem hx
  rw [← bAt_get l j hj]
  exact h j hj
theorem all_not {p : UInt8 → Bool} (l : List UInt8) (j : Nat) (hj : j < l.length) (h : p (bAt l j) = false) : l.all p = false := by
  rw [List.all_eq_false]
  exact ⟨l[j], List.getElem_mem hj, by rw [← bAt_get l j hj, h]; simp⟩

/-- 1 to 64 bytes, each allowed. -/
def madeL (p : UInt8 → Bool) (l : List UInt8) : Bool := l.all p && decide (1 ≤ l.length ∧ l.length ≤ 64)
/-- Word. -/
def wrdL (l : List UInt8) : Bool := madeL wdB l

set_option maxHeartbeats 2000000 in
theorem made_any (fid : Nat) (p : UInt8 → Bool) (s : ByteArray) (w : World) (hs : s.size ≤ 100000)
    (hE : ∀ args w, (callFunc fid args).run Tryd.prog w = .ok (.enter fid args) w)
    (hp : ∀ c w', Calls Tryd.prog fid #[.int .u8 ((c : UInt8).toNat : Int)] w' fun e w'' => e = .returned (.bool (p c)) ∧ w' = w'') :
    Calls Tryd.prog 40 #[.string s, .func (.func fid) #[] #[]] w fun e w' => e = .returned (.bool (madeL p s.data.toList)) ∧ w = w' := by
  have HP := Lib.hid hp
  have HLN := Lib.hid (show s.data.toList.length = s.size by simp)
  clear hp
  go_enter Tryd.func40, Tryd.ntmps40
  go_wp2
  go_loop [5, 8] (fun _ i => ∃ k : Nat, k ≤ s.size ∧ i = .int .i64 k ∧ Hid (∀ j, j < k → p (bAt s.data.toList j) = true)) (fun _ i => s.size - (intOf i).toNat)
  case atStart => exact ⟨0, Nat.zero_le _, rfl, fun j hj => absurd hj (Nat.not_lt_zero _)⟩
  case round =>
    obtain ⟨k, hk, rfl, HA⟩ := hrel
    by_cases hlt : k < s.size
    · have HBK := Lib.hid (bAt_str s k hlt)
      cases hok : p s[k] with
      | true =>
        have HO := Lib.hid hok
        clear hok
        go_wp2_with (refine (HP.out _ _).mono ?_; rintro e w1 ⟨rfl, rfl⟩; rw [HO.out])
        go_round
        case rel => exact ⟨k + 1, by omega, by go_num, fun j hj => if e : j = k then by rw [e, HBK.out]; exact HO.out else HA.out j (by omega)⟩
        case measure => simp [intOf]; omega
      | false =>
        have HR := Lib.hid (show madeL p s.data.toList = false by rw [madeL, all_not s.data.toList k (by rw [HLN.out]; exact hlt) (by rw [HBK.out]; exact hok)]; rfl)
        have HO := Lib.hid hok
        clear hok
        go_wp2_with (refine (HP.out _ _).mono ?_; rintro e w1 ⟨rfl, rfl⟩; rw [HO.out])
        go_ret
        exact ⟨ret_bool HR.out.symm, rfl⟩
    · have HALL := Lib.hid (all_take (p := p) s.data.toList (fun j hj => HA.out j (by have := HLN.out; omega)))
      by_cases h0 : s.size = 0
      · have hse : s = ⟨#[]⟩ := by
          apply ByteArray.ext
          exact Array.eq_empty_of_size_eq_zero h0
        subst hse
        have HR := Lib.hid (show madeL p (⟨#[]⟩ : ByteArray).data.toList = false by simp [madeL])
        clear h0
        go_wp2
        go_ret
        exact ⟨ret_bool HR.out.symm, rfl⟩
      · have hne1 : s.toList.isEmpty = false := by rw [Lib.toList_data]; simp; intro h; apply h0; rw [← HLN.out, h]; rfl
        have hne2 : ¬ s.toList = [] := by intro h; rw [h] at hne1; cases hne1
        have HR := Lib.hid (show madeL p s.data.toList = decide ((s.size : Int) ≤ 64) by rw [madeL, HALL.out, HLN.out]; rw [Bool.eq_iff_iff]; simp; omega)
        clear h0
        go_wp2
        go_ret
        exact ⟨ret_bool HR.out.symm, rfl⟩

theorem entersWord : ∀ args w, (callFunc 41 args).run Tryd.prog w = .ok (.enter 41 args) w := enters_of Tryd.func41 (by kernel_rfl) rfl

theorem word_any (s : ByteArray) (w : World) (hs : s.size ≤ 100000) :
    Calls Tryd.prog 28 #[.string s] w fun e w' => e = .returned (.bool (wrdL s.data.toList)) ∧ w = w' := by
  have HM := Lib.hid (made_any 41 wdB s w hs entersWord wordFn_any)
  go_enter Tryd.func28, Tryd.ntmps28
  go_wp2_with (go_at_call 40; refine HM.out.mono ?_; rintro e w1 ⟨rfl, rfl⟩)
  go_ret
  exact ⟨rfl, rfl⟩
end Go.Proofs.YtioabjniipkncaaDoor.Fo
