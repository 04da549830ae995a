/-
  Words: fold.Word and its reference.
-/
import Derived.Test.YtioabjniipkncaaGreatDoorProg
import Derived.Test.YtioabjniipkncaaGreatDoorBase
import Derived.IntWalk
import Derived.Laws.RangeAny
import Derived.Shelf.Abstract
namespace Go.Proofs.YtioabjniipkncaaGreatDoor.Fo
open Go.RowKit

/-- A capital letter. -/
def upB (c : UInt8) : Bool := decide (65 ≤ c.toNat ∧ c.toNat ≤ 90)
/-- A letter. -/
def letB (c : UInt8) : Bool := decide ((65 ≤ c.toNat ∧ c.toNat ≤ 90) ∨ (97 ≤ c.toNat ∧ c.toNat ≤ 122))
/-- A digit. -/
def digB (c : UInt8) : Bool := decide (48 ≤ c.toNat ∧ c.toNat ≤ 57)
/-- A byte of a word. -/
def wdB (c : UInt8) : Bool := letB c || digB c || decide (c.toNat = 45) || decide (c.toNat = 95) || decide (c.toNat = 46) || decide (c.toNat = 58)

theorem upper_any (c : UInt8) (w : World) :
    Calls Tryz.prog 66 #[.int .u8 (c.toNat : Int)] w fun e w' => e = .returned (.bool (upB c)) ∧ w = w' := by
  go_enter Tryz.func66, Tryz.ntmps66
  go_wp2
  all_goals (go_ret; exact ⟨ret_bool (by rw [Bool.eq_iff_iff]; simp [upB]; omega), rfl⟩)
theorem digit_any (c : UInt8) (w : World) :
    Calls Tryz.prog 54 #[.int .u8 (c.toNat : Int)] w fun e w' => e = .returned (.bool (digB c)) ∧ w = w' := by
  go_enter Tryz.func54, Tryz.ntmps54
  go_wp2
  all_goals (go_ret; exact ⟨ret_bool (by rw [Bool.eq_iff_iff]; simp [digB]; omega), rfl⟩)
theorem rdigit_any (c : UInt8) (w : World) :
    Calls Tryz.prog 61 #[.int .u8 (c.toNat : Int)] w fun e w' => e = .returned (.bool (digB c)) ∧ w = w' := by
  go_enter Tryz.func61, Tryz.ntmps61
  go_wp2
  all_goals (go_ret; exact ⟨ret_bool (by rw [Bool.eq_iff_iff]; simp [digB]; omega), rfl⟩)
theorem rletter_any (c : UInt8) (w : World) :
    Calls Tryz.prog 60 #[.int .u8 (c.toNat : Int)] w fun e w' => e = .returned (.bool (letB c)) ∧ w = w' := by
  go_enter Tryz.func60, Tryz.ntmps60
  go_wp2
  all_goals (go_ret; exact ⟨ret_bool (by rw [Bool.eq_iff_iff]; simp [letB]; omega), rfl⟩)
theorem letter_any (c : UInt8) (w : World) :
    Calls Tryz.prog 53 #[.int .u8 (c.toNat : Int)] w fun e w' => e = .returned (.bool (letB c)) ∧ w = w' := by
  cases h : upB c with
  | true =>
    have HL := Lib.hid (show letB c = true by simp [upB] at h; simp [letB]; omega)
    go_enter Tryz.func53, Tryz.ntmps53
    go_wp2_with (go_at_call 66; refine (upper_any _ _).mono ?_; rintro e w' ⟨rfl, rfl⟩)
    go_ret
    exact ⟨ret_bool HL.out.symm, rfl⟩
  | false =>
    have HU := Lib.hid h
    go_enter Tryz.func53, Tryz.ntmps53
    go_wp2_with (go_at_call 66; refine (upper_any _ _).mono ?_; rintro e w' ⟨rfl, rfl⟩)
    all_goals (go_ret; exact ⟨ret_bool (by have h1 := HU.out; rw [Bool.eq_iff_iff]; simp [upB] at h1; simp [letB]; omega), rfl⟩)

theorem wordFn_any (c : UInt8) (w : World) :
    Calls Tryz.prog 52 #[.int .u8 (c.toNat : Int)] w fun e w' => e = .returned (.bool (wdB c)) ∧ w = w' := by
  cases h : letB c with
  | true =>
    have HL := Lib.hid (show wdB c = true by simp [wdB, h])
    go_enter Tryz.func52, Tryz.ntmps52
    go_wp2_with (go_at_call 53; refine (letter_any _ _).mono ?_; rintro e w' ⟨rfl, rfl⟩)
    go_ret
    exact ⟨ret_bool HL.out.symm, rfl⟩
  | false =>
    cases h2 : digB c with
    | true =>
      have HL := Lib.hid (show wdB c = true by simp [wdB, h2])
      go_enter Tryz.func52, Tryz.ntmps52
      go_wp2_with (first | (go_at_call 53; refine (letter_any _ _).mono ?_; rintro e w' ⟨rfl, rfl⟩) | (go_at_call 54; refine (digit_any _ _).mono ?_; rintro e w' ⟨rfl, rfl⟩))
      go_ret
      exact ⟨ret_bool HL.out.symm, rfl⟩
    | false =>
      have H1 := Lib.hid h
      have H2 := Lib.hid h2
      go_enter Tryz.func52, Tryz.ntmps52
      go_wp2_with (first | (go_at_call 53; refine (letter_any _ _).mono ?_; rintro e w' ⟨rfl, rfl⟩) | (go_at_call 54; refine (digit_any _ _).mono ?_; rintro e w' ⟨rfl, rfl⟩))
      all_goals (go_ret; exact ⟨ret_bool (by simp only [wdB, H1.out, H2.out]; rw [Bool.eq_iff_iff]; simp_all; try omega), rfl⟩)
/-- Byte i of a list. -/
def bAt (l : List UInt8) (i : Nat) : UInt8 := l.getD i 0
theorem bAt_get (l : List UInt8) (i : Nat) (h : i < l.length) : bAt l i = l[i] := by simp [bAt, List.getD, h]
theorem bAt_str (s : ByteArray) (i : Nat) (h : i < s.size) : bAt s.data.toList i = s[i] := by
  rw [bAt_get _ _ (by simpa using h)]; rfl
theorem all_take {p : UInt8 → Bool} (l : List UInt8) (h : ∀ j, j < l.length → p (bAt l j) = true) : l.all p = true := by
  rw [List.all_eq_true]
  intro x hx
  obtain ⟨j, hj, rfl⟩ := List.getElem_of_mem hx
  rw [← bAt_get l j hj]
  exact h j hj
theorem all_not {p : UInt8 → Bool} (l : List UInt8) (j : Nat) (hj : j < l.length) (h : p (bAt l j) = false) : l.all p = false := by
  rw [List.all_eq_false]
  exact ⟨l[j], List.getElem_mem hj, by rw [← bAt_get l j hj, h]; simp⟩

/-- 1 to 64 bytes, each allowed. -/
def madeL (p : UInt8 → Bool) (l : List UInt8) : Bool := l.all p && decide (1 ≤ l.length ∧ l.length ≤ 64)
/-- Word. -/
def wrdL (l : List UInt8) : Bool := madeL wdB l

set_option maxHeartbeats 2000000 in
theorem made_any (fid : Nat) (p : UInt8 → Bool) (s : ByteArray) (w : World) (hs : s.size ≤ 100000)
    (hE : ∀ args w, (callFunc fid args).run Tryz.prog w = .ok (.enter fid args) w)
    (hp : ∀ c w', Calls Tryz.prog fid #[.int .u8 ((c : UInt8).toNat : Int)] w' fun e w'' => e = .returned (.bool (p c)) ∧ w' = w'') :
    Calls Tryz.prog 51 #[.string s, .func (.func fid) #[] #[]] w fun e w' => e = .returned (.bool (madeL p s.data.toList)) ∧ w = w' := by
  have HP := Lib.hid hp
  have HLN := Lib.hid (show s.data.toList.length = s.size by simp)
  clear hp
  go_enter Tryz.func51, Tryz.ntmps51
  go_wp2
  go_loop [5, 8] (fun _ i => ∃ k : Nat, k ≤ s.size ∧ i = .int .i64 k ∧ Hid (∀ j, j < k → p (bAt s.data.toList j) = true)) (fun _ i => s.size - (intOf i).toNat)
  case atStart => exact ⟨0, Nat.zero_le _, rfl, fun j hj => absurd hj (Nat.not_lt_zero _)⟩
  case round =>
    obtain ⟨k, hk, rfl, HA⟩ := hrel
    by_cases hlt : k < s.size
    · have HBK := Lib.hid (bAt_str s k hlt)
      cases hok : p s[k] with
      | true =>
        have HO := Lib.hid hok
        clear hok
        go_wp2_with (refine (HP.out _ _).mono ?_; rintro e w1 ⟨rfl, rfl⟩; rw [HO.out])
        go_round
        case rel => exact ⟨k + 1, by omega, by go_num, fun j hj => if e : j = k then by rw [e, HBK.out]; exact HO.out else HA.out j (by omega)⟩
        case measure => simp [intOf]; omega
      | false =>
        have HR := Lib.hid (show madeL p s.data.toList = false by rw [madeL, all_not s.data.toList k (by rw [HLN.out]; exact hlt) (by rw [HBK.out]; exact hok)]; rfl)
        have HO := Lib.hid hok
        clear hok
        go_wp2_with (refine (HP.out _ _).mono ?_; rintro e w1 ⟨rfl, rfl⟩; rw [HO.out])
        go_ret
        exact ⟨ret_bool HR.out.symm, rfl⟩
    · have HALL := Lib.hid (all_take (p := p) s.data.toList (fun j hj => HA.out j (by have := HLN.out; omega)))
      by_cases h0 : s.size = 0
      · have hse : s = ⟨#[]⟩ := by
          apply ByteArray.ext
          exact Array.eq_empty_of_size_eq_zero h0
        subst hse
        have HR := Lib.hid (show madeL p (⟨#[]⟩ : ByteArray).data.toList = false by simp [madeL])
        clear h0
        go_wp2
        go_ret
        exact ⟨ret_bool HR.out.symm, rfl⟩
      · have hne1 : s.toList.isEmpty = false := by rw [Lib.toList_data]; simp; intro h; apply h0; rw [← HLN.out, h]; rfl
        have hne2 : ¬ s.toList = [] := by intro h; rw [h] at hne1; cases hne1
        have HR := Lib.hid (show madeL p s.data.toList = decide ((s.size : Int) ≤ 64) by rw [madeL, HALL.out, HLN.out]; rw [Bool.eq_iff_iff]; simp; omega)
        clear h0
        go_wp2
        go_ret
        exact ⟨ret_bool HR.out.symm, rfl⟩

theorem entersWord : ∀ args w, (callFunc 52 args).run Tryz.prog w = .ok (.enter 52 args) w := enters_of Tryz.func52 (by kernel_rfl) rfl

theorem word_any (s : ByteArray) (w : World) (hs : s.size ≤ 100000) :
    Calls Tryz.prog 34 #[.string s] w fun e w' => e = .returned (.bool (wrdL s.data.toList)) ∧ w = w' := by
  have HM := Lib.hid (made_any 52 wdB s w hs entersWord wordFn_any)
  go_enter Tryz.func34, Tryz.ntmps34
  go_wp2_with (go_at_call 51; refine HM.out.mono ?_; rintro e w1 ⟨rfl, rfl⟩)
  go_ret
  exact ⟨rfl, rfl⟩
theorem rbool_any (c : UInt8) (w : World) (b : Bool) (h : letB c = b) : Calls Tryz.prog 60 #[.int .u8 (c.toNat : Int)] w fun e w' => e = .returned (.bool b) ∧ w = w' := by
  rw [← h]; exact rletter_any c w
theorem rdig_is (c : UInt8) (w : World) (b : Bool) (h : digB c = b) : Calls Tryz.prog 61 #[.int .u8 (c.toNat : Int)] w fun e w' => e = .returned (.bool b) ∧ w = w' := by
  rw [← h]; exact rdigit_any c w

set_option maxHeartbeats 4000000 in
theorem rword_any (s : ByteArray) (w : World) (hs : s.size ≤ 100000) :
    Calls Tryz.prog 44 #[.string s] w fun e w' => e = .returned (.bool (wrdL s.data.toList)) ∧ w = w' := by
  have HLN := Lib.hid (show s.data.toList.length = s.size by simp)
  go_enter Tryz.func44, Tryz.ntmps44
  go_wp2
  go_loop [3] (fun i => ∃ k : Nat, k ≤ s.size ∧ i = .int .i64 k ∧ Hid (∀ j, j < k → wdB (bAt s.data.toList j) = true)) (fun i => s.size - (intOf i).toNat)
  case atStart => exact ⟨0, Nat.zero_le _, rfl, fun j hj => absurd hj (Nat.not_lt_zero _)⟩
  case round =>
    obtain ⟨k, hk, rfl, HA⟩ := hrel
    by_cases hlt : k < s.size
    · have HBK := Lib.hid (bAt_str s k hlt)
      have yes : wdB s[k] = true → ∀ j, j < k + 1 → wdB (bAt s.data.toList j) = true := fun HO j hj => if e : j = k then by rw [e, HBK.out]; exact HO else HA.out j (by omega)
      have HY := Lib.hid yes
      clear yes
      have hcases : letB s[k] = true ∨ (letB s[k] = false ∧ digB s[k] = true) ∨ (letB s[k] = false ∧ digB s[k] = false ∧ s[k].toNat = 45) ∨ (letB s[k] = false ∧ digB s[k] = false ∧ ¬ s[k].toNat = 45 ∧ s[k].toNat = 95) ∨ (letB s[k] = false ∧ digB s[k] = false ∧ ¬ s[k].toNat = 45 ∧ ¬ s[k].toNat = 95 ∧ s[k].toNat = 46) ∨ (letB s[k] = false ∧ digB s[k] = false ∧ ¬ s[k].toNat = 45 ∧ ¬ s[k].toNat = 95 ∧ ¬ s[k].toNat = 46 ∧ s[k].toNat = 58) ∨ (letB s[k] = false ∧ digB s[k] = false ∧ ¬ s[k].toNat = 45 ∧ ¬ s[k].toNat = 95 ∧ ¬ s[k].toNat = 46 ∧ ¬ s[k].toNat = 58) := by
        cases letB s[k] <;> cases digB s[k] <;> simp <;> omega
      rcases hcases with h1 | ⟨h1, h2⟩ | ⟨h1, h2, h3⟩ | ⟨h1, h2, h3, h4⟩ | ⟨h1, h2, h3, h4, h5⟩ | ⟨h1, h2, h3, h4, h5, h6⟩ | ⟨h1, h2, h3, h4, h5, h6⟩
      · have HW := Lib.hid (HY.out (by simp [wdB, h1]))
        have H1 := Lib.hid h1
        clear h1
        go_wp2_with (go_at_call 60; refine (rbool_any _ _ _ H1.out).mono ?_; rintro e w1 ⟨rfl, rfl⟩)
        go_round
        case rel => exact ⟨k + 1, by omega, by go_num, HW.out⟩
        case measure => simp [intOf]; omega
      · have HW := Lib.hid (HY.out (by simp [wdB, h2]))
        have H1 := Lib.hid h1
        have H2 := Lib.hid h2
        clear h1 h2
        go_wp2_with (first | (go_at_call 60; refine (rbool_any _ _ _ H1.out).mono ?_; rintro e w1 ⟨rfl, rfl⟩) | (go_at_call 61; refine (rdig_is _ _ _ H2.out).mono ?_; rintro e w1 ⟨rfl, rfl⟩))
        go_round
        case rel => exact ⟨k + 1, by omega, by go_num, HW.out⟩
        case measure => simp [intOf]; omega
      · have HW := Lib.hid (HY.out (by simp [wdB, h3]))
        have n3 : ((s[k].toNat : Int) != 45) = false := by rw [bne_eq_false_iff_eq]; omega
        have H1 := Lib.hid h1
        have H2 := Lib.hid h2
        clear h1 h2 h3
        go_wp2_with (first | (go_at_call 60; refine (rbool_any _ _ _ H1.out).mono ?_; rintro e w1 ⟨rfl, rfl⟩) | (go_at_call 61; refine (rdig_is _ _ _ H2.out).mono ?_; rintro e w1 ⟨rfl, rfl⟩))
        go_round
        case rel => exact ⟨k + 1, by omega, by go_num, HW.out⟩
        case measure => simp [intOf]; omega
      · have HW := Lib.hid (HY.out (by simp [wdB, h4]))
        have n3 : ((s[k].toNat : Int) != 45) = true := by rw [bne_iff_ne]; omega
        have n4 : ((s[k].toNat : Int) != 95) = false := by rw [bne_eq_false_iff_eq]; omega
        have H1 := Lib.hid h1
        have H2 := Lib.hid h2
        clear h1 h2 h3 h4
        go_wp2_with (first | (go_at_call 60; refine (rbool_any _ _ _ H1.out).mono ?_; rintro e w1 ⟨rfl, rfl⟩) | (go_at_call 61; refine (rdig_is _ _ _ H2.out).mono ?_; rintro e w1 ⟨rfl, rfl⟩))
        go_round
        case rel => exact ⟨k + 1, by omega, by go_num, HW.out⟩
        case measure => simp [intOf]; omega
      · have HW := Lib.hid (HY.out (by simp [wdB, h5]))
        have n3 : ((s[k].toNat : Int) != 45) = true := by rw [bne_iff_ne]; omega
        have n4 : ((s[k].toNat : Int) != 95) = true := by rw [bne_iff_ne]; omega
        have n5 : ((s[k].toNat : Int) != 46) = false := by rw [bne_eq_false_iff_eq]; omega
        have H1 := Lib.hid h1
        have H2 := Lib.hid h2
        clear h1 h2 h3 h4 h5
        go_wp2_with (first | (go_at_call 60; refine (rbool_any _ _ _ H1.out).mono ?_; rintro e w1 ⟨rfl, rfl⟩) | (go_at_call 61; refine (rdig_is _ _ _ H2.out).mono ?_; rintro e w1 ⟨rfl, rfl⟩))
        go_round
        case rel => exact ⟨k + 1, by omega, by go_num, HW.out⟩
        case measure => simp [intOf]; omega
      · have HW := Lib.hid (HY.out (by simp [wdB, h6]))
        have n3 : ((s[k].toNat : Int) != 45) = true := by rw [bne_iff_ne]; omega
        have n4 : ((s[k].toNat : Int) != 95) = true := by rw [bne_iff_ne]; omega
        have n5 : ((s[k].toNat : Int) != 46) = true := by rw [bne_iff_ne]; omega
        have n6 : ((s[k].toNat : Int) != 58) = false := by rw [bne_eq_false_iff_eq]; omega
        have H1 := Lib.hid h1
        have H2 := Lib.hid h2
        clear h1 h2 h3 h4 h5 h6
        go_wp2_with (first | (go_at_call 60; refine (rbool_any _ _ _ H1.out).mono ?_; rintro e w1 ⟨rfl, rfl⟩) | (go_at_call 61; refine (rdig_is _ _ _ H2.out).mono ?_; rintro e w1 ⟨rfl, rfl⟩))
        go_round
        case rel => exact ⟨k + 1, by omega, by go_num, HW.out⟩
        case measure => simp [intOf]; omega
      · have HR := Lib.hid (show wrdL s.data.toList = false by rw [wrdL, madeL, all_not s.data.toList k (by rw [HLN.out]; exact hlt) (by rw [HBK.out]; simp [wdB, h1, h2, h3, h4, h5, h6])]; rfl)
        have n3 : ((s[k].toNat : Int) != 45) = true := by rw [bne_iff_ne]; omega
        have n4 : ((s[k].toNat : Int) != 95) = true := by rw [bne_iff_ne]; omega
        have n5 : ((s[k].toNat : Int) != 46) = true := by rw [bne_iff_ne]; omega
        have n6 : ((s[k].toNat : Int) != 58) = true := by rw [bne_iff_ne]; omega
        have H1 := Lib.hid h1
        have H2 := Lib.hid h2
        clear h1 h2 h3 h4 h5 h6
        go_wp2_with (first | (go_at_call 60; refine (rbool_any _ _ _ H1.out).mono ?_; rintro e w1 ⟨rfl, rfl⟩) | (go_at_call 61; refine (rdig_is _ _ _ H2.out).mono ?_; rintro e w1 ⟨rfl, rfl⟩))
        go_ret
        exact ⟨ret_bool HR.out.symm, rfl⟩
    · have HALL := Lib.hid (all_take (p := wdB) s.data.toList (fun j hj => HA.out j (by have := HLN.out; omega)))
      by_cases h0 : 1 ≤ (s.size : Int)
      · have HR := Lib.hid (show wrdL s.data.toList = decide ((s.size : Int) ≤ 64) by rw [wrdL, madeL, HALL.out, HLN.out]; rw [Bool.eq_iff_iff]; simp; omega)
        go_wp2
        go_ret
        exact ⟨ret_bool HR.out.symm, rfl⟩
      · have h0' : decide ((1 : Int) ≤ (s.size : Int)) = false := by simpa using h0
        have HR := Lib.hid (show wrdL s.data.toList = false by rw [wrdL, madeL, HLN.out]; simp; intro _ h; omega)
        go_wp2
        go_ret
        exact ⟨ret_bool HR.out.symm, rfl⟩

end Go.Proofs.YtioabjniipkncaaGreatDoor.Fo
