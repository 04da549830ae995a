/-
  The walks of layer 1: Name, Word and their references.
-/
import Derived.Test.YtjjcbbckihjapaaDoorFoF
namespace Go.Proofs.YtjjcbbckihjapaaDoor.Fo
open Go.RowKit

/-- 1 to 64 bytes, each allowed. -/
def madeL (p : UInt8 → Bool) (l : List UInt8) : Bool := l.all p && decide (1 ≤ l.length ∧ l.length ≤ 64)
/-- Name. -/
def namL (l : List UInt8) : Bool := madeL nmB l && letB (bAt l 0)
/-- Word. -/
def wrdL (l : List UInt8) : Bool := madeL wdB l

set_option maxHeartbeats 2000000 in
theorem made_any (fid : Nat) (p : UInt8 → Bool) (s : ByteArray) (w : World) (hs : s.size ≤ 100000)
    (hE : ∀ args w, (callFunc fid args).run Tryd.prog w = .ok (.enter fid args) w)
    (hp : ∀ c w', Calls Tryd.prog fid #[.int .u8 ((c : UInt8).toNat : Int)] w' fun e w'' => e = .returned (.bool (p c)) ∧ w' = w'') :
    Calls Tryd.prog 75 #[.string s, .func (.func fid) #[] #[]] w fun e w' => e = .returned (.bool (madeL p s.data.toList)) ∧ w = w' := by
  have HP := Lib.hid hp
  have HLN := Lib.hid (show s.data.toList.length = s.size by simp)
  clear hp
  go_enter Tryd.func75, Tryd.ntmps75
  go_wp2
  go_loop [5, 8] (fun _ i => ∃ k : Nat, k ≤ s.size ∧ i = .int .i64 k ∧ Hid (∀ j, j < k → p (bAt s.data.toList j) = true)) (fun _ i => s.size - (intOf i).toNat)
  case atStart => exact ⟨0, Nat.zero_le _, rfl, fun j hj => absurd hj (Nat.not_lt_zero _)⟩
  case round =>
    obtain ⟨k, hk, rfl, HA⟩ := hrel
    by_cases hlt : k < s.size
    · have HBK := Lib.hid (bAt_str s k hlt)
      cases hok : p s[k] with
      | true =>
        have HO := Lib.hid hok
        clear hok
        go_wp2_with (refine (HP.out _ _).mono ?_; rintro e w1 ⟨rfl, rfl⟩; rw [HO.out])
        go_round
        case rel => exact ⟨k + 1, by omega, by go_num, fun j hj => if e : j = k then by rw [e, HBK.out]; exact HO.out else HA.out j (by omega)⟩
        case measure => simp [intOf]; omega
      | false =>
        have HR := Lib.hid (show madeL p s.data.toList = false by rw [madeL, all_not s.data.toList k (by rw [HLN.out]; exact hlt) (by rw [HBK.out]; exact hok)]; rfl)
        have HO := Lib.hid hok
        clear hok
        go_wp2_with (refine (HP.out _ _).mono ?_; rintro e w1 ⟨rfl, rfl⟩; rw [HO.out])
        go_ret
        exact ⟨ret_bool HR.out.symm, rfl⟩
    · have HALL := Lib.hid (all_take (p := p) s.data.toList (fun j hj => HA.out j (by have := HLN.out; omega)))
      by_cases h0 : s.size = 0
      · have hse : s = ⟨#[]⟩ := by
          apply ByteArray.ext
          exact Array.eq_empty_of_size_eq_zero h0
        subst hse
        have HR := Lib.hid (show madeL p (⟨#[]⟩ : ByteArray).data.toList = false by simp [madeL])
        clear h0
        go_wp2
        go_ret
        exact ⟨ret_bool HR.out.symm, rfl⟩
      · have hne1 : s.toList.isEmpty = false := by rw [Lib.toList_data]; simp; intro h; apply h0; rw [← HLN.out, h]; rfl
        have hne2 : ¬ s.toList = [] := by intro h; rw [h] at hne1; cases hne1
        have HR := Lib.hid (show madeL p s.data.toList = decide ((s.size : Int) ≤ 64) by rw [madeL, HALL.out, HLN.out]; rw [Bool.eq_iff_iff]; simp; omega)
        clear h0
        go_wp2
        go_ret
        exact ⟨ret_bool HR.out.symm, rfl⟩

theorem entersName : ∀ args w, (callFunc 76 args).run Tryd.prog w = .ok (.enter 76 args) w := enters_of Tryd.func76 (by kernel_rfl) rfl
theorem name_any (s : ByteArray) (w : World) (hs : s.size ≤ 100000) :
    Calls Tryd.prog 64 #[.string s] w fun e w' => e = .returned (.bool (namL s.data.toList)) ∧ w = w' := by
  have HM := Lib.hid (made_any 76 nmB s w hs entersName nameFn_any)
  have HLN := Lib.hid (show s.data.toList.length = s.size by simp)
  cases hm : madeL nmB s.data.toList with
  | false =>
    have HR := Lib.hid (show namL s.data.toList = false by rw [namL, hm]; rfl)
    have HMM := Lib.hid hm
    clear hm
    go_enter Tryd.func64, Tryd.ntmps64
    go_wp2_with (go_at_call 75; refine HM.out.mono ?_; rintro e w1 ⟨rfl, rfl⟩; rw [HMM.out])
    go_ret
    exact ⟨ret_bool HR.out.symm, rfl⟩
  | true =>
    have h0 : 0 < s.size := by
      rw [madeL, Bool.and_eq_true, decide_eq_true_eq, HLN.out] at hm
      omega
    have HR := Lib.hid (show namL s.data.toList = letB s[0] by rw [namL, hm, bAt_str s 0 h0]; rfl)
    have HMM := Lib.hid hm
    clear hm
    go_enter Tryd.func64, Tryd.ntmps64
    go_wp2_with (first | (go_at_call 75; refine HM.out.mono ?_; rintro e w1 ⟨rfl, rfl⟩; rw [HMM.out]) | (go_at_call 77; refine (letter_any _ _).mono ?_; rintro e w1 ⟨rfl, rfl⟩))
    go_ret
    exact ⟨ret_bool HR.out.symm, rfl⟩

theorem rbool_any (c : UInt8) (w : World) (b : Bool) (h : letB c = b) : Calls Tryd.prog 69 #[.int .u8 (c.toNat : Int)] w fun e w' => e = .returned (.bool b) ∧ w = w' := by
  rw [← h]; exact rletter_any c w
theorem rdig_is (c : UInt8) (w : World) (b : Bool) (h : digB c = b) : Calls Tryd.prog 70 #[.int .u8 (c.toNat : Int)] w fun e w' => e = .returned (.bool b) ∧ w = w' := by
  rw [← h]; exact rdigit_any c w

set_option maxHeartbeats 4000000 in
theorem rname_any (s : ByteArray) (w : World) (hs : s.size ≤ 100000) :
    Calls Tryd.prog 46 #[.string s] w fun e w' => e = .returned (.bool (namL s.data.toList)) ∧ w = w' := by
  have HLN := Lib.hid (show s.data.toList.length = s.size by simp)
  rcases (show s.size = 0 ∨ 64 < s.size ∨ (0 < s.size ∧ s.size ≤ 64) by omega) with h | h | ⟨h0, h64⟩
  · have HR := Lib.hid (show namL s.data.toList = false by rw [namL, madeL, HLN.out, h]; simp)
    have h1 : (s.size : Int) < 1 := by omega
    clear h
    go_enter Tryd.func46, Tryd.ntmps46
    go_wp2
    go_ret
    exact ⟨ret_bool HR.out.symm, rfl⟩
  · have HR := Lib.hid (show namL s.data.toList = false by rw [namL, madeL, HLN.out]; simp; intro _ _ h; omega)
    have h1 : ¬ (s.size : Int) < 1 := by omega
    have h2 : (64 : Int) < (s.size : Int) := by omega
    clear h
    go_enter Tryd.func46, Tryd.ntmps46
    go_wp2
    go_ret
    exact ⟨ret_bool HR.out.symm, rfl⟩
  · have h1 : ¬ (s.size : Int) < 1 := by omega
    have h2 : ¬ (64 : Int) < (s.size : Int) := by omega
    have hb0 := bAt_str s 0 h0
    have HB0 := Lib.hid hb0
    clear hb0
    cases hl : letB s[0] with
    | false =>
      have HR := Lib.hid (show namL s.data.toList = false by rw [namL, HB0.out, hl]; simp)
      have HL := Lib.hid hl
      clear hl
      go_enter Tryd.func46, Tryd.ntmps46
      go_wp2_with (go_at_call 69; refine (rbool_any _ _ _ HL.out).mono ?_; rintro e w1 ⟨rfl, rfl⟩)
      go_ret
      exact ⟨ret_bool HR.out.symm, rfl⟩
    | true =>
      have HL := Lib.hid hl
      clear hl
      go_enter Tryd.func46, Tryd.ntmps46
      go_wp2_with (go_at_call 69; refine (rbool_any _ _ _ HL.out).mono ?_; rintro e w1 ⟨rfl, rfl⟩)
      go_loop [3] (fun i => ∃ k : Nat, k ≤ s.size ∧ i = .int .i64 k ∧ Hid (∀ j, j < k → nmB (bAt s.data.toList j) = true)) (fun i => s.size - (intOf i).toNat)
      case atStart => exact ⟨0, Nat.zero_le _, rfl, fun j hj => absurd hj (Nat.not_lt_zero _)⟩
      case round =>
        obtain ⟨k, hk, rfl, HA⟩ := hrel
        by_cases hlt : k < s.size
        · have HBK := Lib.hid (bAt_str s k hlt)
          have yes : nmB s[k] = true → ∀ j, j < k + 1 → nmB (bAt s.data.toList j) = true := fun HO j hj => if e : j = k then by rw [e, HBK.out]; exact HO else HA.out j (by omega)
          have HY := Lib.hid yes
          clear yes
          have hcases : letB s[k] = true ∨ (letB s[k] = false ∧ digB s[k] = true) ∨ (letB s[k] = false ∧ digB s[k] = false ∧ s[k].toNat = 45) ∨ (letB s[k] = false ∧ digB s[k] = false ∧ ¬ s[k].toNat = 45) := by
            cases letB s[k] <;> cases digB s[k] <;> simp <;> omega
          rcases hcases with h1 | ⟨h1, h2⟩ | ⟨h1, h2, h3⟩ | ⟨h1, h2, h3⟩
          · have HW := Lib.hid (HY.out (by simp [nmB, h1]))
            have H1 := Lib.hid h1
            clear h1
            go_wp2_with (go_at_call 69; refine (rbool_any _ _ _ H1.out).mono ?_; rintro e w1 ⟨rfl, rfl⟩)
            go_round
            case rel => exact ⟨k + 1, by omega, by go_num, HW.out⟩
            case measure => simp [intOf]; omega
          · have HW := Lib.hid (HY.out (by simp [nmB, h2]))
            have H1 := Lib.hid h1
            have H2 := Lib.hid h2
            clear h1 h2
            go_wp2_with (first | (go_at_call 69; refine (rbool_any _ _ _ H1.out).mono ?_; rintro e w1 ⟨rfl, rfl⟩) | (go_at_call 70; refine (rdig_is _ _ _ H2.out).mono ?_; rintro e w1 ⟨rfl, rfl⟩))
            go_round
            case rel => exact ⟨k + 1, by omega, by go_num, HW.out⟩
            case measure => simp [intOf]; omega
          · have HW := Lib.hid (HY.out (by simp [nmB, h3]))
            have n3 : ((s[k].toNat : Int) != 45) = false := by rw [bne_eq_false_iff_eq]; omega
            have H1 := Lib.hid h1
            have H2 := Lib.hid h2
            clear h1 h2 h3
            go_wp2_with (first | (go_at_call 69; refine (rbool_any _ _ _ H1.out).mono ?_; rintro e w1 ⟨rfl, rfl⟩) | (go_at_call 70; refine (rdig_is _ _ _ H2.out).mono ?_; rintro e w1 ⟨rfl, rfl⟩))
            go_round
            case rel => exact ⟨k + 1, by omega, by go_num, HW.out⟩
            case measure => simp [intOf]; omega
          · have HR := Lib.hid (show namL s.data.toList = false by rw [namL, madeL, all_not s.data.toList k (by rw [HLN.out]; exact hlt) (by rw [HBK.out]; simp [nmB, h1, h2, h3])]; rfl)
            have n3 : ((s[k].toNat : Int) != 45) = true := by rw [bne_iff_ne]; omega
            have H1 := Lib.hid h1
            have H2 := Lib.hid h2
            clear h1 h2 h3
            go_wp2_with (first | (go_at_call 69; refine (rbool_any _ _ _ H1.out).mono ?_; rintro e w1 ⟨rfl, rfl⟩) | (go_at_call 70; refine (rdig_is _ _ _ H2.out).mono ?_; rintro e w1 ⟨rfl, rfl⟩))
            go_ret
            exact ⟨ret_bool HR.out.symm, rfl⟩
        · have HALL := Lib.hid (all_take (p := nmB) s.data.toList (fun j hj => HA.out j (by have := HLN.out; omega)))
          have HR := Lib.hid (show namL s.data.toList = true by rw [namL, madeL, HALL.out, HLN.out, HB0.out, HL.out]; simp; omega)
          go_wp2
          go_ret
          exact ⟨ret_bool HR.out.symm, rfl⟩
end Go.Proofs.YtjjcbbckihjapaaDoor.Fo
