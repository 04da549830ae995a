/-
  The walks of scopes: the reference's Valid; Implies, covered, Within, Check, the program's and the reference's.
-/
import Derived.Test.YtioabjniipkncaaGreatDoorRfA
namespace Go.Proofs.YtioabjniipkncaaGreatDoor.Rf
open Go.RowKit Go.Proofs.YtioabjniipkncaaGreatDoor.Fo

theorem ddL_step {l : List UInt8} {k : Nat} (h1 : 1 ≤ k) (h : k < l.length) : ddL (l.drop (k - 1)) = (decide ((bAt l (k - 1)).toNat = 46 ∧ (bAt l k).toNat = 46) || ddL (l.drop k)) := by
  have e1 : l.drop (k - 1) = bAt l (k - 1) :: l.drop k := by
    rw [List.drop_eq_getElem_cons (by omega), ← bAt_get, show k - 1 + 1 = k by omega]
  have e2 : l.drop k = bAt l k :: l.drop (k + 1) := by rw [List.drop_eq_getElem_cons h, ← bAt_get]
  rw [e1, e2, ddL, ← e2]
  have : ∀ c : UInt8, c = 46 ↔ c.toNat = 46 := fun c => ⟨fun h => by subst h; rfl, fun h => UInt8.toNat_inj.1 h⟩
  simp only [this]
theorem ddL_end {l : List UInt8} {k : Nat} (h : ¬ k < l.length) : ddL (l.drop (k - 1)) = false := by
  have : (l.drop (k - 1)).length ≤ 1 := by rw [List.length_drop]; omega
  match hx : l.drop (k - 1), this with
  | [], _ => rfl
  | [a], _ => rfl
  | a :: b :: r, h2 => simp at h2
theorem scp_eq {s : Bs} (hw : wrdL s.data.toList = true) (h0 : 0 < s.size) : scp s = ((decide ((s[0].toNat : Int) ≠ 46) && decide ((s[s.size - 1].toNat : Int) ≠ 46)) && !ddL s.data.toList) := by
  have HLN : s.data.toList.length = s.size := by simp
  have hb0 := bAt_str s 0 (by omega)
  have hb1 := bAt_str s (s.size - 1) (by omega)
  unfold scp scpL
  rw [hw, HLN, hb0, hb1]
  have e : ∀ c : UInt8, decide (c ≠ 46) = decide ((c.toNat : Int) ≠ 46) := fun c => by
    rw [Bool.eq_iff_iff]
    simp only [decide_eq_true_eq]
    constructor
    · intro h h2
      have e46 : (46 : UInt8).toNat = 46 := rfl
      exact h (UInt8.toNat_inj.1 (by omega))
    · intro h h2
      subst h2
      exact h rfl
  rw [e, e, Bool.true_and]
set_option maxHeartbeats 1000000 in
theorem rscope_any (s : Bs) (w : World) (hs : s.size ≤ 100000) : Calls Tryz.prog 63 #[.string s] w fun e w' => e = .returned (.bool (scp s)) ∧ w = w' := by
  have HLN := Lib.hid (show s.data.toList.length = s.size by simp)
  cases hw : wrdL s.data.toList with
  | false =>
    have HR := Lib.hid (show scp s = false by unfold scp scpL; rw [hw]; rfl)
    have HW := Lib.hid hw
    clear hw
    go_enter Tryz.func63, Tryz.ntmps63
    go_wp2_with fail
    refine (rword_any s w hs).mono ?_
    rintro e w1 ⟨rfl, rfl⟩
    rw [HW.out]
    go_wp2
    go_ret
    exact ⟨ret_bool HR.out.symm, rfl⟩
  | true =>
    have HW := Lib.hid hw
    obtain ⟨z0, z1⟩ := wrd_ne hw
    have HD := Lib.hid (scp_eq hw z0)
    clear hw
    have g : IntKind.i64.wrap ((s.size : Int) - 1) = ((s.size - 1 : Nat) : Int) := by rw [show (s.size : Int) - 1 = ((s.size - 1 : Nat) : Int) by omega]; exact IntWalk.i64_in _ (by omega)
    have g2 : s.size - 1 < s.size := by omega
    by_cases t0 : (s[0].toNat : Int) = 46
    · have HR := Lib.hid (show scp s = false by rw [HD.out]; simp [t0])
      go_enter Tryz.func63, Tryz.ntmps63
      go_wp2_with fail
      refine (rword_any s w hs).mono ?_
      rintro e w1 ⟨rfl, rfl⟩
      rw [HW.out]
      go_wp2
      go_ret
      exact ⟨ret_bool HR.out.symm, rfl⟩
    · have t0' : ((s[0].toNat : Int) == 46) = false := by simpa using t0
      by_cases t1 : (s[s.size - 1].toNat : Int) = 46
      · have HR := Lib.hid (show scp s = false by rw [HD.out]; simp [t1])
        clear t0
        go_enter Tryz.func63, Tryz.ntmps63
        go_wp2_with fail
        refine (rword_any s w hs).mono ?_
        rintro e w1 ⟨rfl, rfl⟩
        rw [HW.out]
        go_wp2
        go_ret
        exact ⟨ret_bool HR.out.symm, rfl⟩
      · have t1' : ((s[s.size - 1].toNat : Int) == 46) = false := by simpa using t1
        have HR := Lib.hid (show scp s = !ddL s.data.toList by rw [HD.out]; simp [t0, t1])
        clear t0 t1
        go_enter Tryz.func63, Tryz.ntmps63
        go_wp2_with fail
        refine (rword_any s w hs).mono ?_
        rintro e w1 ⟨rfl, rfl⟩
        rw [HW.out]
        go_wp2
        go_loop [3] (fun i => ∃ k : Nat, 1 ≤ k ∧ i = .int .i64 k ∧ k ≤ s.size ∧ Hid (ddL s.data.toList = ddL (s.data.toList.drop (k - 1)))) (fun i => s.size - (intOf i).toNat)
        case atStart => exact ⟨1, Nat.le_refl _, rfl, by omega, by rw [Nat.sub_self, List.drop_zero]; trivial⟩
        case round =>
          obtain ⟨k, hk1, rfl, hk, HI⟩ := hrel
          by_cases hlt : k < s.size
          · have hb1 := bAt_str s k hlt
            have hb0 := bAt_str s (k - 1) (by omega)
            have HS := Lib.hid (show ddL (s.data.toList.drop (k - 1)) = (decide ((s[k - 1].toNat : Int) = 46 ∧ (s[k].toNat : Int) = 46) || ddL (s.data.toList.drop k)) by
              rw [ddL_step hk1 (by rw [HLN.out]; exact hlt), hb0, hb1]
              congr 1
              rw [decide_eq_decide]
              omega)
            have gk : IntKind.i64.wrap ((k : Int) - 1) = ((k - 1 : Nat) : Int) := by rw [show (k : Int) - 1 = ((k - 1 : Nat) : Int) by omega]; exact IntWalk.i64_in _ (by omega)
            have gk2 : k - 1 < s.size := by omega
            clear hb0 hb1
            by_cases u1 : (s[k].toNat : Int) = 46
            · by_cases u0 : (s[k - 1].toNat : Int) = 46
              · have HF := Lib.hid (show scp s = false by rw [HR.out, HI.out, HS.out]; simp [u0, u1])
                go_wp2
                go_ret
                exact ⟨ret_bool HF.out.symm, rfl⟩
              · have HI2 := Lib.hid (show ddL s.data.toList = ddL (s.data.toList.drop (k + 1 - 1)) by rw [HI.out, HS.out]; simp [u0])
                have u0' : ((s[k - 1].toNat : Int) == 46) = false := by simpa using u0
                clear u0
                go_wp2
                go_round
                case rel => exact ⟨k + 1, by omega, by go_num, by omega, HI2.out⟩
                case measure => simp [intOf]; omega
            · have HI2 := Lib.hid (show ddL s.data.toList = ddL (s.data.toList.drop (k + 1 - 1)) by rw [HI.out, HS.out]; simp [u1])
              have u1' : ((s[k].toNat : Int) == 46) = false := by simpa using u1
              clear u1
              go_wp2
              go_round
              case rel => exact ⟨k + 1, by omega, by go_num, by omega, HI2.out⟩
              case measure => simp [intOf]; omega
          · have HF := Lib.hid (show scp s = true by rw [HR.out, HI.out, ddL_end (by rw [HLN.out]; exact hlt)]; rfl)
            go_wp2
            go_ret
            exact ⟨ret_bool HF.out.symm, rfl⟩
theorem scope_is (s : Bs) (w : World) (hs : s.size ≤ 100000) (hm : MX w) (b : Bool) (h : scp s = b) : Calls Tryz.prog 68 #[.string s] w fun e w' => e = .returned (.bool b) ∧ w = w' := by rw [← h]; exact scope_any s w hs hm
theorem rscope_is (s : Bs) (w : World) (hs : s.size ≤ 100000) (b : Bool) (h : scp s = b) : Calls Tryz.prog 63 #[.string s] w fun e w' => e = .returned (.bool b) ∧ w = w' := by rw [← h]; exact rscope_any s w hs

/-! ### Implies -/
theorem eq_toList {a b : Bs} : (a.toList == b.toList) = decide (a = b) := by
  rw [Lib.toList_data, Lib.toList_data, Bool.eq_iff_iff, beq_iff_eq, decide_eq_true_eq]
  exact ⟨bs_ext, fun h => by rw [h]⟩
theorem dot_add (a : Bs) : (a ++ (⟨#[46]⟩ : ByteArray)).data.toList = a.data.toList ++ [46] := by rw [ByteArray.data_append]; simp
theorem pre_take {a b : Bs} : decide (b.extract 0 (a.size + 1) = a ++ ⟨#[46]⟩) = preL a.data.toList b.data.toList := by
  unfold preL
  rw [Bool.eq_iff_iff, decide_eq_true_eq, List.isPrefixOf_iff_prefix, List.prefix_iff_eq_take]
  have e1 : (b.extract 0 (a.size + 1)).data.toList = b.data.toList.take (a.size + 1) := by rw [Lib.extract_data, List.drop_zero, Nat.sub_zero]
  constructor
  · intro h2
    have := congrArg (fun x : ByteArray => x.data.toList) h2
    simp only [e1, dot_add] at this
    rw [← this]
    simp
  · intro h2
    refine bs_ext ?_
    rw [e1, dot_add, h2]
    simp
theorem pre_len {a b : Bs} (h : ¬ a.size < b.size) : preL a.data.toList b.data.toList = false := by
  unfold preL
  rw [Bool.eq_false_iff]
  intro h2
  have := (List.isPrefixOf_iff_prefix.1 h2).length_le
  simp at this
  omega
end Go.Proofs.YtioabjniipkncaaGreatDoor.Rf
