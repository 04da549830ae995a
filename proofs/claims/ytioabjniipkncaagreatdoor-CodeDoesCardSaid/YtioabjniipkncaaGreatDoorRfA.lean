/-
  The walks of instants and of scopes, the program's and the reference's.
-/
import Derived.Test.YtioabjniipkncaaGreatDoorRfP
import Derived.Test.YtioabjniipkncaaGreatDoorShelf
import Derived.Handy
namespace Go.Proofs.YtioabjniipkncaaGreatDoor.Rf
open Go.RowKit Go.Proofs.YtioabjniipkncaaGreatDoor.Fo

theorem sub_w {P : Program} {k : Nat} {args : Array Value} {w : World} {Q : Ending → Prop} (h : Calls P k args w fun e w' => Q e ∧ w = w') : Calls P k args w fun e w' => Q e ∧ Below w.heap.size w w' :=
  h.mono fun _ _ ⟨h1, h2⟩ => ⟨h1, by rw [← h2]; exact Below.refl _ _⟩
/-! ### Instants -/
theorem limI_a (n : Int) : min (max n 0) 1099511627776 = limI n := rfl
theorem limI_b (n : Int) : max 0 (min n 1099511627776) = limI n := by unfold limI; omega
theorem limited_any (n : Int) (w : World) : Calls Tryz.prog 58 #[.int .i64 n] w fun e w' => e = .returned (.int .i64 (limI n)) ∧ w = w' := by
  go_enter Tryz.func58, Tryz.ntmps58
  go_wp2
  go_ret
  exact ⟨ret_int (limI_a n), rfl⟩
theorem limit_any (n : Int) (w : World) : Calls Tryz.prog 64 #[.int .i64 n] w fun e w' => e = .returned (.int .i64 (limI n)) ∧ w = w' := by
  go_enter Tryz.func64, Tryz.ntmps64
  go_wp2
  go_ret
  exact ⟨ret_int (limI_b n), rfl⟩
theorem add_any (t d : Int) (w : World) : Calls Tryz.prog 37 #[.int .i64 t, .int .i64 d] w fun e w' => e = .returned (.int .i64 (addC t d)) ∧ w = w' := by
  have r1 := limI_range t
  have r2 := limI_range d
  obtain ⟨a, ha⟩ : ∃ a, limI t = a := ⟨_, rfl⟩
  obtain ⟨b, hb⟩ : ∃ b, limI d = b := ⟨_, rfl⟩
  have HA := Lib.hid ha
  have HB := Lib.hid hb
  rw [ha] at r1
  rw [hb] at r2
  have HR := Lib.hid (show addC t d = limI (a + b) by unfold addC; rw [ha, hb])
  clear ha hb
  have g : IntKind.i64.wrap (a + b) = a + b := IntWalk.i64_in _ (by omega)
  go_enter Tryz.func37, Tryz.ntmps37
  go_wp2_with fail
  refine (limited_any t w).mono ?_
  rintro e w1 ⟨rfl, rfl⟩
  rw [HA.out]
  go_wp2_with fail
  refine (limited_any d w).mono ?_
  rintro e w1 ⟨rfl, rfl⟩
  rw [HB.out]
  go_wp2_with fail
  refine (limited_any (a + b) w).mono ?_
  rintro e w1 ⟨rfl, rfl⟩
  go_wp2
  go_ret
  exact ⟨ret_int HR.out.symm, rfl⟩
theorem radd_any (t d : Int) (w : World) : Calls Tryz.prog 48 #[.int .i64 t, .int .i64 d] w fun e w' => e = .returned (.int .i64 (addC t d)) ∧ w = w' := by
  have r1 := limI_range t
  have r2 := limI_range d
  obtain ⟨a, ha⟩ : ∃ a, limI t = a := ⟨_, rfl⟩
  obtain ⟨b, hb⟩ : ∃ b, limI d = b := ⟨_, rfl⟩
  have HA := Lib.hid ha
  have HB := Lib.hid hb
  rw [ha] at r1
  rw [hb] at r2
  have HR := Lib.hid (show addC t d = limI (a + b) by unfold addC; rw [ha, hb])
  clear ha hb
  have g : IntKind.i64.wrap (a + b) = a + b := IntWalk.i64_in _ (by omega)
  go_enter Tryz.func48, Tryz.ntmps48
  go_wp2_with fail
  refine (limit_any t w).mono ?_
  rintro e w1 ⟨rfl, rfl⟩
  rw [HA.out]
  go_wp2_with fail
  refine (limit_any d w).mono ?_
  rintro e w1 ⟨rfl, rfl⟩
  rw [HB.out]
  go_wp2_with fail
  refine (limit_any (a + b) w).mono ?_
  rintro e w1 ⟨rfl, rfl⟩
  go_wp2
  go_ret
  exact ⟨ret_int HR.out.symm, rfl⟩

/-! ### A scope -/
/-- The variable bytealg.MaxLen holds a number. -/
def MX (w : World) : Prop := ∃ m : Int, w.cell? ⟨1, 0, none⟩ = some (.int .i64 m)
theorem MX.keep {w w' : World} (h : MX w) (h0 : w'.heap[1]? = w.heap[1]?) : MX w' := by
  obtain ⟨m, hm⟩ := h
  exact ⟨m, by rw [World.cell?_of_block (w := w) h0]; exact hm⟩
theorem MX.pos {w : World} (h : MX w) : 1 < w.heap.size := by
  obtain ⟨m, hm⟩ := h
  exact World.block_lt_of_cell? w _ hm
theorem MX.below {w w' : World} (h : MX w) (hb : Below w.heap.size w w') : MX w' := h.keep (hb.block 1 h.pos)
theorem index_dd (s : List UInt8) : decide (0 ≤ Lib.index s [46, 46]) = ddL s := by
  induction s with
  | nil => rfl
  | cons a r ih =>
    cases r with
    | nil => simp [Lib.index, ddL]
    | cons b r =>
      have e : List.isPrefixOf [46, 46] (a :: b :: r) = decide (a = 46 ∧ b = 46) := by
        show ((46 == a) && ((46 == b) && true)) = _
        rw [Bool.and_true, Bool.eq_iff_iff, Bool.and_eq_true, beq_iff_eq, beq_iff_eq, decide_eq_true_eq]
        exact ⟨fun h => ⟨h.1.symm, h.2.symm⟩, fun h => ⟨h.1.symm, h.2.symm⟩⟩
      rw [Lib.index, e, ddL, ← ih]
      by_cases h : a = 46 ∧ b = 46
      · rw [if_pos (by simpa using h)]
        simp [h]
      · rw [if_neg (by simpa using h)]
        have hge := Lib.index_ge (b :: r) [46, 46]
        split
        · next h2 => simp at h2; simp [h, h2]
        · next h2 =>
          simp at h2
          have : 0 ≤ Lib.index (b :: r) [46, 46] := by omega
          simp [this]
          omega
theorem contains_dd (s : List UInt8) : Lib.contains s [46, 46] = ddL s := index_dd s
theorem wrd_ne {s : Bs} (h : wrdL s.data.toList = true) : 0 < s.size ∧ s.size ≤ 64 := by
  simp [wrdL, madeL] at h
  omega
set_option maxHeartbeats 1000000 in
theorem scope_any (s : Bs) (w : World) (hs : s.size ≤ 100000) (hm : MX w) : Calls Tryz.prog 68 #[.string s] w fun e w' => e = .returned (.bool (scp s)) ∧ w = w' := by
  obtain ⟨m, hm⟩ := hm
  have HM := Lib.hid hm
  have HLN := Lib.hid (show s.data.toList.length = s.size by simp)
  clear hm
  cases hw : wrdL s.data.toList with
  | false =>
    have HR := Lib.hid (show scp s = false by unfold scp scpL; rw [hw]; rfl)
    have HW := Lib.hid hw
    clear hw
    go_enter Tryz.func68, Tryz.ntmps68
    go_wp2_with fail
    refine (word_any s w hs).mono ?_
    rintro e w1 ⟨rfl, rfl⟩
    rw [HW.out]
    go_wp2
    go_ret
    exact ⟨ret_bool HR.out.symm, rfl⟩
  | true =>
    have HW := Lib.hid hw
    obtain ⟨z0, z1⟩ := wrd_ne hw
    clear hw
    have hb0 := bAt_str s 0 (by omega)
    have hb1 := bAt_str s (s.size - 1) (by omega)
    have HD := Lib.hid (show scp s = ((decide ((s[0].toNat : Int) ≠ 46) && decide ((s[s.size - 1].toNat : Int) ≠ 46)) && !ddL s.data.toList) by
      unfold scp scpL
      rw [HW.out, HLN.out, hb0, hb1]
      have e : ∀ c : UInt8, decide (c ≠ 46) = decide ((c.toNat : Int) ≠ 46) := fun c => by
        rw [Bool.eq_iff_iff]
        simp only [decide_eq_true_eq]
        constructor
        · intro h h2
          have e46 : (46 : UInt8).toNat = 46 := rfl
          exact h (UInt8.toNat_inj.1 (by omega))
        · intro h h2
          subst h2
          exact h rfl
      rw [e, e, Bool.true_and])
    have g : IntKind.i64.wrap ((s.size : Int) - 1) = ((s.size - 1 : Nat) : Int) := by rw [show (s.size : Int) - 1 = ((s.size - 1 : Nat) : Int) by omega]; exact IntWalk.i64_in _ (by omega)
    have g2 : s.size - 1 < s.size := by omega
    clear hb0 hb1
    by_cases t0 : (s[0].toNat : Int) = 46
    · have HR := Lib.hid (show scp s = false by rw [HD.out]; simp [t0])
      go_enter Tryz.func68, Tryz.ntmps68
      go_wp2_with fail
      refine (word_any s w hs).mono ?_
      rintro e w1 ⟨rfl, rfl⟩
      rw [HW.out]
      go_wp2
      go_ret
      exact ⟨ret_bool HR.out.symm, rfl⟩
    · have t0' : ((s[0].toNat : Int) != 46) = true := by simpa using t0
      by_cases t1 : (s[s.size - 1].toNat : Int) = 46
      · have HR := Lib.hid (show scp s = false by rw [HD.out]; simp [t1])
        clear t0
        go_enter Tryz.func68, Tryz.ntmps68
        go_wp2_with fail
        refine (word_any s w hs).mono ?_
        rintro e w1 ⟨rfl, rfl⟩
        rw [HW.out]
        go_wp2
        go_ret
        exact ⟨ret_bool HR.out.symm, rfl⟩
      · have t1' : ((s[s.size - 1].toNat : Int) != 46) = true := by simpa using t1
        have HR := Lib.hid (show scp s = !ddL s.data.toList by rw [HD.out]; simp [t0, t1])
        clear t0 t1
        go_enter Tryz.func68, Tryz.ntmps68
        go_wp2_with fail
        refine (word_any s w hs).mono ?_
        rintro e w1 ⟨rfl, rfl⟩
        rw [HW.out]
        go_wp2_with fail
        refine (Tryz.strings_Contains s ⟨#[46, 46]⟩ m w (by omega) HM.out).mono ?_
        rintro e w1 ⟨rfl, hw⟩
        subst hw
        rw [show Lib.contains s.data.toList (⟨#[46, 46]⟩ : ByteArray).data.toList = ddL s.data.toList from contains_dd _]
        go_wp2
        go_ret
        exact ⟨ret_bool HR.out.symm, rfl⟩
end Go.Proofs.YtioabjniipkncaaGreatDoor.Rf
