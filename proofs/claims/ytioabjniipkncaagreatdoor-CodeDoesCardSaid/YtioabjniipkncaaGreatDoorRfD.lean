/-
  The walks of scopes: Check, both; slices.Clone; the comparison of lists and of grants; small functions of the law.
-/
import Derived.Test.YtioabjniipkncaaGreatDoorRfC
import Derived.Laws.OwnMore
namespace Go.Proofs.YtioabjniipkncaaGreatDoor.Rf
open Go.RowKit Go.Proofs.YtioabjniipkncaaGreatDoor.Fo

theorem contS (l : List Bs) (x : Bs) : Lib.containsS l x = memB x l := by
  rw [Bool.eq_iff_iff, Lib.containsS_iff, memB_iff]
theorem take_succ' {l : List Bs} {k : Nat} (h : k < l.length) : l.take (k + 1) = l.take k ++ [sAt l k] := by
  rw [List.take_succ_eq_append_getElem h, sAt_get]
theorem chkS_long {l : List Bs} (h : 16 < l.length) : chkS l = 3 := by unfold chkS; rw [if_pos h]
theorem chkS_scan {l : List Bs} (h : ¬ 16 < l.length) : chkS l = scanS [] l := by unfold chkS; rw [if_neg h]
theorem scanS_bad {d r : List Bs} {x : Bs} (h : scp x = false) : scanS d (x :: r) = 5 := by rw [scanS, if_pos h]
theorem scanS_two {d r : List Bs} {x : Bs} (h : scp x = true) (h2 : memB x d = true) : scanS d (x :: r) = 7 := by rw [scanS, if_neg (by simp [h]), if_pos h2]
theorem scanS_go {d r : List Bs} {x : Bs} (h : scp x = true) (h2 : memB x d = false) : scanS d (x :: r) = scanS (d ++ [x]) r := by rw [scanS, if_neg (by simp [h]), if_neg (by simp [h2])]
set_option maxHeartbeats 1000000 in
theorem check_any (A : Option Addr) (n c : Nat) (l : List Bs) (w : World) (hl : Ss w A n c l) (hsh : Short l) (hn : n ≤ 100000) (hm : MX w) :
    Calls Tryz.prog 56 #[.slice A n c] w fun e w' => e = .returned (.int .i64 (chkS l)) ∧ w = w' := by
  have HL := Lib.hid hl
  have HLN := Lib.hid hl.1
  have hnc := hl.2.1
  have HSH := Lib.hid hsh
  have HM := Lib.hid hm
  clear hl hsh hm
  by_cases h16 : 16 < n
  · have HR := Lib.hid (chkS_long (l := l) (by rw [HLN.out]; exact h16))
    go_enter Tryz.func56, Tryz.ntmps56
    go_wp2
    go_ret
    exact ⟨ret_int HR.out.symm, rfl⟩
  · have HR := Lib.hid (chkS_scan (l := l) (by rw [HLN.out]; exact h16))
    go_enter Tryz.func56, Tryz.ntmps56
    go_wp2
    go_loop [10, 3, 4] (fun i _ _ => ∃ k : Nat, i = .int .i64 k ∧ k ≤ n ∧ Hid (chkS l = scanS (l.take k) (l.drop k))) (fun i _ _ => n - (intOf i).toNat)
    case atStart => exact ⟨0, rfl, Nat.zero_le _, by rw [List.drop_zero, List.take_zero]; exact HR.out⟩
    case round =>
      obtain ⟨k, rfl, hk, HI⟩ := hrel
      by_cases hlt : k < n
      · obtain ⟨b, off, rfl, hbl, hc⟩ := HL.out.2.2 (by omega)
        have HC := Lib.hid hc
        have hck := hc k hlt
        have HD := Lib.hid (ss_drop l k (by rw [HLN.out]; exact hlt))
        have HT := Lib.hid (take_succ' (l := l) (k := k) (by rw [HLN.out]; exact hlt))
        have HZ := Lib.hid (HSH.out k (by rw [HLN.out]; exact hlt))
        obtain ⟨x, hx⟩ : ∃ x, sAt l k = x := ⟨_, rfl⟩
        rw [hx] at hck HD HZ HT
        clear hx hc
        cases hv : scp x with
        | false =>
          have HF := Lib.hid (show chkS l = 5 by rw [HI.out, HD.out, scanS_bad hv])
          have HV := Lib.hid hv
          clear hv
          go_wp2_with (go_at_call 68; refine (scope_is x w HZ.out HM.out false HV.out).mono ?_; rintro e w1 ⟨rfl, rfl⟩)
          go_ret
          exact ⟨ret_int HF.out.symm, rfl⟩
        | true =>
          have HV := Lib.hid hv
          cases ht : memB x (l.take k) with
          | true =>
            have HF := Lib.hid (show chkS l = 7 by rw [HI.out, HD.out, scanS_two hv ht])
            have HX := Lib.hid ht
            clear hv ht
            go_wp2_with fail
            refine (scope_is x w HZ.out HM.out true HV.out).mono ?_
            rintro e w1 ⟨rfl, rfl⟩
            go_wp2_with fail
            refine (Tryz.slices_Contains_string b off k _ l x w (by rw [HLN.out]; omega) (by omega) (fun j hj => HC.out j (by rw [← HLN.out]; exact hj))).mono ?_
            rintro e w1 ⟨rfl, hw⟩
            subst hw
            rw [contS, HX.out]
            go_wp2
            go_ret
            exact ⟨ret_int HF.out.symm, rfl⟩
          | false =>
            have HF := Lib.hid (show chkS l = scanS (l.take (k + 1)) (l.drop (k + 1)) by rw [HI.out, HD.out, scanS_go hv ht, HT.out])
            have HX := Lib.hid ht
            clear hv ht
            go_wp2_with fail
            refine (scope_is x w HZ.out HM.out true HV.out).mono ?_
            rintro e w1 ⟨rfl, rfl⟩
            go_wp2_with fail
            refine (Tryz.slices_Contains_string b off k _ l x w (by rw [HLN.out]; omega) (by omega) (fun j hj => HC.out j (by rw [← HLN.out]; exact hj))).mono ?_
            rintro e w1 ⟨rfl, hw⟩
            subst hw
            rw [contS, HX.out]
            go_wp2
            go_round
            case rel => exact ⟨k + 1, by go_num, by omega, HF.out⟩
            case measure => simp [intOf]; omega
      · have HF := Lib.hid (show chkS l = 0 by rw [HI.out, List.drop_eq_nil_of_le (by rw [HLN.out]; omega)]; rfl)
        go_wp2
        go_ret
        exact ⟨ret_int HF.out.symm, rfl⟩

theorem memB_take {l : List Bs} {k : Nat} {x : Bs} (hk : k ≤ l.length) (h : ∀ q, q < k → sAt l q ≠ x) : memB x (l.take k) = false := by
  rw [Bool.eq_false_iff]
  intro h2
  obtain ⟨i, hi, e⟩ := List.getElem_of_mem (memB_iff.1 h2)
  have hi' : i < k := by simp at hi; omega
  rw [List.getElem_take, sAt_get] at e
  exact h i hi' e
theorem memB_at {l : List Bs} {k j : Nat} {x : Bs} (hj : j < k) (hk : k ≤ l.length) (h : sAt l j = x) : memB x (l.take k) = true := by
  rw [memB_iff, ← h, ← sAt_get l j (by omega)]
  rw [List.mem_iff_getElem]
  exact ⟨j, by simp; omega, by simp⟩
set_option maxHeartbeats 2000000 in
theorem rcheck_any (A : Option Addr) (n c : Nat) (l : List Bs) (w : World) (hl : Ss w A n c l) (hsh : Short l) (hn : n ≤ 100000) :
    Calls Tryz.prog 47 #[.slice A n c] w fun e w' => e = .returned (.int .i64 (chkS l)) ∧ Below w.heap.size w w' := by
  have HL := Lib.hid hl
  have HLN := Lib.hid hl.1
  have HSH := Lib.hid hsh
  clear hl hsh
  by_cases h16 : 16 < n
  · have HR := Lib.hid (chkS_long (l := l) (by rw [HLN.out]; exact h16))
    go_enter Tryz.func47, Tryz.ntmps47
    go_wp2
    go_ret
    exact ⟨ret_int HR.out.symm, Below.refl _ _⟩
  · have HR := Lib.hid (chkS_scan (l := l) (by rw [HLN.out]; exact h16))
    go_enter Tryz.func47, Tryz.ntmps47
    go_wp2
    go_loopw [3] (fun i wr => ∃ k : Nat, i = .int .i64 k ∧ k ≤ n ∧ Hid (chkS l = scanS (l.take k) (l.drop k)) ∧ Below w.heap.size w wr) (fun i _ => n - (intOf i).toNat)
    case atStart => exact ⟨0, rfl, Nat.zero_le _, by rw [List.drop_zero, List.take_zero]; exact HR.out, Below.refl _ _⟩
    case round =>
      obtain ⟨k, rfl, hk, HI, hb⟩ := hrel
      have HB := Lib.hid hb
      have HLW := Lib.hid (HL.out.below hb)
      clear hb
      by_cases hlt : k < n
      · obtain ⟨b, off, rfl, hbl, hc⟩ := HLW.out.2.2 (by omega)
        have HC := Lib.hid hc
        have hck := hc k hlt
        have HD := Lib.hid (ss_drop l k (by rw [HLN.out]; exact hlt))
        have HT := Lib.hid (take_succ' (l := l) (k := k) (by rw [HLN.out]; exact hlt))
        have HZ := Lib.hid (HSH.out k (by rw [HLN.out]; exact hlt))
        obtain ⟨x, hx⟩ : ∃ x, sAt l k = x := ⟨_, rfl⟩
        rw [hx] at hck HD HZ HT
        clear hx hc
        cases hv : scp x with
        | false =>
          have HF := Lib.hid (show chkS l = 5 by rw [HI.out, HD.out, scanS_bad hv])
          have HV := Lib.hid hv
          clear hv
          go_wp2_with (go_at_call 63; refine (rscope_is x wr HZ.out false HV.out).mono ?_; rintro e w1 ⟨rfl, rfl⟩)
          go_ret
          exact ⟨ret_int HF.out.symm, HB.out⟩
        | true =>
          have HV := Lib.hid hv
          clear hv
          go_wp2_with (go_at_call 63; refine (rscope_is x wr HZ.out true HV.out).mono ?_; rintro e w1 ⟨rfl, rfl⟩)
          go_loopw [4] (fun i wq => ∃ j : Nat, i = .int .i64 j ∧ j ≤ k ∧ Hid (∀ q, q < j → sAt l q ≠ x) ∧ Below wr.heap.size wr wq) (fun i _ => k - (intOf i).toNat)
          case atStart => exact ⟨0, rfl, Nat.zero_le _, (fun q hq => absurd hq (by omega)), Below.refl _ _⟩
          case round =>
            obtain ⟨j, rfl, hj, HJ, hb2⟩ := hrel
            rename_i wq
            have HB2 := Lib.hid hb2
            by_cases hlt2 : j < k
            · have hcj := (bkeep hb2 hbl (off + j)).trans (HC.out j (by omega))
              have hck2 := (bkeep hb2 hbl (off + k)).trans hck
              have hjn : j < n := by omega
              obtain ⟨y, hy⟩ : ∃ y, sAt l j = y := ⟨_, rfl⟩
              have HY := Lib.hid hy
              rw [hy] at hcj
              clear hy hck hb2
              by_cases hyx : y = x
              · have HF := Lib.hid (show chkS l = 7 by rw [HI.out, HD.out, scanS_two HV.out (memB_at hlt2 (by rw [HLN.out]; omega) (HY.out.trans hyx))])
                have he : (y.toList == x.toList) = true := by rw [eq_toList]; simpa using hyx
                clear hyx
                go_wp2_with fail
                go_quiet (fail)
                go_wp2
                go_ret
                exact ⟨ret_int HF.out.symm, below_drewN (HB.out.trans (HB2.out.mono HB.out.size)) _⟩
              · have HJ2 := Lib.hid (show ∀ q, q < j + 1 → sAt l q ≠ x from fun q hq => if e : q = j then by rw [e, HY.out]; exact hyx else HJ.out q (by omega))
                have he : (y.toList == x.toList) = false := by rw [eq_toList]; simpa using hyx
                clear hyx
                go_wp2_with fail
                go_quiet (fail)
                go_wp2
                go_roundw
                case rel => exact ⟨j + 1, by go_num, by omega, HJ2.out, below_drewN HB2.out _⟩
                case measure => simp [intOf]; omega
            · have ej : j = k := by omega
              have HF := Lib.hid (show chkS l = scanS (l.take (k + 1)) (l.drop (k + 1)) by rw [HI.out, HD.out, scanS_go HV.out (memB_take (by rw [HLN.out]; omega) (fun q hq => HJ.out q (by omega))), HT.out])
              clear hck hb2 ej
              go_wp2
              go_roundw
              case rel => exact ⟨k + 1, by go_num, by omega, HF.out, HB.out.trans (HB2.out.mono HB.out.size)⟩
              case measure => simp [intOf]; omega
      · have HF := Lib.hid (show chkS l = 0 by rw [HI.out, List.drop_eq_nil_of_le (by rw [HLN.out]; omega)]; rfl)
        go_wp2
        go_ret
        exact ⟨ret_int HF.out.symm, HB.out⟩

/-! ### slices.Clone -/
def stV (l : List Bs) : List Value := l.map fun s => .string s
/-- An owned row of strings. -/
def Own1 (w : World) (base : Nat) (v : Value) (l : List Bs) : Prop := w.ownsRow base 9 1 v l.length (stV l)
theorem Own1.nil (w : World) (base : Nat) : Own1 w base (.slice none 0 0) [] := World.ownsRow_nil _ _ _ _
theorem Own1.form {w : World} {base : Nat} {v : Value} {l : List Bs} (h : Own1 w base v l) : ∃ A c, v = .slice A l.length c := by
  rcases h.2 with ⟨hv, hn⟩ | ⟨g, cap, cur, hv, _⟩
  · exact ⟨none, 0, by rw [hv, hn]⟩
  · exact ⟨_, _, hv⟩
theorem Own1.ss {w : World} {base : Nat} {A : Option Addr} {n c : Nat} {l : List Bs} (h : Own1 w base (.slice A n c) l) : Ss w A n c l ∧ n = l.length := by
  have h2 := h.2
  rcases h2 with ⟨hv, hn⟩ | ⟨g, cap, cur, hv, hg, hh, hnc, hcm, hcs, ht⟩
  · injection hv with e1 e2 e3
    subst e1; subst e2; subst e3
    have : l = [] := List.eq_nil_of_length_eq_zero hn
    subst this
    exact ⟨⟨rfl, Nat.le_refl _, fun h => absurd h (by simp)⟩, rfl⟩
  · injection hv with e1 e2 e3
    subst e1; subst e2; subst e3
    refine ⟨⟨rfl, hnc, fun h0 => ⟨g, 0, rfl, (Array.getElem?_eq_some_iff.1 hh).1, fun i hi => ?_⟩⟩, rfl⟩
    rw [Nat.zero_add]
    have e : w.cell? ⟨g, i, none⟩ = (stV l)[i]? := by
      rw [← ht, List.getElem?_take, if_pos (by omega)]
      simp [World.cell?, hh]
    rw [e]
    simp [stV, sAt, List.getD, hi]
theorem Own1.below {w w' : World} {base : Nat} {v : Value} {l : List Bs} (h : Own1 w base v l) (hb : Below w.heap.size w w') : Own1 w' base v l :=
  World.ownsRow.kept (row := none) h ⟨hb.os, hb.tape, hb.output, hb.size, fun k hk _ => hb.block k hk⟩ (by cases v.ownBlock <;> simp)
theorem clone_any (A : Option Addr) (n c : Nat) (l : List Bs) (w : World) (hl : Ss w A n c l) (hn : n ≤ 100000) :
    Calls Tryz.prog 36 #[.slice A n c] w fun e w' => ∃ B d, e = .returned (.slice B n d) ∧ Own1 w' w.heap.size (.slice B n d) l ∧ Below w.heap.size w w' := by
  have hln := hl.1
  rcases Nat.eq_zero_or_pos n with h0 | h0
  · subst h0
    have hl0 : l = [] := List.eq_nil_of_length_eq_zero hln
    subst hl0
    cases A with
    | none => exact (Tryz.slices_Clone_string_nil 0 c w).mono fun _ _ ⟨h1, h2⟩ => ⟨none, 0, h1, Own1.nil _ _, by rw [h2]; exact Below.refl _ _⟩
    | some a =>
      refine (Tryz.slices_Clone_string_zero a c w).mono fun _ _ ⟨v', h1, h2, _, h4⟩ => ?_
      have ho : Own1 _ w.heap.size v' [] := h2
      obtain ⟨B, d, rfl⟩ := ho.form
      exact ⟨B, d, h1, ho, h4⟩
  · obtain ⟨b, off, rfl, hb, hc⟩ := hl.2.2 h0
    refine (Tryz.slices_Clone_string b off n c l w (by omega) (by omega) (fun j hj => hc j (by omega))).mono fun _ w' ⟨v', h1, h2, _, h4⟩ => ?_
    rw [List.take_of_length_le (by omega)] at h2
    have ho : Own1 w' w.heap.size v' l := by unfold Own1; rw [hln]; exact h2
    obtain ⟨B, d, rfl⟩ := ho.form
    rw [hln] at ho h1
    exact ⟨B, d, h1, ho, h4⟩
end Go.Proofs.YtioabjniipkncaaGreatDoor.Rf
