/-
  The walks of layer 5: value.
-/
import Derived.Test.YtjjcbbckihjapaaDoorNaA
namespace Go.Proofs.YtjjcbbckihjapaaDoor.Na
open Go.RowKit Go.Proofs.YtjjcbbckihjapaaDoor.Fo

/-- What a reading of a value knows at place k. -/
def ValI (l : List UInt8) (k : Nat) (out : List UInt8) : Prop := k ≤ l.length ∧ out.length ≤ k ∧ valF l = (valF (l.drop k)).map (out ++ ·)
theorem ValI.zero (l : List UInt8) : ValI l 0 [] := ⟨Nat.zero_le _, Nat.le_refl _, by simp [Option.map_id']⟩
theorem ValI.plain {l out : List UInt8} {k : Nat} (h : ValI l k out) (hk : k < l.length) (h1 : spB (bAt l k) = false) : ValI l (k + 1) (out ++ [bAt l k]) := by
  refine ⟨by omega, by have := h.2.1; simp; omega, ?_⟩
  rw [h.2.2, drop_at hk, valF_plain h1]
  cases valF (l.drop (k + 1)) <;> simp
theorem ValI.esc {l out : List UInt8} {k : Nat} (h : ValI l k out) (hk : k < l.length) (h0 : bAt l k = 92) (hk1 : k + 1 < l.length) (h1 : spB (bAt l (k + 1)) = true) : ValI l (k + 1 + 1) (out ++ [bAt l (k + 1)]) := by
  refine ⟨by omega, by have := h.2.1; simp; omega, ?_⟩
  rw [h.2.2, drop_at hk, drop_at hk1, h0, valF_esc h1]
  cases valF (l.drop (k + 1 + 1)) <;> simp
theorem ValI.done {l out : List UInt8} {k : Nat} (h : ValI l k out) (hk : ¬ k < l.length) : valF l = some out := by
  rw [h.2.2, List.drop_eq_nil_of_le (by omega)]
  simp [valF]
theorem ValI.end {l out : List UInt8} {k : Nat} (h : ValI l k out) (hk : k < l.length) (h0 : bAt l k = 92) (hk1 : ¬ k + 1 < l.length) : valF l = none := by
  rw [h.2.2, drop_at hk, List.drop_eq_nil_of_le (by omega), h0]
  rfl
theorem ValI.bad {l out : List UInt8} {k : Nat} (h : ValI l k out) (hk : k < l.length) (h0 : bAt l k = 92) (hk1 : k + 1 < l.length) (h1 : spB (bAt l (k + 1)) = false) : valF l = none := by
  rw [h.2.2, drop_at hk, drop_at hk1, h0]
  simp [valF, h1]
theorem ValI.sp {l out : List UInt8} {k : Nat} (h : ValI l k out) (hk : k < l.length) (h0 : bAt l k ≠ 92) (h1 : spB (bAt l k) = true) : valF l = none := by
  rw [h.2.2, drop_at hk]
  cases l.drop (k + 1) <;> simp [valF, h1, h0]
/-- A value's answer. -/
def ValIs (w : World) (o : Option (List UInt8)) (e : Ending) (w' : World) : Prop :=
  ∃ t : ByteArray, e = .returned (.tuple #[.string t, .bool o.isSome]) ∧ t.data.toList = o.getD [] ∧ Below w.heap.size w w'
theorem ret_none (o : Option (List UInt8)) (w w' : World) (h : o = none) (hb : Below w.heap.size w w') : ValIs w o (.returned (.tuple #[.string ⟨#[]⟩, .bool false])) w' := ⟨⟨#[]⟩, by rw [h]; rfl, by rw [h]; rfl, hb⟩

set_option maxHeartbeats 4000000 in
theorem value_any (s : ByteArray) (w : World) (hs : s.size ≤ 100000) : Calls Tryd.prog 61 #[.string s] w (ValIs w (valF s.data.toList)) := by
  have HLN := Lib.hid (show s.data.toList.length = s.size by simp)
  have HB0 := Lib.hid (show Below w.heap.size w (w.alloc (.cells #[.pointer none, .slice none 0 0] 55)) from (Below.refl _ w).alloc (Nat.le_refl _) _)
  go_enter Tryd.func61, Tryd.ntmps61
  go_wp2
  go_loopw [5, 2] (fun i _ wr => ∃ (k : Nat) (out : List UInt8), i = .int .i64 k ∧ Hid (ValI s.data.toList k out) ∧ Hid (Lib.IsBuilder 55 5 w.heap.size w.heap.size (Lib.byteCells out) wr) ∧ Below w.heap.size w wr) (fun i _ _ => s.size - (intOf i).toNat)
  case atStart => exact ⟨0, [], rfl, ValI.zero _, Lib.fresh_isBuilder _ _ w, HB0.out⟩
  case round =>
    obtain ⟨k, out, rfl, HA, HO, hb⟩ := hrel
    have HB := Lib.hid hb
    have hbz := hb.size
    have hko : out.length ≤ k ∧ k ≤ s.size := by have := HA.out.1; have := HA.out.2.1; have := HLN.out; omega
    clear hb
    by_cases hlt : k < s.size
    · have HL := Lib.hid (show k < s.data.toList.length by rw [HLN.out]; exact hlt)
      have HBK := Lib.hid (bAt_str s k hlt)
      have gk : IntKind.i64.wrap ((k : Int) + 1) = ((k + 1 : Nat) : Int) := IntWalk.i64_in _ (by omega)
      by_cases h92 : (s[k]'hlt) = 92
      · have g92 : (((s[k]'hlt).toNat : Int) == 92) = true := by rw [h92]; rfl
        have H92 := Lib.hid (show bAt s.data.toList k = 92 by rw [HBK.out]; exact h92)
        clear h92
        by_cases hlt2 : k + 1 < s.size
        · have HL2 := Lib.hid (show k + 1 < s.data.toList.length by rw [HLN.out]; exact hlt2)
          have HBK2 := Lib.hid (bAt_str s (k + 1) hlt2)
          cases hsp : spB (s[k + 1]'hlt2) with
          | true =>
            have HS := Lib.hid hsp
            have HX := Lib.hid (HA.out.esc HL.out H92.out HL2.out (by rw [HBK2.out]; exact hsp))
            have gk2 : IntKind.i64.wrap (((k + 1 : Nat) : Int) + 1) = ((k + 1 + 1 : Nat) : Int) := IntWalk.i64_in _ (by omega)
            have ge : decide (((k + 1 : Nat) : Int) = (s.size : Int)) = false := by simp; omega
            clear hsp
            go_wp2_with (first | (go_at_call 44; refine (special_is _ _ _ HS.out).mono ?_; rintro e w1 ⟨rfl, rfl⟩) | (go_at_call 41; refine (Tryd.Builder_WriteByte w.heap.size w.heap.size (Lib.byteCells out) (((s[k + 1]'hlt2)).toNat : Int) _ HO.out (by rw [Lib.byteCells_length]; omega) hbz).mono ?_; rintro e w1 ⟨rfl, hO1, hb1⟩; have HO1 := Lib.hid hO1; have HB1 := Lib.hid (HB.out.trans hb1); clear hO1 hb1))
            go_roundw
            case rel => exact ⟨k + 1 + 1, out ++ [(s[k + 1]'hlt2)], by go_num, (by rw [← HBK2.out]; exact HX.out), Or.inr (by rw [Lib.byteCells_append]; exact HO1.out), HB1.out⟩
            case measure => simp [intOf]; omega
          | false =>
            have HS := Lib.hid hsp
            have HR := Lib.hid (HA.out.bad HL.out H92.out HL2.out (by rw [HBK2.out]; exact hsp))
            have ge : decide (((k + 1 : Nat) : Int) = (s.size : Int)) = false := by simp; omega
            clear hsp
            go_wp2_with (go_at_call 44; refine (special_is _ _ _ HS.out).mono ?_; rintro e w1 ⟨rfl, rfl⟩)
            go_ret2
            exact ret_none _ _ _ HR.out HB.out
        · have HR := Lib.hid (HA.out.end HL.out H92.out (by rw [HLN.out]; exact hlt2))
          have e : k + 1 = s.size := by omega
          have ge : decide (((k + 1 : Nat) : Int) = (s.size : Int)) = true := by simp; omega
          go_wp2
          go_ret2
          exact ret_none _ _ _ HR.out HB.out
      · have g92 : (((s[k]'hlt).toNat : Int) == 92) = false := by simpa using u8_ne h92
        have H92 := Lib.hid (show bAt s.data.toList k ≠ 92 by rw [HBK.out]; exact h92)
        clear h92
        cases hsp : spB (s[k]'hlt) with
        | true =>
          have HS := Lib.hid hsp
          have HR := Lib.hid (HA.out.sp HL.out H92.out (by rw [HBK.out]; exact hsp))
          clear hsp
          go_wp2_with (go_at_call 44; refine (special_is _ _ _ HS.out).mono ?_; rintro e w1 ⟨rfl, rfl⟩)
          go_ret2
          exact ret_none _ _ _ HR.out HB.out
        | false =>
          have HS := Lib.hid hsp
          have HX := Lib.hid (HA.out.plain HL.out (by rw [HBK.out]; exact hsp))
          clear hsp
          go_wp2_with (first | (go_at_call 44; refine (special_is _ _ _ HS.out).mono ?_; rintro e w1 ⟨rfl, rfl⟩) | (go_at_call 41; refine (Tryd.Builder_WriteByte w.heap.size w.heap.size (Lib.byteCells out) (((s[k]'hlt)).toNat : Int) _ HO.out (by rw [Lib.byteCells_length]; omega) hbz).mono ?_; rintro e w1 ⟨rfl, hO1, hb1⟩; have HO1 := Lib.hid hO1; have HB1 := Lib.hid (HB.out.trans hb1); clear hO1 hb1))
          go_roundw
          case rel => exact ⟨k + 1, out ++ [(s[k]'hlt)], by go_num, (by rw [← HBK.out]; exact HX.out), Or.inr (by rw [Lib.byteCells_append]; exact HO1.out), HB1.out⟩
          case measure => simp [intOf]; omega
    · have HR := Lib.hid (HA.out.done (by rw [HLN.out]; exact hlt))
      go_wp2_with (go_at_call 45; refine (Tryd.Builder_String_any w.heap.size w.heap.size out _ HO.out hbz).mono ?_; rintro e w1 ⟨rfl, hb1⟩; have HB1 := Lib.hid (HB.out.trans hb1); clear hb1)
      go_ret2
      exact ⟨_, by rw [HR.out]; rfl, by rw [HR.out]; simp, HB1.out⟩
/-- .. of a text without an open comma. -/
def ValR (l : List UInt8) (k : Nat) (out : List UInt8) : Prop := ValI l k out ∧ nxt 44 (l.drop k) = (l.drop k).length
theorem ValR.zero {l : List UInt8} (h : nxt 44 l = l.length) : ValR l 0 [] := ⟨ValI.zero l, by simpa using h⟩
theorem ValR.ne {l out : List UInt8} {k : Nat} (h : ValR l k out) (hk : k < l.length) : bAt l k ≠ 44 := by
  intro e
  have := h.2
  rw [drop_at hk, e, nxt_at] at this
  simp at this
theorem ValR.plain {l out : List UInt8} {k : Nat} (h : ValR l k out) (hk : k < l.length) (h1 : spB (bAt l k) = false) : ValR l (k + 1) (out ++ [bAt l k]) := by
  refine ⟨h.1.plain hk h1, ?_⟩
  have := h.2
  rw [drop_at hk, nxt_plain 44 _ _ (spB_ne h1).1 (spB_ne h1).2.2.2, List.length_cons] at this
  omega
theorem ValR.esc {l out : List UInt8} {k : Nat} (h : ValR l k out) (hk : k < l.length) (h0 : bAt l k = 92) (hk1 : k + 1 < l.length) (h1 : spB (bAt l (k + 1)) = true) : ValR l (k + 1 + 1) (out ++ [bAt l (k + 1)]) := by
  refine ⟨h.1.esc hk h0 hk1 h1, ?_⟩
  have := h.2
  rw [drop_at hk, drop_at hk1, h0, nxt_esc 44 _ _ (by decide), List.length_cons, List.length_cons] at this
  omega

set_option maxHeartbeats 4000000 in
theorem rvalue_any (s : ByteArray) (w : World) (hs : s.size ≤ 100000) (hc : nxt 44 s.data.toList = s.data.toList.length) : Calls Tryd.prog 66 #[.string s] w (ValIs w (valF s.data.toList)) := by
  obtain ⟨i0, hi, hz0, hz1, hz2⟩ := info_parts byte_info
  have HLN := Lib.hid (show s.data.toList.length = s.size by simp)
  have HC := Lib.hid hc
  have HB0 := Lib.hid (Below.refl w.heap.size w)
  clear hc
  go_enter Tryd.func66, Tryd.ntmps66
  go_wp2
  go_loopw [5, 2, 4] (fun i _ v wr => ∃ (k m : Nat) (l : List UInt8) (A : Option Addr) (cc : Nat), i = .int .i64 k ∧ v = .slice A m cc ∧ Hid (ValR s.data.toList k l) ∧ Hid (OwnS wr w.heap.size A m cc l) ∧ Below w.heap.size w wr) (fun i _ _ _ => s.size - (intOf i).toNat)
  case atStart => exact ⟨0, 0, [], none, 0, rfl, rfl, ValR.zero HC.out, OwnS.nil _ _, HB0.out⟩
  case round =>
    obtain ⟨k, m, l, A, cc, rfl, rfl, HA, HO, hb⟩ := hrel
    have HB := Lib.hid hb
    have hbz := hb.size
    have hko : m ≤ k ∧ k ≤ s.size := by have := HA.out.1.1; have := HA.out.1.2.1; have := HLN.out; have := HO.out.1; omega
    clear hb
    by_cases hlt : k < s.size
    · have HL := Lib.hid (show k < s.data.toList.length by rw [HLN.out]; exact hlt)
      have HBK := Lib.hid (bAt_str s k hlt)
      have gk : IntKind.i64.wrap ((k : Int) + 1) = ((k + 1 : Nat) : Int) := IntWalk.i64_in _ (by omega)
      by_cases h92 : (s[k]'hlt) = 92
      · have g92 : (((s[k]'hlt).toNat : Int) == 92) = true := by rw [h92]; rfl
        have H92 := Lib.hid (show bAt s.data.toList k = 92 by rw [HBK.out]; exact h92)
        clear h92
        by_cases hlt2 : k + 1 < s.size
        · have HL2 := Lib.hid (show k + 1 < s.data.toList.length by rw [HLN.out]; exact hlt2)
          have HBK2 := Lib.hid (bAt_str s (k + 1) hlt2)
          have ge : decide (((s.size : Nat) : Int) ≤ ((k + 1 : Nat) : Int)) = false := by simp; omega
          cases hsp : spB (s[k + 1]'hlt2) with
          | true =>
            have HS := Lib.hid hsp
            have HX := Lib.hid (HA.out.esc HL.out H92.out HL2.out (by rw [HBK2.out]; exact hsp))
            have gk2 : IntKind.i64.wrap (((k + 1 : Nat) : Int) + 1) = ((k + 1 + 1 : Nat) : Int) := IntWalk.i64_in _ (by omega)
            clear hsp
            go_wp2_with (first | (go_at_call 50; refine (rspecial_is _ _ _ HS.out).mono ?_; rintro e w1 ⟨rfl, rfl⟩) | (at_builtin; go_must (refine wpList_append_own_at _ rfl (.tmp 41) (.tmp 45) _ rfl w.heap.size 5 i0 _ 1 1 Tryd.underlying53 hi hz0 hz1 hz2 rfl (by decide) (.slice A m cc) m (bytesV l) rfl (HO.out.row _) ⟨wr.heap.size, 0, none⟩ 1 1 [.int .u8 ((s[k + 1]'hlt2).toNat : Int)] rfl rfl (one_src _ _ _) (one_one _) (by simp only [maxLen]; omega) (by omega) (by simp; omega) ?_); intro v' w3 hown1 hgrow hnil hat; have HB3 := Lib.hid (OwnS.grow (HO.out.row _) HB.out (Nat.le_refl _) hgrow); obtain ⟨A1, c1, rfl, hO1⟩ := OwnS.snoc HO.out.1 hown1; have HO1 := Lib.hid hO1; clear hown1 hgrow hnil hat hO1))
            go_roundw
            case rel => exact ⟨k + 1 + 1, m + 1, l ++ [(s[k + 1]'hlt2)], A1, c1, by go_num, rfl, (by rw [← HBK2.out]; exact HX.out), HO1.out, HB3.out⟩
            case measure => simp [intOf]; omega
          | false =>
            have HS := Lib.hid hsp
            have HR := Lib.hid (HA.out.1.bad HL.out H92.out HL2.out (by rw [HBK2.out]; exact hsp))
            clear hsp
            go_wp2_with (go_at_call 50; refine (rspecial_is _ _ _ HS.out).mono ?_; rintro e w1 ⟨rfl, rfl⟩)
            go_ret2
            exact ret_none _ _ _ HR.out HB.out
        · have HR := Lib.hid (HA.out.1.end HL.out H92.out (by rw [HLN.out]; exact hlt2))
          have ge : decide (((s.size : Nat) : Int) ≤ ((k + 1 : Nat) : Int)) = true := by simp; omega
          go_wp2
          go_ret2
          exact ret_none _ _ _ HR.out HB.out
      · have g92 : (((s[k]'hlt).toNat : Int) == 92) = false := by simpa using u8_ne h92
        have H92 := Lib.hid (show bAt s.data.toList k ≠ 92 by rw [HBK.out]; exact h92)
        have HNE := Lib.hid (show (s[k]'hlt) ≠ 44 by rw [← HBK.out]; exact HA.out.ne HL.out)
        by_cases h61 : (s[k]'hlt) = 61
        · have HR := Lib.hid (HA.out.1.sp HL.out H92.out (by rw [HBK.out, h61]; rfl))
          have g61 : (((s[k]'hlt).toNat : Int) == 61) = true := by rw [h61]; rfl
          clear h92 h61
          go_wp2
          go_ret2
          exact ret_none _ _ _ HR.out HB.out
        · have g61 : (((s[k]'hlt).toNat : Int) == 61) = false := by simpa using u8_ne h61
          by_cases h43 : (s[k]'hlt) = 43
          · have HR := Lib.hid (HA.out.1.sp HL.out H92.out (by rw [HBK.out, h43]; rfl))
            have g43 : (((s[k]'hlt).toNat : Int) == 43) = true := by rw [h43]; rfl
            clear h92 h61 h43
            go_wp2
            go_ret2
            exact ret_none _ _ _ HR.out HB.out
          · have g43 : (((s[k]'hlt).toNat : Int) == 43) = false := by simpa using u8_ne h43
            have HX := Lib.hid (HA.out.plain HL.out (by rw [HBK.out]; exact spB_no HNE.out h61 h43 h92))
            clear h92 h61 h43
            go_wp2_with (at_builtin; go_must (refine wpList_append_own_at _ rfl (.tmp 41) (.tmp 45) _ rfl w.heap.size 5 i0 _ 1 1 Tryd.underlying53 hi hz0 hz1 hz2 rfl (by decide) (.slice A m cc) m (bytesV l) rfl (HO.out.row _) ⟨wr.heap.size, 0, none⟩ 1 1 [.int .u8 ((s[k]'hlt).toNat : Int)] rfl rfl (one_src _ _ _) (one_one _) (by simp only [maxLen]; omega) (by omega) (by simp; omega) ?_); intro v' w3 hown1 hgrow hnil hat; have HB3 := Lib.hid (OwnS.grow (HO.out.row _) HB.out (Nat.le_refl _) hgrow); obtain ⟨A1, c1, rfl, hO1⟩ := OwnS.snoc HO.out.1 hown1; have HO1 := Lib.hid hO1; clear hown1 hgrow hnil hat hO1)
            go_roundw
            case rel => exact ⟨k + 1, m + 1, l ++ [(s[k]'hlt)], A1, c1, by go_num, rfl, (by rw [← HBK.out]; exact HX.out), HO1.out, HB3.out⟩
            case measure => simp [intOf]; omega
    · have HR := Lib.hid (HA.out.1.done (by rw [HLN.out]; exact hlt))
      have hcv := HO.out.str
      go_wp2
      go_ret2
      exact ⟨_, by rw [HR.out]; rfl, by rw [HR.out]; simp, HB.out⟩
end Go.Proofs.YtjjcbbckihjapaaDoor.Na
