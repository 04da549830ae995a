/-
  The walks of layer 5: special, index, next.
-/
import Derived.Test.YtjjcbbckihjapaaDoorNaQ
import Derived.Test.YtjjcbbckihjapaaDoorShelfW
namespace Go.Proofs.YtjjcbbckihjapaaDoor.Na
open Go.RowKit Go.Proofs.YtjjcbbckihjapaaDoor.Fo

theorem special_any (c : UInt8) (w : World) :
    Calls Tryd.prog 44 #[.int .u8 (c.toNat : Int)] w fun e w' => e = .returned (.bool (spB c)) ∧ w = w' := by
  go_enter Tryd.func44, Tryd.ntmps44
  go_wp2
  all_goals (go_ret; exact ⟨ret_bool (by rw [Bool.eq_iff_iff]; simp [spB]; omega), rfl⟩)
theorem rspecial_any (c : UInt8) (w : World) :
    Calls Tryd.prog 50 #[.int .u8 (c.toNat : Int)] w fun e w' => e = .returned (.bool (spB c)) ∧ w = w' := by
  go_enter Tryd.func50, Tryd.ntmps50
  go_wp2
  all_goals (go_ret; exact ⟨ret_bool (by rw [Bool.eq_iff_iff]; simp [spB]; omega), rfl⟩)

theorem special_is (c : UInt8) (w : World) (b : Bool) (h : spB c = b) : Calls Tryd.prog 44 #[.int .u8 (c.toNat : Int)] w fun e w' => e = .returned (.bool b) ∧ w = w' := by
  rw [← h]; exact special_any c w
theorem rspecial_is (c : UInt8) (w : World) (b : Bool) (h : spB c = b) : Calls Tryd.prog 50 #[.int .u8 (c.toNat : Int)] w fun e w' => e = .returned (.bool b) ∧ w = w' := by
  rw [← h]; exact rspecial_any c w

theorem spB_no {x : UInt8} (h1 : x ≠ 44) (h2 : x ≠ 61) (h3 : x ≠ 43) (h4 : x ≠ 92) : spB x = false := by
  have e : ∀ {a b : UInt8}, a ≠ b → a.toNat ≠ b.toNat := fun h e => h (UInt8.toNat_inj.1 e)
  have a1 := e h1; have a2 := e h2; have a3 := e h3; have a4 := e h4
  simp [spB] at *
  omega

/-- What a scan at place i knows. -/
def ScI (c : UInt8) (l : List UInt8) (i : Nat) : Prop := i ≤ l.length + 1 ∧ nxt c l = min l.length (i + nxt c (l.drop i))
theorem ScI.zero (c : UInt8) (l : List UInt8) : ScI c l 0 := ⟨Nat.zero_le _, by have := nxt_le c l; simp; omega⟩
theorem drop_at {l : List UInt8} {i : Nat} (h : i < l.length) : l.drop i = bAt l i :: l.drop (i + 1) := by
  rw [List.drop_eq_getElem_cons h, bAt_get l i h]
theorem ScI.found {c : UInt8} {l : List UInt8} {i : Nat} (h : ScI c l i) (hi : i < l.length) (hb : bAt l i = c) : nxt c l = i := by
  have := h.2
  rw [drop_at hi, hb, nxt_at] at this
  omega
theorem ScI.plain {c : UInt8} {l : List UInt8} {i : Nat} (h : ScI c l i) (hi : i < l.length) (h1 : bAt l i ≠ c) (h2 : bAt l i ≠ 92) : ScI c l (i + 1) := by
  refine ⟨by omega, ?_⟩
  have := h.2
  rw [drop_at hi, nxt_plain c _ _ h1 h2] at this
  omega
theorem ScI.esc {c : UInt8} {l : List UInt8} {i : Nat} (h : ScI c l i) (hi : i < l.length) (h1 : (92 : UInt8) ≠ c) (h2 : bAt l i = 92) : ScI c l (i + 1 + 1) := by
  refine ⟨by omega, ?_⟩
  have := h.2
  rw [drop_at hi, h2] at this
  by_cases h3 : i + 1 < l.length
  · rw [drop_at h3, nxt_esc c _ _ h1] at this
    omega
  · rw [List.drop_eq_nil_of_le (by omega), nxt_esc0 c h1] at this
    rw [List.drop_eq_nil_of_le (by omega)]
    simp [nxt]
    omega
theorem ScI.done {c : UInt8} {l : List UInt8} {i : Nat} (h : ScI c l i) (hi : ¬ i < l.length) : nxt c l = l.length := by
  have := h.2
  omega
/-- The place or -1. -/
def idx (c : UInt8) (l : List UInt8) : Int := if nxt c l < l.length then (nxt c l : Int) else -1
theorem u8_ne {a b : UInt8} (h : a ≠ b) : ¬ (a.toNat : Int) = (b.toNat : Int) := fun e => h (UInt8.toNat_inj.1 (by omega))
theorem u8_eq {a b : UInt8} (h : a = b) : (a.toNat : Int) = (b.toNat : Int) := by rw [h]

set_option maxHeartbeats 2000000 in
theorem index_any (s : ByteArray) (c : UInt8) (hc : (92 : UInt8) ≠ c) (w : World) (hs : s.size ≤ 100000) :
    Calls Tryd.prog 60 #[.string s, .int .u8 (c.toNat : Int)] w fun e w' => e = .returned (.int .i64 (idx c s.data.toList)) ∧ w = w' := by
  have HC := Lib.hid hc
  have HLN := Lib.hid (show s.data.toList.length = s.size by simp)
  go_enter Tryd.func60, Tryd.ntmps60
  go_wp2
  go_loop [4, 5] (fun _ i => ∃ k : Nat, i = .int .i64 k ∧ Hid (ScI c s.data.toList k)) (fun _ i => s.size + 1 - (intOf i).toNat)
  case atStart => exact ⟨0, rfl, ScI.zero _ _⟩
  case round =>
    obtain ⟨k, rfl, HA⟩ := hrel
    have hk : k ≤ s.size + 1 := by have := HA.out.1; rw [HLN.out] at this; exact this
    by_cases hlt : k < s.size
    · have HBK := Lib.hid (bAt_str s k hlt)
      have HL := Lib.hid (show k < s.data.toList.length by rw [HLN.out]; exact hlt)
      by_cases h1 : s[k] = c
      · have HR := Lib.hid (show idx c s.data.toList = k by unfold idx; rw [HA.out.found HL.out (by rw [HBK.out]; exact h1), if_pos HL.out])
        have h2 := u8_eq h1
        clear h1
        go_wp2
        go_ret
        exact ⟨ret_int (by rw [HR.out]), rfl⟩
      · have h2 := u8_ne h1
        by_cases h3 : s[k] = 92
        · have HX := Lib.hid (HA.out.esc HL.out HC.out (by rw [HBK.out]; exact h3))
          have h4 : (s[k].toNat : Int) = 92 := by rw [h3]; rfl
          have g1 : IntKind.i64.wrap ((k : Int) + 1) = ((k + 1 : Nat) : Int) := IntWalk.i64_in _ (by omega)
          have g2 : IntKind.i64.wrap (((k + 1 : Nat) : Int) + 1) = ((k + 1 + 1 : Nat) : Int) := IntWalk.i64_in _ (by omega)
          clear h1 h3
          go_wp2
          go_round
          case rel => exact ⟨k + 1 + 1, by go_num, HX⟩
          case measure => simp [intOf]; omega
        · have HX := Lib.hid (HA.out.plain HL.out (by rw [HBK.out]; exact h1) (by rw [HBK.out]; exact h3))
          have h4 : ¬ (s[k].toNat : Int) = 92 := u8_ne h3
          clear h1 h3
          go_wp2
          go_round
          case rel => exact ⟨k + 1, by go_num, HX⟩
          case measure => simp [intOf]; omega
    · have HR := Lib.hid (show idx c s.data.toList = -1 by unfold idx; rw [HA.out.done (by rw [HLN.out]; exact hlt), if_neg (Nat.lt_irrefl _)])
      go_wp2
      go_ret
      exact ⟨ret_int (by rw [HR.out]), rfl⟩
set_option maxHeartbeats 2000000 in
theorem next_any (s : ByteArray) (c : UInt8) (hc : (92 : UInt8) ≠ c) (w : World) (hs : s.size ≤ 100000) :
    Calls Tryd.prog 38 #[.string s, .int .u8 (c.toNat : Int)] w fun e w' => e = .returned (.int .i64 (nxt c s.data.toList : Int)) ∧ w = w' := by
  have HC := Lib.hid hc
  have HLN := Lib.hid (show s.data.toList.length = s.size by simp)
  go_enter Tryd.func38, Tryd.ntmps38
  go_wp2
  go_loop [4, 5] (fun _ i => ∃ k : Nat, i = .int .i64 k ∧ Hid (ScI c s.data.toList k)) (fun _ i => s.size + 1 - (intOf i).toNat)
  case atStart => exact ⟨0, rfl, ScI.zero _ _⟩
  case round =>
    obtain ⟨k, rfl, HA⟩ := hrel
    have hk : k ≤ s.size + 1 := by have := HA.out.1; rw [HLN.out] at this; exact this
    by_cases hlt : k < s.size
    · have HBK := Lib.hid (bAt_str s k hlt)
      have HL := Lib.hid (show k < s.data.toList.length by rw [HLN.out]; exact hlt)
      by_cases h1 : s[k] = c
      · have HR := Lib.hid (HA.out.found HL.out (by rw [HBK.out]; exact h1))
        have h2 := u8_eq h1
        clear h1
        go_wp2
        go_ret
        exact ⟨ret_int (by rw [HR.out]), rfl⟩
      · have h2 := u8_ne h1
        by_cases h3 : s[k] = 92
        · have HX := Lib.hid (HA.out.esc HL.out HC.out (by rw [HBK.out]; exact h3))
          have h4 : (s[k].toNat : Int) = 92 := by rw [h3]; rfl
          have g1 : IntKind.i64.wrap ((k : Int) + 1) = ((k + 1 : Nat) : Int) := IntWalk.i64_in _ (by omega)
          have g2 : IntKind.i64.wrap (((k + 1 : Nat) : Int) + 1) = ((k + 1 + 1 : Nat) : Int) := IntWalk.i64_in _ (by omega)
          clear h1 h3
          go_wp2
          go_round
          case rel => exact ⟨k + 1 + 1, by go_num, HX⟩
          case measure => simp [intOf]; omega
        · have HX := Lib.hid (HA.out.plain HL.out (by rw [HBK.out]; exact h1) (by rw [HBK.out]; exact h3))
          have h4 : ¬ (s[k].toNat : Int) = 92 := u8_ne h3
          clear h1 h3
          go_wp2
          go_round
          case rel => exact ⟨k + 1, by go_num, HX⟩
          case measure => simp [intOf]; omega
    · have HR := Lib.hid (HA.out.done (by rw [HLN.out]; exact hlt))
      go_wp2
      go_ret
      exact ⟨ret_int (by rw [HR.out, HLN.out]), rfl⟩
end Go.Proofs.YtjjcbbckihjapaaDoor.Na
