/-
  The walks of layer 1: Trim and its reference.
-/
import Derived.Test.YtjjcbbckihjapaaDoorFoC
import Derived.Test.YtjjcbbckihjapaaDoorShelf
namespace Go.Proofs.YtjjcbbckihjapaaDoor.Fo
open Go.RowKit

theorem trim_any (s : ByteArray) (w : World) (hs : s.size ≤ 100000) :
    Calls Tryd.prog 63 #[.string s] w fun e w' => e = .returned (.string ⟨(trimL s.data.toList).toArray⟩) ∧ Below w.heap.size w w' := by
  have HS := Lib.hid (show s.size ≤ 9223372036854775807 by omega)
  go_enter Tryd.func63, Tryd.ntmps63
  go_wp2_with fail
  refine (Tryd.strings_Trim_one s 32 (by decide) _ HS.out).mono ?_
  rintro e w' ⟨rfl, h⟩
  have HB := Lib.hid (show Below w.heap.size w w' by rcases h with rfl | rfl; exact Below.refl _ _; exact (Below.refl _ _).drew)
  clear h
  go_wp2
  go_ret
  exact ⟨rfl, HB.out⟩

theorem byte0 (l : List UInt8) (a : Nat) (t : ByteArray) (ht : t.data.toList = l.drop a) (h0 : 0 < t.size) : a < l.length ∧ bAt l a = t[0] := by
  have hl : (l.drop a).length = t.size := by rw [← ht]; simp
  rw [List.length_drop] at hl
  refine ⟨by omega, ?_⟩
  have h1 : bAt t.data.toList 0 = t[0] := bAt_str t 0 h0
  rw [← h1, ht]
  simp [bAt, List.getD]
theorem byteE (l : List UInt8) (m : Nat) (t : ByteArray) (ht : t.data.toList = l.take (m + 1)) (h0 : t.size = m + 1) : m < l.length ∧ bAt l m = t[m] := by
  have hl : (l.take (m + 1)).length = t.size := by rw [← ht]; simp
  rw [List.length_take] at hl
  refine ⟨by omega, ?_⟩
  have h1 : bAt t.data.toList m = t[m] := bAt_str t m (by omega)
  rw [← h1, ht]
  simp [bAt, List.getD]
theorem trim_is (l : List UInt8) (a m : Nat) (ha : a ≤ l.length) (h1 : ∀ j, j < a → bAt l j = 32) (h2 : a < l.length → bAt l a ≠ 32) (hm : m ≤ (l.drop a).length) (h3 : ∀ j, m ≤ j → j < (l.drop a).length → bAt (l.drop a) j = 32) (h4 : 0 < m → bAt (l.drop a) (m - 1) ≠ 32) : trimL l = (l.drop a).take m := by
  have hg : ∀ j b, l[j]? = some b → j < l.length ∧ bAt l j = b := by
    intro j b hb
    have := (List.getElem?_eq_some_iff.1 hb).1
    exact ⟨this, by simp [bAt, List.getD, hb]⟩
  have hd : ∀ j, bAt (l.drop a) j = bAt l (a + j) := by intro j; simp [bAt, List.getD]
  rw [List.length_drop] at hm h3
  by_cases hal : a < l.length
  · have hne := h2 hal
    have hm0 : 0 < m := by
      rcases Nat.eq_zero_or_pos m with h | h
      · subst h
        have := h3 0 (Nat.le_refl _) (by omega)
        rw [hd] at this
        exact absurd this hne
      · exact h
    have hr : Lib.trimRightB l 32 = l.take (a + m) := by
      refine Lib.trimRightB_take l 32 (a + m) (by omega) (fun j b hj hb => ?_) (fun b hb0 hb => ?_)
      · obtain ⟨hj1, hb1⟩ := hg j b hb
        have := h3 (j - a) (by omega) (by omega)
        rw [hd, show a + (j - a) = j by omega] at this
        rw [← hb1, this]
      · obtain ⟨hj1, hb1⟩ := hg _ b hb
        have := h4 hm0
        rw [hd, show a + (m - 1) = a + m - 1 by omega] at this
        rw [← hb1]
        exact this
    rw [trimL, Lib.trimB, hr]
    rw [Lib.trimLeftB_drop (l.take (a + m)) 32 a (by rw [List.length_take]; omega) (fun j b hj hb => ?_) (fun b hb => ?_)]
    · rw [List.drop_take]
      congr 1
      omega
    · rw [List.getElem?_take] at hb
      split at hb
      · obtain ⟨_, hb1⟩ := hg j b hb
        rw [← hb1, h1 j hj]
      · cases hb
    · rw [List.getElem?_take] at hb
      split at hb
      · obtain ⟨_, hb1⟩ := hg a b hb
        rw [← hb1]
        exact hne
      · cases hb
  · have e : a = l.length := by omega
    have hr : Lib.trimRightB l 32 = l.take 0 := by
      refine Lib.trimRightB_take l 32 0 (Nat.zero_le _) (fun j b hj hb => ?_) (fun b hb0 hb => absurd hb0 (by omega))
      obtain ⟨hj1, hb1⟩ := hg j b hb
      rw [← hb1, h1 j (by omega)]
    rw [trimL, Lib.trimB, hr, e]
    simp [Lib.trimLeftB]

set_option maxHeartbeats 2000000 in
theorem rtrim_any (s : ByteArray) (w : World) (hs : s.size ≤ 100000) :
    Calls Tryd.prog 67 #[.string s] w fun e w' => e = .returned (.string ⟨(trimL s.data.toList).toArray⟩) ∧ Below w.heap.size w w' := by
  obtain ⟨l, hl⟩ : ∃ l, l = s.data.toList := ⟨_, rfl⟩
  have HL := Lib.hid hl
  have HLN := Lib.hid (show l.length = s.size by rw [hl]; simp)
  have hln : l.length ≤ 100000 := by rw [HLN.out]; exact hs
  clear hl
  go_enter Tryd.func67, Tryd.ntmps67
  go_upto_block 0 with fail
  go_cut [0] (fun s0 wx => ∃ (a : Nat) (t : ByteArray), a ≤ l.length ∧ s0 = .string t ∧ Hid (t.data.toList = l.drop a) ∧ Hid (∀ j, j < a → bAt l j = 32) ∧ Hid (a < l.length → bAt l a ≠ 32) ∧ wx = w)
  case first =>
    go_wp2_with fail
    go_loop [0] (fun v => ∃ (a : Nat) (t : ByteArray), a ≤ l.length ∧ v = .string t ∧ Hid (t.data.toList = l.drop a) ∧ Hid (∀ j, j < a → bAt l j = 32)) (fun v => Lib.strSize v)
    case atStart => exact ⟨0, s, Nat.zero_le _, rfl, by show _ = _; rw [HL.out]; rfl, fun j hj => absurd hj (Nat.not_lt_zero _)⟩
    case round =>
      obtain ⟨a, t, ha, rfl, HT, HA⟩ := hrel
      by_cases h0 : 0 < t.size
      · obtain ⟨hal, hb0⟩ := byte0 l a t HT.out h0
        have HB0 := Lib.hid hb0
        clear hb0
        have HX := Lib.hid (show (t.extract 1 t.size).data.toList = l.drop (a + 1) by rw [Lib.extract_to_end, HT.out, List.drop_drop])
        have HXS := Lib.hid (show (t.extract 1 t.size).size = t.size - 1 by simp)
        by_cases h32 : t[0] = 32
        · have he : ((t[0].toNat : Int) == 32) = true := by rw [h32]; rfl
          have H32 := Lib.hid h32
          clear h32
          go_wp2
          go_round
          case rel => exact ⟨a + 1, _, by omega, rfl, HX.out, fun j hj => if e : j = a then by rw [e, HB0.out, H32.out] else HA.out j (by omega)⟩
          case measure => rw [Lib.strSize_string, Lib.strSize_string, HXS.out]; omega
        · have he : ((t[0].toNat : Int) == 32) = false := by
            rw [beq_eq_false_iff_ne]
            intro h
            exact h32 (UInt8.toNat_inj.1 (by exact_mod_cast h))
          have H32 := Lib.hid h32
          clear h32
          go_wp2
          go_meet
          exact ⟨a, t, ha, rfl, HT.out, HA.out, fun _ => by rw [HB0.out]; exact H32.out, rfl⟩
      · have HE := Lib.hid (show a < l.length → bAt l a ≠ 32 by
          intro h
          have : (l.drop a).length = t.size := by rw [← HT.out]; simp
          rw [List.length_drop] at this
          omega)
        go_wp2
        go_meet
        exact ⟨a, t, ha, rfl, HT.out, HA.out, HE.out, rfl⟩
  case rest =>
    obtain ⟨a, t, ha, rfl, HT, HA, HE, rfl⟩ := hcut
    have HD := Lib.hid (show (l.drop a).length = t.size by rw [← HT.out]; simp)
    have htz : t.size ≤ 100000 := by have := HD.out; rw [List.length_drop] at this; omega
    go_wp2
    go_loop [0] (fun v => ∃ (m : Nat) (u : ByteArray), u.size = m ∧ m ≤ t.size ∧ v = .string u ∧ Hid (u.data.toList = (l.drop a).take m) ∧ Hid (∀ j, m ≤ j → j < (l.drop a).length → bAt (l.drop a) j = 32)) (fun v => Lib.strSize v)
    case atStart => exact ⟨t.size, t, rfl, Nat.le_refl _, rfl, by show _ = _; rw [HT.out, List.take_of_length_le (by rw [HD.out]; exact Nat.le_refl _)], fun j hj hj2 => absurd hj2 (by rw [HD.out]; omega)⟩
    case round =>
      obtain ⟨m, u, hum, hm, rfl, HU, HM⟩ := hrel
      cases m with
      | zero =>
        have HR := Lib.hid (show (⟨(trimL s.data.toList).toArray⟩ : ByteArray) = u by
          rw [← HL.out, trim_is l a 0 ha HA.out HE.out (Nat.zero_le _) HM.out (fun h => absurd h (by omega))]
          apply ByteArray.ext
          rw [← Array.toArray_toList (xs := u.data), HU.out])
        go_wp2
        go_ret
        exact ⟨ret_str HR.out.symm, Below.refl _ _⟩
      | succ m =>
        obtain ⟨hml, hb0⟩ := byteE (l.drop a) m u HU.out hum
        have HB0 := Lib.hid hb0
        clear hb0
        have HX := Lib.hid (show (u.extract 0 m).data.toList = (l.drop a).take m by
          rw [Lib.extract_data, HU.out, List.drop_zero, Nat.sub_zero, List.take_take, Nat.min_eq_left (by omega)])
        have HXS := Lib.hid (show (u.extract 0 m).size = m by simp; omega)
        by_cases h32 : u[m] = 32
        · have he : ((u[m].toNat : Int) == 32) = true := by rw [h32]; rfl
          have H32 := Lib.hid h32
          clear h32
          go_wp2
          go_round
          case rel => exact ⟨m, _, HXS.out, by omega, rfl, HX.out, fun j hj hj2 => if e : j = m then by rw [e, HB0.out, H32.out] else HM.out j (by omega) hj2⟩
          case measure => rw [Lib.strSize_string, Lib.strSize_string, HXS.out]; omega
        · have he : ((u[m].toNat : Int) == 32) = false := by
            rw [beq_eq_false_iff_ne]
            intro h
            exact h32 (UInt8.toNat_inj.1 (by exact_mod_cast h))
          have HR := Lib.hid (show (⟨(trimL s.data.toList).toArray⟩ : ByteArray) = u by
            rw [← HL.out, trim_is l a (m + 1) ha HA.out HE.out (by rw [HD.out]; omega) HM.out (fun _ => by rw [Nat.add_sub_cancel, HB0.out]; exact h32)]
            apply ByteArray.ext
            rw [← Array.toArray_toList (xs := u.data), HU.out])
          clear h32
          go_wp2
          go_ret
          exact ⟨ret_str HR.out.symm, Below.refl _ _⟩
end Go.Proofs.YtjjcbbckihjapaaDoor.Fo
