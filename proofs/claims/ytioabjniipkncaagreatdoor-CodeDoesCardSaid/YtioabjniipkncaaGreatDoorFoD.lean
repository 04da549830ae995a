/-
  The walks of layer 1: Trim and its reference.
-/
import Derived.Test.YtioabjniipkncaaGreatDoorFoP
import Derived.Test.YtioabjniipkncaaGreatDoorShelf
namespace Go.Proofs.YtioabjniipkncaaGreatDoor.Fo
open Go.RowKit

theorem trim_any (s : ByteArray) (w : World) (hs : s.size ≤ 100000) :
    Calls Tryz.prog 72 #[.string s] w fun e w' => e = .returned (.string ⟨(trimL s.data.toList).toArray⟩) ∧ Below w.heap.size w w' := by
  have HS := Lib.hid (show s.size ≤ 9223372036854775807 by omega)
  go_enter Tryz.func72, Tryz.ntmps72
  go_wp2_with fail
  refine (Tryz.strings_Trim_one s 32 (by decide) _ HS.out).mono ?_
  rintro e w' ⟨rfl, h⟩
  have HB := Lib.hid (show Below w.heap.size w w' by rcases h with rfl | rfl; exact Below.refl _ _; exact (Below.refl _ _).drew)
  clear h
  go_wp2
  go_ret
  exact ⟨rfl, HB.out⟩

theorem byte0 (l : List UInt8) (a : Nat) (t : ByteArray) (ht : t.data.toList = l.drop a) (h0 : 0 < t.size) : a < l.length ∧ bAt l a = t[0] := by
  have hl : (l.drop a).length = t.size := by rw [← ht]; simp
  rw [List.length_drop] at hl
  refine ⟨by omega, ?_⟩
  have h1 : bAt t.data.toList 0 = t[0] := bAt_str t 0 h0
  rw [← h1, ht]
  simp [bAt, List.getD]
theorem byteE (l : List UInt8) (m : Nat) (t : ByteArray) (ht : t.data.toList = l.take (m + 1)) (h0 : t.size = m + 1) : m < l.length ∧ bAt l m = t[m] := by
  have hl : (l.take (m + 1)).length = t.size := by rw [← ht]; simp
  rw [List.length_take] at hl
  refine ⟨by omega, ?_⟩
  have h1 : bAt t.data.toList m = t[m] := bAt_str t m (by omega)
  rw [← h1, ht]
  simp [bAt, List.getD]
theorem trim_is (l : List UInt8) (a m : Nat) (ha : a ≤ l.length) (h1 : ∀ j, j < a → bAt l j = 32) (h2 : a < l.length → bAt l a ≠ 32) (hm : m ≤ (l.drop a).length) (h3 : ∀ j, m ≤ j → j < (l.drop a).length → bAt (l.drop a) j = 32) (h4 : 0 < m → bAt (l.drop a) (m - 1) ≠ 32) : trimL l = (l.drop a).take m := by
  have hg : ∀ j b, l[j]? = some b → j < l.length ∧ bAt l j = b := by
    intro j b hb
    have := (List.getElem?_eq_some_iff.1 hb).1
    exact ⟨this, by simp [bAt, List.getD, hb]⟩
  have hd : ∀ j, bAt (l.drop a) j = bAt l (a + j) := by intro j; simp [bAt, List.getD]
  rw [List.length_drop] at hm h3
  by_cases hal : a < l.length
  · have hne := h2 hal
    have hm0 : 0 < m := by
      rcases Nat.eq_zero_or_pos m with h | h
      · subst h
        have := h3 0 (Nat.le_refl _) (by omega)
        rw [hd] at this
        exact absurd this hne
      · exact h
    have hr : Lib.trimRightB l 32 = l.take (a + m) := by
      refine Lib.trimRightB_take l 32 (a + m) (by omega) (fun j b hj hb => ?_) (fun b hb0 hb => ?_)
      · obtain ⟨hj1, hb1⟩ := hg j b hb
        have := h3 (j - a) (by omega) (by omega)
        rw [hd, show a + (j - a) = j by omega] at this
        rw [← hb1, this]
      · obtain ⟨hj1, hb1⟩ := hg _ b hb
        have := h4 hm0
        rw [hd, show a + (m - 1) = a + m - 1 by omega] at this
        rw [← hb1]
        exact this
    rw [trimL, Lib.trimB, hr]
    rw [Lib.trimLeftB_drop (l.take (a + m)) 32 a (by rw [List.length_take]; omega) (fun j b hj hb => ?_) (fun b hb => ?_)]
    · rw [List.drop_take]
      congr 1
      omega
    · rw [List.getElem?_take] at hb
      split at hb
      · obtain ⟨_, hb1⟩ := hg j b hb
        rw [← hb1, h1 j hj]
      · cases hb
    · rw [List.getElem?_take] at hb
      split at hb
      · obtain ⟨_, hb1⟩ := hg a b hb
        rw [← hb1]
        exact hne
      · cases hb
  · have e : a = l.length := by omega
    have hr : Lib.trimRightB l 32 = l.take 0 := by
      refine Lib.trimRightB_take l 32 0 (Nat.zero_le _) (fun j b hj hb => ?_) (fun b hb0 hb => absurd hb0 (by omega))
      obtain ⟨hj1, hb1⟩ := hg j b hb
      rw [← hb1, h1 j (by omega)]
    rw [trimL, Lib.trimB, hr, e]
    simp [Lib.trimLeftB]

end Go.Proofs.YtioabjniipkncaaGreatDoor.Fo
