/-
  The walks of layer 5: pieces.
-/
import Derived.Test.YtjjcbbckihjapaaDoorNaS
namespace Go.Proofs.YtjjcbbckihjapaaDoor.Na
open Go.RowKit Go.Proofs.YtjjcbbckihjapaaDoor.Fo

/-- A string's size. -/
def szOf : Value → Nat
  | .string s => s.size
  | _ => 0
def stL (l : List ByteArray) : List (List UInt8) := l.map fun s => s.data.toList
/-- What the loop of pieces knows. -/
def PcI (s r : ByteArray) (l : List ByteArray) : Prop := pcs s.data.toList = stL l ++ pcs r.data.toList ∧ l.length + r.size ≤ s.size
theorem PcI.zero (s : ByteArray) : PcI s s [] := ⟨rfl, by simp⟩
theorem PcI.step {s r : ByteArray} {l : List ByteArray} {k : Nat} (h : PcI s r l) (hk : nxt 44 r.data.toList = k) (hlt : k < r.size) : PcI s (r.extract (k + 1) r.size) (l ++ [r.extract 0 k]) := by
  refine ⟨?_, by have := h.2; simp; omega⟩
  rw [h.1, pcs_yes (by rw [hk]; simpa using hlt), hk, drop_str]
  simp [stL]
theorem PcI.stop {s r : ByteArray} {l : List ByteArray} (h : PcI s r l) (hlt : ¬ nxt 44 r.data.toList < r.data.toList.length) : pcs s.data.toList = stL (l ++ [r]) := by
  rw [h.1, pcs_no hlt]
  simp [stL]
/-- Pieces come back. -/
def PcsIs (w : World) (s : ByteArray) (e : Ending) (w' : World) : Prop :=
  ∃ A n c l, e = .returned (.slice A n c) ∧ Ss w' A n c l ∧ stL l = pcs s.data.toList ∧ n ≤ s.size + 1 ∧ Below w.heap.size w w'

set_option maxHeartbeats 2000000 in
theorem pieces_any (s : ByteArray) (w : World) (hs : s.size ≤ 100000) : Calls Tryd.prog 36 #[.string s] w (PcsIs w s) := by
  have HS := Lib.hid hs
  have HB0 := Lib.hid (Below.refl w.heap.size w)
  go_enter Tryd.func36, Tryd.ntmps36
  go_wp2
  go_loopw [0, 2, 3] (fun r _ v wr => ∃ (r' : ByteArray) (l : List ByteArray) (A : Option Addr) (c : Nat), r = .string r' ∧ v = .slice A l.length c ∧ Hid (PcI s r' l) ∧ Hid (Own1 wr w.heap.size (.slice A l.length c) l) ∧ Below w.heap.size w wr) (fun r _ _ _ => szOf r)
  case atStart => exact ⟨s, [], none, 0, rfl, rfl, PcI.zero s, Own1.nil _ _, HB0.out⟩
  case round =>
    obtain ⟨r, l, A, c, rfl, rfl, HI, HO, hb⟩ := hrel
    have HB := Lib.hid hb
    have hbz := hb.size
    clear hb
    have hsz : l.length + r.size ≤ s.size := HI.out.2
    have HZ := Lib.hid (show r.size ≤ 100000 by have := HS.out; omega)
    obtain ⟨k, hk⟩ : ∃ k, nxt 44 r.data.toList = k := ⟨_, rfl⟩
    by_cases hlt : k < r.size
    · have HX := Lib.hid (HI.out.step hk hlt)
      have HI2 := Lib.hid (show idx 44 r.data.toList = k by unfold idx; rw [hk, if_pos (by simpa using hlt)])
      have gk : IntKind.i64.wrap ((k : Int) + 1) = ((k + 1 : Nat) : Int) := IntWalk.i64_in _ (by have := HZ.out; omega)
      clear hk
      go_wp2_with fail
      refine (index_any r 44 (by decide) _ HZ.out).mono ?_
      rintro e w1 ⟨rfl, rfl⟩
      rw [HI2.out]
      go_wp2_with ((with_reducible refine at_dst 18 ?_); refine wpList_app1 rfl (.tmp 13) (.tmp 17) rfl w.heap.size c A l rfl _ (r.extract 0 k) _ rfl HO.out rfl (by have := HS.out; omega) hbz ?_; intro A1 c1 w2 hO1 hb1; have HO1 := Lib.hid hO1; have HB1 := Lib.hid (HB.out.trans hb1); clear hO1 hb1)
      go_roundw
      case rel => exact ⟨r.extract (k + 1) r.size, l ++ [r.extract 0 k], A1, c1, rfl, by simp, HX, HO1.out, HB1.out⟩
      case measure => simp [szOf]; omega
    · have HX := Lib.hid (HI.out.stop (by rw [hk]; simpa using hlt))
      have HI2 := Lib.hid (show idx 44 r.data.toList = -1 by unfold idx; rw [hk, if_neg (by simpa using hlt)])
      clear hk
      go_wp2_with fail
      refine (index_any r 44 (by decide) _ HZ.out).mono ?_
      rintro e w1 ⟨rfl, rfl⟩
      rw [HI2.out]
      go_wp2_with ((with_reducible refine at_dst 12 ?_); refine wpList_app1 rfl (.tmp 9) (.tmp 11) rfl w.heap.size c A l rfl _ r _ rfl HO.out rfl (by have := HS.out; omega) hbz ?_; intro A1 c1 w2 hO1 hb1)
      go_ret
      exact ⟨A1, _, c1, l ++ [r], rfl, by simpa using (Own1.ss hO1).1, HX.out.symm, by have := HZ.out; have := HS.out; omega, HB.out.trans hb1⟩
end Go.Proofs.YtjjcbbckihjapaaDoor.Na
