/-
  The walks of layer 5: the reference's Parse.
-/
import Derived.Test.YtjjcbbckihjapaaDoorNaF
namespace Go.Proofs.YtjjcbbckihjapaaDoor.Na
open Go.RowKit Go.Proofs.YtjjcbbckihjapaaDoor.Fo

/-- How much is left. -/
def moreOf : Value → Value → Nat
  | .bool true, .string s => s.size + 1
  | _, _ => 0
/-- What the reference's loop knows. -/
def RpI (s r : ByteArray) (more : Bool) (l : List B2) : Prop :=
  prs s.data.toList = prsL (if more then pcs r.data.toList else []) (prL l) ∧ l.length + r.size ≤ s.size + (if more then 0 else 1)
theorem RpI.zero (s : ByteArray) (b : Bool) (h : b = decide (s.data.toList ≠ [])) : RpI s s b [] := by
  subst h
  unfold RpI prs
  by_cases h0 : s.data.toList = []
  · simp [h0, prL, prsL]
  · simp [h0, prL]
theorem RpI.step {s r : ByteArray} {l : List B2} {k : Nat} {p : B2} (h : RpI s r true l) (hk : nxt 44 r.data.toList = k) (hlt : k < r.size) (h0 : (compC (r.extract 0 k).data.toList).2 = 0) (hp : prB p = (compC (r.extract 0 k).data.toList).1) :
    RpI s (r.extract (k + 1) r.size) true (l ++ [p]) := by
  obtain ⟨h1, h2⟩ := h
  rw [if_pos rfl] at h1 h2
  refine ⟨?_, by simp; omega⟩
  rw [h1, if_pos rfl, pcs_yes (by rw [hk]; simpa using hlt), hk, drop_str, ← take_str, prsL_yes h0, ← hp]
  simp [prL]
theorem RpI.last {s r : ByteArray} {l : List B2} {k : Nat} {p : B2} (h : RpI s r true l) (hk : nxt 44 r.data.toList = k) (hlt : ¬ k < r.size) (h0 : (compC (r.extract 0 k).data.toList).2 = 0) (hp : prB p = (compC (r.extract 0 k).data.toList).1) :
    RpI s r false (l ++ [p]) := by
  obtain ⟨h1, h2⟩ := h
  rw [if_pos rfl] at h1 h2
  have hle := nxt_le 44 r.data.toList
  have hkz : k = r.data.toList.length := by simp at *; omega
  refine ⟨?_, by simp; omega⟩
  rw [take_str, hkz, List.take_length] at h0 hp
  rw [h1, pcs_no (by rw [hk]; simpa using hlt), prsL_yes h0, ← hp]
  simp [prL]
theorem RpI.no {s r : ByteArray} {l : List B2} {k : Nat} (h : RpI s r true l) (hk : nxt 44 r.data.toList = k) (h0 : (compC (r.extract 0 k).data.toList).2 ≠ 0) : prs s.data.toList = ([], (compC (r.extract 0 k).data.toList).2) := by
  obtain ⟨h1, h2⟩ := h
  rw [if_pos rfl] at h1
  have hle := nxt_le 44 r.data.toList
  rw [take_str] at h0 ⊢
  by_cases hlt : k < r.data.toList.length
  · rw [h1, pcs_yes (by rw [hk]; exact hlt), hk, prsL_no h0]
  · have hkz : k = r.data.toList.length := by omega
    rw [hkz, List.take_length] at h0 ⊢
    rw [h1, pcs_no (by rw [hk]; exact hlt), prsL_no h0]
theorem piece_clo {r : ByteArray} {k : Nat} (hk : nxt 44 r.data.toList = k) : nxt 44 (r.extract 0 k).data.toList = (r.extract 0 k).data.toList.length := by
  have hle := nxt_le 44 r.data.toList
  rw [take_str, nxt_take 44 _ _ (by omega), hk, List.length_take]
  omega

set_option maxHeartbeats 4000000 in
theorem rparse_any (s : ByteArray) (w : World) (hs : s.size ≤ 100000) : Calls Tryd.prog 14 #[.string s] w (ParIs w (prs s.data.toList)) := by
  have HS := Lib.hid hs
  have HLN := Lib.hid (show s.data.toList.length = s.size by simp)
  have HB0 := Lib.hid (Below.refl w.heap.size w)
  obtain ⟨b0, hb0⟩ : ∃ b0, b0 = decide (s.data.toList ≠ []) := ⟨_, rfl⟩
  have HI0 := Lib.hid (RpI.zero s b0 hb0)
  have HQ := Lib.hid (show (!s.toList.isEmpty) = b0 by
    rw [hb0, Lib.toList_data, Bool.eq_iff_iff]
    simp)
  clear hb0
  go_enter Tryd.func14, Tryd.ntmps14
  go_wp2
  rw [HQ.out]
  go_loopw [6, 5, 4] (fun m r v wr => ∃ (more : Bool) (r' : ByteArray) (l : List B2) (A' : Option Addr) (c' : Nat), m = .bool more ∧ r = .string r' ∧ v = .slice A' l.length c' ∧ Hid (RpI s r' more l) ∧ Hid (Own2 wr w.heap.size (.slice A' l.length c') l) ∧ Below w.heap.size w wr) (fun m r _ _ => moreOf m r)
  case atStart => exact ⟨b0, s, [], none, 0, rfl, rfl, rfl, HI0.out, Own2.nil _ _, HB0.out⟩
  case round =>
    obtain ⟨more, r, l, A', c', rfl, rfl, rfl, HI, HO, hb⟩ := hrel
    have HB := Lib.hid hb
    have hbz := hb.size
    clear hb
    cases more with
    | true =>
      have hsz : l.length + r.size ≤ s.size := by have := HI.out.2; simpa using this
      have HZ := Lib.hid (show r.size ≤ 100000 by have := HS.out; omega)
      obtain ⟨k, hk⟩ : ∃ k, nxt 44 r.data.toList = k := ⟨_, rfl⟩
      have HK := Lib.hid hk
      have hkr : k ≤ r.size := by have := nxt_le 44 r.data.toList; simp at this; omega
      have HPC := Lib.hid (piece_clo hk)
      have gk : IntKind.i64.wrap ((k : Int) + 1) = ((k + 1 : Nat) : Int) := IntWalk.i64_in _ (by have := HZ.out; omega)
      have HPZ := Lib.hid (show (r.extract 0 k).size ≤ 100000 by have := HZ.out; simp; omega)
      clear hk
      go_wp2_with fail
      refine (next_any r 44 (by decide) _ HZ.out).mono ?_
      rintro e w1 ⟨rfl, rfl⟩
      rw [HK.out]
      go_wp2_with fail
      refine (rcomponent_any (r.extract 0 k) wr HPZ.out HPC.out).mono ?_
      rintro e w3 ⟨kx, vx, rfl, hkx, hvx, hb3⟩
      have HO3 := Lib.hid (HO.out.below hb3)
      have HB3 := Lib.hid (HB.out.trans (hb3.mono HB.out.size))
      have hbz3 := HB3.out.size
      have HPX := Lib.hid (show prB (kx, vx) = (compC (r.extract 0 k).data.toList).1 from Prod.ext hkx hvx)
      clear hb3 hkx hvx
      by_cases h0 : (compC (r.extract 0 k).data.toList).2 = 0
      · have H0 := Lib.hid h0
        rw [h0]
        clear h0
        by_cases hlt : k < r.size
        · have HI2 := Lib.hid (HI.out.step HK.out hlt H0.out HPX.out)
          go_wp2_with ((with_reducible refine at_dst 29 ?_); refine wpList_app2 rfl (.tmp 26) (.tmp 28) rfl w.heap.size c' A' l rfl ((HO3.out.alloc _).alloc _) _ 1 1 [(kx, vx)] rfl (ps_two _ _ _ _ _) (by have := HS.out; omega) (by simp; omega) ?_; intro A5 c5 w5 hO5 hb5; have HO5 := Lib.hid hO5; have HB5 := Lib.hid (((HB3.out.alloc HB3.out.size _).alloc (by have := HB3.out.size; simp; omega) _).trans hb5); clear hO5 hb5)
          go_roundw
          case rel => exact ⟨true, r.extract (k + 1) r.size, l ++ [(kx, vx)], A5, c5, rfl, rfl, by simp, HI2.out, HO5.out, HB5.out⟩
          case measure => simp [moreOf]; omega
        · have HI2 := Lib.hid (HI.out.last HK.out hlt H0.out HPX.out)
          go_wp2_with ((with_reducible refine at_dst 29 ?_); refine wpList_app2 rfl (.tmp 26) (.tmp 28) rfl w.heap.size c' A' l rfl ((HO3.out.alloc _).alloc _) _ 1 1 [(kx, vx)] rfl (ps_two _ _ _ _ _) (by have := HS.out; omega) (by simp; omega) ?_; intro A5 c5 w5 hO5 hb5; have HO5 := Lib.hid hO5; have HB5 := Lib.hid (((HB3.out.alloc HB3.out.size _).alloc (by have := HB3.out.size; simp; omega) _).trans hb5); clear hO5 hb5)
          go_roundw
          case rel => exact ⟨false, r, l ++ [(kx, vx)], A5, c5, rfl, rfl, by simp, HI2.out, HO5.out, HB5.out⟩
          case measure => simp [moreOf]
      · have HR := Lib.hid (HI.out.no HK.out h0)
        obtain ⟨ce, hce⟩ : ∃ ce, (compC (r.extract 0 k).data.toList).2 = ce := ⟨_, rfl⟩
        rw [hce] at h0 HR
        rw [hce]
        clear hce
        go_wp2
        go_ret2
        exact ret_par _ _ _ _ HR.out (HB3.out.alloc HB3.out.size _)
    | false =>
      have HI2 := Lib.hid HI.out.1
      by_cases h8 : 8 < l.length
      · have HR := Lib.hid (show prs s.data.toList = ([], 3) by rw [HI2.out, if_neg (by simp), prsL, if_pos (by rw [prL_length]; exact h8)])
        go_wp2
        go_ret2
        exact ret_par _ _ _ _ HR.out HB.out
      · have HR := Lib.hid (show prs s.data.toList = (prL l, 0) by rw [HI2.out, if_neg (by simp), prsL, if_neg (by rw [prL_length]; exact h8)])
        go_wp2
        go_ret2
        exact ⟨A', c', l, by rw [HR.out]; rfl, HO.out, by rw [HR.out], HB.out⟩
end Go.Proofs.YtjjcbbckihjapaaDoor.Na
