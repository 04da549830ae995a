/-
  The walks of layer 5: Parse.
-/
import Derived.Test.YtjjcbbckihjapaaDoorNaE
namespace Go.Proofs.YtjjcbbckihjapaaDoor.Na
open Go.RowKit Go.Proofs.YtjjcbbckihjapaaDoor.Fo

theorem pcs_mem (n : Nat) (s : List UInt8) (h : s.length ≤ n) : ∀ x ∈ pcs s, x.length ≤ s.length ∧ nxt 44 x = x.length := by
  induction n generalizing s with
  | zero =>
    have : s = [] := List.eq_nil_of_length_eq_zero (by omega)
    subst this
    intro x hx
    simp [pcs, pcsN] at hx
    subst hx
    simp [nxt]
  | succ n ih =>
    intro x hx
    have hle := nxt_le 44 s
    by_cases h1 : nxt 44 s < s.length
    · rw [pcs_yes h1] at hx
      rcases List.mem_cons.1 hx with rfl | hx
      · rw [nxt_take 44 s _ hle, List.length_take]
        omega
      · have := ih _ (by rw [List.length_drop]; omega) x hx
        rw [List.length_drop] at this
        exact ⟨by omega, this.2⟩
    · rw [pcs_no h1] at hx
      simp at hx
      subst hx
      exact ⟨Nat.le_refl _, by omega⟩
theorem stL_at (l : List ByteArray) (i : Nat) (h : i < l.length) : (stL l)[i]'(by simpa [stL] using h) = (sAt l i).data.toList := by simp [stL, sAt, List.getD, h]
theorem stL_drop (l : List ByteArray) (i : Nat) (h : i < l.length) : (stL l).drop i = (sAt l i).data.toList :: (stL l).drop (i + 1) := by
  rw [List.drop_eq_getElem_cons (by simpa [stL] using h), stL_at l i h]
theorem prsL_yes {x : List UInt8} {r : List (List UInt8)} {acc : List Pr} (h : (compC x).2 = 0) : prsL (x :: r) acc = prsL r (acc ++ [(compC x).1]) := by rw [prsL, if_neg (by simp [h])]
theorem prsL_no {x : List UInt8} {r : List (List UInt8)} {acc : List Pr} (h : (compC x).2 ≠ 0) : prsL (x :: r) acc = ([], (compC x).2) := by rw [prsL, if_pos h]
theorem ps_two (w : World) (o : Obj) (x y : ByteArray) (t : TypeId) : Ps ((w.alloc o).alloc (.cells #[.string x, .string y] t)) (some ⟨w.heap.size + 1, 0, none⟩) 1 1 [(x, y)] := by
  have := ps_one (w.alloc o) x y t
  simpa using this
/-- Parsed components come back. -/
def ParIs (w : World) (r : List Pr × Int) (e : Ending) (w' : World) : Prop :=
  ∃ A c l, e = .returned (.tuple #[.slice A (List.length l) c, .int .i64 r.2]) ∧ Own2 w' w.heap.size (.slice A l.length c) l ∧ prL l = r.1 ∧ Below w.heap.size w w'
theorem ret_par (c : Int) (r : List Pr × Int) (w w' : World) (h : r = ([], c)) (hb : Below w.heap.size w w') : ParIs w r (.returned (.tuple #[.slice none 0 0, .int .i64 c])) w' := by
  subst h
  exact ⟨none, 0, [], rfl, Own2.nil _ _, rfl, hb⟩
theorem Own2.base {w : World} {b b' : Nat} {v : Value} {l : List B2} (h : Own2 w b v l) (hb : b' ≤ b) : Own2 w b' v l := by
  refine ⟨h.1, ?_⟩
  rcases h.2 with hn | ⟨g, cap, cur, hv, hg, rest⟩
  · exact Or.inl hn
  · exact Or.inr ⟨g, cap, cur, hv, Nat.le_trans hb hg, rest⟩

set_option maxHeartbeats 4000000 in
theorem parse_any (s : ByteArray) (w : World) (hs : s.size ≤ 100000) : Calls Tryd.prog 13 #[.string s] w (ParIs w (prs s.data.toList)) := by
  have HS := Lib.hid hs
  have HLN := Lib.hid (show s.data.toList.length = s.size by simp)
  have HB0 := Lib.hid (Below.refl w.heap.size w)
  by_cases h0 : s.size = 0
  · have hse : s = ⟨#[]⟩ := by
      apply ByteArray.ext
      exact Array.eq_empty_of_size_eq_zero h0
    subst hse
    have HR := Lib.hid (show prs (⟨#[]⟩ : ByteArray).data.toList = ([], 0) by rfl)
    clear h0
    go_enter Tryd.func13, Tryd.ntmps13
    go_wp2
    go_ret2
    exact ret_par 0 _ _ _ HR.out HB0.out
  · have hne1 : s.toList.isEmpty = false := by rw [Lib.toList_data]; simp; intro h; apply h0; rw [← HLN.out, h]; rfl
    have hne2 : ¬ s.toList = [] := by intro h; rw [h] at hne1; cases hne1
    have HP := Lib.hid (show prs s.data.toList = prsL (pcs s.data.toList) [] by unfold prs; rw [if_neg (by intro h; apply h0; rw [← HLN.out, h]; rfl)])
    clear h0
    go_enter Tryd.func13, Tryd.ntmps13
    go_wp2_with fail
    refine (pieces_any s w HS.out).mono ?_
    rintro e w1 ⟨A, n, c, P, rfl, hss, hst, hnl, hb1⟩
    have HSS := Lib.hid hss
    have HST := Lib.hid hst
    have HB1 := Lib.hid hb1
    have HNP := Lib.hid hss.1
    clear hss hst hb1
    go_wp2
    go_loopw [14, 4] (fun i v wr => ∃ (k : Nat) (l : List B2) (A' : Option Addr) (c' : Nat), i = .int .i64 k ∧ k ≤ n ∧ v = .slice A' l.length c' ∧ l.length ≤ k ∧ Hid (prs s.data.toList = prsL ((stL P).drop k) (prL l)) ∧ Hid (Own2 wr w1.heap.size (.slice A' l.length c') l) ∧ Below w1.heap.size w1 wr) (fun i _ _ => n - (intOf i).toNat)
    case atStart => exact ⟨0, [], none, 0, rfl, Nat.zero_le _, rfl, Nat.le_refl _, by rw [HST.out]; exact HP.out, Own2.nil _ _, Below.refl _ _⟩
    case round =>
      obtain ⟨k, l, A', c', rfl, hk, rfl, hlk, HI, HO, hb⟩ := hrel
      have HB := Lib.hid hb
      have hbz := hb.size
      have HSW := Lib.hid (HSS.out.below hb)
      clear hb
      by_cases hlt : k < n
      · obtain ⟨b, off, rfl, hbl, hc⟩ := HSW.out.2.2 (by omega)
        have hck := hc k hlt
        have HDR := Lib.hid (stL_drop P k (by rw [HNP.out]; exact hlt))
        have HXM := Lib.hid (pcs_mem _ _ (Nat.le_refl _) (sAt P k).data.toList (by rw [← HST.out, ← stL_at P k (by rw [HNP.out]; exact hlt)]; exact List.getElem_mem _))
        obtain ⟨x, hx⟩ : ∃ x, sAt P k = x := ⟨_, rfl⟩
        rw [hx] at hck HDR HXM
        clear hx hc
        have HXZ := Lib.hid (show x.size ≤ 100000 by have h1 := HXM.out.1; have h2 := HS.out; simp at h1; omega)
        go_wp2_with fail
        refine (component_any x wr HXZ.out).mono ?_
        rintro e w3 ⟨kx, vx, rfl, hkx, hvx, hb3⟩
        have HO3 := Lib.hid (HO.out.below hb3)
        have HB3 := Lib.hid (HB.out.trans (hb3.mono HB.out.size))
        have hbz3 := HB3.out.size
        have HPX := Lib.hid (show prB (kx, vx) = (compC x.data.toList).1 from Prod.ext hkx hvx)
        clear hb3 hkx hvx hck
        by_cases h0 : (compC x.data.toList).2 = 0
        · have HI2 := Lib.hid (show prs s.data.toList = prsL ((stL P).drop (k + 1)) (prL (l ++ [(kx, vx)])) by
            rw [HI.out, HDR.out, prsL_yes h0, ← HPX.out]; simp [prL])
          rw [h0]
          clear h0
          go_wp2_with ((with_reducible refine at_dst 29 ?_); refine wpList_app2 rfl (.tmp 26) (.tmp 28) rfl w1.heap.size c' A' l rfl ((HO3.out.alloc _).alloc _) _ 1 1 [(kx, vx)] rfl (ps_two _ _ _ _ _) (by have := HS.out; omega) (by simp; omega) ?_; intro A5 c5 w5 hO5 hb5; have HO5 := Lib.hid hO5; have HB5 := Lib.hid (((HB3.out.alloc HB3.out.size _).alloc (by have := HB3.out.size; simp; omega) _).trans hb5); clear hO5 hb5)
          go_roundw
          case rel => exact ⟨k + 1, l ++ [(kx, vx)], A5, c5, by go_num, by omega, by simp, by simp; omega, HI2.out, HO5.out, HB5.out⟩
          case measure => simp [intOf]; omega
        · have HR := Lib.hid (show prs s.data.toList = ([], (compC x.data.toList).2) by rw [HI.out, HDR.out, prsL_no h0])
          obtain ⟨ce, hce⟩ : ∃ ce, (compC x.data.toList).2 = ce := ⟨_, rfl⟩
          rw [hce] at h0 HR
          rw [hce]
          clear hce
          go_wp2
          go_ret2
          exact ret_par _ _ _ _ HR.out (HB1.out.trans ((HB3.out.alloc HB3.out.size _).mono HB1.out.size))
      · have e : k = n := by omega
        subst e
        have HD := Lib.hid (show (stL P).drop k = [] from List.drop_eq_nil_of_le (by simp [stL, HNP.out]))
        have HBW := Lib.hid (HB1.out.trans (HB.out.mono HB1.out.size))
        by_cases h8 : 8 < l.length
        · have HR := Lib.hid (show prs s.data.toList = ([], 3) by rw [HI.out, HD.out, prsL, if_pos (by rw [prL_length]; exact h8)])
          go_wp2
          go_ret2
          exact ret_par _ _ _ _ HR.out HBW.out
        · have HR := Lib.hid (show prs s.data.toList = (prL l, 0) by rw [HI.out, HD.out, prsL, if_neg (by rw [prL_length]; exact h8)])
          go_wp2
          go_ret2
          exact ⟨A', c', l, by rw [HR.out]; rfl, HO.out.base HB1.out.size, by rw [HR.out], HBW.out⟩
end Go.Proofs.YtjjcbbckihjapaaDoor.Na
