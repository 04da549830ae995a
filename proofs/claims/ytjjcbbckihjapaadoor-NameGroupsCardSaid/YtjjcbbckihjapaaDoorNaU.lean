/-
  The walks of layer 5: Child, both.
-/
import Derived.Test.YtjjcbbckihjapaaDoorNaT
import Derived.Laws.OwnMore
import Derived.Deep.Upon
namespace Go.Proofs.YtjjcbbckihjapaaDoor.Na
open Go.RowKit Go.Proofs.YtjjcbbckihjapaaDoor.Fo

theorem own2_new (w : World) (x y : ByteArray) : Own2 (w.alloc (.cells #[.string x, .string y] 36)) w.heap.size (.slice (some ⟨w.heap.size, 0, none⟩) 1 1) [(x, y)] :=
  World.ownsRow_lit w #[.string x, .string y] 1 (Nat.le_refl _) (by simp [maxLen]) rfl
theorem chk_one {p : Pr} {r : List Pr} (h : chkL [p] ≠ 0) : fmt (p :: r) = ([], chkL [p]) := by
  cases h1 : namL p.1 with
  | false =>
    have e1 : chkL [p] = 5 := by unfold chkL; rw [chkF_a h1]; rfl
    have e2 : chkL (p :: r) = 5 := by unfold chkL; rw [chkF_a h1]; rfl
    unfold fmt
    rw [e1, e2]
    rfl
  | true =>
    cases h2 : clnL p.2 with
    | false =>
      have e1 : chkL [p] = 8 := by unfold chkL; rw [chkF_b h1 h2]; rfl
      have e2 : chkL (p :: r) = 8 := by unfold chkL; rw [chkF_b h1 h2]; rfl
      unfold fmt
      rw [e1, e2]
      rfl
    | true =>
      exfalso
      apply h
      unfold chkL
      rw [chkF_mk h1 h2]
      rfl
theorem Sh.one {x y : ByteArray} (hx : x.size ≤ 100000) (hy : y.size ≤ 100000) : Sh [(x, y)] := by
  intro i hi
  have : i = 0 := by simp at hi; omega
  subst this
  exact ⟨hx, hy⟩
theorem Sh.append {l m : List B2} (hl : Sh l) (hm : Sh m) : Sh (l ++ m) := by
  intro i hi
  unfold pX pY
  by_cases h : i < l.length
  · have e : (l ++ m).getD i (⟨#[]⟩, ⟨#[]⟩) = l.getD i (⟨#[]⟩, ⟨#[]⟩) := by simp [List.getD, List.getElem?_append_left h]
    rw [e]
    exact hl i h
  · have e : (l ++ m).getD i (⟨#[]⟩, ⟨#[]⟩) = m.getD (i - l.length) (⟨#[]⟩, ⟨#[]⟩) := by simp [List.getD, List.getElem?_append_right (Nat.le_of_not_lt h)]
    rw [e]
    exact hm (i - l.length) (by simp at hi; omega)
theorem fmt_ret (c : Int) (t : ByteArray) (r : List UInt8 × Int) (w w' : World) (h : c = r.2) (ht : t.data.toList = r.1) (hb : Below w.heap.size w w') : FmtIs w r (.returned (.tuple #[.string t, .int .i64 c])) w' := ⟨t, by rw [h], ht, hb⟩
theorem chi_no {s : List UInt8} {p : Pr} (h : valid s = false) : chi s p = ([], 4) := by unfold chi; rw [if_pos h]
theorem chi_yes {s : List UInt8} {p : Pr} (h : valid s = true) : chi s p = fmt (p :: cps s) := by unfold chi; rw [if_neg (by simp [h])]

set_option maxRecDepth 100000 in
set_option maxHeartbeats 4000000 in
theorem child_any (s x y : ByteArray) (w : World) (hs : s.size ≤ 100000) (hx : x.size ≤ 100000) (hy : y.size ≤ 100000) :
    Calls Tryd.prog 27 #[.string s, .agg #[.string x, .string y]] w (FmtIs w (chi s.data.toList (x.data.toList, y.data.toList))) := by
  have HS := Lib.hid hs
  have HX := Lib.hid hx
  have HY := Lib.hid hy
  have HB0 := Lib.hid (show Below w.heap.size w (w.alloc (.cells #[.string x, .string y] 36)) from (Below.refl _ w).alloc (Nat.le_refl _) _)
  have HP0 := Lib.hid (Px.new w x y 36)
  clear hs hx hy
  go_enter Tryd.func27, Tryd.ntmps27
  go_wp2_with fail
  refine (normal_any s _ HS.out).mono ?_
  rintro e w1 ⟨A, c, l, rfl, hO, hl, hz, h8, hb⟩
  have HO := Lib.hid hO
  have HL := Lib.hid hl
  have HZ := Lib.hid hz
  have HP1 := Lib.hid (HP0.out.later hb)
  have HB := Lib.hid (HB0.out.trans (hb.mono HB0.out.size))
  clear hO hl hz hb
  cases hv : valid s.data.toList with
  | false =>
    have HR := Lib.hid (chi_no (p := (x.data.toList, y.data.toList)) hv)
    clear hv
    go_wp2
    go_ret2
    exact ret_fmt 4 _ _ _ HR.out HB.out
  | true =>
    have HC := Lib.hid (HL.out hv)
    have HR := Lib.hid (chi_yes (p := (x.data.toList, y.data.toList)) hv)
    clear hv
    obtain ⟨hlt1, c0, c1, f0, f1⟩ := HP1.out
    go_wp2_with fail
    refine (check_any _ (some ⟨w1.heap.size, 0, none⟩) 1 1 [(x, y)] (ps_one w1 x y _) (Sh.one HX.out HY.out) (by omega)).mono ?_
    rintro e w2 ⟨rfl, hb2⟩
    have hs1 := (((Below.refl w1.heap.size w1).alloc (Nat.le_refl _) (.cells #[.string x, .string y] 36)).trans (hb2.mono (by simp)))
    have HB2 := Lib.hid (HB.out.trans (hs1.mono HB.out.size))
    have HO2 := Lib.hid (HO.out.below hs1)
    have HP2 := Lib.hid (HP1.out.later hs1)
    clear c0 c1 f0 f1 hlt1 hs1 hb2
    by_cases h0 : chkL (prL [(x, y)]) = 0
    · rw [h0]
      clear h0
      obtain ⟨hlt2, c0, c1, f0, f1⟩ := HP2.out
      have HSH := Lib.hid (Sh.append (Sh.one HX.out HY.out) HZ.out)
      go_wp2_with (first | ((with_reducible refine at_dst 25 ?_); go_must (refine wpList_app2 rfl (.tmp 23) (.tmp 24) rfl w2.heap.size 1 (some ⟨w2.heap.size, 0, none⟩) [(x, y)] rfl (own2_new w2 x y) A l.length c l rfl ((HO2.out.alloc _).ps.1) (by simp; omega) (by simp) ?_); intro A5 c5 w5 hO5 hb5; have HO5 := Lib.hid hO5; have HB5 := Lib.hid (((Below.refl w2.heap.size w2).alloc (Nat.le_refl _) (.cells #[.string x, .string y] 36)).trans (hb5.mono (by simp))); clear hO5 hb5) | fail)
      have HN9 := Lib.hid (show ([(x, y)] ++ l).length ≤ 100 by simp; omega)
      refine (format_any w5 A5 ([(x, y)] ++ l).length c5 ([(x, y)] ++ l) HO5.out.ps.1 HSH.out (by have := HN9.out; omega)).mono ?_
      rintro e w6 ⟨t, rfl, ht, hb6⟩
      have HT := Lib.hid (show t.data.toList = (fmt ((x.data.toList, y.data.toList) :: cps s.data.toList)).1 by rw [ht, ← HC.out]; rfl)
      have HE := Lib.hid (show (fmt (prL ([(x, y)] ++ l))).2 = (fmt ((x.data.toList, y.data.toList) :: cps s.data.toList)).2 by rw [← HC.out]; rfl)
      have HB6 := Lib.hid ((HB2.out.trans (HB5.out.mono HB2.out.size)).trans (hb6.mono (HB2.out.trans (HB5.out.mono HB2.out.size)).size))
      clear ht hb6
      go_wp2
      go_ret2
      exact fmt_ret _ t _ _ _ (by rw [HR.out]; exact HE.out) (by rw [HR.out]; exact HT.out) HB6.out
    · have HE := Lib.hid (chk_one (r := cps s.data.toList) h0)
      obtain ⟨ce, hce⟩ : ∃ ce, chkL (prL [(x, y)]) = ce := ⟨_, rfl⟩
      have HCE := Lib.hid hce
      rw [hce] at h0
      rw [hce]
      clear hce
      go_wp2
      go_ret2
      exact ret_fmt _ _ _ _ (by rw [HR.out, ← HCE.out]; exact HE.out) HB2.out
set_option maxRecDepth 100000 in
set_option maxHeartbeats 4000000 in
theorem rchild_any (s x y : ByteArray) (w : World) (hs : s.size ≤ 100000) (hx : x.size ≤ 100000) (hy : y.size ≤ 100000) :
    Calls Tryd.prog 28 #[.string s, .agg #[.string x, .string y]] w (FmtIs w (chi s.data.toList (x.data.toList, y.data.toList))) := by
  have HS := Lib.hid hs
  have HX := Lib.hid hx
  have HY := Lib.hid hy
  have HB0 := Lib.hid (show Below w.heap.size w (w.alloc (.cells #[.string x, .string y] 36)) from (Below.refl _ w).alloc (Nat.le_refl _) _)
  have HP0 := Lib.hid (Px.new w x y 36)
  clear hs hx hy
  go_enter Tryd.func28, Tryd.ntmps28
  go_wp2_with fail
  refine (parts_any s _ HS.out).mono ?_
  rintro e w2 ⟨A, c, l, rfl, hO, hl, hz, h8, hb⟩
  have HO2 := Lib.hid hO
  have HL := Lib.hid hl
  have HZ := Lib.hid hz
  have HP2 := Lib.hid (HP0.out.later hb)
  have HB2 := Lib.hid (HB0.out.trans (hb.mono HB0.out.size))
  clear hO hl hz hb
  cases hv : valid s.data.toList with
  | false =>
    have HR := Lib.hid (chi_no (p := (x.data.toList, y.data.toList)) hv)
    clear hv
    go_wp2
    go_ret2
    exact ret_fmt 4 _ _ _ HR.out HB2.out
  | true =>
    have HC := HL
    have HR := Lib.hid (chi_yes (p := (x.data.toList, y.data.toList)) hv)
    clear hv
    obtain ⟨hlt2, c0, c1, f0, f1⟩ := HP2.out
    have HSH := Lib.hid (Sh.append (Sh.one HX.out HY.out) HZ.out)
    go_wp2_with (first | ((with_reducible refine at_dst 18 ?_); go_must (refine wpList_app2 rfl (.tmp 16) (.tmp 17) rfl w2.heap.size 1 (some ⟨w2.heap.size, 0, none⟩) [(x, y)] rfl (own2_new w2 x y) A l.length c l rfl ((HO2.out.alloc _).ps.1) (by simp; omega) (by simp) ?_); intro A5 c5 w5 hO5 hb5; have HO5 := Lib.hid hO5; have HB5 := Lib.hid (((Below.refl w2.heap.size w2).alloc (Nat.le_refl _) (.cells #[.string x, .string y] 36)).trans (hb5.mono (by simp))); clear hO5 hb5) | fail)
    have HN9 := Lib.hid (show ([(x, y)] ++ l).length ≤ 100 by simp; omega)
    refine (rformat_any w5 A5 ([(x, y)] ++ l).length c5 ([(x, y)] ++ l) HO5.out.ps.1 HSH.out (by have := HN9.out; omega)).mono ?_
    rintro e w6 ⟨t, rfl, ht, hb6⟩
    have HT := Lib.hid (show t.data.toList = (fmt ((x.data.toList, y.data.toList) :: cps s.data.toList)).1 by rw [ht, ← HC.out]; rfl)
    have HE := Lib.hid (show (fmt (prL ([(x, y)] ++ l))).2 = (fmt ((x.data.toList, y.data.toList) :: cps s.data.toList)).2 by rw [← HC.out]; rfl)
    have HB6 := Lib.hid ((HB2.out.trans (HB5.out.mono HB2.out.size)).trans (hb6.mono (HB2.out.trans (HB5.out.mono HB2.out.size)).size))
    clear ht hb6
    go_wp2
    go_ret2
    exact fmt_ret _ t _ _ _ (by rw [HR.out]; exact HE.out) (by rw [HR.out]; exact HT.out) HB6.out
end Go.Proofs.YtjjcbbckihjapaaDoor.Na
