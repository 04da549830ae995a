/-
  The walks of layer 5: Parent, last, Under.
-/
import Derived.Test.YtjjcbbckihjapaaDoorNaK
namespace Go.Proofs.YtjjcbbckihjapaaDoor.Na
open Go.RowKit Go.Proofs.YtjjcbbckihjapaaDoor.Fo

theorem Ps.drop {w : World} {b off n c k d : Nat} {l : List B2} (h : Ps w (some ⟨b, off, none⟩) n c l) (hk : k ≤ n) (hd : n - k ≤ d) : Ps w (some ⟨b, off + k * 2, none⟩) (n - k) d (l.drop k) := by
  refine ⟨by rw [List.length_drop, h.1], hd, fun hn => ?_⟩
  obtain ⟨b', off', hA, hl, hc⟩ := h.2.2 (by omega)
  injection hA with hA
  injection hA with e1 e2
  subst e1; subst e2
  refine ⟨b, off + k * 2, rfl, hl, fun i hi => ?_⟩
  rw [(pX_drop l k i).1, (pX_drop l k i).2]
  have := hc (k + i) (by omega)
  rw [show off + (k + i) * 2 = off + k * 2 + i * 2 by omega] at this
  exact this
theorem Ps.empty (w : World) (A : Option Addr) (c : Nat) : Ps w A 0 c [] := ⟨rfl, Nat.zero_le _, fun h => absurd h (by omega)⟩
theorem Sh.drop {l : List B2} (h : Sh l) (k : Nat) : Sh (l.drop k) := by
  intro i hi
  rw [(pX_drop l k i).1, (pX_drop l k i).2]
  exact h (k + i) (by simp at hi; omega)
/-- Parent's answer. -/
def ParnIs (w : World) (r : List UInt8 × Bool) (e : Ending) (w' : World) : Prop :=
  ∃ t : ByteArray, e = .returned (.tuple #[.string t, .bool r.2]) ∧ t.data.toList = r.1 ∧ Below w.heap.size w w'
theorem par_yes {s : List UInt8} (h : valid s = true) (h2 : cps s ≠ []) : par s = (joinL (cps s).tail, true) := by unfold par; rw [if_pos ⟨h, h2⟩]
theorem par_no {s : List UInt8} (h : valid s = false ∨ cps s = []) : par s = ([], false) := by
  unfold par; rw [if_neg]; rintro ⟨h1, h2⟩; rcases h with h | h
  · rw [h] at h1; cases h1
  · exact h2 h
set_option maxRecDepth 100000 in
theorem parent_any (s : ByteArray) (w : World) (hs : s.size ≤ 100000) : Calls Tryd.prog 25 #[.string s] w (ParnIs w (par s.data.toList)) := by
  have HS := Lib.hid hs
  go_enter Tryd.func25, Tryd.ntmps25
  go_wp2_with fail
  refine (normal_any s w HS.out).mono ?_
  rintro e w1 ⟨A, c, l, rfl, hO, hl, hz, h8, hb⟩
  have HO := Lib.hid hO
  have HL := Lib.hid hl
  have HZ := Lib.hid hz
  have HB := Lib.hid hb
  clear hO hl hz hb
  cases hv : valid s.data.toList with
  | false =>
    have HR := Lib.hid (par_no (Or.inl hv))
    clear hv
    go_wp2
    go_ret2
    exact ⟨⟨#[]⟩, by rw [HR.out]; rfl, by rw [HR.out], HB.out⟩
  | true =>
    have HC := Lib.hid (HL.out hv)
    have HV := Lib.hid hv
    clear hv
    by_cases h0 : l.length = 0
    · have HR := Lib.hid (par_no (s := s.data.toList) (Or.inr (by rw [← HC.out, List.eq_nil_of_length_eq_zero h0]; rfl)))
      have hl0 : l = [] := List.eq_nil_of_length_eq_zero h0
      subst hl0
      go_wp2
      go_ret2
      exact ⟨⟨#[]⟩, by rw [HR.out]; rfl, by rw [HR.out], HB.out⟩
    · have hne : 0 < l.length := by omega
      obtain ⟨b, off, rfl, hbl, hc⟩ := HO.out.ps.1.2.2 hne
      have hlc := HO.out.ps.1.2.1
      clear hc
      have HNE := Lib.hid hne
      have HPS := Lib.hid HO.out.ps.1
      have HR := Lib.hid (show par s.data.toList = (joinL (prL (l.drop 1)), true) by
        rw [par_yes HV.out (by rw [← HC.out]; intro e; have := congrArg List.length e; rw [prL_length] at this; simp at this; rw [this] at hne; simp at hne), ← HC.out]
        simp [prL])
      have HNF := Lib.hid (show fmt (prL (l.drop 1)) = (joinL (prL (l.drop 1)), 0) by
        have h1 := nf_tail (cps_nf s.data.toList)
        rw [← HC.out] at h1
        have h2 := h1.fmt
        simpa [prL] using h2)
      by_cases hc1 : c = 1
      · subst hc1
        have hl1 : l.length - 1 = 0 := by omega
        have hd : l.drop 1 = [] := List.drop_eq_nil_of_le (by omega)
        have HP0 := Lib.hid (show Ps w1 (some ⟨b, off, none⟩) 0 0 (l.drop 1) by rw [hd]; exact Ps.empty _ _ _)
        clear hd hl1
        go_wp2_with fail
        refine (format_any w1 (some ⟨b, off, none⟩) 0 0 (l.drop 1) HP0.out (HZ.out.drop 1) (by omega)).mono ?_
        rintro e w2 ⟨t, rfl, ht, hb2⟩
        rw [HNF.out] at ht ⊢
        have HT := Lib.hid ht
        have HB2 := Lib.hid (HB.out.trans (hb2.mono HB.out.size))
        clear ht hb2
        go_wp2
        go_ret2
        exact ⟨t, by rw [HR.out]; rfl, by rw [HR.out]; exact HT.out, HB2.out⟩
      · go_wp2_with fail
        refine (format_any w1 (some ⟨b, off + 2, none⟩) (l.length - 1) (c - 1) (l.drop 1) (HPS.out.drop (k := 1) (by omega) (by omega)) (HZ.out.drop 1) (by omega)).mono ?_
        rintro e w2 ⟨t, rfl, ht, hb2⟩
        rw [HNF.out] at ht ⊢
        have HT := Lib.hid ht
        have HB2 := Lib.hid (HB.out.trans (hb2.mono HB.out.size))
        clear ht hb2
        go_wp2
        go_ret2
        exact ⟨t, by rw [HR.out]; rfl, by rw [HR.out]; exact HT.out, HB2.out⟩
set_option maxRecDepth 100000 in
theorem rparent_any (s : ByteArray) (w : World) (hs : s.size ≤ 100000) : Calls Tryd.prog 26 #[.string s] w (ParnIs w (par s.data.toList)) := by
  have HS := Lib.hid hs
  go_enter Tryd.func26, Tryd.ntmps26
  go_wp2_with fail
  refine (parts_any s w HS.out).mono ?_
  rintro e w1 ⟨A, c, l, rfl, hO, hl, hz, h8, hb⟩
  have HO := Lib.hid hO
  have HL := Lib.hid hl
  have HZ := Lib.hid hz
  have HB := Lib.hid hb
  clear hO hl hz hb
  cases hv : valid s.data.toList with
  | false =>
    have HR := Lib.hid (par_no (Or.inl hv))
    clear hv
    go_wp2
    go_ret2
    exact ⟨⟨#[]⟩, by rw [HR.out]; rfl, by rw [HR.out], HB.out⟩
  | true =>
    have HC := HL
    have HV := Lib.hid hv
    clear hv
    by_cases h0 : l.length = 0
    · have HR := Lib.hid (par_no (s := s.data.toList) (Or.inr (by rw [← HC.out, List.eq_nil_of_length_eq_zero h0]; rfl)))
      have hl0 : l = [] := List.eq_nil_of_length_eq_zero h0
      subst hl0
      go_wp2
      go_ret2
      exact ⟨⟨#[]⟩, by rw [HR.out]; rfl, by rw [HR.out], HB.out⟩
    · have hne : 0 < l.length := by omega
      obtain ⟨b, off, rfl, hbl, hc⟩ := HO.out.ps.1.2.2 hne
      have hlc := HO.out.ps.1.2.1
      clear hc
      have HNE := Lib.hid hne
      have HPS := Lib.hid HO.out.ps.1
      have HR := Lib.hid (show par s.data.toList = (joinL (prL (l.drop 1)), true) by
        rw [par_yes HV.out (by rw [← HC.out]; intro e; have := congrArg List.length e; rw [prL_length] at this; simp at this; rw [this] at hne; simp at hne), ← HC.out]
        simp [prL])
      have HNF := Lib.hid (show fmt (prL (l.drop 1)) = (joinL (prL (l.drop 1)), 0) by
        have h1 := nf_tail (cps_nf s.data.toList)
        rw [← HC.out] at h1
        have h2 := h1.fmt
        simpa [prL] using h2)
      by_cases hc1 : c = 1
      · subst hc1
        have hl1 : l.length - 1 = 0 := by omega
        have hd : l.drop 1 = [] := List.drop_eq_nil_of_le (by omega)
        have HP0 := Lib.hid (show Ps w1 (some ⟨b, off, none⟩) 0 0 (l.drop 1) by rw [hd]; exact Ps.empty _ _ _)
        clear hd hl1
        go_wp2_with fail
        refine (rformat_any w1 (some ⟨b, off, none⟩) 0 0 (l.drop 1) HP0.out (HZ.out.drop 1) (by omega)).mono ?_
        rintro e w2 ⟨t, rfl, ht, hb2⟩
        rw [HNF.out] at ht ⊢
        have HT := Lib.hid ht
        have HB2 := Lib.hid (HB.out.trans (hb2.mono HB.out.size))
        clear ht hb2
        go_wp2
        go_ret2
        exact ⟨t, by rw [HR.out]; rfl, by rw [HR.out]; exact HT.out, HB2.out⟩
      · go_wp2_with fail
        refine (rformat_any w1 (some ⟨b, off + 2, none⟩) (l.length - 1) (c - 1) (l.drop 1) (HPS.out.drop (k := 1) (by omega) (by omega)) (HZ.out.drop 1) (by omega)).mono ?_
        rintro e w2 ⟨t, rfl, ht, hb2⟩
        rw [HNF.out] at ht ⊢
        have HT := Lib.hid ht
        have HB2 := Lib.hid (HB.out.trans (hb2.mono HB.out.size))
        clear ht hb2
        go_wp2
        go_ret2
        exact ⟨t, by rw [HR.out]; rfl, by rw [HR.out]; exact HT.out, HB2.out⟩
end Go.Proofs.YtjjcbbckihjapaaDoor.Na
