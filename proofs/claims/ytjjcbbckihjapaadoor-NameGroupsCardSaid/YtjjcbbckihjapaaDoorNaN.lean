/-
  The walks of layer 5: last, Under.
-/
import Derived.Test.YtjjcbbckihjapaaDoorNaM
namespace Go.Proofs.YtjjcbbckihjapaaDoor.Na
open Go.RowKit Go.Proofs.YtjjcbbckihjapaaDoor.Fo

theorem prL_dropL (l : List B2) (k : Nat) : prL (l.drop k) = (prL l).drop k := by simp [prL, List.map_drop]
theorem Ps.dropO {w : World} {A : Option Addr} {n c d : Nat} {l : List B2} (h : Ps w A n c l) (k : Nat) (hk : k ≤ n) (hd : n - k ≤ d) : Ps w (Option.map (fun x => x.add (k * 2)) A) (n - k) d (l.drop k) := by
  rcases Nat.eq_zero_or_pos (n - k) with h0 | h0
  · rw [h0, List.drop_eq_nil_of_le (by rw [h.1]; omega)]
    exact Ps.empty _ _ _
  · obtain ⟨b, off, rfl, _⟩ := h.2.2 (by omega)
    have := h.drop hk hd
    have hadd : (⟨b, off, none⟩ : Addr).add (k * 2) = ⟨b, off + k * 2, none⟩ := by unfold Addr.add; split <;> simp_all
    rw [Option.map_some, hadd]
    exact this
theorem Ps.drop0 {w : World} {A : Option Addr} {n c : Nat} {l : List B2} (h : Ps w A n c l) (k : Nat) (hk : n ≤ k) : Ps w A (n - k) 0 (l.drop k) := by
  rw [show n - k = 0 by omega, List.drop_eq_nil_of_le (by rw [h.1]; omega)]
  exact Ps.empty _ _ _
theorem last_any (w : World) (A B : Option Addr) (n c m d : Nat) (l k : List B2) (hl : Ps w A n c l) (hk : Ps w B m d k) (hn : n ≤ 1000) (hm : m ≤ 1000) :
    Calls Tryd.prog 54 #[.slice A n c, .slice B m d] w fun e w' => e = .returned (.bool (decide (prL k <:+ prL l))) ∧ Below w.heap.size w w' := by
  have HL := Lib.hid hl
  have HK := Lib.hid hk
  have HN := Lib.hid hl.1
  have HM := Lib.hid hk.1
  have hnc := hl.2.1
  clear hl hk
  by_cases hmn : m ≤ n
  · have HR := Lib.hid (show decide (prL k <:+ prL l) = decide (prL (l.drop (n - m)) = prL k) by
      rw [decide_eq_decide, suf_drop, prL_length, prL_length, HN.out, HM.out, prL_dropL]
      exact ⟨fun h => h.2, fun h => ⟨hmn, h⟩⟩)
    have g1 : IntKind.i64.wrap ((n : Int) - (m : Int)) = ((n - m : Nat) : Int) := by rw [show (n : Int) - (m : Int) = ((n - m : Nat) : Int) by omega]; exact IntWalk.i64_in _ (by omega)
    go_enter Tryd.func54, Tryd.ntmps54
    by_cases hc : c = n - m
    · have HP2 := Lib.hid (HL.out.drop0 (n - m) (by omega))
      subst hc
      clear hnc
      go_wp2_with fail
      refine (equal_any w A B (n - (n - m)) 0 m d (l.drop (n - m)) k HP2.out HK.out (by omega) hm).mono ?_
      rintro e w1 ⟨rfl, hb⟩
      rw [← HR.out]
      go_wp2
      go_ret
      exact ⟨rfl, hb⟩
    · have HP1 := Lib.hid (HL.out.dropO (n - m) (d := c - (n - m)) (by omega) (by omega))
      go_wp2_with fail
      refine (equal_any w (Option.map (fun x => x.add ((n - m) * 2)) A) B (n - (n - m)) (c - (n - m)) m d (l.drop (n - m)) k HP1.out HK.out (by omega) hm).mono ?_
      rintro e w1 ⟨rfl, hb⟩
      rw [← HR.out]
      go_wp2
      go_ret
      exact ⟨rfl, hb⟩
  · have HR := Lib.hid (show decide (prL k <:+ prL l) = false by
      rw [decide_eq_false_iff_not]
      intro h
      have := h.length_le
      rw [prL_length, prL_length, HN.out, HM.out] at this
      omega)
    have g1 : IntKind.i64.wrap ((n : Int) - (m : Int)) = (n : Int) - (m : Int) := IntWalk.i64_in _ (by omega)
    have g2 : ¬ (0 : Int) ≤ (n : Int) - (m : Int) := by omega
    go_enter Tryd.func54, Tryd.ntmps54
    go_wp2
    go_ret
    exact ⟨ret_bool HR.out.symm, Below.refl _ _⟩

theorem und_no {a b : List UInt8} (h : valid a = false ∨ valid b = false) : und a b = false := by
  unfold und
  rcases h with h | h <;> simp [h]
theorem und_yes {a b : List UInt8} (h1 : valid a = true) (h2 : valid b = true) : und a b = decide (cps b <:+ cps a) := by simp [und, h1, h2]
theorem under_any (s t : ByteArray) (w : World) (hs : s.size ≤ 100000) (ht : t.size ≤ 100000) : Calls Tryd.prog 30 #[.string s, .string t] w fun e w' => e = .returned (.bool (und s.data.toList t.data.toList)) ∧ Below w.heap.size w w' := by
  have HS := Lib.hid hs
  have HT := Lib.hid ht
  go_enter Tryd.func30, Tryd.ntmps30
  go_wp2_with fail
  refine (normal_any s w HS.out).mono ?_
  rintro e w1 ⟨A, c, l, rfl, hO, hl, hz, h8, hb⟩
  have HO := Lib.hid hO
  have HL := Lib.hid hl
  have HB := Lib.hid hb
  clear hO hl hz hb
  go_wp2_with fail
  refine (normal_any t w1 HT.out).mono ?_
  rintro e w2 ⟨A2, c2, l2, rfl, hO2, hl2, hz2, h82, hb2⟩
  have HP := Lib.hid (HO.out.ps.1.below hb2)
  have HP2 := Lib.hid hO2.ps.1
  have HL2 := Lib.hid hl2
  have HB2 := Lib.hid (HB.out.trans (hb2.mono HB.out.size))
  clear hO2 hl2 hz2 hb2
  cases h1 : valid s.data.toList with
  | false =>
    have HR := Lib.hid (und_no (b := t.data.toList) (Or.inl h1))
    clear h1
    go_wp2
    all_goals
      go_ret
      exact ⟨ret_bool HR.out.symm, HB2.out⟩
  | true =>
    cases h2 : valid t.data.toList with
    | false =>
      have HR := Lib.hid (und_no (a := s.data.toList) (Or.inr h2))
      clear h1 h2
      go_wp2
      go_ret
      exact ⟨ret_bool HR.out.symm, HB2.out⟩
    | true =>
      have HR := Lib.hid (show und s.data.toList t.data.toList = decide (prL l2 <:+ prL l) by rw [und_yes h1 h2, HL.out h1, HL2.out h2])
      clear h1 h2
      go_wp2_with fail
      refine (last_any w2 A A2 l.length c l2.length c2 l l2 HP.out HP2.out (by omega) (by omega)).mono ?_
      rintro e w3 ⟨rfl, hb3⟩
      have HB3 := Lib.hid (HB2.out.trans (hb3.mono HB2.out.size))
      rw [← HR.out]
      clear hb3
      go_wp2
      go_ret
      exact ⟨rfl, HB3.out⟩
end Go.Proofs.YtjjcbbckihjapaaDoor.Na
