/-
  The walks of layer 5: the reference's Under.
-/
import Derived.Test.YtjjcbbckihjapaaDoorNaN
namespace Go.Proofs.YtjjcbbckihjapaaDoor.Na
open Go.RowKit Go.Proofs.YtjjcbbckihjapaaDoor.Fo

theorem und_short {a b : List UInt8} (h : (cps a).length < (cps b).length) : und a b = false := by
  unfold und
  have : ¬ (cps b <:+ cps a) := fun e => by have := e.length_le; omega
  simp [this]
set_option maxHeartbeats 1000000 in
theorem runder_any (s t : ByteArray) (w : World) (hs : s.size ≤ 100000) (ht : t.size ≤ 100000) : Calls Tryd.prog 31 #[.string s, .string t] w fun e w' => e = .returned (.bool (und s.data.toList t.data.toList)) ∧ Below w.heap.size w w' := by
  have HS := Lib.hid hs
  have HT := Lib.hid ht
  go_enter Tryd.func31, Tryd.ntmps31
  go_wp2_with fail
  refine (parts_any s w HS.out).mono ?_
  rintro e w1 ⟨A, c, l, rfl, hO, hl, hz, h8, hb⟩
  have HO := Lib.hid hO
  have HL := Lib.hid hl
  have HZ := Lib.hid hz
  have HB := Lib.hid hb
  clear hO hl hz hb
  go_wp2_with fail
  refine (parts_any t w1 HT.out).mono ?_
  rintro e w2 ⟨A2, c2, l2, rfl, hO2, hl2, hz2, h82, hb2⟩
  have HP := Lib.hid (HO.out.ps.1.below hb2)
  have HL2 := Lib.hid hl2
  have HB2 := Lib.hid (HB.out.trans (hb2.mono HB.out.size))
  clear hO2 hl2 hz2 hb2
  cases h1 : valid s.data.toList with
  | false =>
    have HR := Lib.hid (und_no (b := t.data.toList) (Or.inl h1))
    clear h1
    go_wp2
    all_goals
      go_ret
      exact ⟨ret_bool HR.out.symm, HB2.out⟩
  | true =>
    cases h2 : valid t.data.toList with
    | false =>
      have HR := Lib.hid (und_no (a := s.data.toList) (Or.inr h2))
      clear h1 h2
      go_wp2
      all_goals
        go_ret
        exact ⟨ret_bool HR.out.symm, HB2.out⟩
    | true =>
      have H1 := Lib.hid h1
      have H2 := Lib.hid h2
      clear h1 h2
      by_cases hlt : l.length < l2.length
      · have HR := Lib.hid (und_short (a := s.data.toList) (b := t.data.toList) (by rw [← HL.out, ← HL2.out, prL_length, prL_length]; exact hlt))
        go_wp2
        go_ret
        exact ⟨ret_bool HR.out.symm, HB2.out⟩
      · have HR := Lib.hid (show und s.data.toList t.data.toList = decide ((fmt ((prL l).drop (l.length - l2.length))).1 = t.data.toList) by
          rw [und_yes H1.out H2.out, HL.out, decide_eq_decide]
          have := suf_fmt (cps_nf s.data.toList) (b := t.data.toList) H2.out
          rw [← HL.out, prL_length, ← HL2.out, prL_length] at this
          rw [← HL.out, ← HL2.out]
          exact this.symm)
        have g1 : IntKind.i64.wrap ((l.length : Int) - (l2.length : Int)) = ((l.length - l2.length : Nat) : Int) := by rw [show (l.length : Int) - (l2.length : Int) = ((l.length - l2.length : Nat) : Int) by omega]; exact IntWalk.i64_in _ (by omega)
        have HNF := Lib.hid (show (fmt (prL (l.drop (l.length - l2.length)))).2 = 0 by
          have h1 : Nf (prL (l.drop (l.length - l2.length))) := by
            rw [prL_dropL, HL.out]
            exact (cps_nf s.data.toList).sub (fun p hp => List.mem_of_mem_drop hp) (by have := (cps_nf s.data.toList).len; rw [List.length_drop]; omega)
          rw [h1.fmt])
        have hnc := HP.out.2.1
        by_cases hc : c = l.length - l2.length
        · have HP2 := Lib.hid (HP.out.drop0 (l.length - l2.length) (by omega))
          have hz := HZ.out.drop (l.length - l2.length)
          have HZ2 := Lib.hid hz
          subst hc
          clear hnc hz
          go_wp2_with fail
          refine (rformat_any w2 A (l.length - (l.length - l2.length)) 0 (l.drop (l.length - l2.length)) HP2.out HZ2.out (by omega)).mono ?_
          rintro e w3 ⟨u, rfl, hu, hb3⟩
          have HB3 := Lib.hid (HB2.out.trans (hb3.mono HB2.out.size))
          have HE := Lib.hid (show und s.data.toList t.data.toList = (u.toList == t.toList) by
            rw [HR.out, ← prL_dropL, ← hu, Lib.toList_data, Lib.toList_data, Bool.eq_iff_iff]; simp)
          rw [HNF.out]
          clear hu hb3
          go_wp2
          go_ret
          exact ⟨ret_bool HE.out.symm, HB3.out⟩
        · have HP1 := Lib.hid (HP.out.dropO (l.length - l2.length) (d := c - (l.length - l2.length)) (by omega) (by omega))
          have HZ2 := Lib.hid (HZ.out.drop (l.length - l2.length))
          go_wp2_with fail
          refine (rformat_any w2 (Option.map (fun x => x.add ((l.length - l2.length) * 2)) A) (l.length - (l.length - l2.length)) (c - (l.length - l2.length)) (l.drop (l.length - l2.length)) HP1.out HZ2.out (by omega)).mono ?_
          rintro e w3 ⟨u, rfl, hu, hb3⟩
          have HB3 := Lib.hid (HB2.out.trans (hb3.mono HB2.out.size))
          have HE := Lib.hid (show und s.data.toList t.data.toList = (u.toList == t.toList) by
            rw [HR.out, ← prL_dropL, ← hu, Lib.toList_data, Lib.toList_data, Bool.eq_iff_iff]; simp)
          rw [HNF.out]
          clear hu hb3
          go_wp2
          go_ret
          exact ⟨ret_bool HE.out.symm, HB3.out⟩
end Go.Proofs.YtjjcbbckihjapaaDoor.Na
