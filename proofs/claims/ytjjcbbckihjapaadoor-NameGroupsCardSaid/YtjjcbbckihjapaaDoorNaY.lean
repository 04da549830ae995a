/-
  The walks of layer 5: Compare.
-/
import Derived.Test.YtjjcbbckihjapaaDoorNaX
namespace Go.Proofs.YtjjcbbckihjapaaDoor.Na
open Go.RowKit Go.Proofs.YtjjcbbckihjapaaDoor.Fo

theorem rev_drop (l : List B2) (k : Nat) (h : k < l.length) : (prL l).reverse.drop k = ((pX l (l.length - 1 - k)).data.toList, (pY l (l.length - 1 - k)).data.toList) :: (prL l).reverse.drop (k + 1) := by
  rw [List.drop_eq_getElem_cons (by simpa [prL] using h)]
  congr 1
  rw [List.getElem_reverse]
  have := prL_at l ((prL l).length - 1 - k) (by rw [prL_length]; omega)
  rw [this, prL_length]
theorem cmpR_end (A B : List Pr) (k : Nat) (h : A.length ≤ k ∨ B.length ≤ k) (hk1 : k ≤ A.length) (hk2 : k ≤ B.length) : cmpR (A.drop k) (B.drop k) = cmpI A.length B.length := by
  unfold cmpI
  rcases Nat.lt_trichotomy A.length B.length with h1 | h1 | h1
  · rw [if_pos (by omega), List.drop_eq_nil_of_le (by omega), List.drop_eq_getElem_cons (by omega)]; rfl
  · rw [if_neg (by omega), if_neg (by omega), List.drop_eq_nil_of_le (by omega), List.drop_eq_nil_of_le (by omega)]; rfl
  · have hB : B.drop k = [] := List.drop_eq_nil_of_le (by omega)
    rw [if_neg (by omega), if_pos (by omega), List.drop_eq_getElem_cons (by omega), hB]; rfl
theorem cmpR_zero1 {p q : Pr} {a b : List Pr} (h : cmpP p q = 0) : cmpR (p :: a) (q :: b) = cmpR a b := by rw [cmpR, if_neg (by simp [h])]
theorem cmpR_ne {p q : Pr} {a b : List Pr} (h : cmpP p q ≠ 0) : cmpR (p :: a) (q :: b) = cmpP p q := by rw [cmpR, if_pos h]
theorem cmpN_yy {a b : List UInt8} (h1 : valid a = true) (h2 : valid b = true) : cmpN a b = cmpR (cps a).reverse (cps b).reverse := by unfold cmpN; rw [if_pos h1, if_pos h2]
theorem cmpN_yn {a b : List UInt8} (h1 : valid a = true) (h2 : valid b = false) : cmpN a b = -1 := by unfold cmpN; rw [if_pos h1, if_neg (by simp [h2])]
theorem cmpN_ny {a b : List UInt8} (h1 : valid a = false) (h2 : valid b = true) : cmpN a b = 1 := by unfold cmpN; rw [if_neg (by simp [h1]), if_pos h2]
theorem cmpN_nn {a b : List UInt8} (h1 : valid a = false) (h2 : valid b = false) : cmpN a b = ordS a b := by unfold cmpN; rw [if_neg (by simp [h1]), if_neg (by simp [h2])]

set_option maxRecDepth 100000 in
set_option maxHeartbeats 8000000 in
theorem compareN_any (s t : ByteArray) (w : World) (hs : s.size ≤ 100000) (ht : t.size ≤ 100000) :
    Calls Tryd.prog 34 #[.string s, .string t] w fun e w' => e = .returned (.int .i64 (cmpN s.data.toList t.data.toList)) ∧ Below w.heap.size w w' := by
  have HS := Lib.hid hs
  have HT := Lib.hid ht
  clear hs ht
  go_enter Tryd.func34, Tryd.ntmps34
  go_wp2_with fail
  refine (normal_any s _ HS.out).mono ?_
  rintro e w1 ⟨A, c, l, rfl, hO, hl, hz, h8, hb⟩
  have HO := Lib.hid hO.ps.1
  have HL := Lib.hid hl
  have HB := Lib.hid hb
  clear hO hl hz hb
  go_wp2_with fail
  refine (normal_any t _ HT.out).mono ?_
  rintro e w2 ⟨A2, c2, m, rfl, hO2, hl2, hz2, h82, hb2⟩
  have hb1 : Below w1.heap.size w1 w2 := ((Below.refl w1.heap.size w1).alloc (Nat.le_refl _) (.cells #[.slice A l.length c] 24)).trans (hb2.mono (by simp))
  have HC1 := Lib.hid (show w1.heap.size < w2.heap.size ∧ w2.cell? ⟨w1.heap.size, 0, none⟩ = some (.slice A l.length c) from ⟨by have := hb2.size; simp at this; omega, by rw [bkeep hb2 (by simp)]; simp [go_sem]⟩)
  have HOl := Lib.hid (HO.out.below hb1)
  have HOm := Lib.hid hO2.ps.1
  have HL2 := Lib.hid hl2
  have HB2 := Lib.hid (HB.out.trans (hb1.mono HB.out.size))
  clear hO2 hl2 hz2 hb2 hb1
  cases h1 : valid s.data.toList with
  | false =>
    cases h2 : valid t.data.toList with
    | false =>
      have HR := Lib.hid (cmpN_nn h1 h2)
      clear h1 h2
      go_wp2_with (go_at_call 55; refine (cmpS_any s t _).mono ?_; rintro e w3 ⟨rfl, rfl⟩)
      go_ret
      exact ⟨ret_int HR.out.symm, HB2.out.alloc HB2.out.size _⟩
    | true =>
      have HR := Lib.hid (cmpN_ny h1 h2)
      clear h1 h2
      go_wp2
      go_ret
      exact ⟨ret_int HR.out.symm, HB2.out.alloc HB2.out.size _⟩
  | true =>
    cases h2 : valid t.data.toList with
    | false =>
      have HR := Lib.hid (cmpN_yn h1 h2)
      clear h1 h2
      go_wp2
      go_ret
      exact ⟨ret_int HR.out.symm, HB2.out.alloc HB2.out.size _⟩
    | true =>
      have HR := Lib.hid (show cmpN s.data.toList t.data.toList = cmpR (prL l).reverse (prL m).reverse by rw [cmpN_yy h1 h2, HL.out h1, HL2.out h2])
      clear h1 h2
      obtain ⟨z1, c1⟩ := HC1.out
      go_wp2_with fail
      have h23 : Below w2.heap.size w2 (w2.alloc (.cells #[.slice A2 m.length c2] 24)) := (Below.refl _ _).alloc (Nat.le_refl _) _
      have HD1 := Lib.hid (show (w2.alloc (.cells #[.slice A2 m.length c2] 24)).cell? ⟨w1.heap.size, 0, none⟩ = some (.slice A l.length c) by rw [bkeep h23 z1]; exact c1)
      have HD2 := Lib.hid (show (w2.alloc (.cells #[.slice A2 m.length c2] 24)).cell? ⟨w2.heap.size, 0, none⟩ = some (.slice A2 m.length c2) by simp [go_sem])
      have HZ := Lib.hid (show w1.heap.size < (w2.alloc (.cells #[.slice A2 m.length c2] 24)).heap.size ∧ w2.heap.size < (w2.alloc (.cells #[.slice A2 m.length c2] 24)).heap.size from ⟨by simp; omega, by simp⟩)
      have HP1 := Lib.hid (HOl.out.below h23)
      have HP2 := Lib.hid (HOm.out.below h23)
      have HB3 := Lib.hid (HB2.out.trans (h23.mono HB2.out.size))
      clear h23 c1 z1 HC1 HOl HOm
      generalize w2.alloc (.cells #[.slice A2 m.length c2] 24) = w3 at *
      obtain ⟨g1, hg1⟩ : ∃ g, g = w1.heap.size := ⟨_, rfl⟩
      obtain ⟨g2, hg2⟩ : ∃ g, g = w2.heap.size := ⟨_, rfl⟩
      rw [← hg1] at HD1 HZ ⊢
      rw [← hg2] at HD2 HZ ⊢
      clear hg1 hg2
      go_loopw [46] (fun i wr => ∃ k : Nat, i = .int .i64 k ∧ k ≤ l.length ∧ k ≤ m.length ∧ Hid (cmpN s.data.toList t.data.toList = cmpR ((prL l).reverse.drop k) ((prL m).reverse.drop k)) ∧ Below w3.heap.size w3 wr) (fun i _ => l.length - (intOf i).toNat)
      case atStart => exact ⟨0, rfl, Nat.zero_le _, Nat.zero_le _, by rw [List.drop_zero, List.drop_zero]; exact HR.out, Below.refl _ _⟩
      case round =>
        obtain ⟨k, rfl, hk1, hk2, HI, hb⟩ := hrel
        have HBk := Lib.hid hb
        have HQ1 := Lib.hid (HP1.out.below hb)
        have HQ2 := Lib.hid (HP2.out.below hb)
        have HE1 := Lib.hid (show wr.cell? ⟨g1, 0, none⟩ = some (.slice A l.length c) by rw [bkeep hb HZ.out.1]; exact HD1.out)
        have HE2 := Lib.hid (show wr.cell? ⟨g2, 0, none⟩ = some (.slice A2 m.length c2) by rw [bkeep hb HZ.out.2]; exact HD2.out)
        have HZ2 := Lib.hid (show g1 < wr.heap.size ∧ g2 < wr.heap.size from ⟨Nat.lt_of_lt_of_le HZ.out.1 hb.size, Nat.lt_of_lt_of_le HZ.out.2 hb.size⟩)
        clear hb
        by_cases hlt : k < l.length ∧ k < m.length
        · obtain ⟨hlt1, hlt2⟩ := hlt
          obtain ⟨bl, ol, rfl, hbl, hcl⟩ := HQ1.out.2.2 (by omega)
          obtain ⟨bm, om, rfl, hbm, hcm⟩ := HQ2.out.2.2 (by omega)
          have HCL := Lib.hid (hcl (l.length - 1 - k) (by omega))
          have HCM := Lib.hid (hcm (m.length - 1 - k) (by omega))
          have HR1 := Lib.hid (rev_drop l k hlt1)
          have HR2 := Lib.hid (rev_drop m k hlt2)
          clear hcl hcm
          have hmin : (k : Int) < min (l.length : Int) (m.length : Int) := by omega
          go_wp2_with fail
          refine (clos_any _ g1 g2 bl ol bm om l.length c m.length c2 k _ _ _ _ hlt1 hlt2 (by omega) (by omega) HZ2.out.1 HZ2.out.2 hbl hbm HE1.out HE2.out HCL.out.1 HCL.out.2 HCM.out.1 HCM.out.2).mono ?_
          rintro e w4 ⟨rfl, hb4⟩
          have HB4 := Lib.hid (HBk.out.trans (hb4.mono HBk.out.size))
          clear hb4
          by_cases h0 : cmpP ((pX l (l.length - 1 - k)).data.toList, (pY l (l.length - 1 - k)).data.toList) ((pX m (m.length - 1 - k)).data.toList, (pY m (m.length - 1 - k)).data.toList) = 0
          · have HI2 := Lib.hid (show cmpN s.data.toList t.data.toList = cmpR ((prL l).reverse.drop (k + 1)) ((prL m).reverse.drop (k + 1)) by rw [HI.out, HR1.out, HR2.out, cmpR_zero1 h0])
            rw [h0]
            clear h0
            go_wp2
            go_roundw
            case rel => exact ⟨k + 1, by go_num, by omega, by omega, HI2.out, HB4.out⟩
            case measure => simp [intOf]; omega
          · have HF := Lib.hid (show cmpN s.data.toList t.data.toList = cmpP ((pX l (l.length - 1 - k)).data.toList, (pY l (l.length - 1 - k)).data.toList) ((pX m (m.length - 1 - k)).data.toList, (pY m (m.length - 1 - k)).data.toList) by rw [HI.out, HR1.out, HR2.out, cmpR_ne h0])
            obtain ⟨ce, hce⟩ : ∃ ce, cmpP ((pX l (l.length - 1 - k)).data.toList, (pY l (l.length - 1 - k)).data.toList) ((pX m (m.length - 1 - k)).data.toList, (pY m (m.length - 1 - k)).data.toList) = ce := ⟨_, rfl⟩
            rw [hce] at h0 HF
            rw [hce]
            clear hce
            have h1 : (ce != 0) = true := by simpa using h0
            clear h0
            go_wp2
            go_ret
            exact ⟨ret_int HF.out.symm, HB3.out.trans (HB4.out.mono HB3.out.size)⟩
        · have HF := Lib.hid (show cmpN s.data.toList t.data.toList = cmpI l.length m.length by
            rw [HI.out, cmpR_end _ _ k (by simp only [List.length_reverse, prL_length]; omega) (by simp only [List.length_reverse, prL_length]; omega) (by simp only [List.length_reverse, prL_length]; omega)]
            simp only [List.length_reverse, prL_length])
          have hmin : ¬ (k : Int) < min (l.length : Int) (m.length : Int) := by omega
          have c1 := HE1.out
          have c2' := HE2.out
          clear hlt
          go_wp2_with fail
          refine (cmpI_any _ _ _).mono ?_
          rintro e w4 ⟨rfl, rfl⟩
          go_wp2
          go_ret
          exact ⟨ret_int HF.out.symm, HB3.out.trans (HBk.out.mono HB3.out.size)⟩
end Go.Proofs.YtjjcbbckihjapaaDoor.Na
