/-
  The reference: the form of a grant.
-/
import Derived.Test.YtioabjniipkncaaGreatDoorQcF
namespace Go.Proofs.YtioabjniipkncaaGreatDoor.Rc
open Go.RowKit Go.Proofs.YtioabjniipkncaaGreatDoor.Fo Go.Proofs.YtioabjniipkncaaGreatDoor.Rf Go.Maps

theorem rclean_is (s : Bs) (w : World) (hs : s.size ≤ 100000) (b : Bool) (h : cln s = b) : Calls Tryz.prog 62 #[.string s] w fun e w' => e = .returned (.bool b) ∧ Below w.heap.size w w' := by rw [← h]; exact rclean_any s w hs
theorem rw_is (s : Bs) (w : World) (hs : s.size ≤ 100000) (b : Bool) (h : wrd s = b) : Calls Tryz.prog 44 #[.string s] w fun e w' => e = .returned (.bool b) ∧ w = w' := by
  subst h
  exact rword_any s w hs
set_option maxRecDepth 100000 in
set_option maxHeartbeats 8000000 in
theorem rform_any (g : Gr) (A : Option Addr) (n c : Nat) (w : World) (h1 : g.redirect.size ≤ 100000) (h2 : g.nonce.size ≤ 100000) (h3 : g.challenge.size ≤ 100000) {b : Bool} (hfb : frmG g = b) :
    Calls Tryz.prog 46 #[.agg #[.string g.user, .string g.client, .string g.tenant, .string g.session, .string g.redirect, .string g.nonce, .string g.challenge, .int .i64 g.method, (.slice A n c), .int .i64 g.auth, .int .i64 g.level]] w fun e w' => e = .returned (.bool b) ∧ Below w.heap.size w w' := by
  subst hfb
  go_enter Tryz.func46, Tryz.ntmps46
  go_upto_region 1 with fail
  obtain ⟨w0, hw0⟩ : ∃ w0, w0 = w.alloc (.cells #[.string g.user, .string g.client, .string g.tenant, .string g.session, .string g.redirect, .string g.nonce, .string g.challenge, .int .i64 g.method, (.slice A n c), .int .i64 g.auth, .int .i64 g.level] 36) := ⟨_, rfl⟩
  rw [← hw0]
  have HB0 := Lib.hid (show Below w.heap.size w w0 by rw [hw0]; go_grown)
  have HX0 := Lib.hid (show w0.heap[w.heap.size]? = some (.cells #[.string g.user, .string g.client, .string g.tenant, .string g.session, .string g.redirect, .string g.nonce, .string g.challenge, .int .i64 g.method, (.slice A n c), .int .i64 g.auth, .int .i64 g.level] 36 (0, 0)) by rw [hw0]; exact heap_alloc_new _ _)
  clear hw0
  have x4 := cell_block HX0.out 4
  simp only [List.getElem?_toArray, List.getElem?_cons_zero, List.getElem?_cons_succ] at x4
  cases q1 : cln g.redirect with
  | false => as_aux_lemma =>
    have Q1 := Lib.hid q1
    have HR := Lib.hid (show frmG g = false by rw [frm_is, q1]; rfl)
    clear q1
    go_wp2_with fail
    refine (rclean_is g.redirect _ h1 false Q1.out).mono ?_
    rintro e w1 ⟨rfl, hb⟩
    have HB1 := Lib.hid (HB0.out.trans (hb.mono HB0.out.size))
    have HX1 := Lib.hid (blk_below hb HX0.out)
    clear hb
    go_wp2
    go_ret
    exact ⟨ret_bool HR.out.symm, HB1.out⟩
  | true =>
    have Q1 := Lib.hid q1
    clear q1
    go_wp2_with fail
    refine (rclean_is g.redirect _ h1 true Q1.out).mono ?_
    rintro e w1 ⟨rfl, hb⟩
    have HB1 := Lib.hid (HB0.out.trans (hb.mono HB0.out.size))
    have HX1 := Lib.hid (blk_below hb HX0.out)
    clear hb
    clear x4
    have x5 := cell_block HX1.out 5
    simp only [List.getElem?_toArray, List.getElem?_cons_zero, List.getElem?_cons_succ] at x5
    by_cases hn : g.nonce = eB
    · obtain ⟨e1, e2⟩ := empty_yes hn
      have HF := Lib.hid (show frmG g = chB g by rw [frm_is, Q1.out, hn]; simp)
      clear hn
      go_upto_region 3 with fail
      clear x5
      have x6 := cell_block HX1.out 6
      have x7 := cell_block HX1.out 7
      simp only [List.getElem?_toArray, List.getElem?_cons_zero, List.getElem?_cons_succ] at x6 x7
      by_cases hc : g.challenge = eB
      · as_aux_lemma =>
        obtain ⟨e1, e2⟩ := empty_yes hc
        by_cases hm : g.method = 0
        · have HR := Lib.hid (show frmG g = true by rw [HF.out]; unfold chB; simp [hc, hm])
          have hmb : (g.method == 0) = true := by rw [hm]; rfl
          clear hc hm
          go_wp2
          go_ret
          exact ⟨ret_bool HR.out.symm, HB1.out⟩
        · have HR := Lib.hid (show frmG g = false by rw [HF.out]; unfold chB; rw [show cln g.challenge = false by rw [hc]; exact cln_e]; simp [hm])
          have hmb : (g.method == 0) = false := beq_eq_false_iff_ne.2 hm
          clear hc
          go_wp2
          go_ret
          exact ⟨ret_bool HR.out.symm, HB1.out⟩
      · as_aux_lemma =>
        obtain ⟨e1, e2⟩ := empty_no hc
        cases hq : cln g.challenge with
        | false =>
          have HC := Lib.hid hq
          have HR := Lib.hid (show frmG g = false by rw [HF.out]; unfold chB; rw [hq]; simp [hc])
          clear hc hq
          go_wp2_with fail
          refine (rclean_is g.challenge _ h3 false HC.out).mono ?_
          rintro e w2 ⟨rfl, hb⟩
          have HB2 := Lib.hid (HB1.out.trans (hb.mono HB1.out.size))
          have HX2 := Lib.hid (blk_below hb HX1.out)
          clear hb
          go_wp2
          go_ret
          exact ⟨ret_bool HR.out.symm, HB2.out⟩
        | true =>
          have HC := Lib.hid hq
          by_cases hm1 : g.method = 1
          · have HR := Lib.hid (show frmG g = true by rw [HF.out]; unfold chB; rw [hq, hm1]; simp)
            have HMB := Lib.hid (show (g.method == 1) = true by rw [hm1]; rfl)
            clear hc hq hm1
            go_wp2_with fail
            refine (rclean_is g.challenge _ h3 true HC.out).mono ?_
            rintro e w2 ⟨rfl, hb⟩
            have HB2 := Lib.hid (HB1.out.trans (hb.mono HB1.out.size))
            have HX2 := Lib.hid (blk_below hb HX1.out)
            clear hb
            have hmb := HMB.out
            clear x6 x7
            have x7 := cell_block HX2.out 7
            simp only [List.getElem?_toArray, List.getElem?_cons_zero, List.getElem?_cons_succ] at x7
            go_wp2
            go_ret
            exact ⟨ret_bool HR.out.symm, HB2.out⟩
          · have hmb : (g.method == 1) = false := beq_eq_false_iff_ne.2 hm1
            by_cases hm2 : g.method = 2
            · have HR := Lib.hid (show frmG g = true by rw [HF.out]; unfold chB; rw [hq, hm2]; simp)
              have HMB := Lib.hid (show (g.method == 2) = true by rw [hm2]; rfl)
              clear hc hq hm2
              go_wp2_with fail
              refine (rclean_is g.challenge _ h3 true HC.out).mono ?_
              rintro e w2 ⟨rfl, hb⟩
              have HB2 := Lib.hid (HB1.out.trans (hb.mono HB1.out.size))
              have HX2 := Lib.hid (blk_below hb HX1.out)
              clear hb
              have hmb2 := HMB.out
              clear x6 x7
              have x7 := cell_block HX2.out 7
              simp only [List.getElem?_toArray, List.getElem?_cons_zero, List.getElem?_cons_succ] at x7
              go_wp2
              go_ret
              exact ⟨ret_bool HR.out.symm, HB2.out⟩
            · have HR := Lib.hid (show frmG g = false by rw [HF.out]; unfold chB; rw [hq]; simp [hc, hm1, hm2])
              have hmb2 : (g.method == 2) = false := beq_eq_false_iff_ne.2 hm2
              clear hc hq
              go_wp2_with fail
              refine (rclean_is g.challenge _ h3 true HC.out).mono ?_
              rintro e w2 ⟨rfl, hb⟩
              have HB2 := Lib.hid (HB1.out.trans (hb.mono HB1.out.size))
              have HX2 := Lib.hid (blk_below hb HX1.out)
              clear hb
              clear x6 x7
              have x7 := cell_block HX2.out 7
              simp only [List.getElem?_toArray, List.getElem?_cons_zero, List.getElem?_cons_succ] at x7
              go_wp2
              go_ret
              exact ⟨ret_bool HR.out.symm, HB2.out⟩
    · obtain ⟨e1, e2⟩ := empty_no hn
      cases q2 : wrd g.nonce with
      | false => as_aux_lemma =>
        have HR := Lib.hid (show frmG g = false by rw [frm_is, Q1.out, q2]; simp [hn])
        have Q2 := Lib.hid q2
        clear hn q2
        go_wp2_with fail
        refine (rw_is g.nonce _ h2 false Q2.out).mono ?_
        rintro e w2 ⟨rfl, rfl⟩
        go_wp2
        go_ret
        exact ⟨ret_bool HR.out.symm, HB1.out⟩
      | true =>
        have HF := Lib.hid (show frmG g = chB g by rw [frm_is, Q1.out, q2]; simp)
        have Q2 := Lib.hid q2
        clear hn q2
        go_wp2_with fail
        refine (rw_is g.nonce _ h2 true Q2.out).mono ?_
        rintro e w2 ⟨rfl, rfl⟩
        go_upto_region 3 with fail
        clear x5
        have x6 := cell_block HX1.out 6
        have x7 := cell_block HX1.out 7
        simp only [List.getElem?_toArray, List.getElem?_cons_zero, List.getElem?_cons_succ] at x6 x7
        by_cases hc : g.challenge = eB
        · as_aux_lemma =>
          obtain ⟨e1, e2⟩ := empty_yes hc
          by_cases hm : g.method = 0
          · have HR := Lib.hid (show frmG g = true by rw [HF.out]; unfold chB; simp [hc, hm])
            have hmb : (g.method == 0) = true := by rw [hm]; rfl
            clear hc hm
            go_wp2
            go_ret
            exact ⟨ret_bool HR.out.symm, HB1.out⟩
          · have HR := Lib.hid (show frmG g = false by rw [HF.out]; unfold chB; rw [show cln g.challenge = false by rw [hc]; exact cln_e]; simp [hm])
            have hmb : (g.method == 0) = false := beq_eq_false_iff_ne.2 hm
            clear hc
            go_wp2
            go_ret
            exact ⟨ret_bool HR.out.symm, HB1.out⟩
        · as_aux_lemma =>
          obtain ⟨e1, e2⟩ := empty_no hc
          cases hq : cln g.challenge with
          | false =>
            have HC := Lib.hid hq
            have HR := Lib.hid (show frmG g = false by rw [HF.out]; unfold chB; rw [hq]; simp [hc])
            clear hc hq
            go_wp2_with fail
            refine (rclean_is g.challenge _ h3 false HC.out).mono ?_
            rintro e w2 ⟨rfl, hb⟩
            have HB2 := Lib.hid (HB1.out.trans (hb.mono HB1.out.size))
            have HX2 := Lib.hid (blk_below hb HX1.out)
            clear hb
            go_wp2
            go_ret
            exact ⟨ret_bool HR.out.symm, HB2.out⟩
          | true =>
            have HC := Lib.hid hq
            by_cases hm1 : g.method = 1
            · have HR := Lib.hid (show frmG g = true by rw [HF.out]; unfold chB; rw [hq, hm1]; simp)
              have HMB := Lib.hid (show (g.method == 1) = true by rw [hm1]; rfl)
              clear hc hq hm1
              go_wp2_with fail
              refine (rclean_is g.challenge _ h3 true HC.out).mono ?_
              rintro e w2 ⟨rfl, hb⟩
              have HB2 := Lib.hid (HB1.out.trans (hb.mono HB1.out.size))
              have HX2 := Lib.hid (blk_below hb HX1.out)
              clear hb
              have hmb := HMB.out
              clear x6 x7
              have x7 := cell_block HX2.out 7
              simp only [List.getElem?_toArray, List.getElem?_cons_zero, List.getElem?_cons_succ] at x7
              go_wp2
              go_ret
              exact ⟨ret_bool HR.out.symm, HB2.out⟩
            · have hmb : (g.method == 1) = false := beq_eq_false_iff_ne.2 hm1
              by_cases hm2 : g.method = 2
              · have HR := Lib.hid (show frmG g = true by rw [HF.out]; unfold chB; rw [hq, hm2]; simp)
                have HMB := Lib.hid (show (g.method == 2) = true by rw [hm2]; rfl)
                clear hc hq hm2
                go_wp2_with fail
                refine (rclean_is g.challenge _ h3 true HC.out).mono ?_
                rintro e w2 ⟨rfl, hb⟩
                have HB2 := Lib.hid (HB1.out.trans (hb.mono HB1.out.size))
                have HX2 := Lib.hid (blk_below hb HX1.out)
                clear hb
                have hmb2 := HMB.out
                clear x6 x7
                have x7 := cell_block HX2.out 7
                simp only [List.getElem?_toArray, List.getElem?_cons_zero, List.getElem?_cons_succ] at x7
                go_wp2
                go_ret
                exact ⟨ret_bool HR.out.symm, HB2.out⟩
              · have HR := Lib.hid (show frmG g = false by rw [HF.out]; unfold chB; rw [hq]; simp [hc, hm1, hm2])
                have hmb2 : (g.method == 2) = false := beq_eq_false_iff_ne.2 hm2
                clear hc hq
                go_wp2_with fail
                refine (rclean_is g.challenge _ h3 true HC.out).mono ?_
                rintro e w2 ⟨rfl, hb⟩
                have HB2 := Lib.hid (HB1.out.trans (hb.mono HB1.out.size))
                have HX2 := Lib.hid (blk_below hb HX1.out)
                clear hb
                clear x6 x7
                have x7 := cell_block HX2.out 7
                simp only [List.getElem?_toArray, List.getElem?_cons_zero, List.getElem?_cons_succ] at x7
                go_wp2
                go_ret
                exact ⟨ret_bool HR.out.symm, HB2.out⟩
end Go.Proofs.YtioabjniipkncaaGreatDoor.Rc
