/-
  The program's formed, check.
-/
import Derived.Test.YtioabjniipkncaaGreatDoorRcU
import Derived.Deep.DeepCutAuto
namespace Go.Proofs.YtioabjniipkncaaGreatDoor.Rc
open Go.RowKit Go.Proofs.YtioabjniipkncaaGreatDoor.Fo Go.Proofs.YtioabjniipkncaaGreatDoor.Rf Go.Maps

theorem word_is (s : Bs) (w : World) (hs : s.size ≤ 100000) (b : Bool) (h : wrd s = b) : Calls Tryz.prog 34 #[.string s] w fun e w' => e = .returned (.bool b) ∧ w = w' := by rw [← h]; exact word_any s w hs
theorem clean_is (s : Bs) (w : World) (hs : s.size ≤ 100000) (b : Bool) (h : cln s = b) : Calls Tryz.prog 67 #[.string s] w fun e w' => e = .returned (.bool b) ∧ Below w.heap.size w w' := by rw [← h]; exact clean_any s w hs
theorem cell_below {w w' : World} {a : Addr} {v : Value} (hb : Below w.heap.size w w') (h : w.cell? a = some v) : w'.cell? a = some v := by
  rw [World.cell?_of_block (w := w) (hb.block a.block (World.block_lt_of_cell? w _ h))]; exact h
theorem empty_yes {s : Bs} (h : s = eB) : s.toList = [] ∧ s.toList.isEmpty = true := by
  have h2 : s.toList = [] := by rw [h, Lib.toList_data]; rfl
  exact ⟨h2, by rw [h2]; rfl⟩
theorem empty_no {s : Bs} (h : s ≠ eB) : ¬ s.toList = [] ∧ s.toList.isEmpty = false := by
  have : ¬ s.toList = [] := fun e => h (bs_ext (by rw [← Lib.toList_data, e]; rfl))
  exact ⟨this, by simpa using this⟩
def chB (g : Gr) : Bool := (decide (g.challenge = eB) && decide (g.method = 0)) || (cln g.challenge && (decide (g.method = 1) || decide (g.method = 2)))
theorem frm_is (g : Gr) : frmG g = ((cln g.redirect && (decide (g.nonce = eB) || wrd g.nonce)) && chB g) := rfl
theorem cln_e : cln eB = false := by decide
set_option maxRecDepth 100000 in
set_option maxHeartbeats 4000000 in
theorem formed_any (g : Gr) (A : Option Addr) (n c : Nat) (w : World) (h1 : g.redirect.size ≤ 100000) (h2 : g.nonce.size ≤ 100000) (h3 : g.challenge.size ≤ 100000) :
    Calls Tryz.prog 55 #[.agg #[.string g.user, .string g.client, .string g.tenant, .string g.session, .string g.redirect, .string g.nonce, .string g.challenge, .int .i64 g.method, (.slice A n c), .int .i64 g.auth, .int .i64 g.level]] w fun e w' => e = .returned (.bool (frmG g)) ∧ Below w.heap.size w w' := by
  go_enter Tryz.func55, Tryz.ntmps55
  go_upto_region 1 with fail
  obtain ⟨w0, hw0⟩ : ∃ w0, w0 = w.alloc (.cells #[.string g.user, .string g.client, .string g.tenant, .string g.session, .string g.redirect, .string g.nonce, .string g.challenge, .int .i64 g.method, (.slice A n c), .int .i64 g.auth, .int .i64 g.level] 36) := ⟨_, rfl⟩
  rw [← hw0]
  have HB := Lib.hid (show Below w.heap.size w w0 by rw [hw0]; go_grown)
  have HX := Lib.hid (show w0.heap[w.heap.size]? = some (.cells #[.string g.user, .string g.client, .string g.tenant, .string g.session, .string g.redirect, .string g.nonce, .string g.challenge, .int .i64 g.method, (.slice A n c), .int .i64 g.auth, .int .i64 g.level] 36 (0, 0)) by rw [hw0]; exact heap_alloc_new _ _)
  clear hw0
  have x6 := cell_block HX.out 6
  have x7 := cell_block HX.out 7
  simp only [List.getElem?_toArray, List.getElem?_cons_zero, List.getElem?_cons_succ] at x6 x7
  go_cut [3] (fun s3 wx => s3 = .bool (chB g) ∧ Below w0.heap.size w0 wx)
  case first =>
    by_cases hc : g.challenge = eB
    · obtain ⟨e1, e2⟩ := empty_yes hc
      by_cases hm : g.method = 0
      · have HR := Lib.hid (show chB g = true by unfold chB; simp [hc, hm])
        have hmb : (g.method == 0) = true := by rw [hm]; rfl
        clear hc hm
        go_wp2
        go_meet
        exact ⟨by rw [HR.out], Below.refl _ _⟩
      · have HC := Lib.hid (show cln g.challenge = false by rw [hc]; exact cln_e)
        have HR := Lib.hid (show chB g = false by unfold chB; rw [HC.out]; simp [hm])
        have hmb : (g.method == 0) = false := beq_eq_false_iff_ne.2 hm
        clear hc hm
        go_wp2_with (go_at_call 67; refine (clean_is g.challenge _ h3 false HC.out).mono ?_; rintro e w1 ⟨rfl, hb1⟩; have HB1 := Lib.hid hb1; clear hb1)
        go_meet
        exact ⟨by rw [HR.out], HB1.out⟩
    · obtain ⟨e1, e2⟩ := empty_no hc
      cases hq : cln g.challenge with
      | false =>
        have HC := Lib.hid hq
        have HR := Lib.hid (show chB g = false by unfold chB; rw [hq]; simp [hc])
        clear hc hq
        go_wp2_with (go_at_call 67; refine (clean_is g.challenge _ h3 false HC.out).mono ?_; rintro e w1 ⟨rfl, hb1⟩; have HB1 := Lib.hid hb1; clear hb1)
        go_meet
        exact ⟨by rw [HR.out], HB1.out⟩
      | true =>
        have HC := Lib.hid hq
        by_cases hm1 : g.method = 1
        · have HR := Lib.hid (show chB g = true by unfold chB; rw [hq, hm1]; simp)
          have hmb : (g.method == 1) = true := by rw [hm1]; rfl
          clear hc hm1 hq
          go_wp2_with (go_at_call 67; refine (clean_is g.challenge _ h3 true HC.out).mono ?_; rintro e w1 ⟨rfl, hb1⟩; have HB1 := Lib.hid hb1; have x7' := cell_below hb1 x7; clear hb1)
          go_meet
          exact ⟨by rw [HR.out], HB1.out⟩
        · have hmb : (g.method == 1) = false := beq_eq_false_iff_ne.2 hm1
          by_cases hm2 : g.method = 2
          · have HR := Lib.hid (show chB g = true by unfold chB; rw [hq, hm2]; simp)
            have hmb2 : (g.method == 2) = true := by rw [hm2]; rfl
            clear hc hm1 hm2 hq
            go_wp2_with (go_at_call 67; refine (clean_is g.challenge _ h3 true HC.out).mono ?_; rintro e w1 ⟨rfl, hb1⟩; have HB1 := Lib.hid hb1; have x7' := cell_below hb1 x7; clear hb1)
            go_meet
            exact ⟨by rw [HR.out], HB1.out⟩
          · have HR := Lib.hid (show chB g = false by unfold chB; rw [hq]; simp [hc, hm1, hm2])
            have hmb2 : (g.method == 2) = false := beq_eq_false_iff_ne.2 hm2
            clear hc hm1 hm2 hq
            go_wp2_with (go_at_call 67; refine (clean_is g.challenge _ h3 true HC.out).mono ?_; rintro e w1 ⟨rfl, hb1⟩; have HB1 := Lib.hid hb1; have x7' := cell_below hb1 x7; clear hb1)
            go_meet
            exact ⟨by rw [HR.out], HB1.out⟩
  case rest =>
    obtain ⟨rfl, hbc⟩ := hcut
    have HBC := Lib.hid (HB.out.trans (hbc.mono HB.out.size))
    have HXC := Lib.hid ((hbc.block _ (blk_lt HX.out)).trans HX.out)
    clear hbc x6 x7
    have x4 := cell_block HXC.out 4
    have x5 := cell_block HXC.out 5
    simp only [List.getElem?_toArray, List.getElem?_cons_zero, List.getElem?_cons_succ] at x4 x5
    have HF := Lib.hid (frm_is g)
    cases q1 : cln g.redirect with
    | false =>
      have Q1 := Lib.hid q1
      clear q1
      go_wp2_with (go_at_call 67; refine (clean_is g.redirect _ h1 false Q1.out).mono ?_; rintro e w1 ⟨rfl, hb1⟩; have HB1 := Lib.hid (HBC.out.trans (hb1.mono HBC.out.size)); clear hb1)
      go_ret
      exact ⟨ret_bool (by rw [HF.out, Q1.out]; rfl), HB1.out⟩
    | true =>
      have Q1 := Lib.hid q1
      clear q1
      generalize hb : chB g = b at *
      by_cases hn : g.nonce = eB
      · obtain ⟨e1, e2⟩ := empty_yes hn
        have HR := Lib.hid (show frmG g = b by rw [HF.out, Q1.out, hn]; simp)
        clear hn hb
        go_wp2_with (go_at_call 67; refine (clean_is g.redirect _ h1 true Q1.out).mono ?_; rintro e w1 ⟨rfl, hb1⟩; have HB1 := Lib.hid (HBC.out.trans (hb1.mono HBC.out.size)); have x5' := cell_below hb1 x5; clear hb1)
        go_ret
        exact ⟨ret_bool HR.out.symm, HB1.out⟩
      · obtain ⟨e1, e2⟩ := empty_no hn
        cases q2 : wrd g.nonce with
        | false =>
          have HR := Lib.hid (show frmG g = false by rw [HF.out, Q1.out, q2]; simp [hn])
          have Q2 := Lib.hid q2
          clear hn hb q2
          go_wp2_with (first | (go_at_call 67; refine (clean_is g.redirect _ h1 true Q1.out).mono ?_; rintro e w1 ⟨rfl, hb1⟩; have HB1 := Lib.hid (HBC.out.trans (hb1.mono HBC.out.size)); have x5' := cell_below hb1 x5; clear hb1) | (go_at_call 34; refine (word_is g.nonce _ h2 false Q2.out).mono ?_; rintro e w2 ⟨rfl, rfl⟩))
          go_ret
          exact ⟨ret_bool HR.out.symm, HB1.out⟩
        | true =>
          have HR := Lib.hid (show frmG g = b by rw [HF.out, Q1.out, q2]; simp)
          have Q2 := Lib.hid q2
          clear hn hb q2
          go_wp2_with (first | (go_at_call 67; refine (clean_is g.redirect _ h1 true Q1.out).mono ?_; rintro e w1 ⟨rfl, hb1⟩; have HB1 := Lib.hid (HBC.out.trans (hb1.mono HBC.out.size)); have x5' := cell_below hb1 x5; clear hb1) | (go_at_call 34; refine (word_is g.nonce _ h2 true Q2.out).mono ?_; rintro e w2 ⟨rfl, rfl⟩))
          go_ret
          exact ⟨ret_bool HR.out.symm, HB1.out⟩
theorem valid_any (n : Int) (w : World) {b : Bool} (hb : (n == limI n) = b) : Calls Tryz.prog 57 #[.int .i64 n] w fun e w' => e = .returned (.bool b) ∧ w = w' := by
  have hl := limited_any n w
  obtain ⟨a, ha⟩ : ∃ a, limI n = a := ⟨_, rfl⟩
  rw [ha] at hl hb
  have HL := Lib.hid hl
  clear hl ha
  go_enter Tryz.func57, Tryz.ntmps57
  go_wp2_with fail
  refine HL.out.mono ?_
  rintro e w1 ⟨rfl, rfl⟩
  go_wp2
  go_ret
  exact ⟨rfl, rfl⟩
set_option maxRecDepth 100000 in
set_option maxHeartbeats 4000000 in
theorem ckg_any (g : Gr) (A : Option Addr) (n c : Nat) (w : World) (h1 : g.redirect.size ≤ 100000) (h2 : g.nonce.size ≤ 100000) (h3 : g.challenge.size ≤ 100000) (hs : Ss w A n c g.scopes) (hsh : Short g.scopes) (hn : n ≤ 1000) (hm : MX w) :
    Calls Tryz.prog 35 #[.agg #[.string g.user, .string g.client, .string g.tenant, .string g.session, .string g.redirect, .string g.nonce, .string g.challenge, .int .i64 g.method, (.slice A n c), .int .i64 g.auth, .int .i64 g.level]] w fun e w' => e = .returned (.int .i64 (ckG g)) ∧ Below w.heap.size w w' := by
  have HS := Lib.hid hs
  have HM := Lib.hid hm
  have HSH := Lib.hid hsh
  clear hs hm hsh
  go_enter Tryz.func35, Tryz.ntmps35
  go_upto_region 1 with fail
  obtain ⟨w0, hw0⟩ : ∃ w0, w0 = w.alloc (.cells #[.string g.user, .string g.client, .string g.tenant, .string g.session, .string g.redirect, .string g.nonce, .string g.challenge, .int .i64 g.method, (.slice A n c), .int .i64 g.auth, .int .i64 g.level] 36) := ⟨_, rfl⟩
  rw [← hw0]
  have HB := Lib.hid (show Below w.heap.size w w0 by rw [hw0]; go_grown)
  have HX := Lib.hid (show w0.heap[w.heap.size]? = some (.cells #[.string g.user, .string g.client, .string g.tenant, .string g.session, .string g.redirect, .string g.nonce, .string g.challenge, .int .i64 g.method, (.slice A n c), .int .i64 g.auth, .int .i64 g.level] 36 (0, 0)) by rw [hw0]; exact heap_alloc_new _ _)
  clear hw0
  have x0 := cell_block HX.out 0
  have x1 := cell_block HX.out 1
  have x2 := cell_block HX.out 2
  have x3 := cell_block HX.out 3
  have x4 := cell_block HX.out 4
  have x5 := cell_block HX.out 5
  have x6 := cell_block HX.out 6
  have x7 := cell_block HX.out 7
  have x8 := cell_block HX.out 8
  have x9 := cell_block HX.out 9
  have x10 := cell_block HX.out 10
  simp only [List.getElem?_toArray, List.getElem?_cons_zero, List.getElem?_cons_succ] at x0 x1 x2 x3 x4 x5 x6 x7 x8 x9 x10
  cases q1 : frmG g with
  | false =>
    have HR := Lib.hid (show ckG g = 4 by unfold ckG; rw [if_pos q1])
    have Q1 := Lib.hid q1
    clear q1
    go_wp2_with fail
    refine (formed_any g A n c w0 h1 h2 h3).mono ?_
    rintro e w1 ⟨rfl, hb1⟩
    have HB1 := Lib.hid (HB.out.trans (hb1.mono HB.out.size))
    clear hb1
    rw [Q1.out]
    go_wp2
    go_ret
    exact ⟨ret_int HR.out.symm, HB1.out⟩
  | true =>
    have Q1 := Lib.hid q1
    have HC := Lib.hid (show ckG g = if chkS g.scopes ≠ 0 then chkS g.scopes else if g.level < 0 ∨ 3 < g.level then 27 else if g.auth ≠ limI g.auth then 2 else 0 by unfold ckG; rw [if_neg (by rw [q1]; decide)])
    clear q1
    go_wp2_with fail
    refine (formed_any g A n c w0 h1 h2 h3).mono ?_
    rintro e w1 ⟨rfl, hb1⟩
    have HB1 := Lib.hid (HB.out.trans (hb1.mono HB.out.size))
    have HX1 := Lib.hid ((hb1.block _ (blk_lt HX.out)).trans HX.out)
    clear hb1 x0 x1 x2 x3 x4 x5 x6 x7 x8 x9 x10
    have x8 := cell_block HX1.out 8
    have x9 := cell_block HX1.out 9
    have x10 := cell_block HX1.out 10
    simp only [List.getElem?_toArray, List.getElem?_cons_zero, List.getElem?_cons_succ] at x8 x9 x10
    rw [Q1.out]
    go_wp2_with fail
    refine (check_any A n c g.scopes w1 (HS.out.below HB1.out) HSH.out (by omega) (HM.out.below HB1.out)).mono ?_
    rintro e w2 ⟨rfl, rfl⟩
    by_cases q2 : chkS g.scopes = 0
    · have hq2 : (chkS g.scopes == 0) = true := by rw [q2]; rfl
      have HC2 := Lib.hid (show ckG g = if g.level < 0 ∨ 3 < g.level then 27 else if g.auth ≠ limI g.auth then 2 else 0 by rw [HC.out, if_neg (by rw [q2]; decide)])
      rw [q2]
      clear q2 hq2
      by_cases q3 : g.level < 0 ∨ 3 < g.level
      · have HR := Lib.hid (show ckG g = 27 by rw [HC2.out, if_pos q3])
        by_cases q4 : g.level < 0
        · clear q3
          go_wp2
          go_ret
          exact ⟨ret_int HR.out.symm, HB1.out⟩
        · have q5 : 3 < g.level := by omega
          clear q3
          go_wp2
          go_ret
          exact ⟨ret_int HR.out.symm, HB1.out⟩
      · have q4 : ¬ g.level < 0 := by omega
        have q5 : ¬ 3 < g.level := by omega
        have HC3 := Lib.hid (show ckG g = if g.auth ≠ limI g.auth then 2 else 0 by rw [HC2.out, if_neg q3])
        clear q3
        cases q6 : (g.auth == limI g.auth) with
        | true =>
          have HR := Lib.hid (show ckG g = 0 by rw [HC3.out, if_neg (by simpa using q6)])
          have Q6 := Lib.hid q6
          clear q6
          go_wp2_with fail
          refine (valid_any g.auth w1 Q6.out).mono ?_
          rintro e w2 ⟨rfl, rfl⟩
          go_wp2
          go_ret
          exact ⟨ret_int HR.out.symm, HB1.out⟩
        | false =>
          have HR := Lib.hid (show ckG g = 2 by rw [HC3.out, if_pos (by simpa using q6)])
          have Q6 := Lib.hid q6
          clear q6
          go_wp2_with fail
          refine (valid_any g.auth w1 Q6.out).mono ?_
          rintro e w2 ⟨rfl, rfl⟩
          go_wp2
          go_ret
          exact ⟨ret_int HR.out.symm, HB1.out⟩
    · have HR := Lib.hid (show ckG g = chkS g.scopes by rw [HC.out, if_pos q2])
      have hq2 : (chkS g.scopes == 0) = false := beq_eq_false_iff_ne.2 q2
      go_wp2
      go_ret
      exact ⟨ret_int HR.out.symm, HB1.out⟩
end Go.Proofs.YtioabjniipkncaaGreatDoor.Rc
