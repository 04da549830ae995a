/-
  The reference: Issue.
-/
import Derived.Test.YtioabjniipkncaaGreatDoorQcH
namespace Go.Proofs.YtioabjniipkncaaGreatDoor.Rc
open Go.RowKit Go.Proofs.YtioabjniipkncaaGreatDoor.Fo Go.Proofs.YtioabjniipkncaaGreatDoor.Rf Go.Maps

set_option maxRecDepth 100000 in
set_option maxHeartbeats 16000000 in
theorem riss_any {w : World} {S : Nat → Prop} {G : Nat} {st st' : Ct} {k : Int} (h : RefE w S G st) (t : Bs) (g : Gr) (A : Option Addr) (c : Nat) (now : Int) (ht : t.size ≤ 100000) (hsz : g.user.size ≤ 100000 ∧ g.client.size ≤ 100000 ∧ g.tenant.size ≤ 100000 ∧ g.session.size ≤ 100000 ∧ g.redirect.size ≤ 100000 ∧ g.nonce.size ≤ 100000 ∧ g.challenge.size ≤ 100000)
    (hs : Ss w A g.scopes.length c g.scopes) (hsh : Short g.scopes) (hn : g.scopes.length ≤ 1000) (hq : iss st t g now = (st', k)) :
    Calls Tryz.prog 26 #[.pointer (some ⟨G, 0, none⟩), .string t, .agg #[.string g.user, .string g.client, .string g.tenant, .string g.session, .string g.redirect, .string g.nonce, .string g.challenge, .int .i64 g.method, (.slice A g.scopes.length c), .int .i64 g.auth, .int .i64 g.level], .int .i64 now] w fun e w' => e = .returned (.int .i64 k) ∧ RefE w' (Go.Proofs.YtioabjniipkncaaGreatDoor.grow S w w') G st' ∧ Mods S w w' := by
  have HE := Lib.hid h
  have HQ := Lib.hid hq
  have HS := Lib.hid hs
  have HSH := Lib.hid hsh
  have HSZ := Lib.hid hsz
  clear h hq hs hsh hsz
  go_enter Tryz.func26, Tryz.ntmps26
  go_upto_region 1 with fail
  obtain ⟨w0, hw0⟩ : ∃ w0, w0 = w.alloc (.cells #[.string g.user, .string g.client, .string g.tenant, .string g.session, .string g.redirect, .string g.nonce, .string g.challenge, .int .i64 g.method, (.slice A g.scopes.length c), .int .i64 g.auth, .int .i64 g.level] 36) := ⟨_, rfl⟩
  rw [← hw0]
  have HB0 := Lib.hid (show Below w.heap.size w w0 by rw [hw0]; go_grown)
  have HX0 := Lib.hid (show w0.heap[w.heap.size]? = some (.cells #[.string g.user, .string g.client, .string g.tenant, .string g.session, .string g.redirect, .string g.nonce, .string g.challenge, .int .i64 g.method, (.slice A g.scopes.length c), .int .i64 g.auth, .int .i64 g.level] 36 (0, 0)) by rw [hw0]; exact heap_alloc_new _ _)
  clear hw0
  have HE0 := Lib.hid (HE.out.below HB0.out)
  have x0 := cell_block HX0.out 0
  have x1 := cell_block HX0.out 1
  have x2 := cell_block HX0.out 2
  have x3 := cell_block HX0.out 3
  simp only [List.getElem?_toArray, List.getElem?_cons_zero, List.getElem?_cons_succ] at x0 x1 x2 x3
  go_wp2_with fail
  cases q0 : wrd t with
  | false => as_aux_lemma =>
    have HST := Lib.hid (show issE st t g = 5 by unfold issE; rw [if_pos (Or.inl q0)])
    have Q0 := Lib.hid q0
    clear q0
    refine (rw_is t _ ht false Q0.out).mono ?_
    rintro e wx ⟨rfl, rfl⟩
    go_wp2
    go_ret
    exact riss_same HQ.out HST.out (by decide) rfl HE.out HB0.out
  | true =>
    have Q0 := Lib.hid q0
    clear q0
    refine (rw_is t _ ht true Q0.out).mono ?_
    rintro e wx ⟨rfl, rfl⟩
    go_wp2_with fail
    cases q1 : wrd g.user with
    | false => as_aux_lemma =>
      have HST := Lib.hid (show issE st t g = 5 by unfold issE; rw [if_pos (Or.inr (Or.inl q1))])
      have Q1 := Lib.hid q1
      clear q1
      refine (rw_is g.user _ HSZ.out.1 false Q1.out).mono ?_
      rintro e wx ⟨rfl, rfl⟩
      go_wp2
      go_ret
      exact riss_same HQ.out HST.out (by decide) rfl HE.out HB0.out
    | true =>
      have Q1 := Lib.hid q1
      clear q1
      refine (rw_is g.user _ HSZ.out.1 true Q1.out).mono ?_
      rintro e wx ⟨rfl, rfl⟩
      go_wp2_with fail
      cases q2 : wrd g.client with
      | false => as_aux_lemma =>
        have HST := Lib.hid (show issE st t g = 5 by unfold issE; rw [if_pos (Or.inr (Or.inr (Or.inl q2)))])
        have Q2 := Lib.hid q2
        clear q2
        refine (rw_is g.client _ HSZ.out.2.1 false Q2.out).mono ?_
        rintro e wx ⟨rfl, rfl⟩
        go_wp2
        go_ret
        exact riss_same HQ.out HST.out (by decide) rfl HE.out HB0.out
      | true =>
        have Q2 := Lib.hid q2
        clear q2
        refine (rw_is g.client _ HSZ.out.2.1 true Q2.out).mono ?_
        rintro e wx ⟨rfl, rfl⟩
        go_wp2_with fail
        cases q3 : wrd g.tenant with
        | false => as_aux_lemma =>
          have HST := Lib.hid (show issE st t g = 5 by unfold issE; rw [if_pos (Or.inr (Or.inr (Or.inr (Or.inl q3))))])
          have Q3 := Lib.hid q3
          clear q3
          refine (rw_is g.tenant _ HSZ.out.2.2.1 false Q3.out).mono ?_
          rintro e wx ⟨rfl, rfl⟩
          go_wp2
          go_ret
          exact riss_same HQ.out HST.out (by decide) rfl HE.out HB0.out
        | true =>
          have Q3 := Lib.hid q3
          clear q3
          refine (rw_is g.tenant _ HSZ.out.2.2.1 true Q3.out).mono ?_
          rintro e wx ⟨rfl, rfl⟩
          go_wp2_with fail
          cases q4 : wrd g.session with
          | false => as_aux_lemma =>
            have HST := Lib.hid (show issE st t g = 5 by unfold issE; rw [if_pos (Or.inr (Or.inr (Or.inr (Or.inr (q4)))))])
            have Q4 := Lib.hid q4
            clear q4
            refine (rw_is g.session _ HSZ.out.2.2.2.1 false Q4.out).mono ?_
            rintro e wx ⟨rfl, rfl⟩
            go_wp2
            go_ret
            exact riss_same HQ.out HST.out (by decide) rfl HE.out HB0.out
          | true =>
            have Q4 := Lib.hid q4
            clear q4
            refine (rw_is g.session _ HSZ.out.2.2.2.1 true Q4.out).mono ?_
            rintro e wx ⟨rfl, rfl⟩
            clear x0 x1 x2 x3
            have HW := Lib.hid (show ¬ (wrd t = false ∨ wrd g.user = false ∨ wrd g.client = false ∨ wrd g.tenant = false ∨ wrd g.session = false) by rw [Q0.out, Q1.out, Q2.out, Q3.out, Q4.out]; simp)
            cases hi : cdI st.l t with
            | some i => as_aux_lemma =>
              have HO := Lib.hid (show cdV st.l t = (i : Int) by unfold cdV; rw [hi])
              have HST := Lib.hid (show issE st t g = 7 by unfold issE; rw [if_neg HW.out, if_pos (by rw [hi]; simp)])
              clear hi
              go_wp2_with fail
              refine (rfind_any HE0.out t HO.out).mono ?_
              rintro e wx ⟨rfl, rfl⟩
              go_wp2
              go_ret
              exact riss_same HQ.out HST.out (by decide) rfl HE.out HB0.out
            | none =>
              have HO := Lib.hid (show cdV st.l t = -1 by unfold cdV; rw [hi])
              have HI := Lib.hid hi
              have HC := Lib.hid (show issE st t g = if ckG g ≠ 0 then ckG g else if 256 ≤ st.l.length then 3 else 0 from issE_c HW.out hi)
              clear hi
              go_wp2_with fail
              refine (rfind_any HE0.out t HO.out).mono ?_
              rintro e wx ⟨rfl, rfl⟩
              have x0 := cell_block HX0.out 0
              have x1 := cell_block HX0.out 1
              have x2 := cell_block HX0.out 2
              have x3 := cell_block HX0.out 3
              have x4 := cell_block HX0.out 4
              have x5 := cell_block HX0.out 5
              have x6 := cell_block HX0.out 6
              have x7 := cell_block HX0.out 7
              have x8 := cell_block HX0.out 8
              have x9 := cell_block HX0.out 9
              have x10 := cell_block HX0.out 10
              simp only [List.getElem?_toArray, List.getElem?_cons_zero, List.getElem?_cons_succ] at x0 x1 x2 x3 x4 x5 x6 x7 x8 x9 x10
              go_wp2_with fail
              cases q5 : frmG g with
              | false => as_aux_lemma =>
                have HST := Lib.hid (show issE st t g = 4 from issE_k HC.out (ckG_4 q5) (by decide))
                have Q5 := Lib.hid q5
                clear q5
                refine (rform_any g A g.scopes.length c _ HSZ.out.2.2.2.2.1 HSZ.out.2.2.2.2.2.1 HSZ.out.2.2.2.2.2.2 Q5.out).mono ?_
                rintro e w1 ⟨rfl, hb⟩
                have HB1 := Lib.hid (HB0.out.trans (hb.mono HB0.out.size))
                clear hb x0 x1 x2 x3 x4 x5 x6 x7 x8 x9 x10
                go_wp2
                go_ret
                exact riss_same HQ.out HST.out (by decide) rfl HE.out HB1.out
              | true =>
                have Q5 := Lib.hid q5
                clear q5
                refine (rform_any g A g.scopes.length c _ HSZ.out.2.2.2.2.1 HSZ.out.2.2.2.2.2.1 HSZ.out.2.2.2.2.2.2 Q5.out).mono ?_
                rintro e w1 ⟨rfl, hb⟩
                have HB1 := Lib.hid (HB0.out.trans (hb.mono HB0.out.size))
                have HX1 := Lib.hid (blk_below hb HX0.out)
                clear hb x0 x1 x2 x3 x4 x5 x6 x7 x8 x9 x10
                have x8 := cell_block HX1.out 8
                simp only [List.getElem?_toArray, List.getElem?_cons_zero, List.getElem?_cons_succ] at x8
                go_wp2_with fail
                obtain ⟨ks, hks⟩ : ∃ k, chkS g.scopes = k := ⟨_, rfl⟩
                refine (rcheck_any A g.scopes.length c g.scopes w1 (HS.out.below HB1.out) HSH.out (by omega)).mono ?_
                rintro e w2 ⟨rfl, hb⟩
                have HB2 := Lib.hid (HB1.out.trans (hb.mono HB1.out.size))
                have HX2 := Lib.hid (blk_below hb HX1.out)
                clear hb x8
                by_cases hk0 : ks = 0
                · rw [hks, hk0]
                  have HKS := Lib.hid (hks.trans hk0)
                  clear hks hk0
                  have x9 := cell_block HX2.out 9
                  have x10 := cell_block HX2.out 10
                  simp only [List.getElem?_toArray, List.getElem?_cons_zero, List.getElem?_cons_succ] at x9 x10
                  obtain ⟨lv, hlv⟩ : ∃ lv, g.level = lv := ⟨_, rfl⟩
                  obtain ⟨au, hau⟩ : ∃ au, g.auth = au := ⟨_, rfl⟩
                  rw [hlv] at x10
                  rw [hau] at x9
                  by_cases l1 : lv < 0
                  · as_aux_lemma =>
                    have HST := Lib.hid (show issE st t g = 27 from issE_k HC.out (ckG_27 Q5.out HKS.out hlv (Or.inl l1)) (by decide))
                    clear hlv hau
                    go_wp2
                    go_ret
                    exact riss_same HQ.out HST.out (by decide) rfl HE.out HB2.out
                  · by_cases l2 : 3 < lv
                    · as_aux_lemma =>
                      have HST := Lib.hid (show issE st t g = 27 from issE_k HC.out (ckG_27 Q5.out HKS.out hlv (Or.inr l2)) (by decide))
                      clear hlv hau
                      go_wp2
                      go_ret
                      exact riss_same HQ.out HST.out (by decide) rfl HE.out HB2.out
                    · have hl3 : ¬ (lv < 0 ∨ 3 < lv) := by omega
                      by_cases a1 : au < 0
                      · as_aux_lemma =>
                        have HST := Lib.hid (show issE st t g = 2 from issE_k HC.out (ckG_2 Q5.out HKS.out hlv hl3 hau (by omega)) (by decide))
                        clear hlv hau
                        go_wp2
                        go_ret
                        exact riss_same HQ.out HST.out (by decide) rfl HE.out HB2.out
                      · by_cases a2 : 1099511627776 < au
                        · as_aux_lemma =>
                          have HST := Lib.hid (show issE st t g = 2 from issE_k HC.out (ckG_2 Q5.out HKS.out hlv hl3 hau (by omega)) (by decide))
                          clear hlv hau
                          go_wp2
                          go_ret
                          exact riss_same HQ.out HST.out (by decide) rfl HE.out HB2.out
                        · have HCK := Lib.hid (ckG_0 Q5.out HKS.out hlv hl3 hau (by omega))
                          have HC5 := Lib.hid (issE_0 HC.out HCK.out)
                          clear hlv hau
                          obtain ⟨I, rv, es, hp⟩ := HE.out.below HB2.out
                          have hle : es.length ≤ 256 := by rw [hp.len]; exact hp.inv.len
                          obtain ⟨A1, c1', rfl⟩ := hp.own.len
                          have HP := Lib.hid hp
                          have HLE := Lib.hid hp.len
                          have c1 := cell_block hp.hG 1
                          simp only [List.getElem?_toArray, List.getElem?_cons_zero, List.getElem?_cons_succ] at c1
                          clear hp
                          by_cases h256 : 256 ≤ st.l.length
                          · as_aux_lemma =>
                            have HST := Lib.hid (show issE st t g = 3 by rw [HC5.out, if_pos h256])
                            have h3 : (256 : Int) ≤ (es.length : Int) := by have := HLE.out; omega
                            go_wp2
                            go_ret
                            exact riss_same HQ.out HST.out (by decide) rfl HE.out HB2.out
                          · as_aux_lemma =>
                            have HST := Lib.hid (show issE st t g = 0 by rw [HC5.out, if_neg h256])
                            have h3 : ¬ (256 : Int) ≤ (es.length : Int) := by have := HLE.out; omega
                            have HIN := Lib.hid (inv_iss (now := now) HE.out.inv Q0.out HCK.out HSH.out HI.out h256)
                            clear h256 HC HC5
                            go_upto_region 16 with fail
                            clear x9 x10
                            have hbE : Below w2.heap.size w2 (w2.alloc (.cells #[] 9)) := by go_grown
                            have HBE := Lib.hid hbE
                            have HSE := Lib.hid ((HS.out.below HB2.out).below hbE)
                            have HOEM := Lib.hid (own1_empty w2 w2.heap.size (Nat.le_refl _))
                            have HXE := Lib.hid (blk_below hbE HX2.out)
                            have x8 := cell_block HXE.out 8
                            simp only [List.getElem?_toArray, List.getElem?_cons_zero, List.getElem?_cons_succ] at x8
                            clear hbE c1
                            go_upto_region 17 with ((with_reducible refine at_dst 75 ?_); go_must (refine wpList_app1 rfl (.tmp 72) (.tmp 74) rfl w2.heap.size (by simp) (.slice (some ⟨w2.heap.size, 0, none⟩) 0 0) [] rfl HOEM.out A g.scopes.length c g.scopes rfl HSE.out (by simp; omega) ?_); intro v3 w3 hown0 hgrow hblk; rw [List.nil_append] at hown0; obtain ⟨B, dd, rfl⟩ := hown0.form; have HOW := Lib.hid hown0; have HGR := Lib.hid (below_new HBE.out hgrow); clear hown0 hgrow hblk; have x8w := cell_block (blk_below HGR.out HX2.out) 8; simp only [List.getElem?_toArray, List.getElem?_cons_zero, List.getElem?_cons_succ] at x8w; have f8 : w3.frozen? ⟨w.heap.size, 8, none⟩ = false := (by have := (blk_below HGR.out HX2.out); simp only [World.frozen?, this]; rfl))
                            obtain ⟨w4, hw4⟩ : ∃ w4, w4 = w3.setCell ⟨w.heap.size, 8, none⟩ (.slice B g.scopes.length dd) := ⟨_, rfl⟩
                            rw [← hw4]
                            have HX4 := Lib.hid (show w4.heap[w.heap.size]? = some (.cells #[.string g.user, .string g.client, .string g.tenant, .string g.session, .string g.redirect, .string g.nonce, .string g.challenge, .int .i64 g.method, (.slice B g.scopes.length dd), .int .i64 g.auth, .int .i64 g.level] 36 (0, 0)) by rw [hw4]; exact heap_setCell_same _ _ 8 _ _ _ (blk_below HGR.out HX2.out))
                            have HBW := Lib.hid (show Below w.heap.size w w2 from HB2.out)
                            have HXL := Lib.hid (show w.heap.size < w2.heap.size from blk_lt HX2.out)
                            have HOW4 := Lib.hid (show Own1 w4 w2.heap.size (.slice B g.scopes.length dd) g.scopes by rw [hw4]; exact ownsRow_setCell_below HOW.out (by simp only; exact HXL.out) _)
                            have HB4 := Lib.hid (show Below w.heap.size w w4 by rw [hw4]; exact (HB2.out.trans (HGR.out.mono HB2.out.size)).setCell (by simp) _)
                            have HP4 := Lib.hid (show RefP w4 S I G st (.slice A1 es.length c1') es from HP.out.keep (fun _ e => e) (fun k e => by
                              have hk := HE.out.lt k e
                              rw [hw4, Below.heap_setCell _ _ _ _ (by simp only; omega)]
                              exact HGR.out.block k (by have := HXL.out; omega)) (by rw [hw4, sc_size]; exact HGR.out.size) (fun k e => by have := HE.out.lt k e; have := HB4.out.size; omega))
                            clear hw4 x8 x8w f8
                            have HM3 := Lib.hid (Mods.of_below S HB4.out)
                            have e0 := cell_block HP4.out.hG 0
                            have e1 := cell_block HP4.out.hG 1
                            simp only [List.getElem?_toArray, List.getElem?_cons_zero, List.getElem?_cons_succ] at e0 e1
                            have SKA := Lib.hid (show (fun w' => w'.cell? ⟨G, 0, none⟩ = some (.int .i64 st.life) ∧ w'.cell? ⟨w.heap.size, 0, none⟩ = some (.string g.user) ∧ w'.cell? ⟨w.heap.size, 1, none⟩ = some (.string g.client) ∧ w'.cell? ⟨w.heap.size, 2, none⟩ = some (.string g.tenant) ∧ w'.cell? ⟨w.heap.size, 3, none⟩ = some (.string g.session) ∧ w'.cell? ⟨w.heap.size, 4, none⟩ = some (.string g.redirect) ∧ w'.cell? ⟨w.heap.size, 5, none⟩ = some (.string g.nonce) ∧ w'.cell? ⟨w.heap.size, 6, none⟩ = some (.string g.challenge) ∧ w'.cell? ⟨w.heap.size, 7, none⟩ = some (.int .i64 g.method) ∧ w'.cell? ⟨w.heap.size, 8, none⟩ = some ((.slice B g.scopes.length dd)) ∧ w'.cell? ⟨w.heap.size, 9, none⟩ = some (.int .i64 g.auth) ∧ w'.cell? ⟨w.heap.size, 10, none⟩ = some (.int .i64 g.level)) w4.drew from ⟨e0, cell_block HX4.out 0, cell_block HX4.out 1, cell_block HX4.out 2, cell_block HX4.out 3, cell_block HX4.out 4, cell_block HX4.out 5, cell_block HX4.out 6, cell_block HX4.out 7, cell_block HX4.out 8, cell_block HX4.out 9, cell_block HX4.out 10⟩)
                            have e2a : w4.drew.cell? ⟨G, 1, none⟩ = some (.slice A1 es.length c1') := e1
                            have hb5 : Below w4.heap.size w4 (w4.drew.alloc (.cells (fl16 ((newC st t g now, B, dd) : CdE)).toArray 74)) := by go_grown
                            have HG5 := Lib.hid (show (w4.drew.alloc (.cells (fl16 ((newC st t g now, B, dd) : CdE)).toArray 74)).heap[G]? = some (.cells #[.int .i64 st.life, .slice A1 es.length c1'] 60 (0, 0)) from (hb5.block G (blk_lt HP4.out.hG)).trans HP4.out.hG)
                            have HX5 := Lib.hid (show (w4.drew.alloc (.cells (fl16 ((newC st t g now, B, dd) : CdE)).toArray 74)).heap[w.heap.size]? = some (.cells #[.string g.user, .string g.client, .string g.tenant, .string g.session, .string g.redirect, .string g.nonce, .string g.challenge, .int .i64 g.method, (.slice B g.scopes.length dd), .int .i64 g.auth, .int .i64 g.level] 36 (0, 0)) from (hb5.block _ (blk_lt HX4.out)).trans HX4.out)
                            have SK5 := Lib.hid (show (fun w' => w'.cell? ⟨G, 0, none⟩ = some (.int .i64 st.life) ∧ w'.cell? ⟨w.heap.size, 0, none⟩ = some (.string g.user) ∧ w'.cell? ⟨w.heap.size, 1, none⟩ = some (.string g.client) ∧ w'.cell? ⟨w.heap.size, 2, none⟩ = some (.string g.tenant) ∧ w'.cell? ⟨w.heap.size, 3, none⟩ = some (.string g.session) ∧ w'.cell? ⟨w.heap.size, 4, none⟩ = some (.string g.redirect) ∧ w'.cell? ⟨w.heap.size, 5, none⟩ = some (.string g.nonce) ∧ w'.cell? ⟨w.heap.size, 6, none⟩ = some (.string g.challenge) ∧ w'.cell? ⟨w.heap.size, 7, none⟩ = some (.int .i64 g.method) ∧ w'.cell? ⟨w.heap.size, 8, none⟩ = some ((.slice B g.scopes.length dd)) ∧ w'.cell? ⟨w.heap.size, 9, none⟩ = some (.int .i64 g.auth) ∧ w'.cell? ⟨w.heap.size, 10, none⟩ = some (.int .i64 g.level)) (w4.drew.alloc (.cells (fl16 ((newC st t g now, B, dd) : CdE)).toArray 74)) from ⟨cell_block HG5.out 0, cell_block HX5.out 0, cell_block HX5.out 1, cell_block HX5.out 2, cell_block HX5.out 3, cell_block HX5.out 4, cell_block HX5.out 5, cell_block HX5.out 6, cell_block HX5.out 7, cell_block HX5.out 8, cell_block HX5.out 9, cell_block HX5.out 10⟩)
                            have e2b := cell_block HG5.out 1
                            simp only [List.getElem?_toArray, List.getElem?_cons_zero, List.getElem?_cons_succ] at e2b
                            have HE2B := Lib.hid e2b
                            clear e2b
                            have HGL5 := Lib.hid (blk_lt HG5.out)
                            have HNO := Lib.hid (show ¬ (Value.slice A1 es.length c1').ownBlock = some G from fun e => (HP4.out.sv G e).2.2 rfl)
                            have HNB := Lib.hid (show ¬ (Value.slice A1 es.length c1').ownBlock = some w.heap.size from fun e => by have := HE.out.lt _ (HP4.out.sv _ e).1; omega)
                            have HNG := Lib.hid (show w.heap.size ≠ G from fun e => by have := HE.out.lt _ HP4.out.sG.1; omega)
                            have HOE := Lib.hid (HP4.out.own.keep (w' := (w4.drew.alloc (.cells (fl16 ((newC st t g now, B, dd) : CdE)).toArray 74))) (fun k hk => hb5.block k (HP4.out.own.lt k hk)))
                            have HEL := Lib.hid (show ∀ j u, (fl16 ((newC st t g now, B, dd) : CdE))[j]? = some u → (w4.drew.alloc (.cells (fl16 ((newC st t g now, B, dd) : CdE)).toArray 74)).cell? ⟨w4.heap.size, j, none⟩ = some u from fun j u hj => by
                              have h1 := cell_block (heap_alloc_new w4.drew (.cells (fl16 ((newC st t g now, B, dd) : CdE)).toArray 74)) j
                              rw [show w4.drew.heap.size = w4.heap.size from rfl] at h1
                              rw [h1, ← hj]
                              simp)
                            clear hb5
                            refine wp_region_held_drew (S := (fun w' => w'.cell? ⟨G, 0, none⟩ = some (.int .i64 st.life) ∧ w'.cell? ⟨w.heap.size, 0, none⟩ = some (.string g.user) ∧ w'.cell? ⟨w.heap.size, 1, none⟩ = some (.string g.client) ∧ w'.cell? ⟨w.heap.size, 2, none⟩ = some (.string g.tenant) ∧ w'.cell? ⟨w.heap.size, 3, none⟩ = some (.string g.session) ∧ w'.cell? ⟨w.heap.size, 4, none⟩ = some (.string g.redirect) ∧ w'.cell? ⟨w.heap.size, 5, none⟩ = some (.string g.nonce) ∧ w'.cell? ⟨w.heap.size, 6, none⟩ = some (.string g.challenge) ∧ w'.cell? ⟨w.heap.size, 7, none⟩ = some (.int .i64 g.method) ∧ w'.cell? ⟨w.heap.size, 8, none⟩ = some ((.slice B g.scopes.length dd)) ∧ w'.cell? ⟨w.heap.size, 9, none⟩ = some (.int .i64 g.auth) ∧ w'.cell? ⟨w.heap.size, 10, none⟩ = some (.int .i64 g.level))) (by kernel_rfl) ?_ (fun hHeld => ?_)
                            focus ((try dsimp only); (first | exact SKA.out | exact SK7.out _ | exact SK6.out | exact SK5.out); done)
                            refine wpAnyH_take (i := 0) (oi := ⟨_, _, _, _, _, _⟩) (v := ?_) rfl (by kernel_rfl) (by kernel_rfl) (by kernel_rfl) (fun _ _ _ h => h) (Or.inl ⟨by rfl, ?_⟩) (by assumption) ?_; rotate_left; (focus (intro w hSw; (try dsimp only at hSw); go_simp; (try with_reducible rfl); done)); simp only [Act.put, List.setIfInBounds_toArray, List.set_cons_zero, List.set_cons_succ]
                            refine wpAnyH_take (i := 1) (oi := ⟨_, _, _, _, _, _⟩) (v := ?_) rfl (by kernel_rfl) (by kernel_rfl) (by kernel_rfl) (fun _ _ _ h => h) (Or.inl ⟨by rfl, ?_⟩) (by assumption) ?_; rotate_left; (focus (intro w hSw; (try dsimp only at hSw); go_simp; (try with_reducible rfl); done)); simp only [Act.put, List.setIfInBounds_toArray, List.set_cons_zero, List.set_cons_succ]
                            refine wpAnyH_take (i := 2) (oi := ⟨_, _, _, _, _, _⟩) (v := ?_) rfl (by kernel_rfl) (by kernel_rfl) (by kernel_rfl) (fun _ _ _ h => h) (Or.inl ⟨by rfl, ?_⟩) (by assumption) ?_; rotate_left; (focus (intro w hSw; (try dsimp only at hSw); go_simp; (try with_reducible rfl); done)); simp only [Act.put, List.setIfInBounds_toArray, List.set_cons_zero, List.set_cons_succ]
                            refine wpAnyH_take (i := 3) (oi := ⟨_, _, _, _, _, _⟩) (v := ?_) rfl (by kernel_rfl) (by kernel_rfl) (by kernel_rfl) (fun _ _ _ h => h) (Or.inl ⟨by rfl, ?_⟩) (by assumption) ?_; rotate_left; (focus (intro w hSw; (try dsimp only at hSw); go_simp; (try with_reducible rfl); done)); simp only [Act.put, List.setIfInBounds_toArray, List.set_cons_zero, List.set_cons_succ]
                            refine wpAnyH_take (i := 5) (oi := ⟨_, _, _, _, _, _⟩) (v := ?_) rfl (by kernel_rfl) (by kernel_rfl) (by kernel_rfl) (fun _ _ _ h => h) (Or.inl ⟨by rfl, ?_⟩) (by assumption) ?_; rotate_left; (focus (intro w hSw; (try dsimp only at hSw); go_simp; (try with_reducible rfl); done)); simp only [Act.put, List.setIfInBounds_toArray, List.set_cons_zero, List.set_cons_succ]
                            refine wpAnyH_take (i := 6) (oi := ⟨_, _, _, _, _, _⟩) (v := ?_) rfl (by kernel_rfl) (by kernel_rfl) (by kernel_rfl) (fun _ _ _ h => h) (Or.inl ⟨by rfl, ?_⟩) (by assumption) ?_; rotate_left; (focus (intro w hSw; (try dsimp only at hSw); go_simp; (try with_reducible rfl); done)); simp only [Act.put, List.setIfInBounds_toArray, List.set_cons_zero, List.set_cons_succ]
                            refine wpAnyH_take (i := 7) (oi := ⟨_, _, _, _, _, _⟩) (v := ?_) rfl (by kernel_rfl) (by kernel_rfl) (by kernel_rfl) (fun _ _ _ h => h) (Or.inl ⟨by rfl, ?_⟩) (by assumption) ?_; rotate_left; (focus (intro w hSw; (try dsimp only at hSw); go_simp; (try with_reducible rfl); done)); simp only [Act.put, List.setIfInBounds_toArray, List.set_cons_zero, List.set_cons_succ]
                            refine wpAnyH_take (i := 8) (oi := ⟨_, _, _, _, _, _⟩) (v := ?_) rfl (by kernel_rfl) (by kernel_rfl) (by kernel_rfl) (fun _ _ _ h => h) (Or.inl ⟨by rfl, ?_⟩) (by assumption) ?_; rotate_left; (focus (intro w hSw; (try dsimp only at hSw); go_simp; (try with_reducible rfl); done)); simp only [Act.put, List.setIfInBounds_toArray, List.set_cons_zero, List.set_cons_succ]
                            refine wpAnyH_take (i := 9) (oi := ⟨_, _, _, _, _, _⟩) (v := ?_) rfl (by kernel_rfl) (by kernel_rfl) (by kernel_rfl) (fun _ _ _ h => h) (Or.inl ⟨by rfl, ?_⟩) (by assumption) ?_; rotate_left; (focus (intro w hSw; (try dsimp only at hSw); go_simp; (try with_reducible rfl); done)); simp only [Act.put, List.setIfInBounds_toArray, List.set_cons_zero, List.set_cons_succ]
                            refine wpAnyH_take (i := 10) (oi := ⟨_, _, _, _, _, _⟩) (v := ?_) rfl (by kernel_rfl) (by kernel_rfl) (by kernel_rfl) (fun _ _ _ h => h) (Or.inl ⟨by rfl, ?_⟩) (by assumption) ?_; rotate_left; (focus (intro w hSw; (try dsimp only at hSw); go_simp; (try with_reducible rfl); done)); simp only [Act.put, List.setIfInBounds_toArray, List.set_cons_zero, List.set_cons_succ]
                            refine wpAnyH_take (i := 11) (oi := ⟨_, _, _, _, _, _⟩) (v := ?_) rfl (by kernel_rfl) (by kernel_rfl) (by kernel_rfl) (fun _ _ _ h => h) (Or.inl ⟨by rfl, ?_⟩) (by assumption) ?_; rotate_left; (focus (intro w hSw; (try dsimp only at hSw); go_simp; (try with_reducible rfl); done)); simp only [Act.put, List.setIfInBounds_toArray, List.set_cons_zero, List.set_cons_succ]
                            refine wpAnyH_ready (rs := [4, 12]) (by kernel_rfl) (by simp) ?_
                            refine AllReadyH.cons (o := ⟨_, _, _, _, _, _⟩) rfl (fun K hK => ?_) (AllReadyH.cons (o := ⟨_, _, _, _, _, _⟩) rfl (fun K hK => ?_) AllReadyH.nil)
                            · as_aux_lemma =>
                              go_simp
                              (try go_wp2_with fail)
                              refine hK.out _ _ ?_ (fun hHeld => ?_)
                              focus ((try dsimp only); (first | exact SKA.out | exact SK7.out _ | exact SK6.out | exact SK5.out); done)
                              clear hK K
                              (try simp only [Act.put, List.setIfInBounds_toArray, List.set_cons_zero, List.set_cons_succ])
                              refine wpAnyH_ready (rs := [12]) (by kernel_rfl) (by simp) ?_
                              refine AllReadyH.cons (o := ⟨_, _, _, _, _, _⟩) rfl (fun K hK => ?_) AllReadyH.nil
                              go_simp
                              go_wp2_with fail
                              refine (radd_any now st.life _).mono ?_
                              rintro e wn ⟨rfl, rfl⟩
                              (try go_wp2_with fail)
                              refine hK.out _ _ ?_ (fun hHeld => ?_)
                              focus ((try dsimp only); (first | exact SKA.out | exact SK7.out _ | exact SK6.out | exact SK5.out); done)
                              clear hK K
                              (try simp only [Act.put, List.setIfInBounds_toArray, List.set_cons_zero, List.set_cons_succ])
                              refine wpAnyH_take (i := 13) (oi := ⟨_, _, _, _, _, _⟩) rfl (by kernel_rfl) (by kernel_rfl) (by kernel_rfl) (fun _ _ _ h => h) (yields_build16 (by rfl) (.tmp 82) (.tmp 83) (.tmp 89) rfl t g.user g.client g.tenant g.session g.redirect g.nonce g.challenge g.method B g.scopes.length dd g.auth g.level (addC now st.life) rfl rfl rfl) (by assumption) ?_
                              simp only [Act.put, List.setIfInBounds_toArray, List.set_cons_zero, List.set_cons_succ]
                              refine wpAnyH_ready (rs := [14]) (by kernel_rfl) (by simp) ?_
                              refine AllReadyH.cons (o := ⟨_, _, _, _, _, _⟩) rfl (fun K hK => ?_) AllReadyH.nil
                              refine wp_build16 (.tmp 90) rfl ((newC st t g now, B, dd) : CdE) rfl ?_
                              (try go_wp2_with fail)
                              refine hK.out _ _ ?_ (fun hHeld => ?_)
                              focus ((try dsimp only); (first | exact SKA.out | exact SK7.out _ | exact SK6.out | exact SK5.out); done)
                              clear hK K
                              (try simp only [Act.put, List.setIfInBounds_toArray, List.set_cons_zero, List.set_cons_succ])
                              refine wpAnyH_ready (rs := [15]) (by kernel_rfl) (by simp) ?_
                              refine AllReadyH.cons (o := ⟨_, _, _, _, _, _⟩) rfl (fun K hK => ?_) AllReadyH.nil
                              refine wp_app16 (.tmp 81) (.tmp 91) rfl (.slice A1 es.length c1') es rfl HOE.out w4.heap.size 1 ((newC st t g now, B, dd) : CdE) rfl HEL.out (by omega) ?_
                              intro v6 w6 hO6 hg6 hv6
                              have HV6 := Lib.hid hv6
                              have HG6 := Lib.hid hg6
                              have HGB6 := Lib.hid (show w6.heap[G]? = some (.cells #[.int .i64 st.life, .slice A1 es.length c1'] 60 (0, 0)) from (hg6.block G HGL5.out (fun e => HNO.out e.symm)).trans HG5.out)
                              have HXB6 := Lib.hid (show w6.heap[w.heap.size]? = some (.cells #[.string g.user, .string g.client, .string g.tenant, .string g.session, .string g.redirect, .string g.nonce, .string g.challenge, .int .i64 g.method, (.slice B g.scopes.length dd), .int .i64 g.auth, .int .i64 g.level] 36 (0, 0)) from (hg6.block w.heap.size (blk_lt HX5.out) (fun e => HNB.out e.symm)).trans HX5.out)
                              have SK6 := Lib.hid (show (fun w' => w'.cell? ⟨G, 0, none⟩ = some (.int .i64 st.life) ∧ w'.cell? ⟨w.heap.size, 0, none⟩ = some (.string g.user) ∧ w'.cell? ⟨w.heap.size, 1, none⟩ = some (.string g.client) ∧ w'.cell? ⟨w.heap.size, 2, none⟩ = some (.string g.tenant) ∧ w'.cell? ⟨w.heap.size, 3, none⟩ = some (.string g.session) ∧ w'.cell? ⟨w.heap.size, 4, none⟩ = some (.string g.redirect) ∧ w'.cell? ⟨w.heap.size, 5, none⟩ = some (.string g.nonce) ∧ w'.cell? ⟨w.heap.size, 6, none⟩ = some (.string g.challenge) ∧ w'.cell? ⟨w.heap.size, 7, none⟩ = some (.int .i64 g.method) ∧ w'.cell? ⟨w.heap.size, 8, none⟩ = some ((.slice B g.scopes.length dd)) ∧ w'.cell? ⟨w.heap.size, 9, none⟩ = some (.int .i64 g.auth) ∧ w'.cell? ⟨w.heap.size, 10, none⟩ = some (.int .i64 g.level)) w6 from ⟨cell_block HGB6.out 0, cell_block HXB6.out 0, cell_block HXB6.out 1, cell_block HXB6.out 2, cell_block HXB6.out 3, cell_block HXB6.out 4, cell_block HXB6.out 5, cell_block HXB6.out 6, cell_block HXB6.out 7, cell_block HXB6.out 8, cell_block HXB6.out 9, cell_block HXB6.out 10⟩)
                              have SK7 := Lib.hid (fun (v : Value) => show (fun w' => w'.cell? ⟨G, 0, none⟩ = some (.int .i64 st.life) ∧ w'.cell? ⟨w.heap.size, 0, none⟩ = some (.string g.user) ∧ w'.cell? ⟨w.heap.size, 1, none⟩ = some (.string g.client) ∧ w'.cell? ⟨w.heap.size, 2, none⟩ = some (.string g.tenant) ∧ w'.cell? ⟨w.heap.size, 3, none⟩ = some (.string g.session) ∧ w'.cell? ⟨w.heap.size, 4, none⟩ = some (.string g.redirect) ∧ w'.cell? ⟨w.heap.size, 5, none⟩ = some (.string g.nonce) ∧ w'.cell? ⟨w.heap.size, 6, none⟩ = some (.string g.challenge) ∧ w'.cell? ⟨w.heap.size, 7, none⟩ = some (.int .i64 g.method) ∧ w'.cell? ⟨w.heap.size, 8, none⟩ = some ((.slice B g.scopes.length dd)) ∧ w'.cell? ⟨w.heap.size, 9, none⟩ = some (.int .i64 g.auth) ∧ w'.cell? ⟨w.heap.size, 10, none⟩ = some (.int .i64 g.level)) (w6.setCell ⟨G, 1, none⟩ v) from (by
                                have hx7 : (w6.setCell ⟨G, 1, none⟩ v).heap[w.heap.size]? = some (.cells #[.string g.user, .string g.client, .string g.tenant, .string g.session, .string g.redirect, .string g.nonce, .string g.challenge, .int .i64 g.method, (.slice B g.scopes.length dd), .int .i64 g.auth, .int .i64 g.level] 36 (0, 0)) := (Below.heap_setCell _ _ _ _ HNG.out).trans HXB6.out
                                exact ⟨cell_block (heap_setCell_same w6 G 1 _ _ v HGB6.out) 0, cell_block hx7 0, cell_block hx7 1, cell_block hx7 2, cell_block hx7 3, cell_block hx7 4, cell_block hx7 5, cell_block hx7 6, cell_block hx7 7, cell_block hx7 8, cell_block hx7 9, cell_block hx7 10⟩))
                              have g2 := cell_block HGB6.out 1
                              simp only [List.getElem?_toArray, List.getElem?_cons_zero, List.getElem?_cons_succ] at g2
                              have f2 : w6.frozen? ⟨G, 1, none⟩ = false := by have := HGB6.out; simp only [World.frozen?, this]; rfl
                              have hl6 : (es ++ [((newC st t g now, B, dd) : CdE)]).length = es.length + 1 := by simp
                              obtain ⟨A6, c6, rfl⟩ := hO6.len
                              rw [hl6] at hO6
                              rw [hl6] at HV6
                              rw [hl6]
                              have HO6 := Lib.hid hO6
                              clear hO6 hg6 hv6 hl6
                              (try go_wp2_with fail)
                              refine hK.out _ _ ?_ (fun hHeld => ?_)
                              focus ((try dsimp only); (first | exact SKA.out | exact SK7.out _ | exact SK6.out | exact SK5.out); done)
                              clear hK K
                              (try simp only [Act.put, List.setIfInBounds_toArray, List.set_cons_zero, List.set_cons_succ])
                              refine wpAnyH_take (i := 16) (oi := ⟨_, _, _, _, _, _⟩) (v := ?_) rfl (by kernel_rfl) (by kernel_rfl) (by kernel_rfl) (fun _ _ _ h => h) (Or.inl ⟨by rfl, ?_⟩) (by assumption) ?_; rotate_left; (focus (intro w hSw; (try dsimp only at hSw); go_simp; (try with_reducible rfl); done)); simp only [Act.put, List.setIfInBounds_toArray, List.set_cons_zero, List.set_cons_succ]
                              refine wpAnyH_take (i := 17) (oi := ⟨_, _, _, _, _, _⟩) (v := ?_) rfl (by kernel_rfl) (by kernel_rfl) (by kernel_rfl) (fun _ _ _ h => h) (Or.inl ⟨by rfl, ?_⟩) (by assumption) ?_; rotate_left; (focus (intro w hSw; (try dsimp only at hSw); go_simp; (try with_reducible rfl); done)); simp only [Act.put, List.setIfInBounds_toArray, List.set_cons_zero, List.set_cons_succ]
                              refine wpAnyH_ready (rs := [18]) (by kernel_rfl) (by simp) ?_
                              refine AllReadyH.cons (o := ⟨_, _, _, _, _, _⟩) rfl (fun K hK => ?_) AllReadyH.nil
                              go_simp
                              (try go_wp2_with fail)
                              refine hK.out _ _ ?_ (fun hHeld => ?_)
                              focus ((try dsimp only); (first | exact SKA.out | exact SK7.out _ | exact SK6.out | exact SK5.out); done)
                              clear hK K
                              (try simp only [Act.put, List.setIfInBounds_toArray, List.set_cons_zero, List.set_cons_succ])
                              refine wpAnyH_done (by kernel_rfl) ?_ _
                              go_wp2
                              go_ret
                              exact riss_fin2 HQ.out HST.out HIN.out HP4.out HE.out.lt HM3.out HB2.out.size HOW4.out HO6.out HG6.out HV6.out
                            · as_aux_lemma =>
                              go_simp
                              go_wp2_with fail
                              refine (radd_any now st.life _).mono ?_
                              rintro e wn ⟨rfl, rfl⟩
                              (try go_wp2_with fail)
                              refine hK.out _ _ ?_ (fun hHeld => ?_)
                              focus ((try dsimp only); (first | exact SKA.out | exact SK7.out _ | exact SK6.out | exact SK5.out); done)
                              clear hK K
                              (try simp only [Act.put, List.setIfInBounds_toArray, List.set_cons_zero, List.set_cons_succ])
                              refine wpAnyH_take (i := 13) (oi := ⟨_, _, _, _, _, _⟩) rfl (by kernel_rfl) (by kernel_rfl) (by kernel_rfl) (fun _ _ _ h => h) (yields_build16 (by rfl) (.tmp 82) (.tmp 83) (.tmp 89) rfl t g.user g.client g.tenant g.session g.redirect g.nonce g.challenge g.method B g.scopes.length dd g.auth g.level (addC now st.life) rfl rfl rfl) (by assumption) ?_
                              simp only [Act.put, List.setIfInBounds_toArray, List.set_cons_zero, List.set_cons_succ]
                              refine wpAnyH_ready (rs := [4, 14]) (by kernel_rfl) (by simp) ?_
                              refine AllReadyH.cons (o := ⟨_, _, _, _, _, _⟩) rfl (fun K hK => ?_) (AllReadyH.cons (o := ⟨_, _, _, _, _, _⟩) rfl (fun K hK => ?_) AllReadyH.nil)
                              · as_aux_lemma =>
                                go_simp
                                (try go_wp2_with fail)
                                refine hK.out _ _ ?_ (fun hHeld => ?_)
                                focus ((try dsimp only); (first | exact SKA.out | exact SK7.out _ | exact SK6.out | exact SK5.out); done)
                                clear hK K
                                (try simp only [Act.put, List.setIfInBounds_toArray, List.set_cons_zero, List.set_cons_succ])
                                refine wpAnyH_ready (rs := [14]) (by kernel_rfl) (by simp) ?_
                                refine AllReadyH.cons (o := ⟨_, _, _, _, _, _⟩) rfl (fun K hK => ?_) AllReadyH.nil
                                refine wp_build16 (.tmp 90) rfl ((newC st t g now, B, dd) : CdE) rfl ?_
                                (try go_wp2_with fail)
                                refine hK.out _ _ ?_ (fun hHeld => ?_)
                                focus ((try dsimp only); (first | exact SKA.out | exact SK7.out _ | exact SK6.out | exact SK5.out); done)
                                clear hK K
                                (try simp only [Act.put, List.setIfInBounds_toArray, List.set_cons_zero, List.set_cons_succ])
                                refine wpAnyH_ready (rs := [15]) (by kernel_rfl) (by simp) ?_
                                refine AllReadyH.cons (o := ⟨_, _, _, _, _, _⟩) rfl (fun K hK => ?_) AllReadyH.nil
                                refine wp_app16 (.tmp 81) (.tmp 91) rfl (.slice A1 es.length c1') es rfl HOE.out w4.heap.size 1 ((newC st t g now, B, dd) : CdE) rfl HEL.out (by omega) ?_
                                intro v6 w6 hO6 hg6 hv6
                                have HV6 := Lib.hid hv6
                                have HG6 := Lib.hid hg6
                                have HGB6 := Lib.hid (show w6.heap[G]? = some (.cells #[.int .i64 st.life, .slice A1 es.length c1'] 60 (0, 0)) from (hg6.block G HGL5.out (fun e => HNO.out e.symm)).trans HG5.out)
                                have HXB6 := Lib.hid (show w6.heap[w.heap.size]? = some (.cells #[.string g.user, .string g.client, .string g.tenant, .string g.session, .string g.redirect, .string g.nonce, .string g.challenge, .int .i64 g.method, (.slice B g.scopes.length dd), .int .i64 g.auth, .int .i64 g.level] 36 (0, 0)) from (hg6.block w.heap.size (blk_lt HX5.out) (fun e => HNB.out e.symm)).trans HX5.out)
                                have SK6 := Lib.hid (show (fun w' => w'.cell? ⟨G, 0, none⟩ = some (.int .i64 st.life) ∧ w'.cell? ⟨w.heap.size, 0, none⟩ = some (.string g.user) ∧ w'.cell? ⟨w.heap.size, 1, none⟩ = some (.string g.client) ∧ w'.cell? ⟨w.heap.size, 2, none⟩ = some (.string g.tenant) ∧ w'.cell? ⟨w.heap.size, 3, none⟩ = some (.string g.session) ∧ w'.cell? ⟨w.heap.size, 4, none⟩ = some (.string g.redirect) ∧ w'.cell? ⟨w.heap.size, 5, none⟩ = some (.string g.nonce) ∧ w'.cell? ⟨w.heap.size, 6, none⟩ = some (.string g.challenge) ∧ w'.cell? ⟨w.heap.size, 7, none⟩ = some (.int .i64 g.method) ∧ w'.cell? ⟨w.heap.size, 8, none⟩ = some ((.slice B g.scopes.length dd)) ∧ w'.cell? ⟨w.heap.size, 9, none⟩ = some (.int .i64 g.auth) ∧ w'.cell? ⟨w.heap.size, 10, none⟩ = some (.int .i64 g.level)) w6 from ⟨cell_block HGB6.out 0, cell_block HXB6.out 0, cell_block HXB6.out 1, cell_block HXB6.out 2, cell_block HXB6.out 3, cell_block HXB6.out 4, cell_block HXB6.out 5, cell_block HXB6.out 6, cell_block HXB6.out 7, cell_block HXB6.out 8, cell_block HXB6.out 9, cell_block HXB6.out 10⟩)
                                have SK7 := Lib.hid (fun (v : Value) => show (fun w' => w'.cell? ⟨G, 0, none⟩ = some (.int .i64 st.life) ∧ w'.cell? ⟨w.heap.size, 0, none⟩ = some (.string g.user) ∧ w'.cell? ⟨w.heap.size, 1, none⟩ = some (.string g.client) ∧ w'.cell? ⟨w.heap.size, 2, none⟩ = some (.string g.tenant) ∧ w'.cell? ⟨w.heap.size, 3, none⟩ = some (.string g.session) ∧ w'.cell? ⟨w.heap.size, 4, none⟩ = some (.string g.redirect) ∧ w'.cell? ⟨w.heap.size, 5, none⟩ = some (.string g.nonce) ∧ w'.cell? ⟨w.heap.size, 6, none⟩ = some (.string g.challenge) ∧ w'.cell? ⟨w.heap.size, 7, none⟩ = some (.int .i64 g.method) ∧ w'.cell? ⟨w.heap.size, 8, none⟩ = some ((.slice B g.scopes.length dd)) ∧ w'.cell? ⟨w.heap.size, 9, none⟩ = some (.int .i64 g.auth) ∧ w'.cell? ⟨w.heap.size, 10, none⟩ = some (.int .i64 g.level)) (w6.setCell ⟨G, 1, none⟩ v) from (by
                                  have hx7 : (w6.setCell ⟨G, 1, none⟩ v).heap[w.heap.size]? = some (.cells #[.string g.user, .string g.client, .string g.tenant, .string g.session, .string g.redirect, .string g.nonce, .string g.challenge, .int .i64 g.method, (.slice B g.scopes.length dd), .int .i64 g.auth, .int .i64 g.level] 36 (0, 0)) := (Below.heap_setCell _ _ _ _ HNG.out).trans HXB6.out
                                  exact ⟨cell_block (heap_setCell_same w6 G 1 _ _ v HGB6.out) 0, cell_block hx7 0, cell_block hx7 1, cell_block hx7 2, cell_block hx7 3, cell_block hx7 4, cell_block hx7 5, cell_block hx7 6, cell_block hx7 7, cell_block hx7 8, cell_block hx7 9, cell_block hx7 10⟩))
                                have g2 := cell_block HGB6.out 1
                                simp only [List.getElem?_toArray, List.getElem?_cons_zero, List.getElem?_cons_succ] at g2
                                have f2 : w6.frozen? ⟨G, 1, none⟩ = false := by have := HGB6.out; simp only [World.frozen?, this]; rfl
                                have hl6 : (es ++ [((newC st t g now, B, dd) : CdE)]).length = es.length + 1 := by simp
                                obtain ⟨A6, c6, rfl⟩ := hO6.len
                                rw [hl6] at hO6
                                rw [hl6] at HV6
                                rw [hl6]
                                have HO6 := Lib.hid hO6
                                clear hO6 hg6 hv6 hl6
                                (try go_wp2_with fail)
                                refine hK.out _ _ ?_ (fun hHeld => ?_)
                                focus ((try dsimp only); (first | exact SKA.out | exact SK7.out _ | exact SK6.out | exact SK5.out); done)
                                clear hK K
                                (try simp only [Act.put, List.setIfInBounds_toArray, List.set_cons_zero, List.set_cons_succ])
                                refine wpAnyH_take (i := 16) (oi := ⟨_, _, _, _, _, _⟩) (v := ?_) rfl (by kernel_rfl) (by kernel_rfl) (by kernel_rfl) (fun _ _ _ h => h) (Or.inl ⟨by rfl, ?_⟩) (by assumption) ?_; rotate_left; (focus (intro w hSw; (try dsimp only at hSw); go_simp; (try with_reducible rfl); done)); simp only [Act.put, List.setIfInBounds_toArray, List.set_cons_zero, List.set_cons_succ]
                                refine wpAnyH_take (i := 17) (oi := ⟨_, _, _, _, _, _⟩) (v := ?_) rfl (by kernel_rfl) (by kernel_rfl) (by kernel_rfl) (fun _ _ _ h => h) (Or.inl ⟨by rfl, ?_⟩) (by assumption) ?_; rotate_left; (focus (intro w hSw; (try dsimp only at hSw); go_simp; (try with_reducible rfl); done)); simp only [Act.put, List.setIfInBounds_toArray, List.set_cons_zero, List.set_cons_succ]
                                refine wpAnyH_ready (rs := [18]) (by kernel_rfl) (by simp) ?_
                                refine AllReadyH.cons (o := ⟨_, _, _, _, _, _⟩) rfl (fun K hK => ?_) AllReadyH.nil
                                go_simp
                                (try go_wp2_with fail)
                                refine hK.out _ _ ?_ (fun hHeld => ?_)
                                focus ((try dsimp only); (first | exact SKA.out | exact SK7.out _ | exact SK6.out | exact SK5.out); done)
                                clear hK K
                                (try simp only [Act.put, List.setIfInBounds_toArray, List.set_cons_zero, List.set_cons_succ])
                                refine wpAnyH_done (by kernel_rfl) ?_ _
                                go_wp2
                                go_ret
                                exact riss_fin2 HQ.out HST.out HIN.out HP4.out HE.out.lt HM3.out HB2.out.size HOW4.out HO6.out HG6.out HV6.out
                              · as_aux_lemma =>
                                refine wp_build16 (.tmp 90) rfl ((newC st t g now, B, dd) : CdE) rfl ?_
                                (try go_wp2_with fail)
                                refine hK.out _ _ ?_ (fun hHeld => ?_)
                                focus ((try dsimp only); (first | exact SKA.out | exact SK7.out _ | exact SK6.out | exact SK5.out); done)
                                clear hK K
                                (try simp only [Act.put, List.setIfInBounds_toArray, List.set_cons_zero, List.set_cons_succ])
                                refine wpAnyH_ready (rs := [4]) (by kernel_rfl) (by simp) ?_
                                refine AllReadyH.cons (o := ⟨_, _, _, _, _, _⟩) rfl (fun K hK => ?_) AllReadyH.nil
                                have e2b : ((w4.alloc (.cells (fl16 ((newC st t g now, B, dd) : CdE)).toArray 74)).drew).cell? ⟨G, 1, none⟩ = some (.slice A1 es.length c1') := HE2B.out
                                have e2c : (w4.alloc (.cells (fl16 ((newC st t g now, B, dd) : CdE)).toArray 74)).cell? ⟨G, 1, none⟩ = some (.slice A1 es.length c1') := HE2B.out
                                go_simp
                                clear e2b e2c
                                (try go_wp2_with fail)
                                refine hK.out _ _ ?_ (fun hHeld => ?_)
                                focus ((try dsimp only); (first | exact SKA.out | exact SK7.out _ | exact SK6.out | exact SK5.out); done)
                                clear hK K
                                (try simp only [Act.put, List.setIfInBounds_toArray, List.set_cons_zero, List.set_cons_succ])
                                refine wpAnyH_ready (rs := [15]) (by kernel_rfl) (by simp) ?_
                                refine AllReadyH.cons (o := ⟨_, _, _, _, _, _⟩) rfl (fun K hK => ?_) AllReadyH.nil
                                refine wp_app16 (.tmp 81) (.tmp 91) rfl (.slice A1 es.length c1') es rfl HOE.out w4.heap.size 1 ((newC st t g now, B, dd) : CdE) rfl HEL.out (by omega) ?_
                                intro v6 w6 hO6 hg6 hv6
                                have HV6 := Lib.hid hv6
                                have HG6 := Lib.hid hg6
                                have HGB6 := Lib.hid (show w6.heap[G]? = some (.cells #[.int .i64 st.life, .slice A1 es.length c1'] 60 (0, 0)) from (hg6.block G HGL5.out (fun e => HNO.out e.symm)).trans HG5.out)
                                have HXB6 := Lib.hid (show w6.heap[w.heap.size]? = some (.cells #[.string g.user, .string g.client, .string g.tenant, .string g.session, .string g.redirect, .string g.nonce, .string g.challenge, .int .i64 g.method, (.slice B g.scopes.length dd), .int .i64 g.auth, .int .i64 g.level] 36 (0, 0)) from (hg6.block w.heap.size (blk_lt HX5.out) (fun e => HNB.out e.symm)).trans HX5.out)
                                have SK6 := Lib.hid (show (fun w' => w'.cell? ⟨G, 0, none⟩ = some (.int .i64 st.life) ∧ w'.cell? ⟨w.heap.size, 0, none⟩ = some (.string g.user) ∧ w'.cell? ⟨w.heap.size, 1, none⟩ = some (.string g.client) ∧ w'.cell? ⟨w.heap.size, 2, none⟩ = some (.string g.tenant) ∧ w'.cell? ⟨w.heap.size, 3, none⟩ = some (.string g.session) ∧ w'.cell? ⟨w.heap.size, 4, none⟩ = some (.string g.redirect) ∧ w'.cell? ⟨w.heap.size, 5, none⟩ = some (.string g.nonce) ∧ w'.cell? ⟨w.heap.size, 6, none⟩ = some (.string g.challenge) ∧ w'.cell? ⟨w.heap.size, 7, none⟩ = some (.int .i64 g.method) ∧ w'.cell? ⟨w.heap.size, 8, none⟩ = some ((.slice B g.scopes.length dd)) ∧ w'.cell? ⟨w.heap.size, 9, none⟩ = some (.int .i64 g.auth) ∧ w'.cell? ⟨w.heap.size, 10, none⟩ = some (.int .i64 g.level)) w6 from ⟨cell_block HGB6.out 0, cell_block HXB6.out 0, cell_block HXB6.out 1, cell_block HXB6.out 2, cell_block HXB6.out 3, cell_block HXB6.out 4, cell_block HXB6.out 5, cell_block HXB6.out 6, cell_block HXB6.out 7, cell_block HXB6.out 8, cell_block HXB6.out 9, cell_block HXB6.out 10⟩)
                                have SK7 := Lib.hid (fun (v : Value) => show (fun w' => w'.cell? ⟨G, 0, none⟩ = some (.int .i64 st.life) ∧ w'.cell? ⟨w.heap.size, 0, none⟩ = some (.string g.user) ∧ w'.cell? ⟨w.heap.size, 1, none⟩ = some (.string g.client) ∧ w'.cell? ⟨w.heap.size, 2, none⟩ = some (.string g.tenant) ∧ w'.cell? ⟨w.heap.size, 3, none⟩ = some (.string g.session) ∧ w'.cell? ⟨w.heap.size, 4, none⟩ = some (.string g.redirect) ∧ w'.cell? ⟨w.heap.size, 5, none⟩ = some (.string g.nonce) ∧ w'.cell? ⟨w.heap.size, 6, none⟩ = some (.string g.challenge) ∧ w'.cell? ⟨w.heap.size, 7, none⟩ = some (.int .i64 g.method) ∧ w'.cell? ⟨w.heap.size, 8, none⟩ = some ((.slice B g.scopes.length dd)) ∧ w'.cell? ⟨w.heap.size, 9, none⟩ = some (.int .i64 g.auth) ∧ w'.cell? ⟨w.heap.size, 10, none⟩ = some (.int .i64 g.level)) (w6.setCell ⟨G, 1, none⟩ v) from (by
                                  have hx7 : (w6.setCell ⟨G, 1, none⟩ v).heap[w.heap.size]? = some (.cells #[.string g.user, .string g.client, .string g.tenant, .string g.session, .string g.redirect, .string g.nonce, .string g.challenge, .int .i64 g.method, (.slice B g.scopes.length dd), .int .i64 g.auth, .int .i64 g.level] 36 (0, 0)) := (Below.heap_setCell _ _ _ _ HNG.out).trans HXB6.out
                                  exact ⟨cell_block (heap_setCell_same w6 G 1 _ _ v HGB6.out) 0, cell_block hx7 0, cell_block hx7 1, cell_block hx7 2, cell_block hx7 3, cell_block hx7 4, cell_block hx7 5, cell_block hx7 6, cell_block hx7 7, cell_block hx7 8, cell_block hx7 9, cell_block hx7 10⟩))
                                have g2 := cell_block HGB6.out 1
                                simp only [List.getElem?_toArray, List.getElem?_cons_zero, List.getElem?_cons_succ] at g2
                                have f2 : w6.frozen? ⟨G, 1, none⟩ = false := by have := HGB6.out; simp only [World.frozen?, this]; rfl
                                have hl6 : (es ++ [((newC st t g now, B, dd) : CdE)]).length = es.length + 1 := by simp
                                obtain ⟨A6, c6, rfl⟩ := hO6.len
                                rw [hl6] at hO6
                                rw [hl6] at HV6
                                rw [hl6]
                                have HO6 := Lib.hid hO6
                                clear hO6 hg6 hv6 hl6
                                (try go_wp2_with fail)
                                refine hK.out _ _ ?_ (fun hHeld => ?_)
                                focus ((try dsimp only); (first | exact SKA.out | exact SK7.out _ | exact SK6.out | exact SK5.out); done)
                                clear hK K
                                (try simp only [Act.put, List.setIfInBounds_toArray, List.set_cons_zero, List.set_cons_succ])
                                refine wpAnyH_take (i := 16) (oi := ⟨_, _, _, _, _, _⟩) (v := ?_) rfl (by kernel_rfl) (by kernel_rfl) (by kernel_rfl) (fun _ _ _ h => h) (Or.inl ⟨by rfl, ?_⟩) (by assumption) ?_; rotate_left; (focus (intro w hSw; (try dsimp only at hSw); go_simp; (try with_reducible rfl); done)); simp only [Act.put, List.setIfInBounds_toArray, List.set_cons_zero, List.set_cons_succ]
                                refine wpAnyH_take (i := 17) (oi := ⟨_, _, _, _, _, _⟩) (v := ?_) rfl (by kernel_rfl) (by kernel_rfl) (by kernel_rfl) (fun _ _ _ h => h) (Or.inl ⟨by rfl, ?_⟩) (by assumption) ?_; rotate_left; (focus (intro w hSw; (try dsimp only at hSw); go_simp; (try with_reducible rfl); done)); simp only [Act.put, List.setIfInBounds_toArray, List.set_cons_zero, List.set_cons_succ]
                                refine wpAnyH_ready (rs := [18]) (by kernel_rfl) (by simp) ?_
                                refine AllReadyH.cons (o := ⟨_, _, _, _, _, _⟩) rfl (fun K hK => ?_) AllReadyH.nil
                                go_simp
                                (try go_wp2_with fail)
                                refine hK.out _ _ ?_ (fun hHeld => ?_)
                                focus ((try dsimp only); (first | exact SKA.out | exact SK7.out _ | exact SK6.out | exact SK5.out); done)
                                clear hK K
                                (try simp only [Act.put, List.setIfInBounds_toArray, List.set_cons_zero, List.set_cons_succ])
                                refine wpAnyH_done (by kernel_rfl) ?_ _
                                go_wp2
                                go_ret
                                exact riss_fin2 HQ.out HST.out HIN.out HP4.out HE.out.lt HM3.out HB2.out.size HOW4.out HO6.out HG6.out HV6.out
                · as_aux_lemma =>
                  have HST := Lib.hid (show issE st t g = ks from issE_k HC.out (ckG_s Q5.out hks hk0) hk0)
                  have hkb : (ks == 0) = false := beq_eq_false_iff_ne.2 hk0
                  rw [hks]
                  have HK0 := Lib.hid hk0
                  clear hks
                  go_wp2
                  go_ret
                  exact riss_same HQ.out HST.out HK0.out rfl HE.out HB2.out
end Go.Proofs.YtioabjniipkncaaGreatDoor.Rc
