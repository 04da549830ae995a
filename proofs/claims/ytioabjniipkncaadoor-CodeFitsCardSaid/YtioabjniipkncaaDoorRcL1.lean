/-
  The walk of the statement CodeOnce.
-/
import Derived.Test.YtioabjniipkncaaDoorRcRu
import Derived.Test.YtioabjniipkncaaDoorRcLv
namespace Go.Proofs.YtioabjniipkncaaDoor.Rc
open Go.RowKit Go.Proofs.YtioabjniipkncaaDoor.Fo Go.Proofs.YtioabjniipkncaaDoor.Rf Go.Maps

theorem long_is {w : World} {A : Option Addr} {n c : Nat} {l : List Opc} {m : Int} (hs : Os w A n c l) (hm : m ≤ 1000) {b : Bool} (hb : longB l m = b) : Calls Tryd.prog 9 #[.slice A n c, .int .i64 m] w fun e w' => e = .returned (.bool b) ∧ Below w.heap.size w w' := by
  rw [← hb]; exact long_any w A n c l m hs hm
theorem greatg_is {w : World} {g : Gr} {A : Option Addr} {c : Nat} (hs : Ss w A g.scopes.length c g.scopes) {b : Bool} (hb : greatG g = b) : Calls Tryd.prog 10 #[.agg #[.string g.user, .string g.client, .string g.tenant, .string g.session, .string g.redirect, .string g.nonce, .string g.challenge, .int .i64 g.method, (.slice A g.scopes.length c), .int .i64 g.auth, .int .i64 g.level]] w fun e w' => e = .returned (.bool b) ∧ Below w.heap.size w w' := by
  rw [← hb]; exact greatg_any g A g.scopes.length c w hs
theorem gg_parts {g : Gr} (h : greatG g = false) : (g.user.size ≤ 300 ∧ g.client.size ≤ 300 ∧ g.tenant.size ≤ 300 ∧ g.session.size ≤ 300 ∧ g.redirect.size ≤ 300 ∧ g.nonce.size ≤ 300 ∧ g.challenge.size ≤ 300) ∧ g.scopes.length ≤ 20 ∧ Short g.scopes := by
  have h2 : greatO ⟨0, eB, eB, eB, eB, g, 0⟩ = false := by
    unfold greatO
    simp only [h, Bool.false_or]
    decide
  obtain ⟨_, _, _, _, h5, h6, h7⟩ := great_parts h2
  exact ⟨h5, h6, h7⟩
theorem gg_big {g : Gr} (h : greatG g = false) : g.user.size ≤ 100000 ∧ g.client.size ≤ 100000 ∧ g.tenant.size ≤ 100000 ∧ g.session.size ≤ 100000 ∧ g.redirect.size ≤ 100000 ∧ g.nonce.size ≤ 100000 ∧ g.challenge.size ≤ 100000 := by
  obtain ⟨⟨h1, h2, h3, h4, h5, h6, h7⟩, _, _⟩ := gg_parts h
  exact ⟨by omega, by omega, by omega, by omega, by omega, by omega, by omega⟩
theorem Os.blk {w : World} {A : Option Addr} {n c : Nat} {l : List Opc} (h : Os w A n c l) (hn : 0 < n) {b off : Nat} (e : A = some ⟨b, off, none⟩) : ¬ w.heap.size ≤ b := by
  obtain ⟨b', off', e', hb, _⟩ := h.2.2 hn
  rw [e] at e'
  injection e' with e'
  injection e' with e1
  omega
set_option maxRecDepth 100000 in
set_option maxHeartbeats 8000000 in
theorem once_any (w : World) (life : Int) (A : Option Addr) (n c : Nat) (l : List Opc) (A2 : Option Addr) (n2 c2 : Nat) (l2 : List Opc) (word : Bs) (g : Gr) (Ag : Option Addr) (dg : Nat) (now : Int) (hs : Os w A n c l) (hs2 : Os w A2 n2 c2 l2) (hsg : Ss w Ag g.scopes.length dg g.scopes) (hm : MX w) (hd : DG w) :
    Calls Tryd.prog 3 #[.int .i64 life, .slice A n c, .slice A2 n2 c2, .string word, .agg #[.string g.user, .string g.client, .string g.tenant, .string g.session, .string g.redirect, .string g.nonce, .string g.challenge, .int .i64 g.method, .slice Ag g.scopes.length dg, .int .i64 g.auth, .int .i64 g.level], .int .i64 now] w fun e w' => e = .returned (.bool true) ∧ Below w.heap.size w w' := by
  obtain ⟨w0, hw0⟩ : ∃ w', w' = w.alloc (.cells #[.string g.user, .string g.client, .string g.tenant, .string g.session, .string g.redirect, .string g.nonce, .string g.challenge, .int .i64 g.method, .slice Ag g.scopes.length dg, .int .i64 g.auth, .int .i64 g.level] 26) := ⟨_, rfl⟩
  have hb0 : Below w.heap.size w w0 := by rw [hw0]; go_grown
  have HX0 := Lib.hid (show w0.heap[w.heap.size]? = some (.cells #[.string g.user, .string g.client, .string g.tenant, .string g.session, .string g.redirect, .string g.nonce, .string g.challenge, .int .i64 g.method, .slice Ag g.scopes.length dg, .int .i64 g.auth, .int .i64 g.level] 26 (0, 0)) by rw [hw0]; exact heap_alloc_new _ _)
  have HS := Lib.hid (hs.below hb0)
  have HS2 := Lib.hid (hs2.below hb0)
  have HSG := Lib.hid (hsg.below hb0)
  have HM := Lib.hid (hm.below hb0)
  have HD := Lib.hid (hd.below hb0)
  have HLN2 := Lib.hid hs2.1
  have HP := Lib.hid (hm.below hb0).pos
  have FIN := Lib.hid (fun (w' : World) (h : Below w0.heap.size w0 w') => hb0.trans (h.mono hb0.size))
  have HB0 := Lib.hid (Below.refl w0.heap.size w0)
  clear hs hs2 hsg hm hd hb0
  go_enter Tryd.func3, Tryd.ntmps3
  go_upto_region 1 with fail
  rw [← hw0]
  clear hw0
  go_wp2_with fail
  refine (live_any w0 HM.out HD.out).mono ?_
  rintro e w1 ⟨rfl, hb⟩
  have HB1 := Lib.hid (HB0.out.trans (hb.mono HB0.out.size))
  clear hb
  cases hl1 : longB l 12 with
  | true =>
    have HL1 := Lib.hid hl1
    clear hl1
    go_wp2_with fail
    refine (long_is (HS.out.below HB1.out) (by omega) HL1.out).mono ?_
    rintro e w2 ⟨rfl, hb⟩
    have HB2 := Lib.hid (HB1.out.trans (hb.mono HB1.out.size))
    clear hb
    go_wp2
    go_ret
    exact ⟨rfl, FIN.out _ HB2.out⟩
  | false =>
    have HL1 := Lib.hid hl1
    clear hl1
    go_wp2_with fail
    refine (long_is (HS.out.below HB1.out) (by omega) HL1.out).mono ?_
    rintro e w2 ⟨rfl, hb⟩
    have HB2 := Lib.hid (HB1.out.trans (hb.mono HB1.out.size))
    clear hb
    cases hl2 : longB l2 12 with
    | true =>
      have HL2 := Lib.hid hl2
      clear hl2
      go_wp2_with fail
      refine (long_is (HS2.out.below HB2.out) (by omega) HL2.out).mono ?_
      rintro e w3 ⟨rfl, hb⟩
      have HB3 := Lib.hid (HB2.out.trans (hb.mono HB2.out.size))
      clear hb
      go_wp2
      go_ret
      exact ⟨rfl, FIN.out _ HB3.out⟩
    | false =>
      have HL2 := Lib.hid hl2
      clear hl2
      go_wp2_with fail
      refine (long_is (HS2.out.below HB2.out) (by omega) HL2.out).mono ?_
      rintro e w3 ⟨rfl, hb⟩
      have HB3 := Lib.hid (HB2.out.trans (hb.mono HB2.out.size))
      clear hb
      have HX3 := Lib.hid (blk_below HB3.out HX0.out)
      obtain ⟨y0, y1, y2, y3, y4, y5, y6, y7, y8, y9, y10⟩ := cells11 HX3.out
      cases hl3 : greatG g with
      | true =>
        have HL3 := Lib.hid hl3
        clear hl3
        go_wp2_with fail
        refine (greatg_is (HSG.out.below HB3.out) HL3.out).mono ?_
        rintro e w4 ⟨rfl, hb⟩
        have HB4 := Lib.hid (HB3.out.trans (hb.mono HB3.out.size))
        clear hb
        go_wp2
        go_ret
        exact ⟨rfl, FIN.out _ HB4.out⟩
      | false =>
        have HL3 := Lib.hid hl3
        clear hl3
        go_wp2_with fail
        refine (greatg_is (HSG.out.below HB3.out) HL3.out).mono ?_
        rintro e w4 ⟨rfl, hb⟩
        have HB4 := Lib.hid (HB3.out.trans (hb.mono HB3.out.size))
        clear hb
        clear y0 y1 y2 y3 y4 y5 y6 y7 y8 y9 y10
        by_cases hl4 : (300 : Int) < (word.size : Int)
        · go_wp2
          go_ret
          exact ⟨rfl, FIN.out _ HB4.out⟩
        · have HWS := Lib.hid (show word.size ≤ 100000 by omega)
          go_wp2_with fail
          refine (run_any w4 life A n c l 12 (HS.out.below HB4.out) HL1.out (by omega) (HM.out.below HB4.out) (HD.out.below HB4.out)).mono ?_
          rintro e w5 (⟨hlf, rfl, hb⟩ | ⟨hlf, F, st, rfl, hr, hlf2, hb⟩)
          · have HB5 := Lib.hid (HB4.out.trans (hb.mono HB4.out.size))
            clear hlf hb
            go_wp2
            go_ret
            exact ⟨rfl, FIN.out _ HB5.out⟩
          have HLF := Lib.hid hlf
          have HLF2 := Lib.hid hlf2
          have HB5 := Lib.hid (HB4.out.trans (hb.mono HB4.out.size))
          have HR5 := Lib.hid (hr.mono (T' := (fun k => w0.heap.size ≤ k)) (fun k _ e => Nat.le_trans HB4.out.size e))
          have HX5 := Lib.hid (blk_below HB5.out HX0.out)
          clear hlf hlf2 hb hr
          obtain ⟨y0, y1, y2, y3, y4, y5, y6, y7, y8, y9, y10⟩ := cells11 HX5.out
          obtain ⟨⟨st1, er⟩, hri⟩ : ∃ r, iss st word g now = r := ⟨_, rfl⟩
          have HRI := Lib.hid hri
          by_cases her : er = 0
          · subst her
            go_wp2_with fail
            refine (iss_b HR5.out (fun k hk => Nat.le_trans HB5.out.size hk) word g Ag dg now hri HWS.out (gg_big HL3.out) (HSG.out.below HB5.out) (gg_parts HL3.out).2.2 (by have := (gg_parts HL3.out).2.1; omega) (HM.out.below HB5.out)).mono ?_
            rintro e w6 ⟨rfl, hr, hm⟩
            have HR6 := Lib.hid hr
            have HB6 := Lib.hid (HB5.out.trans (hm.toBelow HB5.out.size (fun _ h => h)))
            have HX6 := Lib.hid (blk_below HB6.out HX0.out)
            clear hr hm y0 y1 y2 y3 y4 y5 y6 y7 y8 y9 y10
            clear hri
            have HHI := Lib.hid (held_iss (st := st) (w := word) (g := g) (now := now) (by rw [HRI.out]))
            rw [HRI.out] at HHI
            have hn2 : n2 ≤ 12 := by have := long_len HL2.out; have := HLN2.out; omega
            clear HX5 HX6
            go_wp2_with fail
            go_loopw [14, 15, 16, 49] (fun nv _ _ iv wr => ∃ (k m : Nat) (st : Ct), nv = .int .i64 m ∧ iv = .int .i64 k ∧ k ≤ n2 ∧ RepB wr (fun k => w0.heap.size ≤ k) F st ∧ Held st word g m ∧ Below w0.heap.size w0 wr) (fun _ _ _ iv _ => n2 - (intOf iv).toNat)
            case atStart => exact ⟨0, 0, _, rfl, rfl, Nat.zero_le _, HR6.out, HHI.out, HB6.out⟩
            case round =>
              obtain ⟨k, m, st2, rfl, rfl, hk, hr, hh, hb⟩ := hrel
              have HR := Lib.hid hr
              have HH := Lib.hid hh
              have HB := Lib.hid hb
              clear hr hh hb
              by_cases hlt : k < n2
              · have HOK := Lib.hid (long_at HL2.out (k := k) (by rw [HLN2.out]; exact hlt))
                obtain ⟨bh, oh, Ah, dh, xh, rfl, hlh, hxh, h0, h1, h2, h3, h4, h5, h6, h7, h8, h9, h10, h11, h12, h13, h14, h15, h16, hsh⟩ := (HS2.out.below HB.out).at hlt
                rw [hxh] at HOK
                have HSh := Lib.hid hsh
                clear hsh hxh
                by_cases h7 : xh.kind = 7
                · have q7 : (xh.kind == 7) = true := by rw [h7]; rfl
                  clear h1 h2 h3 h4 h5 h6 h7 h8 h9 h10 h11 h12 h13 h14 h15 h16
                  go_wp2_with fail
                  go_roundw
                  case rel => exact ⟨k + 1, m, st2, rfl, by go_num, by omega, HR.out, HH.out, HB.out⟩
                  case measure => simp [intOf]; omega
                · have q7 : (xh.kind == 7) = false := beq_eq_false_iff_ne.2 h7
                  have H7 := Lib.hid h7
                  clear h7
                  obtain ⟨rr, hrr⟩ : ∃ r, doC st2 xh = r := ⟨_, rfl⟩
                  have HH0 := Lib.hid h0
                  have HH1 := Lib.hid h1
                  go_wp2_with fail
                  refine (do_b HR.out (fun k hk => Nat.le_trans HB.out.size hk) xh Ah dh HSh.out HOK.out (HM.out.below HB.out) (HD.out.below HB.out) (fun k hk => by have := HP.out; omega) hrr).mono ?_
                  rintro e w6 ⟨B, d', rfl, hss, _, hr, hm⟩
                  have HSS := Lib.hid hss
                  have HR6 := Lib.hid hr
                  have HB6 := Lib.hid (HB.out.trans (hm.toBelow HB.out.size (fun _ h => h)))
                  have HRR := Lib.hid hrr
                  have HMD := Lib.hid hm
                  clear hss hr hm hrr h0 h1 h2 h3 h4 h5 h6 h7 h8 h9 h10 h11 h12 h13 h14 h15 h16
                  go_upto_region 14 with fail
                  obtain ⟨w7, hw⟩ : ∃ w', w' = w6.alloc (.cells #[.string rr.2.g.user, .string rr.2.g.client, .string rr.2.g.tenant, .string rr.2.g.session, .string rr.2.g.redirect, .string rr.2.g.nonce, .string rr.2.g.challenge, .int .i64 rr.2.g.method, .slice B rr.2.g.scopes.length d', .int .i64 rr.2.g.auth, .int .i64 rr.2.g.level, .int .i64 rr.2.n, .bool rr.2.yes, .bool rr.2.also, .int .i64 rr.2.e] 37) := ⟨_, rfl⟩
                  have hb7 : Below w6.heap.size w6 w7 := by rw [hw]; go_grown
                  rw [← hw]
                  have HQ := Lib.hid (show w7.heap[w6.heap.size]? = some (.cells #[.string rr.2.g.user, .string rr.2.g.client, .string rr.2.g.tenant, .string rr.2.g.session, .string rr.2.g.redirect, .string rr.2.g.nonce, .string rr.2.g.challenge, .int .i64 rr.2.g.method, .slice B rr.2.g.scopes.length d', .int .i64 rr.2.g.auth, .int .i64 rr.2.g.level, .int .i64 rr.2.n, .bool rr.2.yes, .bool rr.2.also, .int .i64 rr.2.e] 37 (0, 0)) by rw [hw]; exact heap_alloc_new _ _)
                  have HB7 := Lib.hid (HB6.out.trans (hb7.mono HB6.out.size))
                  have HR7 := Lib.hid (HR6.out.below hb7)
                  have HSS7 := Lib.hid (HSS.out.below hb7)
                  have HLH := Lib.hid (show ¬ w0.heap.size ≤ bh from HS2.out.blk (by omega) rfl)
                  have g0 := cell_below hb7 (cell_mods HMD.out HH0.out HLH.out)
                  have g1 := cell_below hb7 (cell_mods HMD.out HH1.out HLH.out)
                  have e4 := cell_block HQ.out 14
                  simp only [List.getElem?_toArray, List.getElem?_cons_zero, List.getElem?_cons_succ] at e4
                  clear hw hb7
                  have HHD := Lib.hid (show Held rr.1 word g m by rw [← HRR.out]; exact held_do H7.out HH.out)
                  by_cases hk2 : xh.kind = 2 ∨ xh.kind = 3
                  · by_cases hcw : xh.code = word
                    · have hbw : (xh.code.toList == word.toList) = true := by rw [beq_bs]; simpa using hcw
                      have hbw2 : xh.code.toList = word.toList := by rw [hcw]
                      by_cases hre : rr.2.e = 0
                      · have HHIT := Lib.hid (held_hit HR.out.inv (show isRed xh from hk2) hcw (by rw [HRR.out]; exact hre) HH.out)
                        rw [HRR.out] at HHIT
                        obtain ⟨hg, hm0, hh1⟩ := HHIT.out
                        have HH1' := Lib.hid hh1
                        subst hm0
                        clear hh1 HHIT
                        rw [hg] at HQ HSS7
                        have HX7 := Lib.hid (blk_below HB7.out HX0.out)
                        obtain ⟨y0, y1, y2, y3, y4, y5, y6, y7, y8, y9, y10⟩ := cells11 HX7.out
                        obtain ⟨u0, u1, u2, u3, u4, u5, u6, u7, u8, u9, u10, u11, u12, u13, u14⟩ := cells15 HQ.out
                        have hre2 : (rr.2.e == 0) = true := by rw [hre]; rfl
                        rcases hk2 with hk2 | hk2
                        · have hk2b : (xh.kind == 2) = true := by rw [hk2]; rfl
                          go_wp2_with fail
                          refine (same_yes g.user g.client g.tenant g.session g.redirect g.nonce g.challenge g.method g.auth g.level B Ag g.scopes.length d' dg g.scopes _ HSS7.out (HSG.out.below HB7.out) (by have := (gg_parts HL3.out).2.1; omega)).mono ?_
                          rintro e w8 ⟨rfl, hb8⟩
                          have HR8 := Lib.hid (HR7.out.below hb8)
                          have HB8 := Lib.hid (HB7.out.trans (hb8.mono HB7.out.size))
                          clear hb8
                          go_wp2
                          go_roundw
                          case rel => exact ⟨k + 1, 1, _, rfl, by go_num, by omega, HR8.out, HH1'.out, HB8.out⟩
                          case measure => simp [intOf]; omega
                        · have hk2b : (xh.kind == 3) = true := by rw [hk2]; rfl
                          have hk22 : ¬ xh.kind = 2 := by omega
                          have hk22b : (xh.kind == 2) = false := beq_eq_false_iff_ne.2 hk22
                          go_wp2_with fail
                          refine (same_yes g.user g.client g.tenant g.session g.redirect g.nonce g.challenge g.method g.auth g.level B Ag g.scopes.length d' dg g.scopes _ HSS7.out (HSG.out.below HB7.out) (by have := (gg_parts HL3.out).2.1; omega)).mono ?_
                          rintro e w8 ⟨rfl, hb8⟩
                          have HR8 := Lib.hid (HR7.out.below hb8)
                          have HB8 := Lib.hid (HB7.out.trans (hb8.mono HB7.out.size))
                          clear hb8
                          go_wp2
                          go_roundw
                          case rel => exact ⟨k + 1, 1, _, rfl, by go_num, by omega, HR8.out, HH1'.out, HB8.out⟩
                          case measure => simp [intOf]; omega
                      · have hre2 : (rr.2.e == 0) = false := beq_eq_false_iff_ne.2 hre
                        rcases hk2 with hk2 | hk2
                        · have hk2b : (xh.kind == 2) = true := by rw [hk2]; rfl
                          go_wp2_with fail
                          go_roundw
                          case rel => exact ⟨k + 1, m, _, rfl, by go_num, by omega, HR7.out, HHD.out, HB7.out⟩
                          case measure => simp [intOf]; omega
                        · have hk2b : (xh.kind == 3) = true := by rw [hk2]; rfl
                          have hk22 : ¬ xh.kind = 2 := by omega
                          have hk22b : (xh.kind == 2) = false := beq_eq_false_iff_ne.2 hk22
                          go_wp2_with fail
                          go_roundw
                          case rel => exact ⟨k + 1, m, _, rfl, by go_num, by omega, HR7.out, HHD.out, HB7.out⟩
                          case measure => simp [intOf]; omega
                    · have hbw : (xh.code.toList == word.toList) = false := by rw [beq_bs]; simpa using hcw
                      have hbw2 : ¬ xh.code.toList = word.toList := by rw [← beq_iff_eq, hbw]; decide
                      clear hcw
                      rcases hk2 with hk2 | hk2
                      · have hk2b : (xh.kind == 2) = true := by rw [hk2]; rfl
                        go_wp2_with fail
                        go_roundw
                        case rel => exact ⟨k + 1, m, _, rfl, by go_num, by omega, HR7.out, HHD.out, HB7.out⟩
                        case measure => simp [intOf]; omega
                      · have hk2b : (xh.kind == 3) = true := by rw [hk2]; rfl
                        have hk22 : ¬ xh.kind = 2 := by omega
                        have hk22b : (xh.kind == 2) = false := beq_eq_false_iff_ne.2 hk22
                        go_wp2_with fail
                        go_roundw
                        case rel => exact ⟨k + 1, m, _, rfl, by go_num, by omega, HR7.out, HHD.out, HB7.out⟩
                        case measure => simp [intOf]; omega
                  · have hk22 : ¬ xh.kind = 2 := fun e => hk2 (Or.inl e)
                    have hk33 : ¬ xh.kind = 3 := fun e => hk2 (Or.inr e)
                    have hk2b : (xh.kind == 2) = false := beq_eq_false_iff_ne.2 hk22
                    have hk3b : (xh.kind == 3) = false := beq_eq_false_iff_ne.2 hk33
                    clear hk2
                    go_wp2_with fail
                    go_roundw
                    case rel => exact ⟨k + 1, m, _, rfl, by go_num, by omega, HR7.out, HHD.out, HB7.out⟩
                    case measure => simp [intOf]; omega
              · have hend := held_end HR.out.inv HH.out
                rcases Nat.eq_zero_or_pos m with hm0 | hm0
                · subst hm0
                  clear hend
                  go_wp2
                  go_ret
                  exact ⟨rfl, FIN.out _ HB.out⟩
                · have hm1 : m = 1 := by omega
                  subst hm1
                  have HU := Lib.hid (show usedS st2 word = true from hend.2.elim (fun e => absurd e (by decide)) (fun e => e))
                  clear hend hm0
                  go_wp2_with fail
                  refine (used_b HR.out word HWS.out HU.out).mono ?_
                  rintro e w9 ⟨rfl, hb⟩
                  have HB9 := Lib.hid (HB.out.trans (hb.mono HB.out.size))
                  clear hb
                  go_wp2
                  go_ret
                  exact ⟨rfl, FIN.out _ HB9.out⟩
          · have hern : (er == 0) = false := beq_eq_false_iff_ne.2 her
            go_wp2_with fail
            refine (iss_b HR5.out (fun k hk => Nat.le_trans HB5.out.size hk) word g Ag dg now hri HWS.out (gg_big HL3.out) (HSG.out.below HB5.out) (gg_parts HL3.out).2.2 (by have := (gg_parts HL3.out).2.1; omega) (HM.out.below HB5.out)).mono ?_
            rintro e w6 ⟨rfl, hr, hm⟩
            have HR6 := Lib.hid hr
            have HB6 := Lib.hid (HB5.out.trans (hm.toBelow HB5.out.size (fun _ h => h)))
            have HX6 := Lib.hid (blk_below HB6.out HX0.out)
            clear hr hm y0 y1 y2 y3 y4 y5 y6 y7 y8 y9 y10
            clear hri
            go_wp2
            go_ret
            exact ⟨rfl, FIN.out _ HB6.out⟩
end Go.Proofs.YtioabjniipkncaaDoor.Rc
