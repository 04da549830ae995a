/-
  The walks of the statements CodeFits and CodeTries.
-/
import Derived.Test.YtioabjniipkncaaDoorRcL1
import Derived.Test.YtioabjniipkncaaDoorRcQ
namespace Go.Proofs.YtioabjniipkncaaDoor.Rc
open Go.RowKit Go.Proofs.YtioabjniipkncaaDoor.Fo Go.Proofs.YtioabjniipkncaaDoor.Rf Go.Maps

theorem cells17 {w : World} {b : Nat} {v0 v1 v2 v3 v4 v5 v6 v7 v8 v9 v10 v11 v12 v13 v14 v15 v16 : Value} {t : TypeId} {fr : Nat × Nat} (h : w.heap[b]? = some (.cells #[v0, v1, v2, v3, v4, v5, v6, v7, v8, v9, v10, v11, v12, v13, v14, v15, v16] t fr)) : w.cell? ⟨b, 0, none⟩ = some v0 ∧ w.cell? ⟨b, 1, none⟩ = some v1 ∧ w.cell? ⟨b, 2, none⟩ = some v2 ∧ w.cell? ⟨b, 3, none⟩ = some v3 ∧ w.cell? ⟨b, 4, none⟩ = some v4 ∧ w.cell? ⟨b, 5, none⟩ = some v5 ∧ w.cell? ⟨b, 6, none⟩ = some v6 ∧ w.cell? ⟨b, 7, none⟩ = some v7 ∧ w.cell? ⟨b, 8, none⟩ = some v8 ∧ w.cell? ⟨b, 9, none⟩ = some v9 ∧ w.cell? ⟨b, 10, none⟩ = some v10 ∧ w.cell? ⟨b, 11, none⟩ = some v11 ∧ w.cell? ⟨b, 12, none⟩ = some v12 ∧ w.cell? ⟨b, 13, none⟩ = some v13 ∧ w.cell? ⟨b, 14, none⟩ = some v14 ∧ w.cell? ⟨b, 15, none⟩ = some v15 ∧ w.cell? ⟨b, 16, none⟩ = some v16 :=
  ⟨cell_block h 0, cell_block h 1, cell_block h 2, cell_block h 3, cell_block h 4, cell_block h 5, cell_block h 6, cell_block h 7, cell_block h 8, cell_block h 9, cell_block h 10, cell_block h 11, cell_block h 12, cell_block h 13, cell_block h 14, cell_block h 15, cell_block h 16⟩
theorem os_one {w : World} {q : Nat} {x : Opc} {A : Option Addr} {d : Nat} (h : w.heap[q]? = some (.cells #[.int .i64 x.kind, .string x.code, .string x.cl, .string x.rd, .string x.ver, .string x.g.user, .string x.g.client, .string x.g.tenant, .string x.g.session, .string x.g.redirect, .string x.g.nonce, .string x.g.challenge, .int .i64 x.g.method, .slice A x.g.scopes.length d, .int .i64 x.g.auth, .int .i64 x.g.level, .int .i64 x.now] 35 (0, 0))) (hs : Ss w A x.g.scopes.length d x.g.scopes) : Os w (some ⟨q, 0, none⟩) 1 1 [x] := by
  refine ⟨rfl, Nat.le_refl _, fun _ => ⟨q, 0, rfl, blk_lt h, fun i hi => ?_⟩⟩
  have : i = 0 := by omega
  subst this
  obtain ⟨z0, z1, z2, z3, z4, z5, z6, z7, z8, z9, z10, z11, z12, z13, z14, z15, z16⟩ := cells17 h
  exact ⟨A, d, z0, z1, z2, z3, z4, z5, z6, z7, z8, z9, z10, z11, z12, z13, z14, z15, z16, hs⟩
theorem long_one (x : Opc) : longB [x] 1 = greatO x := by simp [longB]
theorem add_is4 {t d x : Int} {w : World} (h : addC t d = x) : Calls Tryd.prog 18 #[.int .i64 t, .int .i64 d] w fun e w' => e = .returned (.int .i64 x) ∧ w = w' := by
  rw [← h]; exact add_any t d w
set_option maxRecDepth 100000 in
set_option maxHeartbeats 8000000 in
theorem fits_any (w : World) (life : Int) (A : Option Addr) (n c : Nat) (l : List Opc) (x : Opc) (Ax : Option Addr) (dx : Nat) (g : Gr) (Ag : Option Addr) (dg : Nat) (now : Int) (hs : Os w A n c l) (hsx : Ss w Ax x.g.scopes.length dx x.g.scopes) (hsg : Ss w Ag g.scopes.length dg g.scopes) (hm : MX w) (hd : DG w) :
    Calls Tryd.prog 4 #[.int .i64 life, .slice A n c, .agg #[.int .i64 x.kind, .string x.code, .string x.cl, .string x.rd, .string x.ver, .string x.g.user, .string x.g.client, .string x.g.tenant, .string x.g.session, .string x.g.redirect, .string x.g.nonce, .string x.g.challenge, .int .i64 x.g.method, .slice Ax x.g.scopes.length dx, .int .i64 x.g.auth, .int .i64 x.g.level, .int .i64 x.now], .agg #[.string g.user, .string g.client, .string g.tenant, .string g.session, .string g.redirect, .string g.nonce, .string g.challenge, .int .i64 g.method, .slice Ag g.scopes.length dg, .int .i64 g.auth, .int .i64 g.level], .int .i64 now] w fun e w' => e = .returned (.bool true) ∧ Below w.heap.size w w' := by
  obtain ⟨w0, hw0⟩ : ∃ w', w' = (w.alloc (.cells #[.int .i64 x.kind, .string x.code, .string x.cl, .string x.rd, .string x.ver, .string x.g.user, .string x.g.client, .string x.g.tenant, .string x.g.session, .string x.g.redirect, .string x.g.nonce, .string x.g.challenge, .int .i64 x.g.method, .slice Ax x.g.scopes.length dx, .int .i64 x.g.auth, .int .i64 x.g.level, .int .i64 x.now] 35)).alloc (.cells #[.string g.user, .string g.client, .string g.tenant, .string g.session, .string g.redirect, .string g.nonce, .string g.challenge, .int .i64 g.method, .slice Ag g.scopes.length dg, .int .i64 g.auth, .int .i64 g.level] 26) := ⟨_, rfl⟩
  have hb0 : Below w.heap.size w w0 := by rw [hw0]; go_grown
  have HX0 := Lib.hid (show w0.heap[w.heap.size + 1]? = some (.cells #[.string g.user, .string g.client, .string g.tenant, .string g.session, .string g.redirect, .string g.nonce, .string g.challenge, .int .i64 g.method, .slice Ag g.scopes.length dg, .int .i64 g.auth, .int .i64 g.level] 26 (0, 0)) by
    rw [hw0]
    have e : w.heap.size + 1 = (w.alloc (.cells #[.int .i64 x.kind, .string x.code, .string x.cl, .string x.rd, .string x.ver, .string x.g.user, .string x.g.client, .string x.g.tenant, .string x.g.session, .string x.g.redirect, .string x.g.nonce, .string x.g.challenge, .int .i64 x.g.method, .slice Ax x.g.scopes.length dx, .int .i64 x.g.auth, .int .i64 x.g.level, .int .i64 x.now] 35)).heap.size := by simp
    rw [e]; exact heap_alloc_new _ _)
  have HXO := Lib.hid (show w0.heap[w.heap.size]? = some (.cells #[.int .i64 x.kind, .string x.code, .string x.cl, .string x.rd, .string x.ver, .string x.g.user, .string x.g.client, .string x.g.tenant, .string x.g.session, .string x.g.redirect, .string x.g.nonce, .string x.g.challenge, .int .i64 x.g.method, .slice Ax x.g.scopes.length dx, .int .i64 x.g.auth, .int .i64 x.g.level, .int .i64 x.now] 35 (0, 0)) by rw [hw0, Below.heap_alloc _ _ _ (by simp)]; exact heap_alloc_new _ _)
  have HS := Lib.hid (hs.below hb0)
  have HSX := Lib.hid (hsx.below hb0)
  have HSG := Lib.hid (hsg.below hb0)
  have HM := Lib.hid (hm.below hb0)
  have HD := Lib.hid (hd.below hb0)
  have HP := Lib.hid (hm.below hb0).pos
  have FIN := Lib.hid (fun (w' : World) (h : Below w0.heap.size w0 w') => hb0.trans (h.mono hb0.size))
  have HB0 := Lib.hid (Below.refl w0.heap.size w0)
  clear hs hsx hsg hm hd hb0
  go_enter Tryd.func4, Tryd.ntmps4
  go_upto_region 1 with fail
  rw [← hw0]
  clear hw0
  go_wp2_with fail
  refine (live_any w0 HM.out HD.out).mono ?_
  rintro e w1 ⟨rfl, hb⟩
  have HB1 := Lib.hid (HB0.out.trans (hb.mono HB0.out.size))
  clear hb
  cases hl1 : longB l 12 with
  | true =>
    have HL1 := Lib.hid hl1
    clear hl1
    go_wp2_with fail
    refine (long_is (HS.out.below HB1.out) (by omega) HL1.out).mono ?_
    rintro e w2 ⟨rfl, hb⟩
    have HB2 := Lib.hid (HB1.out.trans (hb.mono HB1.out.size))
    clear hb
    go_wp2
    go_ret
    exact ⟨rfl, FIN.out _ HB2.out⟩
  | false =>
    have HL1 := Lib.hid hl1
    clear hl1
    go_wp2_with fail
    refine (long_is (HS.out.below HB1.out) (by omega) HL1.out).mono ?_
    rintro e w2 ⟨rfl, hb⟩
    have HB2 := Lib.hid (HB1.out.trans (hb.mono HB1.out.size))
    clear hb
    cases hl2 : greatO x with
    | true =>
      have HL2 := Lib.hid hl2
      clear hl2
      have HXO2 := Lib.hid (blk_below HB2.out HXO.out)
      obtain ⟨z0, z1, z2, z3, z4, z5, z6, z7, z8, z9, z10, z11, z12, z13, z14, z15, z16⟩ := cells17 HXO2.out
      go_wp2_with fail
      obtain ⟨w2b, hw2b⟩ : ∃ w', w' = w2.alloc (.cells #[.int .i64 x.kind, .string x.code, .string x.cl, .string x.rd, .string x.ver, .string x.g.user, .string x.g.client, .string x.g.tenant, .string x.g.session, .string x.g.redirect, .string x.g.nonce, .string x.g.challenge, .int .i64 x.g.method, .slice Ax x.g.scopes.length dx, .int .i64 x.g.auth, .int .i64 x.g.level, .int .i64 x.now] 35) := ⟨_, rfl⟩
      have hb2 : Below w2.heap.size w2 w2b := by rw [hw2b]; go_grown
      have HB2B := Lib.hid (HB2.out.trans (hb2.mono HB2.out.size))
      have HQ2 := Lib.hid (show w2b.heap[w2.heap.size]? = some (.cells #[.int .i64 x.kind, .string x.code, .string x.cl, .string x.rd, .string x.ver, .string x.g.user, .string x.g.client, .string x.g.tenant, .string x.g.session, .string x.g.redirect, .string x.g.nonce, .string x.g.challenge, .int .i64 x.g.method, .slice Ax x.g.scopes.length dx, .int .i64 x.g.auth, .int .i64 x.g.level, .int .i64 x.now] 35 (0, 0)) by rw [hw2b]; exact heap_alloc_new _ _)
      rw [← hw2b]
      clear hw2b hb2
      refine (long_is (os_one HQ2.out (HSX.out.below HB2B.out)) (by omega) ((long_one x).trans HL2.out)).mono ?_
      rintro e w3 ⟨rfl, hb⟩
      have HB3 := Lib.hid (HB2B.out.trans (hb.mono HB2B.out.size))
      clear hb z0 z1 z2 z3 z4 z5 z6 z7 z8 z9 z10 z11 z12 z13 z14 z15 z16 HXO2
      go_wp2
      go_ret
      exact ⟨rfl, FIN.out _ HB3.out⟩
    | false =>
      have HL2 := Lib.hid hl2
      clear hl2
      have HXO2 := Lib.hid (blk_below HB2.out HXO.out)
      obtain ⟨z0, z1, z2, z3, z4, z5, z6, z7, z8, z9, z10, z11, z12, z13, z14, z15, z16⟩ := cells17 HXO2.out
      go_wp2_with fail
      obtain ⟨w2b, hw2b⟩ : ∃ w', w' = w2.alloc (.cells #[.int .i64 x.kind, .string x.code, .string x.cl, .string x.rd, .string x.ver, .string x.g.user, .string x.g.client, .string x.g.tenant, .string x.g.session, .string x.g.redirect, .string x.g.nonce, .string x.g.challenge, .int .i64 x.g.method, .slice Ax x.g.scopes.length dx, .int .i64 x.g.auth, .int .i64 x.g.level, .int .i64 x.now] 35) := ⟨_, rfl⟩
      have hb2 : Below w2.heap.size w2 w2b := by rw [hw2b]; go_grown
      have HB2B := Lib.hid (HB2.out.trans (hb2.mono HB2.out.size))
      have HQ2 := Lib.hid (show w2b.heap[w2.heap.size]? = some (.cells #[.int .i64 x.kind, .string x.code, .string x.cl, .string x.rd, .string x.ver, .string x.g.user, .string x.g.client, .string x.g.tenant, .string x.g.session, .string x.g.redirect, .string x.g.nonce, .string x.g.challenge, .int .i64 x.g.method, .slice Ax x.g.scopes.length dx, .int .i64 x.g.auth, .int .i64 x.g.level, .int .i64 x.now] 35 (0, 0)) by rw [hw2b]; exact heap_alloc_new _ _)
      rw [← hw2b]
      clear hw2b hb2
      refine (long_is (os_one HQ2.out (HSX.out.below HB2B.out)) (by omega) ((long_one x).trans HL2.out)).mono ?_
      rintro e w3 ⟨rfl, hb⟩
      have HB3 := Lib.hid (HB2B.out.trans (hb.mono HB2B.out.size))
      clear hb z0 z1 z2 z3 z4 z5 z6 z7 z8 z9 z10 z11 z12 z13 z14 z15 z16 HXO2
      have HX3 := Lib.hid (blk_below HB3.out HX0.out)
      obtain ⟨y0, y1, y2, y3, y4, y5, y6, y7, y8, y9, y10⟩ := cells11 HX3.out
      cases hl3 : greatG g with
      | true =>
        have HL3 := Lib.hid hl3
        clear hl3
        go_wp2_with fail
        refine (greatg_is (HSG.out.below HB3.out) HL3.out).mono ?_
        rintro e w4 ⟨rfl, hb⟩
        have HB4 := Lib.hid (HB3.out.trans (hb.mono HB3.out.size))
        clear hb
        go_wp2
        go_ret
        exact ⟨rfl, FIN.out _ HB4.out⟩
      | false =>
        have HL3 := Lib.hid hl3
        clear hl3
        go_wp2_with fail
        refine (greatg_is (HSG.out.below HB3.out) HL3.out).mono ?_
        rintro e w4 ⟨rfl, hb⟩
        have HB4 := Lib.hid (HB3.out.trans (hb.mono HB3.out.size))
        clear hb
        clear y0 y1 y2 y3 y4 y5 y6 y7 y8 y9 y10
        obtain ⟨hz1, hz2, hz3, hz4, _⟩ := great_parts HL2.out
        go_wp2_with fail
        refine (run_any w4 life A n c l 12 (HS.out.below HB4.out) HL1.out (by omega) (HM.out.below HB4.out) (HD.out.below HB4.out)).mono ?_
        rintro e w5 (⟨hlf, rfl, hb⟩ | ⟨hlf, F, st, rfl, hr, hlf2, hb⟩)
        · have HB5 := Lib.hid (HB4.out.trans (hb.mono HB4.out.size))
          clear hlf hb
          go_wp2
          go_ret
          exact ⟨rfl, FIN.out _ HB5.out⟩
        have HLF := Lib.hid hlf
        have HLF2 := Lib.hid hlf2
        have HB5 := Lib.hid (HB4.out.trans (hb.mono HB4.out.size))
        have HR5 := Lib.hid (hr.mono (T' := (fun k => w0.heap.size ≤ k)) (fun k _ e => Nat.le_trans HB4.out.size e))
        have HX5 := Lib.hid (blk_below HB5.out HX0.out)
        clear hlf hlf2 hb hr
        have HXO5 := Lib.hid (blk_below HB5.out HXO.out)
        obtain ⟨_, z1, _, _, _, _, _, _, _, _, _, _, _, _, _, _, _⟩ := cells17 HXO5.out
        obtain ⟨y0, y1, y2, y3, y4, y5, y6, y7, y8, y9, y10⟩ := cells11 HX5.out
        obtain ⟨⟨st1, er⟩, hri⟩ : ∃ r, iss st x.code g now = r := ⟨_, rfl⟩
        have HRI := Lib.hid hri
        by_cases her : er = 0
        · subst her
          go_wp2_with fail
          refine (iss_b HR5.out (fun k hk => Nat.le_trans HB5.out.size hk) x.code g Ag dg now hri (by omega) (gg_big HL3.out) (HSG.out.below HB5.out) (gg_parts HL3.out).2.2 (by have := (gg_parts HL3.out).2.1; omega) (HM.out.below HB5.out)).mono ?_
          rintro e w6 ⟨rfl, hr, hm⟩
          have HR6 := Lib.hid hr
          have HB6 := Lib.hid (HB5.out.trans (hm.toBelow HB5.out.size (fun _ h => h)))
          have HX6 := Lib.hid (blk_below HB6.out HX0.out)
          clear hr hm z1 HXO5 y0 y1 y2 y3 y4 y5 y6 y7 y8 y9 y10
          clear hri
          have HV1 := Lib.hid HR6.out.inv
          have HXO6 := Lib.hid (blk_below HB6.out HXO.out)
          obtain ⟨_, z1, z2, z3, z4, _, _, _, _, _, _, _, _, _, _, _, z16⟩ := cells17 HXO6.out
          obtain ⟨⟨st2, gr, e2⟩, hrd⟩ : ∃ r, red st1 x.code x.cl x.rd (prv x.ver) x.now = r := ⟨_, rfl⟩
          have HRD := Lib.hid hrd
          go_wp2_with fail
          refine (red_b HR6.out x.code x.cl x.rd x.ver x.now hrd (by omega) (by omega) (HD.out.below HB6.out) (by have := HP.out; omega)).mono ?_
          rintro e w7 ⟨A7, d7, rfl, hss, _, hr, hm⟩
          have HSS := Lib.hid hss
          have HB7 := Lib.hid (HB6.out.trans (hm.toBelow HB6.out.size (fun _ h => h)))
          clear hss hr hm hrd z1 z2 z3 z4 z16 HXO6
          go_upto_region 9 with fail
          obtain ⟨w8, hw⟩ : ∃ w', w' = w7.alloc (.cells #[.string gr.user, .string gr.client, .string gr.tenant, .string gr.session, .string gr.redirect, .string gr.nonce, .string gr.challenge, .int .i64 gr.method, .slice A7 gr.scopes.length d7, .int .i64 gr.auth, .int .i64 gr.level] 26) := ⟨_, rfl⟩
          have hb8 : Below w7.heap.size w7 w8 := by rw [hw]; go_grown
          rw [← hw]
          have HQ := Lib.hid (show w8.heap[w7.heap.size]? = some (.cells #[.string gr.user, .string gr.client, .string gr.tenant, .string gr.session, .string gr.redirect, .string gr.nonce, .string gr.challenge, .int .i64 gr.method, .slice A7 gr.scopes.length d7, .int .i64 gr.auth, .int .i64 gr.level] 26 (0, 0)) by rw [hw]; exact heap_alloc_new _ _)
          have HB8 := Lib.hid (HB7.out.trans (hb8.mono HB7.out.size))
          have HSS8 := Lib.hid (HSS.out.below hb8)
          have HX8 := Lib.hid (blk_below HB8.out HX0.out)
          clear hw hb8
          by_cases he2 : e2 = 0
          · subst he2
            obtain ⟨k1, k2, k3, k4, k5, k6⟩ := fits_ok HLF2.out HRI.out HV1.out HRD.out
            subst k1
            have hc1 : (x.cl.toList == gr.client.toList) = true := by rw [beq_bs]; simpa using k2
            have hc2 : (x.rd.toList == gr.redirect.toList) = true := by rw [beq_bs]; simpa using k3
            obtain ⟨a1, ha1⟩ : ∃ a, addC x.now 0 = a := ⟨_, rfl⟩
            obtain ⟨a2, ha2⟩ : ∃ a, addC now life = a := ⟨_, rfl⟩
            have hlt : a1 < a2 := by rw [← ha1, ← ha2, addC_zero]; omega
            have HA1 := Lib.hid ha1
            have HA2 := Lib.hid ha2
            have HK4 := Lib.hid k4
            have HK6 := Lib.hid k6
            clear ha1 ha2 k2 k3 k4 k5 k6
            have HXO8 := Lib.hid (blk_below HB8.out HXO.out)
            obtain ⟨_, _, z2, z3, z4, _, _, _, _, _, _, _, _, _, _, _, z16⟩ := cells17 HXO8.out
            obtain ⟨y0, y1, y2, y3, y4, y5, y6, y7, y8, y9, y10⟩ := cells11 HX8.out
            obtain ⟨u0, u1, u2, u3, u4, u5, u6, u7, u8, u9, u10⟩ := cells11 HQ.out
            by_cases hch : gr.challenge = eB
            · have hve : x.ver = eB := by
                have := HK4.out
                unfold prv at this
                rw [if_pos hch] at this
                simpa using this
              obtain ⟨hv1, hv2⟩ := empty_yes hve
              obtain ⟨hc3, hc4⟩ := empty_yes hch
              clear hve hch
              go_wp2_with fail
              refine (same_yes gr.user gr.client gr.tenant gr.session gr.redirect gr.nonce gr.challenge gr.method gr.auth gr.level A7 Ag gr.scopes.length d7 dg gr.scopes w8 HSS8.out (HSG.out.below HB8.out) (by have := (gg_parts HL3.out).2.1; omega)).mono ?_
              rintro e w9 ⟨rfl, hb⟩
              have HB9 := Lib.hid (HB8.out.trans (hb.mono HB8.out.size))
              have HX9 := Lib.hid (blk_below hb HX8.out)
              clear hb y0 y1 y2 y3 y4 y5 y6 y7 y8 y9 y10 u0 u1 u2 u3 u4 u5 u6 u7 u8 u9 u10 z2 z3 z4 z16
              have HXO9 := Lib.hid (blk_below HB9.out HXO.out)
              obtain ⟨_, _, z2, z3, _, _, _, _, _, _, _, _, _, _, _, _, z16⟩ := cells17 HXO9.out
              obtain ⟨y0, y1, y2, y3, y4, y5, y6, y7, y8, y9, y10⟩ := cells11 HX9.out
              go_wp2_with fail
              refine (add_is4 HA1.out).mono ?_
              rintro e wx ⟨rfl, rfl⟩
              go_wp2_with fail
              refine (add_is4 HA2.out).mono ?_
              rintro e wx ⟨rfl, rfl⟩
              go_wp2
              go_ret
              exact ⟨rfl, FIN.out _ HB9.out⟩
            · have hck : chkP gr.method gr.challenge x.ver = 0 := by
                have := HK4.out
                unfold prv at this
                rw [if_neg hch] at this
                simpa using this
              have hmt := frm_method HK6.out hch
              obtain ⟨hc3, hc4⟩ := empty_no hch
              clear hch
              obtain ⟨tv, htv⟩ : ∃ b, x.ver.toList.isEmpty = b := ⟨_, rfl⟩
              have htv2 : (x.ver.toList == []) = tv := by rw [← htv]; cases x.ver.toList <;> rfl
              go_wp2_with fail
              refine (chk_any gr.method hmt gr.challenge x.ver w8 (by omega) (HD.out.below HB8.out) hck).mono ?_
              rintro e w9 ⟨rfl, hb⟩
              have HB9 := Lib.hid (HB8.out.trans (hb.mono HB8.out.size))
              have HSS9 := Lib.hid (HSS8.out.below hb)
              have HX9 := Lib.hid (blk_below hb HX8.out)
              have HQ9 := Lib.hid (blk_below hb HQ.out)
              clear hb y0 y1 y2 y3 y4 y5 y6 y7 y8 y9 y10 u0 u1 u2 u3 u4 u5 u6 u7 u8 u9 u10 z2 z3 z4 z16
              have HXO9 := Lib.hid (blk_below HB9.out HXO.out)
              obtain ⟨_, _, z2, z3, z4, _, _, _, _, _, _, _, _, _, _, _, z16⟩ := cells17 HXO9.out
              obtain ⟨y0, y1, y2, y3, y4, y5, y6, y7, y8, y9, y10⟩ := cells11 HX9.out
              obtain ⟨u0, u1, u2, u3, u4, u5, u6, u7, u8, u9, u10⟩ := cells11 HQ9.out
              go_wp2_with fail
              refine (same_yes gr.user gr.client gr.tenant gr.session gr.redirect gr.nonce gr.challenge gr.method gr.auth gr.level A7 Ag gr.scopes.length d7 dg gr.scopes w9 HSS9.out (HSG.out.below HB9.out) (by have := (gg_parts HL3.out).2.1; omega)).mono ?_
              rintro e w10 ⟨rfl, hb⟩
              have HB10 := Lib.hid (HB9.out.trans (hb.mono HB9.out.size))
              have HX10 := Lib.hid (blk_below hb HX9.out)
              clear hb y0 y1 y2 y3 y4 y5 y6 y7 y8 y9 y10 u0 u1 u2 u3 u4 u5 u6 u7 u8 u9 u10 z2 z3 z4 z16
              have HXO10 := Lib.hid (blk_below HB10.out HXO.out)
              obtain ⟨_, _, z2, z3, _, _, _, _, _, _, _, _, _, _, _, _, z16⟩ := cells17 HXO10.out
              obtain ⟨y0, y1, y2, y3, y4, y5, y6, y7, y8, y9, y10⟩ := cells11 HX10.out
              go_wp2_with fail
              refine (add_is4 HA1.out).mono ?_
              rintro e wx ⟨rfl, rfl⟩
              go_wp2_with fail
              refine (add_is4 HA2.out).mono ?_
              rintro e wx ⟨rfl, rfl⟩
              go_wp2
              go_ret
              exact ⟨rfl, FIN.out _ HB10.out⟩
          · have hg0 := fits_no HRD.out he2
            subst hg0
            have hre2 : (e2 == 0) = false := beq_eq_false_iff_ne.2 he2
            obtain ⟨u0, u1, u2, u3, u4, u5, u6, u7, u8, u9, u10⟩ := cells11 (show w8.heap[w7.heap.size]? = some (.cells #[.string ⟨#[]⟩, .string ⟨#[]⟩, .string ⟨#[]⟩, .string ⟨#[]⟩, .string ⟨#[]⟩, .string ⟨#[]⟩, .string ⟨#[]⟩, .int .i64 0, .slice A7 0 d7, .int .i64 0, .int .i64 0] 26 (0, 0)) from HQ.out)
            go_wp2_with fail
            refine (same_yes ⟨#[]⟩ ⟨#[]⟩ ⟨#[]⟩ ⟨#[]⟩ ⟨#[]⟩ ⟨#[]⟩ ⟨#[]⟩ 0 0 0 A7 none 0 d7 0 [] _ (Ss.nil _ _ _) (Ss.nil _ _ _) (by omega)).mono ?_
            rintro e w9 ⟨rfl, hb⟩
            have HB9 := Lib.hid (HB8.out.trans (hb.mono HB8.out.size))
            clear hb u0 u1 u2 u3 u4 u5 u6 u7 u8 u9 u10
            go_wp2
            go_ret
            exact ⟨rfl, FIN.out _ HB9.out⟩
        · have hern : (er == 0) = false := beq_eq_false_iff_ne.2 her
          go_wp2_with fail
          refine (iss_b HR5.out (fun k hk => Nat.le_trans HB5.out.size hk) x.code g Ag dg now hri (by omega) (gg_big HL3.out) (HSG.out.below HB5.out) (gg_parts HL3.out).2.2 (by have := (gg_parts HL3.out).2.1; omega) (HM.out.below HB5.out)).mono ?_
          rintro e w6 ⟨rfl, hr, hm⟩
          have HR6 := Lib.hid hr
          have HB6 := Lib.hid (HB5.out.trans (hm.toBelow HB5.out.size (fun _ h => h)))
          have HX6 := Lib.hid (blk_below HB6.out HX0.out)
          clear hr hm z1 HXO5 y0 y1 y2 y3 y4 y5 y6 y7 y8 y9 y10
          clear hri
          go_wp2
          go_ret
          exact ⟨rfl, FIN.out _ HB6.out⟩
set_option maxRecDepth 100000 in
set_option maxHeartbeats 8000000 in
theorem tries_any (w : World) (life : Int) (A : Option Addr) (n c : Nat) (l : List Opc) (x : Opc) (Ax : Option Addr) (dx : Nat) (g : Gr) (Ag : Option Addr) (dg : Nat) (now : Int) (hs : Os w A n c l) (hsx : Ss w Ax x.g.scopes.length dx x.g.scopes) (hsg : Ss w Ag g.scopes.length dg g.scopes) (hm : MX w) (hd : DG w) :
    Calls Tryd.prog 6 #[.int .i64 life, .slice A n c, .agg #[.int .i64 x.kind, .string x.code, .string x.cl, .string x.rd, .string x.ver, .string x.g.user, .string x.g.client, .string x.g.tenant, .string x.g.session, .string x.g.redirect, .string x.g.nonce, .string x.g.challenge, .int .i64 x.g.method, .slice Ax x.g.scopes.length dx, .int .i64 x.g.auth, .int .i64 x.g.level, .int .i64 x.now], .agg #[.string g.user, .string g.client, .string g.tenant, .string g.session, .string g.redirect, .string g.nonce, .string g.challenge, .int .i64 g.method, .slice Ag g.scopes.length dg, .int .i64 g.auth, .int .i64 g.level], .int .i64 now] w fun e w' => e = .returned (.bool true) ∧ Below w.heap.size w w' := by
  obtain ⟨w0, hw0⟩ : ∃ w', w' = (w.alloc (.cells #[.int .i64 x.kind, .string x.code, .string x.cl, .string x.rd, .string x.ver, .string x.g.user, .string x.g.client, .string x.g.tenant, .string x.g.session, .string x.g.redirect, .string x.g.nonce, .string x.g.challenge, .int .i64 x.g.method, .slice Ax x.g.scopes.length dx, .int .i64 x.g.auth, .int .i64 x.g.level, .int .i64 x.now] 35)).alloc (.cells #[.string g.user, .string g.client, .string g.tenant, .string g.session, .string g.redirect, .string g.nonce, .string g.challenge, .int .i64 g.method, .slice Ag g.scopes.length dg, .int .i64 g.auth, .int .i64 g.level] 26) := ⟨_, rfl⟩
  have hb0 : Below w.heap.size w w0 := by rw [hw0]; go_grown
  have HX0 := Lib.hid (show w0.heap[w.heap.size + 1]? = some (.cells #[.string g.user, .string g.client, .string g.tenant, .string g.session, .string g.redirect, .string g.nonce, .string g.challenge, .int .i64 g.method, .slice Ag g.scopes.length dg, .int .i64 g.auth, .int .i64 g.level] 26 (0, 0)) by
    rw [hw0]
    have e : w.heap.size + 1 = (w.alloc (.cells #[.int .i64 x.kind, .string x.code, .string x.cl, .string x.rd, .string x.ver, .string x.g.user, .string x.g.client, .string x.g.tenant, .string x.g.session, .string x.g.redirect, .string x.g.nonce, .string x.g.challenge, .int .i64 x.g.method, .slice Ax x.g.scopes.length dx, .int .i64 x.g.auth, .int .i64 x.g.level, .int .i64 x.now] 35)).heap.size := by simp
    rw [e]; exact heap_alloc_new _ _)
  have HXO := Lib.hid (show w0.heap[w.heap.size]? = some (.cells #[.int .i64 x.kind, .string x.code, .string x.cl, .string x.rd, .string x.ver, .string x.g.user, .string x.g.client, .string x.g.tenant, .string x.g.session, .string x.g.redirect, .string x.g.nonce, .string x.g.challenge, .int .i64 x.g.method, .slice Ax x.g.scopes.length dx, .int .i64 x.g.auth, .int .i64 x.g.level, .int .i64 x.now] 35 (0, 0)) by rw [hw0, Below.heap_alloc _ _ _ (by simp)]; exact heap_alloc_new _ _)
  have HS := Lib.hid (hs.below hb0)
  have HSX := Lib.hid (hsx.below hb0)
  have HSG := Lib.hid (hsg.below hb0)
  have HM := Lib.hid (hm.below hb0)
  have HD := Lib.hid (hd.below hb0)
  have HP := Lib.hid (hm.below hb0).pos
  have FIN := Lib.hid (fun (w' : World) (h : Below w0.heap.size w0 w') => hb0.trans (h.mono hb0.size))
  have HB0 := Lib.hid (Below.refl w0.heap.size w0)
  clear hs hsx hsg hm hd hb0
  go_enter Tryd.func6, Tryd.ntmps6
  go_upto_region 1 with fail
  rw [← hw0]
  clear hw0
  go_wp2_with fail
  refine (live_any w0 HM.out HD.out).mono ?_
  rintro e w1 ⟨rfl, hb⟩
  have HB1 := Lib.hid (HB0.out.trans (hb.mono HB0.out.size))
  clear hb
  cases hl1 : longB l 12 with
  | true =>
    have HL1 := Lib.hid hl1
    clear hl1
    go_wp2_with fail
    refine (long_is (HS.out.below HB1.out) (by omega) HL1.out).mono ?_
    rintro e w2 ⟨rfl, hb⟩
    have HB2 := Lib.hid (HB1.out.trans (hb.mono HB1.out.size))
    clear hb
    go_wp2
    go_ret
    exact ⟨rfl, FIN.out _ HB2.out⟩
  | false =>
    have HL1 := Lib.hid hl1
    clear hl1
    go_wp2_with fail
    refine (long_is (HS.out.below HB1.out) (by omega) HL1.out).mono ?_
    rintro e w2 ⟨rfl, hb⟩
    have HB2 := Lib.hid (HB1.out.trans (hb.mono HB1.out.size))
    clear hb
    cases hl2 : greatO x with
    | true =>
      have HL2 := Lib.hid hl2
      clear hl2
      have HXO2 := Lib.hid (blk_below HB2.out HXO.out)
      obtain ⟨z0, z1, z2, z3, z4, z5, z6, z7, z8, z9, z10, z11, z12, z13, z14, z15, z16⟩ := cells17 HXO2.out
      go_wp2_with fail
      obtain ⟨w2b, hw2b⟩ : ∃ w', w' = w2.alloc (.cells #[.int .i64 x.kind, .string x.code, .string x.cl, .string x.rd, .string x.ver, .string x.g.user, .string x.g.client, .string x.g.tenant, .string x.g.session, .string x.g.redirect, .string x.g.nonce, .string x.g.challenge, .int .i64 x.g.method, .slice Ax x.g.scopes.length dx, .int .i64 x.g.auth, .int .i64 x.g.level, .int .i64 x.now] 35) := ⟨_, rfl⟩
      have hb2 : Below w2.heap.size w2 w2b := by rw [hw2b]; go_grown
      have HB2B := Lib.hid (HB2.out.trans (hb2.mono HB2.out.size))
      have HQ2 := Lib.hid (show w2b.heap[w2.heap.size]? = some (.cells #[.int .i64 x.kind, .string x.code, .string x.cl, .string x.rd, .string x.ver, .string x.g.user, .string x.g.client, .string x.g.tenant, .string x.g.session, .string x.g.redirect, .string x.g.nonce, .string x.g.challenge, .int .i64 x.g.method, .slice Ax x.g.scopes.length dx, .int .i64 x.g.auth, .int .i64 x.g.level, .int .i64 x.now] 35 (0, 0)) by rw [hw2b]; exact heap_alloc_new _ _)
      rw [← hw2b]
      clear hw2b hb2
      refine (long_is (os_one HQ2.out (HSX.out.below HB2B.out)) (by omega) ((long_one x).trans HL2.out)).mono ?_
      rintro e w3 ⟨rfl, hb⟩
      have HB3 := Lib.hid (HB2B.out.trans (hb.mono HB2B.out.size))
      clear hb z0 z1 z2 z3 z4 z5 z6 z7 z8 z9 z10 z11 z12 z13 z14 z15 z16 HXO2
      go_wp2
      go_ret
      exact ⟨rfl, FIN.out _ HB3.out⟩
    | false =>
      have HL2 := Lib.hid hl2
      clear hl2
      have HXO2 := Lib.hid (blk_below HB2.out HXO.out)
      obtain ⟨z0, z1, z2, z3, z4, z5, z6, z7, z8, z9, z10, z11, z12, z13, z14, z15, z16⟩ := cells17 HXO2.out
      go_wp2_with fail
      obtain ⟨w2b, hw2b⟩ : ∃ w', w' = w2.alloc (.cells #[.int .i64 x.kind, .string x.code, .string x.cl, .string x.rd, .string x.ver, .string x.g.user, .string x.g.client, .string x.g.tenant, .string x.g.session, .string x.g.redirect, .string x.g.nonce, .string x.g.challenge, .int .i64 x.g.method, .slice Ax x.g.scopes.length dx, .int .i64 x.g.auth, .int .i64 x.g.level, .int .i64 x.now] 35) := ⟨_, rfl⟩
      have hb2 : Below w2.heap.size w2 w2b := by rw [hw2b]; go_grown
      have HB2B := Lib.hid (HB2.out.trans (hb2.mono HB2.out.size))
      have HQ2 := Lib.hid (show w2b.heap[w2.heap.size]? = some (.cells #[.int .i64 x.kind, .string x.code, .string x.cl, .string x.rd, .string x.ver, .string x.g.user, .string x.g.client, .string x.g.tenant, .string x.g.session, .string x.g.redirect, .string x.g.nonce, .string x.g.challenge, .int .i64 x.g.method, .slice Ax x.g.scopes.length dx, .int .i64 x.g.auth, .int .i64 x.g.level, .int .i64 x.now] 35 (0, 0)) by rw [hw2b]; exact heap_alloc_new _ _)
      rw [← hw2b]
      clear hw2b hb2
      refine (long_is (os_one HQ2.out (HSX.out.below HB2B.out)) (by omega) ((long_one x).trans HL2.out)).mono ?_
      rintro e w3 ⟨rfl, hb⟩
      have HB3 := Lib.hid (HB2B.out.trans (hb.mono HB2B.out.size))
      clear hb z0 z1 z2 z3 z4 z5 z6 z7 z8 z9 z10 z11 z12 z13 z14 z15 z16 HXO2
      have HX3 := Lib.hid (blk_below HB3.out HX0.out)
      obtain ⟨y0, y1, y2, y3, y4, y5, y6, y7, y8, y9, y10⟩ := cells11 HX3.out
      cases hl3 : greatG g with
      | true =>
        have HL3 := Lib.hid hl3
        clear hl3
        go_wp2_with fail
        refine (greatg_is (HSG.out.below HB3.out) HL3.out).mono ?_
        rintro e w4 ⟨rfl, hb⟩
        have HB4 := Lib.hid (HB3.out.trans (hb.mono HB3.out.size))
        clear hb
        go_wp2
        go_ret
        exact ⟨rfl, FIN.out _ HB4.out⟩
      | false =>
        have HL3 := Lib.hid hl3
        clear hl3
        go_wp2_with fail
        refine (greatg_is (HSG.out.below HB3.out) HL3.out).mono ?_
        rintro e w4 ⟨rfl, hb⟩
        have HB4 := Lib.hid (HB3.out.trans (hb.mono HB3.out.size))
        clear hb
        clear y0 y1 y2 y3 y4 y5 y6 y7 y8 y9 y10
        obtain ⟨hz1, hz2, hz3, hz4, _⟩ := great_parts HL2.out
        go_wp2_with fail
        refine (run_any w4 life A n c l 12 (HS.out.below HB4.out) HL1.out (by omega) (HM.out.below HB4.out) (HD.out.below HB4.out)).mono ?_
        rintro e w5 (⟨hlf, rfl, hb⟩ | ⟨hlf, F, st, rfl, hr, hlf2, hb⟩)
        · have HB5 := Lib.hid (HB4.out.trans (hb.mono HB4.out.size))
          clear hlf hb
          go_wp2
          go_ret
          exact ⟨rfl, FIN.out _ HB5.out⟩
        have HLF := Lib.hid hlf
        have HLF2 := Lib.hid hlf2
        have HB5 := Lib.hid (HB4.out.trans (hb.mono HB4.out.size))
        have HR5 := Lib.hid (hr.mono (T' := (fun k => w0.heap.size ≤ k)) (fun k _ e => Nat.le_trans HB4.out.size e))
        have HX5 := Lib.hid (blk_below HB5.out HX0.out)
        clear hlf hlf2 hb hr
        have HXO5 := Lib.hid (blk_below HB5.out HXO.out)
        obtain ⟨_, z1, _, _, _, _, _, _, _, _, _, _, _, _, _, _, _⟩ := cells17 HXO5.out
        obtain ⟨y0, y1, y2, y3, y4, y5, y6, y7, y8, y9, y10⟩ := cells11 HX5.out
        obtain ⟨⟨st1, er⟩, hri⟩ : ∃ r, iss st x.code g now = r := ⟨_, rfl⟩
        have HRI := Lib.hid hri
        by_cases her : er = 0
        · subst her
          go_wp2_with fail
          refine (iss_b HR5.out (fun k hk => Nat.le_trans HB5.out.size hk) x.code g Ag dg now hri (by omega) (gg_big HL3.out) (HSG.out.below HB5.out) (gg_parts HL3.out).2.2 (by have := (gg_parts HL3.out).2.1; omega) (HM.out.below HB5.out)).mono ?_
          rintro e w6 ⟨rfl, hr, hm⟩
          have HR6 := Lib.hid hr
          have HB6 := Lib.hid (HB5.out.trans (hm.toBelow HB5.out.size (fun _ h => h)))
          have HX6 := Lib.hid (blk_below HB6.out HX0.out)
          clear hr hm z1 HXO5 y0 y1 y2 y3 y4 y5 y6 y7 y8 y9 y10
          clear hri
          have HV1 := Lib.hid HR6.out.inv
          have HXO6 := Lib.hid (blk_below HB6.out HXO.out)
          obtain ⟨_, z1, z2, z3, z4, _, _, _, _, _, _, _, _, _, _, _, z16⟩ := cells17 HXO6.out
          obtain ⟨⟨st2, gr, e2⟩, hrd⟩ : ∃ r, red st1 x.code x.cl x.rd (prv x.ver) now = r := ⟨_, rfl⟩
          have HRD := Lib.hid hrd
          go_wp2_with fail
          refine (red_b HR6.out x.code x.cl x.rd x.ver now hrd (by omega) (by omega) (HD.out.below HB6.out) (by have := HP.out; omega)).mono ?_
          rintro e w7 ⟨A7, d7, rfl, _, _, hr, hm⟩
          have HR7 := Lib.hid (hr.mono (T' := (fun k => w0.heap.size ≤ k)) (fun k _ e => e.1))
          have HB7 := Lib.hid (HB6.out.trans (hm.toBelow HB6.out.size (fun _ h => h)))
          clear hr hm hrd z1 z2 z3 z4 z16 HXO6
          go_upto_region 9 with fail
          obtain ⟨w8, hw⟩ : ∃ w', w' = w7.alloc (.cells #[.string gr.user, .string gr.client, .string gr.tenant, .string gr.session, .string gr.redirect, .string gr.nonce, .string gr.challenge, .int .i64 gr.method, .slice A7 gr.scopes.length d7, .int .i64 gr.auth, .int .i64 gr.level] 26) := ⟨_, rfl⟩
          have hb8 : Below w7.heap.size w7 w8 := by rw [hw]; go_grown
          rw [← hw]
          have HB8 := Lib.hid (HB7.out.trans (hb8.mono HB7.out.size))
          have HR8 := Lib.hid (HR7.out.below hb8)
          clear hw hb8
          have HV2 := Lib.hid HR8.out.inv
          obtain ⟨hus, hat, xc, hxm, hxw, hxg, hxf, hxu, hxd, hxa, hex⟩ := tries_one HLF2.out HRI.out HV1.out HRD.out HV2.out
          have HAT := Lib.hid hat
          have HXM := Lib.hid hxm
          have HXW := Lib.hid hxw
          have HXG := Lib.hid hxg
          have HXF := Lib.hid hxf
          have HXD := Lib.hid hxd
          have HEX := Lib.hid hex
          clear hat hxm hxw hxg hxf hxd hxa hex
          by_cases he : e2 = 0
          · subst he
            have HU := Lib.hid (show usedS st2 x.code = true from hus.trans (decide_eq_true (by omega)))
            have HXU := Lib.hid (show xc.used = true from hxu.trans (decide_eq_true (by omega)))
            clear hus hxu
            have HXO8 := Lib.hid (blk_below HB8.out HXO.out)
            obtain ⟨_, z1, _, _, _, _, _, _, _, _, _, _, _, _, _, _, _⟩ := cells17 HXO8.out
            go_wp2_with fail
            refine (used_b HR8.out x.code (by omega) HU.out).mono ?_
            rintro e wu ⟨rfl, hb⟩
            have HBU := Lib.hid (HB8.out.trans (hb.mono HB8.out.size))
            have HRU := Lib.hid (HR8.out.below hb)
            clear hb z1 HXO8
            have HXOU := Lib.hid (blk_below HBU.out HXO.out)
            have z1 := cell_block HXOU.out 1
            simp only [List.getElem?_toArray, List.getElem?_cons_zero, List.getElem?_cons_succ] at z1
            go_wp2_with fail
            refine (att_b HRU.out x.code (by omega) HAT.out).mono ?_
            rintro e w9 ⟨rfl, hb⟩
            have HB9 := Lib.hid (HBU.out.trans (hb.mono HBU.out.size))
            have HR9 := Lib.hid (HRU.out.below hb)
            clear hb z1 HXOU
            have HXO9 := Lib.hid (blk_below HB9.out HXO.out)
            obtain ⟨_, z1, _, _, z4, _, _, _, _, _, _, _, _, _, _, _, _⟩ := cells17 HXO9.out
            obtain ⟨_, y1, _, _, y4, _, _, _, _, _, _⟩ := cells11 (blk_below HB9.out HX0.out)
            obtain ⟨⟨st3, gs, f2⟩, hrd2⟩ : ∃ r, red st2 x.code g.client g.redirect (prv x.ver) now = r := ⟨_, rfl⟩
            have HRD2 := Lib.hid hrd2
            go_wp2_with fail
            refine (red_b HR9.out x.code g.client g.redirect x.ver now hrd2 (by omega) (by omega) (HD.out.below HB9.out) (by have := HP.out; omega)).mono ?_
            rintro e w10 ⟨A10, d10, rfl, _, _, hr, hm⟩
            have HR10 := Lib.hid (hr.mono (T' := (fun k => w0.heap.size ≤ k)) (fun k _ e => e.1))
            have HB10 := Lib.hid (HB9.out.trans (hm.toBelow HB9.out.size (fun _ h => h)))
            clear hr hm hrd2 z1 z4 y1 y4 HXO9
            go_upto_region 13 with fail
            obtain ⟨w11, hw⟩ : ∃ w', w' = w10.alloc (.cells #[.string gs.user, .string gs.client, .string gs.tenant, .string gs.session, .string gs.redirect, .string gs.nonce, .string gs.challenge, .int .i64 gs.method, .slice A10 gs.scopes.length d10, .int .i64 gs.auth, .int .i64 gs.level] 26) := ⟨_, rfl⟩
            have hb11 : Below w10.heap.size w10 w11 := by rw [hw]; go_grown
            rw [← hw]
            have HB11 := Lib.hid (HB10.out.trans (hb11.mono HB10.out.size))
            have HR11 := Lib.hid (HR10.out.below hb11)
            clear hw hb11
            obtain ⟨hf, hat2⟩ := tries_used HV2.out HXM.out HXW.out HXU.out HRD2.out HR11.out.inv
            subst hf
            have HAT2 := Lib.hid hat2
            clear hat2
            have HXO11 := Lib.hid (blk_below HB11.out HXO.out)
            obtain ⟨_, z1, _, _, _, _, _, _, _, _, _, _, _, _, _, _, _⟩ := cells17 HXO11.out
            go_wp2_with fail
            refine (att_b HR11.out x.code (by omega) HAT2.out).mono ?_
            rintro e w12 ⟨rfl, hb⟩
            have HB12 := Lib.hid (HB11.out.trans (hb.mono HB11.out.size))
            clear hb z1 HXO11
            go_wp2
            go_ret
            exact ⟨rfl, FIN.out _ HB12.out⟩
          · by_cases he20 : e2 = 20
            · subst he20
              have HU := Lib.hid (show usedS st2 x.code = true from hus.trans (decide_eq_true (by omega)))
              have HXU := Lib.hid (show xc.used = true from hxu.trans (decide_eq_true (by omega)))
              clear hus hxu
              have HXO8 := Lib.hid (blk_below HB8.out HXO.out)
              obtain ⟨_, z1, _, _, _, _, _, _, _, _, _, _, _, _, _, _, _⟩ := cells17 HXO8.out
              go_wp2_with fail
              refine (used_b HR8.out x.code (by omega) HU.out).mono ?_
              rintro e wu ⟨rfl, hb⟩
              have HBU := Lib.hid (HB8.out.trans (hb.mono HB8.out.size))
              have HRU := Lib.hid (HR8.out.below hb)
              clear hb z1 HXO8
              have HXOU := Lib.hid (blk_below HBU.out HXO.out)
              have z1 := cell_block HXOU.out 1
              simp only [List.getElem?_toArray, List.getElem?_cons_zero, List.getElem?_cons_succ] at z1
              go_wp2_with fail
              refine (att_b HRU.out x.code (by omega) HAT.out).mono ?_
              rintro e w9 ⟨rfl, hb⟩
              have HB9 := Lib.hid (HBU.out.trans (hb.mono HBU.out.size))
              have HR9 := Lib.hid (HRU.out.below hb)
              clear hb z1 HXOU
              have HXO9 := Lib.hid (blk_below HB9.out HXO.out)
              obtain ⟨_, z1, _, _, z4, _, _, _, _, _, _, _, _, _, _, _, _⟩ := cells17 HXO9.out
              obtain ⟨_, y1, _, _, y4, _, _, _, _, _, _⟩ := cells11 (blk_below HB9.out HX0.out)
              obtain ⟨⟨st3, gs, f2⟩, hrd2⟩ : ∃ r, red st2 x.code g.client g.redirect (prv x.ver) now = r := ⟨_, rfl⟩
              have HRD2 := Lib.hid hrd2
              go_wp2_with fail
              refine (red_b HR9.out x.code g.client g.redirect x.ver now hrd2 (by omega) (by omega) (HD.out.below HB9.out) (by have := HP.out; omega)).mono ?_
              rintro e w10 ⟨A10, d10, rfl, _, _, hr, hm⟩
              have HR10 := Lib.hid (hr.mono (T' := (fun k => w0.heap.size ≤ k)) (fun k _ e => e.1))
              have HB10 := Lib.hid (HB9.out.trans (hm.toBelow HB9.out.size (fun _ h => h)))
              clear hr hm hrd2 z1 z4 y1 y4 HXO9
              go_upto_region 13 with fail
              obtain ⟨w11, hw⟩ : ∃ w', w' = w10.alloc (.cells #[.string gs.user, .string gs.client, .string gs.tenant, .string gs.session, .string gs.redirect, .string gs.nonce, .string gs.challenge, .int .i64 gs.method, .slice A10 gs.scopes.length d10, .int .i64 gs.auth, .int .i64 gs.level] 26) := ⟨_, rfl⟩
              have hb11 : Below w10.heap.size w10 w11 := by rw [hw]; go_grown
              rw [← hw]
              have HB11 := Lib.hid (HB10.out.trans (hb11.mono HB10.out.size))
              have HR11 := Lib.hid (HR10.out.below hb11)
              clear hw hb11
              obtain ⟨hf, hat2⟩ := tries_used HV2.out HXM.out HXW.out HXU.out HRD2.out HR11.out.inv
              subst hf
              have HAT2 := Lib.hid hat2
              clear hat2
              have HXO11 := Lib.hid (blk_below HB11.out HXO.out)
              obtain ⟨_, z1, _, _, _, _, _, _, _, _, _, _, _, _, _, _, _⟩ := cells17 HXO11.out
              go_wp2_with fail
              refine (att_b HR11.out x.code (by omega) HAT2.out).mono ?_
              rintro e w12 ⟨rfl, hb⟩
              have HB12 := Lib.hid (HB11.out.trans (hb.mono HB11.out.size))
              clear hb z1 HXO11
              go_wp2
              go_ret
              exact ⟨rfl, FIN.out _ HB12.out⟩
            · have HU := Lib.hid (show usedS st2 x.code = false from hus.trans (decide_eq_false (by omega)))
              have HXU := Lib.hid (show xc.used = false from hxu.trans (decide_eq_false (by omega)))
              have b0 : (e2 == 0) = false := beq_eq_false_iff_ne.2 he
              have b20 : (e2 == 20) = false := beq_eq_false_iff_ne.2 he20
              clear hus hxu
              have HXO8 := Lib.hid (blk_below HB8.out HXO.out)
              obtain ⟨_, z1, _, _, _, _, _, _, _, _, _, _, _, _, _, _, _⟩ := cells17 HXO8.out
              go_wp2_with fail
              refine (used_b HR8.out x.code (by omega) HU.out).mono ?_
              rintro e wu ⟨rfl, hb⟩
              have HBU := Lib.hid (HB8.out.trans (hb.mono HB8.out.size))
              have HRU := Lib.hid (HR8.out.below hb)
              clear hb z1 HXO8
              have HXOU := Lib.hid (blk_below HBU.out HXO.out)
              have z1 := cell_block HXOU.out 1
              simp only [List.getElem?_toArray, List.getElem?_cons_zero, List.getElem?_cons_succ] at z1
              go_wp2_with fail
              refine (att_b HRU.out x.code (by omega) HAT.out).mono ?_
              rintro e w9 ⟨rfl, hb⟩
              have HB9 := Lib.hid (HBU.out.trans (hb.mono HBU.out.size))
              have HR9 := Lib.hid (HRU.out.below hb)
              clear hb z1 HXOU
              have HXO9 := Lib.hid (blk_below HB9.out HXO.out)
              obtain ⟨_, z1, _, _, z4, _, _, _, _, _, _, _, _, _, _, _, _⟩ := cells17 HXO9.out
              obtain ⟨_, y1, _, _, y4, _, _, _, _, _, _⟩ := cells11 (blk_below HB9.out HX0.out)
              obtain ⟨⟨st3, gs, f2⟩, hrd2⟩ : ∃ r, red st2 x.code g.client g.redirect (prv x.ver) now = r := ⟨_, rfl⟩
              have HRD2 := Lib.hid hrd2
              go_wp2_with fail
              refine (red_b HR9.out x.code g.client g.redirect x.ver now hrd2 (by omega) (by omega) (HD.out.below HB9.out) (by have := HP.out; omega)).mono ?_
              rintro e w10 ⟨A10, d10, rfl, _, _, hr, hm⟩
              have HR10 := Lib.hid (hr.mono (T' := (fun k => w0.heap.size ≤ k)) (fun k _ e => e.1))
              have HB10 := Lib.hid (HB9.out.trans (hm.toBelow HB9.out.size (fun _ h => h)))
              clear hr hm hrd2 z1 z4 y1 y4 HXO9
              go_upto_region 13 with fail
              obtain ⟨w11, hw⟩ : ∃ w', w' = w10.alloc (.cells #[.string gs.user, .string gs.client, .string gs.tenant, .string gs.session, .string gs.redirect, .string gs.nonce, .string gs.challenge, .int .i64 gs.method, .slice A10 gs.scopes.length d10, .int .i64 gs.auth, .int .i64 gs.level] 26) := ⟨_, rfl⟩
              have hb11 : Below w10.heap.size w10 w11 := by rw [hw]; go_grown
              rw [← hw]
              have HB11 := Lib.hid (HB10.out.trans (hb11.mono HB10.out.size))
              have HR11 := Lib.hid (HR10.out.below hb11)
              clear hw hb11
              by_cases h11 : e2 = 11 ∨ e2 = 2
              · have hf := tries_free HV2.out HXM.out HXW.out HXG.out HXU.out HXD.out (by have := HEX.out h11; rw [HXF.out]; omega) HRD2.out
                rcases hf with hf | hf
                · subst hf
                  rcases h11 with h11 | h11
                  · subst h11
                    go_wp2
                    go_ret
                    exact ⟨rfl, FIN.out _ HB11.out⟩
                  · subst h11
                    go_wp2
                    go_ret
                    exact ⟨rfl, FIN.out _ HB11.out⟩
                · subst hf
                  rcases h11 with h11 | h11
                  · subst h11
                    go_wp2
                    go_ret
                    exact ⟨rfl, FIN.out _ HB11.out⟩
                  · subst h11
                    go_wp2
                    go_ret
                    exact ⟨rfl, FIN.out _ HB11.out⟩
              · have b11 : (e2 == 11) = false := beq_eq_false_iff_ne.2 (fun e => h11 (Or.inl e))
                have b2 : (e2 == 2) = false := beq_eq_false_iff_ne.2 (fun e => h11 (Or.inr e))
                have n11 : ¬ e2 = 11 := fun e => h11 (Or.inl e)
                have n2' : ¬ e2 = 2 := fun e => h11 (Or.inr e)
                clear h11
                go_wp2
                go_ret
                exact ⟨rfl, FIN.out _ HB11.out⟩
        · have hern : (er == 0) = false := beq_eq_false_iff_ne.2 her
          go_wp2_with fail
          refine (iss_b HR5.out (fun k hk => Nat.le_trans HB5.out.size hk) x.code g Ag dg now hri (by omega) (gg_big HL3.out) (HSG.out.below HB5.out) (gg_parts HL3.out).2.2 (by have := (gg_parts HL3.out).2.1; omega) (HM.out.below HB5.out)).mono ?_
          rintro e w6 ⟨rfl, hr, hm⟩
          have HR6 := Lib.hid hr
          have HB6 := Lib.hid (HB5.out.trans (hm.toBelow HB5.out.size (fun _ h => h)))
          have HX6 := Lib.hid (blk_below HB6.out HX0.out)
          clear hr hm z1 HXO5 y0 y1 y2 y3 y4 y5 y6 y7 y8 y9 y10
          clear hri
          go_wp2
          go_ret
          exact ⟨rfl, FIN.out _ HB6.out⟩
end Go.Proofs.YtioabjniipkncaaDoor.Rc
