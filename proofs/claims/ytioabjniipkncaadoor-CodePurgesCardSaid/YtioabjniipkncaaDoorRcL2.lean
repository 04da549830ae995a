/-
  The walk of the statement CodePurges.
-/
import Derived.Test.YtioabjniipkncaaDoorRcL1
import Derived.Test.YtioabjniipkncaaDoorRcQ
namespace Go.Proofs.YtioabjniipkncaaDoor.Rc
open Go.RowKit Go.Proofs.YtioabjniipkncaaDoor.Fo Go.Proofs.YtioabjniipkncaaDoor.Rf Go.Maps

theorem add_is {t d x : Int} {w : World} (h : addC t d = x) : Calls Tryd.prog 18 #[.int .i64 t, .int .i64 d] w fun e w' => e = .returned (.int .i64 x) ∧ w = w' := by
  rw [← h]; exact add_any t d w
set_option maxRecDepth 100000 in
set_option maxHeartbeats 8000000 in
theorem purges_any (w : World) (life : Int) (A : Option Addr) (n c : Nat) (l : List Opc) (word : Bs) (g : Gr) (Ag : Option Addr) (dg : Nat) (now at_ : Int) (hs : Os w A n c l) (hsg : Ss w Ag g.scopes.length dg g.scopes) (hm : MX w) (hd : DG w) :
    Calls Tryd.prog 7 #[.int .i64 life, .slice A n c, .string word, .agg #[.string g.user, .string g.client, .string g.tenant, .string g.session, .string g.redirect, .string g.nonce, .string g.challenge, .int .i64 g.method, .slice Ag g.scopes.length dg, .int .i64 g.auth, .int .i64 g.level], .int .i64 now, .int .i64 at_] w fun e w' => e = .returned (.bool true) ∧ Below w.heap.size w w' := by
  obtain ⟨w0, hw0⟩ : ∃ w', w' = w.alloc (.cells #[.string g.user, .string g.client, .string g.tenant, .string g.session, .string g.redirect, .string g.nonce, .string g.challenge, .int .i64 g.method, .slice Ag g.scopes.length dg, .int .i64 g.auth, .int .i64 g.level] 26) := ⟨_, rfl⟩
  have hb0 : Below w.heap.size w w0 := by rw [hw0]; go_grown
  have HX0 := Lib.hid (show w0.heap[w.heap.size]? = some (.cells #[.string g.user, .string g.client, .string g.tenant, .string g.session, .string g.redirect, .string g.nonce, .string g.challenge, .int .i64 g.method, .slice Ag g.scopes.length dg, .int .i64 g.auth, .int .i64 g.level] 26 (0, 0)) by rw [hw0]; exact heap_alloc_new _ _)
  have HS := Lib.hid (hs.below hb0)
  have HSG := Lib.hid (hsg.below hb0)
  have HM := Lib.hid (hm.below hb0)
  have HD := Lib.hid (hd.below hb0)
  have FIN := Lib.hid (fun (w' : World) (h : Below w0.heap.size w0 w') => hb0.trans (h.mono hb0.size))
  have HB0 := Lib.hid (Below.refl w0.heap.size w0)
  clear hs hsg hm hd hb0
  go_enter Tryd.func7, Tryd.ntmps7
  go_upto_region 1 with fail
  rw [← hw0]
  clear hw0
  go_wp2_with fail
  refine (live_any w0 HM.out HD.out).mono ?_
  rintro e w1 ⟨rfl, hb⟩
  have HB1 := Lib.hid (HB0.out.trans (hb.mono HB0.out.size))
  clear hb
  cases hl1 : longB l 12 with
  | true =>
    have HL1 := Lib.hid hl1
    clear hl1
    go_wp2_with fail
    refine (long_is (HS.out.below HB1.out) (by omega) HL1.out).mono ?_
    rintro e w2 ⟨rfl, hb⟩
    have HB2 := Lib.hid (HB1.out.trans (hb.mono HB1.out.size))
    clear hb
    go_wp2
    go_ret
    exact ⟨rfl, FIN.out _ HB2.out⟩
  | false =>
    have HL1 := Lib.hid hl1
    clear hl1
    go_wp2_with fail
    refine (long_is (HS.out.below HB1.out) (by omega) HL1.out).mono ?_
    rintro e w2 ⟨rfl, hb⟩
    have HB2 := Lib.hid (HB1.out.trans (hb.mono HB1.out.size))
    clear hb
    have HX2 := Lib.hid (blk_below HB2.out HX0.out)
    obtain ⟨y0, y1, y2, y3, y4, y5, y6, y7, y8, y9, y10⟩ := cells11 HX2.out
    cases hl3 : greatG g with
    | true =>
      have HL3 := Lib.hid hl3
      clear hl3
      go_wp2_with fail
      refine (greatg_is (HSG.out.below HB2.out) HL3.out).mono ?_
      rintro e w3 ⟨rfl, hb⟩
      have HB3 := Lib.hid (HB2.out.trans (hb.mono HB2.out.size))
      clear hb
      go_wp2
      go_ret
      exact ⟨rfl, FIN.out _ HB3.out⟩
    | false =>
      have HL3 := Lib.hid hl3
      clear hl3
      go_wp2_with fail
      refine (greatg_is (HSG.out.below HB2.out) HL3.out).mono ?_
      rintro e w3 ⟨rfl, hb⟩
      have HB3 := Lib.hid (HB2.out.trans (hb.mono HB2.out.size))
      clear hb
      clear y0 y1 y2 y3 y4 y5 y6 y7 y8 y9 y10
      by_cases hl4 : (300 : Int) < (word.size : Int)
      · go_wp2
        go_ret
        exact ⟨rfl, FIN.out _ HB3.out⟩
      · have HWS := Lib.hid (show word.size ≤ 100000 by omega)
        go_wp2_with fail
        refine (run_any w3 life A n c l 12 (HS.out.below HB3.out) HL1.out (by omega) (HM.out.below HB3.out) (HD.out.below HB3.out)).mono ?_
        rintro e w4 (⟨hlf, rfl, hb⟩ | ⟨hlf, F, st, rfl, hr, hlf2, hb⟩)
        · have HB4 := Lib.hid (HB3.out.trans (hb.mono HB3.out.size))
          clear hlf hb
          go_wp2
          go_ret
          exact ⟨rfl, FIN.out _ HB4.out⟩
        have HLF := Lib.hid hlf
        have HLF2 := Lib.hid hlf2
        have HB4 := Lib.hid (HB3.out.trans (hb.mono HB3.out.size))
        have HR4 := Lib.hid (hr.mono (T' := (fun k => w0.heap.size ≤ k)) (fun k _ e => Nat.le_trans HB3.out.size e))
        have HX4 := Lib.hid (blk_below HB4.out HX0.out)
        clear hlf hlf2 hb hr
        obtain ⟨y0, y1, y2, y3, y4, y5, y6, y7, y8, y9, y10⟩ := cells11 HX4.out
        obtain ⟨⟨st1, er⟩, hri⟩ : ∃ r, iss st word g now = r := ⟨_, rfl⟩
        have HRI := Lib.hid hri
        by_cases her : er = 0
        · subst her
          go_wp2_with fail
          refine (iss_b HR4.out (fun k hk => Nat.le_trans HB4.out.size hk) word g Ag dg now hri HWS.out (gg_big HL3.out) (HSG.out.below HB4.out) (gg_parts HL3.out).2.2 (by have := (gg_parts HL3.out).2.1; omega) (HM.out.below HB4.out)).mono ?_
          rintro e w5 ⟨rfl, hr, hm⟩
          have HR5 := Lib.hid hr
          have HB5 := Lib.hid (HB4.out.trans (hm.toBelow HB4.out.size (fun _ h => h)))
          have HX5 := Lib.hid (blk_below HB5.out HX0.out)
          clear hr hm y0 y1 y2 y3 y4 y5 y6 y7 y8 y9 y10
          clear hri
          have HV1 := Lib.hid HR5.out.inv
          obtain ⟨N, hN⟩ : ∃ N, st1.l.length = N := ⟨_, rfl⟩
          obtain ⟨M, hM⟩ : ∃ M, (puS st1 at_).l.length = M := ⟨_, rfl⟩
          have hMN : M ≤ N := by rw [← hN, ← hM]; exact pu_len st1 at_
          have hN2 : N ≤ 256 := by rw [← hN]; exact HV1.out.len
          go_wp2_with fail
          refine (len_b HR5.out hN).mono ?_
          rintro e w8 ⟨rfl, rfl⟩
          go_wp2_with fail
          obtain ⟨K, hK⟩ : ∃ K : Nat, (st1.l.length : Int) - ((puS st1 at_).l.length : Int) = (K : Int) := ⟨N - M, by rw [hN, hM]; omega⟩
          have hKN : K = N - M := by rw [hN, hM] at hK; omega
          refine (purge_b HR5.out (fun k hk => Nat.le_trans HB5.out.size hk) at_ hK rfl).mono ?_
          rintro e w9 ⟨rfl, hr, hm⟩
          have HR9 := Lib.hid hr
          have HB9 := Lib.hid (HB5.out.trans (hm.toBelow HB5.out.size (fun _ h => h)))
          have HX9 := Lib.hid (blk_below HB9.out HX0.out)
          clear hr hm hK hN
          obtain ⟨x1, hx1⟩ : ∃ x, addC at_ 0 = x := ⟨_, rfl⟩
          obtain ⟨x2, hx2⟩ : ∃ x, addC now life = x := ⟨_, rfl⟩
          obtain ⟨x3, hx3⟩ : ∃ x, addC x2 life = x := ⟨_, rfl⟩
          have H1 := Lib.hid hx1
          have H2 := Lib.hid hx2
          have H3 := Lib.hid hx3
          clear hx1 hx2 hx3
          obtain ⟨y0, y1, y2, y3, y4, y5, y6, y7, y8, y9, y10⟩ := cells11 HX9.out
          obtain ⟨⟨st3, ef⟩, hrj⟩ : ∃ r, iss (puS st1 at_) word g now = r := ⟨_, rfl⟩
          have HRJ := Lib.hid hrj
          go_wp2_with fail
          refine (add_is H1.out).mono ?_
          rintro e wx ⟨rfl, rfl⟩
          go_wp2_with fail
          refine (add_is H2.out).mono ?_
          rintro e wx ⟨rfl, rfl⟩
          go_wp2_with fail
          refine (add_is H3.out).mono ?_
          rintro e wx ⟨rfl, rfl⟩
          by_cases hg : x3 ≤ x1
          · have hef : ef = 0 := purges_gone HLF2.out HRI.out HV1.out HRJ.out (by rw [H2.out, H3.out, ← addC_zero, H1.out]; exact hg)
            subst hef
            go_wp2_with fail
            refine (iss_b HR9.out (fun k hk => Nat.le_trans HB9.out.size hk) word g Ag dg now hrj HWS.out (gg_big HL3.out) (HSG.out.below HB9.out) (gg_parts HL3.out).2.2 (by have := (gg_parts HL3.out).2.1; omega) (HM.out.below HB9.out)).mono ?_
            rintro e w10 ⟨rfl, hr, hm⟩
            have HR10 := Lib.hid hr
            have HB10 := Lib.hid (HB9.out.trans (hm.toBelow HB9.out.size (fun _ h => h)))
            clear hr hm y0 y1 y2 y3 y4 y5 y6 y7 y8 y9 y10 hrj
            go_wp2
            go_ret
            exact ⟨rfl, FIN.out _ HB10.out⟩
          · obtain ⟨hef, hst⟩ := purges_kept HLF2.out HRI.out HRJ.out (by rw [H2.out, H3.out, ← addC_zero, H1.out]; exact hg)
            subst hef
            go_wp2_with fail
            refine (iss_b HR9.out (fun k hk => Nat.le_trans HB9.out.size hk) word g Ag dg now hrj HWS.out (gg_big HL3.out) (HSG.out.below HB9.out) (gg_parts HL3.out).2.2 (by have := (gg_parts HL3.out).2.1; omega) (HM.out.below HB9.out)).mono ?_
            rintro e w10 ⟨rfl, hr, hm⟩
            have HR10 := Lib.hid hr
            have HB10 := Lib.hid (HB9.out.trans (hm.toBelow HB9.out.size (fun _ h => h)))
            clear hr hm y0 y1 y2 y3 y4 y5 y6 y7 y8 y9 y10 hrj
            go_wp2_with fail
            refine (len_b HR10.out (show st3.l.length = M by rw [hst]; exact hM)).mono ?_
            rintro e wx ⟨rfl, rfl⟩
            go_wp2
            go_ret
            refine ⟨ret_bool ?_, FIN.out _ HB10.out⟩
            rw [decide_eq_false (p := x3 ≤ x1) (by omega)]
            simp
            omega
        · have hern : (er == 0) = false := beq_eq_false_iff_ne.2 her
          go_wp2_with fail
          refine (iss_b HR4.out (fun k hk => Nat.le_trans HB4.out.size hk) word g Ag dg now hri HWS.out (gg_big HL3.out) (HSG.out.below HB4.out) (gg_parts HL3.out).2.2 (by have := (gg_parts HL3.out).2.1; omega) (HM.out.below HB4.out)).mono ?_
          rintro e w5 ⟨rfl, hr, hm⟩
          have HR5 := Lib.hid hr
          have HB5 := Lib.hid (HB4.out.trans (hm.toBelow HB4.out.size (fun _ h => h)))
          have HX5 := Lib.hid (blk_below HB5.out HX0.out)
          clear hr hm y0 y1 y2 y3 y4 y5 y6 y7 y8 y9 y10
          clear hri
          go_wp2
          go_ret
          exact ⟨rfl, FIN.out _ HB5.out⟩
end Go.Proofs.YtioabjniipkncaaDoor.Rc
