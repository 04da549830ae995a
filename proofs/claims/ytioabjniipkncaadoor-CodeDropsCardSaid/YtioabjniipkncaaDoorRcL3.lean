/-
  The walk of the statement CodeDrops.
-/
import Derived.Test.YtioabjniipkncaaDoorRcL1
namespace Go.Proofs.YtioabjniipkncaaDoor.Rc
open Go.RowKit Go.Proofs.YtioabjniipkncaaDoor.Fo Go.Proofs.YtioabjniipkncaaDoor.Rf Go.Maps

set_option maxRecDepth 100000 in
set_option maxHeartbeats 8000000 in
theorem drops_usr (w0 : World) (life : Int) (A : Option Addr) (n c : Nat) (l : List Opc) (A2 : Option Addr) (n2 c2 : Nat) (l2 : List Opc) (name : Bs) (hs : Os w0 A n c l) (hs2 : Os w0 A2 n2 c2 l2) (hm : MX w0) (hd : DG w0) :
    Calls Tryd.prog 5 #[.int .i64 life, .slice A n c, .slice A2 n2 c2, .string name, .bool true] w0 fun e w' => e = .returned (.bool true) ∧ Below w0.heap.size w0 w' := by
  have HS := Lib.hid hs
  have HS2 := Lib.hid hs2
  have HM := Lib.hid hm
  have HD := Lib.hid hd
  have HLN2 := Lib.hid hs2.1
  have HP := Lib.hid hm.pos
  have FIN := Lib.hid (fun (w' : World) (h : Below w0.heap.size w0 w') => h)
  have HB0 := Lib.hid (Below.refl w0.heap.size w0)
  clear hs hs2 hm hd
  have hmf : ∀ (fn : Fn) (first cap : Array Value) (w : World), (Instr.makeFunc fn first cap).run Tryd.prog w = .ok (.func fn first cap) w := fun _ _ _ _ => rfl
  go_enter Tryd.func5, Tryd.ntmps5
  go_wp2_with fail
  refine (live_any w0 HM.out HD.out).mono ?_
  rintro e w1 ⟨rfl, hb⟩
  have HB1 := Lib.hid (HB0.out.trans (hb.mono HB0.out.size))
  clear hb
  cases hl1 : longB l 12 with
  | true =>
    have HL1 := Lib.hid hl1
    clear hl1
    go_wp2_with fail
    refine (long_is (HS.out.below HB1.out) (by omega) HL1.out).mono ?_
    rintro e w2 ⟨rfl, hb⟩
    have HB2 := Lib.hid (HB1.out.trans (hb.mono HB1.out.size))
    clear hb
    go_wp2
    go_ret
    exact ⟨rfl, FIN.out _ HB2.out⟩
  | false =>
    have HL1 := Lib.hid hl1
    clear hl1
    go_wp2_with fail
    refine (long_is (HS.out.below HB1.out) (by omega) HL1.out).mono ?_
    rintro e w2 ⟨rfl, hb⟩
    have HB2 := Lib.hid (HB1.out.trans (hb.mono HB1.out.size))
    clear hb
    cases hl2 : longB l2 12 with
    | true =>
      have HL2 := Lib.hid hl2
      clear hl2
      go_wp2_with fail
      refine (long_is (HS2.out.below HB2.out) (by omega) HL2.out).mono ?_
      rintro e w3 ⟨rfl, hb⟩
      have HB3 := Lib.hid (HB2.out.trans (hb.mono HB2.out.size))
      clear hb
      go_wp2
      go_ret
      exact ⟨rfl, FIN.out _ HB3.out⟩
    | false =>
      have HL2 := Lib.hid hl2
      clear hl2
      go_wp2_with fail
      refine (long_is (HS2.out.below HB2.out) (by omega) HL2.out).mono ?_
      rintro e w3 ⟨rfl, hb⟩
      have HB3 := Lib.hid (HB2.out.trans (hb.mono HB2.out.size))
      clear hb
      by_cases hl4 : (300 : Int) < (name.size : Int)
      · go_wp2
        go_ret
        exact ⟨rfl, FIN.out _ HB3.out⟩
      · have HWS := Lib.hid (show name.size ≤ 100000 by omega)
        go_wp2_with fail
        refine (run_any w3 life A n c l 12 (HS.out.below HB3.out) HL1.out (by omega) (HM.out.below HB3.out) (HD.out.below HB3.out)).mono ?_
        rintro e w4 (⟨hlf, rfl, hb⟩ | ⟨hlf, F, st, rfl, hr, hlf2, hb⟩)
        · have HB4 := Lib.hid (HB3.out.trans (hb.mono HB3.out.size))
          clear hlf hb
          go_wp2
          go_ret
          exact ⟨rfl, FIN.out _ HB4.out⟩
        have HLF := Lib.hid hlf
        have HLF2 := Lib.hid hlf2
        have HB4 := Lib.hid (HB3.out.trans (hb.mono HB3.out.size))
        have HR4 := Lib.hid (hr.mono (T' := (fun k => w0.heap.size ≤ k)) (fun k _ e => Nat.le_trans HB3.out.size e))
        clear hlf hlf2 hb hr
        obtain ⟨K, hK⟩ : ∃ K, drN (isUsr name) st = K := ⟨_, rfl⟩
        obtain ⟨st1, hs1⟩ : ∃ s, drS (isUsr name) st = s := ⟨_, rfl⟩
        obtain ⟨st2, hs2⟩ : ∃ s, drS (isUsr name) st1 = s := ⟨_, rfl⟩
        have HS1 := Lib.hid hs1
        have HST2 := Lib.hid hs2
        have HG1 := Lib.hid (show Gone (isUsr name) st1 by rw [← HS1.out]; exact gone_drop _ (isUsr_g name) st)
        have HG2 := Lib.hid (show Gone (isUsr name) st2 by rw [← HST2.out]; exact gone_drop _ (isUsr_g name) st1)
        have hn2 : n2 ≤ 12 := by have := long_len HL2.out; have := HLN2.out; omega
        go_wp2_with fail
        refine (dropUsr_b HR4.out (fun k hk => Nat.le_trans HB4.out.size hk) name hK hs1).mono ?_
        rintro e w8 ⟨rfl, hr, hm⟩
        have HR8 := Lib.hid hr
        have HB8 := Lib.hid (HB4.out.trans (hm.toBelow HB4.out.size (fun _ h => h)))
        clear hr hm hK hs1
        have hK0 : ¬ (K : Int) < 0 := by omega
        go_wp2_with fail
        refine (dropUsr_b HR8.out (fun k hk => Nat.le_trans HB8.out.size hk) name (gone_again HG1.out) hs2).mono ?_
        rintro e w9 ⟨rfl, hr, hm⟩
        have HR9 := Lib.hid hr
        have HB9 := Lib.hid (HB8.out.trans (hm.toBelow HB8.out.size (fun _ h => h)))
        clear hr hm hs2
        go_wp2_with fail
        go_loopw [13, 14, 51] (fun _ _ iv wr => ∃ (k : Nat) (st : Ct), iv = .int .i64 k ∧ k ≤ n2 ∧ RepB wr (fun k => w0.heap.size ≤ k) F st ∧ Gone (isUsr name) st ∧ Below w0.heap.size w0 wr) (fun _ _ iv _ => n2 - (intOf iv).toNat)
        case atStart => exact ⟨0, _, rfl, Nat.zero_le _, HR9.out, HG2.out, HB9.out⟩
        case round =>
          obtain ⟨k, st3, rfl, hk, hr, hg, hb⟩ := hrel
          have HR := Lib.hid hr
          have HG := Lib.hid hg
          have HB := Lib.hid hb
          clear hr hg hb
          by_cases hlt : k < n2
          · have HOK := Lib.hid (long_at HL2.out (k := k) (by rw [HLN2.out]; exact hlt))
            obtain ⟨bh, oh, Ah, dh, xh, rfl, hlh, hxh, h0, h1, h2, h3, h4, h5, h6, h7, h8, h9, h10, h11, h12, h13, h14, h15, h16, hsh⟩ := (HS2.out.below HB.out).at hlt
            rw [hxh] at HOK
            have HSh := Lib.hid hsh
            clear hsh hxh
            by_cases h7 : xh.kind = 1
            · have q7 : (xh.kind == 1) = true := by rw [h7]; rfl
              clear h1 h2 h3 h4 h5 h6 h7 h8 h9 h10 h11 h12 h13 h14 h15 h16
              go_wp2_with fail
              go_roundw
              case rel => exact ⟨k + 1, st3, by go_num, by omega, HR.out, HG.out, HB.out⟩
              case measure => simp [intOf]; omega
            · have q7 : (xh.kind == 1) = false := beq_eq_false_iff_ne.2 h7
              have H7 := Lib.hid h7
              clear h7
              obtain ⟨rr, hrr⟩ : ∃ r, doC st3 xh = r := ⟨_, rfl⟩
              have HH0 := Lib.hid h0
              go_wp2_with fail
              refine (do_b HR.out (fun k hk => Nat.le_trans HB.out.size hk) xh Ah dh HSh.out HOK.out (HM.out.below HB.out) (HD.out.below HB.out) (fun k hk => by have := HP.out; omega) hrr).mono ?_
              rintro e w6 ⟨B, d', rfl, hss, _, hr, hm⟩
              have HR6 := Lib.hid hr
              have HB6 := Lib.hid (HB.out.trans (hm.toBelow HB.out.size (fun _ h => h)))
              have HRR := Lib.hid hrr
              have HMD := Lib.hid hm
              clear hss hr hm hrr h0 h1 h2 h3 h4 h5 h6 h7 h8 h9 h10 h11 h12 h13 h14 h15 h16
              go_upto_region 18 with fail
              obtain ⟨w7, hw⟩ : ∃ w', w' = w6.alloc (.cells #[.string rr.2.g.user, .string rr.2.g.client, .string rr.2.g.tenant, .string rr.2.g.session, .string rr.2.g.redirect, .string rr.2.g.nonce, .string rr.2.g.challenge, .int .i64 rr.2.g.method, .slice B rr.2.g.scopes.length d', .int .i64 rr.2.g.auth, .int .i64 rr.2.g.level, .int .i64 rr.2.n, .bool rr.2.yes, .bool rr.2.also, .int .i64 rr.2.e] 37) := ⟨_, rfl⟩
              have hb7 : Below w6.heap.size w6 w7 := by rw [hw]; go_grown
              rw [← hw]
              have HQ := Lib.hid (show w7.heap[w6.heap.size]? = some (.cells #[.string rr.2.g.user, .string rr.2.g.client, .string rr.2.g.tenant, .string rr.2.g.session, .string rr.2.g.redirect, .string rr.2.g.nonce, .string rr.2.g.challenge, .int .i64 rr.2.g.method, .slice B rr.2.g.scopes.length d', .int .i64 rr.2.g.auth, .int .i64 rr.2.g.level, .int .i64 rr.2.n, .bool rr.2.yes, .bool rr.2.also, .int .i64 rr.2.e] 37 (0, 0)) by rw [hw]; exact heap_alloc_new _ _)
              have HB7 := Lib.hid (HB6.out.trans (hb7.mono HB6.out.size))
              have HR7 := Lib.hid (HR6.out.below hb7)
              have g0 := cell_below hb7 (cell_mods HMD.out HH0.out (HS2.out.blk (by omega) rfl))
              have e4 := cell_block HQ.out 14
              have e0 := cell_block HQ.out 0
              simp only [List.getElem?_toArray, List.getElem?_cons_zero, List.getElem?_cons_succ] at e4 e0
              clear hw hb7
              have HG7 := Lib.hid (show Gone (isUsr name) rr.1 by rw [← HRR.out]; exact gone_back (isUsr_g name) (back_do st3 xh H7.out) HG.out)
              by_cases hk2 : xh.kind = 2 ∨ xh.kind = 3
              · by_cases hre : rr.2.e = 0
                · have hne : ¬ rr.2.g.user = name := by
                    obtain ⟨x, hx1, hx2⟩ := gone_hit (show isRed xh from hk2) (by rw [HRR.out]; exact hre) HG.out
                    rw [HRR.out] at hx2
                    rw [hx2]
                    unfold isUsr at hx1
                    exact of_decide_eq_false hx1
                  have hnb : (rr.2.g.user.toList == name.toList) = false := by rw [beq_bs]; simpa using hne
                  have hre2 : (rr.2.e == 0) = true := by rw [hre]; rfl
                  clear hne
                  rcases hk2 with hk2 | hk2
                  · have hk2b : (xh.kind == 2) = true := by rw [hk2]; rfl
                    go_wp2_with fail
                    go_roundw
                    case rel => exact ⟨k + 1, _, by go_num, by omega, HR7.out, HG7.out, HB7.out⟩
                    case measure => simp [intOf]; omega
                  · have hk2b : (xh.kind == 3) = true := by rw [hk2]; rfl
                    have hk22b : (xh.kind == 2) = false := beq_eq_false_iff_ne.2 (by omega)
                    go_wp2_with fail
                    go_roundw
                    case rel => exact ⟨k + 1, _, by go_num, by omega, HR7.out, HG7.out, HB7.out⟩
                    case measure => simp [intOf]; omega
                · have hre2 : (rr.2.e == 0) = false := beq_eq_false_iff_ne.2 hre
                  rcases hk2 with hk2 | hk2
                  · have hk2b : (xh.kind == 2) = true := by rw [hk2]; rfl
                    go_wp2_with fail
                    go_roundw
                    case rel => exact ⟨k + 1, _, by go_num, by omega, HR7.out, HG7.out, HB7.out⟩
                    case measure => simp [intOf]; omega
                  · have hk2b : (xh.kind == 3) = true := by rw [hk2]; rfl
                    have hk22b : (xh.kind == 2) = false := beq_eq_false_iff_ne.2 (by omega)
                    go_wp2_with fail
                    go_roundw
                    case rel => exact ⟨k + 1, _, by go_num, by omega, HR7.out, HG7.out, HB7.out⟩
                    case measure => simp [intOf]; omega
              · have hk2b : (xh.kind == 2) = false := beq_eq_false_iff_ne.2 (fun e => hk2 (Or.inl e))
                have hk3b : (xh.kind == 3) = false := beq_eq_false_iff_ne.2 (fun e => hk2 (Or.inr e))
                clear hk2
                go_wp2_with fail
                go_roundw
                case rel => exact ⟨k + 1, _, by go_num, by omega, HR7.out, HG7.out, HB7.out⟩
                case measure => simp [intOf]; omega
          · go_wp2_with fail
            go_ret
            exact ⟨rfl, FIN.out _ HB.out⟩
set_option maxRecDepth 100000 in
set_option maxHeartbeats 8000000 in
theorem drops_ses (w0 : World) (life : Int) (A : Option Addr) (n c : Nat) (l : List Opc) (A2 : Option Addr) (n2 c2 : Nat) (l2 : List Opc) (name : Bs) (hs : Os w0 A n c l) (hs2 : Os w0 A2 n2 c2 l2) (hm : MX w0) (hd : DG w0) :
    Calls Tryd.prog 5 #[.int .i64 life, .slice A n c, .slice A2 n2 c2, .string name, .bool false] w0 fun e w' => e = .returned (.bool true) ∧ Below w0.heap.size w0 w' := by
  have HS := Lib.hid hs
  have HS2 := Lib.hid hs2
  have HM := Lib.hid hm
  have HD := Lib.hid hd
  have HLN2 := Lib.hid hs2.1
  have HP := Lib.hid hm.pos
  have FIN := Lib.hid (fun (w' : World) (h : Below w0.heap.size w0 w') => h)
  have HB0 := Lib.hid (Below.refl w0.heap.size w0)
  clear hs hs2 hm hd
  have hmf : ∀ (fn : Fn) (first cap : Array Value) (w : World), (Instr.makeFunc fn first cap).run Tryd.prog w = .ok (.func fn first cap) w := fun _ _ _ _ => rfl
  go_enter Tryd.func5, Tryd.ntmps5
  go_wp2_with fail
  refine (live_any w0 HM.out HD.out).mono ?_
  rintro e w1 ⟨rfl, hb⟩
  have HB1 := Lib.hid (HB0.out.trans (hb.mono HB0.out.size))
  clear hb
  cases hl1 : longB l 12 with
  | true =>
    have HL1 := Lib.hid hl1
    clear hl1
    go_wp2_with fail
    refine (long_is (HS.out.below HB1.out) (by omega) HL1.out).mono ?_
    rintro e w2 ⟨rfl, hb⟩
    have HB2 := Lib.hid (HB1.out.trans (hb.mono HB1.out.size))
    clear hb
    go_wp2
    go_ret
    exact ⟨rfl, FIN.out _ HB2.out⟩
  | false =>
    have HL1 := Lib.hid hl1
    clear hl1
    go_wp2_with fail
    refine (long_is (HS.out.below HB1.out) (by omega) HL1.out).mono ?_
    rintro e w2 ⟨rfl, hb⟩
    have HB2 := Lib.hid (HB1.out.trans (hb.mono HB1.out.size))
    clear hb
    cases hl2 : longB l2 12 with
    | true =>
      have HL2 := Lib.hid hl2
      clear hl2
      go_wp2_with fail
      refine (long_is (HS2.out.below HB2.out) (by omega) HL2.out).mono ?_
      rintro e w3 ⟨rfl, hb⟩
      have HB3 := Lib.hid (HB2.out.trans (hb.mono HB2.out.size))
      clear hb
      go_wp2
      go_ret
      exact ⟨rfl, FIN.out _ HB3.out⟩
    | false =>
      have HL2 := Lib.hid hl2
      clear hl2
      go_wp2_with fail
      refine (long_is (HS2.out.below HB2.out) (by omega) HL2.out).mono ?_
      rintro e w3 ⟨rfl, hb⟩
      have HB3 := Lib.hid (HB2.out.trans (hb.mono HB2.out.size))
      clear hb
      by_cases hl4 : (300 : Int) < (name.size : Int)
      · go_wp2
        go_ret
        exact ⟨rfl, FIN.out _ HB3.out⟩
      · have HWS := Lib.hid (show name.size ≤ 100000 by omega)
        go_wp2_with fail
        refine (run_any w3 life A n c l 12 (HS.out.below HB3.out) HL1.out (by omega) (HM.out.below HB3.out) (HD.out.below HB3.out)).mono ?_
        rintro e w4 (⟨hlf, rfl, hb⟩ | ⟨hlf, F, st, rfl, hr, hlf2, hb⟩)
        · have HB4 := Lib.hid (HB3.out.trans (hb.mono HB3.out.size))
          clear hlf hb
          go_wp2
          go_ret
          exact ⟨rfl, FIN.out _ HB4.out⟩
        have HLF := Lib.hid hlf
        have HLF2 := Lib.hid hlf2
        have HB4 := Lib.hid (HB3.out.trans (hb.mono HB3.out.size))
        have HR4 := Lib.hid (hr.mono (T' := (fun k => w0.heap.size ≤ k)) (fun k _ e => Nat.le_trans HB3.out.size e))
        clear hlf hlf2 hb hr
        obtain ⟨K, hK⟩ : ∃ K, drN (isSes name) st = K := ⟨_, rfl⟩
        obtain ⟨st1, hs1⟩ : ∃ s, drS (isSes name) st = s := ⟨_, rfl⟩
        obtain ⟨st2, hs2⟩ : ∃ s, drS (isSes name) st1 = s := ⟨_, rfl⟩
        have HS1 := Lib.hid hs1
        have HST2 := Lib.hid hs2
        have HG1 := Lib.hid (show Gone (isSes name) st1 by rw [← HS1.out]; exact gone_drop _ (isSes_g name) st)
        have HG2 := Lib.hid (show Gone (isSes name) st2 by rw [← HST2.out]; exact gone_drop _ (isSes_g name) st1)
        have hn2 : n2 ≤ 12 := by have := long_len HL2.out; have := HLN2.out; omega
        go_wp2_with fail
        refine (dropSes_b HR4.out (fun k hk => Nat.le_trans HB4.out.size hk) name hK hs1).mono ?_
        rintro e w8 ⟨rfl, hr, hm⟩
        have HR8 := Lib.hid hr
        have HB8 := Lib.hid (HB4.out.trans (hm.toBelow HB4.out.size (fun _ h => h)))
        clear hr hm hK hs1
        have hK0 : ¬ (K : Int) < 0 := by omega
        go_wp2_with fail
        refine (dropSes_b HR8.out (fun k hk => Nat.le_trans HB8.out.size hk) name (gone_again HG1.out) hs2).mono ?_
        rintro e w9 ⟨rfl, hr, hm⟩
        have HR9 := Lib.hid hr
        have HB9 := Lib.hid (HB8.out.trans (hm.toBelow HB8.out.size (fun _ h => h)))
        clear hr hm hs2
        go_wp2_with fail
        go_loopw [13, 14, 51] (fun _ _ iv wr => ∃ (k : Nat) (st : Ct), iv = .int .i64 k ∧ k ≤ n2 ∧ RepB wr (fun k => w0.heap.size ≤ k) F st ∧ Gone (isSes name) st ∧ Below w0.heap.size w0 wr) (fun _ _ iv _ => n2 - (intOf iv).toNat)
        case atStart => exact ⟨0, _, rfl, Nat.zero_le _, HR9.out, HG2.out, HB9.out⟩
        case round =>
          obtain ⟨k, st3, rfl, hk, hr, hg, hb⟩ := hrel
          have HR := Lib.hid hr
          have HG := Lib.hid hg
          have HB := Lib.hid hb
          clear hr hg hb
          by_cases hlt : k < n2
          · have HOK := Lib.hid (long_at HL2.out (k := k) (by rw [HLN2.out]; exact hlt))
            obtain ⟨bh, oh, Ah, dh, xh, rfl, hlh, hxh, h0, h1, h2, h3, h4, h5, h6, h7, h8, h9, h10, h11, h12, h13, h14, h15, h16, hsh⟩ := (HS2.out.below HB.out).at hlt
            rw [hxh] at HOK
            have HSh := Lib.hid hsh
            clear hsh hxh
            by_cases h7 : xh.kind = 1
            · have q7 : (xh.kind == 1) = true := by rw [h7]; rfl
              clear h1 h2 h3 h4 h5 h6 h7 h8 h9 h10 h11 h12 h13 h14 h15 h16
              go_wp2_with fail
              go_roundw
              case rel => exact ⟨k + 1, st3, by go_num, by omega, HR.out, HG.out, HB.out⟩
              case measure => simp [intOf]; omega
            · have q7 : (xh.kind == 1) = false := beq_eq_false_iff_ne.2 h7
              have H7 := Lib.hid h7
              clear h7
              obtain ⟨rr, hrr⟩ : ∃ r, doC st3 xh = r := ⟨_, rfl⟩
              have HH0 := Lib.hid h0
              go_wp2_with fail
              refine (do_b HR.out (fun k hk => Nat.le_trans HB.out.size hk) xh Ah dh HSh.out HOK.out (HM.out.below HB.out) (HD.out.below HB.out) (fun k hk => by have := HP.out; omega) hrr).mono ?_
              rintro e w6 ⟨B, d', rfl, hss, _, hr, hm⟩
              have HR6 := Lib.hid hr
              have HB6 := Lib.hid (HB.out.trans (hm.toBelow HB.out.size (fun _ h => h)))
              have HRR := Lib.hid hrr
              have HMD := Lib.hid hm
              clear hss hr hm hrr h0 h1 h2 h3 h4 h5 h6 h7 h8 h9 h10 h11 h12 h13 h14 h15 h16
              go_upto_region 18 with fail
              obtain ⟨w7, hw⟩ : ∃ w', w' = w6.alloc (.cells #[.string rr.2.g.user, .string rr.2.g.client, .string rr.2.g.tenant, .string rr.2.g.session, .string rr.2.g.redirect, .string rr.2.g.nonce, .string rr.2.g.challenge, .int .i64 rr.2.g.method, .slice B rr.2.g.scopes.length d', .int .i64 rr.2.g.auth, .int .i64 rr.2.g.level, .int .i64 rr.2.n, .bool rr.2.yes, .bool rr.2.also, .int .i64 rr.2.e] 37) := ⟨_, rfl⟩
              have hb7 : Below w6.heap.size w6 w7 := by rw [hw]; go_grown
              rw [← hw]
              have HQ := Lib.hid (show w7.heap[w6.heap.size]? = some (.cells #[.string rr.2.g.user, .string rr.2.g.client, .string rr.2.g.tenant, .string rr.2.g.session, .string rr.2.g.redirect, .string rr.2.g.nonce, .string rr.2.g.challenge, .int .i64 rr.2.g.method, .slice B rr.2.g.scopes.length d', .int .i64 rr.2.g.auth, .int .i64 rr.2.g.level, .int .i64 rr.2.n, .bool rr.2.yes, .bool rr.2.also, .int .i64 rr.2.e] 37 (0, 0)) by rw [hw]; exact heap_alloc_new _ _)
              have HB7 := Lib.hid (HB6.out.trans (hb7.mono HB6.out.size))
              have HR7 := Lib.hid (HR6.out.below hb7)
              have g0 := cell_below hb7 (cell_mods HMD.out HH0.out (HS2.out.blk (by omega) rfl))
              have e4 := cell_block HQ.out 14
              have e0 := cell_block HQ.out 3
              simp only [List.getElem?_toArray, List.getElem?_cons_zero, List.getElem?_cons_succ] at e4 e0
              clear hw hb7
              have HG7 := Lib.hid (show Gone (isSes name) rr.1 by rw [← HRR.out]; exact gone_back (isSes_g name) (back_do st3 xh H7.out) HG.out)
              by_cases hk2 : xh.kind = 2 ∨ xh.kind = 3
              · by_cases hre : rr.2.e = 0
                · have hne : ¬ rr.2.g.session = name := by
                    obtain ⟨x, hx1, hx2⟩ := gone_hit (show isRed xh from hk2) (by rw [HRR.out]; exact hre) HG.out
                    rw [HRR.out] at hx2
                    rw [hx2]
                    unfold isSes at hx1
                    exact of_decide_eq_false hx1
                  have hnb : (rr.2.g.session.toList == name.toList) = false := by rw [beq_bs]; simpa using hne
                  have hre2 : (rr.2.e == 0) = true := by rw [hre]; rfl
                  clear hne
                  rcases hk2 with hk2 | hk2
                  · have hk2b : (xh.kind == 2) = true := by rw [hk2]; rfl
                    go_wp2_with fail
                    go_roundw
                    case rel => exact ⟨k + 1, _, by go_num, by omega, HR7.out, HG7.out, HB7.out⟩
                    case measure => simp [intOf]; omega
                  · have hk2b : (xh.kind == 3) = true := by rw [hk2]; rfl
                    have hk22b : (xh.kind == 2) = false := beq_eq_false_iff_ne.2 (by omega)
                    go_wp2_with fail
                    go_roundw
                    case rel => exact ⟨k + 1, _, by go_num, by omega, HR7.out, HG7.out, HB7.out⟩
                    case measure => simp [intOf]; omega
                · have hre2 : (rr.2.e == 0) = false := beq_eq_false_iff_ne.2 hre
                  rcases hk2 with hk2 | hk2
                  · have hk2b : (xh.kind == 2) = true := by rw [hk2]; rfl
                    go_wp2_with fail
                    go_roundw
                    case rel => exact ⟨k + 1, _, by go_num, by omega, HR7.out, HG7.out, HB7.out⟩
                    case measure => simp [intOf]; omega
                  · have hk2b : (xh.kind == 3) = true := by rw [hk2]; rfl
                    have hk22b : (xh.kind == 2) = false := beq_eq_false_iff_ne.2 (by omega)
                    go_wp2_with fail
                    go_roundw
                    case rel => exact ⟨k + 1, _, by go_num, by omega, HR7.out, HG7.out, HB7.out⟩
                    case measure => simp [intOf]; omega
              · have hk2b : (xh.kind == 2) = false := beq_eq_false_iff_ne.2 (fun e => hk2 (Or.inl e))
                have hk3b : (xh.kind == 3) = false := beq_eq_false_iff_ne.2 (fun e => hk2 (Or.inr e))
                clear hk2
                go_wp2_with fail
                go_roundw
                case rel => exact ⟨k + 1, _, by go_num, by omega, HR7.out, HG7.out, HB7.out⟩
                case measure => simp [intOf]; omega
          · go_wp2_with fail
            go_ret
            exact ⟨rfl, FIN.out _ HB.out⟩
theorem drops_any (w0 : World) (life : Int) (A : Option Addr) (n c : Nat) (l : List Opc) (A2 : Option Addr) (n2 c2 : Nat) (l2 : List Opc) (name : Bs) (user : Bool) (hs : Os w0 A n c l) (hs2 : Os w0 A2 n2 c2 l2) (hm : MX w0) (hd : DG w0) :
    Calls Tryd.prog 5 #[.int .i64 life, .slice A n c, .slice A2 n2 c2, .string name, .bool user] w0 fun e w' => e = .returned (.bool true) ∧ Below w0.heap.size w0 w' := by
  cases user with
  | true => exact drops_usr w0 life A n c l A2 n2 c2 l2 name hs hs2 hm hd
  | false => exact drops_ses w0 life A n c l A2 n2 c2 l2 name hs hs2 hm hd
end Go.Proofs.YtioabjniipkncaaDoor.Rc
