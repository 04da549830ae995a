/-
  The walk of the statement RefreshEnded.
-/
import Derived.Test.YtfeljihbaekfmaaRfL0
import Derived.KernelRfl
namespace Go.Proofs.Ytfeljihbaekfmaa.Rf
open Go.RowKit Go.Proofs.Ytfeljihbaekfmaa.Fo

theorem lit_no {s t : Bs} {l : List UInt8} (e : l = t.toList) (h : decide (s = t) = false) : (s.toList == l) = false := by rw [e, beq_bs]; exact h
def pS (g : Gr) : Bool := decide (g.session = ⟨#[115, 49]⟩)
def pU (g : Gr) : Bool := decide (g.user = ⟨#[97, 110, 110]⟩)
set_option maxRecDepth 100000 in
set_option maxHeartbeats 8000000 in
theorem ended_odd (w : World) (life total kd : Int) (hk0 : 0 ≤ kd) (hkd : kd % 2 = 1) (A : Option Addr) (n c : Nat) (l : List Opx) (A2 : Option Addr) (n2 c2 : Nat) (l2 : List Opx) (hs : Os w A n c l) (hs2 : Os w A2 n2 c2 l2) (hm : MX w) :
    Calls Try.prog 6 #[.int .i64 life, .int .i64 total, .slice A n c, .int .u8 kd, .slice A2 n2 c2] w fun e w' => e = .returned (.bool true) ∧ Below w.heap.size w w' := by
  have HS := Lib.hid hs
  have HS2 := Lib.hid hs2
  have HLN := Lib.hid hs.1
  have HLN2 := Lib.hid hs2.1
  have HM := Lib.hid hm
  have htm : kd.tmod 2 = kd % 2 := Int.tmod_eq_emod_of_nonneg hk0
  have hm1 : (kd.tmod 2 == 1) = true := by rw [htm, hkd]; rfl
  have hm0 : (kd.tmod 2 == 0) = false := by rw [htm, hkd]; rfl
  clear hs hs2 hm hk0 hkd htm
  go_enter Try.func6, Try.ntmps6
  have HBB := Lib.hid (Below.refl w.heap.size w)
  by_cases hl1 : lightB l = true
  · have HL1 := Lib.hid hl1
    clear hl1
    have hn24 : n ≤ 24 := by rw [← HLN.out]; exact light_len HL1.out
    by_cases hl2 : lightB l2 = true
    · have HL2 := Lib.hid hl2
      clear hl2
      have hn25 : n2 ≤ 24 := by rw [← HLN2.out]; exact light_len HL2.out
      go_wp2_with fail
      refine (light_is w A n c l HS.out HL1.out).mono ?_
      rintro e w1 ⟨rfl, hb⟩
      have Hw1 := Lib.hid ((HBB.out).trans (hb.mono (HBB.out).size))
      clear hb
      go_wp2_with fail
      refine (light_is w1 A2 n2 c2 l2 (HS2.out.below Hw1.out) HL2.out).mono ?_
      rintro e w2 ⟨rfl, hb⟩
      have Hw2 := Lib.hid ((Hw1.out).trans (hb.mono (Hw1.out).size))
      clear hb
      by_cases hlf : 1 ≤ limI life ∧ 1 ≤ limI total
      · go_wp2_with fail
        refine (new_b (l := life) (t := total) hlf rfl).mono ?_
        rintro e w4 ⟨F, rfl, hr4, hb4⟩
        have HB4 := Lib.hid (Hw2.out.trans (hb4.mono Hw2.out.size))
        have HR4 := Lib.hid (hr4.mono (T' := (fun k => w.heap.size ≤ k)) (fun k _ e => Nat.le_trans Hw2.out.size e))
        clear hr4 hb4
        go_wp2_with fail
        go_loopw [13] (fun i wr => ∃ (k : Nat) (st : St), i = .int .i64 k ∧ k ≤ n ∧ RepB wr (fun k => w.heap.size ≤ k) F st ∧ Below w.heap.size w wr) (fun i _ => n - (intOf i).toNat)
        case atStart => exact ⟨0, _, rfl, Nat.zero_le _, HR4.out, HB4.out⟩
        case round =>
          obtain ⟨k, st, rfl, hk, hrep, hb⟩ := hrel
          have HR := Lib.hid hrep
          have HB := Lib.hid hb
          clear hrep hb
          by_cases hlt : k < n
          · have HOK := Lib.hid (light_at HL1.out (k := k) (by rw [HLN.out]; exact hlt))
            obtain ⟨bh, oh, Ah, dh, xh, rfl, hlh, hxh, h0, h1, h2, h3, h4, h5, h6, h7, h8, hsh, hzh⟩ := HS.out.at (by omega : k < n)
            have h0' := (bkeep HB.out hlh _).trans h0
            have h1' := (bkeep HB.out hlh _).trans h1
            have h2' := (bkeep HB.out hlh _).trans h2
            have h3' := (bkeep HB.out hlh _).trans h3
            have h4' := (bkeep HB.out hlh _).trans h4
            have h5' := (bkeep HB.out hlh _).trans h5
            have h6' := (bkeep HB.out hlh _).trans h6
            have h7' := (bkeep HB.out hlh _).trans h7
            have h8' := (bkeep HB.out hlh _).trans h8
            rw [hxh] at HOK
            have HSh := Lib.hid hsh
            have HZh := Lib.hid hzh
            clear h0 h1 h2 h3 h4 h5 h6 h7 h8 hxh hsh hzh
            go_wp2_with fail
            refine (do_b HR.out (fun k hk => Nat.le_trans HB.out.size hk) xh Ah dh (HSh.out.below HB.out) HOK.out (HM.out.below HB.out) (fun a ha hl hT => absurd (HZh.out a ha hl) (by omega)) rfl).mono ?_
            rintro e w5 ⟨A5, d5, rfl, _, _, hr5, hm5⟩
            have HR5 := Lib.hid hr5
            have HB5 := Lib.hid (HB.out.trans (hm5.toBelow HB.out.size (fun _ h => h)))
            clear hr5 hm5 h0' h1' h2' h3' h4' h5' h6' h7' h8'
            go_wp2
            go_roundw
            case rel => exact ⟨k + 1, _, by go_num, by omega, HR5.out, HB5.out⟩
            case measure => simp [intOf]; omega
          · go_wp2_with fail
            refine (revSes_b HR.out (fun k hk => Nat.le_trans HB.out.size hk) ⟨#[115, 49]⟩ rfl rfl).mono ?_
            rintro e w6 ⟨rfl, hr6, hm6⟩
            have HR6 := Lib.hid hr6
            have HB6 := Lib.hid (HB.out.trans (hm6.toBelow HB.out.size (fun _ h => h)))
            have HS6 := Lib.hid (show Shut pS (endS (isSes ⟨#[115, 49]⟩) st) from shut_end pS st)
            clear hr6 hm6
            go_wp2_with fail
            refine (revUsr_b HR6.out (fun k hk => Nat.le_trans HB6.out.size hk) ⟨#[97, 110, 110]⟩ rfl rfl).mono ?_
            rintro e w7 ⟨rfl, hr7, hm7⟩
            have HR7 := Lib.hid hr7
            have HB7 := Lib.hid (HB6.out.trans (hm7.toBelow HB6.out.size (fun _ h => h)))
            have HS7 := Lib.hid (show Shut pS (endS (isUsr ⟨#[97, 110, 110]⟩) (endS (isSes ⟨#[115, 49]⟩) st)) from HS6.out.back (back_end _ _))
            have HU7 := Lib.hid (show Shut pU (endS (isUsr ⟨#[97, 110, 110]⟩) (endS (isSes ⟨#[115, 49]⟩) st)) from shut_end pU _)
            clear hr7 hm7
            go_wp2_with fail
            go_loopw [14, 15, 16] (fun i _ _ wr => ∃ (k : Nat) (st2 : St), i = .int .i64 k ∧ k ≤ n2 ∧ RepB wr (fun k => w.heap.size ≤ k) F st2 ∧ Below w.heap.size w wr ∧ Shut pS st2 ∧ Shut pU st2) (fun i _ _ _ => n2 - (intOf i).toNat)
            case atStart => exact ⟨0, _, rfl, Nat.zero_le _, HR7.out, HB7.out, HS7.out, HU7.out⟩
            case round =>
              obtain ⟨j, st2, rfl, hj, hrep2, hb2, hs2, hu2⟩ := hrel
              have HR9 := Lib.hid hrep2
              have HB9 := Lib.hid hb2
              have HS9 := Lib.hid hs2
              have HU9 := Lib.hid hu2
              clear hrep2 hb2 hs2 hu2
              by_cases hlt2 : j < n2
              · have HOK2 := Lib.hid (light_at HL2.out (k := j) (by rw [HLN2.out]; exact hlt2))
                obtain ⟨bg, og, Ag, dg, xg, rfl, hlg, hxg, g0, g1, g2, g3, g4, g5, g6, g7, g8, hsg, hzg⟩ := HS2.out.at (by omega : j < n2)
                have g0' := (bkeep HB9.out hlg _).trans g0
                have g1' := (bkeep HB9.out hlg _).trans g1
                have g2' := (bkeep HB9.out hlg _).trans g2
                have g3' := (bkeep HB9.out hlg _).trans g3
                have g4' := (bkeep HB9.out hlg _).trans g4
                have g5' := (bkeep HB9.out hlg _).trans g5
                have g6' := (bkeep HB9.out hlg _).trans g6
                have g7' := (bkeep HB9.out hlg _).trans g7
                have g8' := (bkeep HB9.out hlg _).trans g8
                rw [hxg] at HOK2
                have HSg := Lib.hid hsg
                have HZg := Lib.hid hzg
                have G0 := Lib.hid g0
                clear g0 g1 g2 g3 g4 g5 g6 g7 g8 hxg hsg hzg
                by_cases hc0 : xg.call = 0
                · have hcb : (xg.call == 0) = true := by rw [hc0]; rfl
                  clear hc0
                  go_wp2
                  go_roundw
                  case rel => exact ⟨j + 1, _, by go_num, by omega, HR9.out, HB9.out, HS9.out, HU9.out⟩
                  case measure => simp [intOf]; omega
                · have hcb : (xg.call == 0) = false := beq_eq_false_iff_ne.2 hc0
                  have HC0 := Lib.hid hc0
                  clear hc0
                  obtain ⟨r2, hr2⟩ : ∃ r, doS st2 xg = r := ⟨_, rfl⟩
                  go_wp2_with fail
                  refine (do_b HR9.out (fun k hk => Nat.le_trans HB9.out.size hk) xg Ag dg (HSg.out.below HB9.out) HOK2.out (HM.out.below HB9.out) (fun a ha hl hT => absurd (HZg.out a ha hl) (by omega)) hr2).mono ?_
                  rintro e w10 ⟨A10, d10, rfl, _, _, hr10, hm10⟩
                  have HR10 := Lib.hid hr10
                  have HB10 := Lib.hid (HB9.out.trans (hm10.toBelow HB9.out.size (fun _ h => h)))
                  have HDO := Lib.hid hr2
                  clear hr2 hr10 hm10 g0' g1' g2' g3' g4' g5' g6' g7' g8' hcb
                  go_upto_region 18 with fail
                  obtain ⟨w11, hw11⟩ : ∃ w', w' = w10.alloc (.cells #[.string r2.2.1.user, .string r2.2.1.client, .string r2.2.1.tenant, .string r2.2.1.session, .string r2.2.1.redirect, .string r2.2.1.nonce, .string r2.2.1.challenge, .int .i64 r2.2.1.method, (.slice A10 r2.2.1.scopes.length d10), .int .i64 r2.2.1.auth, .int .i64 r2.2.1.level] 35) := ⟨_, rfl⟩
                  have hb11 : Below w10.heap.size w10 w11 := by rw [hw11]; go_grown
                  have HQ := Lib.hid (show w11.heap[w10.heap.size]? = some (.cells #[.string r2.2.1.user, .string r2.2.1.client, .string r2.2.1.tenant, .string r2.2.1.session, .string r2.2.1.redirect, .string r2.2.1.nonce, .string r2.2.1.challenge, .int .i64 r2.2.1.method, (.slice A10 r2.2.1.scopes.length d10), .int .i64 r2.2.1.auth, .int .i64 r2.2.1.level] 35 (0, 0)) by rw [hw11]; exact heap_alloc_new _ _)
                  rw [← hw11]
                  have HB11 := Lib.hid (HB10.out.trans (hb11.mono HB10.out.size))
                  have HR11 := Lib.hid (HR10.out.below hb11)
                  have HBK := Lib.hid (show Back st2 r2.1 by rw [← HDO.out]; exact back_do (Or.inl HC0.out))
                  have HS11 := Lib.hid (show Shut pS r2.1 from HS9.out.back HBK.out)
                  have HU11 := Lib.hid (show Shut pU r2.1 from HU9.out.back HBK.out)
                  clear hw11 hb11
                  have g0' := cell_below HB11.out G0.out
                  by_cases hc1 : xg.call = 1
                  · have hc1b : (xg.call == 1) = true := by rw [hc1]; rfl
                    by_cases hn0 : r2.2.2 = 0
                    · have hnb : (r2.2.2 == 0) = true := by rw [hn0]; rfl
                      have HRO := Lib.hid (show rot st2 xg.tok xg.nxt xg.cl xg.sc xg.now = r2 by rw [← HDO.out]; unfold doS; rw [if_neg HC0.out, if_pos hc1])
                      have hs0 := shut_rot HS9.out (fun _ _ => rfl) (t := xg.tok) (n := xg.nxt) (c := xg.cl) (sc := xg.sc) (now := xg.now) (by rw [HRO.out]; exact hn0)
                      rw [HRO.out] at hs0
                      have hsb : (r2.2.1.session.toList == [115, 49]) = false := lit_no (by kernel_rfl) hs0
                      have hsn : ¬ r2.2.1.session.toList = [115, 49] := beq_eq_false_iff_ne.1 hsb
                      have hu0 := shut_rot HU9.out (fun _ _ => rfl) (t := xg.tok) (n := xg.nxt) (c := xg.cl) (sc := xg.sc) (now := xg.now) (by rw [HRO.out]; exact hn0)
                      rw [HRO.out] at hu0
                      have hub : (r2.2.1.user.toList == [97, 110, 110]) = false := lit_no (by kernel_rfl) hu0
                      have hun : ¬ r2.2.1.user.toList = [97, 110, 110] := beq_eq_false_iff_ne.1 hub
                      clear hu0
                      obtain ⟨y0, y1, y2, y3, y4, y5, y6, y7, y8, y9, y10⟩ := cells11 HQ.out
                      clear hc1 hn0 hs0
                      go_wp2
                      go_roundw
                      case rel => exact ⟨j + 1, _, by go_num, by omega, HR11.out, HB11.out, HS11.out, HU11.out⟩
                      case measure => simp [intOf]; omega
                    · have hnb : (r2.2.2 == 0) = false := beq_eq_false_iff_ne.2 hn0
                      clear hc1 hn0
                      go_wp2
                      go_roundw
                      case rel => exact ⟨j + 1, _, by go_num, by omega, HR11.out, HB11.out, HS11.out, HU11.out⟩
                      case measure => simp [intOf]; omega
                  · have hc1b : (xg.call == 1) = false := beq_eq_false_iff_ne.2 hc1
                    clear hc1
                    go_wp2
                    go_roundw
                    case rel => exact ⟨j + 1, _, by go_num, by omega, HR11.out, HB11.out, HS11.out, HU11.out⟩
                    case measure => simp [intOf]; omega
              · go_wp2_with fail
                refine (revSes_b HR9.out (fun k hk => Nat.le_trans HB9.out.size hk) ⟨#[115, 49]⟩ (shut_none HS9.out) rfl).mono ?_
                rintro e w12 ⟨rfl, hr12, hm12⟩
                have HR12 := Lib.hid hr12
                have HB12 := Lib.hid (HB9.out.trans (hm12.toBelow HB9.out.size (fun _ h => h)))
                clear hr12 hm12
                go_wp2_with fail
                have HU12 := Lib.hid (show Shut pU (endS (isSes ⟨#[115, 49]⟩) st2) from HU9.out.back (back_end _ _))
                refine (revUsr_b HR12.out (fun k hk => Nat.le_trans HB12.out.size hk) ⟨#[97, 110, 110]⟩ (shut_none HU12.out) rfl).mono ?_
                rintro e w13 ⟨rfl, hr13, hm13⟩
                have HB13 := Lib.hid (HB12.out.trans (hm13.toBelow HB12.out.size (fun _ h => h)))
                clear hr13 hm13
                go_wp2_with fail
                refine (awake_any w13 (HM.out.below HB13.out)).mono ?_
                rintro e wz ⟨rfl, hbz⟩
                have HBZ := Lib.hid ((HB13.out).trans (hbz.mono (HB13.out).size))
                clear hbz
                go_wp2
                go_ret
                exact ⟨rfl, HBZ.out⟩
      · go_wp2_with fail
        refine (new_no (l := life) (t := total) (by omega)).mono ?_
        rintro e w4 ⟨rfl, rfl⟩
        go_wp2_with fail
        refine (awake_any w2 (HM.out.below Hw2.out)).mono ?_
        rintro e wz ⟨rfl, hbz⟩
        have HBZ := Lib.hid ((Hw2.out).trans (hbz.mono (Hw2.out).size))
        clear hbz
        go_wp2
        go_ret
        exact ⟨rfl, HBZ.out⟩
    · have HL2 := Lib.hid (show lightB l2 = false by simpa using hl2)
      clear hl2
      go_wp2_with fail
      refine (light_is w A n c l HS.out HL1.out).mono ?_
      rintro e w1 ⟨rfl, hb⟩
      have Hw1 := Lib.hid ((HBB.out).trans (hb.mono (HBB.out).size))
      clear hb
      go_wp2_with fail
      refine (light_is w1 A2 n2 c2 l2 (HS2.out.below Hw1.out) HL2.out).mono ?_
      rintro e w2 ⟨rfl, hb⟩
      have Hw2 := Lib.hid ((Hw1.out).trans (hb.mono (Hw1.out).size))
      clear hb
      go_wp2_with fail
      refine (awake_any w2 (HM.out.below Hw2.out)).mono ?_
      rintro e wz ⟨rfl, hbz⟩
      have HBZ := Lib.hid ((Hw2.out).trans (hbz.mono (Hw2.out).size))
      clear hbz
      go_wp2
      go_ret
      exact ⟨rfl, HBZ.out⟩
  · have HL1 := Lib.hid (show lightB l = false by simpa using hl1)
    clear hl1
    go_wp2_with fail
    refine (light_is w A n c l HS.out HL1.out).mono ?_
    rintro e w1 ⟨rfl, hb⟩
    have Hw1 := Lib.hid ((HBB.out).trans (hb.mono (HBB.out).size))
    clear hb
    go_wp2_with fail
    refine (awake_any w1 (HM.out.below Hw1.out)).mono ?_
    rintro e wz ⟨rfl, hbz⟩
    have HBZ := Lib.hid ((Hw1.out).trans (hbz.mono (Hw1.out).size))
    clear hbz
    go_wp2
    go_ret
    exact ⟨rfl, HBZ.out⟩
set_option maxRecDepth 100000 in
set_option maxHeartbeats 8000000 in
theorem ended_even (w : World) (life total kd : Int) (hk0 : 0 ≤ kd) (hkd : kd % 2 = 0) (A : Option Addr) (n c : Nat) (l : List Opx) (A2 : Option Addr) (n2 c2 : Nat) (l2 : List Opx) (hs : Os w A n c l) (hs2 : Os w A2 n2 c2 l2) (hm : MX w) :
    Calls Try.prog 6 #[.int .i64 life, .int .i64 total, .slice A n c, .int .u8 kd, .slice A2 n2 c2] w fun e w' => e = .returned (.bool true) ∧ Below w.heap.size w w' := by
  have HS := Lib.hid hs
  have HS2 := Lib.hid hs2
  have HLN := Lib.hid hs.1
  have HLN2 := Lib.hid hs2.1
  have HM := Lib.hid hm
  have htm : kd.tmod 2 = kd % 2 := Int.tmod_eq_emod_of_nonneg hk0
  have hm1 : (kd.tmod 2 == 1) = false := by rw [htm, hkd]; rfl
  have hm0 : (kd.tmod 2 == 0) = true := by rw [htm, hkd]; rfl
  clear hs hs2 hm hk0 hkd htm
  go_enter Try.func6, Try.ntmps6
  have HBB := Lib.hid (Below.refl w.heap.size w)
  by_cases hl1 : lightB l = true
  · have HL1 := Lib.hid hl1
    clear hl1
    have hn24 : n ≤ 24 := by rw [← HLN.out]; exact light_len HL1.out
    by_cases hl2 : lightB l2 = true
    · have HL2 := Lib.hid hl2
      clear hl2
      have hn25 : n2 ≤ 24 := by rw [← HLN2.out]; exact light_len HL2.out
      go_wp2_with fail
      refine (light_is w A n c l HS.out HL1.out).mono ?_
      rintro e w1 ⟨rfl, hb⟩
      have Hw1 := Lib.hid ((HBB.out).trans (hb.mono (HBB.out).size))
      clear hb
      go_wp2_with fail
      refine (light_is w1 A2 n2 c2 l2 (HS2.out.below Hw1.out) HL2.out).mono ?_
      rintro e w2 ⟨rfl, hb⟩
      have Hw2 := Lib.hid ((Hw1.out).trans (hb.mono (Hw1.out).size))
      clear hb
      by_cases hlf : 1 ≤ limI life ∧ 1 ≤ limI total
      · go_wp2_with fail
        refine (new_b (l := life) (t := total) hlf rfl).mono ?_
        rintro e w4 ⟨F, rfl, hr4, hb4⟩
        have HB4 := Lib.hid (Hw2.out.trans (hb4.mono Hw2.out.size))
        have HR4 := Lib.hid (hr4.mono (T' := (fun k => w.heap.size ≤ k)) (fun k _ e => Nat.le_trans Hw2.out.size e))
        clear hr4 hb4
        go_wp2_with fail
        go_loopw [13] (fun i wr => ∃ (k : Nat) (st : St), i = .int .i64 k ∧ k ≤ n ∧ RepB wr (fun k => w.heap.size ≤ k) F st ∧ Below w.heap.size w wr) (fun i _ => n - (intOf i).toNat)
        case atStart => exact ⟨0, _, rfl, Nat.zero_le _, HR4.out, HB4.out⟩
        case round =>
          obtain ⟨k, st, rfl, hk, hrep, hb⟩ := hrel
          have HR := Lib.hid hrep
          have HB := Lib.hid hb
          clear hrep hb
          by_cases hlt : k < n
          · have HOK := Lib.hid (light_at HL1.out (k := k) (by rw [HLN.out]; exact hlt))
            obtain ⟨bh, oh, Ah, dh, xh, rfl, hlh, hxh, h0, h1, h2, h3, h4, h5, h6, h7, h8, hsh, hzh⟩ := HS.out.at (by omega : k < n)
            have h0' := (bkeep HB.out hlh _).trans h0
            have h1' := (bkeep HB.out hlh _).trans h1
            have h2' := (bkeep HB.out hlh _).trans h2
            have h3' := (bkeep HB.out hlh _).trans h3
            have h4' := (bkeep HB.out hlh _).trans h4
            have h5' := (bkeep HB.out hlh _).trans h5
            have h6' := (bkeep HB.out hlh _).trans h6
            have h7' := (bkeep HB.out hlh _).trans h7
            have h8' := (bkeep HB.out hlh _).trans h8
            rw [hxh] at HOK
            have HSh := Lib.hid hsh
            have HZh := Lib.hid hzh
            clear h0 h1 h2 h3 h4 h5 h6 h7 h8 hxh hsh hzh
            go_wp2_with fail
            refine (do_b HR.out (fun k hk => Nat.le_trans HB.out.size hk) xh Ah dh (HSh.out.below HB.out) HOK.out (HM.out.below HB.out) (fun a ha hl hT => absurd (HZh.out a ha hl) (by omega)) rfl).mono ?_
            rintro e w5 ⟨A5, d5, rfl, _, _, hr5, hm5⟩
            have HR5 := Lib.hid hr5
            have HB5 := Lib.hid (HB.out.trans (hm5.toBelow HB.out.size (fun _ h => h)))
            clear hr5 hm5 h0' h1' h2' h3' h4' h5' h6' h7' h8'
            go_wp2
            go_roundw
            case rel => exact ⟨k + 1, _, by go_num, by omega, HR5.out, HB5.out⟩
            case measure => simp [intOf]; omega
          · go_wp2_with fail
            refine (revSes_b HR.out (fun k hk => Nat.le_trans HB.out.size hk) ⟨#[115, 49]⟩ rfl rfl).mono ?_
            rintro e w6 ⟨rfl, hr6, hm6⟩
            have HR6 := Lib.hid hr6
            have HB6 := Lib.hid (HB.out.trans (hm6.toBelow HB.out.size (fun _ h => h)))
            have HS6 := Lib.hid (show Shut pS (endS (isSes ⟨#[115, 49]⟩) st) from shut_end pS st)
            clear hr6 hm6
            go_wp2_with fail
            go_loopw [14, 15, 16] (fun i _ _ wr => ∃ (k : Nat) (st2 : St), i = .int .i64 k ∧ k ≤ n2 ∧ RepB wr (fun k => w.heap.size ≤ k) F st2 ∧ Below w.heap.size w wr ∧ Shut pS st2) (fun i _ _ _ => n2 - (intOf i).toNat)
            case atStart => exact ⟨0, _, rfl, Nat.zero_le _, HR6.out, HB6.out, HS6.out⟩
            case round =>
              obtain ⟨j, st2, rfl, hj, hrep2, hb2, hs2⟩ := hrel
              have HR9 := Lib.hid hrep2
              have HB9 := Lib.hid hb2
              have HS9 := Lib.hid hs2

              clear hrep2 hb2 hs2
              by_cases hlt2 : j < n2
              · have HOK2 := Lib.hid (light_at HL2.out (k := j) (by rw [HLN2.out]; exact hlt2))
                obtain ⟨bg, og, Ag, dg, xg, rfl, hlg, hxg, g0, g1, g2, g3, g4, g5, g6, g7, g8, hsg, hzg⟩ := HS2.out.at (by omega : j < n2)
                have g0' := (bkeep HB9.out hlg _).trans g0
                have g1' := (bkeep HB9.out hlg _).trans g1
                have g2' := (bkeep HB9.out hlg _).trans g2
                have g3' := (bkeep HB9.out hlg _).trans g3
                have g4' := (bkeep HB9.out hlg _).trans g4
                have g5' := (bkeep HB9.out hlg _).trans g5
                have g6' := (bkeep HB9.out hlg _).trans g6
                have g7' := (bkeep HB9.out hlg _).trans g7
                have g8' := (bkeep HB9.out hlg _).trans g8
                rw [hxg] at HOK2
                have HSg := Lib.hid hsg
                have HZg := Lib.hid hzg
                have G0 := Lib.hid g0
                clear g0 g1 g2 g3 g4 g5 g6 g7 g8 hxg hsg hzg
                by_cases hc0 : xg.call = 0
                · have hcb : (xg.call == 0) = true := by rw [hc0]; rfl
                  clear hc0
                  go_wp2
                  go_roundw
                  case rel => exact ⟨j + 1, _, by go_num, by omega, HR9.out, HB9.out, HS9.out⟩
                  case measure => simp [intOf]; omega
                · have hcb : (xg.call == 0) = false := beq_eq_false_iff_ne.2 hc0
                  have HC0 := Lib.hid hc0
                  clear hc0
                  obtain ⟨r2, hr2⟩ : ∃ r, doS st2 xg = r := ⟨_, rfl⟩
                  go_wp2_with fail
                  refine (do_b HR9.out (fun k hk => Nat.le_trans HB9.out.size hk) xg Ag dg (HSg.out.below HB9.out) HOK2.out (HM.out.below HB9.out) (fun a ha hl hT => absurd (HZg.out a ha hl) (by omega)) hr2).mono ?_
                  rintro e w10 ⟨A10, d10, rfl, _, _, hr10, hm10⟩
                  have HR10 := Lib.hid hr10
                  have HB10 := Lib.hid (HB9.out.trans (hm10.toBelow HB9.out.size (fun _ h => h)))
                  have HDO := Lib.hid hr2
                  clear hr2 hr10 hm10 g0' g1' g2' g3' g4' g5' g6' g7' g8' hcb
                  go_upto_region 18 with fail
                  obtain ⟨w11, hw11⟩ : ∃ w', w' = w10.alloc (.cells #[.string r2.2.1.user, .string r2.2.1.client, .string r2.2.1.tenant, .string r2.2.1.session, .string r2.2.1.redirect, .string r2.2.1.nonce, .string r2.2.1.challenge, .int .i64 r2.2.1.method, (.slice A10 r2.2.1.scopes.length d10), .int .i64 r2.2.1.auth, .int .i64 r2.2.1.level] 35) := ⟨_, rfl⟩
                  have hb11 : Below w10.heap.size w10 w11 := by rw [hw11]; go_grown
                  have HQ := Lib.hid (show w11.heap[w10.heap.size]? = some (.cells #[.string r2.2.1.user, .string r2.2.1.client, .string r2.2.1.tenant, .string r2.2.1.session, .string r2.2.1.redirect, .string r2.2.1.nonce, .string r2.2.1.challenge, .int .i64 r2.2.1.method, (.slice A10 r2.2.1.scopes.length d10), .int .i64 r2.2.1.auth, .int .i64 r2.2.1.level] 35 (0, 0)) by rw [hw11]; exact heap_alloc_new _ _)
                  rw [← hw11]
                  have HB11 := Lib.hid (HB10.out.trans (hb11.mono HB10.out.size))
                  have HR11 := Lib.hid (HR10.out.below hb11)
                  have HBK := Lib.hid (show Back st2 r2.1 by rw [← HDO.out]; exact back_do (Or.inl HC0.out))
                  have HS11 := Lib.hid (show Shut pS r2.1 from HS9.out.back HBK.out)

                  clear hw11 hb11
                  have g0' := cell_below HB11.out G0.out
                  by_cases hc1 : xg.call = 1
                  · have hc1b : (xg.call == 1) = true := by rw [hc1]; rfl
                    by_cases hn0 : r2.2.2 = 0
                    · have hnb : (r2.2.2 == 0) = true := by rw [hn0]; rfl
                      have HRO := Lib.hid (show rot st2 xg.tok xg.nxt xg.cl xg.sc xg.now = r2 by rw [← HDO.out]; unfold doS; rw [if_neg HC0.out, if_pos hc1])
                      have hs0 := shut_rot HS9.out (fun _ _ => rfl) (t := xg.tok) (n := xg.nxt) (c := xg.cl) (sc := xg.sc) (now := xg.now) (by rw [HRO.out]; exact hn0)
                      rw [HRO.out] at hs0
                      have hsb : (r2.2.1.session.toList == [115, 49]) = false := lit_no (by kernel_rfl) hs0
                      have hsn : ¬ r2.2.1.session.toList = [115, 49] := beq_eq_false_iff_ne.1 hsb
                      obtain ⟨y0, y1, y2, y3, y4, y5, y6, y7, y8, y9, y10⟩ := cells11 HQ.out
                      clear hc1 hn0 hs0
                      go_wp2
                      go_roundw
                      case rel => exact ⟨j + 1, _, by go_num, by omega, HR11.out, HB11.out, HS11.out⟩
                      case measure => simp [intOf]; omega
                    · have hnb : (r2.2.2 == 0) = false := beq_eq_false_iff_ne.2 hn0
                      clear hc1 hn0
                      go_wp2
                      go_roundw
                      case rel => exact ⟨j + 1, _, by go_num, by omega, HR11.out, HB11.out, HS11.out⟩
                      case measure => simp [intOf]; omega
                  · have hc1b : (xg.call == 1) = false := beq_eq_false_iff_ne.2 hc1
                    clear hc1
                    go_wp2
                    go_roundw
                    case rel => exact ⟨j + 1, _, by go_num, by omega, HR11.out, HB11.out, HS11.out⟩
                    case measure => simp [intOf]; omega
              · go_wp2_with fail
                refine (revSes_b HR9.out (fun k hk => Nat.le_trans HB9.out.size hk) ⟨#[115, 49]⟩ (shut_none HS9.out) rfl).mono ?_
                rintro e w12 ⟨rfl, hr12, hm12⟩
                have HR12 := Lib.hid hr12
                have HB12 := Lib.hid (HB9.out.trans (hm12.toBelow HB9.out.size (fun _ h => h)))
                clear hr12 hm12
                go_wp2_with fail
                refine (awake_any w12 (HM.out.below HB12.out)).mono ?_
                rintro e wz ⟨rfl, hbz⟩
                have HBZ := Lib.hid ((HB12.out).trans (hbz.mono (HB12.out).size))
                clear hbz
                go_wp2
                go_ret
                exact ⟨rfl, HBZ.out⟩
      · go_wp2_with fail
        refine (new_no (l := life) (t := total) (by omega)).mono ?_
        rintro e w4 ⟨rfl, rfl⟩
        go_wp2_with fail
        refine (awake_any w2 (HM.out.below Hw2.out)).mono ?_
        rintro e wz ⟨rfl, hbz⟩
        have HBZ := Lib.hid ((Hw2.out).trans (hbz.mono (Hw2.out).size))
        clear hbz
        go_wp2
        go_ret
        exact ⟨rfl, HBZ.out⟩
    · have HL2 := Lib.hid (show lightB l2 = false by simpa using hl2)
      clear hl2
      go_wp2_with fail
      refine (light_is w A n c l HS.out HL1.out).mono ?_
      rintro e w1 ⟨rfl, hb⟩
      have Hw1 := Lib.hid ((HBB.out).trans (hb.mono (HBB.out).size))
      clear hb
      go_wp2_with fail
      refine (light_is w1 A2 n2 c2 l2 (HS2.out.below Hw1.out) HL2.out).mono ?_
      rintro e w2 ⟨rfl, hb⟩
      have Hw2 := Lib.hid ((Hw1.out).trans (hb.mono (Hw1.out).size))
      clear hb
      go_wp2_with fail
      refine (awake_any w2 (HM.out.below Hw2.out)).mono ?_
      rintro e wz ⟨rfl, hbz⟩
      have HBZ := Lib.hid ((Hw2.out).trans (hbz.mono (Hw2.out).size))
      clear hbz
      go_wp2
      go_ret
      exact ⟨rfl, HBZ.out⟩
  · have HL1 := Lib.hid (show lightB l = false by simpa using hl1)
    clear hl1
    go_wp2_with fail
    refine (light_is w A n c l HS.out HL1.out).mono ?_
    rintro e w1 ⟨rfl, hb⟩
    have Hw1 := Lib.hid ((HBB.out).trans (hb.mono (HBB.out).size))
    clear hb
    go_wp2_with fail
    refine (awake_any w1 (HM.out.below Hw1.out)).mono ?_
    rintro e wz ⟨rfl, hbz⟩
    have HBZ := Lib.hid ((Hw1.out).trans (hbz.mono (Hw1.out).size))
    clear hbz
    go_wp2
    go_ret
    exact ⟨rfl, HBZ.out⟩
theorem ended_any (w : World) (life total kd : Int) (hk0 : 0 ≤ kd) (A : Option Addr) (n c : Nat) (l : List Opx) (A2 : Option Addr) (n2 c2 : Nat) (l2 : List Opx) (hs : Os w A n c l) (hs2 : Os w A2 n2 c2 l2) (hm : MX w) :
    Calls Try.prog 6 #[.int .i64 life, .int .i64 total, .slice A n c, .int .u8 kd, .slice A2 n2 c2] w fun e w' => e = .returned (.bool true) ∧ Below w.heap.size w w' := by
  by_cases h : kd % 2 = 1
  · exact ended_odd w life total kd hk0 h A n c l A2 n2 c2 l2 hs hs2 hm
  · exact ended_even w life total kd hk0 (by omega) A n c l A2 n2 c2 l2 hs hs2 hm
end Go.Proofs.Ytfeljihbaekfmaa.Rf
