/-
  The walk of the statement RefreshLimits.
-/
import Derived.Test.YtfeljihbaekfmaaRfNm
namespace Go.Proofs.Ytfeljihbaekfmaa.Rf
open Go.RowKit Go.Proofs.Ytfeljihbaekfmaa.Fo

theorem clamp (n : Int) : ∃ K : Nat, max 0 (min n 300) = (K : Int) ∧ K ≤ 300 := ⟨(max 0 (min n 300)).toNat, by omega, by omega⟩
/-- The second part's state. -/
def L3 (st : St) (K i : Nat) (last : Bs) : Prop := st.l.length = min K 256 ∧ (∀ x ∈ st.l, FamL x) ∧ (0 < K → L2 st (min K 256) i last)
set_option maxRecDepth 100000 in
set_option maxHeartbeats 8000000 in
theorem limits_any (w : World) (fa tk : Int) (hm : MX w) :
    Calls Try.prog 4 #[.int .i64 fa, .int .i64 tk] w fun e w' => e = .returned (.bool true) ∧ Below w.heap.size w w' := by
  have HM := Lib.hid hm
  have HBB := Lib.hid (Below.refl w.heap.size w)
  clear hm
  obtain ⟨K, hK, hK3⟩ := clamp fa
  obtain ⟨J, hJ, hJ3⟩ := clamp tk
  go_enter Try.func4, Try.ntmps4
  go_upto_region 2 with fail

  clear hK hJ
  go_wp2_with fail
  refine (new_b (l := 10) (t := 100) (st := ⟨10, 100, []⟩) (by decide) (by kernel_rfl)).mono ?_
  rintro e w1 ⟨F, rfl, hr1, hb1⟩
  have HR1 := Lib.hid hr1
  have HB1 := Lib.hid hb1
  clear hr1 hb1
  go_wp2_with fail
  go_loopw [7, 8] (fun v _ wr => ∃ (k : Nat) (st : St), v = .int .i64 k ∧ k ≤ K ∧ RepB wr (fun k => w.heap.size ≤ k) F st ∧ L1 st k ∧ Below w.heap.size w wr) (fun v _ _ => K - (intOf v).toNat)
  case atStart => exact ⟨0, _, rfl, Nat.zero_le _, HR1.out, l1_zero, HB1.out⟩
  case round =>
    obtain ⟨k, st, rfl, hk, hrep, hl1, hb⟩ := hrel
    have HR := Lib.hid hrep
    have HB := Lib.hid hb
    have HL := Lib.hid hl1
    clear hrep hb hl1
    by_cases hlt : k < K
    · obtain ⟨s1, s2⟩ := l1_step HL.out (show k < 300 by omega)
      by_cases h256 : k < 256
      · obtain ⟨e1, e2⟩ := s1 h256
        obtain ⟨st', x, hq⟩ : ∃ st' x, start st (nm k) (tn k) gL 1 = (st', x) := ⟨_, _, rfl⟩
        rw [hq] at e1 e2
        simp only at e1 e2
        subst e1
        have HL2 := Lib.hid e2
        clear s1 s2 e2
        go_wp2_with fail
        refine (name_any k (by omega) _).mono ?_
        rintro e w2 ⟨rfl, hb2⟩
        have HB2 := Lib.hid (HB.out.trans (hb2.mono HB.out.size))
        have HR2 := Lib.hid (HR.out.below hb2)
        clear hb2
        go_wp2_with fail
        refine (name_any k (by omega) _).mono ?_
        rintro e w3 ⟨rfl, hb3⟩
        have HB3 := Lib.hid (HB2.out.trans (hb3.mono HB2.out.size))
        have HR3 := Lib.hid (HR2.out.below hb3)
        clear hb3
        have hz3 : (nm k).size = 3 := rfl
        go_wp2_with fail
        refine (grant_any _ _ _ _ _ _ _).mono ?_
        rintro e w4 ⟨rfl, hb4⟩
        have HB4 := Lib.hid (HB3.out.trans (hb4.mono HB3.out.size))
        have HR4 := Lib.hid (HR3.out.below hb4)
        clear hb4
        go_wp2_with fail
        rw [tn_str]
        refine (start_b HR4.out (fun k hk => Nat.le_trans HB4.out.size hk) (nm k) (tn k) gL none 0 0 1 hq (show 3 ≤ 100000 by omega) (show 4 ≤ 100000 by omega) (by decide) (by decide) (by decide) (Ss.nil _ _ _) (fun i hi => by simp [gL, mkG] at hi) (by omega) (HM.out.below HB4.out)).mono ?_
        rintro e w5 ⟨rfl, hr5, hm5⟩
        have HR5 := Lib.hid hr5
        have HB5 := Lib.hid (HB4.out.trans (hm5.toBelow HB4.out.size (fun _ h => h)))
        clear hr5 hm5 hz3
        go_wp2
        go_roundw
        case rel => exact ⟨k + 1, _, by go_num, by omega, HR5.out, HL2.out, HB5.out⟩
        case measure => simp [intOf]; omega
      · obtain ⟨hq, e2⟩ := s2 (by omega)
        have HL2 := Lib.hid e2
        clear s1 s2 e2
        have h256' : 256 ≤ k := by omega
        go_wp2_with fail
        refine (name_any k (by omega) _).mono ?_
        rintro e w2 ⟨rfl, hb2⟩
        have HB2 := Lib.hid (HB.out.trans (hb2.mono HB.out.size))
        have HR2 := Lib.hid (HR.out.below hb2)
        clear hb2
        go_wp2_with fail
        refine (name_any k (by omega) _).mono ?_
        rintro e w3 ⟨rfl, hb3⟩
        have HB3 := Lib.hid (HB2.out.trans (hb3.mono HB2.out.size))
        have HR3 := Lib.hid (HR2.out.below hb3)
        clear hb3
        have hz3 : (nm k).size = 3 := rfl
        go_wp2_with fail
        refine (grant_any _ _ _ _ _ _ _).mono ?_
        rintro e w4 ⟨rfl, hb4⟩
        have HB4 := Lib.hid (HB3.out.trans (hb4.mono HB3.out.size))
        have HR4 := Lib.hid (HR3.out.below hb4)
        clear hb4
        go_wp2_with fail
        rw [tn_str]
        refine (start_b HR4.out (fun k hk => Nat.le_trans HB4.out.size hk) (nm k) (tn k) gL none 0 0 1 hq (show 3 ≤ 100000 by omega) (show 4 ≤ 100000 by omega) (by decide) (by decide) (by decide) (Ss.nil _ _ _) (fun i hi => by simp [gL, mkG] at hi) (by omega) (HM.out.below HB4.out)).mono ?_
        rintro e w5 ⟨rfl, hr5, hm5⟩
        have HR5 := Lib.hid hr5
        have HB5 := Lib.hid (HB4.out.trans (hm5.toBelow HB4.out.size (fun _ h => h)))
        clear hr5 hm5 hz3
        go_wp2
        go_roundw
        case rel => exact ⟨k + 1, _, by go_num, by omega, HR5.out, HL2.out, HB5.out⟩
        case measure => simp [intOf]; omega
    · have hkK : k = K := by omega
      subst hkK
      go_wp2_with fail
      refine (name_any 0 (by omega) _).mono ?_
      rintro e w2 ⟨rfl, hb2⟩
      have HB2 := Lib.hid (HB.out.trans (hb2.mono HB.out.size))
      have HR2 := Lib.hid (HR.out.below hb2)
      clear hb2 hlt
      have hz3 : (nm 0).size = 3 := rfl
      go_wp2_with fail
      rw [tn_str]
      clear hz3
      have HL3 := Lib.hid (show L3 st k 1 (tn 0) from ⟨HL.out.len, fun x hx => (HL.out.fam x hx).1, fun h => l2_first HL.out h⟩)
      go_loopw [9, 10, 11, 12, 13] (fun v9 v10 _ _ _ wr => ∃ (i : Nat) (st : St) (last : Bs), v9 = .string last ∧ v10 = .int .i64 i ∧ 1 ≤ i ∧ i ≤ 300 ∧ RepB wr (fun k => w.heap.size ≤ k) F st ∧ L3 st k i last ∧ last.size = 4 ∧ Below w.heap.size w wr) (fun _ v10 _ _ _ _ => 300 - (intOf v10).toNat)
      case atStart => exact ⟨1, _, _, rfl, rfl, Nat.le_refl _, by omega, HR2.out, HL3.out, rfl, HB2.out⟩
      case round =>
        obtain ⟨i, st, last, rfl, rfl, hi1, hi3, hrep, hl3, hls, hb⟩ := hrel
        replace HR := Lib.hid hrep
        replace HB := Lib.hid hb
        replace HL := Lib.hid hl3
        clear hrep hb hl3 HL3 HR2 HB2
        by_cases hlt : i < J ∧ 0 < k
        · obtain ⟨hj, h0⟩ := hlt
          obtain ⟨s1, s2⟩ := l2_step (HL.out.2.2 h0) HR.out.inv hi1 (show i < 300 by omega)
          obtain ⟨st', g, m, hrot⟩ : ∃ st' g m, rot st last (rn i) ⟨#[119, 101, 98]⟩ [] 2 = (st', (g, m)) := ⟨_, _, _, rfl⟩
          by_cases h256 : i < 256
          · obtain ⟨e1, e2⟩ := s1 h256
            rw [hrot] at e1 e2
            simp only at e1 e2
            subst e1
            have HL2 := Lib.hid (show L3 st' k (i + 1) (rn i) from ⟨e2.len, fun x hx => (e2.fam x hx).1, fun _ => e2⟩)
            clear s1 s2 e2
            go_wp2_with fail
            refine (name_any i (by omega) _).mono ?_
            rintro e w6 ⟨rfl, hb6⟩
            have HB6 := Lib.hid (HB.out.trans (hb6.mono HB.out.size))
            have HR6 := Lib.hid (HR.out.below hb6)
            clear hb6
            have hz3 : (nm i).size = 3 := rfl
            go_wp2_with fail
            rw [rn_str]
            refine (rotate_b HR6.out last (rn i) ⟨#[119, 101, 98]⟩ [] none 0 0 2 hrot (by omega) (show 4 ≤ 100000 by omega) (Ss.nil _ _ _) (fun i hi => by simp at hi) (by omega) (HM.out.below HB6.out) (fun a ha => by cases ha)).mono ?_
            rintro e w7 ⟨A7, d7, rfl, _, _, hr7, hm7⟩
            have HR7 := Lib.hid (hr7.mono (T' := (fun k => w.heap.size ≤ k)) (fun k _ e => e.1))
            have HB7 := Lib.hid (HB6.out.trans (hm7.toBelow HB6.out.size (fun _ h => h)))
            clear hr7 hm7
            go_upto_region 21 with fail
            obtain ⟨w8, hw8⟩ : ∃ w', w' = w7.alloc (.cells #[.string g.user, .string g.client, .string g.tenant, .string g.session, .string g.redirect, .string g.nonce, .string g.challenge, .int .i64 g.method, (.slice A7 g.scopes.length d7), .int .i64 g.auth, .int .i64 g.level] 35) := ⟨_, rfl⟩
            have hb8 : Below w7.heap.size w7 w8 := by rw [hw8]; go_grown
            rw [← hw8]
            have HB8 := Lib.hid (HB7.out.trans (hb8.mono HB7.out.size))
            have HR8 := Lib.hid (HR7.out.below hb8)
            clear hw8 hb8
            go_wp2_with fail
            refine (name_any i (by omega) _).mono ?_
            rintro e w9 ⟨rfl, hb9⟩
            have HB9 := Lib.hid (HB8.out.trans (hb9.mono HB8.out.size))
            have HR9 := Lib.hid (HR8.out.below hb9)
            clear hb9
            go_wp2_with fail
            rw [rn_str]
            clear hz3
            go_roundw
            case rel => exact ⟨i + 1, _, rn i, rfl, by go_num, by omega, by omega, HR9.out, HL2.out, rfl, HB9.out⟩
            case measure => simp [intOf]; omega
          · obtain ⟨e1, e2⟩ := s2 (by omega)
            rw [hrot] at e1
            simp only [Prod.mk.injEq] at e1
            obtain ⟨rfl, rfl, rfl⟩ := e1
            have h256' : 256 ≤ i := by omega
            have HL2 := Lib.hid (show L3 st' k (i + 1) last from ⟨e2.len, fun x hx => (e2.fam x hx).1, fun _ => e2⟩)
            clear s1 s2 e2
            go_wp2_with fail
            refine (name_any i (by omega) _).mono ?_
            rintro e w6 ⟨rfl, hb6⟩
            have HB6 := Lib.hid (HB.out.trans (hb6.mono HB.out.size))
            have HR6 := Lib.hid (HR.out.below hb6)
            clear hb6
            have hz3 : (nm i).size = 3 := rfl
            go_wp2_with fail
            rw [rn_str]
            refine (rotate_b HR6.out last (rn i) ⟨#[119, 101, 98]⟩ [] none 0 0 2 hrot (by omega) (show 4 ≤ 100000 by omega) (Ss.nil _ _ _) (fun i hi => by simp at hi) (by omega) (HM.out.below HB6.out) (fun a ha => by cases ha)).mono ?_
            rintro e w7 ⟨A7, d7, rfl, _, _, hr7, hm7⟩
            have HR7 := Lib.hid (hr7.mono (T' := (fun k => w.heap.size ≤ k)) (fun k _ e => e.1))
            have HB7 := Lib.hid (HB6.out.trans (hm7.toBelow HB6.out.size (fun _ h => h)))
            clear hr7 hm7
            go_upto_region 21 with fail
            obtain ⟨w8, hw8⟩ : ∃ w', w' = w7.alloc (.cells #[.string noG.user, .string noG.client, .string noG.tenant, .string noG.session, .string noG.redirect, .string noG.nonce, .string noG.challenge, .int .i64 noG.method, (.slice A7 noG.scopes.length d7), .int .i64 noG.auth, .int .i64 noG.level] 35) := ⟨_, rfl⟩
            have hb8 : Below w7.heap.size w7 w8 := by rw [hw8]; go_grown
            rw [← hw8]
            have HB8 := Lib.hid (HB7.out.trans (hb8.mono HB7.out.size))
            have HR8 := Lib.hid (HR7.out.below hb8)
            clear hw8 hb8
            clear hz3
            go_wp2
            go_roundw
            case rel => exact ⟨i + 1, _, last, rfl, by go_num, by omega, by omega, HR8.out, HL2.out, hls, HB8.out⟩
            case measure => simp [intOf]; omega
        · obtain ⟨N, hN⟩ : ∃ N, min k 256 = N := ⟨_, rfl⟩
          have hmn : min (k : Int) 256 = (N : Int) := by omega
          obtain ⟨e1, e2, e3, e4, e5⟩ := l_last (HL.out.1.trans hN) HL.out.2.1
          have hcase : (i < J ∧ k = 0) ∨ ¬ i < J := by omega
          have E1 := Lib.hid e1
          have E2 := Lib.hid e2
          have E3 := Lib.hid e3
          have E4 := Lib.hid e4
          have E5 := Lib.hid e5
          clear e1 e2 e3 e4 e5 hlt hN
          rcases hcase with ⟨hj, h0⟩ | hj
          · have hk0 : ¬ 0 < k := by omega
            clear h0
            go_upto_region 26 with fail
            (try rw [hmn])
            clear hmn hk0
            go_wp2_with fail
            refine (len_b HR.out 2 E1.out).mono ?_
            rintro e w10 ⟨rfl, hb10⟩
            have HB10 := Lib.hid (HB.out.trans (hb10.mono HB.out.size))
            have HR10 := Lib.hid (HR.out.below hb10)
            clear hb10
            go_wp2_with fail
            refine (revCli_b HR10.out (fun k hk => Nat.le_trans HB10.out.size hk) ⟨#[97, 110, 110]⟩ ⟨#[97, 112, 112]⟩ E2.out E3.out).mono ?_
            rintro e w11 ⟨rfl, hr11, hm11⟩
            have HR11 := Lib.hid hr11
            have HB11 := Lib.hid (HB10.out.trans (hm11.toBelow HB10.out.size (fun _ h => h)))
            clear hr11 hm11
            go_wp2_with fail
            refine (revSes_b HR11.out (fun k hk => Nat.le_trans HB11.out.size hk) ⟨#[115]⟩ E4.out rfl).mono ?_
            rintro e w12 ⟨rfl, hr12, hm12⟩
            have HR12 := Lib.hid hr12
            have HB12 := Lib.hid (HB11.out.trans (hm12.toBelow HB11.out.size (fun _ h => h)))
            clear hr12 hm12
            go_wp2_with fail
            refine (len_b HR12.out 2 E5.out).mono ?_
            rintro e w13 ⟨rfl, hb13⟩
            have HB13 := Lib.hid (HB12.out.trans (hb13.mono HB12.out.size))
            clear hb13
            go_wp2_with fail
            refine (awake_any w13 (HM.out.below HB13.out)).mono ?_
            rintro e wz ⟨rfl, hbz⟩
            have HBZ := Lib.hid ((HB13.out).trans (hbz.mono (HB13.out).size))
            clear hbz
            go_wp2
            go_ret
            exact ⟨rfl, HBZ.out⟩
          · go_upto_region 26 with fail
            (try rw [hmn])
            clear hmn
            go_wp2_with fail
            refine (len_b HR.out 2 E1.out).mono ?_
            rintro e w10 ⟨rfl, hb10⟩
            have HB10 := Lib.hid (HB.out.trans (hb10.mono HB.out.size))
            have HR10 := Lib.hid (HR.out.below hb10)
            clear hb10
            go_wp2_with fail
            refine (revCli_b HR10.out (fun k hk => Nat.le_trans HB10.out.size hk) ⟨#[97, 110, 110]⟩ ⟨#[97, 112, 112]⟩ E2.out E3.out).mono ?_
            rintro e w11 ⟨rfl, hr11, hm11⟩
            have HR11 := Lib.hid hr11
            have HB11 := Lib.hid (HB10.out.trans (hm11.toBelow HB10.out.size (fun _ h => h)))
            clear hr11 hm11
            go_wp2_with fail
            refine (revSes_b HR11.out (fun k hk => Nat.le_trans HB11.out.size hk) ⟨#[115]⟩ E4.out rfl).mono ?_
            rintro e w12 ⟨rfl, hr12, hm12⟩
            have HR12 := Lib.hid hr12
            have HB12 := Lib.hid (HB11.out.trans (hm12.toBelow HB11.out.size (fun _ h => h)))
            clear hr12 hm12
            go_wp2_with fail
            refine (len_b HR12.out 2 E5.out).mono ?_
            rintro e w13 ⟨rfl, hb13⟩
            have HB13 := Lib.hid (HB12.out.trans (hb13.mono HB12.out.size))
            clear hb13
            go_wp2_with fail
            refine (awake_any w13 (HM.out.below HB13.out)).mono ?_
            rintro e wz ⟨rfl, hbz⟩
            have HBZ := Lib.hid ((HB13.out).trans (hbz.mono (HB13.out).size))
            clear hbz
            go_wp2
            go_ret
            exact ⟨rfl, HBZ.out⟩
end Go.Proofs.Ytfeljihbaekfmaa.Rf
