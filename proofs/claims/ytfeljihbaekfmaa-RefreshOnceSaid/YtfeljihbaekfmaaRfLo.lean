/-
  The walk of the statement RefreshOnce.
-/
import Derived.Test.YtfeljihbaekfmaaRfL0
namespace Go.Proofs.Ytfeljihbaekfmaa.Rf
open Go.RowKit Go.Proofs.Ytfeljihbaekfmaa.Fo

theorem light_one (x : Opx) : lightB [x] = opOk x := by simp [lightB]
theorem os_one {w : World} {q : Nat} {x : Opx} {A : Option Addr} {d : Nat} (h : w.heap[q]? = some (.cells #[.int .i64 x.call, .int .i64 x.now, .string x.id, .string x.tok, .string x.nxt, .string x.user, .string x.cl, .string x.ses, .slice A x.sc.length d] 39 (0, 0))) (hs : Ss w A x.sc.length d x.sc) : Os w (some ⟨q, 0, none⟩) 1 1 [x] := by
  refine ⟨rfl, Nat.le_refl _, fun _ => ⟨q, 0, rfl, blk_lt h, fun i hi => ?_⟩⟩
  have : i = 0 := by omega
  subst this
  exact ⟨A, d, cell_block h 0, cell_block h 1, cell_block h 2, cell_block h 3, cell_block h 4, cell_block h 5, cell_block h 6, cell_block h 7, cell_block h 8, hs⟩
set_option maxRecDepth 100000 in
set_option maxHeartbeats 8000000 in
theorem once_any (w : World) (life total : Int) (A : Option Addr) (n c : Nat) (l : List Opx) (x : Opx) (Ax : Option Addr) (dx : Nat) (A2 : Option Addr) (n2 c2 : Nat) (l2 : List Opx) (hs : Os w A n c l) (hsx : Ss w Ax x.sc.length dx x.sc) (hs2 : Os w A2 n2 c2 l2) (hm : MX w) :
    Calls Try.prog 5 #[.int .i64 life, .int .i64 total, .slice A n c, .agg #[.int .i64 x.call, .int .i64 x.now, .string x.id, .string x.tok, .string x.nxt, .string x.user, .string x.cl, .string x.ses, .slice Ax x.sc.length dx], .slice A2 n2 c2] w fun e w' => e = .returned (.bool true) ∧ Below w.heap.size w w' := by
  obtain ⟨wb, hwb⟩ : ∃ wb, wb = w.alloc (.cells #[.int .i64 x.call, .int .i64 x.now, .string x.id, .string x.tok, .string x.nxt, .string x.user, .string x.cl, .string x.ses, .slice Ax x.sc.length dx] 39) := ⟨_, rfl⟩
  have hb0 : Below w.heap.size w wb := by rw [hwb]; go_grown
  have HW := Lib.hid hb0
  have HX := Lib.hid (show wb.heap[w.heap.size]? = some (.cells #[.int .i64 x.call, .int .i64 x.now, .string x.id, .string x.tok, .string x.nxt, .string x.user, .string x.cl, .string x.ses, .slice Ax x.sc.length dx] 39 (0, 0)) by rw [hwb]; exact heap_alloc_new _ _)
  have HS := Lib.hid (hs.below hb0)
  have HS2 := Lib.hid (hs2.below hb0)
  have HSX := Lib.hid (hsx.below hb0)
  have HLN := Lib.hid hs.1
  have HLN2 := Lib.hid hs2.1
  have HM := Lib.hid (hm.below hb0)
  have HAX := Lib.hid (show ∀ a, Ax = some a → 0 < x.sc.length → a.block < wb.heap.size from fun a ha hl => by
    obtain ⟨b', off', e, hb', _⟩ := hsx.2.2 hl
    rw [ha] at e
    injection e with e
    rw [e]
    exact Nat.lt_of_lt_of_le hb' hb0.size)
  clear hs hsx hs2 hm hb0
  go_enter Try.func5, Try.ntmps5
  go_upto_region 1 with fail
  rw [← hwb]
  clear hwb
  have HBB := Lib.hid (Below.refl wb.heap.size wb)
  have FIN := Lib.hid (fun (w' : World) (h : Below wb.heap.size wb w') => HW.out.trans (h.mono HW.out.size))
  by_cases hl1 : lightB l = true
  · have HL1 := Lib.hid hl1
    clear hl1
    by_cases hl2 : lightB l2 = true
    · have HL2 := Lib.hid hl2
      clear hl2
      by_cases hl3 : opOk x = true
      · have HL3 := Lib.hid hl3
        clear hl3
        go_wp2_with fail
        refine (light_is wb A n c l HS.out HL1.out).mono ?_
        rintro e w1 ⟨rfl, hb⟩
        have Hw1 := Lib.hid ((HBB.out).trans (hb.mono (HBB.out).size))
        clear hb
        go_wp2_with fail
        refine (light_is w1 A2 n2 c2 l2 (HS2.out.below Hw1.out) HL2.out).mono ?_
        rintro e w2 ⟨rfl, hb⟩
        have Hw2 := Lib.hid ((Hw1.out).trans (hb.mono (Hw1.out).size))
        clear hb
        have hx2 := blk_below Hw2.out HX.out
        have x0 := cell_block hx2 0
        have x1 := cell_block hx2 1
        have x2 := cell_block hx2 2
        have x3 := cell_block hx2 3
        have x4 := cell_block hx2 4
        have x5 := cell_block hx2 5
        have x6 := cell_block hx2 6
        have x7 := cell_block hx2 7
        have x8 := cell_block hx2 8
        simp only [List.getElem?_toArray, List.getElem?_cons_zero, List.getElem?_cons_succ] at x0 x1 x2 x3 x4 x5 x6 x7 x8
        go_wp2_with fail
        obtain ⟨w2b, hw2b⟩ : ∃ w', w' = w2.alloc (.cells #[.int .i64 x.call, .int .i64 x.now, .string x.id, .string x.tok, .string x.nxt, .string x.user, .string x.cl, .string x.ses, .slice Ax x.sc.length dx] 39) := ⟨_, rfl⟩
        have hb2 : Below w2.heap.size w2 w2b := by rw [hw2b]; go_grown
        have HW2B := Lib.hid (Hw2.out.trans (hb2.mono Hw2.out.size))
        have HQ2 := Lib.hid (show w2b.heap[w2.heap.size]? = some (.cells #[.int .i64 x.call, .int .i64 x.now, .string x.id, .string x.tok, .string x.nxt, .string x.user, .string x.cl, .string x.ses, .slice Ax x.sc.length dx] 39 (0, 0)) by rw [hw2b]; exact heap_alloc_new _ _)
        rw [← hw2b]
        clear hw2b hb2
        refine (light_is w2b (some ⟨w2.heap.size, 0, none⟩) 1 1 [x] (os_one HQ2.out (HSX.out.below HW2B.out)) ((light_one x).trans HL3.out)).mono ?_
        rintro e w3 ⟨rfl, hb⟩
        have Hw3 := Lib.hid (HW2B.out.trans (hb.mono HW2B.out.size))
        clear hb hx2 x0 x1 x2 x3 x4 x5 x6 x7 x8
        have hn24 : n ≤ 24 := by rw [← HLN.out]; exact light_len HL1.out
        have hn25 : n2 ≤ 24 := by rw [← HLN2.out]; exact light_len HL2.out
        by_cases hlf : 1 ≤ limI life ∧ 1 ≤ limI total
        · go_wp2_with fail
          refine (new_b (l := life) (t := total) hlf rfl).mono ?_
          rintro e w4 ⟨F, rfl, hr4, hb4⟩
          have HB4 := Lib.hid (Hw3.out.trans (hb4.mono Hw3.out.size))
          have HR4 := Lib.hid (hr4.mono (T' := fun k => wb.heap.size ≤ k) (fun k _ e => Nat.le_trans Hw3.out.size e))
          clear hr4 hb4
          go_wp2_with fail
          go_loopw [13] (fun i wr => ∃ (k : Nat) (st : St), i = .int .i64 k ∧ k ≤ n ∧ RepB wr (fun k => wb.heap.size ≤ k) F st ∧ Below wb.heap.size wb wr) (fun i _ => n - (intOf i).toNat)
          case atStart => exact ⟨0, _, rfl, Nat.zero_le _, HR4.out, HB4.out⟩
          case round =>
            obtain ⟨k, st, rfl, hk, hrep, hb⟩ := hrel
            have HR := Lib.hid hrep
            have HB := Lib.hid hb
            clear hrep hb
            by_cases hlt : k < n
            · have HOK := Lib.hid (light_at HL1.out (k := k) (by rw [HLN.out]; exact hlt))
              obtain ⟨bh, oh, Ah, dh, xh, rfl, hlh, hxh, h0, h1, h2, h3, h4, h5, h6, h7, h8, hsh, hzh⟩ := HS.out.at (by omega : k < n)
              have h0' := (bkeep HB.out hlh _).trans h0
              have h1' := (bkeep HB.out hlh _).trans h1
              have h2' := (bkeep HB.out hlh _).trans h2
              have h3' := (bkeep HB.out hlh _).trans h3
              have h4' := (bkeep HB.out hlh _).trans h4
              have h5' := (bkeep HB.out hlh _).trans h5
              have h6' := (bkeep HB.out hlh _).trans h6
              have h7' := (bkeep HB.out hlh _).trans h7
              have h8' := (bkeep HB.out hlh _).trans h8
              rw [hxh] at HOK
              have HSh := Lib.hid hsh
              have HZh := Lib.hid hzh
              clear h0 h1 h2 h3 h4 h5 h6 h7 h8 hxh hsh hzh
              go_wp2_with fail
              refine (do_b HR.out (fun k hk => Nat.le_trans HB.out.size hk) xh Ah dh (HSh.out.below HB.out) HOK.out (HM.out.below HB.out) (fun a ha hl hT => absurd (HZh.out a ha hl) (by omega)) rfl).mono ?_
              rintro e w5 ⟨A5, d5, rfl, _, _, hr5, hm5⟩
              have HR5 := Lib.hid hr5
              have HB5 := Lib.hid (HB.out.trans (hm5.toBelow HB.out.size (fun _ h => h)))
              clear hr5 hm5 h0' h1' h2' h3' h4' h5' h6' h7' h8'
              go_wp2
              go_roundw
              case rel => exact ⟨k + 1, _, by go_num, by omega, HR5.out, HB5.out⟩
              case measure => simp [intOf]; omega
            · have hx6 := blk_below HB.out HX.out
              have x0 := cell_block hx6 0
              have x1 := cell_block hx6 1
              have x2 := cell_block hx6 2
              have x3 := cell_block hx6 3
              have x4 := cell_block hx6 4
              have x5 := cell_block hx6 5
              have x6 := cell_block hx6 6
              have x7 := cell_block hx6 7
              have x8 := cell_block hx6 8
              simp only [List.getElem?_toArray, List.getElem?_cons_zero, List.getElem?_cons_succ] at x0 x1 x2 x3 x4 x5 x6 x7 x8
              obtain ⟨z1, z2, z3, z4, z5, z6, z7, z8⟩ := ok_parts HL3.out
              have HZ8 := Lib.hid z8
              clear z8
              obtain ⟨r, hr⟩ : ∃ r, rot st x.tok x.nxt x.cl x.sc x.now = r := ⟨_, rfl⟩
              go_wp2_with fail
              refine (rotate_b HR.out x.tok x.nxt x.cl x.sc Ax x.sc.length dx x.now hr (by omega) (by omega) (HSX.out.below HB.out) HZ8.out (by omega) (HM.out.below HB.out) (fun a ha hl hT => absurd (HAX.out a ha hl) (by omega))).mono ?_
              rintro e w7 ⟨A7, d7, rfl, _, _, hr7, hm7⟩
              have HR7 := Lib.hid (hr7.mono (T' := fun k => wb.heap.size ≤ k) (fun k _ e => e.1))
              have HB7 := Lib.hid (HB.out.trans (hm7.toBelow HB.out.size (fun _ h => h)))
              have HRR := Lib.hid hr
              clear hr7 hm7 hr hx6 x0 x1 x2 x3 x4 x5 x6 x7 x8
              go_upto_region 11 with fail
              obtain ⟨w8, hw8⟩ : ∃ w', w' = w7.alloc (.cells #[.string r.2.1.user, .string r.2.1.client, .string r.2.1.tenant, .string r.2.1.session, .string r.2.1.redirect, .string r.2.1.nonce, .string r.2.1.challenge, .int .i64 r.2.1.method, (.slice A7 r.2.1.scopes.length d7), .int .i64 r.2.1.auth, .int .i64 r.2.1.level] 35) := ⟨_, rfl⟩
              have hb8 : Below w7.heap.size w7 w8 := by rw [hw8]; go_grown
              rw [← hw8]
              have HB8 := Lib.hid (HB7.out.trans (hb8.mono HB7.out.size))
              have HR8 := Lib.hid (HR7.out.below hb8)
              clear hw8 hb8
              by_cases hok : r.2.2 = 0
              · have HG := Lib.hid (gone_first (st := st) (t := x.tok) (n := x.nxt) (c := x.cl) (sc := x.sc) (now := x.now) (by rw [HRR.out]; exact hok) (by rw [HRR.out]; exact HR8.out.inv))
                rw [HRR.out] at HG
                obtain ⟨kk, hkk⟩ := HG.out
                have HKK := Lib.hid hkk
                clear hkk HG
                go_wp2_with fail
                clear hok
                go_loopw [16, 17, 18] (fun i _ _ wr => ∃ (k : Nat) (st : St), i = .int .i64 k ∧ k ≤ n2 ∧ RepB wr (fun k => wb.heap.size ≤ k) F st ∧ Gone st kk x.tok x.nxt x.cl ∧ Below wb.heap.size wb wr) (fun i _ _ _ => n2 - (intOf i).toNat)
                case atStart => exact ⟨0, _, rfl, Nat.zero_le _, HR8.out, HKK.out, HB8.out⟩
                case round =>
                  obtain ⟨j, st2, rfl, hj, hrep2, hg2, hb2⟩ := hrel
                  have HR9 := Lib.hid hrep2
                  have HG9 := Lib.hid hg2
                  have HB9 := Lib.hid hb2
                  clear hrep2 hb2 hg2
                  by_cases hlt2 : j < n2
                  · have HOK2 := Lib.hid (light_at HL2.out (k := j) (by rw [HLN2.out]; exact hlt2))
                    obtain ⟨bg, og, Ag, dg, xg, rfl, hlg, hxg, g0, g1, g2, g3, g4, g5, g6, g7, g8, hsg, hzg⟩ := HS2.out.at (by omega : j < n2)
                    have g0' := (bkeep HB9.out hlg _).trans g0
                    have g1' := (bkeep HB9.out hlg _).trans g1
                    have g2' := (bkeep HB9.out hlg _).trans g2
                    have g3' := (bkeep HB9.out hlg _).trans g3
                    have g4' := (bkeep HB9.out hlg _).trans g4
                    have g5' := (bkeep HB9.out hlg _).trans g5
                    have g6' := (bkeep HB9.out hlg _).trans g6
                    have g7' := (bkeep HB9.out hlg _).trans g7
                    have g8' := (bkeep HB9.out hlg _).trans g8
                    rw [hxg] at HOK2
                    have HSg := Lib.hid hsg
                    have HZg := Lib.hid hzg
                    have G0 := Lib.hid g0
                    have G3 := Lib.hid g3
                    clear g0 g1 g2 g3 g4 g5 g6 g7 g8 hxg hsg hzg
                    obtain ⟨r2, hr2⟩ : ∃ r, doS st2 xg = r := ⟨_, rfl⟩
                    go_wp2_with fail
                    refine (do_b HR9.out (fun k hk => Nat.le_trans HB9.out.size hk) xg Ag dg (HSg.out.below HB9.out) HOK2.out (HM.out.below HB9.out) (fun a ha hl hT => absurd (HZg.out a ha hl) (by omega)) hr2).mono ?_
                    rintro e w10 ⟨A10, d10, rfl, _, _, hr10, hm10⟩
                    have HR10 := Lib.hid hr10
                    have HB10 := Lib.hid (HB9.out.trans (hm10.toBelow HB9.out.size (fun _ h => h)))
                    have HDO := Lib.hid hr2
                    clear hr2 hr10 hm10 g0' g1' g2' g3' g4' g5' g6' g7' g8'
                    go_upto_region 17 with fail
                    obtain ⟨w11, hw11⟩ : ∃ w', w' = w10.alloc (.cells #[.string r2.2.1.user, .string r2.2.1.client, .string r2.2.1.tenant, .string r2.2.1.session, .string r2.2.1.redirect, .string r2.2.1.nonce, .string r2.2.1.challenge, .int .i64 r2.2.1.method, (.slice A10 r2.2.1.scopes.length d10), .int .i64 r2.2.1.auth, .int .i64 r2.2.1.level] 35) := ⟨_, rfl⟩
                    have hb11 : Below w10.heap.size w10 w11 := by rw [hw11]; go_grown
                    have HQ := Lib.hid (show w11.heap[w10.heap.size]? = some (.cells #[.string r2.2.1.user, .string r2.2.1.client, .string r2.2.1.tenant, .string r2.2.1.session, .string r2.2.1.redirect, .string r2.2.1.nonce, .string r2.2.1.challenge, .int .i64 r2.2.1.method, (.slice A10 r2.2.1.scopes.length d10), .int .i64 r2.2.1.auth, .int .i64 r2.2.1.level] 35 (0, 0)) by rw [hw11]; exact heap_alloc_new _ _)
                    rw [← hw11]
                    have HB11 := Lib.hid (HB10.out.trans (hb11.mono HB10.out.size))
                    have HR11 := Lib.hid (HR10.out.below hb11)
                    have HG11 := Lib.hid (show Gone r2.1 kk x.tok x.nxt x.cl from HG9.out.keep (by rw [← HDO.out]; exact keep_do st2 xg) HR11.out.inv)
                    clear hw11 hb11
                    have hx12 := cell_below HB11.out G0.out
                    have hx13 := cell_below HB11.out G3.out
                    have hx14 := cell_block (blk_below HB11.out HX.out) 3
                    simp only [List.getElem?_toArray, List.getElem?_cons_zero, List.getElem?_cons_succ] at hx14
                    by_cases hc1 : xg.call = 1
                    · by_cases hc2 : xg.tok = x.tok
                      · have hbt : (xg.tok.toList == x.tok.toList) = true := by rw [beq_bs]; simpa using hc2
                        have HN := Lib.hid (show r2.2.1 = noG ∧ r2.2.2 ≠ 0 by
                          have := gone_rot HR9.out.inv HG9.out xg.nxt xg.cl xg.sc xg.now
                          rw [← HDO.out]
                          unfold doS
                          rw [if_neg (by rw [hc1]; decide), if_pos hc1, hc2]
                          exact this)
                        have hne := HN.out.2
                        have HZ := Lib.hid (show w11.heap[w10.heap.size]? = some (.cells #[.string ⟨#[]⟩, .string ⟨#[]⟩, .string ⟨#[]⟩, .string ⟨#[]⟩, .string ⟨#[]⟩, .string ⟨#[]⟩, .string ⟨#[]⟩, .int .i64 0, .slice A10 0 d10, .int .i64 0, .int .i64 0] 35 (0, 0)) by have := HQ.out; rw [HN.out.1] at this; exact this)
                        obtain ⟨y0, y1, y2, y3, y4, y5, y6, y7, y8, y9, y10⟩ := cells11 HZ.out
                        have hcb : (xg.call == 1) = true := by rw [hc1]; rfl
                        have hnb : (r2.2.2 == 0) = false := beq_eq_false_iff_ne.2 hne
                        clear hc1 hc2 hne
                        refine wp_region_held_drew (S := (fun w' => w'.cell? ⟨bg, og + j * 9, none⟩ = some (.int .i64 xg.call) ∧ w'.cell? ⟨bg, og + j * 9 + 3, none⟩ = some (.string xg.tok) ∧ w'.cell? ⟨w.heap.size, 3, none⟩ = some (.string x.tok) ∧ w'.cell? ⟨w10.heap.size, 0, none⟩ = some (.string ⟨#[]⟩) ∧ w'.cell? ⟨w10.heap.size, 1, none⟩ = some (.string ⟨#[]⟩) ∧ w'.cell? ⟨w10.heap.size, 2, none⟩ = some (.string ⟨#[]⟩) ∧ w'.cell? ⟨w10.heap.size, 3, none⟩ = some (.string ⟨#[]⟩) ∧ w'.cell? ⟨w10.heap.size, 4, none⟩ = some (.string ⟨#[]⟩) ∧ w'.cell? ⟨w10.heap.size, 5, none⟩ = some (.string ⟨#[]⟩) ∧ w'.cell? ⟨w10.heap.size, 6, none⟩ = some (.string ⟨#[]⟩) ∧ w'.cell? ⟨w10.heap.size, 7, none⟩ = some (.int .i64 0) ∧ w'.cell? ⟨w10.heap.size, 8, none⟩ = some (.slice A10 0 d10) ∧ w'.cell? ⟨w10.heap.size, 9, none⟩ = some (.int .i64 0) ∧ w'.cell? ⟨w10.heap.size, 10, none⟩ = some (.int .i64 0))) (by kernel_rfl) ?_ (fun hHeld => ?_)
                        focus ((try dsimp only); (first | exact ⟨hx12, hx13, hx14, y0, y1, y2, y3, y4, y5, y6, y7, y8, y9, y10⟩ | exact ⟨t12, t13, t14, u0, u1, u2, u3, u4, u5, u6, u7, u8, u9, u10⟩); done)
                        refine wpAnyH_take (i := 0) (oi := ⟨_, _, _, _, _, _⟩) (v := ?_) rfl (by kernel_rfl) (by kernel_rfl) (by kernel_rfl) (fun _ _ _ h => h) (Or.inl ⟨by rfl, ?_⟩) (by assumption) ?_; rotate_left; (focus (intro w hSw; (try dsimp only at hSw); go_simp; (try with_reducible rfl); done)); simp only [Act.put, List.setIfInBounds_toArray, List.set_cons_zero, List.set_cons_succ]
                        refine wpAnyH_take (i := 1) (oi := ⟨_, _, _, _, _, _⟩) (v := ?_) rfl (by kernel_rfl) (by kernel_rfl) (by kernel_rfl) (fun _ _ _ h => h) (Or.inl ⟨by rfl, ?_⟩) (by assumption) ?_; rotate_left; (focus (intro w hSw; (try dsimp only at hSw); go_simp; (try with_reducible rfl); done)); simp only [Act.put, List.setIfInBounds_toArray, List.set_cons_zero, List.set_cons_succ]
                        refine wpAnyH_take (i := 2) (oi := ⟨_, _, _, _, _, _⟩) (v := ?_) rfl (by kernel_rfl) (by kernel_rfl) (by kernel_rfl) (fun _ _ _ h => h) (Or.inl ⟨by rfl, ?_⟩) (by assumption) ?_; rotate_left; (focus (intro w hSw; (try dsimp only at hSw); go_simp; (try with_reducible rfl); done)); simp only [Act.put, List.setIfInBounds_toArray, List.set_cons_zero, List.set_cons_succ]
                        refine wpAnyH_take (i := 3) (oi := ⟨_, _, _, _, _, _⟩) (v := ?_) rfl (by kernel_rfl) (by kernel_rfl) (by kernel_rfl) (fun _ _ _ h => h) (Or.inl ⟨by rfl, ?_⟩) (by assumption) ?_; rotate_left; (focus (intro w hSw; (try dsimp only at hSw); go_simp; (try with_reducible rfl); done)); simp only [Act.put, List.setIfInBounds_toArray, List.set_cons_zero, List.set_cons_succ]
                        refine wpAnyH_take (i := 4) (oi := ⟨_, _, _, _, _, _⟩) (v := ?_) rfl (by kernel_rfl) (by kernel_rfl) (by kernel_rfl) (fun _ _ _ h => h) (Or.inl ⟨by rfl, ?_⟩) (by assumption) ?_; rotate_left; (focus (intro w hSw; (try dsimp only at hSw); go_simp; (try with_reducible rfl); done)); simp only [Act.put, List.setIfInBounds_toArray, List.set_cons_zero, List.set_cons_succ]
                        refine wpAnyH_take (i := 5) (oi := ⟨_, _, _, _, _, _⟩) (v := ?_) rfl (by kernel_rfl) (by kernel_rfl) (by kernel_rfl) (fun _ _ _ h => h) (Or.inl ⟨by rfl, ?_⟩) (by assumption) ?_; rotate_left; (focus (intro w hSw; (try dsimp only at hSw); go_simp; (try with_reducible rfl); done)); simp only [Act.put, List.setIfInBounds_toArray, List.set_cons_zero, List.set_cons_succ]
                        refine wpAnyH_take (i := 6) (oi := ⟨_, _, _, _, _, _⟩) (v := ?_) rfl (by kernel_rfl) (by kernel_rfl) (by kernel_rfl) (fun _ _ _ h => h) (Or.inl ⟨by rfl, ?_⟩) (by assumption) ?_; rotate_left; (focus (intro w hSw; (try dsimp only at hSw); go_simp; (try with_reducible rfl); done)); simp only [Act.put, List.setIfInBounds_toArray, List.set_cons_zero, List.set_cons_succ]
                        refine wpAnyH_take (i := 7) (oi := ⟨_, _, _, _, _, _⟩) (v := ?_) rfl (by kernel_rfl) (by kernel_rfl) (by kernel_rfl) (fun _ _ _ h => h) (Or.inl ⟨by rfl, ?_⟩) (by assumption) ?_; rotate_left; (focus (intro w hSw; (try dsimp only at hSw); go_simp; (try with_reducible rfl); done)); simp only [Act.put, List.setIfInBounds_toArray, List.set_cons_zero, List.set_cons_succ]
                        refine wpAnyH_take (i := 8) (oi := ⟨_, _, _, _, _, _⟩) (v := ?_) rfl (by kernel_rfl) (by kernel_rfl) (by kernel_rfl) (fun _ _ _ h => h) (Or.inl ⟨by rfl, ?_⟩) (by assumption) ?_; rotate_left; (focus (intro w hSw; (try dsimp only at hSw); go_simp; (try with_reducible rfl); done)); simp only [Act.put, List.setIfInBounds_toArray, List.set_cons_zero, List.set_cons_succ]
                        refine wpAnyH_take (i := 9) (oi := ⟨_, _, _, _, _, _⟩) (v := ?_) rfl (by kernel_rfl) (by kernel_rfl) (by kernel_rfl) (fun _ _ _ h => h) (Or.inl ⟨by rfl, ?_⟩) (by assumption) ?_; rotate_left; (focus (intro w hSw; (try dsimp only at hSw); go_simp; (try with_reducible rfl); done)); simp only [Act.put, List.setIfInBounds_toArray, List.set_cons_zero, List.set_cons_succ]
                        refine wpAnyH_take (i := 10) (oi := ⟨_, _, _, _, _, _⟩) (v := ?_) rfl (by kernel_rfl) (by kernel_rfl) (by kernel_rfl) (fun _ _ _ h => h) (Or.inl ⟨by rfl, ?_⟩) (by assumption) ?_; rotate_left; (focus (intro w hSw; (try dsimp only at hSw); go_simp; (try with_reducible rfl); done)); simp only [Act.put, List.setIfInBounds_toArray, List.set_cons_zero, List.set_cons_succ]
                        refine wpAnyH_take (i := 11) (oi := ⟨_, _, _, _, _, _⟩) (v := ?_) rfl (by kernel_rfl) (by kernel_rfl) (by kernel_rfl) (fun _ _ _ h => h) (Or.inl ⟨by rfl, ?_⟩) (by assumption) ?_; rotate_left; (focus (intro w hSw; (try dsimp only at hSw); go_simp; (try with_reducible rfl); done)); simp only [Act.put, List.setIfInBounds_toArray, List.set_cons_zero, List.set_cons_succ]
                        refine wpAnyH_take (i := 12) (oi := ⟨_, _, _, _, _, _⟩) (v := ?_) rfl (by kernel_rfl) (by kernel_rfl) (by kernel_rfl) (fun _ _ _ h => h) (Or.inl ⟨by rfl, ?_⟩) (by assumption) ?_; rotate_left; (focus (intro w hSw; (try dsimp only at hSw); go_simp; (try with_reducible rfl); done)); simp only [Act.put, List.setIfInBounds_toArray, List.set_cons_zero, List.set_cons_succ]
                        refine wpAnyH_take (i := 13) (oi := ⟨_, _, _, _, _, _⟩) (v := ?_) rfl (by kernel_rfl) (by kernel_rfl) (by kernel_rfl) (fun _ _ _ h => h) (Or.inl ⟨by rfl, ?_⟩) (by assumption) ?_; rotate_left; (focus (intro w hSw; (try dsimp only at hSw); go_simp; (try with_reducible rfl); done)); simp only [Act.put, List.setIfInBounds_toArray, List.set_cons_zero, List.set_cons_succ]
                        refine wpAnyH_take (i := 14) (oi := ⟨_, _, _, _, _, _⟩) (v := ?_) rfl (by kernel_rfl) (by kernel_rfl) (by kernel_rfl) (fun _ _ _ h => h) (Or.inl ⟨by rfl, ?_⟩) (by assumption) ?_; rotate_left; (focus (intro w hSw; (try dsimp only at hSw); go_simp; (try with_reducible rfl); done)); simp only [Act.put, List.setIfInBounds_toArray, List.set_cons_zero, List.set_cons_succ]
                        refine wpAnyH_take (i := 15) (oi := ⟨_, _, _, _, _, _⟩) (v := ?_) rfl (by kernel_rfl) (by kernel_rfl) (by kernel_rfl) (fun _ _ _ h => h) (Or.inl ⟨by rfl, ?_⟩) (by assumption) ?_; rotate_left; (focus (intro w hSw; (try dsimp only at hSw); go_simp; (try with_reducible rfl); done)); simp only [Act.put, List.setIfInBounds_toArray, List.set_cons_zero, List.set_cons_succ]
                        refine wpAnyH_take (i := 16) (oi := ⟨_, _, _, _, _, _⟩) (v := ?_) rfl (by kernel_rfl) (by kernel_rfl) (by kernel_rfl) (fun _ _ _ h => h) (Or.inl ⟨by rfl, ?_⟩) (by assumption) ?_; rotate_left; (focus (intro w hSw; (try dsimp only at hSw); go_simp; (try with_reducible rfl); done)); simp only [Act.put, List.setIfInBounds_toArray, List.set_cons_zero, List.set_cons_succ]
                        refine wpAnyH_take (i := 17) (oi := ⟨_, _, _, _, _, _⟩) (v := ?_) rfl (by kernel_rfl) (by kernel_rfl) (by kernel_rfl) (fun _ _ _ h => h) (Or.inl ⟨by rfl, ?_⟩) (by assumption) ?_; rotate_left; (focus (intro w hSw; (try dsimp only at hSw); go_simp; (try with_reducible rfl); done)); simp only [Act.put, List.setIfInBounds_toArray, List.set_cons_zero, List.set_cons_succ]
                        refine wpAnyH_take (i := 18) (oi := ⟨_, _, _, _, _, _⟩) (v := ?_) rfl (by kernel_rfl) (by kernel_rfl) (by kernel_rfl) (fun _ _ _ h => h) (Or.inl ⟨by rfl, ?_⟩) (by assumption) ?_; rotate_left; (focus (intro w hSw; (try dsimp only at hSw); go_simp; (try with_reducible rfl); done)); simp only [Act.put, List.setIfInBounds_toArray, List.set_cons_zero, List.set_cons_succ]
                        refine wpAnyH_take (i := 19) (oi := ⟨_, _, _, _, _, _⟩) (v := ?_) rfl (by kernel_rfl) (by kernel_rfl) (by kernel_rfl) (fun _ _ _ h => h) (Or.inl ⟨by rfl, ?_⟩) (by assumption) ?_; rotate_left; (focus (intro w hSw; (try dsimp only at hSw); go_simp; (try with_reducible rfl); done)); simp only [Act.put, List.setIfInBounds_toArray, List.set_cons_zero, List.set_cons_succ]
                        refine wpAnyH_take (i := 20) (oi := ⟨_, _, _, _, _, _⟩) (v := ?_) rfl (by kernel_rfl) (by kernel_rfl) (by kernel_rfl) (fun _ _ _ h => h) (Or.inl ⟨by rfl, ?_⟩) (by assumption) ?_; rotate_left; (focus (intro w hSw; (try dsimp only at hSw); go_simp; (try with_reducible rfl); done)); simp only [Act.put, List.setIfInBounds_toArray, List.set_cons_zero, List.set_cons_succ]
                        refine wpAnyH_take (i := 21) (oi := ⟨_, _, _, _, _, _⟩) (v := ?_) rfl (by kernel_rfl) (by kernel_rfl) (by kernel_rfl) (fun _ _ _ h => h) (Or.inl ⟨by rfl, ?_⟩) (by assumption) ?_; rotate_left; (focus (intro w hSw; (try dsimp only at hSw); go_simp; (try with_reducible rfl); done)); simp only [Act.put, List.setIfInBounds_toArray, List.set_cons_zero, List.set_cons_succ]
                        refine wpAnyH_ready (rs := [22]) (by kernel_rfl) (by simp) ?_
                        refine AllReadyH.cons (o := ⟨_, _, _, _, _, _⟩) rfl (fun K hK => ?_) AllReadyH.nil
                        go_simp
                        go_wp2_with fail
                        refine (same_yes ⟨#[]⟩ ⟨#[]⟩ ⟨#[]⟩ ⟨#[]⟩ ⟨#[]⟩ ⟨#[]⟩ ⟨#[]⟩ 0 0 0 A10 none 0 d10 0 [] _ (Ss.nil _ _ _) (Ss.nil _ _ _) (by omega)).mono ?_
                        rintro e w12 ⟨rfl, hb12⟩
                        have hbd : Below w11.heap.size w11 w12 := Below.trans ((Below.refl _ _).drew) hb12
                        have HB12 := Lib.hid (HB11.out.trans (hbd.mono HB11.out.size))
                        have HR12 := Lib.hid (HR11.out.below hbd)
                        have t12 := cell_below hbd hx12
                        have t13 := cell_below hbd hx13
                        have t14 := cell_below hbd hx14
                        obtain ⟨u0, u1, u2, u3, u4, u5, u6, u7, u8, u9, u10⟩ := cells11 (blk_below hbd HZ.out)
                        clear hb12 hbd
                        (try go_wp2_with fail)
                        refine hK.out _ _ ?_ (fun hHeld => ?_)
                        focus ((try dsimp only); (first | exact ⟨hx12, hx13, hx14, y0, y1, y2, y3, y4, y5, y6, y7, y8, y9, y10⟩ | exact ⟨t12, t13, t14, u0, u1, u2, u3, u4, u5, u6, u7, u8, u9, u10⟩); done)
                        clear hK K
                        (try simp only [Act.put, List.setIfInBounds_toArray, List.set_cons_zero, List.set_cons_succ])
                        refine wpAnyH_take (i := 23) (oi := ⟨_, _, _, _, _, _⟩) (v := ?_) rfl (by kernel_rfl) (by kernel_rfl) (by kernel_rfl) (fun _ _ _ h => h) (Or.inl ⟨by rfl, ?_⟩) (by assumption) ?_; rotate_left; (focus (intro w hSw; (try dsimp only at hSw); go_simp; (try with_reducible rfl); done)); simp only [Act.put, List.setIfInBounds_toArray, List.set_cons_zero, List.set_cons_succ]
                        refine wpAnyH_take (i := 24) (oi := ⟨_, _, _, _, _, _⟩) (v := ?_) rfl (by kernel_rfl) (by kernel_rfl) (by kernel_rfl) (fun _ _ _ h => h) (Or.inl ⟨by rfl, ?_⟩) (by assumption) ?_; rotate_left; (focus (intro w hSw; (try dsimp only at hSw); go_simp; (try with_reducible rfl); done)); simp only [Act.put, List.setIfInBounds_toArray, List.set_cons_zero, List.set_cons_succ]
                        refine wpAnyH_take (i := 25) (oi := ⟨_, _, _, _, _, _⟩) (v := ?_) rfl (by kernel_rfl) (by kernel_rfl) (by kernel_rfl) (fun _ _ _ h => h) (Or.inl ⟨by rfl, ?_⟩) (by assumption) ?_; rotate_left; (focus (intro w hSw; (try dsimp only at hSw); go_simp; (try with_reducible rfl); done)); simp only [Act.put, List.setIfInBounds_toArray, List.set_cons_zero, List.set_cons_succ]
                        refine wpAnyH_done (by kernel_rfl) ?_ _
                        go_wp2
                        go_roundw
                        case rel => exact ⟨j + 1, _, by go_num, by omega, HR12.out, HG11.out, HB12.out⟩
                        case measure => simp [intOf]; omega
                      · have hbt : (xg.tok.toList == x.tok.toList) = false := by rw [beq_bs]; simpa using hc2
                        have hcb : (xg.call == 1) = true := by rw [hc1]; rfl
                        clear hc1 hc2
                        refine wp_region_held_drew (S := (fun w' => w'.cell? ⟨bg, og + j * 9, none⟩ = some (.int .i64 xg.call) ∧ w'.cell? ⟨bg, og + j * 9 + 3, none⟩ = some (.string xg.tok) ∧ w'.cell? ⟨w.heap.size, 3, none⟩ = some (.string x.tok))) (by kernel_rfl) ?_ (fun hHeld => ?_)
                        focus ((try dsimp only); (exact ⟨hx12, hx13, hx14⟩); done)
                        refine wpAnyH_take (i := 0) (oi := ⟨_, _, _, _, _, _⟩) (v := ?_) rfl (by kernel_rfl) (by kernel_rfl) (by kernel_rfl) (fun _ _ _ h => h) (Or.inl ⟨by rfl, ?_⟩) (by assumption) ?_; rotate_left; (focus (intro w hSw; (try dsimp only at hSw); go_simp; (try with_reducible rfl); done)); simp only [Act.put, List.setIfInBounds_toArray, List.set_cons_zero, List.set_cons_succ]
                        refine wpAnyH_take (i := 1) (oi := ⟨_, _, _, _, _, _⟩) (v := ?_) rfl (by kernel_rfl) (by kernel_rfl) (by kernel_rfl) (fun _ _ _ h => h) (Or.inl ⟨by rfl, ?_⟩) (by assumption) ?_; rotate_left; (focus (intro w hSw; (try dsimp only at hSw); go_simp; (try with_reducible rfl); done)); simp only [Act.put, List.setIfInBounds_toArray, List.set_cons_zero, List.set_cons_succ]
                        refine wpAnyH_take (i := 2) (oi := ⟨_, _, _, _, _, _⟩) (v := ?_) rfl (by kernel_rfl) (by kernel_rfl) (by kernel_rfl) (fun _ _ _ h => h) (Or.inl ⟨by rfl, ?_⟩) (by assumption) ?_; rotate_left; (focus (intro w hSw; (try dsimp only at hSw); go_simp; (try with_reducible rfl); done)); simp only [Act.put, List.setIfInBounds_toArray, List.set_cons_zero, List.set_cons_succ]
                        refine wpAnyH_take (i := 3) (oi := ⟨_, _, _, _, _, _⟩) (v := ?_) rfl (by kernel_rfl) (by kernel_rfl) (by kernel_rfl) (fun _ _ _ h => h) (Or.inl ⟨by rfl, ?_⟩) (by assumption) ?_; rotate_left; (focus (intro w hSw; (try dsimp only at hSw); go_simp; (try with_reducible rfl); done)); simp only [Act.put, List.setIfInBounds_toArray, List.set_cons_zero, List.set_cons_succ]
                        refine wpAnyH_take (i := 4) (oi := ⟨_, _, _, _, _, _⟩) (v := ?_) rfl (by kernel_rfl) (by kernel_rfl) (by kernel_rfl) (fun _ _ _ h => h) (Or.inl ⟨by rfl, ?_⟩) (by assumption) ?_; rotate_left; (focus (intro w hSw; (try dsimp only at hSw); go_simp; (try with_reducible rfl); done)); simp only [Act.put, List.setIfInBounds_toArray, List.set_cons_zero, List.set_cons_succ]
                        refine wpAnyH_take (i := 5) (oi := ⟨_, _, _, _, _, _⟩) (v := ?_) rfl (by kernel_rfl) (by kernel_rfl) (by kernel_rfl) (fun _ _ _ h => h) (Or.inl ⟨by rfl, ?_⟩) (by assumption) ?_; rotate_left; (focus (intro w hSw; (try dsimp only at hSw); go_simp; (try with_reducible rfl); done)); simp only [Act.put, List.setIfInBounds_toArray, List.set_cons_zero, List.set_cons_succ]
                        refine wpAnyH_take (i := 6) (oi := ⟨_, _, _, _, _, _⟩) (v := ?_) rfl (by kernel_rfl) (by kernel_rfl) (by kernel_rfl) (fun _ _ _ h => h) (Or.inl ⟨by rfl, ?_⟩) (by assumption) ?_; rotate_left; (focus (intro w hSw; (try dsimp only at hSw); go_simp; (try with_reducible rfl); done)); simp only [Act.put, List.setIfInBounds_toArray, List.set_cons_zero, List.set_cons_succ]
                        refine wpAnyH_take (i := 7) (oi := ⟨_, _, _, _, _, _⟩) (v := ?_) rfl (by kernel_rfl) (by kernel_rfl) (by kernel_rfl) (fun _ _ _ h => h) (Or.inl ⟨by rfl, ?_⟩) (by assumption) ?_; rotate_left; (focus (intro w hSw; (try dsimp only at hSw); go_simp; (try with_reducible rfl); done)); simp only [Act.put, List.setIfInBounds_toArray, List.set_cons_zero, List.set_cons_succ]
                        refine wpAnyH_take (i := 8) (oi := ⟨_, _, _, _, _, _⟩) (v := ?_) rfl (by kernel_rfl) (by kernel_rfl) (by kernel_rfl) (fun _ _ _ h => h) (Or.inl ⟨by rfl, ?_⟩) (by assumption) ?_; rotate_left; (focus (intro w hSw; (try dsimp only at hSw); go_simp; (try with_reducible rfl); done)); simp only [Act.put, List.setIfInBounds_toArray, List.set_cons_zero, List.set_cons_succ]
                        refine wpAnyH_take (i := 9) (oi := ⟨_, _, _, _, _, _⟩) (v := ?_) rfl (by kernel_rfl) (by kernel_rfl) (by kernel_rfl) (fun _ _ _ h => h) (Or.inl ⟨by rfl, ?_⟩) (by assumption) ?_; rotate_left; (focus (intro w hSw; (try dsimp only at hSw); go_simp; (try with_reducible rfl); done)); simp only [Act.put, List.setIfInBounds_toArray, List.set_cons_zero, List.set_cons_succ]
                        refine wpAnyH_take (i := 10) (oi := ⟨_, _, _, _, _, _⟩) (v := ?_) rfl (by kernel_rfl) (by kernel_rfl) (by kernel_rfl) (fun _ _ _ h => h) (Or.inl ⟨by rfl, ?_⟩) (by assumption) ?_; rotate_left; (focus (intro w hSw; (try dsimp only at hSw); go_simp; (try with_reducible rfl); done)); simp only [Act.put, List.setIfInBounds_toArray, List.set_cons_zero, List.set_cons_succ]
                        refine wpAnyH_take (i := 11) (oi := ⟨_, _, _, _, _, _⟩) (v := ?_) rfl (by kernel_rfl) (by kernel_rfl) (by kernel_rfl) (fun _ _ _ h => h) (Or.inl ⟨by rfl, ?_⟩) (by assumption) ?_; rotate_left; (focus (intro w hSw; (try dsimp only at hSw); go_simp; (try with_reducible rfl); done)); simp only [Act.put, List.setIfInBounds_toArray, List.set_cons_zero, List.set_cons_succ]
                        refine wpAnyH_take (i := 12) (oi := ⟨_, _, _, _, _, _⟩) (v := ?_) rfl (by kernel_rfl) (by kernel_rfl) (by kernel_rfl) (fun _ _ _ h => h) (Or.inl ⟨by rfl, ?_⟩) (by assumption) ?_; rotate_left; (focus (intro w hSw; (try dsimp only at hSw); go_simp; (try with_reducible rfl); done)); simp only [Act.put, List.setIfInBounds_toArray, List.set_cons_zero, List.set_cons_succ]
                        refine wpAnyH_take (i := 13) (oi := ⟨_, _, _, _, _, _⟩) (v := ?_) rfl (by kernel_rfl) (by kernel_rfl) (by kernel_rfl) (fun _ _ _ h => h) (Or.inl ⟨by rfl, ?_⟩) (by assumption) ?_; rotate_left; (focus (intro w hSw; (try dsimp only at hSw); go_simp; (try with_reducible rfl); done)); simp only [Act.put, List.setIfInBounds_toArray, List.set_cons_zero, List.set_cons_succ]
                        refine wpAnyH_take (i := 14) (oi := ⟨_, _, _, _, _, _⟩) (v := ?_) rfl (by kernel_rfl) (by kernel_rfl) (by kernel_rfl) (fun _ _ _ h => h) (Or.inl ⟨by rfl, ?_⟩) (by assumption) ?_; rotate_left; (focus (intro w hSw; (try dsimp only at hSw); go_simp; (try with_reducible rfl); done)); simp only [Act.put, List.setIfInBounds_toArray, List.set_cons_zero, List.set_cons_succ]
                        refine wpAnyH_take (i := 15) (oi := ⟨_, _, _, _, _, _⟩) (v := ?_) rfl (by kernel_rfl) (by kernel_rfl) (by kernel_rfl) (fun _ _ _ h => h) (Or.inl ⟨by rfl, ?_⟩) (by assumption) ?_; rotate_left; (focus (intro w hSw; (try dsimp only at hSw); go_simp; (try with_reducible rfl); done)); simp only [Act.put, List.setIfInBounds_toArray, List.set_cons_zero, List.set_cons_succ]
                        refine wpAnyH_take (i := 16) (oi := ⟨_, _, _, _, _, _⟩) (v := ?_) rfl (by kernel_rfl) (by kernel_rfl) (by kernel_rfl) (fun _ _ _ h => h) (Or.inl ⟨by rfl, ?_⟩) (by assumption) ?_; rotate_left; (focus (intro w hSw; (try dsimp only at hSw); go_simp; (try with_reducible rfl); done)); simp only [Act.put, List.setIfInBounds_toArray, List.set_cons_zero, List.set_cons_succ]
                        refine wpAnyH_take (i := 17) (oi := ⟨_, _, _, _, _, _⟩) rfl (by kernel_rfl) (by kernel_rfl) (by kernel_rfl) (fun _ _ _ h => h) (Or.inr ⟨by rfl, rfl⟩) (by assumption) ?_; simp only [Act.put, List.setIfInBounds_toArray, List.set_cons_zero, List.set_cons_succ]
                        refine wpAnyH_take (i := 18) (oi := ⟨_, _, _, _, _, _⟩) rfl (by kernel_rfl) (by kernel_rfl) (by kernel_rfl) (fun _ _ _ h => h) (Or.inr ⟨by rfl, rfl⟩) (by assumption) ?_; simp only [Act.put, List.setIfInBounds_toArray, List.set_cons_zero, List.set_cons_succ]
                        refine wpAnyH_take (i := 19) (oi := ⟨_, _, _, _, _, _⟩) rfl (by kernel_rfl) (by kernel_rfl) (by kernel_rfl) (fun _ _ _ h => h) (Or.inr ⟨by rfl, rfl⟩) (by assumption) ?_; simp only [Act.put, List.setIfInBounds_toArray, List.set_cons_zero, List.set_cons_succ]
                        refine wpAnyH_take (i := 20) (oi := ⟨_, _, _, _, _, _⟩) rfl (by kernel_rfl) (by kernel_rfl) (by kernel_rfl) (fun _ _ _ h => h) (Or.inr ⟨by rfl, rfl⟩) (by assumption) ?_; simp only [Act.put, List.setIfInBounds_toArray, List.set_cons_zero, List.set_cons_succ]
                        refine wpAnyH_take (i := 21) (oi := ⟨_, _, _, _, _, _⟩) rfl (by kernel_rfl) (by kernel_rfl) (by kernel_rfl) (fun _ _ _ h => h) (Or.inr ⟨by rfl, rfl⟩) (by assumption) ?_; simp only [Act.put, List.setIfInBounds_toArray, List.set_cons_zero, List.set_cons_succ]
                        refine wpAnyH_take (i := 22) (oi := ⟨_, _, _, _, _, _⟩) rfl (by kernel_rfl) (by kernel_rfl) (by kernel_rfl) (fun _ _ _ h => h) (Or.inr ⟨by rfl, rfl⟩) (by assumption) ?_; simp only [Act.put, List.setIfInBounds_toArray, List.set_cons_zero, List.set_cons_succ]
                        refine wpAnyH_take (i := 23) (oi := ⟨_, _, _, _, _, _⟩) rfl (by kernel_rfl) (by kernel_rfl) (by kernel_rfl) (fun _ _ _ h => h) (Or.inr ⟨by rfl, rfl⟩) (by assumption) ?_; simp only [Act.put, List.setIfInBounds_toArray, List.set_cons_zero, List.set_cons_succ]
                        refine wpAnyH_take (i := 24) (oi := ⟨_, _, _, _, _, _⟩) rfl (by kernel_rfl) (by kernel_rfl) (by kernel_rfl) (fun _ _ _ h => h) (Or.inr ⟨by rfl, rfl⟩) (by assumption) ?_; simp only [Act.put, List.setIfInBounds_toArray, List.set_cons_zero, List.set_cons_succ]
                        refine wpAnyH_take (i := 25) (oi := ⟨_, _, _, _, _, _⟩) (v := ?_) rfl (by kernel_rfl) (by kernel_rfl) (by kernel_rfl) (fun _ _ _ h => h) (Or.inl ⟨by rfl, ?_⟩) (by assumption) ?_; rotate_left; (focus (intro w hSw; (try dsimp only at hSw); go_simp; (try with_reducible rfl); done)); simp only [Act.put, List.setIfInBounds_toArray, List.set_cons_zero, List.set_cons_succ]
                        refine wpAnyH_done (by kernel_rfl) ?_ _
                        go_wp2
                        go_roundw
                        case rel => exact ⟨j + 1, _, by go_num, by omega, HR11.out.below ((Below.refl _ _).drew), HG11.out, HB11.out.drew⟩
                        case measure => simp [intOf]; omega
                    · have hcb : (xg.call == 1) = false := beq_eq_false_iff_ne.2 hc1
                      clear hc1
                      refine wp_region_held_drew (S := (fun w' => w'.cell? ⟨bg, og + j * 9, none⟩ = some (.int .i64 xg.call) ∧ w'.cell? ⟨bg, og + j * 9 + 3, none⟩ = some (.string xg.tok) ∧ w'.cell? ⟨w.heap.size, 3, none⟩ = some (.string x.tok))) (by kernel_rfl) ?_ (fun hHeld => ?_)
                      focus ((try dsimp only); (exact ⟨hx12, hx13, hx14⟩); done)
                      refine wpAnyH_take (i := 0) (oi := ⟨_, _, _, _, _, _⟩) (v := ?_) rfl (by kernel_rfl) (by kernel_rfl) (by kernel_rfl) (fun _ _ _ h => h) (Or.inl ⟨by rfl, ?_⟩) (by assumption) ?_; rotate_left; (focus (intro w hSw; (try dsimp only at hSw); go_simp; (try with_reducible rfl); done)); simp only [Act.put, List.setIfInBounds_toArray, List.set_cons_zero, List.set_cons_succ]
                      refine wpAnyH_take (i := 1) (oi := ⟨_, _, _, _, _, _⟩) (v := ?_) rfl (by kernel_rfl) (by kernel_rfl) (by kernel_rfl) (fun _ _ _ h => h) (Or.inl ⟨by rfl, ?_⟩) (by assumption) ?_; rotate_left; (focus (intro w hSw; (try dsimp only at hSw); go_simp; (try with_reducible rfl); done)); simp only [Act.put, List.setIfInBounds_toArray, List.set_cons_zero, List.set_cons_succ]
                      refine wpAnyH_take (i := 2) (oi := ⟨_, _, _, _, _, _⟩) (v := ?_) rfl (by kernel_rfl) (by kernel_rfl) (by kernel_rfl) (fun _ _ _ h => h) (Or.inl ⟨by rfl, ?_⟩) (by assumption) ?_; rotate_left; (focus (intro w hSw; (try dsimp only at hSw); go_simp; (try with_reducible rfl); done)); simp only [Act.put, List.setIfInBounds_toArray, List.set_cons_zero, List.set_cons_succ]
                      refine wpAnyH_take (i := 3) (oi := ⟨_, _, _, _, _, _⟩) (v := ?_) rfl (by kernel_rfl) (by kernel_rfl) (by kernel_rfl) (fun _ _ _ h => h) (Or.inl ⟨by rfl, ?_⟩) (by assumption) ?_; rotate_left; (focus (intro w hSw; (try dsimp only at hSw); go_simp; (try with_reducible rfl); done)); simp only [Act.put, List.setIfInBounds_toArray, List.set_cons_zero, List.set_cons_succ]
                      refine wpAnyH_take (i := 4) (oi := ⟨_, _, _, _, _, _⟩) (v := ?_) rfl (by kernel_rfl) (by kernel_rfl) (by kernel_rfl) (fun _ _ _ h => h) (Or.inl ⟨by rfl, ?_⟩) (by assumption) ?_; rotate_left; (focus (intro w hSw; (try dsimp only at hSw); go_simp; (try with_reducible rfl); done)); simp only [Act.put, List.setIfInBounds_toArray, List.set_cons_zero, List.set_cons_succ]
                      refine wpAnyH_take (i := 5) (oi := ⟨_, _, _, _, _, _⟩) (v := ?_) rfl (by kernel_rfl) (by kernel_rfl) (by kernel_rfl) (fun _ _ _ h => h) (Or.inl ⟨by rfl, ?_⟩) (by assumption) ?_; rotate_left; (focus (intro w hSw; (try dsimp only at hSw); go_simp; (try with_reducible rfl); done)); simp only [Act.put, List.setIfInBounds_toArray, List.set_cons_zero, List.set_cons_succ]
                      refine wpAnyH_take (i := 6) (oi := ⟨_, _, _, _, _, _⟩) (v := ?_) rfl (by kernel_rfl) (by kernel_rfl) (by kernel_rfl) (fun _ _ _ h => h) (Or.inl ⟨by rfl, ?_⟩) (by assumption) ?_; rotate_left; (focus (intro w hSw; (try dsimp only at hSw); go_simp; (try with_reducible rfl); done)); simp only [Act.put, List.setIfInBounds_toArray, List.set_cons_zero, List.set_cons_succ]
                      refine wpAnyH_take (i := 7) (oi := ⟨_, _, _, _, _, _⟩) rfl (by kernel_rfl) (by kernel_rfl) (by kernel_rfl) (fun _ _ _ h => h) (Or.inr ⟨by rfl, rfl⟩) (by assumption) ?_; simp only [Act.put, List.setIfInBounds_toArray, List.set_cons_zero, List.set_cons_succ]
                      refine wpAnyH_take (i := 8) (oi := ⟨_, _, _, _, _, _⟩) rfl (by kernel_rfl) (by kernel_rfl) (by kernel_rfl) (fun _ _ _ h => h) (Or.inr ⟨by rfl, rfl⟩) (by assumption) ?_; simp only [Act.put, List.setIfInBounds_toArray, List.set_cons_zero, List.set_cons_succ]
                      refine wpAnyH_take (i := 9) (oi := ⟨_, _, _, _, _, _⟩) rfl (by kernel_rfl) (by kernel_rfl) (by kernel_rfl) (fun _ _ _ h => h) (Or.inr ⟨by rfl, rfl⟩) (by assumption) ?_; simp only [Act.put, List.setIfInBounds_toArray, List.set_cons_zero, List.set_cons_succ]
                      refine wpAnyH_take (i := 10) (oi := ⟨_, _, _, _, _, _⟩) rfl (by kernel_rfl) (by kernel_rfl) (by kernel_rfl) (fun _ _ _ h => h) (Or.inr ⟨by rfl, rfl⟩) (by assumption) ?_; simp only [Act.put, List.setIfInBounds_toArray, List.set_cons_zero, List.set_cons_succ]
                      refine wpAnyH_take (i := 11) (oi := ⟨_, _, _, _, _, _⟩) rfl (by kernel_rfl) (by kernel_rfl) (by kernel_rfl) (fun _ _ _ h => h) (Or.inr ⟨by rfl, rfl⟩) (by assumption) ?_; simp only [Act.put, List.setIfInBounds_toArray, List.set_cons_zero, List.set_cons_succ]
                      refine wpAnyH_take (i := 12) (oi := ⟨_, _, _, _, _, _⟩) rfl (by kernel_rfl) (by kernel_rfl) (by kernel_rfl) (fun _ _ _ h => h) (Or.inr ⟨by rfl, rfl⟩) (by assumption) ?_; simp only [Act.put, List.setIfInBounds_toArray, List.set_cons_zero, List.set_cons_succ]
                      refine wpAnyH_take (i := 13) (oi := ⟨_, _, _, _, _, _⟩) rfl (by kernel_rfl) (by kernel_rfl) (by kernel_rfl) (fun _ _ _ h => h) (Or.inr ⟨by rfl, rfl⟩) (by assumption) ?_; simp only [Act.put, List.setIfInBounds_toArray, List.set_cons_zero, List.set_cons_succ]
                      refine wpAnyH_take (i := 14) (oi := ⟨_, _, _, _, _, _⟩) rfl (by kernel_rfl) (by kernel_rfl) (by kernel_rfl) (fun _ _ _ h => h) (Or.inr ⟨by rfl, rfl⟩) (by assumption) ?_; simp only [Act.put, List.setIfInBounds_toArray, List.set_cons_zero, List.set_cons_succ]
                      refine wpAnyH_take (i := 15) (oi := ⟨_, _, _, _, _, _⟩) (v := ?_) rfl (by kernel_rfl) (by kernel_rfl) (by kernel_rfl) (fun _ _ _ h => h) (Or.inl ⟨by rfl, ?_⟩) (by assumption) ?_; rotate_left; (focus (intro w hSw; (try dsimp only at hSw); go_simp; (try with_reducible rfl); done)); simp only [Act.put, List.setIfInBounds_toArray, List.set_cons_zero, List.set_cons_succ]
                      refine wpAnyH_take (i := 16) (oi := ⟨_, _, _, _, _, _⟩) (v := ?_) rfl (by kernel_rfl) (by kernel_rfl) (by kernel_rfl) (fun _ _ _ h => h) (Or.inl ⟨by rfl, ?_⟩) (by assumption) ?_; rotate_left; (focus (intro w hSw; (try dsimp only at hSw); go_simp; (try with_reducible rfl); done)); simp only [Act.put, List.setIfInBounds_toArray, List.set_cons_zero, List.set_cons_succ]
                      refine wpAnyH_take (i := 17) (oi := ⟨_, _, _, _, _, _⟩) rfl (by kernel_rfl) (by kernel_rfl) (by kernel_rfl) (fun _ _ _ h => h) (Or.inr ⟨by rfl, rfl⟩) (by assumption) ?_; simp only [Act.put, List.setIfInBounds_toArray, List.set_cons_zero, List.set_cons_succ]
                      refine wpAnyH_take (i := 18) (oi := ⟨_, _, _, _, _, _⟩) rfl (by kernel_rfl) (by kernel_rfl) (by kernel_rfl) (fun _ _ _ h => h) (Or.inr ⟨by rfl, rfl⟩) (by assumption) ?_; simp only [Act.put, List.setIfInBounds_toArray, List.set_cons_zero, List.set_cons_succ]
                      refine wpAnyH_take (i := 19) (oi := ⟨_, _, _, _, _, _⟩) rfl (by kernel_rfl) (by kernel_rfl) (by kernel_rfl) (fun _ _ _ h => h) (Or.inr ⟨by rfl, rfl⟩) (by assumption) ?_; simp only [Act.put, List.setIfInBounds_toArray, List.set_cons_zero, List.set_cons_succ]
                      refine wpAnyH_take (i := 20) (oi := ⟨_, _, _, _, _, _⟩) rfl (by kernel_rfl) (by kernel_rfl) (by kernel_rfl) (fun _ _ _ h => h) (Or.inr ⟨by rfl, rfl⟩) (by assumption) ?_; simp only [Act.put, List.setIfInBounds_toArray, List.set_cons_zero, List.set_cons_succ]
                      refine wpAnyH_take (i := 21) (oi := ⟨_, _, _, _, _, _⟩) rfl (by kernel_rfl) (by kernel_rfl) (by kernel_rfl) (fun _ _ _ h => h) (Or.inr ⟨by rfl, rfl⟩) (by assumption) ?_; simp only [Act.put, List.setIfInBounds_toArray, List.set_cons_zero, List.set_cons_succ]
                      refine wpAnyH_take (i := 22) (oi := ⟨_, _, _, _, _, _⟩) rfl (by kernel_rfl) (by kernel_rfl) (by kernel_rfl) (fun _ _ _ h => h) (Or.inr ⟨by rfl, rfl⟩) (by assumption) ?_; simp only [Act.put, List.setIfInBounds_toArray, List.set_cons_zero, List.set_cons_succ]
                      refine wpAnyH_take (i := 23) (oi := ⟨_, _, _, _, _, _⟩) rfl (by kernel_rfl) (by kernel_rfl) (by kernel_rfl) (fun _ _ _ h => h) (Or.inr ⟨by rfl, rfl⟩) (by assumption) ?_; simp only [Act.put, List.setIfInBounds_toArray, List.set_cons_zero, List.set_cons_succ]
                      refine wpAnyH_take (i := 24) (oi := ⟨_, _, _, _, _, _⟩) rfl (by kernel_rfl) (by kernel_rfl) (by kernel_rfl) (fun _ _ _ h => h) (Or.inr ⟨by rfl, rfl⟩) (by assumption) ?_; simp only [Act.put, List.setIfInBounds_toArray, List.set_cons_zero, List.set_cons_succ]
                      refine wpAnyH_take (i := 25) (oi := ⟨_, _, _, _, _, _⟩) (v := ?_) rfl (by kernel_rfl) (by kernel_rfl) (by kernel_rfl) (fun _ _ _ h => h) (Or.inl ⟨by rfl, ?_⟩) (by assumption) ?_; rotate_left; (focus (intro w hSw; (try dsimp only at hSw); go_simp; (try with_reducible rfl); done)); simp only [Act.put, List.setIfInBounds_toArray, List.set_cons_zero, List.set_cons_succ]
                      refine wpAnyH_done (by kernel_rfl) ?_ _
                      go_wp2
                      go_roundw
                      case rel => exact ⟨j + 1, _, by go_num, by omega, HR11.out.below ((Below.refl _ _).drew), HG11.out, HB11.out.drew⟩
                      case measure => simp [intOf]; omega
                  · have hx12 := blk_below HB9.out HX.out
                    have x0 := cell_block hx12 0
                    have x1 := cell_block hx12 1
                    have x2 := cell_block hx12 2
                    have x3 := cell_block hx12 3
                    have x4 := cell_block hx12 4
                    have x5 := cell_block hx12 5
                    have x6 := cell_block hx12 6
                    have x7 := cell_block hx12 7
                    have x8 := cell_block hx12 8
                    simp only [List.getElem?_toArray, List.getElem?_cons_zero, List.getElem?_cons_succ] at x0 x1 x2 x3 x4 x5 x6 x7 x8
                    obtain ⟨r3, hr3⟩ : ∃ r, rot st2 x.tok ⟨#[122, 122]⟩ x.cl [] x.now = r := ⟨_, rfl⟩
                    go_wp2_with fail
                    refine (rotate_b HR9.out x.tok ⟨#[122, 122]⟩ x.cl [] none 0 0 x.now hr3 (by omega) (by decide) (Ss.nil _ _ _) (fun i hi => by simp at hi) (by omega) (HM.out.below HB9.out) (fun a ha => by cases ha)).mono ?_
                    rintro e w13 ⟨A13, d13, rfl, _, _, hr13, hm13⟩
                    have HR13 := Lib.hid (hr13.mono (T' := fun k => wb.heap.size ≤ k) (fun k _ e => e.1))
                    have HB13 := Lib.hid (HB9.out.trans (hm13.toBelow HB9.out.size (fun _ h => h)))
                    have HR3 := Lib.hid hr3
                    clear hr13 hm13 hr3 hx12 x0 x1 x2 x3 x4 x5 x6 x7 x8
                    go_upto_region 20 with fail
                    obtain ⟨w14, hw14⟩ : ∃ w', w' = w13.alloc (.cells #[.string r3.2.1.user, .string r3.2.1.client, .string r3.2.1.tenant, .string r3.2.1.session, .string r3.2.1.redirect, .string r3.2.1.nonce, .string r3.2.1.challenge, .int .i64 r3.2.1.method, (.slice A13 r3.2.1.scopes.length d13), .int .i64 r3.2.1.auth, .int .i64 r3.2.1.level] 35) := ⟨_, rfl⟩
                    have hb14 : Below w13.heap.size w13 w14 := by rw [hw14]; go_grown
                    rw [← hw14]
                    have HB14 := Lib.hid (HB13.out.trans (hb14.mono HB13.out.size))
                    have HR14 := Lib.hid (HR13.out.below hb14)
                    clear hw14 hb14
                    have hx15 := blk_below HB14.out HX.out
                    have x0 := cell_block hx15 0
                    have x1 := cell_block hx15 1
                    have x2 := cell_block hx15 2
                    have x3 := cell_block hx15 3
                    have x4 := cell_block hx15 4
                    have x5 := cell_block hx15 5
                    have x6 := cell_block hx15 6
                    have x7 := cell_block hx15 7
                    have x8 := cell_block hx15 8
                    simp only [List.getElem?_toArray, List.getElem?_cons_zero, List.getElem?_cons_succ] at x0 x1 x2 x3 x4 x5 x6 x7 x8
                    obtain ⟨o, ho⟩ : ∃ o, famT r3.1 x.nxt = o := ⟨_, rfl⟩
                    go_wp2_with fail
                    refine (fam_b HR14.out x.nxt (by omega) ho).mono ?_
                    rintro e w15 ⟨rfl, rfl⟩
                    have HO := Lib.hid ho
                    clear ho
                    obtain ⟨r4, hr4⟩ : ∃ r, rot r3.1 x.nxt ⟨#[122, 122]⟩ x.cl [] x.now = r := ⟨_, rfl⟩
                    go_wp2_with fail
                    refine (rotate_b HR14.out x.nxt ⟨#[122, 122]⟩ x.cl [] none 0 0 x.now hr4 (by omega) (by decide) (Ss.nil _ _ _) (fun i hi => by simp at hi) (by omega) (HM.out.below HB14.out) (fun a ha => by cases ha)).mono ?_
                    rintro e w16 ⟨A16, d16, rfl, _, _, hr16, hm16⟩
                    have HR16 := Lib.hid (hr16.mono (T' := fun k => wb.heap.size ≤ k) (fun k _ e => e.1))
                    have HB16 := Lib.hid (HB14.out.trans (hm16.toBelow HB14.out.size (fun _ h => h)))
                    have HR4 := Lib.hid hr4
                    clear hr16 hm16 hr4 hx15 x0 x1 x2 x3 x4 x5 x6 x7 x8
                    go_upto_region 22 with fail
                    obtain ⟨w17, hw17⟩ : ∃ w', w' = w16.alloc (.cells #[.string r4.2.1.user, .string r4.2.1.client, .string r4.2.1.tenant, .string r4.2.1.session, .string r4.2.1.redirect, .string r4.2.1.nonce, .string r4.2.1.challenge, .int .i64 r4.2.1.method, (.slice A16 r4.2.1.scopes.length d16), .int .i64 r4.2.1.auth, .int .i64 r4.2.1.level] 35) := ⟨_, rfl⟩
                    have hb17 : Below w16.heap.size w16 w17 := by rw [hw17]; go_grown
                    rw [← hw17]
                    have HB17 := Lib.hid (HB16.out.trans (hb17.mono HB16.out.size))
                    have HR17 := Lib.hid (HR16.out.below hb17)
                    clear hw17 hb17
                    have hlast := gone_last HR9.out.inv HG9.out ⟨#[122, 122]⟩ ⟨#[122, 122]⟩ x.now (by rw [HR3.out]; exact HR14.out.inv) (by rw [HR3.out, HR4.out]; exact HR17.out.inv)
                    rw [HR3.out, HR4.out, HO.out] at hlast
                    obtain ⟨e18, i, ei, esz, e25, elv⟩ := hlast
                    subst ei
                    have HLV := Lib.hid elv
                    have HE25 := Lib.hid e25
                    have q18 : (r3.2.2 == 18) = true := by rw [e18]; rfl
                    clear elv e25 e18
                    have x1 := cell_block (blk_below HB17.out HX.out) 1
                    simp only [List.getElem?_toArray, List.getElem?_cons_zero, List.getElem?_cons_succ] at x1
                    simp only [Option.getD_some, Option.isSome_some]
                    go_wp2_with fail
                    refine (live_b HR17.out i esz x.now HLV.out).mono ?_
                    rintro e w18 ⟨rfl, hb18⟩
                    have HB18 := Lib.hid (HB17.out.trans (hb18.mono HB17.out.size))
                    clear hb18
                    rcases HE25.out with e25 | e25
                    · have q25 : (r4.2.2 == 25) = true := by rw [e25]; rfl
                      clear e25
                      go_wp2_with fail
                      refine (awake_any w18 (HM.out.below HB18.out)).mono ?_
                      rintro e wz ⟨rfl, hbz⟩
                      have HBZ := Lib.hid (FIN.out _ ((HB18.out).trans (hbz.mono (HB18.out).size)))
                      clear hbz
                      go_wp2
                      go_ret
                      exact ⟨rfl, HBZ.out⟩
                    · have q25 : (r4.2.2 == 25) = false := by rw [e25]; rfl
                      have q28 : (r4.2.2 == 18) = true := by rw [e25]; rfl
                      clear e25
                      go_wp2_with fail
                      refine (awake_any w18 (HM.out.below HB18.out)).mono ?_
                      rintro e wz ⟨rfl, hbz⟩
                      have HBZ := Lib.hid (FIN.out _ ((HB18.out).trans (hbz.mono (HB18.out).size)))
                      clear hbz
                      go_wp2
                      go_ret
                      exact ⟨rfl, HBZ.out⟩
              · go_wp2_with fail
                refine (awake_any w8 (HM.out.below HB8.out)).mono ?_
                rintro e wz ⟨rfl, hbz⟩
                have HBZ := Lib.hid (FIN.out _ ((HB8.out).trans (hbz.mono (HB8.out).size)))
                clear hbz
                go_wp2
                go_ret
                exact ⟨rfl, HBZ.out⟩
        · go_wp2_with fail
          refine (new_no (l := life) (t := total) (by omega)).mono ?_
          rintro e w4 ⟨rfl, rfl⟩
          go_wp2_with fail
          refine (awake_any w3 (HM.out.below Hw3.out)).mono ?_
          rintro e wz ⟨rfl, hbz⟩
          have HBZ := Lib.hid (FIN.out _ ((Hw3.out).trans (hbz.mono (Hw3.out).size)))
          clear hbz
          go_wp2
          go_ret
          exact ⟨rfl, HBZ.out⟩
      · have HL3 := Lib.hid (show opOk x = false by simpa using hl3)
        clear hl3
        go_wp2_with fail
        refine (light_is wb A n c l HS.out HL1.out).mono ?_
        rintro e w1 ⟨rfl, hb⟩
        have Hw1 := Lib.hid ((HBB.out).trans (hb.mono (HBB.out).size))
        clear hb
        go_wp2_with fail
        refine (light_is w1 A2 n2 c2 l2 (HS2.out.below Hw1.out) HL2.out).mono ?_
        rintro e w2 ⟨rfl, hb⟩
        have Hw2 := Lib.hid ((Hw1.out).trans (hb.mono (Hw1.out).size))
        clear hb
        have hx2 := blk_below Hw2.out HX.out
        have x0 := cell_block hx2 0
        have x1 := cell_block hx2 1
        have x2 := cell_block hx2 2
        have x3 := cell_block hx2 3
        have x4 := cell_block hx2 4
        have x5 := cell_block hx2 5
        have x6 := cell_block hx2 6
        have x7 := cell_block hx2 7
        have x8 := cell_block hx2 8
        simp only [List.getElem?_toArray, List.getElem?_cons_zero, List.getElem?_cons_succ] at x0 x1 x2 x3 x4 x5 x6 x7 x8
        go_wp2_with fail
        obtain ⟨w2b, hw2b⟩ : ∃ w', w' = w2.alloc (.cells #[.int .i64 x.call, .int .i64 x.now, .string x.id, .string x.tok, .string x.nxt, .string x.user, .string x.cl, .string x.ses, .slice Ax x.sc.length dx] 39) := ⟨_, rfl⟩
        have hb2 : Below w2.heap.size w2 w2b := by rw [hw2b]; go_grown
        have HW2B := Lib.hid (Hw2.out.trans (hb2.mono Hw2.out.size))
        have HQ2 := Lib.hid (show w2b.heap[w2.heap.size]? = some (.cells #[.int .i64 x.call, .int .i64 x.now, .string x.id, .string x.tok, .string x.nxt, .string x.user, .string x.cl, .string x.ses, .slice Ax x.sc.length dx] 39 (0, 0)) by rw [hw2b]; exact heap_alloc_new _ _)
        rw [← hw2b]
        clear hw2b hb2
        refine (light_is w2b (some ⟨w2.heap.size, 0, none⟩) 1 1 [x] (os_one HQ2.out (HSX.out.below HW2B.out)) ((light_one x).trans HL3.out)).mono ?_
        rintro e w3 ⟨rfl, hb⟩
        have Hw3 := Lib.hid (HW2B.out.trans (hb.mono HW2B.out.size))
        clear hb hx2 x0 x1 x2 x3 x4 x5 x6 x7 x8
        go_wp2_with fail
        refine (awake_any w3 (HM.out.below Hw3.out)).mono ?_
        rintro e wz ⟨rfl, hbz⟩
        have HBZ := Lib.hid (FIN.out _ ((Hw3.out).trans (hbz.mono (Hw3.out).size)))
        clear hbz
        go_wp2
        go_ret
        exact ⟨rfl, HBZ.out⟩
    · have HL2 := Lib.hid (show lightB l2 = false by simpa using hl2)
      clear hl2
      go_wp2_with fail
      refine (light_is wb A n c l HS.out HL1.out).mono ?_
      rintro e w1 ⟨rfl, hb⟩
      have Hw1 := Lib.hid ((HBB.out).trans (hb.mono (HBB.out).size))
      clear hb
      go_wp2_with fail
      refine (light_is w1 A2 n2 c2 l2 (HS2.out.below Hw1.out) HL2.out).mono ?_
      rintro e w2 ⟨rfl, hb⟩
      have Hw2 := Lib.hid ((Hw1.out).trans (hb.mono (Hw1.out).size))
      clear hb
      go_wp2_with fail
      refine (awake_any w2 (HM.out.below Hw2.out)).mono ?_
      rintro e wz ⟨rfl, hbz⟩
      have HBZ := Lib.hid (FIN.out _ ((Hw2.out).trans (hbz.mono (Hw2.out).size)))
      clear hbz
      go_wp2
      go_ret
      exact ⟨rfl, HBZ.out⟩
  · have HL1 := Lib.hid (show lightB l = false by simpa using hl1)
    clear hl1
    go_wp2_with fail
    refine (light_is wb A n c l HS.out HL1.out).mono ?_
    rintro e w1 ⟨rfl, hb⟩
    have Hw1 := Lib.hid ((HBB.out).trans (hb.mono (HBB.out).size))
    clear hb
    go_wp2_with fail
    refine (awake_any w1 (HM.out.below Hw1.out)).mono ?_
    rintro e wz ⟨rfl, hbz⟩
    have HBZ := Lib.hid (FIN.out _ ((Hw1.out).trans (hbz.mono (Hw1.out).size)))
    clear hbz
    go_wp2
    go_ret
    exact ⟨rfl, HBZ.out⟩
end Go.Proofs.Ytfeljihbaekfmaa.Rf
