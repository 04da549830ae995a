/-
  The walk of the statement RefreshBounded.
-/
import Derived.Test.YtfeljihbaekfmaaRfL0
namespace Go.Proofs.Ytfeljihbaekfmaa.Rf
open Go.RowKit Go.Proofs.Ytfeljihbaekfmaa.Fo

set_option maxRecDepth 100000 in
set_option maxHeartbeats 8000000 in
theorem bounded_any (w : World) (life total : Int) (A : Option Addr) (n c : Nat) (l : List Opx) (hs : Os w A n c l) (hm : MX w) :
    Calls Try.prog 8 #[.int .i64 life, .int .i64 total, .slice A n c] w fun e w' => e = .returned (.bool true) ∧ Below w.heap.size w w' := by
  have HS := Lib.hid hs
  have HLN := Lib.hid hs.1
  have HM := Lib.hid hm
  clear hs hm
  by_cases hl : lightB l = true
  · by_cases ht : 1 ≤ total ∧ total ≤ 1073741824
    · obtain ⟨ht1, ht2⟩ := ht
      have HLI := Lib.hid hl
      have HTL := Lib.hid (limI_id (n := total) (by omega) (by omega))
      have hn24 : n ≤ 24 := by rw [← HLN.out]; exact light_len hl
      clear hl
      go_enter Try.func8, Try.ntmps8
      go_wp2_with fail
      refine (light_is w A n c l HS.out HLI.out).mono ?_
      rintro e w1 ⟨rfl, hb1⟩
      have HB1 := Lib.hid hb1
      clear hb1
      by_cases hlf : 1 ≤ limI life
      · go_wp2_with fail
        refine (new_b (l := life) (t := total) ⟨hlf, by rw [HTL.out]; exact ht1⟩ rfl).mono ?_
        rintro e w2 ⟨F, rfl, hr2, hb2⟩
        have HB2 := Lib.hid (HB1.out.trans (hb2.mono HB1.out.size))
        have HR2 := Lib.hid (hr2.mono (T' := fun k => w.heap.size ≤ k) (fun k _ e => Nat.le_trans HB1.out.size e))
        clear hr2 hb2
        go_wp2_with fail
        go_loopw [9, 10, 11, 12] (fun i _ _ _ wr => ∃ (k : Nat) (st : St), i = .int .i64 k ∧ k ≤ n ∧ RepB wr (fun k => w.heap.size ≤ k) F st ∧ st.life = limI life ∧ st.total = total ∧ Below w.heap.size w wr) (fun i _ _ _ _ => n - (intOf i).toNat)
        case atStart => exact ⟨0, _, rfl, Nat.zero_le _, HR2.out, rfl, HTL.out, HB2.out⟩
        case round =>
          obtain ⟨k, st, rfl, hk, hrep, hlife, htot, hb⟩ := hrel
          have HR := Lib.hid hrep
          have HB := Lib.hid hb
          have HLF := Lib.hid hlife
          have HTT := Lib.hid htot
          clear hrep hb hlife htot
          by_cases hlt : k < n
          · have HOK := Lib.hid (light_at HLI.out (k := k) (by rw [HLN.out]; exact hlt))
            obtain ⟨bh, oh, Ah, dh, xh, rfl, hlh, hxh, h0, h1, h2, h3, h4, h5, h6, h7, h8, hsh, hzh⟩ := HS.out.at (by omega : k < n)
            have h0' := (bkeep HB.out hlh _).trans h0
            have h1' := (bkeep HB.out hlh _).trans h1
            have h2' := (bkeep HB.out hlh _).trans h2
            have h3' := (bkeep HB.out hlh _).trans h3
            have h4' := (bkeep HB.out hlh _).trans h4
            have h5' := (bkeep HB.out hlh _).trans h5
            have h6' := (bkeep HB.out hlh _).trans h6
            have h7' := (bkeep HB.out hlh _).trans h7
            have h8' := (bkeep HB.out hlh _).trans h8
            rw [hxh] at HOK
            have HSh := Lib.hid hsh
            have HZh := Lib.hid hzh
            have H2 := Lib.hid h2
            have H1 := Lib.hid h1
            have H0 := Lib.hid h0
            clear h0 h1 h2 h3 h4 h5 h6 h7 h8 hxh hsh hzh
            go_wp2_with fail
            obtain ⟨r, hr⟩ : ∃ r, doS st xh = r := ⟨_, rfl⟩
            refine (do_b HR.out (fun k hk => Nat.le_trans HB.out.size hk) xh Ah dh (HSh.out.below HB.out) HOK.out (HM.out.below HB.out) (fun a ha hl hT => absurd (HZh.out a ha hl) (by omega)) hr).mono ?_
            rintro e w3 ⟨A3, d3, rfl, _, _, hr3, hm3⟩
            have HDO := Lib.hid hr
            have HR3 := Lib.hid hr3
            have HB3 := Lib.hid (HB.out.trans (hm3.toBelow HB.out.size (fun _ h => h)))
            clear hr hr3 hm3 h0' h1' h2' h3' h4' h5' h6' h7' h8'
            go_upto_region 10 with fail
            obtain ⟨w4, hw4⟩ : ∃ w', w' = w3.alloc (.cells #[.string r.2.1.user, .string r.2.1.client, .string r.2.1.tenant, .string r.2.1.session, .string r.2.1.redirect, .string r.2.1.nonce, .string r.2.1.challenge, .int .i64 r.2.1.method, (.slice A3 r.2.1.scopes.length d3), .int .i64 r.2.1.auth, .int .i64 r.2.1.level] 35) := ⟨_, rfl⟩
            have hb4 : Below w3.heap.size w3 w4 := by rw [hw4]; go_grown
            rw [← hw4]
            have HB4 := Lib.hid (HB3.out.trans (hb4.mono HB3.out.size))
            have HR4 := Lib.hid (HR3.out.below hb4)
            clear hw4 hb4
            by_cases hA : (xh.call = 0 ∧ r.2.2 = 0) ∧ (0 ≤ xh.now ∧ xh.now ≤ 1073741824)
            · obtain ⟨⟨q1, q2⟩, q3, q4⟩ := hA
              have HLV := Lib.hid (show liveI r.1 xh.id xh.now = true from by rw [← HDO.out]; exact start_live q1 (by rw [HDO.out]; exact q2) (by rw [HDO.out]; exact HR4.out.inv) q3 q4 (by rw [HLF.out]; exact hlf) (by rw [HTT.out]; exact ht1))
              have HBD := Lib.hid (show Bound r.1 st.l.length xh.id (addC xh.now total) from by rw [← HDO.out, ← HTT.out]; exact bound_start q1 (by rw [HDO.out]; exact q2))
              have HFI := Lib.hid (show addC xh.now total ≤ limI (xh.now + total) by unfold addC limI; omega)
              have HID := Lib.hid (ok_parts HOK.out).1
              have gk : IntKind.i64.wrap (xh.now + total) = xh.now + total := IntWalk.i64_in _ (by omega)
              have h0' := cell_below HB4.out H0.out
              have h1' := cell_below HB4.out H1.out
              have h2' := cell_below HB4.out H2.out
              have hnn : ¬ xh.now < 0 := by omega
              have hnm : ¬ 1073741824 < xh.now := by omega
              go_wp2_with fail
              clear q1 q2
              refine wp_region_held_drew (S := (fun w' => w'.cell? ⟨bh, oh + k * 9 + 2, none⟩ = some (.string xh.id) ∧ w'.cell? ⟨bh, oh + k * 9 + 1, none⟩ = some (.int .i64 xh.now))) (by kernel_rfl) ?_ (fun hHeld => ?_)
              focus ((try dsimp only); (first | exact ⟨cell_below HB4.out.drew H2.out, cell_below HB4.out.drew H1.out⟩ | exact ⟨cell_below HB5.out H2.out, cell_below HB5.out H1.out⟩); done)
              refine wpAnyH_take (i := 0) (oi := ⟨_, _, _, _, _, _⟩) (v := ?_) rfl (by kernel_rfl) (by kernel_rfl) (by kernel_rfl) (fun _ _ _ h => h) (Or.inl ⟨by rfl, ?_⟩) (by assumption) ?_; rotate_left; (focus (intro w hSw; (try dsimp only at hSw); go_simp; (try with_reducible rfl); done)); simp only [Act.put, List.setIfInBounds_toArray, List.set_cons_zero, List.set_cons_succ]
              refine wpAnyH_take (i := 1) (oi := ⟨_, _, _, _, _, _⟩) (v := ?_) rfl (by kernel_rfl) (by kernel_rfl) (by kernel_rfl) (fun _ _ _ h => h) (Or.inl ⟨by rfl, ?_⟩) (by assumption) ?_; rotate_left; (focus (intro w hSw; (try dsimp only at hSw); go_simp; (try with_reducible rfl); done)); simp only [Act.put, List.setIfInBounds_toArray, List.set_cons_zero, List.set_cons_succ]
              refine wpAnyH_take (i := 2) (oi := ⟨_, _, _, _, _, _⟩) (v := ?_) rfl (by kernel_rfl) (by kernel_rfl) (by kernel_rfl) (fun _ _ _ h => h) (Or.inl ⟨by rfl, ?_⟩) (by assumption) ?_; rotate_left; (focus (intro w hSw; (try dsimp only at hSw); go_simp; (try with_reducible rfl); done)); simp only [Act.put, List.setIfInBounds_toArray, List.set_cons_zero, List.set_cons_succ]
              refine wpAnyH_take (i := 3) (oi := ⟨_, _, _, _, _, _⟩) (v := ?_) rfl (by kernel_rfl) (by kernel_rfl) (by kernel_rfl) (fun _ _ _ h => h) (Or.inl ⟨by rfl, ?_⟩) (by assumption) ?_; rotate_left; (focus (intro w hSw; (try dsimp only at hSw); go_simp; (try with_reducible rfl); done)); simp only [Act.put, List.setIfInBounds_toArray, List.set_cons_zero, List.set_cons_succ]
              refine wpAnyH_take (i := 4) (oi := ⟨_, _, _, _, _, _⟩) (v := ?_) rfl (by kernel_rfl) (by kernel_rfl) (by kernel_rfl) (fun _ _ _ h => h) (Or.inl ⟨by rfl, ?_⟩) (by assumption) ?_; rotate_left; (focus (intro w hSw; (try dsimp only at hSw); go_simp; (try with_reducible rfl); done)); simp only [Act.put, List.setIfInBounds_toArray, List.set_cons_zero, List.set_cons_succ]
              refine wpAnyH_take (i := 5) (oi := ⟨_, _, _, _, _, _⟩) (v := ?_) rfl (by kernel_rfl) (by kernel_rfl) (by kernel_rfl) (fun _ _ _ h => h) (Or.inl ⟨by rfl, ?_⟩) (by assumption) ?_; rotate_left; (focus (intro w hSw; (try dsimp only at hSw); go_simp; (try with_reducible rfl); done)); simp only [Act.put, List.setIfInBounds_toArray, List.set_cons_zero, List.set_cons_succ]
              refine wpAnyH_take (i := 6) (oi := ⟨_, _, _, _, _, _⟩) (v := ?_) rfl (by kernel_rfl) (by kernel_rfl) (by kernel_rfl) (fun _ _ _ h => h) (Or.inl ⟨by rfl, ?_⟩) (by assumption) ?_; rotate_left; (focus (intro w hSw; (try dsimp only at hSw); go_simp; (try with_reducible rfl); done)); simp only [Act.put, List.setIfInBounds_toArray, List.set_cons_zero, List.set_cons_succ]
              refine wpAnyH_take (i := 7) (oi := ⟨_, _, _, _, _, _⟩) (v := ?_) rfl (by kernel_rfl) (by kernel_rfl) (by kernel_rfl) (fun _ _ _ h => h) (Or.inl ⟨by rfl, ?_⟩) (by assumption) ?_; rotate_left; (focus (intro w hSw; (try dsimp only at hSw); go_simp; (try with_reducible rfl); done)); simp only [Act.put, List.setIfInBounds_toArray, List.set_cons_zero, List.set_cons_succ]
              refine wpAnyH_take (i := 8) (oi := ⟨_, _, _, _, _, _⟩) (v := ?_) rfl (by kernel_rfl) (by kernel_rfl) (by kernel_rfl) (fun _ _ _ h => h) (Or.inl ⟨by rfl, ?_⟩) (by assumption) ?_; rotate_left; (focus (intro w hSw; (try dsimp only at hSw); go_simp; (try with_reducible rfl); done)); simp only [Act.put, List.setIfInBounds_toArray, List.set_cons_zero, List.set_cons_succ]
              refine wpAnyH_take (i := 9) (oi := ⟨_, _, _, _, _, _⟩) (v := ?_) rfl (by kernel_rfl) (by kernel_rfl) (by kernel_rfl) (fun _ _ _ h => h) (Or.inl ⟨by rfl, ?_⟩) (by assumption) ?_; rotate_left; (focus (intro w hSw; (try dsimp only at hSw); go_simp; (try with_reducible rfl); done)); simp only [Act.put, List.setIfInBounds_toArray, List.set_cons_zero, List.set_cons_succ]
              refine wpAnyH_take (i := 10) (oi := ⟨_, _, _, _, _, _⟩) (v := ?_) rfl (by kernel_rfl) (by kernel_rfl) (by kernel_rfl) (fun _ _ _ h => h) (Or.inl ⟨by rfl, ?_⟩) (by assumption) ?_; rotate_left; (focus (intro w hSw; (try dsimp only at hSw); go_simp; (try with_reducible rfl); done)); simp only [Act.put, List.setIfInBounds_toArray, List.set_cons_zero, List.set_cons_succ]
              refine wpAnyH_ready (rs := [11]) (by kernel_rfl) (by simp) ?_
              refine AllReadyH.cons (o := ⟨_, _, _, _, _, _⟩) rfl (fun K hK => ?_) AllReadyH.nil
              go_simp
              go_wp2_with fail
              refine (live_b (HR4.out.below ((Below.refl _ _).drew)) xh.id (by have := HID.out; omega) xh.now HLV.out).mono ?_
              rintro e w5 ⟨rfl, hb5⟩
              have HB5 := Lib.hid (HB4.out.drew.trans (hb5.mono HB4.out.size))
              have HR5 := Lib.hid ((HR4.out.below ((Below.refl _ _).drew)).below hb5)
              clear hb5
              (try go_wp2_with fail)
              refine hK.out _ _ ?_ (fun hHeld => ?_)
              focus ((try dsimp only); (first | exact ⟨cell_below HB4.out.drew H2.out, cell_below HB4.out.drew H1.out⟩ | exact ⟨cell_below HB5.out H2.out, cell_below HB5.out H1.out⟩); done)
              clear hK K
              (try simp only [Act.put, List.setIfInBounds_toArray, List.set_cons_zero, List.set_cons_succ])
              refine wpAnyH_take (i := 12) (oi := ⟨_, _, _, _, _, _⟩) (v := ?_) rfl (by kernel_rfl) (by kernel_rfl) (by kernel_rfl) (fun _ _ _ h => h) (Or.inl ⟨by rfl, ?_⟩) (by assumption) ?_; rotate_left; (focus (intro w hSw; (try dsimp only at hSw); go_simp; (try with_reducible rfl); done)); simp only [Act.put, List.setIfInBounds_toArray, List.set_cons_zero, List.set_cons_succ]
              refine wpAnyH_done (by kernel_rfl) ?_ _
              clear h0' h1' h2'
              go_wp2_with fail
              go_loopw [12] (fun jv wr2 => ∃ (j : Nat) (st2 : St), jv = .int .i64 j ∧ j ≤ n ∧ RepB wr2 (fun k => w.heap.size ≤ k) F st2 ∧ Bound st2 st.l.length xh.id (addC xh.now total) ∧ Below w.heap.size w wr2) (fun jv _ => n - (intOf jv).toNat)
              case atStart => exact ⟨k + 1, _, by go_num, by omega, HR5.out, HBD.out, HB5.out⟩
              case round =>
                obtain ⟨j, st2, rfl, hj, hrep2, hbd2, hbl2⟩ := hrel
                have HR6 := Lib.hid hrep2
                have HBD6 := Lib.hid hbd2
                have HB6 := Lib.hid hbl2
                clear hrep2 hbd2 hbl2
                by_cases hlt2 : j < n
                · have HOK2 := Lib.hid (light_at HLI.out (k := j) (by rw [HLN.out]; exact hlt2))
                  obtain ⟨bg, og, Ag, dg, xg, hAg, hlg, hxg, g0, g1, g2, g3, g4, g5, g6, g7, g8, hsg, hzg⟩ := HS.out.at (by omega : j < n)
                  simp only [Option.some.injEq, Addr.mk.injEq, and_true] at hAg
                  obtain ⟨rfl, rfl⟩ := hAg
                  have g0' := (bkeep HB6.out hlg _).trans g0
                  have g1' := (bkeep HB6.out hlg _).trans g1
                  have g2' := (bkeep HB6.out hlg _).trans g2
                  have g3' := (bkeep HB6.out hlg _).trans g3
                  have g4' := (bkeep HB6.out hlg _).trans g4
                  have g5' := (bkeep HB6.out hlg _).trans g5
                  have g6' := (bkeep HB6.out hlg _).trans g6
                  have g7' := (bkeep HB6.out hlg _).trans g7
                  have g8' := (bkeep HB6.out hlg _).trans g8
                  rw [hxg] at HOK2
                  have HSg := Lib.hid hsg
                  have HZg := Lib.hid hzg
                  clear g0 g1 g2 g3 g4 g5 g6 g7 g8 hxg hsg hzg
                  go_wp2_with fail
                  obtain ⟨r2, hr2⟩ : ∃ r, doS st2 xg = r := ⟨_, rfl⟩
                  refine (do_b HR6.out (fun k hk => Nat.le_trans HB6.out.size hk) xg Ag dg (HSg.out.below HB6.out) HOK2.out (HM.out.below HB6.out) (fun a ha hl hT => absurd (HZg.out a ha hl) (by omega)) hr2).mono ?_
                  rintro e w7 ⟨A7, d7, rfl, _, _, hr7, hm7⟩
                  have HR7 := Lib.hid hr7
                  have HB7 := Lib.hid (HB6.out.trans (hm7.toBelow HB6.out.size (fun _ h => h)))
                  have HBD7 := Lib.hid (show Bound r2.1 st.l.length xh.id (addC xh.now total) from by rw [← hr2]; exact HBD6.out.keep (keep_do st2 xg))
                  clear hr2 hr7 hm7 g0' g1' g2' g3' g4' g5' g6' g7' g8'
                  go_wp2
                  go_roundw
                  case rel => exact ⟨j + 1, _, by go_num, by omega, HR7.out, HBD7.out, HB7.out⟩
                  case measure => simp [intOf]; omega
                · have HDE := Lib.hid (bound_dead HR6.out.inv HBD6.out HFI.out)
                  have h1' := cell_below HB6.out H1.out
                  have h2' := cell_below HB6.out H2.out
                  go_wp2_with fail
                  refine wp_region_held_drew (S := (fun w' => w'.cell? ⟨bh, oh + k * 9 + 2, none⟩ = some (.string xh.id) ∧ w'.cell? ⟨bh, oh + k * 9 + 1, none⟩ = some (.int .i64 xh.now))) (by kernel_rfl) ?_ (fun hHeld => ?_)
                  focus ((try dsimp only); (first | exact ⟨cell_below HB6.out.drew H2.out, cell_below HB6.out.drew H1.out⟩ | exact ⟨cell_below HB8.out H2.out, cell_below HB8.out H1.out⟩ | exact ⟨cell_below HB9.out H2.out, cell_below HB9.out H1.out⟩); done)
                  refine wpAnyH_take (i := 0) (oi := ⟨_, _, _, _, _, _⟩) (v := ?_) rfl (by kernel_rfl) (by kernel_rfl) (by kernel_rfl) (fun _ _ _ h => h) (Or.inl ⟨by rfl, ?_⟩) (by assumption) ?_; rotate_left; (focus (intro w hSw; (try dsimp only at hSw); go_simp; (try with_reducible rfl); done)); simp only [Act.put, List.setIfInBounds_toArray, List.set_cons_zero, List.set_cons_succ]
                  refine wpAnyH_take (i := 1) (oi := ⟨_, _, _, _, _, _⟩) (v := ?_) rfl (by kernel_rfl) (by kernel_rfl) (by kernel_rfl) (fun _ _ _ h => h) (Or.inl ⟨by rfl, ?_⟩) (by assumption) ?_; rotate_left; (focus (intro w hSw; (try dsimp only at hSw); go_simp; (try with_reducible rfl); done)); simp only [Act.put, List.setIfInBounds_toArray, List.set_cons_zero, List.set_cons_succ]
                  refine wpAnyH_take (i := 2) (oi := ⟨_, _, _, _, _, _⟩) (v := ?_) rfl (by kernel_rfl) (by kernel_rfl) (by kernel_rfl) (fun _ _ _ h => h) (Or.inl ⟨by rfl, ?_⟩) (by assumption) ?_; rotate_left; (focus (intro w hSw; (try dsimp only at hSw); go_simp; (try with_reducible rfl); done)); simp only [Act.put, List.setIfInBounds_toArray, List.set_cons_zero, List.set_cons_succ]
                  refine wpAnyH_take (i := 3) (oi := ⟨_, _, _, _, _, _⟩) (v := ?_) rfl (by kernel_rfl) (by kernel_rfl) (by kernel_rfl) (fun _ _ _ h => h) (Or.inl ⟨by rfl, ?_⟩) (by assumption) ?_; rotate_left; (focus (intro w hSw; (try dsimp only at hSw); go_simp; (try with_reducible rfl); done)); simp only [Act.put, List.setIfInBounds_toArray, List.set_cons_zero, List.set_cons_succ]
                  refine wpAnyH_take (i := 4) (oi := ⟨_, _, _, _, _, _⟩) (v := ?_) rfl (by kernel_rfl) (by kernel_rfl) (by kernel_rfl) (fun _ _ _ h => h) (Or.inl ⟨by rfl, ?_⟩) (by assumption) ?_; rotate_left; (focus (intro w hSw; (try dsimp only at hSw); go_simp; (try with_reducible rfl); done)); simp only [Act.put, List.setIfInBounds_toArray, List.set_cons_zero, List.set_cons_succ]
                  refine wpAnyH_take (i := 5) (oi := ⟨_, _, _, _, _, _⟩) (v := ?_) rfl (by kernel_rfl) (by kernel_rfl) (by kernel_rfl) (fun _ _ _ h => h) (Or.inl ⟨by rfl, ?_⟩) (by assumption) ?_; rotate_left; (focus (intro w hSw; (try dsimp only at hSw); go_simp; (try with_reducible rfl); done)); simp only [Act.put, List.setIfInBounds_toArray, List.set_cons_zero, List.set_cons_succ]
                  refine wpAnyH_take (i := 6) (oi := ⟨_, _, _, _, _, _⟩) (v := ?_) rfl (by kernel_rfl) (by kernel_rfl) (by kernel_rfl) (fun _ _ _ h => h) (Or.inl ⟨by rfl, ?_⟩) (by assumption) ?_; rotate_left; (focus (intro w hSw; (try dsimp only at hSw); go_simp; (try with_reducible rfl); done)); simp only [Act.put, List.setIfInBounds_toArray, List.set_cons_zero, List.set_cons_succ]
                  refine wpAnyH_take (i := 7) (oi := ⟨_, _, _, _, _, _⟩) (v := ?_) rfl (by kernel_rfl) (by kernel_rfl) (by kernel_rfl) (fun _ _ _ h => h) (Or.inl ⟨by rfl, ?_⟩) (by assumption) ?_; rotate_left; (focus (intro w hSw; (try dsimp only at hSw); go_simp; (try with_reducible rfl); done)); simp only [Act.put, List.setIfInBounds_toArray, List.set_cons_zero, List.set_cons_succ]
                  refine wpAnyH_take (i := 8) (oi := ⟨_, _, _, _, _, _⟩) (v := ?_) rfl (by kernel_rfl) (by kernel_rfl) (by kernel_rfl) (fun _ _ _ h => h) (Or.inl ⟨by rfl, ?_⟩) (by assumption) ?_; rotate_left; (focus (intro w hSw; (try dsimp only at hSw); go_simp; (try with_reducible rfl); done)); simp only [Act.put, List.setIfInBounds_toArray, List.set_cons_zero, List.set_cons_succ]
                  refine wpAnyH_take (i := 9) (oi := ⟨_, _, _, _, _, _⟩) (v := ?_) rfl (by kernel_rfl) (by kernel_rfl) (by kernel_rfl) (fun _ _ _ h => h) (Or.inl ⟨by rfl, ?_⟩) (by assumption) ?_; rotate_left; (focus (intro w hSw; (try dsimp only at hSw); go_simp; (try with_reducible rfl); done)); simp only [Act.put, List.setIfInBounds_toArray, List.set_cons_zero, List.set_cons_succ]
                  refine wpAnyH_take (i := 10) (oi := ⟨_, _, _, _, _, _⟩) (v := ?_) rfl (by kernel_rfl) (by kernel_rfl) (by kernel_rfl) (fun _ _ _ h => h) (Or.inl ⟨by rfl, ?_⟩) (by assumption) ?_; rotate_left; (focus (intro w hSw; (try dsimp only at hSw); go_simp; (try with_reducible rfl); done)); simp only [Act.put, List.setIfInBounds_toArray, List.set_cons_zero, List.set_cons_succ]
                  refine wpAnyH_take (i := 11) (oi := ⟨_, _, _, _, _, _⟩) (v := ?_) rfl (by kernel_rfl) (by kernel_rfl) (by kernel_rfl) (fun _ _ _ h => h) (Or.inl ⟨by rfl, ?_⟩) (by assumption) ?_; rotate_left; (focus (intro w hSw; (try dsimp only at hSw); go_simp; (try with_reducible rfl); done)); simp only [Act.put, List.setIfInBounds_toArray, List.set_cons_zero, List.set_cons_succ]
                  refine wpAnyH_take (i := 12) (oi := ⟨_, _, _, _, _, _⟩) (v := ?_) rfl (by kernel_rfl) (by kernel_rfl) (by kernel_rfl) (fun _ _ _ h => h) (Or.inl ⟨by rfl, ?_⟩) (by assumption) ?_; rotate_left; (focus (intro w hSw; (try dsimp only at hSw); go_simp; (try with_reducible rfl); done)); simp only [Act.put, List.setIfInBounds_toArray, List.set_cons_zero, List.set_cons_succ]
                  refine wpAnyH_ready (rs := [13]) (by kernel_rfl) (by simp) ?_
                  refine AllReadyH.cons (o := ⟨_, _, _, _, _, _⟩) rfl (fun K hK => ?_) AllReadyH.nil
                  go_simp
                  go_wp2_with fail
                  refine (live_b (HR6.out.below ((Below.refl _ _).drew)) xh.id (by have := HID.out; omega) (xh.now + total) HDE.out).mono ?_
                  rintro e w8 ⟨rfl, hb8⟩
                  have HB8 := Lib.hid (HB6.out.drew.trans (hb8.mono HB6.out.size))
                  clear hb8
                  (try go_wp2_with fail)
                  refine hK.out _ _ ?_ (fun hHeld => ?_)
                  focus ((try dsimp only); (first | exact ⟨cell_below HB6.out.drew H2.out, cell_below HB6.out.drew H1.out⟩ | exact ⟨cell_below HB8.out H2.out, cell_below HB8.out H1.out⟩ | exact ⟨cell_below HB9.out H2.out, cell_below HB9.out H1.out⟩); done)
                  clear hK K
                  (try simp only [Act.put, List.setIfInBounds_toArray, List.set_cons_zero, List.set_cons_succ])
                  refine wpAnyH_take (i := 14) (oi := ⟨_, _, _, _, _, _⟩) (v := ?_) rfl (by kernel_rfl) (by kernel_rfl) (by kernel_rfl) (fun _ _ _ h => h) (Or.inl ⟨by rfl, ?_⟩) (by assumption) ?_; rotate_left; (focus (intro w hSw; (try dsimp only at hSw); go_simp; (try with_reducible rfl); done)); simp only [Act.put, List.setIfInBounds_toArray, List.set_cons_zero, List.set_cons_succ]
                  refine wpAnyH_take (i := 15) (oi := ⟨_, _, _, _, _, _⟩) (v := ?_) rfl (by kernel_rfl) (by kernel_rfl) (by kernel_rfl) (fun _ _ _ h => h) (Or.inl ⟨by rfl, ?_⟩) (by assumption) ?_; rotate_left; (focus (intro w hSw; (try dsimp only at hSw); go_simp; (try with_reducible rfl); done)); simp only [Act.put, List.setIfInBounds_toArray, List.set_cons_zero, List.set_cons_succ]
                  refine wpAnyH_ready (rs := [16]) (by kernel_rfl) (by simp) ?_
                  refine AllReadyH.cons (o := ⟨_, _, _, _, _, _⟩) rfl (fun K hK => ?_) AllReadyH.nil
                  go_simp
                  go_wp2_with fail
                  refine (awake_any w8 (HM.out.below HB8.out)).mono ?_
                  rintro e w9 ⟨rfl, hb9⟩
                  have HB9 := Lib.hid (HB8.out.trans (hb9.mono HB8.out.size))
                  clear hb9
                  (try go_wp2_with fail)
                  refine hK.out _ _ ?_ (fun hHeld => ?_)
                  focus ((try dsimp only); (first | exact ⟨cell_below HB6.out.drew H2.out, cell_below HB6.out.drew H1.out⟩ | exact ⟨cell_below HB8.out H2.out, cell_below HB8.out H1.out⟩ | exact ⟨cell_below HB9.out H2.out, cell_below HB9.out H1.out⟩); done)
                  clear hK K
                  (try simp only [Act.put, List.setIfInBounds_toArray, List.set_cons_zero, List.set_cons_succ])
                  refine wpAnyH_take (i := 17) (oi := ⟨_, _, _, _, _, _⟩) (v := ?_) rfl (by kernel_rfl) (by kernel_rfl) (by kernel_rfl) (fun _ _ _ h => h) (Or.inl ⟨by rfl, ?_⟩) (by assumption) ?_; rotate_left; (focus (intro w hSw; (try dsimp only at hSw); go_simp; (try with_reducible rfl); done)); simp only [Act.put, List.setIfInBounds_toArray, List.set_cons_zero, List.set_cons_succ]
                  refine wpAnyH_take (i := 18) (oi := ⟨_, _, _, _, _, _⟩) (v := ?_) rfl (by kernel_rfl) (by kernel_rfl) (by kernel_rfl) (fun _ _ _ h => h) (Or.inl ⟨by rfl, ?_⟩) (by assumption) ?_; rotate_left; (focus (intro w hSw; (try dsimp only at hSw); go_simp; (try with_reducible rfl); done)); simp only [Act.put, List.setIfInBounds_toArray, List.set_cons_zero, List.set_cons_succ]
                  refine wpAnyH_done (by kernel_rfl) ?_ _
                  go_wp2
                  go_ret
                  exact ⟨rfl, HB9.out⟩
            · have HLF4 := Lib.hid (show r.1.life = limI life by rw [← HDO.out, (do_life st xh).1]; exact HLF.out)
              have HTT4 := Lib.hid (show r.1.total = total by rw [← HDO.out, (do_life st xh).2]; exact HTT.out)
              have h0' := cell_below HB4.out H0.out
              have h1' := cell_below HB4.out H1.out
              have hcase : ¬ xh.call = 0 ∨ (xh.call = 0 ∧ ¬ r.2.2 = 0) ∨ (xh.call = 0 ∧ r.2.2 = 0 ∧ xh.now < 0) ∨ (xh.call = 0 ∧ r.2.2 = 0 ∧ ¬ xh.now < 0 ∧ 1073741824 < xh.now) := by omega
              clear hA
              rcases hcase with q1 | ⟨q1, q2⟩ | ⟨q1, q2, q3⟩ | ⟨q1, q2, q3, q4⟩
              all_goals
                go_wp2_with fail
                go_roundw
                case rel => exact ⟨k + 1, _, by go_num, by omega, HR4.out, HLF4.out, HTT4.out, HB4.out⟩
                case measure => simp [intOf]; omega
          · have HBF := HB.out
            go_wp2_with fail
            refine (awake_any wr (HM.out.below HB.out)).mono ?_
            rintro e wz ⟨rfl, hbz⟩
            have HBZ := Lib.hid (HB.out.trans (hbz.mono HB.out.size))
            clear hbz
            go_wp2
            go_ret
            exact ⟨rfl, HBZ.out⟩
      · go_wp2_with fail
        refine (new_no (l := life) (t := total) (Or.inl (by omega))).mono ?_
        rintro e w2 ⟨rfl, rfl⟩
        go_wp2_with fail
        refine (awake_any w1 (HM.out.below HB1.out)).mono ?_
        rintro e wz ⟨rfl, hbz⟩
        have HBZ := Lib.hid (HB1.out.trans (hbz.mono HB1.out.size))
        clear hbz
        go_wp2
        go_ret
        exact ⟨rfl, HBZ.out⟩
    · have HLI := Lib.hid hl
      clear hl
      go_enter Try.func8, Try.ntmps8
      go_wp2_with fail
      refine (light_is w A n c l HS.out HLI.out).mono ?_
      rintro e w1 ⟨rfl, hb1⟩
      have HB1 := Lib.hid hb1
      clear hb1
      by_cases ht1 : total < 1
      · go_wp2_with fail
        refine (awake_any w1 (HM.out.below HB1.out)).mono ?_
        rintro e wz ⟨rfl, hbz⟩
        have HBZ := Lib.hid (HB1.out.trans (hbz.mono HB1.out.size))
        clear hbz
        go_wp2
        go_ret
        exact ⟨rfl, HBZ.out⟩
      · have ht2 : 1073741824 < total := by omega
        go_wp2_with fail
        refine (awake_any w1 (HM.out.below HB1.out)).mono ?_
        rintro e wz ⟨rfl, hbz⟩
        have HBZ := Lib.hid (HB1.out.trans (hbz.mono HB1.out.size))
        clear hbz
        go_wp2
        go_ret
        exact ⟨rfl, HBZ.out⟩
  · have HLI := Lib.hid (show lightB l = false by simpa using hl)
    clear hl
    go_enter Try.func8, Try.ntmps8
    go_wp2_with fail
    refine (light_is w A n c l HS.out HLI.out).mono ?_
    rintro e w1 ⟨rfl, hb1⟩
    have HB1 := Lib.hid hb1
    clear hb1
    go_wp2_with fail
    refine (awake_any w1 (HM.out.below HB1.out)).mono ?_
    rintro e wz ⟨rfl, hbz⟩
    have HBZ := Lib.hid (HB1.out.trans (hbz.mono HB1.out.size))
    clear hbz
    go_wp2
    go_ret
    exact ⟨rfl, HBZ.out⟩
end Go.Proofs.Ytfeljihbaekfmaa.Rf
