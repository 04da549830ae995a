/-
  The walk of the statement DevflowPlays.
-/
import Derived.Test.YtapooonlbjgbgaaDoorDvTw
import Derived.Deep.MidRow
namespace Go.Proofs.YtapooonlbjgbgaaDoor.Dv
open Go.RowKit Go.Proofs.YtapooonlbjgbgaaDoor.Fo Go.Proofs.YtapooonlbjgbgaaDoor.Rf

theorem two_first {w w1 : World} {B F G : Nat} {st st' : Fs} {T S T' : Nat → Prop} (hS : RefB w S G st) (hd : ∀ k, T k → ¬ S k) (hT1 : ∀ k, T k → B ≤ k) (hS1 : ∀ k, S k → B ≤ k ∧ k < w.heap.size) (hB : B ≤ w.heap.size) (hm : Mods T w w1) (h : RepB w1 T' F st') (hT' : ∀ k, T' k → T k ∨ w.heap.size ≤ k) :
    ∃ T5 : Nat → Prop, RepB w1 T5 F st' ∧ RefB w1 S G st ∧ (∀ k, T5 k → ¬ S k) ∧ (∀ k, T5 k → B ≤ k ∧ k < w1.heap.size) :=
  ⟨fun k => T' k ∧ k < w1.heap.size, h.cap, ref_far hS hm (fun k _ e e2 => hd k e2 e), fun k e e2 => by
    rcases hT' k e.1 with e3 | e3
    · exact hd k e3 e2
    · have := (hS1 k e2).2; omega, fun k e => ⟨by
    rcases hT' k e.1 with e3 | e3
    · exact hT1 k e3
    · omega, e.2⟩⟩
theorem mods_new {T : Nat → Prop} {w w' : World} (h : Mods (fun k => T k ∨ w.heap.size ≤ k) w.drew w') : Mods T w w' :=
  ⟨h.os, h.tape, h.output, h.size, fun k hk hn => h.block k hk (fun e => by
    rcases e with e | e
    · exact hn e
    · omega)⟩
theorem mods_drew {T : Nat → Prop} {w w' : World} (h : Mods T w.drew w') : Mods T w w' := ⟨h.os, h.tape, h.output, h.size, fun k hk hn => h.block k hk hn⟩
theorem mods_new' {T : Nat → Prop} {w w' : World} (h : Mods (fun k => T k ∨ w.heap.size ≤ k) w w') : Mods T w w' :=
  ⟨h.os, h.tape, h.output, h.size, fun k hk hn => h.block k hk (fun e => by
    rcases e with e | e
    · exact hn e
    · omega)⟩
theorem den_cap {st st' : Fs} {u : Bs} {now k : Int} (h : den st u now = (st', k)) : st'.cap = st.cap := by
  unfold den at h
  split at h
  · injection h with h _; subst h; rfl
  · injection h with h _; subst h; rfl
theorem apr_cap {st st' : Fs} {u : Bs} {g : Gr} {now k : Int} (h : apr st u g now = (st', k)) : st'.cap = st.cap := by
  unfold apr at h
  split at h
  · split at h
    · injection h with h _; subst h; rfl
    · split at h
      · injection h with h _; subst h; rfl
      · injection h with h _; subst h; rfl
  · injection h with h _; subst h; rfl
theorem pen_len {st : Fs} {u : Bs} {now : Int} {pc : Bs} {px : List Bs} {pe : Int} (hi : Inv st) (h : pen st u now = (pc, px, pe)) : px.length ≤ 100000 := by
  unfold pen at h
  split at h
  · next i x e hx =>
    injection h with _ h
    injection h with h _
    subst h
    have := (hi.sc x (List.mem_of_getElem? (fn_hit hx).1)).2
    omega
  · injection h with _ h
    injection h with h _
    subst h
    exact Nat.zero_le _
theorem pol_len {st st2 : Fs} {d c : Bs} {now : Int} {g : Gr} {er : Int} (hi : Inv st) (h : pol st d c now = (st2, (g, er))) : g.scopes.length ≤ 100000 := by
  unfold pol at h
  split at h
  · injection h with _ h
    injection h with h _
    subst h
    exact Nat.zero_le _
  · split at h
    · injection h with _ h
      injection h with h _
      subst h
      exact Nat.zero_le _
    · next i hi2 x hx =>
      injection h with _ h
      injection h with h _
      subst h
      split
      · have := (hi.gs _ (List.mem_of_getElem? hx)).2
        omega
      · exact Nat.zero_le _
theorem pol_cap {st st2 : Fs} {d c : Bs} {now : Int} {g : Gr} {er : Int} (h : pol st d c now = (st2, (g, er))) : st2.cap ≤ st.cap + 5 := by
  unfold pol at h
  split at h
  · injection h with h _
    subst h
    omega
  · split at h
    · injection h with h _
      subst h
      omega
    · next i _ x hx =>
      injection h with h _
      subst h
      show (if poE x c now = 24 then st.cap + 5 else st.cap) ≤ st.cap + 5
      split <;> omega
theorem sta_cap {st st' : Fs} {d u c : Bs} {sc : List Bs} {now k : Int} (h : sta st d u c sc now = (st', k)) : st'.cap = st.cap := by
  unfold sta at h
  split at h
  · injection h with h _; subst h; rfl
  · injection h with h _; subst h; rfl
set_option maxRecDepth 100000 in
set_option maxHeartbeats 16000000 in
theorem plays_any (w : World) (life itvl : Int) (A : Option Addr) (n c : Nat) (l : List Opd) (hs : Os w A n c l) (hm : MX w) :
    Calls Tryd.prog 4 #[.int .i64 life, .int .i64 itvl, .slice A n c] w fun e w' => e = .returned (.bool true) ∧ Below w.heap.size w w' := by
  have HM := Lib.hid hm
  have HS := Lib.hid hs
  have HLN := Lib.hid hs.1
  have HB0 := Lib.hid (Below.refl w.heap.size w)
  clear hm hs
  obtain ⟨b2, hb2⟩ : ∃ b, fewB l = b := ⟨_, rfl⟩
  have HFB := Lib.hid hb2
  clear hb2
  go_enter Tryd.func4, Tryd.ntmps4
  go_wp2_with fail
  refine (few_any w A n c l HS.out HFB.out).mono ?_
  rintro e w1 ⟨rfl, hb⟩
  have HB1 := Lib.hid (HB0.out.trans (hb.mono HB0.out.size))
  clear hb
  cases b2 with
  | false => as_aux_lemma =>
    go_wp2_with fail
    refine (alive_any w1 (HM.out.below HB1.out)).mono ?_
    rintro e w2 ⟨rfl, hb⟩
    have HB2 := Lib.hid (HB1.out.trans (hb.mono HB1.out.size))
    clear hb
    go_wp2
    go_ret
    exact ⟨rfl, HB2.out⟩
  | true =>
    have hn25 : n ≤ 25 := by have := few_len HFB.out; have := HLN.out; omega
    by_cases hbad : life < 1 ∨ itvl < 1
    · as_aux_lemma =>
      go_wp2_with fail
      refine (new_no hbad).mono ?_
      rintro e wx ⟨rfl, rfl⟩
      go_wp2_with fail
      refine (rnew_no hbad).mono ?_
      rintro e wx ⟨rfl, rfl⟩
      clear hbad
      go_wp2_with fail
      refine (alive_any w1 (HM.out.below HB1.out)).mono ?_
      rintro e w2 ⟨rfl, hb⟩
      have HB2 := Lib.hid (HB1.out.trans (hb.mono HB1.out.size))
      clear hb
      go_wp2
      go_ret
      exact ⟨rfl, HB2.out⟩
    · have hok : 1 ≤ life ∧ 1 ≤ itvl := by omega
      go_wp2_with fail
      refine (new_b hok rfl).mono ?_
      rintro e w4 ⟨F, rfl, hr, hb⟩
      have HB4 := Lib.hid (HB1.out.trans (hb.mono HB1.out.size))
      have HR4 := Lib.hid hr
      have HZ4 := Lib.hid hb.size
      clear hr hb
      go_wp2_with fail
      refine (rnew_b hok rfl).mono ?_
      rintro e w5 ⟨G, rfl, hr, hb⟩
      have HB5 := Lib.hid (HB4.out.trans (hb.mono HB4.out.size))
      have HTW := Lib.hid (show Two w5 w.heap.size F G (new0 life itvl) from ⟨fun k => w1.heap.size ≤ k ∧ k < w4.heap.size, fun k => w4.heap.size ≤ k ∧ k < w5.heap.size, (HR4.out.cap).below hb, hr.cap, fun k e e2 => by omega, fun k e => ⟨by have := HB1.out.size; omega, Nat.lt_of_lt_of_le e.2 hb.size⟩, fun k e => ⟨by have := HB4.out.size; omega, e.2⟩⟩)
      have HCP := Lib.hid (show (new0 life itvl).cap ≤ 1099511627776 + 5 * ((0 : Nat) : Int) by have := (limI_range itvl).2; show limI itvl ≤ _; omega)
      clear hr hb HR4 HZ4 hbad hok
      go_wp2_with fail
      go_loopw [11, 12, 13, 14, 15, 16, 17, 18, 19, 20, 21, 22, 23] (fun iv _ _ _ _ _ _ _ _ _ _ _ _ wr => ∃ (k : Nat) (st : Fs), iv = .int .i64 k ∧ k ≤ n ∧ Two wr w.heap.size F G st ∧ st.cap ≤ 1099511627776 + 5 * (k : Int) ∧ Below w.heap.size w wr) (fun iv _ _ _ _ _ _ _ _ _ _ _ _ _ => n - (intOf iv).toNat)
      case atStart => exact ⟨0, _, rfl, Nat.zero_le _, HTW.out, HCP.out, HB5.out⟩
      case round =>
        obtain ⟨k, st, rfl, hk, htw, hcp, hb⟩ := hrel
        have HB := Lib.hid hb
        have HTW := Lib.hid htw
        have HCP := Lib.hid hcp
        clear htw hcp hb
        by_cases hlt : k < n
        · as_aux_lemma =>
          have HFO := Lib.hid (few_parts (few_at HFB.out (k := k) (by rw [HLN.out]; exact hlt)))
          obtain ⟨bh, oh, Ah, ch, Bh, dh, xh, rfl, hlh, hxh, h0, h1, h2, h3, h4, h5, h6, h7, h8, h9, h10, h11, h12, h13, h14, h15, h16, hsh, hth, hgn, hsn⟩ := HS.out.at hlt
          rw [hxh] at HFO
          have HSh := Lib.hid hsh
          have HTh := Lib.hid hth
          have g0 := (bkeep HB.out hlh _).trans h0
          have g1 := (bkeep HB.out hlh _).trans h1
          have g2 := (bkeep HB.out hlh _).trans h2
          have g3 := (bkeep HB.out hlh _).trans h3
          have g4 := (bkeep HB.out hlh _).trans h4
          have g5 := (bkeep HB.out hlh _).trans h5
          have g6 := (bkeep HB.out hlh _).trans h6
          have g7 := (bkeep HB.out hlh _).trans h7
          have g8 := (bkeep HB.out hlh _).trans h8
          have g9 := (bkeep HB.out hlh _).trans h9
          have g10 := (bkeep HB.out hlh _).trans h10
          have g11 := (bkeep HB.out hlh _).trans h11
          have g12 := (bkeep HB.out hlh _).trans h12
          have g13 := (bkeep HB.out hlh _).trans h13
          have g14 := (bkeep HB.out hlh _).trans h14
          have g15 := (bkeep HB.out hlh _).trans h15
          have g16 := (bkeep HB.out hlh _).trans h16
          clear hsh hth hxh h0 h1 h2 h3 h4 h5 h6 h7 h8 h9 h10 h11 h12 h13 h14 h15 h16
          obtain ⟨w4, hw⟩ : ∃ w', w' = wr.alloc (.cells #[.int .i64 xh.kind, .string xh.dev, .string xh.user, .string xh.cl, .slice Bh xh.sc.length dh, .string xh.g.user, .string xh.g.client, .string xh.g.tenant, .string xh.g.session, .string xh.g.redirect, .string xh.g.nonce, .string xh.g.challenge, .int .i64 xh.g.method, .slice Ah xh.g.scopes.length ch, .int .i64 xh.g.auth, .int .i64 xh.g.level, .int .i64 xh.now] 41) := ⟨_, rfl⟩
          have hb : Below wr.heap.size wr w4 := by rw [hw]; go_grown
          have HX := Lib.hid (show w4.heap[wr.heap.size]? = some (.cells #[.int .i64 xh.kind, .string xh.dev, .string xh.user, .string xh.cl, .slice Bh xh.sc.length dh, .string xh.g.user, .string xh.g.client, .string xh.g.tenant, .string xh.g.session, .string xh.g.redirect, .string xh.g.nonce, .string xh.g.challenge, .int .i64 xh.g.method, .slice Ah xh.g.scopes.length ch, .int .i64 xh.g.auth, .int .i64 xh.g.level, .int .i64 xh.now] 41 (0, 0)) by rw [hw]; exact heap_alloc_new _ _)
          go_upto_region 13 with fail
          rw [← hw]
          have HB4 := Lib.hid (HB.out.trans (hb.mono HB.out.size))
          have HTW4 := Lib.hid (HTW.out.below hb)
          obtain ⟨T, S, hrp, hrf, hds, hTl, hSl⟩ := HTW.out
          have HRP := Lib.hid (hrp.below hb)
          have HRF := Lib.hid (hrf.below hb)
          have HDS := Lib.hid hds
          have HTL := Lib.hid hTl
          have HSL := Lib.hid hSl
          have HWR := Lib.hid HB.out.size
          have HBX := Lib.hid hb
          clear hw hb hrp hrf hds hTl hSl g0 g1 g2 g3 g4 g5 g6 g7 g8 g9 g10 g11 g12 g13 g14 g15 g16
          obtain ⟨z0, z1, z2, z3, z4, z5, z6, z7, z8, z9, z10, z11, z12, z13, z14, z15, z16⟩ := cells17 HX.out
          by_cases k0 : xh.kind = 0
          · as_aux_lemma =>
            have k0b : (xh.kind == 0) = true := by rw [k0]; rfl
            obtain ⟨⟨st2, er⟩, hq⟩ : ∃ r, sta st xh.dev xh.user xh.cl xh.sc xh.now = r := ⟨_, rfl⟩
            have HQ := Lib.hid hq
            clear hq
            have HSK := Lib.hid (show ∀ w' : World, w'.heap[wr.heap.size]? = w4.heap[wr.heap.size]? → (fun w' => w'.cell? ⟨wr.heap.size, 1, none⟩ = some (.string xh.dev) ∧ w'.cell? ⟨wr.heap.size, 2, none⟩ = some (.string xh.user) ∧ w'.cell? ⟨wr.heap.size, 3, none⟩ = some (.string xh.cl) ∧ w'.cell? ⟨wr.heap.size, 4, none⟩ = some (.slice Bh xh.sc.length dh) ∧ w'.cell? ⟨wr.heap.size, 16, none⟩ = some (.int .i64 xh.now)) w' from fun w' h => by
              obtain ⟨y0, y1, y2, y3, y4, y5, y6, y7, y8, y9, y10, y11, y12, y13, y14, y15, y16⟩ := cells17 (h.trans HX.out)
              exact ⟨y1, y2, y3, y4, y16⟩)
            have HR1 := Lib.hid ((HRP.out.mono (T' := (fun k => T k ∨ w4.heap.size ≤ k)) (fun _ _ e => Or.inl e)).below ((Below.refl w4.heap.size w4).drew))
            clear z1 z2 z3 z4 z5 z6 z7 z8 z9 z10 z11 z12 z13 z14 z15 z16
            have HRPD := Lib.hid (HRP.out.below ((Below.refl w4.heap.size w4).drew))
            go_wp2_with fail
            refine wp_region_held_drew (S := (fun w' => w'.cell? ⟨wr.heap.size, 1, none⟩ = some (.string xh.dev) ∧ w'.cell? ⟨wr.heap.size, 2, none⟩ = some (.string xh.user) ∧ w'.cell? ⟨wr.heap.size, 3, none⟩ = some (.string xh.cl) ∧ w'.cell? ⟨wr.heap.size, 4, none⟩ = some (.slice Bh xh.sc.length dh) ∧ w'.cell? ⟨wr.heap.size, 16, none⟩ = some (.int .i64 xh.now))) (by kernel_rfl) ?_ (fun hHeld => ?_)
            focus ((try dsimp only); (first | exact HSK.out _ rfl | exact HSK.out _ HK5.out | exact HSK.out _ HK6.out); done)
            refine wpAnyH_take (i := 0) (oi := ⟨_, _, _, _, _, _⟩) (v := ?_) rfl (by kernel_rfl) (by kernel_rfl) (by kernel_rfl) (fun _ _ _ h => h) (Or.inl ⟨by rfl, ?_⟩) (by assumption) ?_; rotate_left; (focus (intro w hSw; (try dsimp only at hSw); go_simp; (try with_reducible rfl); done)); simp only [Act.put, List.setIfInBounds_toArray, List.set_cons_zero, List.set_cons_succ]
            refine wpAnyH_take (i := 1) (oi := ⟨_, _, _, _, _, _⟩) (v := ?_) rfl (by kernel_rfl) (by kernel_rfl) (by kernel_rfl) (fun _ _ _ h => h) (Or.inl ⟨by rfl, ?_⟩) (by assumption) ?_; rotate_left; (focus (intro w hSw; (try dsimp only at hSw); go_simp; (try with_reducible rfl); done)); simp only [Act.put, List.setIfInBounds_toArray, List.set_cons_zero, List.set_cons_succ]
            refine wpAnyH_take (i := 2) (oi := ⟨_, _, _, _, _, _⟩) (v := ?_) rfl (by kernel_rfl) (by kernel_rfl) (by kernel_rfl) (fun _ _ _ h => h) (Or.inl ⟨by rfl, ?_⟩) (by assumption) ?_; rotate_left; (focus (intro w hSw; (try dsimp only at hSw); go_simp; (try with_reducible rfl); done)); simp only [Act.put, List.setIfInBounds_toArray, List.set_cons_zero, List.set_cons_succ]
            refine wpAnyH_take (i := 3) (oi := ⟨_, _, _, _, _, _⟩) (v := ?_) rfl (by kernel_rfl) (by kernel_rfl) (by kernel_rfl) (fun _ _ _ h => h) (Or.inl ⟨by rfl, ?_⟩) (by assumption) ?_; rotate_left; (focus (intro w hSw; (try dsimp only at hSw); go_simp; (try with_reducible rfl); done)); simp only [Act.put, List.setIfInBounds_toArray, List.set_cons_zero, List.set_cons_succ]
            refine wpAnyH_take (i := 4) (oi := ⟨_, _, _, _, _, _⟩) (v := ?_) rfl (by kernel_rfl) (by kernel_rfl) (by kernel_rfl) (fun _ _ _ h => h) (Or.inl ⟨by rfl, ?_⟩) (by assumption) ?_; rotate_left; (focus (intro w hSw; (try dsimp only at hSw); go_simp; (try with_reducible rfl); done)); simp only [Act.put, List.setIfInBounds_toArray, List.set_cons_zero, List.set_cons_succ]
            refine wpAnyH_take (i := 5) (oi := ⟨_, _, _, _, _, _⟩) (v := ?_) rfl (by kernel_rfl) (by kernel_rfl) (by kernel_rfl) (fun _ _ _ h => h) (Or.inl ⟨by rfl, ?_⟩) (by assumption) ?_; rotate_left; (focus (intro w hSw; (try dsimp only at hSw); go_simp; (try with_reducible rfl); done)); simp only [Act.put, List.setIfInBounds_toArray, List.set_cons_zero, List.set_cons_succ]
            refine wpAnyH_take (i := 6) (oi := ⟨_, _, _, _, _, _⟩) (v := ?_) rfl (by kernel_rfl) (by kernel_rfl) (by kernel_rfl) (fun _ _ _ h => h) (Or.inl ⟨by rfl, ?_⟩) (by assumption) ?_; rotate_left; (focus (intro w hSw; (try dsimp only at hSw); go_simp; (try with_reducible rfl); done)); simp only [Act.put, List.setIfInBounds_toArray, List.set_cons_zero, List.set_cons_succ]
            refine wpAnyH_take (i := 7) (oi := ⟨_, _, _, _, _, _⟩) (v := ?_) rfl (by kernel_rfl) (by kernel_rfl) (by kernel_rfl) (fun _ _ _ h => h) (Or.inl ⟨by rfl, ?_⟩) (by assumption) ?_; rotate_left; (focus (intro w hSw; (try dsimp only at hSw); go_simp; (try with_reducible rfl); done)); simp only [Act.put, List.setIfInBounds_toArray, List.set_cons_zero, List.set_cons_succ]
            refine wpAnyH_take (i := 8) (oi := ⟨_, _, _, _, _, _⟩) (v := ?_) rfl (by kernel_rfl) (by kernel_rfl) (by kernel_rfl) (fun _ _ _ h => h) (Or.inl ⟨by rfl, ?_⟩) (by assumption) ?_; rotate_left; (focus (intro w hSw; (try dsimp only at hSw); go_simp; (try with_reducible rfl); done)); simp only [Act.put, List.setIfInBounds_toArray, List.set_cons_zero, List.set_cons_succ]
            refine wpAnyH_take (i := 9) (oi := ⟨_, _, _, _, _, _⟩) (v := ?_) rfl (by kernel_rfl) (by kernel_rfl) (by kernel_rfl) (fun _ _ _ h => h) (Or.inl ⟨by rfl, ?_⟩) (by assumption) ?_; rotate_left; (focus (intro w hSw; (try dsimp only at hSw); go_simp; (try with_reducible rfl); done)); simp only [Act.put, List.setIfInBounds_toArray, List.set_cons_zero, List.set_cons_succ]
            refine wpAnyH_take (i := 10) (oi := ⟨_, _, _, _, _, _⟩) (v := ?_) rfl (by kernel_rfl) (by kernel_rfl) (by kernel_rfl) (fun _ _ _ h => h) (Or.inl ⟨by rfl, ?_⟩) (by assumption) ?_; rotate_left; (focus (intro w hSw; (try dsimp only at hSw); go_simp; (try with_reducible rfl); done)); simp only [Act.put, List.setIfInBounds_toArray, List.set_cons_zero, List.set_cons_succ]
            refine wpAnyH_take (i := 12) (oi := ⟨_, _, _, _, _, _⟩) (v := ?_) rfl (by kernel_rfl) (by kernel_rfl) (by kernel_rfl) (fun _ _ _ h => h) (Or.inl ⟨by rfl, ?_⟩) (by assumption) ?_; rotate_left; (focus (intro w hSw; (try dsimp only at hSw); go_simp; (try with_reducible rfl); done)); simp only [Act.put, List.setIfInBounds_toArray, List.set_cons_zero, List.set_cons_succ]
            refine wpAnyH_take (i := 13) (oi := ⟨_, _, _, _, _, _⟩) (v := ?_) rfl (by kernel_rfl) (by kernel_rfl) (by kernel_rfl) (fun _ _ _ h => h) (Or.inl ⟨by rfl, ?_⟩) (by assumption) ?_; rotate_left; (focus (intro w hSw; (try dsimp only at hSw); go_simp; (try with_reducible rfl); done)); simp only [Act.put, List.setIfInBounds_toArray, List.set_cons_zero, List.set_cons_succ]
            refine wpAnyH_take (i := 14) (oi := ⟨_, _, _, _, _, _⟩) (v := ?_) rfl (by kernel_rfl) (by kernel_rfl) (by kernel_rfl) (fun _ _ _ h => h) (Or.inl ⟨by rfl, ?_⟩) (by assumption) ?_; rotate_left; (focus (intro w hSw; (try dsimp only at hSw); go_simp; (try with_reducible rfl); done)); simp only [Act.put, List.setIfInBounds_toArray, List.set_cons_zero, List.set_cons_succ]
            refine wpAnyH_take (i := 15) (oi := ⟨_, _, _, _, _, _⟩) (v := ?_) rfl (by kernel_rfl) (by kernel_rfl) (by kernel_rfl) (fun _ _ _ h => h) (Or.inl ⟨by rfl, ?_⟩) (by assumption) ?_; rotate_left; (focus (intro w hSw; (try dsimp only at hSw); go_simp; (try with_reducible rfl); done)); simp only [Act.put, List.setIfInBounds_toArray, List.set_cons_zero, List.set_cons_succ]
            refine wpAnyH_take (i := 16) (oi := ⟨_, _, _, _, _, _⟩) (v := ?_) rfl (by kernel_rfl) (by kernel_rfl) (by kernel_rfl) (fun _ _ _ h => h) (Or.inl ⟨by rfl, ?_⟩) (by assumption) ?_; rotate_left; (focus (intro w hSw; (try dsimp only at hSw); go_simp; (try with_reducible rfl); done)); simp only [Act.put, List.setIfInBounds_toArray, List.set_cons_zero, List.set_cons_succ]
            refine wpAnyH_take (i := 17) (oi := ⟨_, _, _, _, _, _⟩) (v := ?_) rfl (by kernel_rfl) (by kernel_rfl) (by kernel_rfl) (fun _ _ _ h => h) (Or.inl ⟨by rfl, ?_⟩) (by assumption) ?_; rotate_left; (focus (intro w hSw; (try dsimp only at hSw); go_simp; (try with_reducible rfl); done)); simp only [Act.put, List.setIfInBounds_toArray, List.set_cons_zero, List.set_cons_succ]
            refine wpAnyH_take (i := 18) (oi := ⟨_, _, _, _, _, _⟩) (v := ?_) rfl (by kernel_rfl) (by kernel_rfl) (by kernel_rfl) (fun _ _ _ h => h) (Or.inl ⟨by rfl, ?_⟩) (by assumption) ?_; rotate_left; (focus (intro w hSw; (try dsimp only at hSw); go_simp; (try with_reducible rfl); done)); simp only [Act.put, List.setIfInBounds_toArray, List.set_cons_zero, List.set_cons_succ]
            refine wpAnyH_take (i := 19) (oi := ⟨_, _, _, _, _, _⟩) (v := ?_) rfl (by kernel_rfl) (by kernel_rfl) (by kernel_rfl) (fun _ _ _ h => h) (Or.inl ⟨by rfl, ?_⟩) (by assumption) ?_; rotate_left; (focus (intro w hSw; (try dsimp only at hSw); go_simp; (try with_reducible rfl); done)); simp only [Act.put, List.setIfInBounds_toArray, List.set_cons_zero, List.set_cons_succ]
            refine wpAnyH_take (i := 20) (oi := ⟨_, _, _, _, _, _⟩) (v := ?_) rfl (by kernel_rfl) (by kernel_rfl) (by kernel_rfl) (fun _ _ _ h => h) (Or.inl ⟨by rfl, ?_⟩) (by assumption) ?_; rotate_left; (focus (intro w hSw; (try dsimp only at hSw); go_simp; (try with_reducible rfl); done)); simp only [Act.put, List.setIfInBounds_toArray, List.set_cons_zero, List.set_cons_succ]
            refine wpAnyH_take (i := 21) (oi := ⟨_, _, _, _, _, _⟩) (v := ?_) rfl (by kernel_rfl) (by kernel_rfl) (by kernel_rfl) (fun _ _ _ h => h) (Or.inl ⟨by rfl, ?_⟩) (by assumption) ?_; rotate_left; (focus (intro w hSw; (try dsimp only at hSw); go_simp; (try with_reducible rfl); done)); simp only [Act.put, List.setIfInBounds_toArray, List.set_cons_zero, List.set_cons_succ]
            refine wpAnyH_take (i := 22) (oi := ⟨_, _, _, _, _, _⟩) (v := ?_) rfl (by kernel_rfl) (by kernel_rfl) (by kernel_rfl) (fun _ _ _ h => h) (Or.inl ⟨by rfl, ?_⟩) (by assumption) ?_; rotate_left; (focus (intro w hSw; (try dsimp only at hSw); go_simp; (try with_reducible rfl); done)); simp only [Act.put, List.setIfInBounds_toArray, List.set_cons_zero, List.set_cons_succ]
            refine wpAnyH_ready (rs := [11]) (by kernel_rfl) (by simp) ?_
            refine AllReadyH.cons (o := ⟨_, _, _, _, _, _⟩) rfl (fun K hK => ?_) AllReadyH.nil
            go_simp
            go_wp2_with fail
            refine (sta_b (T0 := T) (T := (fun k => T k ∨ w4.heap.size ≤ k)) HRPD.out (fun _ e => Or.inl e) (fun k e => Or.inr e) xh.dev xh.user xh.cl xh.sc Bh dh xh.now HQ.out (by have := HFO.out.1.1; omega) (by have := HFO.out.1.2.1; omega) (by have := HFO.out.1.2.2.1; omega) ((HTh.out.below HB4.out).below ((Below.refl w4.heap.size w4).drew)) HFO.out.2.1.1 (by have := HFO.out.2.1.2; omega) ((HM.out.below HB4.out).below ((Below.refl w4.heap.size w4).drew)) (fun a ha hl e => by have := ss_block HTh.out ha hl; have := (HTL.out _ e).1; omega)).mono ?_
            rintro e5 w5 ⟨rfl, hr, hm⟩
            have hm := mods_drew hm
            have HK5 := Lib.hid (hm.block wr.heap.size (blk_lt HX.out) (fun e => by have := (HTL.out _ e).2; omega))
            have HMID := Lib.hid (two_first (B := w.heap.size) HRF.out HDS.out (fun k e => (HTL.out k e).1) (fun k e => ⟨(HSL.out k e).1, by have := (HSL.out k e).2; have := HBX.out.size; omega⟩) HB4.out.size hm hr (fun _ e => e))
            have HB5 := Lib.hid (HB4.out.trans (hm.toBelow HB4.out.size (fun k e => (HTL.out k e).1)))
            have hz5 := hm.size
            clear hr hm
            obtain ⟨T5, hrp5, hrf5, hds5, hTl5⟩ := HMID.out
            (try go_wp2_with fail)
            refine hK.out _ _ ?_ (fun hHeld => ?_)
            focus ((try dsimp only); (first | exact HSK.out _ rfl | exact HSK.out _ HK5.out | exact HSK.out _ HK6.out); done)
            clear hK K
            (try simp only [Act.put, List.setIfInBounds_toArray, List.set_cons_zero, List.set_cons_succ])
            refine wpAnyH_ready (rs := [23]) (by kernel_rfl) (by simp) ?_
            refine AllReadyH.cons (o := ⟨_, _, _, _, _, _⟩) rfl (fun K hK => ?_) AllReadyH.nil
            go_simp
            go_wp2_with fail
            refine (rsta_b (T0 := S) (T := (fun k => S k ∨ w5.heap.size ≤ k)) hrf5 (fun _ e => Or.inl e) (fun k e => Or.inr e) xh.dev xh.user xh.cl xh.sc Bh dh xh.now HQ.out (by have := HFO.out.1.1; omega) (by have := HFO.out.1.2.1; omega) (by have := HFO.out.1.2.2.1; omega) (HTh.out.below HB5.out) HFO.out.2.1.1 (by have := HFO.out.2.1.2; omega) (fun a ha hl e => by have := ss_block HTh.out ha hl; have := (HSL.out _ e).1; omega)).mono ?_
            rintro e6 w6 ⟨rfl, hr, hm⟩
            have HM6 := Lib.hid (show Mods S w5 w6 from hm)
            have HK6 := Lib.hid ((HM6.out.block wr.heap.size (by have := blk_lt HX.out; omega) (fun e => by have := (HSL.out _ e).2; omega)).trans HK5.out)
            have HB6 := Lib.hid (HB5.out.trans (HM6.out.toBelow HB5.out.size (fun k e => (HSL.out k e).1)))
            have HTW6 := Lib.hid (Mid.second (B := w.heap.size) hrp5 hds5 hTl5 (fun k e => (HSL.out k e).1) HB5.out.size HM6.out hr (fun _ e => e))
            clear hr hm
            (try go_wp2_with fail)
            refine hK.out _ _ ?_ (fun hHeld => ?_)
            focus ((try dsimp only); (first | exact HSK.out _ rfl | exact HSK.out _ HK5.out | exact HSK.out _ HK6.out); done)
            clear hK K
            (try simp only [Act.put, List.setIfInBounds_toArray, List.set_cons_zero, List.set_cons_succ])
            refine wpAnyH_take (i := 24) (oi := ⟨_, _, _, _, _, _⟩) (v := ?_) rfl (by kernel_rfl) (by kernel_rfl) (by kernel_rfl) (fun _ _ _ h => h) (Or.inl ⟨by rfl, ?_⟩) (by assumption) ?_; rotate_left; (focus (intro w hSw; (try dsimp only at hSw); go_simp; (try with_reducible rfl); done)); simp only [Act.put, List.setIfInBounds_toArray, List.set_cons_zero, List.set_cons_succ]
            refine wpAnyH_take (i := 25) (oi := ⟨_, _, _, _, _, _⟩) (v := ?_) rfl (by kernel_rfl) (by kernel_rfl) (by kernel_rfl) (fun _ _ _ h => h) (Or.inl ⟨by rfl, ?_⟩) (by assumption) ?_; rotate_left; (focus (intro w hSw; (try dsimp only at hSw); go_simp; (try with_reducible rfl); done)); simp only [Act.put, List.setIfInBounds_toArray, List.set_cons_zero, List.set_cons_succ]
            refine wpAnyH_done (by kernel_rfl) ?_ _
            go_wp2
            go_roundw
            case rel => exact ⟨k + 1, st2, by go_num, by omega, by first | exact HTW6.out | exact HTW6.out.below ((Below.refl _ _).drew), by have := HCP.out; have := sta_cap HQ.out; omega, by first | exact HB6.out | exact HB6.out.drew⟩
            case measure => simp [intOf]; omega
          · have k0b : (xh.kind == 0) = false := beq_eq_false_iff_ne.2 k0
            by_cases k1 : xh.kind = 1
            · as_aux_lemma =>
              have k1b : (xh.kind == 1) = true := by rw [k1]; rfl
              obtain ⟨⟨pc, px, pe⟩, hq⟩ : ∃ r, pen st xh.user xh.now = r := ⟨_, rfl⟩
              have HPL := Lib.hid (pen_len HRP.out.inv hq)
              have HQ := Lib.hid hq
              clear hq
              clear z1 z3 z4 z5 z6 z7 z8 z9 z10 z11 z12 z13 z14 z15
              go_wp2_with fail
              refine (pen_b HRP.out xh.user (by have := HFO.out.1.2.1; omega) xh.now (HM.out.below HB4.out) HQ.out).mono ?_
              rintro e5 w5 ⟨A2, d2, rfl, hf, hb⟩
              have y2 := (bkeep hb (blk_lt HX.out) 2).trans z2
              have y16 := (bkeep hb (blk_lt HX.out) 16).trans z16
              have HB5 := Lib.hid (HB4.out.trans (hb.mono HB4.out.size))
              have HTW5 := Lib.hid (HTW4.out.below hb)
              have HRF5 := Lib.hid (HRF.out.below hb)
              have HF5 := Lib.hid hf.1
              clear hf hb z0 z2 z16
              go_wp2_with fail
              refine (rpen_b HRF5.out xh.user (by have := HFO.out.1.2.1; omega) xh.now HQ.out).mono ?_
              rintro e6 w6 ⟨A3, d3, rfl, hf, hb⟩
              have HB6 := Lib.hid (HB5.out.trans (hb.mono HB5.out.size))
              have HTW6 := Lib.hid (HTW5.out.below hb)
              have HF6 := Lib.hid (HF5.out.below hb)
              have HK6 := Lib.hid hf.1
              clear hf hb y2 y16
              go_wp2_with fail
              refine (lists_yes A2 A3 px.length d2 d3 px w6 HF6.out HK6.out HPL.out).mono ?_
              rintro e7 w7 ⟨rfl, hb⟩
              have HB7 := Lib.hid (HB6.out.trans (hb.mono HB6.out.size))
              have HTW7 := Lib.hid (HTW6.out.below hb)
              clear hb
              go_wp2
              go_roundw
              case rel => exact ⟨k + 1, st, by go_num, by omega, HTW7.out, by have := HCP.out; omega, HB7.out⟩
              case measure => simp [intOf]; omega
            · have k1b : (xh.kind == 1) = false := beq_eq_false_iff_ne.2 k1
              by_cases k2 : xh.kind = 2
              · as_aux_lemma =>
                have k2b : (xh.kind == 2) = true := by rw [k2]; rfl
                obtain ⟨⟨st2, er⟩, hq⟩ : ∃ r, apr st xh.user xh.g xh.now = r := ⟨_, rfl⟩
                have HQ := Lib.hid hq
                clear hq
                have HSK := Lib.hid (show ∀ w' : World, w'.heap[wr.heap.size]? = w4.heap[wr.heap.size]? → (fun w' => w'.cell? ⟨wr.heap.size, 2, none⟩ = some (.string xh.user) ∧ w'.cell? ⟨wr.heap.size, 5, none⟩ = some (.string xh.g.user) ∧ w'.cell? ⟨wr.heap.size, 6, none⟩ = some (.string xh.g.client) ∧ w'.cell? ⟨wr.heap.size, 7, none⟩ = some (.string xh.g.tenant) ∧ w'.cell? ⟨wr.heap.size, 8, none⟩ = some (.string xh.g.session) ∧ w'.cell? ⟨wr.heap.size, 9, none⟩ = some (.string xh.g.redirect) ∧ w'.cell? ⟨wr.heap.size, 10, none⟩ = some (.string xh.g.nonce) ∧ w'.cell? ⟨wr.heap.size, 11, none⟩ = some (.string xh.g.challenge) ∧ w'.cell? ⟨wr.heap.size, 12, none⟩ = some (.int .i64 xh.g.method) ∧ w'.cell? ⟨wr.heap.size, 13, none⟩ = some (.slice Ah xh.g.scopes.length ch) ∧ w'.cell? ⟨wr.heap.size, 14, none⟩ = some (.int .i64 xh.g.auth) ∧ w'.cell? ⟨wr.heap.size, 15, none⟩ = some (.int .i64 xh.g.level) ∧ w'.cell? ⟨wr.heap.size, 16, none⟩ = some (.int .i64 xh.now)) w' from fun w' h => by
                  obtain ⟨y0, y1, y2, y3, y4, y5, y6, y7, y8, y9, y10, y11, y12, y13, y14, y15, y16⟩ := cells17 (h.trans HX.out)
                  exact ⟨y2, y5, y6, y7, y8, y9, y10, y11, y12, y13, y14, y15, y16⟩)
                have HR1 := Lib.hid ((HRP.out.mono (T' := (fun k => T k ∨ w4.heap.size ≤ k)) (fun _ _ e => Or.inl e)).below ((Below.refl w4.heap.size w4).drew))
                clear z1 z2 z3 z4 z5 z6 z7 z8 z9 z10 z11 z12 z13 z14 z15 z16
                go_wp2_with fail
                refine wp_region_held_drew (S := (fun w' => w'.cell? ⟨wr.heap.size, 2, none⟩ = some (.string xh.user) ∧ w'.cell? ⟨wr.heap.size, 5, none⟩ = some (.string xh.g.user) ∧ w'.cell? ⟨wr.heap.size, 6, none⟩ = some (.string xh.g.client) ∧ w'.cell? ⟨wr.heap.size, 7, none⟩ = some (.string xh.g.tenant) ∧ w'.cell? ⟨wr.heap.size, 8, none⟩ = some (.string xh.g.session) ∧ w'.cell? ⟨wr.heap.size, 9, none⟩ = some (.string xh.g.redirect) ∧ w'.cell? ⟨wr.heap.size, 10, none⟩ = some (.string xh.g.nonce) ∧ w'.cell? ⟨wr.heap.size, 11, none⟩ = some (.string xh.g.challenge) ∧ w'.cell? ⟨wr.heap.size, 12, none⟩ = some (.int .i64 xh.g.method) ∧ w'.cell? ⟨wr.heap.size, 13, none⟩ = some (.slice Ah xh.g.scopes.length ch) ∧ w'.cell? ⟨wr.heap.size, 14, none⟩ = some (.int .i64 xh.g.auth) ∧ w'.cell? ⟨wr.heap.size, 15, none⟩ = some (.int .i64 xh.g.level) ∧ w'.cell? ⟨wr.heap.size, 16, none⟩ = some (.int .i64 xh.now))) (by kernel_rfl) ?_ (fun hHeld => ?_)
                focus ((try dsimp only); (first | exact HSK.out _ rfl | exact HSK.out _ HK5.out | exact HSK.out _ HK6.out); done)
                refine wpAnyH_take (i := 0) (oi := ⟨_, _, _, _, _, _⟩) (v := ?_) rfl (by kernel_rfl) (by kernel_rfl) (by kernel_rfl) (fun _ _ _ h => h) (Or.inl ⟨by rfl, ?_⟩) (by assumption) ?_; rotate_left; (focus (intro w hSw; (try dsimp only at hSw); go_simp; (try with_reducible rfl); done)); simp only [Act.put, List.setIfInBounds_toArray, List.set_cons_zero, List.set_cons_succ]
                refine wpAnyH_take (i := 1) (oi := ⟨_, _, _, _, _, _⟩) (v := ?_) rfl (by kernel_rfl) (by kernel_rfl) (by kernel_rfl) (fun _ _ _ h => h) (Or.inl ⟨by rfl, ?_⟩) (by assumption) ?_; rotate_left; (focus (intro w hSw; (try dsimp only at hSw); go_simp; (try with_reducible rfl); done)); simp only [Act.put, List.setIfInBounds_toArray, List.set_cons_zero, List.set_cons_succ]
                refine wpAnyH_take (i := 2) (oi := ⟨_, _, _, _, _, _⟩) (v := ?_) rfl (by kernel_rfl) (by kernel_rfl) (by kernel_rfl) (fun _ _ _ h => h) (Or.inl ⟨by rfl, ?_⟩) (by assumption) ?_; rotate_left; (focus (intro w hSw; (try dsimp only at hSw); go_simp; (try with_reducible rfl); done)); simp only [Act.put, List.setIfInBounds_toArray, List.set_cons_zero, List.set_cons_succ]
                refine wpAnyH_take (i := 3) (oi := ⟨_, _, _, _, _, _⟩) (v := ?_) rfl (by kernel_rfl) (by kernel_rfl) (by kernel_rfl) (fun _ _ _ h => h) (Or.inl ⟨by rfl, ?_⟩) (by assumption) ?_; rotate_left; (focus (intro w hSw; (try dsimp only at hSw); go_simp; (try with_reducible rfl); done)); simp only [Act.put, List.setIfInBounds_toArray, List.set_cons_zero, List.set_cons_succ]
                refine wpAnyH_take (i := 4) (oi := ⟨_, _, _, _, _, _⟩) (v := ?_) rfl (by kernel_rfl) (by kernel_rfl) (by kernel_rfl) (fun _ _ _ h => h) (Or.inl ⟨by rfl, ?_⟩) (by assumption) ?_; rotate_left; (focus (intro w hSw; (try dsimp only at hSw); go_simp; (try with_reducible rfl); done)); simp only [Act.put, List.setIfInBounds_toArray, List.set_cons_zero, List.set_cons_succ]
                refine wpAnyH_take (i := 5) (oi := ⟨_, _, _, _, _, _⟩) (v := ?_) rfl (by kernel_rfl) (by kernel_rfl) (by kernel_rfl) (fun _ _ _ h => h) (Or.inl ⟨by rfl, ?_⟩) (by assumption) ?_; rotate_left; (focus (intro w hSw; (try dsimp only at hSw); go_simp; (try with_reducible rfl); done)); simp only [Act.put, List.setIfInBounds_toArray, List.set_cons_zero, List.set_cons_succ]
                refine wpAnyH_take (i := 6) (oi := ⟨_, _, _, _, _, _⟩) (v := ?_) rfl (by kernel_rfl) (by kernel_rfl) (by kernel_rfl) (fun _ _ _ h => h) (Or.inl ⟨by rfl, ?_⟩) (by assumption) ?_; rotate_left; (focus (intro w hSw; (try dsimp only at hSw); go_simp; (try with_reducible rfl); done)); simp only [Act.put, List.setIfInBounds_toArray, List.set_cons_zero, List.set_cons_succ]
                refine wpAnyH_take (i := 8) (oi := ⟨_, _, _, _, _, _⟩) (v := ?_) rfl (by kernel_rfl) (by kernel_rfl) (by kernel_rfl) (fun _ _ _ h => h) (Or.inl ⟨by rfl, ?_⟩) (by assumption) ?_; rotate_left; (focus (intro w hSw; (try dsimp only at hSw); go_simp; (try with_reducible rfl); done)); simp only [Act.put, List.setIfInBounds_toArray, List.set_cons_zero, List.set_cons_succ]
                refine wpAnyH_take (i := 9) (oi := ⟨_, _, _, _, _, _⟩) (v := ?_) rfl (by kernel_rfl) (by kernel_rfl) (by kernel_rfl) (fun _ _ _ h => h) (Or.inl ⟨by rfl, ?_⟩) (by assumption) ?_; rotate_left; (focus (intro w hSw; (try dsimp only at hSw); go_simp; (try with_reducible rfl); done)); simp only [Act.put, List.setIfInBounds_toArray, List.set_cons_zero, List.set_cons_succ]
                refine wpAnyH_take (i := 10) (oi := ⟨_, _, _, _, _, _⟩) (v := ?_) rfl (by kernel_rfl) (by kernel_rfl) (by kernel_rfl) (fun _ _ _ h => h) (Or.inl ⟨by rfl, ?_⟩) (by assumption) ?_; rotate_left; (focus (intro w hSw; (try dsimp only at hSw); go_simp; (try with_reducible rfl); done)); simp only [Act.put, List.setIfInBounds_toArray, List.set_cons_zero, List.set_cons_succ]
                refine wpAnyH_take (i := 11) (oi := ⟨_, _, _, _, _, _⟩) (v := ?_) rfl (by kernel_rfl) (by kernel_rfl) (by kernel_rfl) (fun _ _ _ h => h) (Or.inl ⟨by rfl, ?_⟩) (by assumption) ?_; rotate_left; (focus (intro w hSw; (try dsimp only at hSw); go_simp; (try with_reducible rfl); done)); simp only [Act.put, List.setIfInBounds_toArray, List.set_cons_zero, List.set_cons_succ]
                refine wpAnyH_take (i := 12) (oi := ⟨_, _, _, _, _, _⟩) (v := ?_) rfl (by kernel_rfl) (by kernel_rfl) (by kernel_rfl) (fun _ _ _ h => h) (Or.inl ⟨by rfl, ?_⟩) (by assumption) ?_; rotate_left; (focus (intro w hSw; (try dsimp only at hSw); go_simp; (try with_reducible rfl); done)); simp only [Act.put, List.setIfInBounds_toArray, List.set_cons_zero, List.set_cons_succ]
                refine wpAnyH_take (i := 13) (oi := ⟨_, _, _, _, _, _⟩) (v := ?_) rfl (by kernel_rfl) (by kernel_rfl) (by kernel_rfl) (fun _ _ _ h => h) (Or.inl ⟨by rfl, ?_⟩) (by assumption) ?_; rotate_left; (focus (intro w hSw; (try dsimp only at hSw); go_simp; (try with_reducible rfl); done)); simp only [Act.put, List.setIfInBounds_toArray, List.set_cons_zero, List.set_cons_succ]
                refine wpAnyH_take (i := 14) (oi := ⟨_, _, _, _, _, _⟩) (v := ?_) rfl (by kernel_rfl) (by kernel_rfl) (by kernel_rfl) (fun _ _ _ h => h) (Or.inl ⟨by rfl, ?_⟩) (by assumption) ?_; rotate_left; (focus (intro w hSw; (try dsimp only at hSw); go_simp; (try with_reducible rfl); done)); simp only [Act.put, List.setIfInBounds_toArray, List.set_cons_zero, List.set_cons_succ]
                refine wpAnyH_ready (rs := [7]) (by kernel_rfl) (by simp) ?_
                refine AllReadyH.cons (o := ⟨_, _, _, _, _, _⟩) rfl (fun K hK => ?_) AllReadyH.nil
                go_simp
                go_wp2_with fail
                refine (apr_b HR1.out (fun k e => Or.inr e) xh.user xh.g Ah ch (by have := HFO.out.1.2.1; omega) xh.now HQ.out ((HSh.out.below HB4.out).below ((Below.refl w4.heap.size w4).drew)) HFO.out.2.2.1 (by have := HFO.out.2.2.2; omega) ((HM.out.below HB4.out).below ((Below.refl w4.heap.size w4).drew))).mono ?_
                rintro e5 w5 ⟨rfl, hr, hm⟩
                have hm := mods_new hm
                have HK5 := Lib.hid (hm.block wr.heap.size (blk_lt HX.out) (fun e => by have := (HTL.out _ e).2; omega))
                have HMID := Lib.hid (two_first (B := w.heap.size) HRF.out HDS.out (fun k e => (HTL.out k e).1) (fun k e => ⟨(HSL.out k e).1, by have := (HSL.out k e).2; have := HBX.out.size; omega⟩) HB4.out.size hm hr (fun _ e => e))
                have HB5 := Lib.hid (HB4.out.trans (hm.toBelow HB4.out.size (fun k e => (HTL.out k e).1)))
                have hz5 := hm.size
                clear hr hm
                obtain ⟨T5, hrp5, hrf5, hds5, hTl5⟩ := HMID.out
                (try go_wp2_with fail)
                refine hK.out _ _ ?_ (fun hHeld => ?_)
                focus ((try dsimp only); (first | exact HSK.out _ rfl | exact HSK.out _ HK5.out | exact HSK.out _ HK6.out); done)
                clear hK K
                (try simp only [Act.put, List.setIfInBounds_toArray, List.set_cons_zero, List.set_cons_succ])
                refine wpAnyH_ready (rs := [15]) (by kernel_rfl) (by simp) ?_
                refine AllReadyH.cons (o := ⟨_, _, _, _, _, _⟩) rfl (fun K hK => ?_) AllReadyH.nil
                go_simp
                go_wp2_with fail
                refine (rapr_b (T0 := S) (T := (fun k => S k ∨ w5.heap.size ≤ k)) hrf5 (fun _ e => Or.inl e) (fun k e => Or.inr e) xh.user xh.g Ah ch (by have := HFO.out.1.2.1; omega) xh.now HQ.out (HSh.out.below HB5.out) HFO.out.2.2.1 (by have := HFO.out.2.2.2; omega) (fun a ha hl e => by have := ss_block HSh.out ha hl; have := (HSL.out _ e).1; omega)).mono ?_
                rintro e6 w6 ⟨rfl, hr, hm⟩
                have HM6 := Lib.hid (show Mods S w5 w6 from hm)
                have HK6 := Lib.hid ((HM6.out.block wr.heap.size (by have := blk_lt HX.out; omega) (fun e => by have := (HSL.out _ e).2; omega)).trans HK5.out)
                have HB6 := Lib.hid (HB5.out.trans (HM6.out.toBelow HB5.out.size (fun k e => (HSL.out k e).1)))
                have HTW6 := Lib.hid (Mid.second (B := w.heap.size) hrp5 hds5 hTl5 (fun k e => (HSL.out k e).1) HB5.out.size HM6.out hr (fun _ e => e))
                clear hr hm
                (try go_wp2_with fail)
                refine hK.out _ _ ?_ (fun hHeld => ?_)
                focus ((try dsimp only); (first | exact HSK.out _ rfl | exact HSK.out _ HK5.out | exact HSK.out _ HK6.out); done)
                clear hK K
                (try simp only [Act.put, List.setIfInBounds_toArray, List.set_cons_zero, List.set_cons_succ])
                refine wpAnyH_take (i := 16) (oi := ⟨_, _, _, _, _, _⟩) (v := ?_) rfl (by kernel_rfl) (by kernel_rfl) (by kernel_rfl) (fun _ _ _ h => h) (Or.inl ⟨by rfl, ?_⟩) (by assumption) ?_; rotate_left; (focus (intro w hSw; (try dsimp only at hSw); go_simp; (try with_reducible rfl); done)); simp only [Act.put, List.setIfInBounds_toArray, List.set_cons_zero, List.set_cons_succ]
                refine wpAnyH_take (i := 17) (oi := ⟨_, _, _, _, _, _⟩) (v := ?_) rfl (by kernel_rfl) (by kernel_rfl) (by kernel_rfl) (fun _ _ _ h => h) (Or.inl ⟨by rfl, ?_⟩) (by assumption) ?_; rotate_left; (focus (intro w hSw; (try dsimp only at hSw); go_simp; (try with_reducible rfl); done)); simp only [Act.put, List.setIfInBounds_toArray, List.set_cons_zero, List.set_cons_succ]
                refine wpAnyH_done (by kernel_rfl) ?_ _
                go_wp2
                go_roundw
                case rel => exact ⟨k + 1, st2, by go_num, by omega, by first | exact HTW6.out | exact HTW6.out.below ((Below.refl _ _).drew), by have := HCP.out; have := apr_cap HQ.out; omega, by first | exact HB6.out | exact HB6.out.drew⟩
                case measure => simp [intOf]; omega
              · have k2b : (xh.kind == 2) = false := beq_eq_false_iff_ne.2 k2
                by_cases k3 : xh.kind = 3
                · as_aux_lemma =>
                  have k3b : (xh.kind == 3) = true := by rw [k3]; rfl
                  obtain ⟨⟨st2, er⟩, hq⟩ : ∃ r, den st xh.user xh.now = r := ⟨_, rfl⟩
                  have HQ := Lib.hid hq
                  clear hq
                  have HSK := Lib.hid (show ∀ w' : World, w'.heap[wr.heap.size]? = w4.heap[wr.heap.size]? → (fun w' => w'.cell? ⟨wr.heap.size, 2, none⟩ = some (.string xh.user) ∧ w'.cell? ⟨wr.heap.size, 16, none⟩ = some (.int .i64 xh.now)) w' from fun w' h => by
                    obtain ⟨y0, y1, y2, y3, y4, y5, y6, y7, y8, y9, y10, y11, y12, y13, y14, y15, y16⟩ := cells17 (h.trans HX.out)
                    exact ⟨y2, y16⟩)
                  have HR1 := Lib.hid ((HRP.out.mono (T' := (fun k => T k ∨ w4.heap.size ≤ k)) (fun _ _ e => Or.inl e)).below ((Below.refl w4.heap.size w4).drew))
                  clear z1 z2 z3 z4 z5 z6 z7 z8 z9 z10 z11 z12 z13 z14 z15 z16
                  go_wp2_with fail
                  refine wp_region_held_drew (S := (fun w' => w'.cell? ⟨wr.heap.size, 2, none⟩ = some (.string xh.user) ∧ w'.cell? ⟨wr.heap.size, 16, none⟩ = some (.int .i64 xh.now))) (by kernel_rfl) ?_ (fun hHeld => ?_)
                  focus ((try dsimp only); (first | exact HSK.out _ rfl | exact HSK.out _ HK5.out | exact HSK.out _ HK6.out); done)
                  refine wpAnyH_take (i := 0) (oi := ⟨_, _, _, _, _, _⟩) (v := ?_) rfl (by kernel_rfl) (by kernel_rfl) (by kernel_rfl) (fun _ _ _ h => h) (Or.inl ⟨by rfl, ?_⟩) (by assumption) ?_; rotate_left; (focus (intro w hSw; (try dsimp only at hSw); go_simp; (try with_reducible rfl); done)); simp only [Act.put, List.setIfInBounds_toArray, List.set_cons_zero, List.set_cons_succ]
                  refine wpAnyH_take (i := 1) (oi := ⟨_, _, _, _, _, _⟩) (v := ?_) rfl (by kernel_rfl) (by kernel_rfl) (by kernel_rfl) (fun _ _ _ h => h) (Or.inl ⟨by rfl, ?_⟩) (by assumption) ?_; rotate_left; (focus (intro w hSw; (try dsimp only at hSw); go_simp; (try with_reducible rfl); done)); simp only [Act.put, List.setIfInBounds_toArray, List.set_cons_zero, List.set_cons_succ]
                  refine wpAnyH_take (i := 2) (oi := ⟨_, _, _, _, _, _⟩) (v := ?_) rfl (by kernel_rfl) (by kernel_rfl) (by kernel_rfl) (fun _ _ _ h => h) (Or.inl ⟨by rfl, ?_⟩) (by assumption) ?_; rotate_left; (focus (intro w hSw; (try dsimp only at hSw); go_simp; (try with_reducible rfl); done)); simp only [Act.put, List.setIfInBounds_toArray, List.set_cons_zero, List.set_cons_succ]
                  refine wpAnyH_take (i := 3) (oi := ⟨_, _, _, _, _, _⟩) (v := ?_) rfl (by kernel_rfl) (by kernel_rfl) (by kernel_rfl) (fun _ _ _ h => h) (Or.inl ⟨by rfl, ?_⟩) (by assumption) ?_; rotate_left; (focus (intro w hSw; (try dsimp only at hSw); go_simp; (try with_reducible rfl); done)); simp only [Act.put, List.setIfInBounds_toArray, List.set_cons_zero, List.set_cons_succ]
                  refine wpAnyH_take (i := 4) (oi := ⟨_, _, _, _, _, _⟩) (v := ?_) rfl (by kernel_rfl) (by kernel_rfl) (by kernel_rfl) (fun _ _ _ h => h) (Or.inl ⟨by rfl, ?_⟩) (by assumption) ?_; rotate_left; (focus (intro w hSw; (try dsimp only at hSw); go_simp; (try with_reducible rfl); done)); simp only [Act.put, List.setIfInBounds_toArray, List.set_cons_zero, List.set_cons_succ]
                  refine wpAnyH_take (i := 6) (oi := ⟨_, _, _, _, _, _⟩) (v := ?_) rfl (by kernel_rfl) (by kernel_rfl) (by kernel_rfl) (fun _ _ _ h => h) (Or.inl ⟨by rfl, ?_⟩) (by assumption) ?_; rotate_left; (focus (intro w hSw; (try dsimp only at hSw); go_simp; (try with_reducible rfl); done)); simp only [Act.put, List.setIfInBounds_toArray, List.set_cons_zero, List.set_cons_succ]
                  refine wpAnyH_take (i := 7) (oi := ⟨_, _, _, _, _, _⟩) (v := ?_) rfl (by kernel_rfl) (by kernel_rfl) (by kernel_rfl) (fun _ _ _ h => h) (Or.inl ⟨by rfl, ?_⟩) (by assumption) ?_; rotate_left; (focus (intro w hSw; (try dsimp only at hSw); go_simp; (try with_reducible rfl); done)); simp only [Act.put, List.setIfInBounds_toArray, List.set_cons_zero, List.set_cons_succ]
                  refine wpAnyH_take (i := 8) (oi := ⟨_, _, _, _, _, _⟩) (v := ?_) rfl (by kernel_rfl) (by kernel_rfl) (by kernel_rfl) (fun _ _ _ h => h) (Or.inl ⟨by rfl, ?_⟩) (by assumption) ?_; rotate_left; (focus (intro w hSw; (try dsimp only at hSw); go_simp; (try with_reducible rfl); done)); simp only [Act.put, List.setIfInBounds_toArray, List.set_cons_zero, List.set_cons_succ]
                  refine wpAnyH_take (i := 9) (oi := ⟨_, _, _, _, _, _⟩) (v := ?_) rfl (by kernel_rfl) (by kernel_rfl) (by kernel_rfl) (fun _ _ _ h => h) (Or.inl ⟨by rfl, ?_⟩) (by assumption) ?_; rotate_left; (focus (intro w hSw; (try dsimp only at hSw); go_simp; (try with_reducible rfl); done)); simp only [Act.put, List.setIfInBounds_toArray, List.set_cons_zero, List.set_cons_succ]
                  refine wpAnyH_take (i := 10) (oi := ⟨_, _, _, _, _, _⟩) (v := ?_) rfl (by kernel_rfl) (by kernel_rfl) (by kernel_rfl) (fun _ _ _ h => h) (Or.inl ⟨by rfl, ?_⟩) (by assumption) ?_; rotate_left; (focus (intro w hSw; (try dsimp only at hSw); go_simp; (try with_reducible rfl); done)); simp only [Act.put, List.setIfInBounds_toArray, List.set_cons_zero, List.set_cons_succ]
                  refine wpAnyH_ready (rs := [5]) (by kernel_rfl) (by simp) ?_
                  refine AllReadyH.cons (o := ⟨_, _, _, _, _, _⟩) rfl (fun K hK => ?_) AllReadyH.nil
                  go_simp
                  go_wp2_with fail
                  refine (den_b HR1.out (fun k e => Or.inr e) xh.user (by have := HFO.out.1.2.1; omega) xh.now HQ.out ((HM.out.below HB4.out).below ((Below.refl _ _).drew))).mono ?_
                  rintro e5 w5 ⟨rfl, hr, hm⟩
                  have hm := mods_new hm
                  have HK5 := Lib.hid (hm.block wr.heap.size (blk_lt HX.out) (fun e => by have := (HTL.out _ e).2; omega))
                  have HMID := Lib.hid (two_first (B := w.heap.size) HRF.out HDS.out (fun k e => (HTL.out k e).1) (fun k e => ⟨(HSL.out k e).1, by have := (HSL.out k e).2; have := HBX.out.size; omega⟩) HB4.out.size hm hr (fun _ e => e))
                  have HB5 := Lib.hid (HB4.out.trans (hm.toBelow HB4.out.size (fun k e => (HTL.out k e).1)))
                  have hz5 := hm.size
                  clear hr hm
                  obtain ⟨T5, hrp5, hrf5, hds5, hTl5⟩ := HMID.out
                  (try go_wp2_with fail)
                  refine hK.out _ _ ?_ (fun hHeld => ?_)
                  focus ((try dsimp only); (first | exact HSK.out _ rfl | exact HSK.out _ HK5.out | exact HSK.out _ HK6.out); done)
                  clear hK K
                  (try simp only [Act.put, List.setIfInBounds_toArray, List.set_cons_zero, List.set_cons_succ])
                  refine wpAnyH_ready (rs := [11]) (by kernel_rfl) (by simp) ?_
                  refine AllReadyH.cons (o := ⟨_, _, _, _, _, _⟩) rfl (fun K hK => ?_) AllReadyH.nil
                  go_simp
                  go_wp2_with fail
                  refine (rden_b (hrf5.mono (T' := (fun k => S k ∨ w5.heap.size ≤ k)) (fun _ _ e => Or.inl e)) xh.user (by have := HFO.out.1.2.1; omega) xh.now HQ.out).mono ?_
                  rintro e6 w6 ⟨rfl, hr, hm⟩
                  have HM6 := Lib.hid (show Mods S w5 w6 from mods_new' hm)
                  have HK6 := Lib.hid ((HM6.out.block wr.heap.size (by have := blk_lt HX.out; omega) (fun e => by have := (HSL.out _ e).2; omega)).trans HK5.out)
                  have HB6 := Lib.hid (HB5.out.trans (HM6.out.toBelow HB5.out.size (fun k e => (HSL.out k e).1)))
                  have HTW6 := Lib.hid (Mid.second (B := w.heap.size) hrp5 hds5 hTl5 (fun k e => (HSL.out k e).1) HB5.out.size HM6.out hr (fun _ e => e))
                  clear hr hm
                  (try go_wp2_with fail)
                  refine hK.out _ _ ?_ (fun hHeld => ?_)
                  focus ((try dsimp only); (first | exact HSK.out _ rfl | exact HSK.out _ HK5.out | exact HSK.out _ HK6.out); done)
                  clear hK K
                  (try simp only [Act.put, List.setIfInBounds_toArray, List.set_cons_zero, List.set_cons_succ])
                  refine wpAnyH_take (i := 12) (oi := ⟨_, _, _, _, _, _⟩) (v := ?_) rfl (by kernel_rfl) (by kernel_rfl) (by kernel_rfl) (fun _ _ _ h => h) (Or.inl ⟨by rfl, ?_⟩) (by assumption) ?_; rotate_left; (focus (intro w hSw; (try dsimp only at hSw); go_simp; (try with_reducible rfl); done)); simp only [Act.put, List.setIfInBounds_toArray, List.set_cons_zero, List.set_cons_succ]
                  refine wpAnyH_take (i := 13) (oi := ⟨_, _, _, _, _, _⟩) (v := ?_) rfl (by kernel_rfl) (by kernel_rfl) (by kernel_rfl) (fun _ _ _ h => h) (Or.inl ⟨by rfl, ?_⟩) (by assumption) ?_; rotate_left; (focus (intro w hSw; (try dsimp only at hSw); go_simp; (try with_reducible rfl); done)); simp only [Act.put, List.setIfInBounds_toArray, List.set_cons_zero, List.set_cons_succ]
                  refine wpAnyH_done (by kernel_rfl) ?_ _
                  go_wp2
                  go_roundw
                  case rel => exact ⟨k + 1, st2, by go_num, by omega, by first | exact HTW6.out | exact HTW6.out.below ((Below.refl _ _).drew), by have := HCP.out; have := den_cap HQ.out; omega, by first | exact HB6.out | exact HB6.out.drew⟩
                  case measure => simp [intOf]; omega
                · have k3b : (xh.kind == 3) = false := beq_eq_false_iff_ne.2 k3
                  by_cases k4 : xh.kind = 4
                  · as_aux_lemma =>
                    have k4b : (xh.kind == 4) = true := by rw [k4]; rfl
                    obtain ⟨⟨st2, g, er⟩, hq⟩ : ∃ r, pol st xh.dev xh.cl xh.now = r := ⟨_, rfl⟩
                    have HPL := Lib.hid (pol_len HRP.out.inv hq)
                    have HPC := Lib.hid (pol_cap hq)
                    have HQ := Lib.hid hq
                    clear hq
                    clear z2 z4 z5 z6 z7 z8 z9 z10 z11 z12 z13 z14 z15
                    go_wp2_with fail
                    refine (pol_b HRP.out xh.dev xh.cl (by have := HFO.out.1.1; omega) xh.now (by have := HCP.out; omega) HQ.out).mono ?_
                    rintro e5 w5 ⟨A2, d2, rfl, hf, hr, hm⟩
                    have HF5 := Lib.hid hf
                    have HMID := Lib.hid (two_first (B := w.heap.size) HRF.out HDS.out (fun k e => (HTL.out k e).1) (fun k e => ⟨(HSL.out k e).1, by have := (HSL.out k e).2; have := HBX.out.size; omega⟩) HB4.out.size hm hr (fun _ e => Or.inl e.1))
                    have HX5 := Lib.hid (blk_mods hm HX.out (fun e => by have := (HTL.out _ e).2; omega))
                    have HB5 := Lib.hid (HB4.out.trans (hm.toBelow HB4.out.size (fun k e => (HTL.out k e).1)))
                    have HZ5 := Lib.hid hm.size
                    clear hf hr hm z0 z1 z3 z16
                    go_upto_region 28 with fail
                    obtain ⟨w6, hw⟩ : ∃ w', w' = w5.alloc (.cells #[.string g.user, .string g.client, .string g.tenant, .string g.session, .string g.redirect, .string g.nonce, .string g.challenge, .int .i64 g.method, .slice A2 g.scopes.length d2, .int .i64 g.auth, .int .i64 g.level] 39) := ⟨_, rfl⟩
                    have hb : Below w5.heap.size w5 w6 := by rw [hw]; go_grown
                    have HG6 := Lib.hid (show w6.heap[w5.heap.size]? = some (.cells #[.string g.user, .string g.client, .string g.tenant, .string g.session, .string g.redirect, .string g.nonce, .string g.challenge, .int .i64 g.method, .slice A2 g.scopes.length d2, .int .i64 g.auth, .int .i64 g.level] 39 (0, 0)) by rw [hw]; exact heap_alloc_new _ _)
                    rw [← hw]
                    have HF6 := Lib.hid (HF5.out.below hb)
                    have HX6 := Lib.hid (blk_below hb HX5.out)
                    have HB6 := Lib.hid (HB5.out.trans (hb.mono HB5.out.size))
                    have HZ6 := Lib.hid (Nat.le_trans HZ5.out hb.size)
                    obtain ⟨T5, hrp5, hrf5, hds5, hTl5⟩ := HMID.out
                    have HRP6 := Lib.hid (hrp5.below hb)
                    have HRF6 := Lib.hid (hrf5.below hb)
                    have HDS6 := Lib.hid hds5
                    have HTL6 := Lib.hid (show ∀ k, T5 k → w.heap.size ≤ k ∧ k < w6.heap.size from fun k e => ⟨(hTl5 k e).1, Nat.lt_of_lt_of_le (hTl5 k e).2 hb.size⟩)
                    clear hw hb hrp5 hrf5 hds5 hTl5
                    obtain ⟨y0, y1, y2, y3, y4, y5, y6, y7, y8, y9, y10, y11, y12, y13, y14, y15, y16⟩ := cells17 HX6.out
                    clear y0 y2 y4 y5 y6 y7 y8 y9 y10 y11 y12 y13 y14 y15
                    go_wp2_with fail
                    refine (rpol_b HRF6.out xh.dev xh.cl xh.now (by have := HCP.out; omega) HQ.out).mono ?_
                    rintro e7 w7 ⟨A3, d3, rfl, hf, hr, hm⟩
                    have HF7 := Lib.hid hf.1
                    have HTW7 := Lib.hid (Mid.second (B := w.heap.size) HRP6.out HDS6.out HTL6.out (fun k e => (HSL.out k e).1) HB6.out.size hm hr (fun _ e => Or.inl e.1))
                    have HB7 := Lib.hid (HB6.out.trans (hm.toBelow HB6.out.size (fun k e => (HSL.out k e).1)))
                    have HG7 := Lib.hid (blk_mods hm HG6.out (fun e => by have := (HSL.out _ e).2; have := HBX.out.size; have := HZ5.out; omega))
                    have HE7 := Lib.hid (ss_keep (S := fun k => w4.heap.size ≤ k ∧ k < w6.heap.size) HF6.out.1 (fun a ha hn => ⟨HF6.out.2 a ha hn, ss_block HF6.out.1 ha hn⟩) (fun k hk => hm.block k hk.2 (fun e => by have := (HSL.out _ e).2; have := HBX.out.size; omega)) hm.size)
                    clear hf hr hm y1 y3 y16
                    go_upto_region 29 with fail
                    obtain ⟨w8, hw⟩ : ∃ w', w' = w7.alloc (.cells #[.string g.user, .string g.client, .string g.tenant, .string g.session, .string g.redirect, .string g.nonce, .string g.challenge, .int .i64 g.method, .slice A3 g.scopes.length d3, .int .i64 g.auth, .int .i64 g.level] 39) := ⟨_, rfl⟩
                    have hb : Below w7.heap.size w7 w8 := by rw [hw]; go_grown
                    have HG8 := Lib.hid (show w8.heap[w7.heap.size]? = some (.cells #[.string g.user, .string g.client, .string g.tenant, .string g.session, .string g.redirect, .string g.nonce, .string g.challenge, .int .i64 g.method, .slice A3 g.scopes.length d3, .int .i64 g.auth, .int .i64 g.level] 39 (0, 0)) by rw [hw]; exact heap_alloc_new _ _)
                    rw [← hw]
                    have HF8 := Lib.hid (HF7.out.below hb)
                    have HE8 := Lib.hid (HE7.out.below hb)
                    have HH8 := Lib.hid (blk_below hb HG7.out)
                    have HTW8 := Lib.hid (HTW7.out.below hb)
                    have HB8 := Lib.hid (HB7.out.trans (hb.mono HB7.out.size))
                    clear hw hb
                    obtain ⟨u0, u1, u2, u3, u4, u5, u6, u7, u8, u9, u10⟩ := cells11 HH8.out
                    obtain ⟨v0, v1, v2, v3, v4, v5, v6, v7, v8, v9, v10⟩ := cells11 HG8.out
                    go_wp2_with fail
                    refine (same_yes g.user g.client g.tenant g.session g.redirect g.nonce g.challenge g.method g.auth g.level A2 A3 g.scopes.length d2 d3 g.scopes w8 HE8.out HF8.out HPL.out).mono ?_
                    rintro e9 w9 ⟨rfl, hb⟩
                    have HB9 := Lib.hid (HB8.out.trans (hb.mono HB8.out.size))
                    have HTW9 := Lib.hid (HTW8.out.below hb)
                    clear hb u0 v0 u1 v1 u2 v2 u3 v3 u4 v4 u5 v5 u6 v6 u7 v7 u8 v8 u9 v9 u10 v10
                    go_wp2
                    go_roundw
                    case rel => exact ⟨k + 1, st2, by go_num, by omega, HTW9.out, by have := HCP.out; have := HPC.out; omega, HB9.out⟩
                    case measure => simp [intOf]; omega
                  · have k4b : (xh.kind == 4) = false := beq_eq_false_iff_ne.2 k4
                    by_cases k5 : xh.kind = 5
                    · as_aux_lemma =>
                      have k5b : (xh.kind == 5) = true := by rw [k5]; rfl
                      obtain ⟨v, hv⟩ : ∃ v, itv st xh.dev = v := ⟨_, rfl⟩
                      have HV := Lib.hid hv
                      clear hv
                      have HSK := Lib.hid (show ∀ w' : World, w'.heap[wr.heap.size]? = w4.heap[wr.heap.size]? → (fun w' => w'.cell? ⟨wr.heap.size, 1, none⟩ = some (.string xh.dev)) w' from fun w' h => by
                        obtain ⟨y0, y1, y2, y3, y4, y5, y6, y7, y8, y9, y10, y11, y12, y13, y14, y15, y16⟩ := cells17 (h.trans HX.out)
                        exact y1)
                      have HRPD := Lib.hid (HRP.out.below ((Below.refl w4.heap.size w4).drew))
                      have HRFD := Lib.hid (HRF.out.below ((Below.refl w4.heap.size w4).drew))
                      clear z1 z2 z3 z4 z5 z6 z7 z8 z9 z10 z11 z12 z13 z14 z15 z16
                      go_wp2_with fail
                      refine wp_region_held_drew (S := (fun w' => w'.cell? ⟨wr.heap.size, 1, none⟩ = some (.string xh.dev))) (by kernel_rfl) ?_ (fun hHeld => ?_)
                      focus ((try dsimp only); (exact HSK.out _ rfl); done)
                      refine wpAnyH_take (i := 0) (oi := ⟨_, _, _, _, _, _⟩) (v := ?_) rfl (by kernel_rfl) (by kernel_rfl) (by kernel_rfl) (fun _ _ _ h => h) (Or.inl ⟨by rfl, ?_⟩) (by assumption) ?_; rotate_left; (focus (intro w hSw; (try dsimp only at hSw); go_simp; (try with_reducible rfl); done)); simp only [Act.put, List.setIfInBounds_toArray, List.set_cons_zero, List.set_cons_succ]
                      refine wpAnyH_take (i := 1) (oi := ⟨_, _, _, _, _, _⟩) (v := ?_) rfl (by kernel_rfl) (by kernel_rfl) (by kernel_rfl) (fun _ _ _ h => h) (Or.inl ⟨by rfl, ?_⟩) (by assumption) ?_; rotate_left; (focus (intro w hSw; (try dsimp only at hSw); go_simp; (try with_reducible rfl); done)); simp only [Act.put, List.setIfInBounds_toArray, List.set_cons_zero, List.set_cons_succ]
                      refine wpAnyH_take (i := 2) (oi := ⟨_, _, _, _, _, _⟩) (v := ?_) rfl (by kernel_rfl) (by kernel_rfl) (by kernel_rfl) (fun _ _ _ h => h) (Or.inl ⟨by rfl, ?_⟩) (by assumption) ?_; rotate_left; (focus (intro w hSw; (try dsimp only at hSw); go_simp; (try with_reducible rfl); done)); simp only [Act.put, List.setIfInBounds_toArray, List.set_cons_zero, List.set_cons_succ]
                      refine wpAnyH_take (i := 4) (oi := ⟨_, _, _, _, _, _⟩) (v := ?_) rfl (by kernel_rfl) (by kernel_rfl) (by kernel_rfl) (fun _ _ _ h => h) (Or.inl ⟨by rfl, ?_⟩) (by assumption) ?_; rotate_left; (focus (intro w hSw; (try dsimp only at hSw); go_simp; (try with_reducible rfl); done)); simp only [Act.put, List.setIfInBounds_toArray, List.set_cons_zero, List.set_cons_succ]
                      refine wpAnyH_take (i := 5) (oi := ⟨_, _, _, _, _, _⟩) (v := ?_) rfl (by kernel_rfl) (by kernel_rfl) (by kernel_rfl) (fun _ _ _ h => h) (Or.inl ⟨by rfl, ?_⟩) (by assumption) ?_; rotate_left; (focus (intro w hSw; (try dsimp only at hSw); go_simp; (try with_reducible rfl); done)); simp only [Act.put, List.setIfInBounds_toArray, List.set_cons_zero, List.set_cons_succ]
                      refine wpAnyH_take (i := 6) (oi := ⟨_, _, _, _, _, _⟩) (v := ?_) rfl (by kernel_rfl) (by kernel_rfl) (by kernel_rfl) (fun _ _ _ h => h) (Or.inl ⟨by rfl, ?_⟩) (by assumption) ?_; rotate_left; (focus (intro w hSw; (try dsimp only at hSw); go_simp; (try with_reducible rfl); done)); simp only [Act.put, List.setIfInBounds_toArray, List.set_cons_zero, List.set_cons_succ]
                      refine wpAnyH_ready (rs := [3]) (by kernel_rfl) (by simp) ?_
                      refine AllReadyH.cons (o := ⟨_, _, _, _, _, _⟩) rfl (fun K hK => ?_) AllReadyH.nil
                      go_simp
                      go_wp2_with fail
                      refine (itv_b HRPD.out xh.dev (by have := HFO.out.1.1; omega) HV.out).mono ?_
                      rintro e5 w5 ⟨rfl, rfl⟩
                      (try go_wp2_with fail)
                      refine hK.out _ _ ?_ (fun hHeld => ?_)
                      focus ((try dsimp only); (exact HSK.out _ rfl); done)
                      clear hK K
                      (try simp only [Act.put, List.setIfInBounds_toArray, List.set_cons_zero, List.set_cons_succ])
                      refine wpAnyH_ready (rs := [7]) (by kernel_rfl) (by simp) ?_
                      refine AllReadyH.cons (o := ⟨_, _, _, _, _, _⟩) rfl (fun K hK => ?_) AllReadyH.nil
                      go_simp
                      go_wp2_with fail
                      refine (rit_b HRFD.out xh.dev HV.out).mono ?_
                      rintro e5 w5 ⟨rfl, rfl⟩
                      (try go_wp2_with fail)
                      refine hK.out _ _ ?_ (fun hHeld => ?_)
                      focus ((try dsimp only); (exact HSK.out _ rfl); done)
                      clear hK K
                      (try simp only [Act.put, List.setIfInBounds_toArray, List.set_cons_zero, List.set_cons_succ])
                      refine wpAnyH_take (i := 8) (oi := ⟨_, _, _, _, _, _⟩) (v := ?_) rfl (by kernel_rfl) (by kernel_rfl) (by kernel_rfl) (fun _ _ _ h => h) (Or.inl ⟨by rfl, ?_⟩) (by assumption) ?_; rotate_left; (focus (intro w hSw; (try dsimp only at hSw); go_simp; (try with_reducible rfl); done)); simp only [Act.put, List.setIfInBounds_toArray, List.set_cons_zero, List.set_cons_succ]
                      refine wpAnyH_take (i := 9) (oi := ⟨_, _, _, _, _, _⟩) (v := ?_) rfl (by kernel_rfl) (by kernel_rfl) (by kernel_rfl) (fun _ _ _ h => h) (Or.inl ⟨by rfl, ?_⟩) (by assumption) ?_; rotate_left; (focus (intro w hSw; (try dsimp only at hSw); go_simp; (try with_reducible rfl); done)); simp only [Act.put, List.setIfInBounds_toArray, List.set_cons_zero, List.set_cons_succ]
                      refine wpAnyH_done (by kernel_rfl) ?_ _
                      go_wp2
                      go_roundw
                      case rel => exact ⟨k + 1, st, by go_num, by omega, HTW4.out.below ((Below.refl _ _).drew), by have := HCP.out; omega, HB4.out.drew⟩
                      case measure => simp [intOf]; omega
                    · have k5b : (xh.kind == 5) = false := beq_eq_false_iff_ne.2 k5
                      as_aux_lemma =>
                        obtain ⟨nn, hq⟩ : ∃ r, (st.l.length : Int) - ((puS st xh.now).l.length : Int) = r := ⟨_, rfl⟩
                        have HQ := Lib.hid hq
                        clear hq
                        have HSK := Lib.hid (show ∀ w' : World, w'.heap[wr.heap.size]? = w4.heap[wr.heap.size]? → (fun w' => w'.cell? ⟨wr.heap.size, 16, none⟩ = some (.int .i64 xh.now)) w' from fun w' h => by
                          obtain ⟨y0, y1, y2, y3, y4, y5, y6, y7, y8, y9, y10, y11, y12, y13, y14, y15, y16⟩ := cells17 (h.trans HX.out)
                          exact y16)
                        have HR1 := Lib.hid ((HRP.out.mono (T' := (fun k => T k ∨ w4.heap.size ≤ k)) (fun _ _ e => Or.inl e)).below ((Below.refl w4.heap.size w4).drew))
                        clear z1 z2 z3 z4 z5 z6 z7 z8 z9 z10 z11 z12 z13 z14 z15 z16
                        have HRPD := Lib.hid (HRP.out.below ((Below.refl w4.heap.size w4).drew))
                        go_wp2_with fail
                        refine wp_region_held_drew (S := (fun w' => w'.cell? ⟨wr.heap.size, 16, none⟩ = some (.int .i64 xh.now))) (by kernel_rfl) ?_ (fun hHeld => ?_)
                        focus ((try dsimp only); (first | exact HSK.out _ rfl | exact HSK.out _ HK5.out | exact HSK.out _ HK6.out); done)
                        refine wpAnyH_take (i := 0) (oi := ⟨_, _, _, _, _, _⟩) (v := ?_) rfl (by kernel_rfl) (by kernel_rfl) (by kernel_rfl) (fun _ _ _ h => h) (Or.inl ⟨by rfl, ?_⟩) (by assumption) ?_; rotate_left; (focus (intro w hSw; (try dsimp only at hSw); go_simp; (try with_reducible rfl); done)); simp only [Act.put, List.setIfInBounds_toArray, List.set_cons_zero, List.set_cons_succ]
                        refine wpAnyH_take (i := 1) (oi := ⟨_, _, _, _, _, _⟩) (v := ?_) rfl (by kernel_rfl) (by kernel_rfl) (by kernel_rfl) (fun _ _ _ h => h) (Or.inl ⟨by rfl, ?_⟩) (by assumption) ?_; rotate_left; (focus (intro w hSw; (try dsimp only at hSw); go_simp; (try with_reducible rfl); done)); simp only [Act.put, List.setIfInBounds_toArray, List.set_cons_zero, List.set_cons_succ]
                        refine wpAnyH_take (i := 2) (oi := ⟨_, _, _, _, _, _⟩) (v := ?_) rfl (by kernel_rfl) (by kernel_rfl) (by kernel_rfl) (fun _ _ _ h => h) (Or.inl ⟨by rfl, ?_⟩) (by assumption) ?_; rotate_left; (focus (intro w hSw; (try dsimp only at hSw); go_simp; (try with_reducible rfl); done)); simp only [Act.put, List.setIfInBounds_toArray, List.set_cons_zero, List.set_cons_succ]
                        refine wpAnyH_take (i := 4) (oi := ⟨_, _, _, _, _, _⟩) (v := ?_) rfl (by kernel_rfl) (by kernel_rfl) (by kernel_rfl) (fun _ _ _ h => h) (Or.inl ⟨by rfl, ?_⟩) (by assumption) ?_; rotate_left; (focus (intro w hSw; (try dsimp only at hSw); go_simp; (try with_reducible rfl); done)); simp only [Act.put, List.setIfInBounds_toArray, List.set_cons_zero, List.set_cons_succ]
                        refine wpAnyH_take (i := 5) (oi := ⟨_, _, _, _, _, _⟩) (v := ?_) rfl (by kernel_rfl) (by kernel_rfl) (by kernel_rfl) (fun _ _ _ h => h) (Or.inl ⟨by rfl, ?_⟩) (by assumption) ?_; rotate_left; (focus (intro w hSw; (try dsimp only at hSw); go_simp; (try with_reducible rfl); done)); simp only [Act.put, List.setIfInBounds_toArray, List.set_cons_zero, List.set_cons_succ]
                        refine wpAnyH_take (i := 6) (oi := ⟨_, _, _, _, _, _⟩) (v := ?_) rfl (by kernel_rfl) (by kernel_rfl) (by kernel_rfl) (fun _ _ _ h => h) (Or.inl ⟨by rfl, ?_⟩) (by assumption) ?_; rotate_left; (focus (intro w hSw; (try dsimp only at hSw); go_simp; (try with_reducible rfl); done)); simp only [Act.put, List.setIfInBounds_toArray, List.set_cons_zero, List.set_cons_succ]
                        refine wpAnyH_ready (rs := [3]) (by kernel_rfl) (by simp) ?_
                        refine AllReadyH.cons (o := ⟨_, _, _, _, _, _⟩) rfl (fun K hK => ?_) AllReadyH.nil
                        go_simp
                        go_wp2_with fail
                        refine (pur_b HRPD.out xh.now HQ.out rfl).mono ?_
                        rintro e5 w5 ⟨rfl, hr, hm⟩
                        have hm := mods_drew hm
                        have HK5 := Lib.hid (hm.block wr.heap.size (blk_lt HX.out) (fun e => by have := (HTL.out _ e).2; omega))
                        have HMID := Lib.hid (two_first (B := w.heap.size) HRF.out HDS.out (fun k e => (HTL.out k e).1) (fun k e => ⟨(HSL.out k e).1, by have := (HSL.out k e).2; have := HBX.out.size; omega⟩) HB4.out.size hm hr (fun _ e => Or.inl e))
                        have HB5 := Lib.hid (HB4.out.trans (hm.toBelow HB4.out.size (fun k e => (HTL.out k e).1)))
                        have hz5 := hm.size
                        clear hr hm
                        obtain ⟨T5, hrp5, hrf5, hds5, hTl5⟩ := HMID.out
                        (try go_wp2_with fail)
                        refine hK.out _ _ ?_ (fun hHeld => ?_)
                        focus ((try dsimp only); (first | exact HSK.out _ rfl | exact HSK.out _ HK5.out | exact HSK.out _ HK6.out); done)
                        clear hK K
                        (try simp only [Act.put, List.setIfInBounds_toArray, List.set_cons_zero, List.set_cons_succ])
                        refine wpAnyH_ready (rs := [7]) (by kernel_rfl) (by simp) ?_
                        refine AllReadyH.cons (o := ⟨_, _, _, _, _, _⟩) rfl (fun K hK => ?_) AllReadyH.nil
                        go_simp
                        go_wp2_with fail
                        refine (rpur_b (T0 := S) (T := (fun k => S k ∨ w5.heap.size ≤ k)) hrf5 (fun _ e => Or.inl e) (fun k e => Or.inr e) xh.now HQ.out rfl).mono ?_
                        rintro e6 w6 ⟨rfl, hr, hm⟩
                        have HM6 := Lib.hid (show Mods S w5 w6 from hm)
                        have HK6 := Lib.hid ((HM6.out.block wr.heap.size (by have := blk_lt HX.out; omega) (fun e => by have := (HSL.out _ e).2; omega)).trans HK5.out)
                        have HB6 := Lib.hid (HB5.out.trans (HM6.out.toBelow HB5.out.size (fun k e => (HSL.out k e).1)))
                        have HTW6 := Lib.hid (Mid.second (B := w.heap.size) hrp5 hds5 hTl5 (fun k e => (HSL.out k e).1) HB5.out.size HM6.out hr (fun _ e => e))
                        clear hr hm
                        (try go_wp2_with fail)
                        refine hK.out _ _ ?_ (fun hHeld => ?_)
                        focus ((try dsimp only); (first | exact HSK.out _ rfl | exact HSK.out _ HK5.out | exact HSK.out _ HK6.out); done)
                        clear hK K
                        (try simp only [Act.put, List.setIfInBounds_toArray, List.set_cons_zero, List.set_cons_succ])
                        refine wpAnyH_take (i := 8) (oi := ⟨_, _, _, _, _, _⟩) (v := ?_) rfl (by kernel_rfl) (by kernel_rfl) (by kernel_rfl) (fun _ _ _ h => h) (Or.inl ⟨by rfl, ?_⟩) (by assumption) ?_; rotate_left; (focus (intro w hSw; (try dsimp only at hSw); go_simp; (try with_reducible rfl); done)); simp only [Act.put, List.setIfInBounds_toArray, List.set_cons_zero, List.set_cons_succ]
                        refine wpAnyH_take (i := 9) (oi := ⟨_, _, _, _, _, _⟩) (v := ?_) rfl (by kernel_rfl) (by kernel_rfl) (by kernel_rfl) (fun _ _ _ h => h) (Or.inl ⟨by rfl, ?_⟩) (by assumption) ?_; rotate_left; (focus (intro w hSw; (try dsimp only at hSw); go_simp; (try with_reducible rfl); done)); simp only [Act.put, List.setIfInBounds_toArray, List.set_cons_zero, List.set_cons_succ]
                        refine wpAnyH_done (by kernel_rfl) ?_ _
                        go_wp2
                        go_roundw
                        case rel => exact ⟨k + 1, (puS st xh.now), by go_num, by omega, by first | exact HTW6.out | exact HTW6.out.below ((Below.refl _ _).drew), by have := HCP.out; show st.cap ≤ _; omega, by first | exact HB6.out | exact HB6.out.drew⟩
                        case measure => simp [intOf]; omega
        · as_aux_lemma =>
          go_wp2_with fail
          refine (alive_any wr (HM.out.below HB.out)).mono ?_
          rintro e w6 ⟨rfl, hb⟩
          have HB6 := Lib.hid (HB.out.trans (hb.mono HB.out.size))
          clear hb
          go_wp2
          go_ret
          exact ⟨rfl, HB6.out⟩
end Go.Proofs.YtapooonlbjgbgaaDoor.Dv
