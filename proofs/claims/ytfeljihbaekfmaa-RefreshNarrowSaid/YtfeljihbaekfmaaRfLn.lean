/-
  The walk of the statement RefreshNarrow.
-/
import Derived.Test.YtfeljihbaekfmaaRfOwn
import Derived.Laws.CopyOwn
namespace Go.Proofs.Ytfeljihbaekfmaa.Rf
open Go.RowKit Go.Proofs.Ytfeljihbaekfmaa.Fo

theorem rot_short {st : St} (hi : Inv st) {t n c : Bs} {sc : List Bs} {now : Int} (hs : Short sc) (hl : sc.length ≤ 20) (hr : (rot st t n c sc now).2.2 = 0) : Short (rot st t n c sc now).2.1.scopes ∧ (rot st t n c sc now).2.1.scopes.length ≤ 20 := by
  obtain ⟨k, y, _, hy, _, _, _, hg, _⟩ := rot_good hr
  rw [hg]
  have h2 := hi.sc y (List.mem_of_getElem? hy)
  unfold rotG
  simp only
  split
  · exact ⟨h2.1, by omega⟩
  · exact ⟨hs, hl⟩
/-- The elements of what has begun: each was light, and its scopes are the argument's. -/
def Els (w : World) (bs : List OpE) : Prop := ∀ e ∈ bs, Ss w e.2.1 e.1.sc.length e.2.2 e.1.sc ∧ opOk e.1 = true
theorem found_succ {kk q : Nat} (h : q ≠ kk) : decide (kk < q) = decide (kk < q + 1) := decide_eq_decide.2 (by omega)
/-- What a rotation that succeeds returns, in the words of what has begun. -/
theorem narrow_rot {bs : List OpE} {st st' : St} {g : Gr} {m : Int} (h : Begun (bs.map Prod.fst) st) (hi : Inv st) {t n c : Bs} {sc : List Bs} {now : Int} (hr : rot st t n c sc now = (st', (g, m))) (hm : m = 0) (hi2 : Inv st') (hs : Short sc) (hl : sc.length ≤ 20) :
    ∃ (kk : Nat) (be : OpE) (gs : List Bs), bs[kk]? = some be ∧ famT st' t = some be.1.id ∧ g = mkG be.1.user be.1.cl be.1.ses gs ∧ withinS gs be.1.sc = true ∧ Short gs ∧ gs.length ≤ 20 ∧ (∀ q e, bs[q]? = some e → q ≠ kk → e.1.id ≠ be.1.id) := by
  have h0 : (rot st t n c sc now).2.2 = 0 := by rw [hr]; exact hm
  obtain ⟨kk, b, h1, h2, h3, h4⟩ := begun_rot h (n := n) (c := c) (sc := sc) (now := now) (t := t) (by rw [hr]; exact hi2) h0
  have h5 := rot_short hi (t := t) (n := n) (c := c) (now := now) hs hl h0
  rw [hr] at h2 h3 h4 h5
  simp only at h2 h3 h4 h5
  rw [List.getElem?_map] at h1
  obtain ⟨be, e1, e2⟩ := Option.map_eq_some_iff.1 h1
  subst e2
  refine ⟨kk, be, g.scopes, e1, h2, h3, h4, h5.1, h5.2, fun q e hq hne he => hne ?_⟩
  exact begun_ids h hi (k := q) (j := kk) (by rw [List.getElem?_map, hq]; rfl) (by rw [List.getElem?_map]; exact h1) he
set_option maxRecDepth 100000 in
set_option maxHeartbeats 16000000 in
theorem narrow_any (w : World) (life total : Int) (A : Option Addr) (n c : Nat) (l : List Opx) (hs : Os w A n c l) (hm : MX w) :
    Calls Try.prog 7 #[.int .i64 life, .int .i64 total, .slice A n c] w fun e w' => e = .returned (.bool true) ∧ Below w.heap.size w w' := by
  have HS := Lib.hid hs
  have HLN := Lib.hid hs.1
  have HM := Lib.hid hm
  have HBB := Lib.hid (Below.refl w.heap.size w)
  clear hs hm
  go_enter Try.func7, Try.ntmps7
  by_cases hl : lightB l = true
  · have HLI := Lib.hid hl
    clear hl
    have hn24 : n ≤ 24 := by rw [← HLN.out]; exact light_len HLI.out
    go_wp2_with fail
    refine (light_is w A n c l HS.out HLI.out).mono ?_
    rintro e w1 ⟨rfl, hb⟩
    have HB1 := Lib.hid hb
    clear hb
    by_cases hlf : 1 ≤ limI life ∧ 1 ≤ limI total
    · go_wp2_with fail
      refine (new_b (l := life) (t := total) hlf rfl).mono ?_
      rintro e w2 ⟨F, rfl, hr2, hb2⟩
      have HB2 := Lib.hid (HB1.out.trans (hb2.mono HB1.out.size))
      have HR2 := Lib.hid (hr2.mono (T' := (fun k => w.heap.size ≤ k ∧ ¬ Value.ownBlock (.slice none 0 0) = some k)) (fun k _ e => ⟨Nat.le_trans HB1.out.size e, fun h => by cases h⟩))
      clear hr2 hb2
      go_wp2_with fail
      go_loopw [9, 10, 11, 12, 13, 14, 15, 16, 17] (fun v9 i _ _ _ _ _ _ _ wr => ∃ (k : Nat) (st : St) (bs : List OpE), i = .int .i64 k ∧ k ≤ n ∧ RepB wr (fun k => w.heap.size ≤ k ∧ ¬ Value.ownBlock v9 = some k) F st ∧ Own9 wr w.heap.size v9 bs ∧ Els w bs ∧ Begun (bs.map Prod.fst) st ∧ bs.length ≤ k ∧ Below w.heap.size w wr) (fun _ i _ _ _ _ _ _ _ _ => n - (intOf i).toNat)
      case atStart => exact ⟨0, _, [], rfl, Nat.zero_le _, HR2.out, Own9.nil _ _, (fun e h => by simp at h), ⟨rfl, fun k y h => by simp at h⟩, Nat.le_refl _, HB2.out⟩
      case round =>
        obtain ⟨k, st, bs, rfl, hk, hrep, hown, hels, hbeg, hbl, hb⟩ := hrel
        have HR := Lib.hid hrep
        have HB := Lib.hid hb
        have HEL := Lib.hid hels
        have HBE := Lib.hid hbeg
        obtain ⟨A9, c9, rfl⟩ := hown.len
        have HO := Lib.hid hown
        clear hrep hb hels hbeg hown
        by_cases hlt : k < n
        · have HOK := Lib.hid (light_at HLI.out (k := k) (by rw [HLN.out]; exact hlt))
          obtain ⟨bh, oh, Ah, dh, xh, rfl, hlh, hxh, h0, h1, h2, h3, h4, h5, h6, h7, h8, hsh, hzh⟩ := HS.out.at (by omega : k < n)
          have h0' := (bkeep HB.out hlh _).trans h0
          have h1' := (bkeep HB.out hlh _).trans h1
          have h2' := (bkeep HB.out hlh _).trans h2
          have h3' := (bkeep HB.out hlh _).trans h3
          have h4' := (bkeep HB.out hlh _).trans h4
          have h5' := (bkeep HB.out hlh _).trans h5
          have h6' := (bkeep HB.out hlh _).trans h6
          have h7' := (bkeep HB.out hlh _).trans h7
          have h8' := (bkeep HB.out hlh _).trans h8
          rw [hxh] at HOK
          have HSh := Lib.hid hsh
          have HZh := Lib.hid hzh
          have H0 := Lib.hid h0
          have H3 := Lib.hid h3
          have HOP := Lib.hid (show ∀ j u, (fl9 (xh, Ah, dh))[j]? = some u → w.cell? ⟨bh, oh + k * 9 + j, none⟩ = some u from fun j u hu => by
            have hj : j < 9 := (List.getElem?_eq_some_iff.1 hu).1
            match j, hj with
            | 0, _ => injection hu with hu; subst hu; exact h0
            | 1, _ => injection hu with hu; subst hu; exact h1
            | 2, _ => injection hu with hu; subst hu; exact h2
            | 3, _ => injection hu with hu; subst hu; exact h3
            | 4, _ => injection hu with hu; subst hu; exact h4
            | 5, _ => injection hu with hu; subst hu; exact h5
            | 6, _ => injection hu with hu; subst hu; exact h6
            | 7, _ => injection hu with hu; subst hu; exact h7
            | 8, _ => injection hu with hu; subst hu; exact h8)
          clear h0 h1 h2 h3 h4 h5 h6 h7 h8 hxh hsh hzh
          obtain ⟨st', g, m, hr⟩ : ∃ st' g m, doS st xh = (st', (g, m)) := ⟨_, _, _, rfl⟩
          go_wp2_with fail
          refine (do_b HR.out (fun k hk => ⟨Nat.le_trans HB.out.size hk, fun e => by have := (HO.out.lt k e).2; omega⟩) xh Ah dh (HSh.out.below HB.out) HOK.out (HM.out.below HB.out) (fun a ha hl hT => absurd (HZh.out a ha hl) (by have := hT.1; omega)) hr).mono ?_
          rintro e w3 ⟨A3, d3, rfl, hss3, _, hr3, hm3⟩
          have HDO := Lib.hid hr
          have HR3 := Lib.hid hr3
          have HO3 := Lib.hid (HO.out.mods hm3 (fun g hg hT => hT.2 hg))
          have HB3 := Lib.hid (HB.out.trans (hm3.toBelow HB.out.size (fun _ h => h.1)))
          have HSS3 := Lib.hid hss3
          clear hr hr3 hm3 hss3 h0' h1' h2' h3' h4' h5' h6' h7' h8' HO
          simp only
          go_upto_region 11 with fail
          obtain ⟨w4, hw4⟩ : ∃ w', w' = w3.alloc (.cells #[.string g.user, .string g.client, .string g.tenant, .string g.session, .string g.redirect, .string g.nonce, .string g.challenge, .int .i64 g.method, (.slice A3 g.scopes.length d3), .int .i64 g.auth, .int .i64 g.level] 35) := ⟨_, rfl⟩
          obtain ⟨p, hp⟩ : ∃ p, p = w3.heap.size := ⟨_, rfl⟩
          have hb4 : Below w3.heap.size w3 w4 := by rw [hw4]; go_grown
          have HP4 := Lib.hid (show w4.heap[p]? = some (.cells #[.string g.user, .string g.client, .string g.tenant, .string g.session, .string g.redirect, .string g.nonce, .string g.challenge, .int .i64 g.method, (.slice A3 g.scopes.length d3), .int .i64 g.auth, .int .i64 g.level] 35 (0, 0)) by rw [hw4, hp]; exact heap_alloc_new _ _)
          rw [← hw4, ← hp]
          have HB4 := Lib.hid (HB3.out.trans (hb4.mono HB3.out.size))
          have HR4 := Lib.hid (HR3.out.below hb4)
          have HO4 := Lib.hid (HO3.out.below hb4)
          have HSS4 := Lib.hid (HSS3.out.below hb4)
          clear hw4 hb4 hp HO3 HR3 HSS3
          have h0' := cell_below HB4.out H0.out
          have h3' := cell_below HB4.out H3.out
          by_cases hS : xh.call = 0 ∧ m = 0
          · obtain ⟨q1, q2⟩ := hS
            have HBG := Lib.hid (show Begun ((bs ++ [(xh, Ah, dh)]).map Prod.fst) st' by
              have := begun_start HBE.out q1 (by rw [HDO.out]; exact q2)
              rw [HDO.out] at this
              rw [List.map_append]
              exact this)
            have b1 : (xh.call == 0) = true := by rw [q1]; rfl
            have b2 : (m == 0) = true := by rw [q2]; rfl
            have b3 : (xh.call == 1) = false := by rw [q1]; rfl
            have b4 : ¬ xh.call = 1 := by omega
            have HEA := Lib.hid (show Els w (bs ++ [(xh, Ah, dh)]) from fun e he => by
              rcases List.mem_append.1 he with he | he
              · exact HEL.out e he
              · rw [List.mem_singleton] at he
                subst he
                exact ⟨HSh.out, HOK.out⟩)
            clear q1 q2
            obtain ⟨k0, k1, k2, k3, k4, k5, k6, k7, k8⟩ : w4.cell? ⟨bh, oh + k * 9, none⟩ = some (.int .i64 xh.call) ∧ w4.cell? ⟨bh, oh + k * 9 + 1, none⟩ = some (.int .i64 xh.now) ∧ w4.cell? ⟨bh, oh + k * 9 + 2, none⟩ = some (.string xh.id) ∧ w4.cell? ⟨bh, oh + k * 9 + 3, none⟩ = some (.string xh.tok) ∧ w4.cell? ⟨bh, oh + k * 9 + 4, none⟩ = some (.string xh.nxt) ∧ w4.cell? ⟨bh, oh + k * 9 + 5, none⟩ = some (.string xh.user) ∧ w4.cell? ⟨bh, oh + k * 9 + 6, none⟩ = some (.string xh.cl) ∧ w4.cell? ⟨bh, oh + k * 9 + 7, none⟩ = some (.string xh.ses) ∧ w4.cell? ⟨bh, oh + k * 9 + 8, none⟩ = some (.slice Ah xh.sc.length dh) := ⟨h0', cell_below HB4.out (HOP.out 1 _ rfl), cell_below HB4.out (HOP.out 2 _ rfl), cell_below HB4.out (HOP.out 3 _ rfl), cell_below HB4.out (HOP.out 4 _ rfl), cell_below HB4.out (HOP.out 5 _ rfl), cell_below HB4.out (HOP.out 6 _ rfl), cell_below HB4.out (HOP.out 7 _ rfl), cell_below HB4.out (HOP.out 8 _ rfl)⟩
            clear h0' h3'
            go_upto_region 13 with ((with_reducible refine at_dst 74 ?_); go_must (refine wpList_app9 rfl (.tmp 68) (.tmp 73) rfl w.heap.size (.slice A9 bs.length c9) bs rfl (HO4.out.below ((Below.refl _ _).alloc (Nat.le_refl _) _)) w4.heap.size 1 (xh, Ah, dh) rfl (fun j u hu => (cell_block (heap_alloc_new w4 (.cells #[.int .i64 xh.call, .int .i64 xh.now, .string xh.id, .string xh.tok, .string xh.nxt, .string xh.user, .string xh.cl, .string xh.ses, .slice Ah xh.sc.length dh] 39)) j).trans (List.getElem?_toArray.trans hu)) (by omega) (by simp only [World.size_alloc]; have := HB4.out.size; omega) ?_); intro v5 w5 hO5 hg5 hv5; have HO5 := Lib.hid hO5; have HG5 := Lib.hid hg5; have HV5 := Lib.hid hv5; clear hO5 hg5 hv5)
            have HB45 := Lib.hid (show Below w.heap.size w w5 from HB4.out.trans (by
              have h1 : Below w.heap.size w4 (w4.alloc (.cells #[.int .i64 xh.call, .int .i64 xh.now, .string xh.id, .string xh.tok, .string xh.nxt, .string xh.user, .string xh.cl, .string xh.ses, .slice Ah xh.sc.length dh] 39)) := (Below.refl _ _).alloc HB4.out.size _
              refine h1.trans ⟨HG5.out.os, HG5.out.tape, HG5.out.output, HG5.out.size, fun k hk => HG5.out.block k (by have := HB4.out.size; simp only [World.size_alloc]; omega) (fun e => ?_)⟩
              have := (HO4.out.lt k e.symm).1
              omega))
            have HR5 := Lib.hid (show RepB w5 (fun k => w.heap.size ≤ k ∧ ¬ Value.ownBlock v5 = some k) F st' from ((HR4.out.mono (T' := fun k => (fun k => w.heap.size ≤ k ∧ ¬ Value.ownBlock (.slice A9 bs.length c9) = some k) k ∧ (fun k => w.heap.size ≤ k ∧ ¬ Value.ownBlock v5 = some k) k) (fun k hk hT => ⟨hT, hT.1, fun e => by
              rcases HV5.out with e2 | e2
              · rw [e2] at e; exact hT.2 e
              · rw [e2] at e; injection e with e; simp only [World.size_alloc] at e; omega⟩)).keep (w' := w5) (fun k hk hT => (HG5.out.block k (by simp only [World.size_alloc]; omega) (fun e => hT.1.2 e.symm)).trans (Below.heap_alloc _ _ _ hk)) (by have := HG5.out.size; simp only [World.size_alloc] at this; omega)).mono (fun k _ hT => hT.2))
            have h0' := cell_below HB45.out H0.out
            clear k0 k1 k2 k3 k4 k5 k6 k7 k8
            go_wp2
            go_roundw
            case rel => exact ⟨k + 1, _, _, by go_num, by omega, HR5.out, HO5.out, HEA.out, HBG.out, by simp; omega, HB45.out⟩
            case measure => simp [intOf]; omega
          · by_cases hN : xh.call = 1 ∧ m = 0
            · obtain ⟨q1, q2⟩ := hN
              have hrot : rot st xh.tok xh.nxt xh.cl xh.sc xh.now = (st', (g, m)) := by rw [← HDO.out]; unfold doS; rw [if_neg (by omega), if_pos q1]
              obtain ⟨z1, z2, z3, z4, z5, z6, z7, z8⟩ := ok_parts HOK.out
              obtain ⟨kk, be, gs, e1, e2, e3, e4, e5, e6, e7⟩ := narrow_rot HBE.out HR.out.inv hrot q2 HR4.out.inv z8 z7
              have b1 : (xh.call == 0) = false := by rw [q1]; rfl
              have b2 : m = 0 := q2
              have b4 : xh.call = 1 := q1
              have hg3 : g = mkG be.1.user be.1.cl be.1.ses gs := e3
              clear e3
              subst hg3
              have HPI := Lib.hid (show w4.heap[p]? = some (.cells #[.string be.1.user, .string be.1.cl, .string ⟨#[116]⟩, .string be.1.ses, .string ⟨#[]⟩, .string ⟨#[110]⟩, .string ⟨#[]⟩, .int .i64 0, .slice A3 gs.length d3, .int .i64 3, .int .i64 2] 35 (0, 0)) from HP4.out)
              have HSI0 := Lib.hid (show Ss w4 A3 gs.length d3 gs from HSS4.out)
              have HSE := Lib.hid (HEL.out be (List.mem_of_getElem? e1)).1
              obtain ⟨_, _, _, _, _, _, y7, y8⟩ := ok_parts (HEL.out be (List.mem_of_getElem? e1)).2
              have HES := Lib.hid y8
              have HEN := Lib.hid y7
              have HGS := Lib.hid e5
              have HGN := Lib.hid e6
              have HWI := Lib.hid e4
              have HKK := Lib.hid e1
              have HNE := Lib.hid e7
              have HF := Lib.hid e2
              have HBI := Lib.hid HB4.out
              have HBG := Lib.hid (show Begun (bs.map Prod.fst) st' by
                have := HBE.out.back (back_do (st := st) (x := xh) (Or.inl (by omega)))
                rw [HDO.out] at this
                exact this)
              have hkl : kk < bs.length := (List.getElem?_eq_some_iff.1 e1).1
              clear e2 e4 e5 e6 e7 y8 hrot z8 q1 q2 HP4 HSS4
              rcases HO4.out.form with ⟨hv9, hnil⟩ | ⟨gb, cb, hv9, hgb, hgl⟩
              · rw [hnil] at hkl; exact absurd hkl (by simp)
              injection hv9 with ev1 _ ev3
              subst ev1
              subst ev3
              go_wp2_with fail
              refine (fam_b HR4.out xh.tok (by omega) HF.out).mono ?_
              rintro e w5 ⟨he, rfl⟩
              have he2 : e = .returned (.tuple #[.string be.1.id, .bool true]) := he
              clear he
              subst he2
              clear b1 b2 b4
              go_wp2_with fail
              go_loopw [15, 16, 17] (fun fv iv _ wi => ∃ q : Nat, iv = .int .i64 q ∧ q ≤ bs.length ∧ fv = .bool (decide (kk < q)) ∧ Below w4.heap.size w4 wi) (fun _ iv _ _ => bs.length - (intOf iv).toNat)
              case atStart => exact ⟨0, rfl, Nat.zero_le _, rfl, Below.refl _ _⟩
              case round =>
                obtain ⟨q, rfl, hq, rfl, hbw⟩ := hrel
                have HBW := Lib.hid hbw
                clear hbw
                have hqn : q ≤ 24 := by omega
                by_cases hql : q < bs.length
                · obtain ⟨eq, heq⟩ : ∃ e, bs[q]? = some e := ⟨_, List.getElem?_eq_getElem hql⟩
                  have cid := cell_below HBW.out (HO4.out.cell heq (j := 2) rfl)
                  by_cases hqk : q = kk
                  · subst hqk
                    rw [HKK.out] at heq
                    injection heq with heq
                    subst heq
                    have c5 := cell_below HBW.out (HO4.out.cell HKK.out (j := 5) rfl)
                    have c6 := cell_below HBW.out (HO4.out.cell HKK.out (j := 6) rfl)
                    have c7 := cell_below HBW.out (HO4.out.cell HKK.out (j := 7) rfl)
                    have c9 := cell_below HBW.out (HO4.out.cell HKK.out (j := 8) rfl)
                    have p8 := cell_block (blk_below HBW.out HPI.out) 8
                    simp only [List.getElem?_toArray, List.getElem?_cons_zero, List.getElem?_cons_succ] at p8
                    have HSI := Lib.hid (HSI0.out.below HBW.out)
                    replace HPI := Lib.hid (blk_below HBW.out HPI.out)
                    replace HBI := Lib.hid (HB4.out.trans (HBW.out.mono HB4.out.size))
                    go_wp2_with fail
                    refine wp_region_held_drew (S := (fun w' => w'.cell? ⟨gb, q * 9 + 5, none⟩ = some (.string be.1.user) ∧ w'.cell? ⟨gb, q * 9 + 6, none⟩ = some (.string be.1.cl) ∧ w'.cell? ⟨gb, q * 9 + 7, none⟩ = some (.string be.1.ses) ∧ w'.cell? ⟨p, 8, none⟩ = some (.slice A3 gs.length d3))) (by kernel_rfl) ?_ (fun hHeld => ?_)
                    focus ((try dsimp only); (first | exact ⟨cell_below (Below.refl wr.heap.size wr) c5, cell_below (Below.refl wr.heap.size wr) c6, cell_below (Below.refl wr.heap.size wr) c7, cell_below (Below.refl wr.heap.size wr) p8⟩ | exact ⟨cell_below ((Below.refl wr.heap.size wr).drew) c5, cell_below ((Below.refl wr.heap.size wr).drew) c6, cell_below ((Below.refl wr.heap.size wr).drew) c7, cell_below ((Below.refl wr.heap.size wr).drew) p8⟩ | exact ⟨cell_below HBa.out c5, cell_below HBa.out c6, cell_below HBa.out c7, cell_below HBa.out p8⟩ | exact ⟨cell_below HBa.out.drew c5, cell_below HBa.out.drew c6, cell_below HBa.out.drew c7, cell_below HBa.out.drew p8⟩ | exact ⟨cell_below HBz.out c5, cell_below HBz.out c6, cell_below HBz.out c7, cell_below HBz.out p8⟩ | exact ⟨cell_below HBz.out.drew c5, cell_below HBz.out.drew c6, cell_below HBz.out.drew c7, cell_below HBz.out.drew p8⟩ | exact ⟨cell_below HBc.out c5, cell_below HBc.out c6, cell_below HBc.out c7, cell_below HBc.out p8⟩ | exact ⟨cell_below HBc.out.drew c5, cell_below HBc.out.drew c6, cell_below HBc.out.drew c7, cell_below HBc.out.drew p8⟩ | exact ⟨cell_below HBq.out c5, cell_below HBq.out c6, cell_below HBq.out c7, cell_below HBq.out p8⟩); done)
                    refine wpAnyH_take (i := 0) (oi := ⟨_, _, _, _, _, _⟩) (v := ?_) rfl (by kernel_rfl) (by kernel_rfl) (by kernel_rfl) (fun _ _ _ h => h) (Or.inl ⟨by rfl, ?_⟩) (by assumption) ?_; rotate_left; (focus (intro w hSw; (try dsimp only at hSw); go_simp; (try with_reducible rfl); done)); simp only [Act.put, List.setIfInBounds_toArray, List.set_cons_zero, List.set_cons_succ]
                    refine wpAnyH_take (i := 1) (oi := ⟨_, _, _, _, _, _⟩) (v := ?_) rfl (by kernel_rfl) (by kernel_rfl) (by kernel_rfl) (fun _ _ _ h => h) (Or.inl ⟨by rfl, ?_⟩) (by assumption) ?_; rotate_left; (focus (intro w hSw; (try dsimp only at hSw); go_simp; (try with_reducible rfl); done)); simp only [Act.put, List.setIfInBounds_toArray, List.set_cons_zero, List.set_cons_succ]
                    refine wpAnyH_take (i := 2) (oi := ⟨_, _, _, _, _, _⟩) (v := ?_) rfl (by kernel_rfl) (by kernel_rfl) (by kernel_rfl) (fun _ _ _ h => h) (Or.inl ⟨by rfl, ?_⟩) (by assumption) ?_; rotate_left; (focus (intro w hSw; (try dsimp only at hSw); go_simp; (try with_reducible rfl); done)); simp only [Act.put, List.setIfInBounds_toArray, List.set_cons_zero, List.set_cons_succ]
                    refine wpAnyH_take (i := 3) (oi := ⟨_, _, _, _, _, _⟩) (v := ?_) rfl (by kernel_rfl) (by kernel_rfl) (by kernel_rfl) (fun _ _ _ h => h) (Or.inl ⟨by rfl, ?_⟩) (by assumption) ?_; rotate_left; (focus (intro w hSw; (try dsimp only at hSw); go_simp; (try with_reducible rfl); done)); simp only [Act.put, List.setIfInBounds_toArray, List.set_cons_zero, List.set_cons_succ]
                    refine wpAnyH_take (i := 4) (oi := ⟨_, _, _, _, _, _⟩) (v := ?_) rfl (by kernel_rfl) (by kernel_rfl) (by kernel_rfl) (fun _ _ _ h => h) (Or.inl ⟨by rfl, ?_⟩) (by assumption) ?_; rotate_left; (focus (intro w hSw; (try dsimp only at hSw); go_simp; (try with_reducible rfl); done)); simp only [Act.put, List.setIfInBounds_toArray, List.set_cons_zero, List.set_cons_succ]
                    refine wpAnyH_take (i := 5) (oi := ⟨_, _, _, _, _, _⟩) (v := ?_) rfl (by kernel_rfl) (by kernel_rfl) (by kernel_rfl) (fun _ _ _ h => h) (Or.inl ⟨by rfl, ?_⟩) (by assumption) ?_; rotate_left; (focus (intro w hSw; (try dsimp only at hSw); go_simp; (try with_reducible rfl); done)); simp only [Act.put, List.setIfInBounds_toArray, List.set_cons_zero, List.set_cons_succ]
                    refine wpAnyH_take (i := 6) (oi := ⟨_, _, _, _, _, _⟩) (v := ?_) rfl (by kernel_rfl) (by kernel_rfl) (by kernel_rfl) (fun _ _ _ h => h) (Or.inl ⟨by rfl, ?_⟩) (by assumption) ?_; rotate_left; (focus (intro w hSw; (try dsimp only at hSw); go_simp; (try with_reducible rfl); done)); simp only [Act.put, List.setIfInBounds_toArray, List.set_cons_zero, List.set_cons_succ]
                    refine wpAnyH_take (i := 7) (oi := ⟨_, _, _, _, _, _⟩) (v := ?_) rfl (by kernel_rfl) (by kernel_rfl) (by kernel_rfl) (fun _ _ _ h => h) (Or.inl ⟨by rfl, ?_⟩) (by assumption) ?_; rotate_left; (focus (intro w hSw; (try dsimp only at hSw); go_simp; (try with_reducible rfl); done)); simp only [Act.put, List.setIfInBounds_toArray, List.set_cons_zero, List.set_cons_succ]
                    refine wpAnyH_take (i := 8) (oi := ⟨_, _, _, _, _, _⟩) (v := ?_) rfl (by kernel_rfl) (by kernel_rfl) (by kernel_rfl) (fun _ _ _ h => h) (Or.inl ⟨by rfl, ?_⟩) (by assumption) ?_; rotate_left; (focus (intro w hSw; (try dsimp only at hSw); go_simp; (try with_reducible rfl); done)); simp only [Act.put, List.setIfInBounds_toArray, List.set_cons_zero, List.set_cons_succ]
                    refine wpAnyH_take (i := 9) (oi := ⟨_, _, _, _, _, _⟩) (v := ?_) rfl (by kernel_rfl) (by kernel_rfl) (by kernel_rfl) (fun _ _ _ h => h) (Or.inl ⟨by rfl, ?_⟩) (by assumption) ?_; rotate_left; (focus (intro w hSw; (try dsimp only at hSw); go_simp; (try with_reducible rfl); done)); simp only [Act.put, List.setIfInBounds_toArray, List.set_cons_zero, List.set_cons_succ]
                    refine wpAnyH_take (i := 10) (oi := ⟨_, _, _, _, _, _⟩) (v := ?_) rfl (by kernel_rfl) (by kernel_rfl) (by kernel_rfl) (fun _ _ _ h => h) (Or.inl ⟨by rfl, ?_⟩) (by assumption) ?_; rotate_left; (focus (intro w hSw; (try dsimp only at hSw); go_simp; (try with_reducible rfl); done)); simp only [Act.put, List.setIfInBounds_toArray, List.set_cons_zero, List.set_cons_succ]
                    refine wpAnyH_take (i := 11) (oi := ⟨_, _, _, _, _, _⟩) (v := ?_) rfl (by kernel_rfl) (by kernel_rfl) (by kernel_rfl) (fun _ _ _ h => h) (Or.inl ⟨by rfl, ?_⟩) (by assumption) ?_; rotate_left; (focus (intro w hSw; (try dsimp only at hSw); go_simp; (try with_reducible rfl); done)); simp only [Act.put, List.setIfInBounds_toArray, List.set_cons_zero, List.set_cons_succ]
                    refine wpAnyH_take (i := 12) (oi := ⟨_, _, _, _, _, _⟩) (v := ?_) rfl (by kernel_rfl) (by kernel_rfl) (by kernel_rfl) (fun _ _ _ h => h) (Or.inl ⟨by rfl, ?_⟩) (by assumption) ?_; rotate_left; (focus (intro w hSw; (try dsimp only at hSw); go_simp; (try with_reducible rfl); done)); simp only [Act.put, List.setIfInBounds_toArray, List.set_cons_zero, List.set_cons_succ]
                    refine wpAnyH_take (i := 13) (oi := ⟨_, _, _, _, _, _⟩) (v := ?_) rfl (by kernel_rfl) (by kernel_rfl) (by kernel_rfl) (fun _ _ _ h => h) (Or.inl ⟨by rfl, ?_⟩) (by assumption) ?_; rotate_left; (focus (intro w hSw; (try dsimp only at hSw); go_simp; (try with_reducible rfl); done)); simp only [Act.put, List.setIfInBounds_toArray, List.set_cons_zero, List.set_cons_succ]
                    refine wpAnyH_take (i := 14) (oi := ⟨_, _, _, _, _, _⟩) (v := ?_) rfl (by kernel_rfl) (by kernel_rfl) (by kernel_rfl) (fun _ _ _ h => h) (Or.inl ⟨by rfl, ?_⟩) (by assumption) ?_; rotate_left; (focus (intro w hSw; (try dsimp only at hSw); go_simp; (try with_reducible rfl); done)); simp only [Act.put, List.setIfInBounds_toArray, List.set_cons_zero, List.set_cons_succ]
                    refine wpAnyH_take (i := 15) (oi := ⟨_, _, _, _, _, _⟩) (v := ?_) rfl (by kernel_rfl) (by kernel_rfl) (by kernel_rfl) (fun _ _ _ h => h) (Or.inl ⟨by rfl, ?_⟩) (by assumption) ?_; rotate_left; (focus (intro w hSw; (try dsimp only at hSw); go_simp; (try with_reducible rfl); done)); simp only [Act.put, List.setIfInBounds_toArray, List.set_cons_zero, List.set_cons_succ]
                    refine wpAnyH_take (i := 16) (oi := ⟨_, _, _, _, _, _⟩) (v := ?_) rfl (by kernel_rfl) (by kernel_rfl) (by kernel_rfl) (fun _ _ _ h => h) (Or.inl ⟨by rfl, ?_⟩) (by assumption) ?_; rotate_left; (focus (intro w hSw; (try dsimp only at hSw); go_simp; (try with_reducible rfl); done)); simp only [Act.put, List.setIfInBounds_toArray, List.set_cons_zero, List.set_cons_succ]
                    refine wpAnyH_ready (rs := [17, 18]) (by kernel_rfl) (by simp) ?_
                    refine AllReadyH.cons (o := ⟨_, _, _, _, _, _⟩) rfl (fun K hK => ?_) (AllReadyH.cons (o := ⟨_, _, _, _, _, _⟩) rfl (fun K hK => ?_) AllReadyH.nil)
                    · go_simp
                      go_wp2_with fail
                      refine (grant_any be.1.user be.1.cl be.1.ses A3 gs.length d3 _).mono ?_
                      rintro e w1 ⟨rfl, hb1⟩
                      first | (have HBc := Lib.hid (show Below wr.heap.size wr w1 by first | exact HBz.out.trans (hb1.mono HBz.out.size) | exact HBz.out.drew.trans (hb1.mono HBz.out.size)); have HZc := Lib.hid (show w1.heap[zb]? = _ from (hb1.block zb (blk_lt HZz.out)).trans HZz.out)) | (have HBa := Lib.hid (show Below wr.heap.size wr w1 by first | exact hb1 | exact ((Below.refl wr.heap.size wr).drew).trans (hb1.mono (Nat.le_refl _))))
                      clear hb1
                      (try go_wp2_with fail)
                      refine hK.out _ _ ?_ (fun hHeld => ?_)
                      focus ((try dsimp only); (first | exact ⟨cell_below (Below.refl wr.heap.size wr) c5, cell_below (Below.refl wr.heap.size wr) c6, cell_below (Below.refl wr.heap.size wr) c7, cell_below (Below.refl wr.heap.size wr) p8⟩ | exact ⟨cell_below ((Below.refl wr.heap.size wr).drew) c5, cell_below ((Below.refl wr.heap.size wr).drew) c6, cell_below ((Below.refl wr.heap.size wr).drew) c7, cell_below ((Below.refl wr.heap.size wr).drew) p8⟩ | exact ⟨cell_below HBa.out c5, cell_below HBa.out c6, cell_below HBa.out c7, cell_below HBa.out p8⟩ | exact ⟨cell_below HBa.out.drew c5, cell_below HBa.out.drew c6, cell_below HBa.out.drew c7, cell_below HBa.out.drew p8⟩ | exact ⟨cell_below HBz.out c5, cell_below HBz.out c6, cell_below HBz.out c7, cell_below HBz.out p8⟩ | exact ⟨cell_below HBz.out.drew c5, cell_below HBz.out.drew c6, cell_below HBz.out.drew c7, cell_below HBz.out.drew p8⟩ | exact ⟨cell_below HBc.out c5, cell_below HBc.out c6, cell_below HBc.out c7, cell_below HBc.out p8⟩ | exact ⟨cell_below HBc.out.drew c5, cell_below HBc.out.drew c6, cell_below HBc.out.drew c7, cell_below HBc.out.drew p8⟩ | exact ⟨cell_below HBq.out c5, cell_below HBq.out c6, cell_below HBq.out c7, cell_below HBq.out p8⟩); done)
                      clear hK K
                      (try simp only [Act.put, List.setIfInBounds_toArray, List.set_cons_zero, List.set_cons_succ])
                      refine wpAnyH_ready (rs := [18]) (by kernel_rfl) (by simp) ?_
                      refine AllReadyH.cons (o := ⟨_, _, _, _, _, _⟩) rfl (fun K hK => ?_) AllReadyH.nil
                      go_simp
                      generalize hwz : World.alloc _ (.cells #[.string ⟨#[]⟩, .string ⟨#[]⟩, .string ⟨#[]⟩, .string ⟨#[]⟩, .string ⟨#[]⟩, .string ⟨#[]⟩, .string ⟨#[]⟩, .int .i64 0, .slice none 0 0, .int .i64 0, .int .i64 0] 35) = wz
                      first | (have HBc := Lib.hid (show Below wr.heap.size wr wz by rw [← hwz]; first | exact HBa.out.alloc HBa.out.size _ | exact HBa.out.drew.alloc HBa.out.size _); obtain ⟨zb, hzb⟩ : ∃ zb, zb = w1.heap.size := ⟨_, rfl⟩; have HZc := Lib.hid (show wz.heap[zb]? = some (.cells #[.string ⟨#[]⟩, .string ⟨#[]⟩, .string ⟨#[]⟩, .string ⟨#[]⟩, .string ⟨#[]⟩, .string ⟨#[]⟩, .string ⟨#[]⟩, .int .i64 0, .slice none 0 0, .int .i64 0, .int .i64 0] 35 (0, 0)) by rw [← hwz, hzb]; first | exact heap_alloc_new w1 _ | exact heap_alloc_new w1.drew _); have HZB := Lib.hid (show wr.heap.size ≤ zb by rw [hzb]; exact HBa.out.size); rw [← hzb]) | (have HBz := Lib.hid (show Below wr.heap.size wr wz by rw [← hwz]; first | exact (Below.refl wr.heap.size wr).alloc (Nat.le_refl _) _ | exact ((Below.refl wr.heap.size wr).drew).alloc (Nat.le_refl _) _); obtain ⟨zb, hzb⟩ : ∃ zb, zb = wr.heap.size := ⟨_, rfl⟩; have HZz := Lib.hid (show wz.heap[zb]? = some (.cells #[.string ⟨#[]⟩, .string ⟨#[]⟩, .string ⟨#[]⟩, .string ⟨#[]⟩, .string ⟨#[]⟩, .string ⟨#[]⟩, .string ⟨#[]⟩, .int .i64 0, .slice none 0 0, .int .i64 0, .int .i64 0] 35 (0, 0)) by rw [← hwz, hzb]; first | exact heap_alloc_new wr _ | exact heap_alloc_new wr.drew _); have HZB := Lib.hid (show wr.heap.size ≤ zb by rw [hzb]; exact Nat.le_refl _); rw [← hzb])
                      clear hwz hzb
                      (try go_wp2_with fail)
                      refine hK.out _ _ ?_ (fun hHeld => ?_)
                      focus ((try dsimp only); (first | exact ⟨cell_below (Below.refl wr.heap.size wr) c5, cell_below (Below.refl wr.heap.size wr) c6, cell_below (Below.refl wr.heap.size wr) c7, cell_below (Below.refl wr.heap.size wr) p8⟩ | exact ⟨cell_below ((Below.refl wr.heap.size wr).drew) c5, cell_below ((Below.refl wr.heap.size wr).drew) c6, cell_below ((Below.refl wr.heap.size wr).drew) c7, cell_below ((Below.refl wr.heap.size wr).drew) p8⟩ | exact ⟨cell_below HBa.out c5, cell_below HBa.out c6, cell_below HBa.out c7, cell_below HBa.out p8⟩ | exact ⟨cell_below HBa.out.drew c5, cell_below HBa.out.drew c6, cell_below HBa.out.drew c7, cell_below HBa.out.drew p8⟩ | exact ⟨cell_below HBz.out c5, cell_below HBz.out c6, cell_below HBz.out c7, cell_below HBz.out p8⟩ | exact ⟨cell_below HBz.out.drew c5, cell_below HBz.out.drew c6, cell_below HBz.out.drew c7, cell_below HBz.out.drew p8⟩ | exact ⟨cell_below HBc.out c5, cell_below HBc.out c6, cell_below HBc.out c7, cell_below HBc.out p8⟩ | exact ⟨cell_below HBc.out.drew c5, cell_below HBc.out.drew c6, cell_below HBc.out.drew c7, cell_below HBc.out.drew p8⟩ | exact ⟨cell_below HBq.out c5, cell_below HBq.out c6, cell_below HBq.out c7, cell_below HBq.out p8⟩); done)
                      clear hK K
                      (try simp only [Act.put, List.setIfInBounds_toArray, List.set_cons_zero, List.set_cons_succ])
                      refine wpAnyH_ready (rs := [19]) (by kernel_rfl) (by simp) ?_
                      refine AllReadyH.cons (o := ⟨_, _, _, _, _, _⟩) rfl (fun K hK => ?_) AllReadyH.nil
                      refine wp_store_row 35 (.tmp 17) (.tmp 125) rfl zb #[.string be.1.user, .string be.1.cl, .string ⟨#[116]⟩, .string be.1.ses, .string ⟨#[]⟩, .string ⟨#[110]⟩, .string ⟨#[]⟩, .int .i64 0, .slice A3 gs.length d3, .int .i64 3, .int .i64 2] rfl rfl 35 _ HZc.out (by kernel_rfl) rfl (by simp [Value.oneCell']) ?_
                      generalize hwq : World.setRow _ zb _ = wq
                      have HBq := Lib.hid (show Below wr.heap.size wr wq by rw [← hwq]; exact below_setRow HBc.out HZB.out _)
                      have HWq := Lib.hid (show wq.heap[zb]? = some (.cells #[.string be.1.user, .string be.1.cl, .string ⟨#[116]⟩, .string be.1.ses, .string ⟨#[]⟩, .string ⟨#[110]⟩, .string ⟨#[]⟩, .int .i64 0, .slice A3 gs.length d3, .int .i64 3, .int .i64 2] 35 (0, 0)) by rw [← hwq]; exact setRow_heap _ _ _ _ _ _ HZc.out)
                      clear hwq
                      (try go_wp2_with fail)
                      refine hK.out _ _ ?_ (fun hHeld => ?_)
                      focus ((try dsimp only); (first | exact ⟨cell_below (Below.refl wr.heap.size wr) c5, cell_below (Below.refl wr.heap.size wr) c6, cell_below (Below.refl wr.heap.size wr) c7, cell_below (Below.refl wr.heap.size wr) p8⟩ | exact ⟨cell_below ((Below.refl wr.heap.size wr).drew) c5, cell_below ((Below.refl wr.heap.size wr).drew) c6, cell_below ((Below.refl wr.heap.size wr).drew) c7, cell_below ((Below.refl wr.heap.size wr).drew) p8⟩ | exact ⟨cell_below HBa.out c5, cell_below HBa.out c6, cell_below HBa.out c7, cell_below HBa.out p8⟩ | exact ⟨cell_below HBa.out.drew c5, cell_below HBa.out.drew c6, cell_below HBa.out.drew c7, cell_below HBa.out.drew p8⟩ | exact ⟨cell_below HBz.out c5, cell_below HBz.out c6, cell_below HBz.out c7, cell_below HBz.out p8⟩ | exact ⟨cell_below HBz.out.drew c5, cell_below HBz.out.drew c6, cell_below HBz.out.drew c7, cell_below HBz.out.drew p8⟩ | exact ⟨cell_below HBc.out c5, cell_below HBc.out c6, cell_below HBc.out c7, cell_below HBc.out p8⟩ | exact ⟨cell_below HBc.out.drew c5, cell_below HBc.out.drew c6, cell_below HBc.out.drew c7, cell_below HBc.out.drew p8⟩ | exact ⟨cell_below HBq.out c5, cell_below HBq.out c6, cell_below HBq.out c7, cell_below HBq.out p8⟩); done)
                      clear hK K
                      (try simp only [Act.put, List.setIfInBounds_toArray, List.set_cons_zero, List.set_cons_succ])
                      refine wpAnyH_done (by kernel_rfl) ?_ _
                      go_wp2_with fail
                      have xc := cell_below (HBq.out.drew) c9
                      obtain ⟨xp0, xp1, xp2, xp3, xp4, xp5, xp6, xp7, xp8, xp9, xp10⟩ := cells11 (blk_below (HBq.out.drew) HPI.out)
                      obtain ⟨xz0, xz1, xz2, xz3, xz4, xz5, xz6, xz7, xz8, xz9, xz10⟩ := cells11 (blk_below ((Below.refl _ _).drew) HWq.out)
                      refine wp_region_held_drew (S := (fun w' => w'.cell? ⟨gb, q * 9 + 8, none⟩ = some (.slice be.2.1 be.1.sc.length be.2.2) ∧ w'.cell? ⟨p, 0, none⟩ = some (.string be.1.user) ∧ w'.cell? ⟨p, 1, none⟩ = some (.string be.1.cl) ∧ w'.cell? ⟨p, 2, none⟩ = some (.string ⟨#[116]⟩) ∧ w'.cell? ⟨p, 3, none⟩ = some (.string be.1.ses) ∧ w'.cell? ⟨p, 4, none⟩ = some (.string ⟨#[]⟩) ∧ w'.cell? ⟨p, 5, none⟩ = some (.string ⟨#[110]⟩) ∧ w'.cell? ⟨p, 6, none⟩ = some (.string ⟨#[]⟩) ∧ w'.cell? ⟨p, 7, none⟩ = some (.int .i64 0) ∧ w'.cell? ⟨p, 8, none⟩ = some (.slice A3 gs.length d3) ∧ w'.cell? ⟨p, 9, none⟩ = some (.int .i64 3) ∧ w'.cell? ⟨p, 10, none⟩ = some (.int .i64 2) ∧ w'.cell? ⟨zb, 0, none⟩ = some (.string be.1.user) ∧ w'.cell? ⟨zb, 1, none⟩ = some (.string be.1.cl) ∧ w'.cell? ⟨zb, 2, none⟩ = some (.string ⟨#[116]⟩) ∧ w'.cell? ⟨zb, 3, none⟩ = some (.string be.1.ses) ∧ w'.cell? ⟨zb, 4, none⟩ = some (.string ⟨#[]⟩) ∧ w'.cell? ⟨zb, 5, none⟩ = some (.string ⟨#[110]⟩) ∧ w'.cell? ⟨zb, 6, none⟩ = some (.string ⟨#[]⟩) ∧ w'.cell? ⟨zb, 7, none⟩ = some (.int .i64 0) ∧ w'.cell? ⟨zb, 8, none⟩ = some (.slice A3 gs.length d3) ∧ w'.cell? ⟨zb, 9, none⟩ = some (.int .i64 3) ∧ w'.cell? ⟨zb, 10, none⟩ = some (.int .i64 2))) (by kernel_rfl) ?_ (fun hHeld => ?_)
                      focus ((try dsimp only); (first | exact ⟨xc, xp0, xp1, xp2, xp3, xp4, xp5, xp6, xp7, xp8, xp9, xp10, xz0, xz1, xz2, xz3, xz4, xz5, xz6, xz7, xz8, xz9, xz10⟩ | exact ⟨vc, vp0, vp1, vp2, vp3, vp4, vp5, vp6, vp7, vp8, vp9, vp10, vz0, vz1, vz2, vz3, vz4, vz5, vz6, vz7, vz8, vz9, vz10⟩); done)
                      refine wpAnyH_take (i := 0) (oi := ⟨_, _, _, _, _, _⟩) (v := ?_) rfl (by kernel_rfl) (by kernel_rfl) (by kernel_rfl) (fun _ _ _ h => h) (Or.inl ⟨by rfl, ?_⟩) (by assumption) ?_; rotate_left; (focus (intro w hSw; (try dsimp only at hSw); go_simp; (try with_reducible rfl); done)); simp only [Act.put, List.setIfInBounds_toArray, List.set_cons_zero, List.set_cons_succ]
                      refine wpAnyH_take (i := 1) (oi := ⟨_, _, _, _, _, _⟩) (v := ?_) rfl (by kernel_rfl) (by kernel_rfl) (by kernel_rfl) (fun _ _ _ h => h) (Or.inl ⟨by rfl, ?_⟩) (by assumption) ?_; rotate_left; (focus (intro w hSw; (try dsimp only at hSw); go_simp; (try with_reducible rfl); done)); simp only [Act.put, List.setIfInBounds_toArray, List.set_cons_zero, List.set_cons_succ]
                      refine wpAnyH_take (i := 2) (oi := ⟨_, _, _, _, _, _⟩) (v := ?_) rfl (by kernel_rfl) (by kernel_rfl) (by kernel_rfl) (fun _ _ _ h => h) (Or.inl ⟨by rfl, ?_⟩) (by assumption) ?_; rotate_left; (focus (intro w hSw; (try dsimp only at hSw); go_simp; (try with_reducible rfl); done)); simp only [Act.put, List.setIfInBounds_toArray, List.set_cons_zero, List.set_cons_succ]
                      refine wpAnyH_take (i := 3) (oi := ⟨_, _, _, _, _, _⟩) (v := ?_) rfl (by kernel_rfl) (by kernel_rfl) (by kernel_rfl) (fun _ _ _ h => h) (Or.inl ⟨by rfl, ?_⟩) (by assumption) ?_; rotate_left; (focus (intro w hSw; (try dsimp only at hSw); go_simp; (try with_reducible rfl); done)); simp only [Act.put, List.setIfInBounds_toArray, List.set_cons_zero, List.set_cons_succ]
                      refine wpAnyH_take (i := 4) (oi := ⟨_, _, _, _, _, _⟩) (v := ?_) rfl (by kernel_rfl) (by kernel_rfl) (by kernel_rfl) (fun _ _ _ h => h) (Or.inl ⟨by rfl, ?_⟩) (by assumption) ?_; rotate_left; (focus (intro w hSw; (try dsimp only at hSw); go_simp; (try with_reducible rfl); done)); simp only [Act.put, List.setIfInBounds_toArray, List.set_cons_zero, List.set_cons_succ]
                      refine wpAnyH_take (i := 5) (oi := ⟨_, _, _, _, _, _⟩) (v := ?_) rfl (by kernel_rfl) (by kernel_rfl) (by kernel_rfl) (fun _ _ _ h => h) (Or.inl ⟨by rfl, ?_⟩) (by assumption) ?_; rotate_left; (focus (intro w hSw; (try dsimp only at hSw); go_simp; (try with_reducible rfl); done)); simp only [Act.put, List.setIfInBounds_toArray, List.set_cons_zero, List.set_cons_succ]
                      refine wpAnyH_take (i := 6) (oi := ⟨_, _, _, _, _, _⟩) (v := ?_) rfl (by kernel_rfl) (by kernel_rfl) (by kernel_rfl) (fun _ _ _ h => h) (Or.inl ⟨by rfl, ?_⟩) (by assumption) ?_; rotate_left; (focus (intro w hSw; (try dsimp only at hSw); go_simp; (try with_reducible rfl); done)); simp only [Act.put, List.setIfInBounds_toArray, List.set_cons_zero, List.set_cons_succ]
                      refine wpAnyH_ready (rs := [7]) (by kernel_rfl) (by simp) ?_
                      refine AllReadyH.cons (o := ⟨_, _, _, _, _, _⟩) rfl (fun K hK => ?_) AllReadyH.nil
                      go_simp
                      go_wp2_with fail
                      refine (within_is A3 be.2.1 gs.length d3 be.1.sc.length be.2.2 gs be.1.sc _ ((HSI.out.below HBq.out).below ((Below.refl _ _).drew)) ((HSE.out.below (HBI.out.trans (HBq.out.mono HBI.out.size))).below ((Below.refl _ _).drew)) HGS.out HES.out (by have := HGN.out; omega) (by have := HEN.out; omega) ((HM.out.below (HBI.out.trans (HBq.out.mono HBI.out.size))).below ((Below.refl _ _).drew)) true HWI.out).mono ?_
                      rintro e w4 ⟨rfl, rfl⟩
                      (try go_wp2_with fail)
                      refine hK.out _ _ ?_ (fun hHeld => ?_)
                      focus ((try dsimp only); (first | exact ⟨xc, xp0, xp1, xp2, xp3, xp4, xp5, xp6, xp7, xp8, xp9, xp10, xz0, xz1, xz2, xz3, xz4, xz5, xz6, xz7, xz8, xz9, xz10⟩ | exact ⟨vc, vp0, vp1, vp2, vp3, vp4, vp5, vp6, vp7, vp8, vp9, vp10, vz0, vz1, vz2, vz3, vz4, vz5, vz6, vz7, vz8, vz9, vz10⟩); done)
                      clear hK K
                      (try simp only [Act.put, List.setIfInBounds_toArray, List.set_cons_zero, List.set_cons_succ])
                      refine wpAnyH_take (i := 8) (oi := ⟨_, _, _, _, _, _⟩) (v := ?_) rfl (by kernel_rfl) (by kernel_rfl) (by kernel_rfl) (fun _ _ _ h => h) (Or.inl ⟨by rfl, ?_⟩) (by assumption) ?_; rotate_left; (focus (intro w hSw; (try dsimp only at hSw); go_simp; (try with_reducible rfl); done)); simp only [Act.put, List.setIfInBounds_toArray, List.set_cons_zero, List.set_cons_succ]
                      refine wpAnyH_take (i := 9) (oi := ⟨_, _, _, _, _, _⟩) (v := ?_) rfl (by kernel_rfl) (by kernel_rfl) (by kernel_rfl) (fun _ _ _ h => h) (Or.inl ⟨by rfl, ?_⟩) (by assumption) ?_; rotate_left; (focus (intro w hSw; (try dsimp only at hSw); go_simp; (try with_reducible rfl); done)); simp only [Act.put, List.setIfInBounds_toArray, List.set_cons_zero, List.set_cons_succ]
                      refine wpAnyH_take (i := 10) (oi := ⟨_, _, _, _, _, _⟩) (v := ?_) rfl (by kernel_rfl) (by kernel_rfl) (by kernel_rfl) (fun _ _ _ h => h) (Or.inl ⟨by rfl, ?_⟩) (by assumption) ?_; rotate_left; (focus (intro w hSw; (try dsimp only at hSw); go_simp; (try with_reducible rfl); done)); simp only [Act.put, List.setIfInBounds_toArray, List.set_cons_zero, List.set_cons_succ]
                      refine wpAnyH_ready (rs := [11]) (by kernel_rfl) (by simp) ?_
                      refine AllReadyH.cons (o := ⟨_, _, _, _, _, _⟩) rfl (fun K hK => ?_) AllReadyH.nil
                      go_simp
                      go_wp2_with fail
                      refine (same_yes be.1.user be.1.cl ⟨#[116]⟩ be.1.ses ⟨#[]⟩ ⟨#[110]⟩ ⟨#[]⟩ 0 3 2 A3 A3 gs.length d3 d3 gs _ ((HSI.out.below HBq.out).below ((Below.refl _ _).drew)) ((HSI.out.below HBq.out).below ((Below.refl _ _).drew)) (by have := HGN.out; omega)).mono ?_
                      rintro e w5 ⟨rfl, hb5⟩
                      have HB5 := Lib.hid (HBq.out.drew.trans (hb5.mono HBq.out.size))
                      have vc := cell_below HB5.out c9
                      obtain ⟨vp0, vp1, vp2, vp3, vp4, vp5, vp6, vp7, vp8, vp9, vp10⟩ := cells11 (blk_below HB5.out HPI.out)
                      obtain ⟨vz0, vz1, vz2, vz3, vz4, vz5, vz6, vz7, vz8, vz9, vz10⟩ := cells11 (blk_below hb5 (blk_below ((Below.refl _ _).drew) HWq.out))
                      clear hb5
                      (try go_wp2_with fail)
                      refine hK.out _ _ ?_ (fun hHeld => ?_)
                      focus ((try dsimp only); (first | exact ⟨xc, xp0, xp1, xp2, xp3, xp4, xp5, xp6, xp7, xp8, xp9, xp10, xz0, xz1, xz2, xz3, xz4, xz5, xz6, xz7, xz8, xz9, xz10⟩ | exact ⟨vc, vp0, vp1, vp2, vp3, vp4, vp5, vp6, vp7, vp8, vp9, vp10, vz0, vz1, vz2, vz3, vz4, vz5, vz6, vz7, vz8, vz9, vz10⟩); done)
                      clear hK K
                      (try simp only [Act.put, List.setIfInBounds_toArray, List.set_cons_zero, List.set_cons_succ])
                      refine wpAnyH_take (i := 12) (oi := ⟨_, _, _, _, _, _⟩) (v := ?_) rfl (by kernel_rfl) (by kernel_rfl) (by kernel_rfl) (fun _ _ _ h => h) (Or.inl ⟨by rfl, ?_⟩) (by assumption) ?_; rotate_left; (focus (intro w hSw; (try dsimp only at hSw); go_simp; (try with_reducible rfl); done)); simp only [Act.put, List.setIfInBounds_toArray, List.set_cons_zero, List.set_cons_succ]
                      refine wpAnyH_take (i := 13) (oi := ⟨_, _, _, _, _, _⟩) (v := ?_) rfl (by kernel_rfl) (by kernel_rfl) (by kernel_rfl) (fun _ _ _ h => h) (Or.inl ⟨by rfl, ?_⟩) (by assumption) ?_; rotate_left; (focus (intro w hSw; (try dsimp only at hSw); go_simp; (try with_reducible rfl); done)); simp only [Act.put, List.setIfInBounds_toArray, List.set_cons_zero, List.set_cons_succ]
                      refine wpAnyH_done (by kernel_rfl) ?_ _
                      go_wp2
                      go_roundw
                      case rel => exact ⟨q + 1, by go_num, by omega, (show Value.bool true = _ by rw [decide_eq_true (by omega : q < q + 1)]), HBW.out.trans (HB5.out.mono HBW.out.size)⟩
                      case measure => simp [intOf]; omega
                    · go_simp
                      generalize hwz : World.alloc _ (.cells #[.string ⟨#[]⟩, .string ⟨#[]⟩, .string ⟨#[]⟩, .string ⟨#[]⟩, .string ⟨#[]⟩, .string ⟨#[]⟩, .string ⟨#[]⟩, .int .i64 0, .slice none 0 0, .int .i64 0, .int .i64 0] 35) = wz
                      first | (have HBc := Lib.hid (show Below wr.heap.size wr wz by rw [← hwz]; first | exact HBa.out.alloc HBa.out.size _ | exact HBa.out.drew.alloc HBa.out.size _); obtain ⟨zb, hzb⟩ : ∃ zb, zb = w1.heap.size := ⟨_, rfl⟩; have HZc := Lib.hid (show wz.heap[zb]? = some (.cells #[.string ⟨#[]⟩, .string ⟨#[]⟩, .string ⟨#[]⟩, .string ⟨#[]⟩, .string ⟨#[]⟩, .string ⟨#[]⟩, .string ⟨#[]⟩, .int .i64 0, .slice none 0 0, .int .i64 0, .int .i64 0] 35 (0, 0)) by rw [← hwz, hzb]; first | exact heap_alloc_new w1 _ | exact heap_alloc_new w1.drew _); have HZB := Lib.hid (show wr.heap.size ≤ zb by rw [hzb]; exact HBa.out.size); rw [← hzb]) | (have HBz := Lib.hid (show Below wr.heap.size wr wz by rw [← hwz]; first | exact (Below.refl wr.heap.size wr).alloc (Nat.le_refl _) _ | exact ((Below.refl wr.heap.size wr).drew).alloc (Nat.le_refl _) _); obtain ⟨zb, hzb⟩ : ∃ zb, zb = wr.heap.size := ⟨_, rfl⟩; have HZz := Lib.hid (show wz.heap[zb]? = some (.cells #[.string ⟨#[]⟩, .string ⟨#[]⟩, .string ⟨#[]⟩, .string ⟨#[]⟩, .string ⟨#[]⟩, .string ⟨#[]⟩, .string ⟨#[]⟩, .int .i64 0, .slice none 0 0, .int .i64 0, .int .i64 0] 35 (0, 0)) by rw [← hwz, hzb]; first | exact heap_alloc_new wr _ | exact heap_alloc_new wr.drew _); have HZB := Lib.hid (show wr.heap.size ≤ zb by rw [hzb]; exact Nat.le_refl _); rw [← hzb])
                      clear hwz hzb
                      (try go_wp2_with fail)
                      refine hK.out _ _ ?_ (fun hHeld => ?_)
                      focus ((try dsimp only); (first | exact ⟨cell_below (Below.refl wr.heap.size wr) c5, cell_below (Below.refl wr.heap.size wr) c6, cell_below (Below.refl wr.heap.size wr) c7, cell_below (Below.refl wr.heap.size wr) p8⟩ | exact ⟨cell_below ((Below.refl wr.heap.size wr).drew) c5, cell_below ((Below.refl wr.heap.size wr).drew) c6, cell_below ((Below.refl wr.heap.size wr).drew) c7, cell_below ((Below.refl wr.heap.size wr).drew) p8⟩ | exact ⟨cell_below HBa.out c5, cell_below HBa.out c6, cell_below HBa.out c7, cell_below HBa.out p8⟩ | exact ⟨cell_below HBa.out.drew c5, cell_below HBa.out.drew c6, cell_below HBa.out.drew c7, cell_below HBa.out.drew p8⟩ | exact ⟨cell_below HBz.out c5, cell_below HBz.out c6, cell_below HBz.out c7, cell_below HBz.out p8⟩ | exact ⟨cell_below HBz.out.drew c5, cell_below HBz.out.drew c6, cell_below HBz.out.drew c7, cell_below HBz.out.drew p8⟩ | exact ⟨cell_below HBc.out c5, cell_below HBc.out c6, cell_below HBc.out c7, cell_below HBc.out p8⟩ | exact ⟨cell_below HBc.out.drew c5, cell_below HBc.out.drew c6, cell_below HBc.out.drew c7, cell_below HBc.out.drew p8⟩ | exact ⟨cell_below HBq.out c5, cell_below HBq.out c6, cell_below HBq.out c7, cell_below HBq.out p8⟩); done)
                      clear hK K
                      (try simp only [Act.put, List.setIfInBounds_toArray, List.set_cons_zero, List.set_cons_succ])
                      refine wpAnyH_ready (rs := [17]) (by kernel_rfl) (by simp) ?_
                      refine AllReadyH.cons (o := ⟨_, _, _, _, _, _⟩) rfl (fun K hK => ?_) AllReadyH.nil
                      go_simp
                      go_wp2_with fail
                      refine (grant_any be.1.user be.1.cl be.1.ses A3 gs.length d3 _).mono ?_
                      rintro e w1 ⟨rfl, hb1⟩
                      first | (have HBc := Lib.hid (show Below wr.heap.size wr w1 by first | exact HBz.out.trans (hb1.mono HBz.out.size) | exact HBz.out.drew.trans (hb1.mono HBz.out.size)); have HZc := Lib.hid (show w1.heap[zb]? = _ from (hb1.block zb (blk_lt HZz.out)).trans HZz.out)) | (have HBa := Lib.hid (show Below wr.heap.size wr w1 by first | exact hb1 | exact ((Below.refl wr.heap.size wr).drew).trans (hb1.mono (Nat.le_refl _))))
                      clear hb1
                      (try go_wp2_with fail)
                      refine hK.out _ _ ?_ (fun hHeld => ?_)
                      focus ((try dsimp only); (first | exact ⟨cell_below (Below.refl wr.heap.size wr) c5, cell_below (Below.refl wr.heap.size wr) c6, cell_below (Below.refl wr.heap.size wr) c7, cell_below (Below.refl wr.heap.size wr) p8⟩ | exact ⟨cell_below ((Below.refl wr.heap.size wr).drew) c5, cell_below ((Below.refl wr.heap.size wr).drew) c6, cell_below ((Below.refl wr.heap.size wr).drew) c7, cell_below ((Below.refl wr.heap.size wr).drew) p8⟩ | exact ⟨cell_below HBa.out c5, cell_below HBa.out c6, cell_below HBa.out c7, cell_below HBa.out p8⟩ | exact ⟨cell_below HBa.out.drew c5, cell_below HBa.out.drew c6, cell_below HBa.out.drew c7, cell_below HBa.out.drew p8⟩ | exact ⟨cell_below HBz.out c5, cell_below HBz.out c6, cell_below HBz.out c7, cell_below HBz.out p8⟩ | exact ⟨cell_below HBz.out.drew c5, cell_below HBz.out.drew c6, cell_below HBz.out.drew c7, cell_below HBz.out.drew p8⟩ | exact ⟨cell_below HBc.out c5, cell_below HBc.out c6, cell_below HBc.out c7, cell_below HBc.out p8⟩ | exact ⟨cell_below HBc.out.drew c5, cell_below HBc.out.drew c6, cell_below HBc.out.drew c7, cell_below HBc.out.drew p8⟩ | exact ⟨cell_below HBq.out c5, cell_below HBq.out c6, cell_below HBq.out c7, cell_below HBq.out p8⟩); done)
                      clear hK K
                      (try simp only [Act.put, List.setIfInBounds_toArray, List.set_cons_zero, List.set_cons_succ])
                      refine wpAnyH_ready (rs := [19]) (by kernel_rfl) (by simp) ?_
                      refine AllReadyH.cons (o := ⟨_, _, _, _, _, _⟩) rfl (fun K hK => ?_) AllReadyH.nil
                      refine wp_store_row 35 (.tmp 17) (.tmp 125) rfl zb #[.string be.1.user, .string be.1.cl, .string ⟨#[116]⟩, .string be.1.ses, .string ⟨#[]⟩, .string ⟨#[110]⟩, .string ⟨#[]⟩, .int .i64 0, .slice A3 gs.length d3, .int .i64 3, .int .i64 2] rfl rfl 35 _ HZc.out (by kernel_rfl) rfl (by simp [Value.oneCell']) ?_
                      generalize hwq : World.setRow _ zb _ = wq
                      have HBq := Lib.hid (show Below wr.heap.size wr wq by rw [← hwq]; exact below_setRow HBc.out HZB.out _)
                      have HWq := Lib.hid (show wq.heap[zb]? = some (.cells #[.string be.1.user, .string be.1.cl, .string ⟨#[116]⟩, .string be.1.ses, .string ⟨#[]⟩, .string ⟨#[110]⟩, .string ⟨#[]⟩, .int .i64 0, .slice A3 gs.length d3, .int .i64 3, .int .i64 2] 35 (0, 0)) by rw [← hwq]; exact setRow_heap _ _ _ _ _ _ HZc.out)
                      clear hwq
                      (try go_wp2_with fail)
                      refine hK.out _ _ ?_ (fun hHeld => ?_)
                      focus ((try dsimp only); (first | exact ⟨cell_below (Below.refl wr.heap.size wr) c5, cell_below (Below.refl wr.heap.size wr) c6, cell_below (Below.refl wr.heap.size wr) c7, cell_below (Below.refl wr.heap.size wr) p8⟩ | exact ⟨cell_below ((Below.refl wr.heap.size wr).drew) c5, cell_below ((Below.refl wr.heap.size wr).drew) c6, cell_below ((Below.refl wr.heap.size wr).drew) c7, cell_below ((Below.refl wr.heap.size wr).drew) p8⟩ | exact ⟨cell_below HBa.out c5, cell_below HBa.out c6, cell_below HBa.out c7, cell_below HBa.out p8⟩ | exact ⟨cell_below HBa.out.drew c5, cell_below HBa.out.drew c6, cell_below HBa.out.drew c7, cell_below HBa.out.drew p8⟩ | exact ⟨cell_below HBz.out c5, cell_below HBz.out c6, cell_below HBz.out c7, cell_below HBz.out p8⟩ | exact ⟨cell_below HBz.out.drew c5, cell_below HBz.out.drew c6, cell_below HBz.out.drew c7, cell_below HBz.out.drew p8⟩ | exact ⟨cell_below HBc.out c5, cell_below HBc.out c6, cell_below HBc.out c7, cell_below HBc.out p8⟩ | exact ⟨cell_below HBc.out.drew c5, cell_below HBc.out.drew c6, cell_below HBc.out.drew c7, cell_below HBc.out.drew p8⟩ | exact ⟨cell_below HBq.out c5, cell_below HBq.out c6, cell_below HBq.out c7, cell_below HBq.out p8⟩); done)
                      clear hK K
                      (try simp only [Act.put, List.setIfInBounds_toArray, List.set_cons_zero, List.set_cons_succ])
                      refine wpAnyH_done (by kernel_rfl) ?_ _
                      go_wp2_with fail
                      have xc := cell_below (HBq.out.drew) c9
                      obtain ⟨xp0, xp1, xp2, xp3, xp4, xp5, xp6, xp7, xp8, xp9, xp10⟩ := cells11 (blk_below (HBq.out.drew) HPI.out)
                      obtain ⟨xz0, xz1, xz2, xz3, xz4, xz5, xz6, xz7, xz8, xz9, xz10⟩ := cells11 (blk_below ((Below.refl _ _).drew) HWq.out)
                      refine wp_region_held_drew (S := (fun w' => w'.cell? ⟨gb, q * 9 + 8, none⟩ = some (.slice be.2.1 be.1.sc.length be.2.2) ∧ w'.cell? ⟨p, 0, none⟩ = some (.string be.1.user) ∧ w'.cell? ⟨p, 1, none⟩ = some (.string be.1.cl) ∧ w'.cell? ⟨p, 2, none⟩ = some (.string ⟨#[116]⟩) ∧ w'.cell? ⟨p, 3, none⟩ = some (.string be.1.ses) ∧ w'.cell? ⟨p, 4, none⟩ = some (.string ⟨#[]⟩) ∧ w'.cell? ⟨p, 5, none⟩ = some (.string ⟨#[110]⟩) ∧ w'.cell? ⟨p, 6, none⟩ = some (.string ⟨#[]⟩) ∧ w'.cell? ⟨p, 7, none⟩ = some (.int .i64 0) ∧ w'.cell? ⟨p, 8, none⟩ = some (.slice A3 gs.length d3) ∧ w'.cell? ⟨p, 9, none⟩ = some (.int .i64 3) ∧ w'.cell? ⟨p, 10, none⟩ = some (.int .i64 2) ∧ w'.cell? ⟨zb, 0, none⟩ = some (.string be.1.user) ∧ w'.cell? ⟨zb, 1, none⟩ = some (.string be.1.cl) ∧ w'.cell? ⟨zb, 2, none⟩ = some (.string ⟨#[116]⟩) ∧ w'.cell? ⟨zb, 3, none⟩ = some (.string be.1.ses) ∧ w'.cell? ⟨zb, 4, none⟩ = some (.string ⟨#[]⟩) ∧ w'.cell? ⟨zb, 5, none⟩ = some (.string ⟨#[110]⟩) ∧ w'.cell? ⟨zb, 6, none⟩ = some (.string ⟨#[]⟩) ∧ w'.cell? ⟨zb, 7, none⟩ = some (.int .i64 0) ∧ w'.cell? ⟨zb, 8, none⟩ = some (.slice A3 gs.length d3) ∧ w'.cell? ⟨zb, 9, none⟩ = some (.int .i64 3) ∧ w'.cell? ⟨zb, 10, none⟩ = some (.int .i64 2))) (by kernel_rfl) ?_ (fun hHeld => ?_)
                      focus ((try dsimp only); (first | exact ⟨xc, xp0, xp1, xp2, xp3, xp4, xp5, xp6, xp7, xp8, xp9, xp10, xz0, xz1, xz2, xz3, xz4, xz5, xz6, xz7, xz8, xz9, xz10⟩ | exact ⟨vc, vp0, vp1, vp2, vp3, vp4, vp5, vp6, vp7, vp8, vp9, vp10, vz0, vz1, vz2, vz3, vz4, vz5, vz6, vz7, vz8, vz9, vz10⟩); done)
                      refine wpAnyH_take (i := 0) (oi := ⟨_, _, _, _, _, _⟩) (v := ?_) rfl (by kernel_rfl) (by kernel_rfl) (by kernel_rfl) (fun _ _ _ h => h) (Or.inl ⟨by rfl, ?_⟩) (by assumption) ?_; rotate_left; (focus (intro w hSw; (try dsimp only at hSw); go_simp; (try with_reducible rfl); done)); simp only [Act.put, List.setIfInBounds_toArray, List.set_cons_zero, List.set_cons_succ]
                      refine wpAnyH_take (i := 1) (oi := ⟨_, _, _, _, _, _⟩) (v := ?_) rfl (by kernel_rfl) (by kernel_rfl) (by kernel_rfl) (fun _ _ _ h => h) (Or.inl ⟨by rfl, ?_⟩) (by assumption) ?_; rotate_left; (focus (intro w hSw; (try dsimp only at hSw); go_simp; (try with_reducible rfl); done)); simp only [Act.put, List.setIfInBounds_toArray, List.set_cons_zero, List.set_cons_succ]
                      refine wpAnyH_take (i := 2) (oi := ⟨_, _, _, _, _, _⟩) (v := ?_) rfl (by kernel_rfl) (by kernel_rfl) (by kernel_rfl) (fun _ _ _ h => h) (Or.inl ⟨by rfl, ?_⟩) (by assumption) ?_; rotate_left; (focus (intro w hSw; (try dsimp only at hSw); go_simp; (try with_reducible rfl); done)); simp only [Act.put, List.setIfInBounds_toArray, List.set_cons_zero, List.set_cons_succ]
                      refine wpAnyH_take (i := 3) (oi := ⟨_, _, _, _, _, _⟩) (v := ?_) rfl (by kernel_rfl) (by kernel_rfl) (by kernel_rfl) (fun _ _ _ h => h) (Or.inl ⟨by rfl, ?_⟩) (by assumption) ?_; rotate_left; (focus (intro w hSw; (try dsimp only at hSw); go_simp; (try with_reducible rfl); done)); simp only [Act.put, List.setIfInBounds_toArray, List.set_cons_zero, List.set_cons_succ]
                      refine wpAnyH_take (i := 4) (oi := ⟨_, _, _, _, _, _⟩) (v := ?_) rfl (by kernel_rfl) (by kernel_rfl) (by kernel_rfl) (fun _ _ _ h => h) (Or.inl ⟨by rfl, ?_⟩) (by assumption) ?_; rotate_left; (focus (intro w hSw; (try dsimp only at hSw); go_simp; (try with_reducible rfl); done)); simp only [Act.put, List.setIfInBounds_toArray, List.set_cons_zero, List.set_cons_succ]
                      refine wpAnyH_take (i := 5) (oi := ⟨_, _, _, _, _, _⟩) (v := ?_) rfl (by kernel_rfl) (by kernel_rfl) (by kernel_rfl) (fun _ _ _ h => h) (Or.inl ⟨by rfl, ?_⟩) (by assumption) ?_; rotate_left; (focus (intro w hSw; (try dsimp only at hSw); go_simp; (try with_reducible rfl); done)); simp only [Act.put, List.setIfInBounds_toArray, List.set_cons_zero, List.set_cons_succ]
                      refine wpAnyH_take (i := 6) (oi := ⟨_, _, _, _, _, _⟩) (v := ?_) rfl (by kernel_rfl) (by kernel_rfl) (by kernel_rfl) (fun _ _ _ h => h) (Or.inl ⟨by rfl, ?_⟩) (by assumption) ?_; rotate_left; (focus (intro w hSw; (try dsimp only at hSw); go_simp; (try with_reducible rfl); done)); simp only [Act.put, List.setIfInBounds_toArray, List.set_cons_zero, List.set_cons_succ]
                      refine wpAnyH_ready (rs := [7]) (by kernel_rfl) (by simp) ?_
                      refine AllReadyH.cons (o := ⟨_, _, _, _, _, _⟩) rfl (fun K hK => ?_) AllReadyH.nil
                      go_simp
                      go_wp2_with fail
                      refine (within_is A3 be.2.1 gs.length d3 be.1.sc.length be.2.2 gs be.1.sc _ ((HSI.out.below HBq.out).below ((Below.refl _ _).drew)) ((HSE.out.below (HBI.out.trans (HBq.out.mono HBI.out.size))).below ((Below.refl _ _).drew)) HGS.out HES.out (by have := HGN.out; omega) (by have := HEN.out; omega) ((HM.out.below (HBI.out.trans (HBq.out.mono HBI.out.size))).below ((Below.refl _ _).drew)) true HWI.out).mono ?_
                      rintro e w4 ⟨rfl, rfl⟩
                      (try go_wp2_with fail)
                      refine hK.out _ _ ?_ (fun hHeld => ?_)
                      focus ((try dsimp only); (first | exact ⟨xc, xp0, xp1, xp2, xp3, xp4, xp5, xp6, xp7, xp8, xp9, xp10, xz0, xz1, xz2, xz3, xz4, xz5, xz6, xz7, xz8, xz9, xz10⟩ | exact ⟨vc, vp0, vp1, vp2, vp3, vp4, vp5, vp6, vp7, vp8, vp9, vp10, vz0, vz1, vz2, vz3, vz4, vz5, vz6, vz7, vz8, vz9, vz10⟩); done)
                      clear hK K
                      (try simp only [Act.put, List.setIfInBounds_toArray, List.set_cons_zero, List.set_cons_succ])
                      refine wpAnyH_take (i := 8) (oi := ⟨_, _, _, _, _, _⟩) (v := ?_) rfl (by kernel_rfl) (by kernel_rfl) (by kernel_rfl) (fun _ _ _ h => h) (Or.inl ⟨by rfl, ?_⟩) (by assumption) ?_; rotate_left; (focus (intro w hSw; (try dsimp only at hSw); go_simp; (try with_reducible rfl); done)); simp only [Act.put, List.setIfInBounds_toArray, List.set_cons_zero, List.set_cons_succ]
                      refine wpAnyH_take (i := 9) (oi := ⟨_, _, _, _, _, _⟩) (v := ?_) rfl (by kernel_rfl) (by kernel_rfl) (by kernel_rfl) (fun _ _ _ h => h) (Or.inl ⟨by rfl, ?_⟩) (by assumption) ?_; rotate_left; (focus (intro w hSw; (try dsimp only at hSw); go_simp; (try with_reducible rfl); done)); simp only [Act.put, List.setIfInBounds_toArray, List.set_cons_zero, List.set_cons_succ]
                      refine wpAnyH_take (i := 10) (oi := ⟨_, _, _, _, _, _⟩) (v := ?_) rfl (by kernel_rfl) (by kernel_rfl) (by kernel_rfl) (fun _ _ _ h => h) (Or.inl ⟨by rfl, ?_⟩) (by assumption) ?_; rotate_left; (focus (intro w hSw; (try dsimp only at hSw); go_simp; (try with_reducible rfl); done)); simp only [Act.put, List.setIfInBounds_toArray, List.set_cons_zero, List.set_cons_succ]
                      refine wpAnyH_ready (rs := [11]) (by kernel_rfl) (by simp) ?_
                      refine AllReadyH.cons (o := ⟨_, _, _, _, _, _⟩) rfl (fun K hK => ?_) AllReadyH.nil
                      go_simp
                      go_wp2_with fail
                      refine (same_yes be.1.user be.1.cl ⟨#[116]⟩ be.1.ses ⟨#[]⟩ ⟨#[110]⟩ ⟨#[]⟩ 0 3 2 A3 A3 gs.length d3 d3 gs _ ((HSI.out.below HBq.out).below ((Below.refl _ _).drew)) ((HSI.out.below HBq.out).below ((Below.refl _ _).drew)) (by have := HGN.out; omega)).mono ?_
                      rintro e w5 ⟨rfl, hb5⟩
                      have HB5 := Lib.hid (HBq.out.drew.trans (hb5.mono HBq.out.size))
                      have vc := cell_below HB5.out c9
                      obtain ⟨vp0, vp1, vp2, vp3, vp4, vp5, vp6, vp7, vp8, vp9, vp10⟩ := cells11 (blk_below HB5.out HPI.out)
                      obtain ⟨vz0, vz1, vz2, vz3, vz4, vz5, vz6, vz7, vz8, vz9, vz10⟩ := cells11 (blk_below hb5 (blk_below ((Below.refl _ _).drew) HWq.out))
                      clear hb5
                      (try go_wp2_with fail)
                      refine hK.out _ _ ?_ (fun hHeld => ?_)
                      focus ((try dsimp only); (first | exact ⟨xc, xp0, xp1, xp2, xp3, xp4, xp5, xp6, xp7, xp8, xp9, xp10, xz0, xz1, xz2, xz3, xz4, xz5, xz6, xz7, xz8, xz9, xz10⟩ | exact ⟨vc, vp0, vp1, vp2, vp3, vp4, vp5, vp6, vp7, vp8, vp9, vp10, vz0, vz1, vz2, vz3, vz4, vz5, vz6, vz7, vz8, vz9, vz10⟩); done)
                      clear hK K
                      (try simp only [Act.put, List.setIfInBounds_toArray, List.set_cons_zero, List.set_cons_succ])
                      refine wpAnyH_take (i := 12) (oi := ⟨_, _, _, _, _, _⟩) (v := ?_) rfl (by kernel_rfl) (by kernel_rfl) (by kernel_rfl) (fun _ _ _ h => h) (Or.inl ⟨by rfl, ?_⟩) (by assumption) ?_; rotate_left; (focus (intro w hSw; (try dsimp only at hSw); go_simp; (try with_reducible rfl); done)); simp only [Act.put, List.setIfInBounds_toArray, List.set_cons_zero, List.set_cons_succ]
                      refine wpAnyH_take (i := 13) (oi := ⟨_, _, _, _, _, _⟩) (v := ?_) rfl (by kernel_rfl) (by kernel_rfl) (by kernel_rfl) (fun _ _ _ h => h) (Or.inl ⟨by rfl, ?_⟩) (by assumption) ?_; rotate_left; (focus (intro w hSw; (try dsimp only at hSw); go_simp; (try with_reducible rfl); done)); simp only [Act.put, List.setIfInBounds_toArray, List.set_cons_zero, List.set_cons_succ]
                      refine wpAnyH_done (by kernel_rfl) ?_ _
                      go_wp2
                      go_roundw
                      case rel => exact ⟨q + 1, by go_num, by omega, (show Value.bool true = _ by rw [decide_eq_true (by omega : q < q + 1)]), HBW.out.trans (HB5.out.mono HBW.out.size)⟩
                      case measure => simp [intOf]; omega
                  · have HNE2 := Lib.hid (HNE.out q eq heq hqk)
                    have hbt : (eq.1.id.toList == be.1.id.toList) = false := by rw [beq_bs]; simpa using HNE2.out
                    have HFS := Lib.hid (found_succ hqk)
                    clear heq hqk
                    go_wp2_with fail
                    go_roundw
                    case rel => exact ⟨q + 1, by go_num, by omega, by rw [HFS.out], HBW.out⟩
                    case measure => simp [intOf]; omega
                · have hdt : decide (kk < q) = true := decide_eq_true (by omega)
                  have HB6 := Lib.hid (HB4.out.trans (HBW.out.mono HB4.out.size))
                  have HR6 := Lib.hid (HR4.out.below HBW.out)
                  have HO6 := Lib.hid (HO4.out.below HBW.out)
                  go_wp2_with fail
                  go_roundw
                  case rel => exact ⟨k + 1, _, bs, by go_num, by omega, HR6.out, HO6.out, HEL.out, HBG.out, by omega, HB6.out⟩
                  case measure => simp [intOf]; omega
            · have HBG := Lib.hid (show Begun (bs.map Prod.fst) st' by
                have := HBE.out.back (back_do (st := st) (x := xh) (by rw [HDO.out]; simp only; omega))
                rw [HDO.out] at this
                exact this)
              have hcase : (¬ xh.call = 0 ∧ ¬ xh.call = 1) ∨ (xh.call = 0 ∧ ¬ m = 0 ∧ ¬ xh.call = 1) ∨ (xh.call = 1 ∧ ¬ m = 0 ∧ ¬ xh.call = 0) := by omega
              clear hS hN
              rcases hcase with ⟨q1, q2⟩ | ⟨q1, q2, q3⟩ | ⟨q1, q2, q3⟩
              · have b1 : (xh.call == 0) = false := beq_eq_false_iff_ne.2 q1
                go_wp2_with fail
                go_roundw
                case rel => exact ⟨k + 1, _, bs, by go_num, by omega, HR4.out, HO4.out, HEL.out, HBG.out, by omega, HB4.out⟩
                case measure => simp [intOf]; omega
              · have b1 : (xh.call == 0) = true := by rw [q1]; rfl
                have b2 : (m == 0) = false := beq_eq_false_iff_ne.2 q2
                clear q1
                go_wp2_with fail
                go_roundw
                case rel => exact ⟨k + 1, _, bs, by go_num, by omega, HR4.out, HO4.out, HEL.out, HBG.out, by omega, HB4.out⟩
                case measure => simp [intOf]; omega
              · have b1 : (xh.call == 0) = false := beq_eq_false_iff_ne.2 q3
                go_wp2_with fail
                go_roundw
                case rel => exact ⟨k + 1, _, bs, by go_num, by omega, HR4.out, HO4.out, HEL.out, HBG.out, by omega, HB4.out⟩
                case measure => simp [intOf]; omega
        · go_wp2_with fail
          refine (awake_any wr (HM.out.below HB.out)).mono ?_
          rintro e wz ⟨rfl, hbz⟩
          have HBZ := Lib.hid ((HB.out).trans (hbz.mono (HB.out).size))
          clear hbz
          go_wp2
          go_ret
          exact ⟨rfl, HBZ.out⟩
    · go_wp2_with fail
      refine (new_no (l := life) (t := total) (by omega)).mono ?_
      rintro e w2 ⟨rfl, rfl⟩
      go_wp2_with fail
      refine (awake_any w1 (HM.out.below HB1.out)).mono ?_
      rintro e wz ⟨rfl, hbz⟩
      have HBZ := Lib.hid ((HB1.out).trans (hbz.mono (HB1.out).size))
      clear hbz
      go_wp2
      go_ret
      exact ⟨rfl, HBZ.out⟩
  · have HLI := Lib.hid (show lightB l = false by simpa using hl)
    clear hl
    go_wp2_with fail
    refine (light_is w A n c l HS.out HLI.out).mono ?_
    rintro e w1 ⟨rfl, hb⟩
    have HB1 := Lib.hid hb
    clear hb
    go_wp2_with fail
    refine (awake_any w1 (HM.out.below HB1.out)).mono ?_
    rintro e wz ⟨rfl, hbz⟩
    have HBZ := Lib.hid ((HB1.out).trans (hbz.mono (HB1.out).size))
    clear hbz
    go_wp2
    go_ret
    exact ⟨rfl, HBZ.out⟩
end Go.Proofs.Ytfeljihbaekfmaa.Rf
