/-
  The reference: Start.
-/
import Derived.Test.YtapooonlbjgbgaaDoorDvXk
namespace Go.Proofs.YtapooonlbjgbgaaDoor.Dv
open Go.RowKit Go.Proofs.YtapooonlbjgbgaaDoor.Fo Go.Proofs.YtapooonlbjgbgaaDoor.Rf

set_option maxRecDepth 100000 in
set_option maxHeartbeats 8000000 in
theorem rsta_l {w : World} {S : Nat → Prop} {G : Nat} {st st' : Fs} {k : Int} (h : RefE w S G st) (d u c : Bs) (sc : List Bs) (A : Option Addr) (cc : Nat) (now : Int) (hd : d.size ≤ 100000) (hu : u.size ≤ 100000) (hc : c.size ≤ 100000) (hs : Ss w A sc.length cc sc) (hsh : Short sc) (hn : sc.length ≤ 1000) (hAS : ∀ a, A = some a → 0 < sc.length → ¬ S a.block) (hq : sta st d u c sc now = (st', k)) (h1 : wrd d = true) (h2 : wrd c = true) (h3 : (cuC u).2 = 0) (h4 : chkS sc = 0) :
    Calls Tryd.prog 18 #[.pointer (some ⟨G, 0, none⟩), .string d, .string u, .string c, .slice A sc.length cc, .int .i64 now] w (fun e w' => e = .returned (.int .i64 k) ∧ RefE w' (Go.Proofs.YtapooonlbjgbgaaDoor.grow S w w') G st' ∧ Mods S w w') := by
  have hz9 : True := (fun _ _ => trivial) hu hn
  clear hz9
  have HE := Lib.hid h
  have HQ := Lib.hid hq
  have HS := Lib.hid hs
  have HSH := Lib.hid hsh
  have HAS := Lib.hid hAS
  clear h hq hs hsh hAS
  have Wd := Lib.hid h1
  have Wc := Lib.hid h2
  obtain ⟨⟨code, er⟩, hcu⟩ : ∃ r, cuC u = r := ⟨_, rfl⟩
  have HCU := Lib.hid hcu
  have ST7 := Lib.hid (fun i x hx h5 => st7 (st := st) (d := d) (c := c) (u := u) (sc := sc) (now := now) h1 h2 h3 h4 (i := i) (x := x) hx h5)
  have ST3 := Lib.hid (fun h5 h6 => st3 (st := st) (d := d) (c := c) (u := u) (sc := sc) (now := now) h1 h2 h3 h4 h5 h6)
  have ST0 := Lib.hid (fun h5 h6 => st0 (st := st) (d := d) (c := c) (u := u) (sc := sc) (now := now) h1 h2 h3 h4 h5 h6)
  rw [hcu] at h3 ST7 ST3 ST0
  simp only at h3 ST7 ST3 ST0
  subst h3
  have HCK := Lib.hid h4
  clear h1 h2 hcu h4
  go_enter Tryd.func18, Tryd.ntmps18
  go_wp2_with fail
  refine (made_yes HE.out).mono ?_
  rintro e wx ⟨rfl, rfl⟩
  go_wp2_with fail
  refine (rw_is d w hd true Wd.out).mono ?_
  rintro e wx ⟨rfl, rfl⟩
  go_wp2_with fail
  refine (rw_is c w hc true Wc.out).mono ?_
  rintro e wx ⟨rfl, rfl⟩
  go_wp2_with fail
  refine (rclean_any u w hu HCU.out).mono ?_
  rintro e w1 ⟨rfl, hb1⟩
  have HB1 := Lib.hid hb1
  clear hb1
  go_wp2_with fail
  refine (rcheck_any A sc.length cc sc w1 (HS.out.below HB1.out) HSH.out (by omega)).mono ?_
  rintro e w2 ⟨rfl, hb2⟩
  have HB2 := Lib.hid (HB1.out.trans (hb2.mono HB1.out.size))
  clear hb2
  rw [HCK.out]
  obtain ⟨I, rv, es, hp⟩ := HE.out.below HB2.out
  have hle : es.length ≤ 256 := by rw [hp.len]; exact hp.inv.len
  obtain ⟨A1, c1, rfl⟩ := hp.own.len
  have HP := Lib.hid hp
  have HLE := Lib.hid hp.len
  clear hp
  go_wp2_with fail
  go_loopw [16, 17] (fun nv iv wr => ∃ k : Nat, iv = .int .i64 k ∧ k ≤ es.length ∧ nv = .int .i64 ((st.l.take k).countP (opn now) : Nat) ∧ Hid (∀ j y, j < k → st.l[j]? = some y → isSame now d code y = false) ∧ Below w2.heap.size w2 wr) (fun _ iv _ => es.length - (intOf iv).toNat)
  case atStart => exact ⟨0, rfl, Nat.zero_le _, rfl, Lib.hid (fun j y hj => absurd hj (by omega)), Below.refl _ _⟩
  case round =>
    obtain ⟨k, rfl, hk, rfl, HNS, hb⟩ := hrel
    have HB := Lib.hid hb
    have HPW := Lib.hid (HP.out.below hb)
    have c2 := cell_block (blk_below hb HP.out.hG) 2
    simp only [List.getElem?_toArray, List.getElem?_cons_zero, List.getElem?_cons_succ] at c2
    have hcl : (st.l.take k).countP (opn now) ≤ 256 := Nat.le_trans List.countP_le_length (by rw [List.length_take]; have := HLE.out; omega)
    clear hb
    by_cases hlt : k < es.length
    · obtain ⟨e, he⟩ : ∃ e, es[k]? = some e := ⟨_, List.getElem?_eq_getElem hlt⟩
      obtain ⟨g, rfl, hg, hc2⟩ := HPW.out.own.at he
      have HRG := Lib.hid (show wr.rangeAt g (k * 20) (fl20 e) from fun j u hj => hc2 j u hj)
      have HX0 := Lib.hid (HPW.out.get he)
      have HCT := Lib.hid (cnt_take (p := opn now) HX0.out)
      obtain ⟨q, hq⟩ : ∃ q, (st.l.take k).countP (opn now) = q := ⟨_, rfl⟩
      rw [hq] at HCT hcl
      rw [hq]
      clear hq hc2 he
      obtain ⟨b, hb⟩ : ∃ b, expd now e.1 = b := ⟨_, rfl⟩
      have HEX := Lib.hid hb
      clear hb
      go_upto_region 16 with (first | ((with_reducible refine at_dst 59 ?_); refine wpList_load_mid rfl 86 (.tmp 58) rfl g (k * 20) rfl (fl20 e) _ HRG.out rfl rfl (by kernel_rfl) ?_) | (refine wpList_store_row rfl 86 (.tmp 18) (.tmp 59) rfl wr.heap.size (fl20 e).toArray rfl rfl 86 _ (heap_alloc_new _ _) (by kernel_rfl) rfl (all_oneCell_toArray (fl20_one e)) ?_))
      obtain ⟨wx, hwx⟩ : ∃ wx, wx = (wr.alloc (.cells #[.string ⟨#[]⟩, .string ⟨#[]⟩, .string ⟨#[]⟩, .slice none 0 0, .int .i64 0, .int .i64 0, .int .i64 0, .int .i64 0, .bool false, .string ⟨#[]⟩, .string ⟨#[]⟩, .string ⟨#[]⟩, .string ⟨#[]⟩, .string ⟨#[]⟩, .string ⟨#[]⟩, .string ⟨#[]⟩, .int .i64 0, .slice none 0 0, .int .i64 0, .int .i64 0] 86)).setRow wr.heap.size (fl20 e).toArray := ⟨_, rfl⟩
      rw [← hwx]
      have HBX := Lib.hid (show Below wr.heap.size wr wx by rw [hwx]; exact below_setRow (by go_grown) (Nat.le_refl _) _)
      have hx : wx.heap[wr.heap.size]? = some (.cells (fl20 e).toArray 86 (0, 0)) := by rw [hwx]; exact setRow_heap _ _ _ _ _ _ (heap_alloc_new _ _)
      have HX := Lib.hid hx
      clear hwx hx
      go_wp2_with ((with_reducible refine at_dst 60 ?_); refine wpList_load_row rfl 86 (.tmp 18) rfl wr.heap.size rfl 86 (fl20 e).toArray (0, 0) _ HX.out rfl rfl (by kernel_rfl) ?_)
      refine (rexp_any e now wx HEX.out).mono ?_
      rintro r w3 ⟨rfl, hb3⟩
      have HB3 := Lib.hid (HB.out.trans (HBX.out.trans (hb3.mono HBX.out.size) |>.mono HB.out.size))
      have HX3 := Lib.hid (blk_below hb3 HX.out)
      clear hb3 c2
      have y0 := cell_block HX3.out 0
      have y1 := cell_block HX3.out 1
      simp only [fl20, List.getElem?_toArray, List.getElem?_cons_zero, List.getElem?_cons_succ] at y0 y1
      cases b with
      | true => as_aux_lemma =>
        have hop : opn now e.1 = false := by unfold opn; rw [HEX.out]; rfl
        have HNS2 := Lib.hid (show ∀ j y, j < k + 1 → st.l[j]? = some y → isSame now d code y = false from fun j y hj hy => by
          by_cases e3 : j = k
          · subst e3
            rw [HX0.out] at hy
            injection hy with hy
            rw [← hy]
            unfold isSame
            rw [hop]
            rfl
          · exact HNS.out j y (by omega) hy)
        rw [if_neg (by rw [hop]; decide), Nat.add_zero] at HCT
        clear hop
        go_wp2_with ((with_reducible refine at_dst 76 ?_); refine wpList_load_row rfl 86 (.tmp 18) rfl wr.heap.size rfl 86 (fl20 e).toArray (0, 0) _ HX3.out rfl rfl (by kernel_rfl) ?_)
        refine (rexp_any e now w3 HEX.out).mono ?_
        rintro r w4 ⟨rfl, hb4⟩
        have HB4 := Lib.hid (HB3.out.trans (hb4.mono HB3.out.size))
        clear hb4 y0 y1
        go_wp2
        go_roundw
        case rel => exact ⟨k + 1, by go_num, by omega, by rw [HCT.out]; rfl, HNS2, HB4.out⟩
        case measure => simp [intOf]; omega
      | false =>
        have hop : opn now e.1 = true := by unfold opn; rw [HEX.out]; rfl
        rw [if_pos hop] at HCT
        by_cases hsame : isSame now d code e.1 = true
        · as_aux_lemma =>
          have HST := Lib.hid (ST7.out k e.1 HX0.out hsame)
          by_cases e1 : e.1.w = d
          · have b1 : (e.1.w.toList == d.toList) = true := by rw [beq_bs]; simpa using e1
            have b2 : e.1.w.toList = d.toList := by rw [e1]
            clear e1 hsame hop
            go_wp2
            go_ret
            exact rsame_fin HQ.out HST.out (by decide) rfl HE.out (HB2.out.trans (HB3.out.mono HB2.out.size))
          · have b1 : (e.1.w.toList == d.toList) = false := by rw [beq_bs]; simpa using e1
            have b2 : ¬ e.1.w.toList = d.toList := by rw [← beq_iff_eq, b1]; decide
            have e2 : e.1.code = code := by unfold isSame at hsame; rw [hop] at hsame; simpa [e1] using hsame
            have b3 : (e.1.code.toList == code.toList) = true := by rw [beq_bs]; simpa using e2
            have b4 : e.1.code.toList = code.toList := by rw [e2]
            clear e1 e2 hsame hop
            go_wp2
            go_ret
            exact rsame_fin HQ.out HST.out (by decide) rfl HE.out (HB2.out.trans (HB3.out.mono HB2.out.size))
        · as_aux_lemma =>
          have hsm : isSame now d code e.1 = false := by simpa using hsame
          have HNS2 := Lib.hid (show ∀ j y, j < k + 1 → st.l[j]? = some y → isSame now d code y = false from fun j y hj hy => by
            by_cases e3 : j = k
            · subst e3
              rw [HX0.out] at hy
              injection hy with hy
              rw [← hy]
              exact hsm
            · exact HNS.out j y (by omega) hy)
          have e12 : ¬ e.1.w = d ∧ ¬ e.1.code = code := by unfold isSame at hsm; rw [hop] at hsm; simpa using hsm
          have b1 : (e.1.w.toList == d.toList) = false := by rw [beq_bs]; simpa using e12.1
          have b2 : ¬ e.1.w.toList = d.toList := by rw [← beq_iff_eq, b1]; decide
          have b3 : (e.1.code.toList == code.toList) = false := by rw [beq_bs]; simpa using e12.2
          have b4 : ¬ e.1.code.toList = code.toList := by rw [← beq_iff_eq, b3]; decide
          clear e12 hsame hsm hop
          go_wp2_with ((with_reducible refine at_dst 76 ?_); refine wpList_load_row rfl 86 (.tmp 18) rfl wr.heap.size rfl 86 (fl20 e).toArray (0, 0) _ HX3.out rfl rfl (by kernel_rfl) ?_)
          refine (rexp_any e now w3 HEX.out).mono ?_
          rintro r w4 ⟨rfl, hb4⟩
          have HB4 := Lib.hid (HB3.out.trans (hb4.mono HB3.out.size))
          clear hb4 y0 y1
          go_wp2
          go_roundw
          case rel => exact ⟨k + 1, by go_num, by omega, by rw [HCT.out]; rfl, HNS2, HB4.out⟩
          case measure => simp [intOf]; omega
    · have hkk : k = st.l.length := by have := HLE.out; omega
      have HNX := Lib.hid (show ∀ j y, j < st.l.length → st.l[j]? = some y → isSame now d code y = false from fun j y hj hy => HNS.out j y (by omega) hy)
      rw [hkk, List.take_length] at hcl
      rw [hkk, List.take_length]
      have HBA := Lib.hid (HB2.out.trans (HB.out.mono HB2.out.size))
      have hlt2 : ¬ st.l.length < es.length := by have := HLE.out; omega
      have hkk2 : st.l.length ≤ es.length := by omega
      clear hkk hlt hk HNS
      by_cases h256 : 256 ≤ st.l.countP (opn now)
      · as_aux_lemma =>
          have HST := Lib.hid (ST3.out HNX.out h256)
          go_wp2
          go_ret
          exact rsame_fin HQ.out HST.out (by decide) rfl HE.out HBA.out
      · as_aux_lemma =>
          have HST := Lib.hid (ST0.out HNX.out h256)
          go_wp2_with fail
          refine (rpur_any ⟨I, _, es, HPW.out⟩ now rfl).mono ?_
          rintro e w3 ⟨rfl, hr3, hm3⟩
          obtain ⟨S3, hS3, hr3⟩ : ∃ S3 : Nat → Prop, (∀ k, S3 k → S k ∨ w.heap.size ≤ k) ∧ RefE w3 S3 G (puS st now) := ⟨_, fun k e => by
            rcases e with e | e
            · exact Or.inl e
            · exact Or.inr (Nat.le_trans HBA.out.size e.1), hr3⟩
          have HM3 := Lib.hid (mods_pre HBA.out hm3)
          have HS3 := Lib.hid hS3
          obtain ⟨I3, v3, es3, hp3⟩ := hr3
          have hle3 : es3.length ≤ 256 := by rw [hp3.len]; exact hp3.inv.len
          obtain ⟨A3, c3, rfl⟩ := hp3.own.len
          have HP3 := Lib.hid hp3
          have HSW := Lib.hid (ss_keep (S := fun k => k < w.heap.size ∧ ¬ S k) HS.out (fun a ha hl => ⟨ss_block HS.out ha hl, HAS.out a ha hl⟩) (fun k e => HM3.out.block k e.1 e.2) HM3.out.size)
          clear hp3 hm3 hS3 c2
          go_upto_region 25 with ((with_reducible refine at_dst 89 ?_); go_must (refine wpList_app1 rfl (.tmp 87) (.tmp 88) rfl w3.heap.size (Nat.le_refl _) (.slice none 0 0) [] rfl (Own1.nil _ _) A sc.length cc sc rfl HSW.out (by simp; omega) ?_); intro v4 w4 hown hgrow hblk; rw [List.nil_append] at hown; obtain ⟨B, dd, rfl⟩ := hown.form; have HOW := Lib.hid hown; have HGR := Lib.hid (below_nil hgrow); clear hown hgrow hblk)
          have HP4 := Lib.hid (HP3.out.below HGR.out)
          have e0 := cell_block HP4.out.hG 0
          have e1 := cell_block HP4.out.hG 1
          have e2 := cell_block HP4.out.hG 2
          simp only [List.getElem?_toArray, List.getElem?_cons_zero, List.getElem?_cons_succ] at e0 e1 e2
          have SKA := Lib.hid (show (fun w' => w'.cell? ⟨G, 0, none⟩ = some (.int .i64 (limI st.life)) ∧ w'.cell? ⟨G, 1, none⟩ = some (.int .i64 st.iv)) w4.drew from ⟨e0, e1⟩)
          have e2a : w4.drew.cell? ⟨G, 2, none⟩ = some (.slice A3 es3.length c3) := e2
          have HG5 := Lib.hid (show (w4.drew.alloc (.cells (fl20 ((newF st d code c sc now, B, dd, none, 0) : FwE)).toArray 86)).heap[G]? = some (.cells #[.int .i64 (limI st.life), .int .i64 st.iv, .slice A3 es3.length c3] 75 (0, 0)) from ((by go_grown : Below w4.heap.size w4 (w4.drew.alloc (.cells (fl20 ((newF st d code c sc now, B, dd, none, 0) : FwE)).toArray 86)))).block G (blk_lt HP4.out.hG) |>.trans HP4.out.hG)
          have SK5 := Lib.hid (show (fun w' => w'.cell? ⟨G, 0, none⟩ = some (.int .i64 (limI st.life)) ∧ w'.cell? ⟨G, 1, none⟩ = some (.int .i64 st.iv)) (w4.drew.alloc (.cells (fl20 ((newF st d code c sc now, B, dd, none, 0) : FwE)).toArray 86)) from ⟨cell_block HG5.out 0, cell_block HG5.out 1⟩)
          have e2b := cell_block HG5.out 2
          simp only [List.getElem?_toArray, List.getElem?_cons_zero, List.getElem?_cons_succ] at e2b
          have HE2B := Lib.hid e2b
          clear e2b
          have HGL5 := Lib.hid (blk_lt HG5.out)
          have HNO := Lib.hid (show ¬ (Value.slice A3 es3.length c3).ownBlock = some G from fun e => (HP3.out.sv G e).2.2 rfl)
          have HOE := Lib.hid (HP4.out.own.keep (w' := w4.drew.alloc (.cells (fl20 ((newF st d code c sc now, B, dd, none, 0) : FwE)).toArray 86)) (fun k hk => ((by go_grown : Below w4.heap.size w4 (w4.drew.alloc (.cells (fl20 ((newF st d code c sc now, B, dd, none, 0) : FwE)).toArray 86)))).block k (HP4.out.own.lt k hk)))
          have HEL := Lib.hid (show ∀ j u, (fl20 ((newF st d code c sc now, B, dd, none, 0) : FwE))[j]? = some u → (w4.drew.alloc (.cells (fl20 ((newF st d code c sc now, B, dd, none, 0) : FwE)).toArray 86)).cell? ⟨w4.heap.size, j, none⟩ = some u from fun j u hj => by
            have h1 := cell_block (heap_alloc_new w4.drew (.cells (fl20 ((newF st d code c sc now, B, dd, none, 0) : FwE)).toArray 86)) j
            rw [show w4.drew.heap.size = w4.heap.size from rfl] at h1
            rw [h1, ← hj]
            simp)
          refine wp_region_held_drew (S := (fun w' => w'.cell? ⟨G, 0, none⟩ = some (.int .i64 (limI st.life)) ∧ w'.cell? ⟨G, 1, none⟩ = some (.int .i64 st.iv))) (by kernel_rfl) ?_ (fun hHeld => ?_)
          focus ((try dsimp only); (first | exact SKA.out | exact SK7.out _ | exact SK6.out | exact SK5.out); done)
          refine wpAnyH_take (i := 0) (oi := ⟨_, _, _, _, _, _⟩) (v := ?_) rfl (by kernel_rfl) (by kernel_rfl) (by kernel_rfl) (fun _ _ _ h => h) (Or.inl ⟨by rfl, ?_⟩) (by assumption) ?_; rotate_left; (focus (intro w hSw; (try dsimp only at hSw); go_simp; (try with_reducible rfl); done)); simp only [Act.put, List.setIfInBounds_toArray, List.set_cons_zero, List.set_cons_succ]
          refine wpAnyH_take (i := 1) (oi := ⟨_, _, _, _, _, _⟩) (v := ?_) rfl (by kernel_rfl) (by kernel_rfl) (by kernel_rfl) (fun _ _ _ h => h) (Or.inl ⟨by rfl, ?_⟩) (by assumption) ?_; rotate_left; (focus (intro w hSw; (try dsimp only at hSw); go_simp; (try with_reducible rfl); done)); simp only [Act.put, List.setIfInBounds_toArray, List.set_cons_zero, List.set_cons_succ]
          refine wpAnyH_take (i := 2) (oi := ⟨_, _, _, _, _, _⟩) (v := ?_) rfl (by kernel_rfl) (by kernel_rfl) (by kernel_rfl) (fun _ _ _ h => h) (Or.inl ⟨by rfl, ?_⟩) (by assumption) ?_; rotate_left; (focus (intro w hSw; (try dsimp only at hSw); go_simp; (try with_reducible rfl); done)); simp only [Act.put, List.setIfInBounds_toArray, List.set_cons_zero, List.set_cons_succ]
          refine wpAnyH_take (i := 3) (oi := ⟨_, _, _, _, _, _⟩) (v := ?_) rfl (by kernel_rfl) (by kernel_rfl) (by kernel_rfl) (fun _ _ _ h => h) (Or.inl ⟨by rfl, ?_⟩) (by assumption) ?_; rotate_left; (focus (intro w hSw; (try dsimp only at hSw); go_simp; (try with_reducible rfl); done)); simp only [Act.put, List.setIfInBounds_toArray, List.set_cons_zero, List.set_cons_succ]
          refine wpAnyH_take (i := 5) (oi := ⟨_, _, _, _, _, _⟩) (v := ?_) rfl (by kernel_rfl) (by kernel_rfl) (by kernel_rfl) (fun _ _ _ h => h) (Or.inl ⟨by rfl, ?_⟩) (by assumption) ?_; rotate_left; (focus (intro w hSw; (try dsimp only at hSw); go_simp; (try with_reducible rfl); done)); simp only [Act.put, List.setIfInBounds_toArray, List.set_cons_zero, List.set_cons_succ]
          refine wpAnyH_take (i := 6) (oi := ⟨_, _, _, _, _, _⟩) (v := ?_) rfl (by kernel_rfl) (by kernel_rfl) (by kernel_rfl) (fun _ _ _ h => h) (Or.inl ⟨by rfl, ?_⟩) (by assumption) ?_; rotate_left; (focus (intro w hSw; (try dsimp only at hSw); go_simp; (try with_reducible rfl); done)); simp only [Act.put, List.setIfInBounds_toArray, List.set_cons_zero, List.set_cons_succ]
          refine wpAnyH_take (i := 7) (oi := ⟨_, _, _, _, _, _⟩) (v := ?_) rfl (by kernel_rfl) (by kernel_rfl) (by kernel_rfl) (fun _ _ _ h => h) (Or.inl ⟨by rfl, ?_⟩) (by assumption) ?_; rotate_left; (focus (intro w hSw; (try dsimp only at hSw); go_simp; (try with_reducible rfl); done)); simp only [Act.put, List.setIfInBounds_toArray, List.set_cons_zero, List.set_cons_succ]
          refine wpAnyH_take (i := 8) (oi := ⟨_, _, _, _, _, _⟩) (v := ?_) rfl (by kernel_rfl) (by kernel_rfl) (by kernel_rfl) (fun _ _ _ h => h) (Or.inl ⟨by rfl, ?_⟩) (by assumption) ?_; rotate_left; (focus (intro w hSw; (try dsimp only at hSw); go_simp; (try with_reducible rfl); done)); simp only [Act.put, List.setIfInBounds_toArray, List.set_cons_zero, List.set_cons_succ]
          refine wpAnyH_take (i := 9) (oi := ⟨_, _, _, _, _, _⟩) (v := ?_) rfl (by kernel_rfl) (by kernel_rfl) (by kernel_rfl) (fun _ _ _ h => h) (Or.inl ⟨by rfl, ?_⟩) (by assumption) ?_; rotate_left; (focus (intro w hSw; (try dsimp only at hSw); go_simp; (try with_reducible rfl); done)); simp only [Act.put, List.setIfInBounds_toArray, List.set_cons_zero, List.set_cons_succ]
          refine wpAnyH_take (i := 10) (oi := ⟨_, _, _, _, _, _⟩) (v := ?_) rfl (by kernel_rfl) (by kernel_rfl) (by kernel_rfl) (fun _ _ _ h => h) (Or.inl ⟨by rfl, ?_⟩) (by assumption) ?_; rotate_left; (focus (intro w hSw; (try dsimp only at hSw); go_simp; (try with_reducible rfl); done)); simp only [Act.put, List.setIfInBounds_toArray, List.set_cons_zero, List.set_cons_succ]
          refine wpAnyH_take (i := 11) (oi := ⟨_, _, _, _, _, _⟩) (v := ?_) rfl (by kernel_rfl) (by kernel_rfl) (by kernel_rfl) (fun _ _ _ h => h) (Or.inl ⟨by rfl, ?_⟩) (by assumption) ?_; rotate_left; (focus (intro w hSw; (try dsimp only at hSw); go_simp; (try with_reducible rfl); done)); simp only [Act.put, List.setIfInBounds_toArray, List.set_cons_zero, List.set_cons_succ]
          refine wpAnyH_take (i := 12) (oi := ⟨_, _, _, _, _, _⟩) (v := ?_) rfl (by kernel_rfl) (by kernel_rfl) (by kernel_rfl) (fun _ _ _ h => h) (Or.inl ⟨by rfl, ?_⟩) (by assumption) ?_; rotate_left; (focus (intro w hSw; (try dsimp only at hSw); go_simp; (try with_reducible rfl); done)); simp only [Act.put, List.setIfInBounds_toArray, List.set_cons_zero, List.set_cons_succ]
          refine wpAnyH_take (i := 13) (oi := ⟨_, _, _, _, _, _⟩) (v := ?_) rfl (by kernel_rfl) (by kernel_rfl) (by kernel_rfl) (fun _ _ _ h => h) (Or.inl ⟨by rfl, ?_⟩) (by assumption) ?_; rotate_left; (focus (intro w hSw; (try dsimp only at hSw); go_simp; (try with_reducible rfl); done)); simp only [Act.put, List.setIfInBounds_toArray, List.set_cons_zero, List.set_cons_succ]
          refine wpAnyH_take (i := 15) (oi := ⟨_, _, _, _, _, _⟩) (v := ?_) rfl (by kernel_rfl) (by kernel_rfl) (by kernel_rfl) (fun _ _ _ h => h) (Or.inl ⟨by rfl, ?_⟩) (by assumption) ?_; rotate_left; (focus (intro w hSw; (try dsimp only at hSw); go_simp; (try with_reducible rfl); done)); simp only [Act.put, List.setIfInBounds_toArray, List.set_cons_zero, List.set_cons_succ]
          refine wpAnyH_take (i := 16) (oi := ⟨_, _, _, _, _, _⟩) (v := ?_) rfl (by kernel_rfl) (by kernel_rfl) (by kernel_rfl) (fun _ _ _ h => h) (Or.inl ⟨by rfl, ?_⟩) (by assumption) ?_; rotate_left; (focus (intro w hSw; (try dsimp only at hSw); go_simp; (try with_reducible rfl); done)); simp only [Act.put, List.setIfInBounds_toArray, List.set_cons_zero, List.set_cons_succ]
          refine wpAnyH_take (i := 17) (oi := ⟨_, _, _, _, _, _⟩) (v := ?_) rfl (by kernel_rfl) (by kernel_rfl) (by kernel_rfl) (fun _ _ _ h => h) (Or.inl ⟨by rfl, ?_⟩) (by assumption) ?_; rotate_left; (focus (intro w hSw; (try dsimp only at hSw); go_simp; (try with_reducible rfl); done)); simp only [Act.put, List.setIfInBounds_toArray, List.set_cons_zero, List.set_cons_succ]
          refine wpAnyH_take (i := 18) (oi := ⟨_, _, _, _, _, _⟩) (v := ?_) rfl (by kernel_rfl) (by kernel_rfl) (by kernel_rfl) (fun _ _ _ h => h) (Or.inl ⟨by rfl, ?_⟩) (by assumption) ?_; rotate_left; (focus (intro w hSw; (try dsimp only at hSw); go_simp; (try with_reducible rfl); done)); simp only [Act.put, List.setIfInBounds_toArray, List.set_cons_zero, List.set_cons_succ]
          refine wpAnyH_ready (rs := [4, 14]) (by kernel_rfl) (by simp) ?_
          refine AllReadyH.cons (o := ⟨_, _, _, _, _, _⟩) rfl (fun K hK => ?_) (AllReadyH.cons (o := ⟨_, _, _, _, _, _⟩) rfl (fun K hK => ?_) AllReadyH.nil)
          · as_aux_lemma =>
            go_simp
            (try go_wp2_with fail)
            refine hK.out _ _ ?_ (fun hHeld => ?_)
            focus ((try dsimp only); (first | exact SKA.out | exact SK7.out _ | exact SK6.out | exact SK5.out); done)
            clear hK K
            (try simp only [Act.put, List.setIfInBounds_toArray, List.set_cons_zero, List.set_cons_succ])
            refine wpAnyH_ready (rs := [14]) (by kernel_rfl) (by simp) ?_
            refine AllReadyH.cons (o := ⟨_, _, _, _, _, _⟩) rfl (fun K hK => ?_) AllReadyH.nil
            go_simp
            go_wp2_with fail
            refine (radd_any now (limI st.life) _).mono ?_
            rintro e wn ⟨rfl, rfl⟩
            rw [addC_r]
            (try go_wp2_with fail)
            refine hK.out _ _ ?_ (fun hHeld => ?_)
            focus ((try dsimp only); (first | exact SKA.out | exact SK7.out _ | exact SK6.out | exact SK5.out); done)
            clear hK K
            (try simp only [Act.put, List.setIfInBounds_toArray, List.set_cons_zero, List.set_cons_succ])
            refine wpAnyH_take (i := 19) (oi := ⟨_, _, _, _, _, _⟩) rfl (by kernel_rfl) (by kernel_rfl) (by kernel_rfl) (fun _ _ _ h => h) (yields_build20 (by rfl) (.tmp 95) (.tmp 96) (.tmp 97) (.tmp 98) (.tmp 104) (.tmp 108) rfl d code c B sc.length dd (addC now st.life) st.iv rfl rfl rfl rfl rfl rfl) (by assumption) ?_
            simp only [Act.put, List.setIfInBounds_toArray, List.set_cons_zero, List.set_cons_succ]
            refine wpAnyH_ready (rs := [20]) (by kernel_rfl) (by simp) ?_
            refine AllReadyH.cons (o := ⟨_, _, _, _, _, _⟩) rfl (fun K hK => ?_) AllReadyH.nil
            refine wp_build20 (.tmp 109) rfl ((newF st d code c sc now, B, dd, none, 0) : FwE) rfl ?_
            (try go_wp2_with fail)
            refine hK.out _ _ ?_ (fun hHeld => ?_)
            focus ((try dsimp only); (first | exact SKA.out | exact SK7.out _ | exact SK6.out | exact SK5.out); done)
            clear hK K
            (try simp only [Act.put, List.setIfInBounds_toArray, List.set_cons_zero, List.set_cons_succ])
            refine wpAnyH_ready (rs := [21]) (by kernel_rfl) (by simp) ?_
            refine AllReadyH.cons (o := ⟨_, _, _, _, _, _⟩) rfl (fun K hK => ?_) AllReadyH.nil
            refine wp_app20 (.tmp 94) (.tmp 110) rfl (.slice A3 es3.length c3) es3 rfl HOE.out w4.heap.size 1 ((newF st d code c sc now, B, dd, none, 0) : FwE) rfl HEL.out (by omega) ?_
            intro v6 w6 hO6 hg6 hv6
            have HV6 := Lib.hid hv6
            have HG6 := Lib.hid hg6
            have HGB6 := Lib.hid (show w6.heap[G]? = some (.cells #[.int .i64 (limI st.life), .int .i64 st.iv, .slice A3 es3.length c3] 75 (0, 0)) from (hg6.block G HGL5.out (fun e => HNO.out e.symm)).trans HG5.out)
            have SK6 := Lib.hid (show (fun w' => w'.cell? ⟨G, 0, none⟩ = some (.int .i64 (limI st.life)) ∧ w'.cell? ⟨G, 1, none⟩ = some (.int .i64 st.iv)) w6 from ⟨cell_block HGB6.out 0, cell_block HGB6.out 1⟩)
            have SK7 := Lib.hid (fun (v : Value) => show (fun w' => w'.cell? ⟨G, 0, none⟩ = some (.int .i64 (limI st.life)) ∧ w'.cell? ⟨G, 1, none⟩ = some (.int .i64 st.iv)) (w6.setCell ⟨G, 2, none⟩ v) from ⟨cell_block (heap_setCell_same w6 G 2 _ _ v HGB6.out) 0, cell_block (heap_setCell_same w6 G 2 _ _ v HGB6.out) 1⟩)
            have g2 := cell_block HGB6.out 2
            simp only [List.getElem?_toArray, List.getElem?_cons_zero, List.getElem?_cons_succ] at g2
            have f2 : w6.frozen? ⟨G, 2, none⟩ = false := by have := HGB6.out; simp only [World.frozen?, this]; rfl
            have hl6 : (es3 ++ [((newF st d code c sc now, B, dd, none, 0) : FwE)]).length = es3.length + 1 := by simp
            obtain ⟨A6, c6, rfl⟩ := hO6.len
            rw [hl6] at hO6
            rw [hl6] at HV6
            rw [hl6]
            have HO6 := Lib.hid hO6
            clear hO6 hg6 hv6 hl6
            (try go_wp2_with fail)
            refine hK.out _ _ ?_ (fun hHeld => ?_)
            focus ((try dsimp only); (first | exact SKA.out | exact SK7.out _ | exact SK6.out | exact SK5.out); done)
            clear hK K
            (try simp only [Act.put, List.setIfInBounds_toArray, List.set_cons_zero, List.set_cons_succ])
            refine wpAnyH_take (i := 22) (oi := ⟨_, _, _, _, _, _⟩) (v := ?_) rfl (by kernel_rfl) (by kernel_rfl) (by kernel_rfl) (fun _ _ _ h => h) (Or.inl ⟨by rfl, ?_⟩) (by assumption) ?_; rotate_left; (focus (intro w hSw; (try dsimp only at hSw); go_simp; (try with_reducible rfl); done)); simp only [Act.put, List.setIfInBounds_toArray, List.set_cons_zero, List.set_cons_succ]
            refine wpAnyH_take (i := 23) (oi := ⟨_, _, _, _, _, _⟩) (v := ?_) rfl (by kernel_rfl) (by kernel_rfl) (by kernel_rfl) (fun _ _ _ h => h) (Or.inl ⟨by rfl, ?_⟩) (by assumption) ?_; rotate_left; (focus (intro w hSw; (try dsimp only at hSw); go_simp; (try with_reducible rfl); done)); simp only [Act.put, List.setIfInBounds_toArray, List.set_cons_zero, List.set_cons_succ]
            refine wpAnyH_ready (rs := [24]) (by kernel_rfl) (by simp) ?_
            refine AllReadyH.cons (o := ⟨_, _, _, _, _, _⟩) rfl (fun K hK => ?_) AllReadyH.nil
            go_simp
            (try go_wp2_with fail)
            refine hK.out _ _ ?_ (fun hHeld => ?_)
            focus ((try dsimp only); (first | exact SKA.out | exact SK7.out _ | exact SK6.out | exact SK5.out); done)
            clear hK K
            (try simp only [Act.put, List.setIfInBounds_toArray, List.set_cons_zero, List.set_cons_succ])
            refine wpAnyH_done (by kernel_rfl) ?_ _
            go_wp2
            go_ret
            exact rsta_fin2 HQ.out HST.out HCU.out HE.out.inv HSH.out HP3.out HS3.out HE.out.lt HM3.out HGR.out HOW.out HO6.out HG6.out HV6.out
          · as_aux_lemma =>
            go_simp
            go_wp2_with fail
            refine (radd_any now (limI st.life) _).mono ?_
            rintro e wn ⟨rfl, rfl⟩
            rw [addC_r]
            (try go_wp2_with fail)
            refine hK.out _ _ ?_ (fun hHeld => ?_)
            focus ((try dsimp only); (first | exact SKA.out | exact SK7.out _ | exact SK6.out | exact SK5.out); done)
            clear hK K
            (try simp only [Act.put, List.setIfInBounds_toArray, List.set_cons_zero, List.set_cons_succ])
            refine wpAnyH_take (i := 19) (oi := ⟨_, _, _, _, _, _⟩) rfl (by kernel_rfl) (by kernel_rfl) (by kernel_rfl) (fun _ _ _ h => h) (yields_build20 (by rfl) (.tmp 95) (.tmp 96) (.tmp 97) (.tmp 98) (.tmp 104) (.tmp 108) rfl d code c B sc.length dd (addC now st.life) st.iv rfl rfl rfl rfl rfl rfl) (by assumption) ?_
            simp only [Act.put, List.setIfInBounds_toArray, List.set_cons_zero, List.set_cons_succ]
            refine wpAnyH_ready (rs := [4, 20]) (by kernel_rfl) (by simp) ?_
            refine AllReadyH.cons (o := ⟨_, _, _, _, _, _⟩) rfl (fun K hK => ?_) (AllReadyH.cons (o := ⟨_, _, _, _, _, _⟩) rfl (fun K hK => ?_) AllReadyH.nil)
            · as_aux_lemma =>
              go_simp
              (try go_wp2_with fail)
              refine hK.out _ _ ?_ (fun hHeld => ?_)
              focus ((try dsimp only); (first | exact SKA.out | exact SK7.out _ | exact SK6.out | exact SK5.out); done)
              clear hK K
              (try simp only [Act.put, List.setIfInBounds_toArray, List.set_cons_zero, List.set_cons_succ])
              refine wpAnyH_ready (rs := [20]) (by kernel_rfl) (by simp) ?_
              refine AllReadyH.cons (o := ⟨_, _, _, _, _, _⟩) rfl (fun K hK => ?_) AllReadyH.nil
              refine wp_build20 (.tmp 109) rfl ((newF st d code c sc now, B, dd, none, 0) : FwE) rfl ?_
              (try go_wp2_with fail)
              refine hK.out _ _ ?_ (fun hHeld => ?_)
              focus ((try dsimp only); (first | exact SKA.out | exact SK7.out _ | exact SK6.out | exact SK5.out); done)
              clear hK K
              (try simp only [Act.put, List.setIfInBounds_toArray, List.set_cons_zero, List.set_cons_succ])
              refine wpAnyH_ready (rs := [21]) (by kernel_rfl) (by simp) ?_
              refine AllReadyH.cons (o := ⟨_, _, _, _, _, _⟩) rfl (fun K hK => ?_) AllReadyH.nil
              refine wp_app20 (.tmp 94) (.tmp 110) rfl (.slice A3 es3.length c3) es3 rfl HOE.out w4.heap.size 1 ((newF st d code c sc now, B, dd, none, 0) : FwE) rfl HEL.out (by omega) ?_
              intro v6 w6 hO6 hg6 hv6
              have HV6 := Lib.hid hv6
              have HG6 := Lib.hid hg6
              have HGB6 := Lib.hid (show w6.heap[G]? = some (.cells #[.int .i64 (limI st.life), .int .i64 st.iv, .slice A3 es3.length c3] 75 (0, 0)) from (hg6.block G HGL5.out (fun e => HNO.out e.symm)).trans HG5.out)
              have SK6 := Lib.hid (show (fun w' => w'.cell? ⟨G, 0, none⟩ = some (.int .i64 (limI st.life)) ∧ w'.cell? ⟨G, 1, none⟩ = some (.int .i64 st.iv)) w6 from ⟨cell_block HGB6.out 0, cell_block HGB6.out 1⟩)
              have SK7 := Lib.hid (fun (v : Value) => show (fun w' => w'.cell? ⟨G, 0, none⟩ = some (.int .i64 (limI st.life)) ∧ w'.cell? ⟨G, 1, none⟩ = some (.int .i64 st.iv)) (w6.setCell ⟨G, 2, none⟩ v) from ⟨cell_block (heap_setCell_same w6 G 2 _ _ v HGB6.out) 0, cell_block (heap_setCell_same w6 G 2 _ _ v HGB6.out) 1⟩)
              have g2 := cell_block HGB6.out 2
              simp only [List.getElem?_toArray, List.getElem?_cons_zero, List.getElem?_cons_succ] at g2
              have f2 : w6.frozen? ⟨G, 2, none⟩ = false := by have := HGB6.out; simp only [World.frozen?, this]; rfl
              have hl6 : (es3 ++ [((newF st d code c sc now, B, dd, none, 0) : FwE)]).length = es3.length + 1 := by simp
              obtain ⟨A6, c6, rfl⟩ := hO6.len
              rw [hl6] at hO6
              rw [hl6] at HV6
              rw [hl6]
              have HO6 := Lib.hid hO6
              clear hO6 hg6 hv6 hl6
              (try go_wp2_with fail)
              refine hK.out _ _ ?_ (fun hHeld => ?_)
              focus ((try dsimp only); (first | exact SKA.out | exact SK7.out _ | exact SK6.out | exact SK5.out); done)
              clear hK K
              (try simp only [Act.put, List.setIfInBounds_toArray, List.set_cons_zero, List.set_cons_succ])
              refine wpAnyH_take (i := 22) (oi := ⟨_, _, _, _, _, _⟩) (v := ?_) rfl (by kernel_rfl) (by kernel_rfl) (by kernel_rfl) (fun _ _ _ h => h) (Or.inl ⟨by rfl, ?_⟩) (by assumption) ?_; rotate_left; (focus (intro w hSw; (try dsimp only at hSw); go_simp; (try with_reducible rfl); done)); simp only [Act.put, List.setIfInBounds_toArray, List.set_cons_zero, List.set_cons_succ]
              refine wpAnyH_take (i := 23) (oi := ⟨_, _, _, _, _, _⟩) (v := ?_) rfl (by kernel_rfl) (by kernel_rfl) (by kernel_rfl) (fun _ _ _ h => h) (Or.inl ⟨by rfl, ?_⟩) (by assumption) ?_; rotate_left; (focus (intro w hSw; (try dsimp only at hSw); go_simp; (try with_reducible rfl); done)); simp only [Act.put, List.setIfInBounds_toArray, List.set_cons_zero, List.set_cons_succ]
              refine wpAnyH_ready (rs := [24]) (by kernel_rfl) (by simp) ?_
              refine AllReadyH.cons (o := ⟨_, _, _, _, _, _⟩) rfl (fun K hK => ?_) AllReadyH.nil
              go_simp
              (try go_wp2_with fail)
              refine hK.out _ _ ?_ (fun hHeld => ?_)
              focus ((try dsimp only); (first | exact SKA.out | exact SK7.out _ | exact SK6.out | exact SK5.out); done)
              clear hK K
              (try simp only [Act.put, List.setIfInBounds_toArray, List.set_cons_zero, List.set_cons_succ])
              refine wpAnyH_done (by kernel_rfl) ?_ _
              go_wp2
              go_ret
              exact rsta_fin2 HQ.out HST.out HCU.out HE.out.inv HSH.out HP3.out HS3.out HE.out.lt HM3.out HGR.out HOW.out HO6.out HG6.out HV6.out
            · as_aux_lemma =>
              refine wp_build20 (.tmp 109) rfl ((newF st d code c sc now, B, dd, none, 0) : FwE) rfl ?_
              (try go_wp2_with fail)
              refine hK.out _ _ ?_ (fun hHeld => ?_)
              focus ((try dsimp only); (first | exact SKA.out | exact SK7.out _ | exact SK6.out | exact SK5.out); done)
              clear hK K
              (try simp only [Act.put, List.setIfInBounds_toArray, List.set_cons_zero, List.set_cons_succ])
              refine wpAnyH_ready (rs := [4]) (by kernel_rfl) (by simp) ?_
              refine AllReadyH.cons (o := ⟨_, _, _, _, _, _⟩) rfl (fun K hK => ?_) AllReadyH.nil
              have e2b : ((w4.alloc (.cells (fl20 ((newF st d code c sc now, B, dd, none, 0) : FwE)).toArray 86)).drew).cell? ⟨G, 2, none⟩ = some (.slice A3 es3.length c3) := HE2B.out
              have e2c : (w4.alloc (.cells (fl20 ((newF st d code c sc now, B, dd, none, 0) : FwE)).toArray 86)).cell? ⟨G, 2, none⟩ = some (.slice A3 es3.length c3) := HE2B.out
              go_simp
              clear e2b e2c
              (try go_wp2_with fail)
              refine hK.out _ _ ?_ (fun hHeld => ?_)
              focus ((try dsimp only); (first | exact SKA.out | exact SK7.out _ | exact SK6.out | exact SK5.out); done)
              clear hK K
              (try simp only [Act.put, List.setIfInBounds_toArray, List.set_cons_zero, List.set_cons_succ])
              refine wpAnyH_ready (rs := [21]) (by kernel_rfl) (by simp) ?_
              refine AllReadyH.cons (o := ⟨_, _, _, _, _, _⟩) rfl (fun K hK => ?_) AllReadyH.nil
              refine wp_app20 (.tmp 94) (.tmp 110) rfl (.slice A3 es3.length c3) es3 rfl HOE.out w4.heap.size 1 ((newF st d code c sc now, B, dd, none, 0) : FwE) rfl HEL.out (by omega) ?_
              intro v6 w6 hO6 hg6 hv6
              have HV6 := Lib.hid hv6
              have HG6 := Lib.hid hg6
              have HGB6 := Lib.hid (show w6.heap[G]? = some (.cells #[.int .i64 (limI st.life), .int .i64 st.iv, .slice A3 es3.length c3] 75 (0, 0)) from (hg6.block G HGL5.out (fun e => HNO.out e.symm)).trans HG5.out)
              have SK6 := Lib.hid (show (fun w' => w'.cell? ⟨G, 0, none⟩ = some (.int .i64 (limI st.life)) ∧ w'.cell? ⟨G, 1, none⟩ = some (.int .i64 st.iv)) w6 from ⟨cell_block HGB6.out 0, cell_block HGB6.out 1⟩)
              have SK7 := Lib.hid (fun (v : Value) => show (fun w' => w'.cell? ⟨G, 0, none⟩ = some (.int .i64 (limI st.life)) ∧ w'.cell? ⟨G, 1, none⟩ = some (.int .i64 st.iv)) (w6.setCell ⟨G, 2, none⟩ v) from ⟨cell_block (heap_setCell_same w6 G 2 _ _ v HGB6.out) 0, cell_block (heap_setCell_same w6 G 2 _ _ v HGB6.out) 1⟩)
              have g2 := cell_block HGB6.out 2
              simp only [List.getElem?_toArray, List.getElem?_cons_zero, List.getElem?_cons_succ] at g2
              have f2 : w6.frozen? ⟨G, 2, none⟩ = false := by have := HGB6.out; simp only [World.frozen?, this]; rfl
              have hl6 : (es3 ++ [((newF st d code c sc now, B, dd, none, 0) : FwE)]).length = es3.length + 1 := by simp
              obtain ⟨A6, c6, rfl⟩ := hO6.len
              rw [hl6] at hO6
              rw [hl6] at HV6
              rw [hl6]
              have HO6 := Lib.hid hO6
              clear hO6 hg6 hv6 hl6
              (try go_wp2_with fail)
              refine hK.out _ _ ?_ (fun hHeld => ?_)
              focus ((try dsimp only); (first | exact SKA.out | exact SK7.out _ | exact SK6.out | exact SK5.out); done)
              clear hK K
              (try simp only [Act.put, List.setIfInBounds_toArray, List.set_cons_zero, List.set_cons_succ])
              refine wpAnyH_take (i := 22) (oi := ⟨_, _, _, _, _, _⟩) (v := ?_) rfl (by kernel_rfl) (by kernel_rfl) (by kernel_rfl) (fun _ _ _ h => h) (Or.inl ⟨by rfl, ?_⟩) (by assumption) ?_; rotate_left; (focus (intro w hSw; (try dsimp only at hSw); go_simp; (try with_reducible rfl); done)); simp only [Act.put, List.setIfInBounds_toArray, List.set_cons_zero, List.set_cons_succ]
              refine wpAnyH_take (i := 23) (oi := ⟨_, _, _, _, _, _⟩) (v := ?_) rfl (by kernel_rfl) (by kernel_rfl) (by kernel_rfl) (fun _ _ _ h => h) (Or.inl ⟨by rfl, ?_⟩) (by assumption) ?_; rotate_left; (focus (intro w hSw; (try dsimp only at hSw); go_simp; (try with_reducible rfl); done)); simp only [Act.put, List.setIfInBounds_toArray, List.set_cons_zero, List.set_cons_succ]
              refine wpAnyH_ready (rs := [24]) (by kernel_rfl) (by simp) ?_
              refine AllReadyH.cons (o := ⟨_, _, _, _, _, _⟩) rfl (fun K hK => ?_) AllReadyH.nil
              go_simp
              (try go_wp2_with fail)
              refine hK.out _ _ ?_ (fun hHeld => ?_)
              focus ((try dsimp only); (first | exact SKA.out | exact SK7.out _ | exact SK6.out | exact SK5.out); done)
              clear hK K
              (try simp only [Act.put, List.setIfInBounds_toArray, List.set_cons_zero, List.set_cons_succ])
              refine wpAnyH_done (by kernel_rfl) ?_ _
              go_wp2
              go_ret
              exact rsta_fin2 HQ.out HST.out HCU.out HE.out.inv HSH.out HP3.out HS3.out HE.out.lt HM3.out HGR.out HOW.out HO6.out HG6.out HV6.out
end Go.Proofs.YtapooonlbjgbgaaDoor.Dv
