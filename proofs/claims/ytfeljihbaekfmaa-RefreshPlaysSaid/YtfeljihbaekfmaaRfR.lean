/-
  The program's end, Revoke, RevokeSession, RevokeUser, RevokeClient.
-/
import Derived.Test.YtfeljihbaekfmaaRfQ
import Derived.Shelf.Abstract
namespace Go.Proofs.Ytfeljihbaekfmaa.Rf
open Go.RowKit Go.Proofs.Ytfeljihbaekfmaa.Fo Go.Maps

/-- A number comes back, the families have turned. -/
def NumIs (w : World) (S : Nat → Prop) (F : Nat) (n : Int) (st : St) (e : Ending) (w' : World) : Prop := e = .returned (.int .i64 n) ∧ RepE w' (grow S w w') F st ∧ Mods S w w'
theorem midP_same {p : Fm → Bool} {left left' : Lit → Bool} {pl : List (Nat × Fm)} (h : ∀ q ∈ pl, midF p left' q.2 = midF p left q.2) : midP p left' pl = midP p left pl := List.map_congr_left fun q hq => by rw [h q hq]
theorem midS_same {p : Fm → Bool} {left left' : Lit → Bool} {st : St} (h : ∀ x ∈ st.l, midF p left' x = midF p left x) : midS p left' st = midS p left st := by
  unfold midS
  rw [List.map_congr_left h]
theorem mid_fst (p : Fm → Bool) (left left' : Lit → Bool) (pl : List (Nat × Fm)) : (midP p left' pl).map (fun q => (q.1, q.2.id)) = (midP p left pl).map (fun q => (q.1, q.2.id)) := by
  unfold midP
  rw [List.map_map, List.map_map]
  refine List.map_congr_left fun q _ => ?_
  simp only [Function.comp, (midF_same p left q.2).1, (midF_same p left' q.2).1]
theorem mid_snd (p : Fm → Bool) (left left' : Lit → Bool) (l : List Fm) : (l.map (midF p left')).map (fun m => (m.id, m.toks)) = (l.map (midF p left)).map (fun m => (m.id, m.toks)) := by
  rw [List.map_map, List.map_map]
  refine List.map_congr_left fun q _ => ?_
  simp only [Function.comp, (midF_same p left q).1, (midF_same p left' q).1, (midF_same p left q).2.2.1, (midF_same p left' q).2.2.1]
theorem mid_hl {p : Fm → Bool} {left : Lit → Bool} {pl : List (Nat × Fm)} {st : St} (hl : pl.map Prod.snd = st.l) : (midP p left pl).map Prod.snd = (midS p left st).l := by
  unfold midP midS
  simp only [List.map_map, ← hl]
  rfl
/-- One family more has ended. -/
theorem rep_end {w : World} {S I : Nat → Prop} {F M1 M2 : Nat} {st : St} {pl : List (Nat × Fm)} {p : Fm → Bool} {left : Lit → Bool} {q : Nat × Fm} (hl : pl.map Prod.snd = st.l) (hn : (st.l.map Fm.id).Nodup) (hi : Inv st)
    (h : RepP w S I F (midS p left st) M1 M2 (midP p left pl)) (hq : q ∈ pl) (hlf : left (kyF q.2) = true) (he : q.2.ended = false) (hp : p q.2 = true) :
    RepP (w.setCell ⟨q.1, 15, none⟩ (.bool true)) S I F (midS p (fun z => left z && !z.sameKey (kyF q.2)) st) M1 M2 (midP p (fun z => left z && !z.sameKey (kyF q.2)) pl) := by
  have hm : (q.1, midF p left q.2) ∈ midP p left pl := List.mem_map.2 ⟨q, hq, rfl⟩
  have hq0 : midF p left q.2 = q.2 := by unfold midF; rw [if_pos hlf]
  rw [hq0] at hm
  obtain ⟨sq, iq⟩ := h.sb _ hm
  obtain ⟨A, c, hq1, _⟩ := h.hb _ hm
  have far : ∀ k, k ≠ q.1 → (w.setCell ⟨q.1, 15, none⟩ (.bool true)).heap[k]? = w.heap[k]? := fun k hk => Below.heap_setCell _ _ _ _ hk
  have nM1 : M1 ≠ q.1 := fun e => by
    obtain ⟨f1, m1, _⟩ := h.h1
    obtain ⟨es, cl, hmm⟩ := m1.isMap
    rw [e, hq1] at hmm
    cases hmm
  have nM2 : M2 ≠ q.1 := fun e => by
    obtain ⟨f1, m1, _⟩ := h.h2
    obtain ⟨es, cl, hmm⟩ := m1.isMap
    rw [e, hq1] at hmm
    cases hmm
  have nF : F ≠ q.1 := fun e => by
    have := h.hF
    rw [e, hq1] at this
    cases this
  refine rep_upd h rfl rfl (mid_hl hl) (mid_fst p left _ pl) (mid_snd p left _ st.l) (fun r hr => ?_) (fun _ e => e) (far _ nF) (far _ nM1) (far _ nM2) (fun k e => by have := h.lt k e; simpa [World.setCell] using this) (inv_map hi _ (midF_same p _))
  obtain ⟨r0, hr0, rfl⟩ := List.mem_map.1 hr
  by_cases e : r0 = q
  · subst e
    simp only [midF_this]
    have : endF p r0.2 = { r0.2 with ended := true } := by unfold endF; rw [if_pos (by simp [he, hp])]
    rw [this]
    exact (h.hb _ hm).ended iq
  · have hne : q.2.id ≠ r0.2.id := fun e2 => e (pl_inj hl hn hr0 hq e2.symm)
    have hne1 : r0.1 ≠ q.1 := fun e2 => by
      have hf := h.nd
      rw [show (midP p left pl).map Prod.fst = pl.map Prod.fst by unfold midP; rw [List.map_map]; rfl] at hf
      exact e (fst_inj hf hr0 hq e2)
    simp only [midF_other hne]
    have hm0 : (r0.1, midF p left r0.2) ∈ midP p left pl := List.mem_map.2 ⟨r0, hr0, rfl⟩
    exact (h.hb _ hm0).keep (fun _ e => e) (far _ hne1) (fun k hk => far _ (fun e2 => iq (by rw [← e2]; exact hk))) (by simp [World.setCell])

set_option maxRecDepth 100000 in
set_option maxHeartbeats 4000000 in
theorem end_1 {w : World} {S : Nat → Prop} {F : Nat} {st : St} (h : RepE w S F st) (fid b1 : Nat) (p : Fm → Bool) (hE : ∀ args w, (callFunc fid args).run Try.prog w = .ok (.enter fid args) w)
    (hc : ∀ (x : Fm) (A : Option Addr) (c : Nat) (w1 : World), w.heap.size ≤ w1.heap.size → (∀ k, k < w.heap.size → ¬ S k → w1.heap[k]? = w.heap[k]?) → Calls Try.prog fid #[.string x.id, .agg #[.string x.g.user, .string x.g.client, .string x.g.tenant, .string x.g.session, .string x.g.redirect, .string x.g.nonce, .string x.g.challenge, .int .i64 x.g.method, (.slice A x.g.scopes.length c), .int .i64 x.g.auth, .int .i64 x.g.level], .pointer (some ⟨b1, 0, none⟩)] w1 fun e w' => e = .returned (.bool (p x)) ∧ Below w1.heap.size w1 w') :
    Calls Try.prog 49 #[.pointer (some ⟨F, 0, none⟩), .func (.func fid) #[] #[.pointer (some ⟨b1, 0, none⟩)]] w (NumIs w S F (endN p st : Nat) (endS p st)) := by
  obtain ⟨I, M1, M2, pl, h⟩ := h
  have c2 := h.c2
  have HNd := Lib.hid h.inv.ids
  have HINV := Lib.hid h.inv
  have hl256 := h.inv.len
  have hFlt := h.lt _ h.sF.1
  obtain ⟨f1, ⟨D, ho, hsz, hv⟩, v1⟩ := h.h1
  have HL := Lib.hid h.hl
  have HV := Lib.hid hv
  have HV1 := Lib.hid v1
  have HO := Lib.hid ho
  have HP := Lib.hid (show ∀ x d, f1 x = some d → ∃ q : Nat, d = .lit (.int .i64 (q : Nat)) from fun x d hx => by obtain ⟨p, _, _, e⟩ := (v1 x d).1 hx; exact ⟨p.1, e⟩)
  have HH := Lib.hid (has_all hv v1 h.hl)
  have H := Lib.hid h
  have HC := Lib.hid hc
  have HLT := Lib.hid h.lt
  clear h hv v1 hsz ho hc
  go_enter Try.func49, Try.ntmps49
  go_wp2_with (first | (go_at_call 40; refine (made_yes H.out).mono ?_; rintro e w1 ⟨rfl, rfl⟩) | (at_range; refine wpList_range_own _ rfl _ 61 rfl 9 73 (Go.Maps.string_keyed strT) map1 ptrR M1 pl.length D rfl HO.out ?_; intro w0 hrg0 hg0 hs0))
  go_frame
  have HR0 := Lib.hid hrg0
  have HB0 := Lib.hid (show Below w.heap.size w w0 from (Below.refl _ _).grown hg0 (Nat.le_refl _) (fun k e => by cases e))
  clear hrg0 hg0
  go_loopw [5] (fun n wr => ∃ (left : Lit → Bool) (cnt m : Nat), n = .int .i64 m ∧ wr.ranges Try.prog 9 ptrR M1 w.heap.size pl.length D left cnt ∧ Hid (m = cntL left (fun x => !x.ended && p x) st.l) ∧ Hid (RepP wr S I F (midS p left st) M1 M2 (midP p left pl)) ∧ Hid (Mods S w wr)) (fun _ wr => wr.rangeLeft M1 w.heap.size)
  case atStart => exact ⟨Maps.has D, Maps.size D, 0, rfl, HR0.out, (cntL_start HH.out).symm, (by rw [midS_start HH.out, midP_start HL.out HH.out]; exact H.out.below HB0.out), Mods.of_below _ HB0.out⟩
  case round =>
    obtain ⟨left, cnt, m, rfl, hrg, HM, HR, HB⟩ := hrel
    have HRG := Lib.hid hrg
    have hm256 : m ≤ st.l.length := by rw [HM.out]; exact cntL_le _ _ _
    clear hrg
    go_wp2_with (at_next; refine wpList_next_view rfl _ rfl 9 strT M1 w.heap.size _ D f1 HV.out HP.out left cnt rfl HRG.out ?_ ?_)
    · intro hl
      have HF := Lib.hid (show m = endN p st by rw [HM.out, cntL_end hl]; rfl)
      have HS := Lib.hid (midS_end (p := p) (st := st) hl)
      clear hl
      go_wp2
      go_ret
      exact ⟨ret_int (by rw [HF.out]), ⟨I, M1, M2, _, by rw [← HS.out]; exact HR.out.grow w (Nat.le_refl _) (fun _ _ => rfl)⟩, HB.out⟩
    · intro s q w2 cnt2 hf hlk hrg2 hlt hg2 hs2 hen
      obtain ⟨r, hp, hps, hpq⟩ := (HV1.out _ _).1 hf
      simp only [DataW.lit.injEq, Lit.int.injEq, true_and] at hpq
      have hq : q = r.1 := by omega
      subst hq
      have hs : s = r.2.id := (bs_ext hps).symm
      subst hs
      have HRG2 := Lib.hid hrg2
      have HBZ := Lib.hid HB.out.size
      have HB2 := Lib.hid (HB.out.grown hg2 (fun b e => by injection e with e; subst e; exact Or.inr (Nat.le_refl _)))
      have HR2 := Lib.hid (HR.out.keep (w' := w2) (fun _ e => e) (fun k e => hg2.block k (HR.out.lt k e) (fun e2 => by injection e2 with e2; have := HLT.out k e; omega)) hg2.size (fun k e => Nat.lt_of_lt_of_le (HR.out.lt k e) hg2.size))
      have HST := Lib.hid (cntL_step (c := fun x => !x.ended && p x) HNd.out (snd_mem HL.out hp) (show left (kyF r.2) = true from hlk))
      have HLT2 := Lib.hid hlt
      have HPP := Lib.hid hp
      have HLF := Lib.hid (show left (kyF r.2) = true from hlk)
      have hm0 : (r.1, midF p left r.2) ∈ midP p left pl := List.mem_map.2 ⟨r, hp, rfl⟩
      rw [show midF p left r.2 = r.2 by unfold midF; rw [if_pos HLF.out]] at hm0
      have hbr := HR2.out.hb _ hm0
      have hrn : r.1 < w.heap.size := HLT.out _ (HR2.out.sb _ hm0).1
      obtain ⟨A, c, hblk, hss, hIA⟩ := hbr
      have HM0 := Lib.hid hm0
      clear hf hlk hrg2 hlt hg2 hps hpq hp hss hIA hm0
      have k0 := cell_block hblk 0
      have k1 := cell_block hblk 1
      have k2 := cell_block hblk 2
      have k3 := cell_block hblk 3
      have k4 := cell_block hblk 4
      have k5 := cell_block hblk 5
      have k6 := cell_block hblk 6
      have k7 := cell_block hblk 7
      have k8 := cell_block hblk 8
      have k9 := cell_block hblk 9
      have k10 := cell_block hblk 10
      have k15 := cell_block hblk 15
      simp only [List.getElem?_toArray, List.getElem?_cons_zero, List.getElem?_cons_succ] at k0 k1 k2 k3 k4 k5 k6 k7 k8 k9 k10 k15
      have HBLK := Lib.hid hblk
      clear hblk
      cases he : r.2.ended with
      | true =>
        have HI := Lib.hid (show m = cntL (fun z => left z && !z.sameKey (kyF r.2)) (fun x => !x.ended && p x) st.l by rw [HST.out, HM.out]; simp [he])
        have hsame : ∀ x ∈ st.l, midF p (fun z => left z && !z.sameKey (kyF r.2)) x = midF p left x := fun x hx => by
          by_cases e : x.id = r.2.id
          · rw [← HL.out] at hx
            obtain ⟨q0, hq0, rfl⟩ := List.mem_map.1 hx
            have := pl_inj HL.out HNd.out hq0 HPP.out e
            subst this
            rw [midF_this]
            unfold midF endF
            rw [if_pos HLF.out, he]
            simp
          · exact midF_other fun e2 => e e2.symm
        have HR3 := Lib.hid (show RepP w2 S I F (midS p (fun z => left z && !z.sameKey (kyF r.2)) st) M1 M2 (midP p (fun z => left z && !z.sameKey (kyF r.2)) pl) by rw [midS_same hsame, midP_same (fun q hq => hsame q.2 (snd_mem HL.out hq))]; exact HR2.out)
        rw [he] at k15
        clear he hsame
        go_wp2
        go_roundw
        case rel => exact ⟨_, cnt2, m, rfl, HRG2.out, HI.out, HR3.out, HB2.out⟩
        case measure => rw [HRG2.out.left_eq, HRG.out.left_eq]; exact HLT2.out
      | false =>
        rw [he] at k15
        have HE := Lib.hid he
        clear he
        have kf : w2.frozen? ⟨r.1, 15, none⟩ = false := by simp [World.frozen?, HBLK.out]
        have hnM : M1 ≠ r.1 := fun e => by
          obtain ⟨g1, m1, _⟩ := HR2.out.h1
          obtain ⟨es, cl, hmm⟩ := m1.isMap
          rw [e, HBLK.out] at hmm
          cases hmm
        have Hend_1 := Lib.hid hnM
        clear hnM
        cases hpr : p r.2 with
        | true =>
          have HPR := Lib.hid hpr
          have HI := Lib.hid (show m + 1 = cntL (fun z => left z && !z.sameKey (kyF r.2)) (fun x => !x.ended && p x) st.l by rw [HST.out, HM.out]; simp [HE.out, hpr])
          clear hpr
          go_wp2_with (refine (HC.out r.2 A c w2 (Nat.le_trans HBZ.out (by omega)) (fun k hk hk2 => HB2.out.block k hk hk2)).mono ?_; rintro e w3 ⟨rfl, hb3⟩; have HBC := Lib.hid hb3; have k15' := (bkeep hb3 (World.block_lt_of_cell? w2 _ k15) 15).trans k15; have kf' := (bkeepf hb3 (World.block_lt_of_cell? w2 _ k15) 15).trans kf; clear hb3; rw [HPR.out])
          have hg3 : w3.grownBy (w3.setCell ⟨r.1, 15, none⟩ (.bool true)) (some r.1) := ⟨rfl, rfl, rfl, by simp [World.setCell], fun k _ hk => Below.heap_setCell _ _ _ _ (fun e => hk (by rw [e]))⟩
          have HRG4 := Lib.hid ((ranges_below HRG2.out HBC.out).kept hg3 (fun e => by injection e with e; exact Hend_1.out e) (fun e => by injection e with e; omega))
          have HRP4 := Lib.hid (rep_end HL.out HNd.out HINV.out (HR2.out.below HBC.out) HPP.out HLF.out HE.out HPR.out)
          have HB4 := Lib.hid (((HB2.out.below HBC.out).setCell (p := ⟨r.1, 15, none⟩) (Or.inl (HR2.out.sb _ HM0.out).1) (.bool true)))
          clear hg3
          go_roundw
          case rel => exact ⟨_, cnt2, m + 1, by go_num, HRG4.out, HI.out, HRP4.out, HB4.out⟩
          case measure => rw [HRG4.out.left_eq, HRG.out.left_eq]; exact HLT2.out
        | false =>
          have HPR := Lib.hid hpr
          have HI := Lib.hid (show m = cntL (fun z => left z && !z.sameKey (kyF r.2)) (fun x => !x.ended && p x) st.l by rw [HST.out, HM.out]; simp [hpr])
          have hsame : ∀ x ∈ st.l, midF p (fun z => left z && !z.sameKey (kyF r.2)) x = midF p left x := fun x hx => by
            by_cases e : x.id = r.2.id
            · rw [← HL.out] at hx
              obtain ⟨q0, hq0, rfl⟩ := List.mem_map.1 hx
              have := pl_inj HL.out HNd.out hq0 HPP.out e
              subst this
              rw [midF_this]
              unfold midF endF
              rw [if_pos HLF.out, hpr]
              simp
            · exact midF_other fun e2 => e e2.symm
          have HR3 := Lib.hid (show RepP w2 S I F (midS p (fun z => left z && !z.sameKey (kyF r.2)) st) M1 M2 (midP p (fun z => left z && !z.sameKey (kyF r.2)) pl) by rw [midS_same hsame, midP_same (fun q hq => hsame q.2 (snd_mem HL.out hq))]; exact HR2.out)
          clear hpr hsame
          go_wp2_with (refine (HC.out r.2 A c w2 (Nat.le_trans HBZ.out (by omega)) (fun k hk hk2 => HB2.out.block k hk hk2)).mono ?_; rintro e w3 ⟨rfl, hb3⟩; have HBC := Lib.hid hb3; clear hb3; rw [HPR.out])
          have HRG4 := Lib.hid (ranges_below HRG2.out HBC.out)
          go_roundw
          case rel => exact ⟨_, cnt2, m, rfl, HRG4.out, HI.out, HR3.out.below HBC.out, HB2.out.below HBC.out⟩
          case measure => rw [HRG4.out.left_eq, HRG.out.left_eq]; exact HLT2.out

set_option maxRecDepth 100000 in
set_option maxHeartbeats 4000000 in
theorem end_2 {w : World} {S : Nat → Prop} {F : Nat} {st : St} (h : RepE w S F st) (fid b1 b2 : Nat) (p : Fm → Bool) (hE : ∀ args w, (callFunc fid args).run Try.prog w = .ok (.enter fid args) w)
    (hc : ∀ (x : Fm) (A : Option Addr) (c : Nat) (w1 : World), w.heap.size ≤ w1.heap.size → (∀ k, k < w.heap.size → ¬ S k → w1.heap[k]? = w.heap[k]?) → Calls Try.prog fid #[.string x.id, .agg #[.string x.g.user, .string x.g.client, .string x.g.tenant, .string x.g.session, .string x.g.redirect, .string x.g.nonce, .string x.g.challenge, .int .i64 x.g.method, (.slice A x.g.scopes.length c), .int .i64 x.g.auth, .int .i64 x.g.level], .pointer (some ⟨b1, 0, none⟩), .pointer (some ⟨b2, 0, none⟩)] w1 fun e w' => e = .returned (.bool (p x)) ∧ Below w1.heap.size w1 w') :
    Calls Try.prog 49 #[.pointer (some ⟨F, 0, none⟩), .func (.func fid) #[] #[.pointer (some ⟨b1, 0, none⟩), .pointer (some ⟨b2, 0, none⟩)]] w (NumIs w S F (endN p st : Nat) (endS p st)) := by
  obtain ⟨I, M1, M2, pl, h⟩ := h
  have c2 := h.c2
  have HNd := Lib.hid h.inv.ids
  have HINV := Lib.hid h.inv
  have hl256 := h.inv.len
  have hFlt := h.lt _ h.sF.1
  obtain ⟨f1, ⟨D, ho, hsz, hv⟩, v1⟩ := h.h1
  have HL := Lib.hid h.hl
  have HV := Lib.hid hv
  have HV1 := Lib.hid v1
  have HO := Lib.hid ho
  have HP := Lib.hid (show ∀ x d, f1 x = some d → ∃ q : Nat, d = .lit (.int .i64 (q : Nat)) from fun x d hx => by obtain ⟨p, _, _, e⟩ := (v1 x d).1 hx; exact ⟨p.1, e⟩)
  have HH := Lib.hid (has_all hv v1 h.hl)
  have H := Lib.hid h
  have HC := Lib.hid hc
  have HLT := Lib.hid h.lt
  clear h hv v1 hsz ho hc
  go_enter Try.func49, Try.ntmps49
  go_wp2_with (first | (go_at_call 40; refine (made_yes H.out).mono ?_; rintro e w1 ⟨rfl, rfl⟩) | (at_range; refine wpList_range_own _ rfl _ 61 rfl 9 73 (Go.Maps.string_keyed strT) map1 ptrR M1 pl.length D rfl HO.out ?_; intro w0 hrg0 hg0 hs0))
  go_frame
  have HR0 := Lib.hid hrg0
  have HB0 := Lib.hid (show Below w.heap.size w w0 from (Below.refl _ _).grown hg0 (Nat.le_refl _) (fun k e => by cases e))
  clear hrg0 hg0
  go_loopw [5] (fun n wr => ∃ (left : Lit → Bool) (cnt m : Nat), n = .int .i64 m ∧ wr.ranges Try.prog 9 ptrR M1 w.heap.size pl.length D left cnt ∧ Hid (m = cntL left (fun x => !x.ended && p x) st.l) ∧ Hid (RepP wr S I F (midS p left st) M1 M2 (midP p left pl)) ∧ Hid (Mods S w wr)) (fun _ wr => wr.rangeLeft M1 w.heap.size)
  case atStart => exact ⟨Maps.has D, Maps.size D, 0, rfl, HR0.out, (cntL_start HH.out).symm, (by rw [midS_start HH.out, midP_start HL.out HH.out]; exact H.out.below HB0.out), Mods.of_below _ HB0.out⟩
  case round =>
    obtain ⟨left, cnt, m, rfl, hrg, HM, HR, HB⟩ := hrel
    have HRG := Lib.hid hrg
    have hm256 : m ≤ st.l.length := by rw [HM.out]; exact cntL_le _ _ _
    clear hrg
    go_wp2_with (at_next; refine wpList_next_view rfl _ rfl 9 strT M1 w.heap.size _ D f1 HV.out HP.out left cnt rfl HRG.out ?_ ?_)
    · intro hl
      have HF := Lib.hid (show m = endN p st by rw [HM.out, cntL_end hl]; rfl)
      have HS := Lib.hid (midS_end (p := p) (st := st) hl)
      clear hl
      go_wp2
      go_ret
      exact ⟨ret_int (by rw [HF.out]), ⟨I, M1, M2, _, by rw [← HS.out]; exact HR.out.grow w (Nat.le_refl _) (fun _ _ => rfl)⟩, HB.out⟩
    · intro s q w2 cnt2 hf hlk hrg2 hlt hg2 hs2 hen
      obtain ⟨r, hp, hps, hpq⟩ := (HV1.out _ _).1 hf
      simp only [DataW.lit.injEq, Lit.int.injEq, true_and] at hpq
      have hq : q = r.1 := by omega
      subst hq
      have hs : s = r.2.id := (bs_ext hps).symm
      subst hs
      have HRG2 := Lib.hid hrg2
      have HBZ := Lib.hid HB.out.size
      have HB2 := Lib.hid (HB.out.grown hg2 (fun b e => by injection e with e; subst e; exact Or.inr (Nat.le_refl _)))
      have HR2 := Lib.hid (HR.out.keep (w' := w2) (fun _ e => e) (fun k e => hg2.block k (HR.out.lt k e) (fun e2 => by injection e2 with e2; have := HLT.out k e; omega)) hg2.size (fun k e => Nat.lt_of_lt_of_le (HR.out.lt k e) hg2.size))
      have HST := Lib.hid (cntL_step (c := fun x => !x.ended && p x) HNd.out (snd_mem HL.out hp) (show left (kyF r.2) = true from hlk))
      have HLT2 := Lib.hid hlt
      have HPP := Lib.hid hp
      have HLF := Lib.hid (show left (kyF r.2) = true from hlk)
      have hm0 : (r.1, midF p left r.2) ∈ midP p left pl := List.mem_map.2 ⟨r, hp, rfl⟩
      rw [show midF p left r.2 = r.2 by unfold midF; rw [if_pos HLF.out]] at hm0
      have hbr := HR2.out.hb _ hm0
      have hrn : r.1 < w.heap.size := HLT.out _ (HR2.out.sb _ hm0).1
      obtain ⟨A, c, hblk, hss, hIA⟩ := hbr
      have HM0 := Lib.hid hm0
      clear hf hlk hrg2 hlt hg2 hps hpq hp hss hIA hm0
      have k0 := cell_block hblk 0
      have k1 := cell_block hblk 1
      have k2 := cell_block hblk 2
      have k3 := cell_block hblk 3
      have k4 := cell_block hblk 4
      have k5 := cell_block hblk 5
      have k6 := cell_block hblk 6
      have k7 := cell_block hblk 7
      have k8 := cell_block hblk 8
      have k9 := cell_block hblk 9
      have k10 := cell_block hblk 10
      have k15 := cell_block hblk 15
      simp only [List.getElem?_toArray, List.getElem?_cons_zero, List.getElem?_cons_succ] at k0 k1 k2 k3 k4 k5 k6 k7 k8 k9 k10 k15
      have HBLK := Lib.hid hblk
      clear hblk
      cases he : r.2.ended with
      | true =>
        have HI := Lib.hid (show m = cntL (fun z => left z && !z.sameKey (kyF r.2)) (fun x => !x.ended && p x) st.l by rw [HST.out, HM.out]; simp [he])
        have hsame : ∀ x ∈ st.l, midF p (fun z => left z && !z.sameKey (kyF r.2)) x = midF p left x := fun x hx => by
          by_cases e : x.id = r.2.id
          · rw [← HL.out] at hx
            obtain ⟨q0, hq0, rfl⟩ := List.mem_map.1 hx
            have := pl_inj HL.out HNd.out hq0 HPP.out e
            subst this
            rw [midF_this]
            unfold midF endF
            rw [if_pos HLF.out, he]
            simp
          · exact midF_other fun e2 => e e2.symm
        have HR3 := Lib.hid (show RepP w2 S I F (midS p (fun z => left z && !z.sameKey (kyF r.2)) st) M1 M2 (midP p (fun z => left z && !z.sameKey (kyF r.2)) pl) by rw [midS_same hsame, midP_same (fun q hq => hsame q.2 (snd_mem HL.out hq))]; exact HR2.out)
        rw [he] at k15
        clear he hsame
        go_wp2
        go_roundw
        case rel => exact ⟨_, cnt2, m, rfl, HRG2.out, HI.out, HR3.out, HB2.out⟩
        case measure => rw [HRG2.out.left_eq, HRG.out.left_eq]; exact HLT2.out
      | false =>
        rw [he] at k15
        have HE := Lib.hid he
        clear he
        have kf : w2.frozen? ⟨r.1, 15, none⟩ = false := by simp [World.frozen?, HBLK.out]
        have hnM : M1 ≠ r.1 := fun e => by
          obtain ⟨g1, m1, _⟩ := HR2.out.h1
          obtain ⟨es, cl, hmm⟩ := m1.isMap
          rw [e, HBLK.out] at hmm
          cases hmm
        have Hend_2 := Lib.hid hnM
        clear hnM
        cases hpr : p r.2 with
        | true =>
          have HPR := Lib.hid hpr
          have HI := Lib.hid (show m + 1 = cntL (fun z => left z && !z.sameKey (kyF r.2)) (fun x => !x.ended && p x) st.l by rw [HST.out, HM.out]; simp [HE.out, hpr])
          clear hpr
          go_wp2_with (refine (HC.out r.2 A c w2 (Nat.le_trans HBZ.out (by omega)) (fun k hk hk2 => HB2.out.block k hk hk2)).mono ?_; rintro e w3 ⟨rfl, hb3⟩; have HBC := Lib.hid hb3; have k15' := (bkeep hb3 (World.block_lt_of_cell? w2 _ k15) 15).trans k15; have kf' := (bkeepf hb3 (World.block_lt_of_cell? w2 _ k15) 15).trans kf; clear hb3; rw [HPR.out])
          have hg3 : w3.grownBy (w3.setCell ⟨r.1, 15, none⟩ (.bool true)) (some r.1) := ⟨rfl, rfl, rfl, by simp [World.setCell], fun k _ hk => Below.heap_setCell _ _ _ _ (fun e => hk (by rw [e]))⟩
          have HRG4 := Lib.hid ((ranges_below HRG2.out HBC.out).kept hg3 (fun e => by injection e with e; exact Hend_2.out e) (fun e => by injection e with e; omega))
          have HRP4 := Lib.hid (rep_end HL.out HNd.out HINV.out (HR2.out.below HBC.out) HPP.out HLF.out HE.out HPR.out)
          have HB4 := Lib.hid (((HB2.out.below HBC.out).setCell (p := ⟨r.1, 15, none⟩) (Or.inl (HR2.out.sb _ HM0.out).1) (.bool true)))
          clear hg3
          go_roundw
          case rel => exact ⟨_, cnt2, m + 1, by go_num, HRG4.out, HI.out, HRP4.out, HB4.out⟩
          case measure => rw [HRG4.out.left_eq, HRG.out.left_eq]; exact HLT2.out
        | false =>
          have HPR := Lib.hid hpr
          have HI := Lib.hid (show m = cntL (fun z => left z && !z.sameKey (kyF r.2)) (fun x => !x.ended && p x) st.l by rw [HST.out, HM.out]; simp [hpr])
          have hsame : ∀ x ∈ st.l, midF p (fun z => left z && !z.sameKey (kyF r.2)) x = midF p left x := fun x hx => by
            by_cases e : x.id = r.2.id
            · rw [← HL.out] at hx
              obtain ⟨q0, hq0, rfl⟩ := List.mem_map.1 hx
              have := pl_inj HL.out HNd.out hq0 HPP.out e
              subst this
              rw [midF_this]
              unfold midF endF
              rw [if_pos HLF.out, hpr]
              simp
            · exact midF_other fun e2 => e e2.symm
          have HR3 := Lib.hid (show RepP w2 S I F (midS p (fun z => left z && !z.sameKey (kyF r.2)) st) M1 M2 (midP p (fun z => left z && !z.sameKey (kyF r.2)) pl) by rw [midS_same hsame, midP_same (fun q hq => hsame q.2 (snd_mem HL.out hq))]; exact HR2.out)
          clear hpr hsame
          go_wp2_with (refine (HC.out r.2 A c w2 (Nat.le_trans HBZ.out (by omega)) (fun k hk hk2 => HB2.out.block k hk hk2)).mono ?_; rintro e w3 ⟨rfl, hb3⟩; have HBC := Lib.hid hb3; clear hb3; rw [HPR.out])
          have HRG4 := Lib.hid (ranges_below HRG2.out HBC.out)
          go_roundw
          case rel => exact ⟨_, cnt2, m, rfl, HRG4.out, HI.out, HR3.out.below HBC.out, HB2.out.below HBC.out⟩
          case measure => rw [HRG4.out.left_eq, HRG.out.left_eq]; exact HLT2.out

theorem num_alloc {w w' : World} {S : Nat → Prop} {F : Nat} {n : Int} {st : St} {e : Ending} {ob : Obj} (h : NumIs (w.alloc ob) S F n st e w') : NumIs w S F n st e w' := by
  obtain ⟨h1, h2, h3⟩ := h
  have hz := h3.size
  rw [World.size_alloc] at hz
  refine ⟨h1, h2.keep (fun k e => ?_) (fun _ _ => rfl) (Nat.le_refl _) (fun k e => ?_), ?_⟩
  · rcases e with e | e
    · exact Or.inl e
    · exact Or.inr ⟨by have := e.1; rw [World.size_alloc] at this; omega, e.2⟩
  · rcases e with e | e
    · exact h2.lt k (Or.inl e)
    · exact e.2
  · exact ⟨h3.os, h3.tape, h3.output, by omega, fun k hk hn => (h3.block k (by rw [World.size_alloc]; omega) hn).trans (Below.heap_alloc _ _ _ hk)⟩
theorem cell_keep {w w1 : World} {S : Nat → Prop} {b o : Nat} {v : Value} (hs : ∀ k, S k → k < b) (hb : b < w.heap.size) (hc : w.cell? ⟨b, o, none⟩ = some v) (hk : ∀ k, k < w.heap.size → ¬ S k → w1.heap[k]? = w.heap[k]?) : w1.cell? ⟨b, o, none⟩ = some v := by
  rw [World.cell?_of_block (w := w) (hk b hb (fun e => by have := hs b e; omega))]
  exact hc
/-- The families of a session. -/
def isSes (s : Bs) (x : Fm) : Bool := decide (x.g.session = s)
def isUsr (s : Bs) (x : Fm) : Bool := decide (x.g.user = s)
def isCli (s c : Bs) (x : Fm) : Bool := decide (x.g.user = s) && decide (x.g.client = c)
def isId (i : Bs) (x : Fm) : Bool := decide (x.id = i)
theorem clos_id (i : Bs) (g : Gr) (Sc : Value) (b1 : Nat) (s : Bs) (w : World) (cb1 : w.cell? ⟨b1, 0, none⟩ = some (.string s)) :
    Calls Try.prog 54 #[.string i, .agg #[.string g.user, .string g.client, .string g.tenant, .string g.session, .string g.redirect, .string g.nonce, .string g.challenge, .int .i64 g.method, Sc, .int .i64 g.auth, .int .i64 g.level], .pointer (some ⟨b1, 0, none⟩)] w fun e w' => e = .returned (.bool (decide (i = s))) ∧ Below w.heap.size w w' := by
  have cb1' := (bkeep ((Below.refl w.heap.size w).alloc (Nat.le_refl _) (.cells #[.string g.user, .string g.client, .string g.tenant, .string g.session, .string g.redirect, .string g.nonce, .string g.challenge, .int .i64 g.method, Sc, .int .i64 g.auth, .int .i64 g.level] 35)) (World.block_lt_of_cell? w _ cb1) 0).trans cb1
  go_enter Try.func54, Try.ntmps54
  go_wp2
  go_ret
  exact ⟨ret_bool eq_toList, by go_grown⟩
theorem clos_ses (i : Bs) (g : Gr) (Sc : Value) (b1 : Nat) (s : Bs) (w : World) (cb1 : w.cell? ⟨b1, 0, none⟩ = some (.string s)) :
    Calls Try.prog 51 #[.string i, .agg #[.string g.user, .string g.client, .string g.tenant, .string g.session, .string g.redirect, .string g.nonce, .string g.challenge, .int .i64 g.method, Sc, .int .i64 g.auth, .int .i64 g.level], .pointer (some ⟨b1, 0, none⟩)] w fun e w' => e = .returned (.bool (decide (g.session = s))) ∧ Below w.heap.size w w' := by
  have cb1' := (bkeep ((Below.refl w.heap.size w).alloc (Nat.le_refl _) (.cells #[.string g.user, .string g.client, .string g.tenant, .string g.session, .string g.redirect, .string g.nonce, .string g.challenge, .int .i64 g.method, Sc, .int .i64 g.auth, .int .i64 g.level] 35)) (World.block_lt_of_cell? w _ cb1) 0).trans cb1
  go_enter Try.func51, Try.ntmps51
  go_wp2
  go_ret
  exact ⟨ret_bool eq_toList, by go_grown⟩
theorem clos_usr (i : Bs) (g : Gr) (Sc : Value) (b1 : Nat) (s : Bs) (w : World) (cb1 : w.cell? ⟨b1, 0, none⟩ = some (.string s)) :
    Calls Try.prog 52 #[.string i, .agg #[.string g.user, .string g.client, .string g.tenant, .string g.session, .string g.redirect, .string g.nonce, .string g.challenge, .int .i64 g.method, Sc, .int .i64 g.auth, .int .i64 g.level], .pointer (some ⟨b1, 0, none⟩)] w fun e w' => e = .returned (.bool (decide (g.user = s))) ∧ Below w.heap.size w w' := by
  have cb1' := (bkeep ((Below.refl w.heap.size w).alloc (Nat.le_refl _) (.cells #[.string g.user, .string g.client, .string g.tenant, .string g.session, .string g.redirect, .string g.nonce, .string g.challenge, .int .i64 g.method, Sc, .int .i64 g.auth, .int .i64 g.level] 35)) (World.block_lt_of_cell? w _ cb1) 0).trans cb1
  go_enter Try.func52, Try.ntmps52
  go_wp2
  go_ret
  exact ⟨ret_bool eq_toList, by go_grown⟩
theorem clos_cli (i : Bs) (g : Gr) (Sc : Value) (b1 : Nat) (s : Bs) (b2 : Nat) (c : Bs) (w : World) (cb1 : w.cell? ⟨b1, 0, none⟩ = some (.string s)) (cb2 : w.cell? ⟨b2, 0, none⟩ = some (.string c)) :
    Calls Try.prog 50 #[.string i, .agg #[.string g.user, .string g.client, .string g.tenant, .string g.session, .string g.redirect, .string g.nonce, .string g.challenge, .int .i64 g.method, Sc, .int .i64 g.auth, .int .i64 g.level], .pointer (some ⟨b1, 0, none⟩), .pointer (some ⟨b2, 0, none⟩)] w fun e w' => e = .returned (.bool (decide (g.user = s) && decide (g.client = c))) ∧ Below w.heap.size w w' := by
  have cb1' := (bkeep ((Below.refl w.heap.size w).alloc (Nat.le_refl _) (.cells #[.string g.user, .string g.client, .string g.tenant, .string g.session, .string g.redirect, .string g.nonce, .string g.challenge, .int .i64 g.method, Sc, .int .i64 g.auth, .int .i64 g.level] 35)) (World.block_lt_of_cell? w _ cb1) 0).trans cb1
  have cb2' := (bkeep ((Below.refl w.heap.size w).alloc (Nat.le_refl _) (.cells #[.string g.user, .string g.client, .string g.tenant, .string g.session, .string g.redirect, .string g.nonce, .string g.challenge, .int .i64 g.method, Sc, .int .i64 g.auth, .int .i64 g.level] 35)) (World.block_lt_of_cell? w _ cb2) 0).trans cb2
  by_cases h1 : g.user = s
  · have e1 : (g.user.toList == s.toList) = true := by rw [eq_toList]; simpa using h1
    have HR := Lib.hid (show (decide (g.user = s) && decide (g.client = c)) = decide (g.client = c) by simp [h1])
    clear h1
    go_enter Try.func50, Try.ntmps50
    go_wp2
    go_ret
    exact ⟨ret_bool (by rw [HR.out]; exact eq_toList), by go_grown⟩
  · have e1 : (g.user.toList == s.toList) = false := by rw [eq_toList]; simpa using h1
    have HR := Lib.hid (show (decide (g.user = s) && decide (g.client = c)) = false by simp [h1])
    clear h1
    go_enter Try.func50, Try.ntmps50
    go_wp2
    go_ret
    exact ⟨ret_bool HR.out.symm, by go_grown⟩
theorem entId : ∀ args w, (callFunc 54 args).run Try.prog w = .ok (.enter 54 args) w := enters_of Try.func54 (by kernel_rfl) rfl
theorem entSes : ∀ args w, (callFunc 51 args).run Try.prog w = .ok (.enter 51 args) w := enters_of Try.func51 (by kernel_rfl) rfl
theorem entUsr : ∀ args w, (callFunc 52 args).run Try.prog w = .ok (.enter 52 args) w := enters_of Try.func52 (by kernel_rfl) rfl
theorem entCli : ∀ args w, (callFunc 50 args).run Try.prog w = .ok (.enter 50 args) w := enters_of Try.func50 (by kernel_rfl) rfl
theorem revoke_any {w : World} {S : Nat → Prop} {F : Nat} {st : St} (h : RepE w S F st) (s : Bs) :
    Calls Try.prog 30 #[.pointer (some ⟨F, 0, none⟩), .string s] w fun e w' => e = .returned (.bool (decide (endN (isId s) st = 1))) ∧ RepE w' (grow S w w') F (endS (isId s) st) ∧ Mods S w w' := by
  have HLT := Lib.hid h.lt
  have H := Lib.hid (show RepE (w.alloc (.cells #[.string s] 9)) S F st from h.below (by go_grown))
  have HC := Lib.hid (show (w.alloc (.cells #[.string s] 9)).cell? ⟨w.heap.size, 0, none⟩ = some (.string s) by simp [go_sem])
  have HE := Lib.hid (end_1 H.out 54 w.heap.size (isId s) entId (fun x A c w1 _ hk => clos_id x.id x.g _ w.heap.size s w1 (cell_keep HLT.out (by simp) HC.out hk)))
  clear h
  go_enter Try.func30, Try.ntmps30
  go_wp2_with fail
  refine HE.out.mono ?_
  rintro e w1 hn
  obtain ⟨rfl, h2, h3⟩ := num_alloc hn
  have H2 := Lib.hid h2
  have H3 := Lib.hid h3
  clear hn h2 h3
  obtain ⟨m, hm⟩ : ∃ m, endN (isId s) st = m := ⟨_, rfl⟩
  have HQ := Lib.hid (show ((m : Int) == 1) = decide (endN (isId s) st = 1) by rw [hm, Bool.eq_iff_iff, beq_iff_eq, decide_eq_true_eq]; omega)
  rw [hm]
  clear hm
  go_wp2
  go_ret
  exact ⟨ret_bool HQ.out, H2.out, H3.out⟩
theorem revSes_any {w : World} {S : Nat → Prop} {F : Nat} {st : St} (h : RepE w S F st) (s : Bs) :
    Calls Try.prog 27 #[.pointer (some ⟨F, 0, none⟩), .string s] w (NumIs w S F (endN (isSes s) st : Nat) (endS (isSes s) st)) := by
  have HLT := Lib.hid h.lt
  have H := Lib.hid (show RepE (w.alloc (.cells #[.string s] 9)) S F st from h.below (by go_grown))
  have HC := Lib.hid (show (w.alloc (.cells #[.string s] 9)).cell? ⟨w.heap.size, 0, none⟩ = some (.string s) by simp [go_sem])
  have HE := Lib.hid (end_1 H.out 51 w.heap.size (isSes s) entSes (fun x A c w1 _ hk => clos_ses x.id x.g _ w.heap.size s w1 (cell_keep HLT.out (by simp) HC.out hk)))
  clear h
  go_enter Try.func27, Try.ntmps27
  go_wp2_with fail
  refine HE.out.mono ?_
  rintro e w1 hn
  obtain ⟨rfl, h2, h3⟩ := num_alloc hn
  have H2 := Lib.hid h2
  have H3 := Lib.hid h3
  clear hn h2 h3
  go_wp2
  go_ret
  exact ⟨rfl, H2.out, H3.out⟩
theorem revUsr_any {w : World} {S : Nat → Prop} {F : Nat} {st : St} (h : RepE w S F st) (s : Bs) :
    Calls Try.prog 28 #[.pointer (some ⟨F, 0, none⟩), .string s] w (NumIs w S F (endN (isUsr s) st : Nat) (endS (isUsr s) st)) := by
  have HLT := Lib.hid h.lt
  have H := Lib.hid (show RepE (w.alloc (.cells #[.string s] 9)) S F st from h.below (by go_grown))
  have HC := Lib.hid (show (w.alloc (.cells #[.string s] 9)).cell? ⟨w.heap.size, 0, none⟩ = some (.string s) by simp [go_sem])
  have HE := Lib.hid (end_1 H.out 52 w.heap.size (isUsr s) entUsr (fun x A c w1 _ hk => clos_usr x.id x.g _ w.heap.size s w1 (cell_keep HLT.out (by simp) HC.out hk)))
  clear h
  go_enter Try.func28, Try.ntmps28
  go_wp2_with fail
  refine HE.out.mono ?_
  rintro e w1 hn
  obtain ⟨rfl, h2, h3⟩ := num_alloc hn
  have H2 := Lib.hid h2
  have H3 := Lib.hid h3
  clear hn h2 h3
  go_wp2
  go_ret
  exact ⟨rfl, H2.out, H3.out⟩
theorem revCli_any {w : World} {S : Nat → Prop} {F : Nat} {st : St} (h : RepE w S F st) (s c : Bs) :
    Calls Try.prog 26 #[.pointer (some ⟨F, 0, none⟩), .string s, .string c] w (NumIs w S F (endN (isCli s c) st : Nat) (endS (isCli s c) st)) := by
  have HLT := Lib.hid h.lt
  have H := Lib.hid (show RepE ((w.alloc (.cells #[.string s] 9)).alloc (.cells #[.string c] 9)) S F st from h.below (by go_grown))
  have HC := Lib.hid (show ((w.alloc (.cells #[.string s] 9)).alloc (.cells #[.string c] 9)).cell? ⟨w.heap.size, 0, none⟩ = some (.string s) by simp [go_sem])
  have HC2 := Lib.hid (show ((w.alloc (.cells #[.string s] 9)).alloc (.cells #[.string c] 9)).cell? ⟨w.heap.size + 1, 0, none⟩ = some (.string c) by simp [go_sem])
  have HE := Lib.hid (end_2 H.out 50 w.heap.size (w.heap.size + 1) (isCli s c) entCli (fun x A d w1 _ hk => clos_cli x.id x.g _ w.heap.size s (w.heap.size + 1) c w1 (cell_keep HLT.out (by simp only [World.size_alloc]; omega) HC.out hk) (cell_keep (fun k e => Nat.lt_succ_of_lt (HLT.out k e)) (by simp) HC2.out hk)))
  clear h
  go_enter Try.func26, Try.ntmps26
  go_wp2_with fail
  refine HE.out.mono ?_
  rintro e w1 hn
  obtain ⟨rfl, h2, h3⟩ := num_alloc (num_alloc hn)
  have H2 := Lib.hid h2
  have H3 := Lib.hid h3
  clear hn h2 h3
  go_wp2
  go_ret
  exact ⟨rfl, H2.out, H3.out⟩
end Go.Proofs.Ytfeljihbaekfmaa.Rf
