/-
  The chapter's examples: live returns true.
-/
import Derived.Test.YtioabjniipkncaaGreatDoorRcSb
import Derived.Test.YtioabjniipkncaaGreatDoorRcG
namespace Go.Proofs.YtioabjniipkncaaGreatDoor.Rc
open Go.RowKit Go.Proofs.YtioabjniipkncaaGreatDoor.Fo Go.Proofs.YtioabjniipkncaaGreatDoor.Rf Go.Maps

def gPl : Gr := { gEx with method := 1 }
def lv0 : Ct := ⟨60, []⟩
def lv1 : Ct := ⟨60, [⟨⟨#[120]⟩, gEx, 160, false, false, false⟩]⟩
def lv2 : Ct := ⟨60, [⟨⟨#[120]⟩, gEx, 160, true, false, false⟩]⟩
def lv3 : Ct := ⟨60, [⟨⟨#[120]⟩, gEx, 160, true, true, false⟩]⟩
theorem lv_new : limI 60 ≠ 0 ∧ (⟨limI 60, []⟩ : Ct) = lv0 := ⟨by decide, by kernel_rfl⟩
theorem lv_iss1 : iss lv0 ⟨#[120]⟩ gEx 100 = (lv1, 0) := by kernel_rfl
theorem lv_iss2 : iss lv1 ⟨#[120]⟩ gEx 100 = (lv1, 7) := by kernel_rfl
theorem lv_red1 : red lv1 ⟨#[120]⟩ ⟨#[119, 101, 98]⟩ ⟨#[104, 116, 116, 112, 115, 58, 47, 47, 97]⟩ (prv ⟨#[]⟩) 101 = (lv1, (noG, 11)) := by kernel_rfl
theorem lv_red2 : red lv1 ⟨#[120]⟩ ⟨#[97, 112, 112]⟩ ⟨#[104, 116, 116, 112, 115, 58, 47, 47, 97]⟩ (prv ⟨#[]⟩) 159 = (lv2, (gEx, 0)) := by kernel_rfl
theorem lv_red3 : red lv2 ⟨#[120]⟩ ⟨#[97, 112, 112]⟩ ⟨#[104, 116, 116, 112, 115, 58, 47, 47, 97]⟩ (prv ⟨#[]⟩) 159 = (lv3, (noG, 18)) := by kernel_rfl
theorem lv_iss3 : iss lv3 ⟨#[121]⟩ gPl 100 = (lv3, 4) := by kernel_rfl
theorem lv_used : usedS lv3 ⟨#[120]⟩ = true := by kernel_rfl
theorem lv_att : attS lv3 ⟨#[120]⟩ = true := by kernel_rfl
theorem lv_drn : drN (isSes ⟨#[115]⟩) lv3 = 0 := by kernel_rfl
theorem lv_drs : drS (isSes ⟨#[115]⟩) lv3 = lv3 := by kernel_rfl
theorem lv_len : lv3.l.length = 1 := rfl
theorem lv_pu1 : puS lv3 219 = lv3 := by kernel_rfl
theorem lv_pun1 : (lv3.l.length : Int) - ((puS lv3 219).l.length : Int) = 0 := by rw [lv_pu1]; rfl
theorem lv_pu2 : puS lv3 220 = lv0 := by kernel_rfl
theorem lv_pun2 : (lv3.l.length : Int) - ((puS lv3 220).l.length : Int) = 1 := by rw [lv_pu2]; rfl
theorem lv_len0 : lv0.l.length = 0 := rfl
theorem short_ex : Short gEx.scopes := fun i hi => by
  have : i = 0 := by simp [gEx] at hi; omega
  subst this
  decide
theorem red_e {w : World} {T : Nat → Prop} {F : Nat} {st st' : Ct} {x : Int} (h : RepB w T F st) (t c r v : Bs) (now : Int) (hq : red st t c r (prv v) now = (st', (noG, x))) (ht : t.size ≤ 100000) (hv : v.size ≤ 100000) (hd : DG w) (h0 : ¬ T 0) :
    Calls Tryz.prog 17 #[.pointer (some ⟨F, 0, none⟩), .string t, .string c, .string r, .string v, .int .i64 now] w fun e w' => ∃ A d, e = .returned (.tuple #[.agg #[.string ⟨#[]⟩, .string ⟨#[]⟩, .string ⟨#[]⟩, .string ⟨#[]⟩, .string ⟨#[]⟩, .string ⟨#[]⟩, .string ⟨#[]⟩, .int .i64 0, .slice A 0 d, .int .i64 0, .int .i64 0], .int .i64 x]) ∧ RepB w' T F st' ∧ Mods T w w' := by
  refine (red_b h t c r v now hq ht hv hd h0).mono ?_
  rintro e w' ⟨A, d, h1, h2, h3, h4, h5⟩
  exact ⟨A, d, h1, h4.mono (fun k _ e => e.1), h5⟩
theorem red_k {w : World} {T : Nat → Prop} {F : Nat} {st st' : Ct} (h : RepB w T F st) (t c r v : Bs) (now : Int) (hq : red st t c r (prv v) now = (st', (gEx, 0))) (ht : t.size ≤ 100000) (hv : v.size ≤ 100000) (hd : DG w) (h0 : ¬ T 0) :
    Calls Tryz.prog 17 #[.pointer (some ⟨F, 0, none⟩), .string t, .string c, .string r, .string v, .int .i64 now] w fun e w' => ∃ q off d, e = .returned (.tuple #[.agg #[.string ⟨#[117]⟩, .string ⟨#[97, 112, 112]⟩, .string ⟨#[116]⟩, .string ⟨#[115]⟩, .string ⟨#[104, 116, 116, 112, 115, 58, 47, 47, 97]⟩, .string ⟨#[]⟩, .string ⟨#[]⟩, .int .i64 0, .slice (some ⟨q, off, none⟩) 1 d, .int .i64 0, .int .i64 0], .int .i64 0]) ∧ Ss w' (some ⟨q, off, none⟩) 1 d gEx.scopes ∧ w.heap.size ≤ q ∧ q < w'.heap.size ∧ RepB w' (fun k => T k ∧ k < w.heap.size) F st' ∧ Mods T w w' := by
  refine (red_b h t c r v now hq ht hv hd h0).mono ?_
  rintro e w' ⟨A, d, h1, h2, h3, h4, h5⟩
  obtain ⟨b, off, e1, hb, hc⟩ := h2.2.2 (show 0 < gEx.scopes.length by decide)
  subst e1
  exact ⟨b, off, d, h1, h2, h3 _ rfl (show 0 < gEx.scopes.length by decide), hb, h4, h5⟩
set_option maxRecDepth 100000 in
set_option maxHeartbeats 8000000 in
theorem live_any (w : World) (hm : MX w) (hd : DG w) : Calls Tryz.prog 5 #[] w fun e w' => e = .returned (.bool true) ∧ Below w.heap.size w w' := by
  have HM := Lib.hid hm
  have HD := Lib.hid hd
  have HZ := Lib.hid hm.pos
  clear hm hd
  have T0T : ∀ {w' : World} (_ : w.heap.size ≤ w'.heap.size) (k : Nat), w'.heap.size ≤ k → w.heap.size ≤ k := fun h k e => Nat.le_trans h e
  go_enter Tryz.func5, Tryz.ntmps5
  go_wp2_with fail
  refine (new_b (w := w) (l := 60) (st := lv0) lv_new.1 lv_new.2).mono ?_
  rintro e w1 ⟨F, rfl, hr, hb⟩
  have HR1 := Lib.hid hr
  have HB1 := Lib.hid hb
  clear hr hb
  go_wp2_with fail
  refine (new_no (w := w1) (l := 0) (by decide)).mono ?_
  rintro e w1b ⟨rfl, rfl⟩
  go_wp2_with fail
  refine (grant_any w1).mono ?_
  rintro e w2 ⟨q2, hq, rfl, hss, hb⟩
  have HSS2 := Lib.hid hss
  have HB2 := Lib.hid (HB1.out.trans (hb.mono HB1.out.size))
  have HR2 := Lib.hid (HR1.out.below hb)
  clear hq hss hb HB1 HR1
  go_wp2_with fail
  refine (iss_b HR2.out (T0T HB2.out.size) ⟨#[120]⟩ gEx (some ⟨q2, 0, none⟩) 1 100 lv_iss1 (by decide) (by decide) HSS2.out short_ex (by decide) (HM.out.below HB2.out)).mono ?_
  rintro e w3 ⟨rfl, hr, hm⟩
  have HR3 := Lib.hid hr
  have HB3 := Lib.hid (HB2.out.trans (hm.toBelow HB2.out.size (fun _ h => h)))
  clear hr hm HR2 HB2
  go_wp2_with fail
  refine (grant_any w3).mono ?_
  rintro e w4 ⟨q4, hq, rfl, hss, hb⟩
  have HSS4 := Lib.hid hss
  have HB4 := Lib.hid (HB3.out.trans (hb.mono HB3.out.size))
  have HR4 := Lib.hid (HR3.out.below hb)
  clear hq hss hb HB3 HR3
  go_wp2_with fail
  refine (iss_b HR4.out (T0T HB4.out.size) ⟨#[120]⟩ gEx (some ⟨q4, 0, none⟩) 1 100 lv_iss2 (by decide) (by decide) HSS4.out short_ex (by decide) (HM.out.below HB4.out)).mono ?_
  rintro e w5 ⟨rfl, hr, hm⟩
  have HR5 := Lib.hid hr
  have HB5 := Lib.hid (HB4.out.trans (hm.toBelow HB4.out.size (fun _ h => h)))
  clear hr hm HR4 HB4
  go_wp2_with fail
  refine (red_e HR5.out ⟨#[120]⟩ ⟨#[119, 101, 98]⟩ ⟨#[104, 116, 116, 112, 115, 58, 47, 47, 97]⟩ ⟨#[]⟩ 101 lv_red1 (by decide) (by decide) (HD.out.below HB5.out) (by have := HZ.out; omega)).mono ?_
  rintro e w6 ⟨A6, d6, rfl, hr, hm⟩
  have HR6 := Lib.hid hr
  have HB6 := Lib.hid (HB5.out.trans (hm.toBelow HB5.out.size (fun _ h => h)))
  clear hr hm HR5 HB5
  go_upto_region 8 with fail
  obtain ⟨w7, hw⟩ : ∃ w', w' = w6.alloc (.cells #[.string ⟨#[]⟩, .string ⟨#[]⟩, .string ⟨#[]⟩, .string ⟨#[]⟩, .string ⟨#[]⟩, .string ⟨#[]⟩, .string ⟨#[]⟩, .int .i64 0, .slice A6 0 d6, .int .i64 0, .int .i64 0] 36) := ⟨_, rfl⟩
  have hb : Below w6.heap.size w6 w7 := by rw [hw]; go_grown
  rw [← hw]
  have HR7 := Lib.hid (HR6.out.below hb)
  have HB7 := Lib.hid (HB6.out.trans (hb.mono HB6.out.size))
  clear hw hb HR6 HB6
  go_wp2_with fail
  refine (red_k HR7.out ⟨#[120]⟩ ⟨#[97, 112, 112]⟩ ⟨#[104, 116, 116, 112, 115, 58, 47, 47, 97]⟩ ⟨#[]⟩ 159 lv_red2 (by decide) (by decide) (HD.out.below HB7.out) (by have := HZ.out; omega)).mono ?_
  rintro e w8 ⟨q, off, d, rfl, hss, hq, hq2, hr, hm⟩
  have HSS8 := Lib.hid hss
  have HQ := Lib.hid hq
  have HQ2 := Lib.hid hq2
  have HR8 := Lib.hid hr
  have HB8 := Lib.hid (HB7.out.trans (hm.toBelow HB7.out.size (fun _ h => h)))
  have HZ8 := Lib.hid hm.size
  clear hr hm hss hq hq2 HR7
  go_upto_region 9 with fail
  obtain ⟨w9, hw⟩ : ∃ w', w' = w8.alloc (.cells #[.string ⟨#[117]⟩, .string ⟨#[97, 112, 112]⟩, .string ⟨#[116]⟩, .string ⟨#[115]⟩, .string ⟨#[104, 116, 116, 112, 115, 58, 47, 47, 97]⟩, .string ⟨#[]⟩, .string ⟨#[]⟩, .int .i64 0, .slice (some ⟨q, off, none⟩) 1 d, .int .i64 0, .int .i64 0] 36) := ⟨_, rfl⟩
  have hb : Below w8.heap.size w8 w9 := by rw [hw]; go_grown
  rw [← hw]
  obtain ⟨p, hp⟩ : ∃ p, p = w8.heap.size := ⟨_, rfl⟩
  have HX9 := Lib.hid (show w9.heap[p]? = some (.cells #[.string ⟨#[117]⟩, .string ⟨#[97, 112, 112]⟩, .string ⟨#[116]⟩, .string ⟨#[115]⟩, .string ⟨#[104, 116, 116, 112, 115, 58, 47, 47, 97]⟩, .string ⟨#[]⟩, .string ⟨#[]⟩, .int .i64 0, .slice (some ⟨q, off, none⟩) 1 d, .int .i64 0, .int .i64 0] 36 (0, 0)) by rw [hw, hp]; exact heap_alloc_new _ _)
  have HP := Lib.hid hp
  rw [← hp]
  have HSS9 := Lib.hid (HSS8.out.below hb)
  have HR9 := Lib.hid (show RepB w9 (fun k => w.heap.size ≤ k ∧ ¬ k = p ∧ ¬ k = q) F lv2 from (HR8.out.mono (fun k _ e => ⟨e.1, by have := HZ8.out; have := HP.out; have := e.2; omega, by have := HQ.out; have := e.2; omega⟩)).below hb)
  have HB9 := Lib.hid (HB8.out.trans (hb.mono HB8.out.size))
  have HZ9 := Lib.hid (show p < w9.heap.size ∧ q < w9.heap.size from ⟨blk_lt HX9.out, by have := HQ2.out; have := hb.size; omega⟩)
  clear hw hb hp HR8 HB8 HSS8
  have T1T : ∀ {w' : World} (_ : w9.heap.size ≤ w'.heap.size) (k : Nat), w'.heap.size ≤ k → w.heap.size ≤ k ∧ ¬ k = p ∧ ¬ k = q := fun h k e => ⟨by have := HB9.out.size; omega, by have := HZ9.out.1; omega, by have := HZ9.out.2; omega⟩
  have N0 : ¬ (fun k => w.heap.size ≤ k ∧ ¬ k = p ∧ ¬ k = q) 0 := fun e => by have := HZ.out; have := e.1; omega
  go_wp2_with fail
  refine (red_e HR9.out ⟨#[120]⟩ ⟨#[97, 112, 112]⟩ ⟨#[104, 116, 116, 112, 115, 58, 47, 47, 97]⟩ ⟨#[]⟩ 159 lv_red3 (by decide) (by decide) (HD.out.below HB9.out) N0).mono ?_
  rintro e w10 ⟨A10, d10, rfl, hr, hm⟩
  have HR10 := Lib.hid hr
  have HM10 := Lib.hid hm
  have HX10 := Lib.hid (blk_mods hm HX9.out (fun e => e.2.1 rfl))
  have HSS10 := Lib.hid (ss_mods HSS9.out hm (fun a ha _ e => by injection ha with ha; subst ha; exact e.2.2 rfl))
  have HB10 := Lib.hid (HB9.out.trans (hm.toBelow HB9.out.size (fun _ h => h.1)))
  clear hr hm HR9
  go_upto_region 10 with fail
  obtain ⟨w11, hw⟩ : ∃ w', w' = w10.alloc (.cells #[.string ⟨#[]⟩, .string ⟨#[]⟩, .string ⟨#[]⟩, .string ⟨#[]⟩, .string ⟨#[]⟩, .string ⟨#[]⟩, .string ⟨#[]⟩, .int .i64 0, .slice A10 0 d10, .int .i64 0, .int .i64 0] 36) := ⟨_, rfl⟩
  have hb : Below w10.heap.size w10 w11 := by rw [hw]; go_grown
  rw [← hw]
  have HR11 := Lib.hid (HR10.out.below hb)
  have HX11 := Lib.hid (blk_below hb HX10.out)
  have HSS11 := Lib.hid (HSS10.out.below hb)
  have HB11 := Lib.hid (HB10.out.trans (hb.mono HB10.out.size))
  have HZ11 := Lib.hid (show w9.heap.size ≤ w11.heap.size from Nat.le_trans HM10.out.size hb.size)
  clear hw hb HR10 HX10 HSS10 HB10
  go_wp2_with fail
  refine (grant_any w11).mono ?_
  rintro e w12 ⟨q12, hq, rfl, hss, hb⟩
  have HS12 := Lib.hid hss
  have HR12 := Lib.hid (HR11.out.below hb)
  have HX12 := Lib.hid (blk_below hb HX11.out)
  have HSS12 := Lib.hid (HSS11.out.below hb)
  have HB12 := Lib.hid (HB11.out.trans (hb.mono HB11.out.size))
  have HZ12 := Lib.hid (Nat.le_trans HZ11.out hb.size)
  clear hq hss hb HR11 HX11 HSS11 HB11
  go_upto_region 11 with fail
  obtain ⟨w13, hw⟩ : ∃ w', w' = w12.alloc (.cells #[.string ⟨#[117]⟩, .string ⟨#[97, 112, 112]⟩, .string ⟨#[116]⟩, .string ⟨#[115]⟩, .string ⟨#[104, 116, 116, 112, 115, 58, 47, 47, 97]⟩, .string ⟨#[]⟩, .string ⟨#[]⟩, .int .i64 0, .slice (some ⟨q12, 0, none⟩) 1 1, .int .i64 0, .int .i64 0] 36) := ⟨_, rfl⟩
  have hb : Below w12.heap.size w12 w13 := by rw [hw]; go_grown
  rw [← hw]
  have HY13 := Lib.hid (show w13.heap[w12.heap.size]? = some (.cells #[.string ⟨#[117]⟩, .string ⟨#[97, 112, 112]⟩, .string ⟨#[116]⟩, .string ⟨#[115]⟩, .string ⟨#[104, 116, 116, 112, 115, 58, 47, 47, 97]⟩, .string ⟨#[]⟩, .string ⟨#[]⟩, .int .i64 0, .slice (some ⟨q12, 0, none⟩) 1 1, .int .i64 0, .int .i64 0] 36 (0, 0)) by rw [hw]; exact heap_alloc_new _ _)
  have HB1213 := Lib.hid hb
  clear hw hb
  have y7 := cell_block HY13.out 7
  simp only [List.getElem?_toArray, List.getElem?_cons_zero, List.getElem?_cons_succ] at y7
  have f7 : w13.frozen? ⟨w12.heap.size, 7, none⟩ = false := by have := HY13.out; simp only [World.frozen?, this]; rfl
  go_upto_region 12 with fail
  obtain ⟨w14, hw⟩ : ∃ w', w' = w13.setCell ⟨w12.heap.size, 7, none⟩ (.int .i64 1) := ⟨_, rfl⟩
  rw [← hw]
  have hb : Below w12.heap.size w12 w14 := by rw [hw]; exact HB1213.out.setCell (by simp) _
  have HY14 := Lib.hid (show w14.heap[w12.heap.size]? = some (.cells #[.string ⟨#[117]⟩, .string ⟨#[97, 112, 112]⟩, .string ⟨#[116]⟩, .string ⟨#[115]⟩, .string ⟨#[104, 116, 116, 112, 115, 58, 47, 47, 97]⟩, .string ⟨#[]⟩, .string ⟨#[]⟩, .int .i64 1, .slice (some ⟨q12, 0, none⟩) 1 1, .int .i64 0, .int .i64 0] 36 (0, 0)) by rw [hw]; exact heap_setCell_same _ _ 7 _ _ _ HY13.out)
  have HS14 := Lib.hid (HS12.out.below hb)
  have HR14 := Lib.hid (HR12.out.below hb)
  have HX14 := Lib.hid (blk_below hb HX12.out)
  have HSS14 := Lib.hid (HSS12.out.below hb)
  have HB14 := Lib.hid (HB12.out.trans (hb.mono HB12.out.size))
  have HZ14 := Lib.hid (Nat.le_trans HZ12.out hb.size)
  clear hw hb y7 f7 HR12 HX12 HSS12 HB12 HY13
  obtain ⟨y0, y1, y2, y3, y4, y5, y6, y7, y8, y9, y10⟩ := cells11 HY14.out
  go_wp2_with fail
  refine (iss_b HR14.out (T1T HZ14.out) ⟨#[121]⟩ gPl (some ⟨q12, 0, none⟩) 1 100 lv_iss3 (by decide) (by decide) HS14.out short_ex (by decide) (HM.out.below HB14.out)).mono ?_
  rintro e w15 ⟨rfl, hr, hm⟩
  have HR15 := Lib.hid hr
  have HX15 := Lib.hid (blk_mods hm HX14.out (fun e => e.2.1 rfl))
  have HSS15 := Lib.hid (ss_mods HSS14.out hm (fun a ha _ e => by injection ha with ha; subst ha; exact e.2.2 rfl))
  have HB15 := Lib.hid (HB14.out.trans (hm.toBelow HB14.out.size (fun _ h => h.1)))
  have HZ15 := Lib.hid (Nat.le_trans HZ14.out hm.size)
  clear hr hm HR14 HX14 HSS14 HB14 y0 y1 y2 y3 y4 y5 y6 y7 y8 y9 y10
  go_wp2_with fail
  have HF15 := Lib.hid (show w15.cell? ⟨p, 0, none⟩ = some (.string ⟨#[117]⟩) ∧ w15.cell? ⟨p, 1, none⟩ = some (.string ⟨#[97, 112, 112]⟩) ∧ w15.cell? ⟨p, 2, none⟩ = some (.string ⟨#[116]⟩) ∧ w15.cell? ⟨p, 3, none⟩ = some (.string ⟨#[115]⟩) ∧ w15.cell? ⟨p, 4, none⟩ = some (.string ⟨#[104, 116, 116, 112, 115, 58, 47, 47, 97]⟩) ∧ w15.cell? ⟨p, 5, none⟩ = some (.string ⟨#[]⟩) ∧ w15.cell? ⟨p, 6, none⟩ = some (.string ⟨#[]⟩) ∧ w15.cell? ⟨p, 7, none⟩ = some (.int .i64 0) ∧ w15.cell? ⟨p, 8, none⟩ = some (.slice (some ⟨q, off, none⟩) 1 d) ∧ w15.cell? ⟨p, 9, none⟩ = some (.int .i64 0) ∧ w15.cell? ⟨p, 10, none⟩ = some (.int .i64 0) from cells11 HX15.out)
  refine wp_region_held_drew (S := (fun w' => w'.cell? ⟨p, 0, none⟩ = some (.string ⟨#[117]⟩) ∧ w'.cell? ⟨p, 1, none⟩ = some (.string ⟨#[97, 112, 112]⟩) ∧ w'.cell? ⟨p, 2, none⟩ = some (.string ⟨#[116]⟩) ∧ w'.cell? ⟨p, 3, none⟩ = some (.string ⟨#[115]⟩) ∧ w'.cell? ⟨p, 4, none⟩ = some (.string ⟨#[104, 116, 116, 112, 115, 58, 47, 47, 97]⟩) ∧ w'.cell? ⟨p, 5, none⟩ = some (.string ⟨#[]⟩) ∧ w'.cell? ⟨p, 6, none⟩ = some (.string ⟨#[]⟩) ∧ w'.cell? ⟨p, 7, none⟩ = some (.int .i64 0) ∧ w'.cell? ⟨p, 8, none⟩ = some (.slice (some ⟨q, off, none⟩) 1 d) ∧ w'.cell? ⟨p, 9, none⟩ = some (.int .i64 0) ∧ w'.cell? ⟨p, 10, none⟩ = some (.int .i64 0))) (by kernel_rfl) ?_ (fun hHeld => ?_)
  focus ((try dsimp only); (first | exact HF15.out | exact cells11 (blk_below ((Below.refl _ _).drew) HX15.out) | exact HF16.out | exact HF17.out | exact HF18.out | exact HF19.out | exact HF20.out | exact HF21.out | exact HF22.out); done)
  refine wpAnyH_take (i := 0) (oi := ⟨_, _, _, _, _, _⟩) (v := ?_) rfl (by kernel_rfl) (by kernel_rfl) (by kernel_rfl) (fun _ _ _ h => h) (Or.inl ⟨by rfl, ?_⟩) (by assumption) ?_; rotate_left; (focus (intro w hSw; (try dsimp only at hSw); go_simp; (try with_reducible rfl); done)); simp only [Act.put, List.setIfInBounds_toArray, List.set_cons_zero, List.set_cons_succ]
  refine wpAnyH_take (i := 1) (oi := ⟨_, _, _, _, _, _⟩) (v := ?_) rfl (by kernel_rfl) (by kernel_rfl) (by kernel_rfl) (fun _ _ _ h => h) (Or.inl ⟨by rfl, ?_⟩) (by assumption) ?_; rotate_left; (focus (intro w hSw; (try dsimp only at hSw); go_simp; (try with_reducible rfl); done)); simp only [Act.put, List.setIfInBounds_toArray, List.set_cons_zero, List.set_cons_succ]
  refine wpAnyH_take (i := 2) (oi := ⟨_, _, _, _, _, _⟩) (v := ?_) rfl (by kernel_rfl) (by kernel_rfl) (by kernel_rfl) (fun _ _ _ h => h) (Or.inl ⟨by rfl, ?_⟩) (by assumption) ?_; rotate_left; (focus (intro w hSw; (try dsimp only at hSw); go_simp; (try with_reducible rfl); done)); simp only [Act.put, List.setIfInBounds_toArray, List.set_cons_zero, List.set_cons_succ]
  refine wpAnyH_take (i := 3) (oi := ⟨_, _, _, _, _, _⟩) (v := ?_) rfl (by kernel_rfl) (by kernel_rfl) (by kernel_rfl) (fun _ _ _ h => h) (Or.inl ⟨by rfl, ?_⟩) (by assumption) ?_; rotate_left; (focus (intro w hSw; (try dsimp only at hSw); go_simp; (try with_reducible rfl); done)); simp only [Act.put, List.setIfInBounds_toArray, List.set_cons_zero, List.set_cons_succ]
  refine wpAnyH_take (i := 4) (oi := ⟨_, _, _, _, _, _⟩) (v := ?_) rfl (by kernel_rfl) (by kernel_rfl) (by kernel_rfl) (fun _ _ _ h => h) (Or.inl ⟨by rfl, ?_⟩) (by assumption) ?_; rotate_left; (focus (intro w hSw; (try dsimp only at hSw); go_simp; (try with_reducible rfl); done)); simp only [Act.put, List.setIfInBounds_toArray, List.set_cons_zero, List.set_cons_succ]
  refine wpAnyH_take (i := 5) (oi := ⟨_, _, _, _, _, _⟩) (v := ?_) rfl (by kernel_rfl) (by kernel_rfl) (by kernel_rfl) (fun _ _ _ h => h) (Or.inl ⟨by rfl, ?_⟩) (by assumption) ?_; rotate_left; (focus (intro w hSw; (try dsimp only at hSw); go_simp; (try with_reducible rfl); done)); simp only [Act.put, List.setIfInBounds_toArray, List.set_cons_zero, List.set_cons_succ]
  refine wpAnyH_take (i := 6) (oi := ⟨_, _, _, _, _, _⟩) (v := ?_) rfl (by kernel_rfl) (by kernel_rfl) (by kernel_rfl) (fun _ _ _ h => h) (Or.inl ⟨by rfl, ?_⟩) (by assumption) ?_; rotate_left; (focus (intro w hSw; (try dsimp only at hSw); go_simp; (try with_reducible rfl); done)); simp only [Act.put, List.setIfInBounds_toArray, List.set_cons_zero, List.set_cons_succ]
  refine wpAnyH_take (i := 7) (oi := ⟨_, _, _, _, _, _⟩) (v := ?_) rfl (by kernel_rfl) (by kernel_rfl) (by kernel_rfl) (fun _ _ _ h => h) (Or.inl ⟨by rfl, ?_⟩) (by assumption) ?_; rotate_left; (focus (intro w hSw; (try dsimp only at hSw); go_simp; (try with_reducible rfl); done)); simp only [Act.put, List.setIfInBounds_toArray, List.set_cons_zero, List.set_cons_succ]
  refine wpAnyH_take (i := 8) (oi := ⟨_, _, _, _, _, _⟩) (v := ?_) rfl (by kernel_rfl) (by kernel_rfl) (by kernel_rfl) (fun _ _ _ h => h) (Or.inl ⟨by rfl, ?_⟩) (by assumption) ?_; rotate_left; (focus (intro w hSw; (try dsimp only at hSw); go_simp; (try with_reducible rfl); done)); simp only [Act.put, List.setIfInBounds_toArray, List.set_cons_zero, List.set_cons_succ]
  refine wpAnyH_take (i := 9) (oi := ⟨_, _, _, _, _, _⟩) (v := ?_) rfl (by kernel_rfl) (by kernel_rfl) (by kernel_rfl) (fun _ _ _ h => h) (Or.inl ⟨by rfl, ?_⟩) (by assumption) ?_; rotate_left; (focus (intro w hSw; (try dsimp only at hSw); go_simp; (try with_reducible rfl); done)); simp only [Act.put, List.setIfInBounds_toArray, List.set_cons_zero, List.set_cons_succ]
  refine wpAnyH_take (i := 10) (oi := ⟨_, _, _, _, _, _⟩) (v := ?_) rfl (by kernel_rfl) (by kernel_rfl) (by kernel_rfl) (fun _ _ _ h => h) (Or.inl ⟨by rfl, ?_⟩) (by assumption) ?_; rotate_left; (focus (intro w hSw; (try dsimp only at hSw); go_simp; (try with_reducible rfl); done)); simp only [Act.put, List.setIfInBounds_toArray, List.set_cons_zero, List.set_cons_succ]
  refine wpAnyH_take (i := 11) (oi := ⟨_, _, _, _, _, _⟩) (v := ?_) rfl (by kernel_rfl) (by kernel_rfl) (by kernel_rfl) (fun _ _ _ h => h) (Or.inl ⟨by rfl, ?_⟩) (by assumption) ?_; rotate_left; (focus (intro w hSw; (try dsimp only at hSw); go_simp; (try with_reducible rfl); done)); simp only [Act.put, List.setIfInBounds_toArray, List.set_cons_zero, List.set_cons_succ]
  refine wpAnyH_ready (rs := [12]) (by kernel_rfl) (by simp) ?_
  refine AllReadyH.cons (o := ⟨_, _, _, _, _, _⟩) rfl (fun K hK => ?_) AllReadyH.nil
  go_simp
  go_wp2_with fail
  refine (grant_any _).mono ?_
  rintro e w16 ⟨q16, hq, rfl, hss, hb⟩
  have hb2 : Below w15.heap.size w15 w16 := Below.trans ((Below.refl _ _).drew) hb
  have HS16 := Lib.hid hss
  have HR16 := Lib.hid (HR15.out.below hb2)
  have HX16 := Lib.hid (blk_below hb2 HX15.out)
  have HSS16 := Lib.hid (HSS15.out.below hb2)
  have HB16 := Lib.hid (HB15.out.trans (hb2.mono HB15.out.size))
  have HZ16 := Lib.hid (Nat.le_trans HZ15.out hb2.size)
  have HF16 := Lib.hid (show w16.cell? ⟨p, 0, none⟩ = some (.string ⟨#[117]⟩) ∧ w16.cell? ⟨p, 1, none⟩ = some (.string ⟨#[97, 112, 112]⟩) ∧ w16.cell? ⟨p, 2, none⟩ = some (.string ⟨#[116]⟩) ∧ w16.cell? ⟨p, 3, none⟩ = some (.string ⟨#[115]⟩) ∧ w16.cell? ⟨p, 4, none⟩ = some (.string ⟨#[104, 116, 116, 112, 115, 58, 47, 47, 97]⟩) ∧ w16.cell? ⟨p, 5, none⟩ = some (.string ⟨#[]⟩) ∧ w16.cell? ⟨p, 6, none⟩ = some (.string ⟨#[]⟩) ∧ w16.cell? ⟨p, 7, none⟩ = some (.int .i64 0) ∧ w16.cell? ⟨p, 8, none⟩ = some (.slice (some ⟨q, off, none⟩) 1 d) ∧ w16.cell? ⟨p, 9, none⟩ = some (.int .i64 0) ∧ w16.cell? ⟨p, 10, none⟩ = some (.int .i64 0) from cells11 HX16.out)
  clear hq hss hb hb2
  (try go_wp2_with fail)
  refine hK.out _ _ ?_ (fun hHeld => ?_)
  focus ((try dsimp only); (first | exact HF15.out | exact cells11 (blk_below ((Below.refl _ _).drew) HX15.out) | exact HF16.out | exact HF17.out | exact HF18.out | exact HF19.out | exact HF20.out | exact HF21.out | exact HF22.out); done)
  clear hK K
  (try simp only [Act.put, List.setIfInBounds_toArray, List.set_cons_zero, List.set_cons_succ])
  refine wpAnyH_ready (rs := [13]) (by kernel_rfl) (by simp) ?_
  refine AllReadyH.cons (o := ⟨_, _, _, _, _, _⟩) rfl (fun K hK => ?_) AllReadyH.nil
  go_simp
  go_wp2_with fail
  refine (same_yes ⟨#[117]⟩ ⟨#[97, 112, 112]⟩ ⟨#[116]⟩ ⟨#[115]⟩ ⟨#[104, 116, 116, 112, 115, 58, 47, 47, 97]⟩ ⟨#[]⟩ ⟨#[]⟩ 0 0 0 (some ⟨q, off, none⟩) (some ⟨q16, 0, none⟩) 1 d 1 gEx.scopes w16 HSS16.out HS16.out (by omega)).mono ?_
  rintro e w17 ⟨rfl, hb⟩
  have HR17 := Lib.hid (HR16.out.below hb)
  have HX17 := Lib.hid (blk_below hb HX16.out)
  have HB17 := Lib.hid (HB16.out.trans (hb.mono HB16.out.size))
  have HZ17 := Lib.hid (Nat.le_trans HZ16.out hb.size)
  have HF17 := Lib.hid (show w17.cell? ⟨p, 0, none⟩ = some (.string ⟨#[117]⟩) ∧ w17.cell? ⟨p, 1, none⟩ = some (.string ⟨#[97, 112, 112]⟩) ∧ w17.cell? ⟨p, 2, none⟩ = some (.string ⟨#[116]⟩) ∧ w17.cell? ⟨p, 3, none⟩ = some (.string ⟨#[115]⟩) ∧ w17.cell? ⟨p, 4, none⟩ = some (.string ⟨#[104, 116, 116, 112, 115, 58, 47, 47, 97]⟩) ∧ w17.cell? ⟨p, 5, none⟩ = some (.string ⟨#[]⟩) ∧ w17.cell? ⟨p, 6, none⟩ = some (.string ⟨#[]⟩) ∧ w17.cell? ⟨p, 7, none⟩ = some (.int .i64 0) ∧ w17.cell? ⟨p, 8, none⟩ = some (.slice (some ⟨q, off, none⟩) 1 d) ∧ w17.cell? ⟨p, 9, none⟩ = some (.int .i64 0) ∧ w17.cell? ⟨p, 10, none⟩ = some (.int .i64 0) from cells11 HX17.out)
  clear hb
  (try go_wp2_with fail)
  refine hK.out _ _ ?_ (fun hHeld => ?_)
  focus ((try dsimp only); (first | exact HF15.out | exact cells11 (blk_below ((Below.refl _ _).drew) HX15.out) | exact HF16.out | exact HF17.out | exact HF18.out | exact HF19.out | exact HF20.out | exact HF21.out | exact HF22.out); done)
  clear hK K
  (try simp only [Act.put, List.setIfInBounds_toArray, List.set_cons_zero, List.set_cons_succ])
  refine wpAnyH_take (i := 14) (oi := ⟨_, _, _, _, _, _⟩) (v := ?_) rfl (by kernel_rfl) (by kernel_rfl) (by kernel_rfl) (fun _ _ _ h => h) (Or.inl ⟨by rfl, ?_⟩) (by assumption) ?_; rotate_left; (focus (intro w hSw; (try dsimp only at hSw); go_simp; (try with_reducible rfl); done)); simp only [Act.put, List.setIfInBounds_toArray, List.set_cons_zero, List.set_cons_succ]
  refine wpAnyH_take (i := 15) (oi := ⟨_, _, _, _, _, _⟩) (v := ?_) rfl (by kernel_rfl) (by kernel_rfl) (by kernel_rfl) (fun _ _ _ h => h) (Or.inl ⟨by rfl, ?_⟩) (by assumption) ?_; rotate_left; (focus (intro w hSw; (try dsimp only at hSw); go_simp; (try with_reducible rfl); done)); simp only [Act.put, List.setIfInBounds_toArray, List.set_cons_zero, List.set_cons_succ]
  refine wpAnyH_take (i := 16) (oi := ⟨_, _, _, _, _, _⟩) (v := ?_) rfl (by kernel_rfl) (by kernel_rfl) (by kernel_rfl) (fun _ _ _ h => h) (Or.inl ⟨by rfl, ?_⟩) (by assumption) ?_; rotate_left; (focus (intro w hSw; (try dsimp only at hSw); go_simp; (try with_reducible rfl); done)); simp only [Act.put, List.setIfInBounds_toArray, List.set_cons_zero, List.set_cons_succ]
  refine wpAnyH_take (i := 17) (oi := ⟨_, _, _, _, _, _⟩) (v := ?_) rfl (by kernel_rfl) (by kernel_rfl) (by kernel_rfl) (fun _ _ _ h => h) (Or.inl ⟨by rfl, ?_⟩) (by assumption) ?_; rotate_left; (focus (intro w hSw; (try dsimp only at hSw); go_simp; (try with_reducible rfl); done)); simp only [Act.put, List.setIfInBounds_toArray, List.set_cons_zero, List.set_cons_succ]
  refine wpAnyH_take (i := 18) (oi := ⟨_, _, _, _, _, _⟩) (v := ?_) rfl (by kernel_rfl) (by kernel_rfl) (by kernel_rfl) (fun _ _ _ h => h) (Or.inl ⟨by rfl, ?_⟩) (by assumption) ?_; rotate_left; (focus (intro w hSw; (try dsimp only at hSw); go_simp; (try with_reducible rfl); done)); simp only [Act.put, List.setIfInBounds_toArray, List.set_cons_zero, List.set_cons_succ]
  refine wpAnyH_take (i := 19) (oi := ⟨_, _, _, _, _, _⟩) (v := ?_) rfl (by kernel_rfl) (by kernel_rfl) (by kernel_rfl) (fun _ _ _ h => h) (Or.inl ⟨by rfl, ?_⟩) (by assumption) ?_; rotate_left; (focus (intro w hSw; (try dsimp only at hSw); go_simp; (try with_reducible rfl); done)); simp only [Act.put, List.setIfInBounds_toArray, List.set_cons_zero, List.set_cons_succ]
  refine wpAnyH_take (i := 20) (oi := ⟨_, _, _, _, _, _⟩) (v := ?_) rfl (by kernel_rfl) (by kernel_rfl) (by kernel_rfl) (fun _ _ _ h => h) (Or.inl ⟨by rfl, ?_⟩) (by assumption) ?_; rotate_left; (focus (intro w hSw; (try dsimp only at hSw); go_simp; (try with_reducible rfl); done)); simp only [Act.put, List.setIfInBounds_toArray, List.set_cons_zero, List.set_cons_succ]
  refine wpAnyH_take (i := 21) (oi := ⟨_, _, _, _, _, _⟩) (v := ?_) rfl (by kernel_rfl) (by kernel_rfl) (by kernel_rfl) (fun _ _ _ h => h) (Or.inl ⟨by rfl, ?_⟩) (by assumption) ?_; rotate_left; (focus (intro w hSw; (try dsimp only at hSw); go_simp; (try with_reducible rfl); done)); simp only [Act.put, List.setIfInBounds_toArray, List.set_cons_zero, List.set_cons_succ]
  refine wpAnyH_take (i := 22) (oi := ⟨_, _, _, _, _, _⟩) (v := ?_) rfl (by kernel_rfl) (by kernel_rfl) (by kernel_rfl) (fun _ _ _ h => h) (Or.inl ⟨by rfl, ?_⟩) (by assumption) ?_; rotate_left; (focus (intro w hSw; (try dsimp only at hSw); go_simp; (try with_reducible rfl); done)); simp only [Act.put, List.setIfInBounds_toArray, List.set_cons_zero, List.set_cons_succ]
  refine wpAnyH_take (i := 23) (oi := ⟨_, _, _, _, _, _⟩) (v := ?_) rfl (by kernel_rfl) (by kernel_rfl) (by kernel_rfl) (fun _ _ _ h => h) (Or.inl ⟨by rfl, ?_⟩) (by assumption) ?_; rotate_left; (focus (intro w hSw; (try dsimp only at hSw); go_simp; (try with_reducible rfl); done)); simp only [Act.put, List.setIfInBounds_toArray, List.set_cons_zero, List.set_cons_succ]
  refine wpAnyH_take (i := 24) (oi := ⟨_, _, _, _, _, _⟩) (v := ?_) rfl (by kernel_rfl) (by kernel_rfl) (by kernel_rfl) (fun _ _ _ h => h) (Or.inl ⟨by rfl, ?_⟩) (by assumption) ?_; rotate_left; (focus (intro w hSw; (try dsimp only at hSw); go_simp; (try with_reducible rfl); done)); simp only [Act.put, List.setIfInBounds_toArray, List.set_cons_zero, List.set_cons_succ]
  refine wpAnyH_take (i := 25) (oi := ⟨_, _, _, _, _, _⟩) (v := ?_) rfl (by kernel_rfl) (by kernel_rfl) (by kernel_rfl) (fun _ _ _ h => h) (Or.inl ⟨by rfl, ?_⟩) (by assumption) ?_; rotate_left; (focus (intro w hSw; (try dsimp only at hSw); go_simp; (try with_reducible rfl); done)); simp only [Act.put, List.setIfInBounds_toArray, List.set_cons_zero, List.set_cons_succ]
  refine wpAnyH_take (i := 26) (oi := ⟨_, _, _, _, _, _⟩) (v := ?_) rfl (by kernel_rfl) (by kernel_rfl) (by kernel_rfl) (fun _ _ _ h => h) (Or.inl ⟨by rfl, ?_⟩) (by assumption) ?_; rotate_left; (focus (intro w hSw; (try dsimp only at hSw); go_simp; (try with_reducible rfl); done)); simp only [Act.put, List.setIfInBounds_toArray, List.set_cons_zero, List.set_cons_succ]
  refine wpAnyH_take (i := 27) (oi := ⟨_, _, _, _, _, _⟩) (v := ?_) rfl (by kernel_rfl) (by kernel_rfl) (by kernel_rfl) (fun _ _ _ h => h) (Or.inl ⟨by rfl, ?_⟩) (by assumption) ?_; rotate_left; (focus (intro w hSw; (try dsimp only at hSw); go_simp; (try with_reducible rfl); done)); simp only [Act.put, List.setIfInBounds_toArray, List.set_cons_zero, List.set_cons_succ]
  refine wpAnyH_take (i := 28) (oi := ⟨_, _, _, _, _, _⟩) (v := ?_) rfl (by kernel_rfl) (by kernel_rfl) (by kernel_rfl) (fun _ _ _ h => h) (Or.inl ⟨by rfl, ?_⟩) (by assumption) ?_; rotate_left; (focus (intro w hSw; (try dsimp only at hSw); go_simp; (try with_reducible rfl); done)); simp only [Act.put, List.setIfInBounds_toArray, List.set_cons_zero, List.set_cons_succ]
  refine wpAnyH_ready (rs := [29]) (by kernel_rfl) (by simp) ?_
  refine AllReadyH.cons (o := ⟨_, _, _, _, _, _⟩) rfl (fun K hK => ?_) AllReadyH.nil
  go_simp
  go_wp2_with fail
  refine (used_b HR17.out ⟨#[120]⟩ (by decide) lv_used).mono ?_
  rintro e w18 ⟨rfl, hb⟩
  have HR18 := Lib.hid (HR17.out.below hb)
  have HX18 := Lib.hid (blk_below hb HX17.out)
  have HB18 := Lib.hid (HB17.out.trans (hb.mono HB17.out.size))
  have HZ18 := Lib.hid (Nat.le_trans HZ17.out hb.size)
  have HF18 := Lib.hid (show w18.cell? ⟨p, 0, none⟩ = some (.string ⟨#[117]⟩) ∧ w18.cell? ⟨p, 1, none⟩ = some (.string ⟨#[97, 112, 112]⟩) ∧ w18.cell? ⟨p, 2, none⟩ = some (.string ⟨#[116]⟩) ∧ w18.cell? ⟨p, 3, none⟩ = some (.string ⟨#[115]⟩) ∧ w18.cell? ⟨p, 4, none⟩ = some (.string ⟨#[104, 116, 116, 112, 115, 58, 47, 47, 97]⟩) ∧ w18.cell? ⟨p, 5, none⟩ = some (.string ⟨#[]⟩) ∧ w18.cell? ⟨p, 6, none⟩ = some (.string ⟨#[]⟩) ∧ w18.cell? ⟨p, 7, none⟩ = some (.int .i64 0) ∧ w18.cell? ⟨p, 8, none⟩ = some (.slice (some ⟨q, off, none⟩) 1 d) ∧ w18.cell? ⟨p, 9, none⟩ = some (.int .i64 0) ∧ w18.cell? ⟨p, 10, none⟩ = some (.int .i64 0) from cells11 HX18.out)
  clear hb
  (try go_wp2_with fail)
  refine hK.out _ _ ?_ (fun hHeld => ?_)
  focus ((try dsimp only); (first | exact HF15.out | exact cells11 (blk_below ((Below.refl _ _).drew) HX15.out) | exact HF16.out | exact HF17.out | exact HF18.out | exact HF19.out | exact HF20.out | exact HF21.out | exact HF22.out); done)
  clear hK K
  (try simp only [Act.put, List.setIfInBounds_toArray, List.set_cons_zero, List.set_cons_succ])
  refine wpAnyH_take (i := 30) (oi := ⟨_, _, _, _, _, _⟩) (v := ?_) rfl (by kernel_rfl) (by kernel_rfl) (by kernel_rfl) (fun _ _ _ h => h) (Or.inl ⟨by rfl, ?_⟩) (by assumption) ?_; rotate_left; (focus (intro w hSw; (try dsimp only at hSw); go_simp; (try with_reducible rfl); done)); simp only [Act.put, List.setIfInBounds_toArray, List.set_cons_zero, List.set_cons_succ]
  refine wpAnyH_take (i := 31) (oi := ⟨_, _, _, _, _, _⟩) (v := ?_) rfl (by kernel_rfl) (by kernel_rfl) (by kernel_rfl) (fun _ _ _ h => h) (Or.inl ⟨by rfl, ?_⟩) (by assumption) ?_; rotate_left; (focus (intro w hSw; (try dsimp only at hSw); go_simp; (try with_reducible rfl); done)); simp only [Act.put, List.setIfInBounds_toArray, List.set_cons_zero, List.set_cons_succ]
  refine wpAnyH_take (i := 32) (oi := ⟨_, _, _, _, _, _⟩) (v := ?_) rfl (by kernel_rfl) (by kernel_rfl) (by kernel_rfl) (fun _ _ _ h => h) (Or.inl ⟨by rfl, ?_⟩) (by assumption) ?_; rotate_left; (focus (intro w hSw; (try dsimp only at hSw); go_simp; (try with_reducible rfl); done)); simp only [Act.put, List.setIfInBounds_toArray, List.set_cons_zero, List.set_cons_succ]
  refine wpAnyH_ready (rs := [33]) (by kernel_rfl) (by simp) ?_
  refine AllReadyH.cons (o := ⟨_, _, _, _, _, _⟩) rfl (fun K hK => ?_) AllReadyH.nil
  go_simp
  go_wp2_with fail
  refine (att_b HR18.out ⟨#[120]⟩ (by decide) lv_att).mono ?_
  rintro e w19 ⟨rfl, hb⟩
  have HR19 := Lib.hid (HR18.out.below hb)
  have HX19 := Lib.hid (blk_below hb HX18.out)
  have HB19 := Lib.hid (HB18.out.trans (hb.mono HB18.out.size))
  have HZ19 := Lib.hid (Nat.le_trans HZ18.out hb.size)
  have HF19 := Lib.hid (show w19.cell? ⟨p, 0, none⟩ = some (.string ⟨#[117]⟩) ∧ w19.cell? ⟨p, 1, none⟩ = some (.string ⟨#[97, 112, 112]⟩) ∧ w19.cell? ⟨p, 2, none⟩ = some (.string ⟨#[116]⟩) ∧ w19.cell? ⟨p, 3, none⟩ = some (.string ⟨#[115]⟩) ∧ w19.cell? ⟨p, 4, none⟩ = some (.string ⟨#[104, 116, 116, 112, 115, 58, 47, 47, 97]⟩) ∧ w19.cell? ⟨p, 5, none⟩ = some (.string ⟨#[]⟩) ∧ w19.cell? ⟨p, 6, none⟩ = some (.string ⟨#[]⟩) ∧ w19.cell? ⟨p, 7, none⟩ = some (.int .i64 0) ∧ w19.cell? ⟨p, 8, none⟩ = some (.slice (some ⟨q, off, none⟩) 1 d) ∧ w19.cell? ⟨p, 9, none⟩ = some (.int .i64 0) ∧ w19.cell? ⟨p, 10, none⟩ = some (.int .i64 0) from cells11 HX19.out)
  clear hb
  (try go_wp2_with fail)
  refine hK.out _ _ ?_ (fun hHeld => ?_)
  focus ((try dsimp only); (first | exact HF15.out | exact cells11 (blk_below ((Below.refl _ _).drew) HX15.out) | exact HF16.out | exact HF17.out | exact HF18.out | exact HF19.out | exact HF20.out | exact HF21.out | exact HF22.out); done)
  clear hK K
  (try simp only [Act.put, List.setIfInBounds_toArray, List.set_cons_zero, List.set_cons_succ])
  refine wpAnyH_take (i := 34) (oi := ⟨_, _, _, _, _, _⟩) (v := ?_) rfl (by kernel_rfl) (by kernel_rfl) (by kernel_rfl) (fun _ _ _ h => h) (Or.inl ⟨by rfl, ?_⟩) (by assumption) ?_; rotate_left; (focus (intro w hSw; (try dsimp only at hSw); go_simp; (try with_reducible rfl); done)); simp only [Act.put, List.setIfInBounds_toArray, List.set_cons_zero, List.set_cons_succ]
  refine wpAnyH_take (i := 35) (oi := ⟨_, _, _, _, _, _⟩) (v := ?_) rfl (by kernel_rfl) (by kernel_rfl) (by kernel_rfl) (fun _ _ _ h => h) (Or.inl ⟨by rfl, ?_⟩) (by assumption) ?_; rotate_left; (focus (intro w hSw; (try dsimp only at hSw); go_simp; (try with_reducible rfl); done)); simp only [Act.put, List.setIfInBounds_toArray, List.set_cons_zero, List.set_cons_succ]
  refine wpAnyH_take (i := 36) (oi := ⟨_, _, _, _, _, _⟩) (v := ?_) rfl (by kernel_rfl) (by kernel_rfl) (by kernel_rfl) (fun _ _ _ h => h) (Or.inl ⟨by rfl, ?_⟩) (by assumption) ?_; rotate_left; (focus (intro w hSw; (try dsimp only at hSw); go_simp; (try with_reducible rfl); done)); simp only [Act.put, List.setIfInBounds_toArray, List.set_cons_zero, List.set_cons_succ]
  refine wpAnyH_ready (rs := [37]) (by kernel_rfl) (by simp) ?_
  refine AllReadyH.cons (o := ⟨_, _, _, _, _, _⟩) rfl (fun K hK => ?_) AllReadyH.nil
  go_simp
  go_wp2_with fail
  refine (dropSes_b HR19.out (T1T HZ19.out) ⟨#[115]⟩ lv_drn lv_drs).mono ?_
  rintro e w20 ⟨rfl, hr, hm⟩
  have HR20 := Lib.hid hr
  have HX20 := Lib.hid (blk_mods hm HX19.out (fun e => e.2.1 rfl))
  have HB20 := Lib.hid (HB19.out.trans (hm.toBelow HB19.out.size (fun _ h => h.1)))
  have HZ20 := Lib.hid (Nat.le_trans HZ19.out hm.size)
  have HF20 := Lib.hid (show w20.cell? ⟨p, 0, none⟩ = some (.string ⟨#[117]⟩) ∧ w20.cell? ⟨p, 1, none⟩ = some (.string ⟨#[97, 112, 112]⟩) ∧ w20.cell? ⟨p, 2, none⟩ = some (.string ⟨#[116]⟩) ∧ w20.cell? ⟨p, 3, none⟩ = some (.string ⟨#[115]⟩) ∧ w20.cell? ⟨p, 4, none⟩ = some (.string ⟨#[104, 116, 116, 112, 115, 58, 47, 47, 97]⟩) ∧ w20.cell? ⟨p, 5, none⟩ = some (.string ⟨#[]⟩) ∧ w20.cell? ⟨p, 6, none⟩ = some (.string ⟨#[]⟩) ∧ w20.cell? ⟨p, 7, none⟩ = some (.int .i64 0) ∧ w20.cell? ⟨p, 8, none⟩ = some (.slice (some ⟨q, off, none⟩) 1 d) ∧ w20.cell? ⟨p, 9, none⟩ = some (.int .i64 0) ∧ w20.cell? ⟨p, 10, none⟩ = some (.int .i64 0) from cells11 HX20.out)
  clear hr hm
  (try go_wp2_with fail)
  refine hK.out _ _ ?_ (fun hHeld => ?_)
  focus ((try dsimp only); (first | exact HF15.out | exact cells11 (blk_below ((Below.refl _ _).drew) HX15.out) | exact HF16.out | exact HF17.out | exact HF18.out | exact HF19.out | exact HF20.out | exact HF21.out | exact HF22.out); done)
  clear hK K
  (try simp only [Act.put, List.setIfInBounds_toArray, List.set_cons_zero, List.set_cons_succ])
  refine wpAnyH_take (i := 38) (oi := ⟨_, _, _, _, _, _⟩) (v := ?_) rfl (by kernel_rfl) (by kernel_rfl) (by kernel_rfl) (fun _ _ _ h => h) (Or.inl ⟨by rfl, ?_⟩) (by assumption) ?_; rotate_left; (focus (intro w hSw; (try dsimp only at hSw); go_simp; (try with_reducible rfl); done)); simp only [Act.put, List.setIfInBounds_toArray, List.set_cons_zero, List.set_cons_succ]
  refine wpAnyH_take (i := 39) (oi := ⟨_, _, _, _, _, _⟩) (v := ?_) rfl (by kernel_rfl) (by kernel_rfl) (by kernel_rfl) (fun _ _ _ h => h) (Or.inl ⟨by rfl, ?_⟩) (by assumption) ?_; rotate_left; (focus (intro w hSw; (try dsimp only at hSw); go_simp; (try with_reducible rfl); done)); simp only [Act.put, List.setIfInBounds_toArray, List.set_cons_zero, List.set_cons_succ]
  refine wpAnyH_take (i := 40) (oi := ⟨_, _, _, _, _, _⟩) (v := ?_) rfl (by kernel_rfl) (by kernel_rfl) (by kernel_rfl) (fun _ _ _ h => h) (Or.inl ⟨by rfl, ?_⟩) (by assumption) ?_; rotate_left; (focus (intro w hSw; (try dsimp only at hSw); go_simp; (try with_reducible rfl); done)); simp only [Act.put, List.setIfInBounds_toArray, List.set_cons_zero, List.set_cons_succ]
  refine wpAnyH_take (i := 41) (oi := ⟨_, _, _, _, _, _⟩) (v := ?_) rfl (by kernel_rfl) (by kernel_rfl) (by kernel_rfl) (fun _ _ _ h => h) (Or.inl ⟨by rfl, ?_⟩) (by assumption) ?_; rotate_left; (focus (intro w hSw; (try dsimp only at hSw); go_simp; (try with_reducible rfl); done)); simp only [Act.put, List.setIfInBounds_toArray, List.set_cons_zero, List.set_cons_succ]
  refine wpAnyH_ready (rs := [42]) (by kernel_rfl) (by simp) ?_
  refine AllReadyH.cons (o := ⟨_, _, _, _, _, _⟩) rfl (fun K hK => ?_) AllReadyH.nil
  go_simp
  go_wp2_with fail
  refine (len_b HR20.out lv_len).mono ?_
  rintro e wy ⟨rfl, rfl⟩
  (try go_wp2_with fail)
  refine hK.out _ _ ?_ (fun hHeld => ?_)
  focus ((try dsimp only); (first | exact HF15.out | exact cells11 (blk_below ((Below.refl _ _).drew) HX15.out) | exact HF16.out | exact HF17.out | exact HF18.out | exact HF19.out | exact HF20.out | exact HF21.out | exact HF22.out); done)
  clear hK K
  (try simp only [Act.put, List.setIfInBounds_toArray, List.set_cons_zero, List.set_cons_succ])
  refine wpAnyH_take (i := 43) (oi := ⟨_, _, _, _, _, _⟩) (v := ?_) rfl (by kernel_rfl) (by kernel_rfl) (by kernel_rfl) (fun _ _ _ h => h) (Or.inl ⟨by rfl, ?_⟩) (by assumption) ?_; rotate_left; (focus (intro w hSw; (try dsimp only at hSw); go_simp; (try with_reducible rfl); done)); simp only [Act.put, List.setIfInBounds_toArray, List.set_cons_zero, List.set_cons_succ]
  refine wpAnyH_take (i := 44) (oi := ⟨_, _, _, _, _, _⟩) (v := ?_) rfl (by kernel_rfl) (by kernel_rfl) (by kernel_rfl) (fun _ _ _ h => h) (Or.inl ⟨by rfl, ?_⟩) (by assumption) ?_; rotate_left; (focus (intro w hSw; (try dsimp only at hSw); go_simp; (try with_reducible rfl); done)); simp only [Act.put, List.setIfInBounds_toArray, List.set_cons_zero, List.set_cons_succ]
  refine wpAnyH_take (i := 45) (oi := ⟨_, _, _, _, _, _⟩) (v := ?_) rfl (by kernel_rfl) (by kernel_rfl) (by kernel_rfl) (fun _ _ _ h => h) (Or.inl ⟨by rfl, ?_⟩) (by assumption) ?_; rotate_left; (focus (intro w hSw; (try dsimp only at hSw); go_simp; (try with_reducible rfl); done)); simp only [Act.put, List.setIfInBounds_toArray, List.set_cons_zero, List.set_cons_succ]
  refine wpAnyH_take (i := 46) (oi := ⟨_, _, _, _, _, _⟩) (v := ?_) rfl (by kernel_rfl) (by kernel_rfl) (by kernel_rfl) (fun _ _ _ h => h) (Or.inl ⟨by rfl, ?_⟩) (by assumption) ?_; rotate_left; (focus (intro w hSw; (try dsimp only at hSw); go_simp; (try with_reducible rfl); done)); simp only [Act.put, List.setIfInBounds_toArray, List.set_cons_zero, List.set_cons_succ]
  refine wpAnyH_ready (rs := [47]) (by kernel_rfl) (by simp) ?_
  refine AllReadyH.cons (o := ⟨_, _, _, _, _, _⟩) rfl (fun K hK => ?_) AllReadyH.nil
  go_simp
  go_wp2_with fail
  refine (purge_b HR20.out (T1T HZ20.out) 219 lv_pun1 lv_pu1).mono ?_
  rintro e w21 ⟨rfl, hr, hm⟩
  have HR21 := Lib.hid hr
  have HX21 := Lib.hid (blk_mods hm HX20.out (fun e => e.2.1 rfl))
  have HB21 := Lib.hid (HB20.out.trans (hm.toBelow HB20.out.size (fun _ h => h.1)))
  have HZ21 := Lib.hid (Nat.le_trans HZ20.out hm.size)
  have HF21 := Lib.hid (show w21.cell? ⟨p, 0, none⟩ = some (.string ⟨#[117]⟩) ∧ w21.cell? ⟨p, 1, none⟩ = some (.string ⟨#[97, 112, 112]⟩) ∧ w21.cell? ⟨p, 2, none⟩ = some (.string ⟨#[116]⟩) ∧ w21.cell? ⟨p, 3, none⟩ = some (.string ⟨#[115]⟩) ∧ w21.cell? ⟨p, 4, none⟩ = some (.string ⟨#[104, 116, 116, 112, 115, 58, 47, 47, 97]⟩) ∧ w21.cell? ⟨p, 5, none⟩ = some (.string ⟨#[]⟩) ∧ w21.cell? ⟨p, 6, none⟩ = some (.string ⟨#[]⟩) ∧ w21.cell? ⟨p, 7, none⟩ = some (.int .i64 0) ∧ w21.cell? ⟨p, 8, none⟩ = some (.slice (some ⟨q, off, none⟩) 1 d) ∧ w21.cell? ⟨p, 9, none⟩ = some (.int .i64 0) ∧ w21.cell? ⟨p, 10, none⟩ = some (.int .i64 0) from cells11 HX21.out)
  clear hr hm
  (try go_wp2_with fail)
  refine hK.out _ _ ?_ (fun hHeld => ?_)
  focus ((try dsimp only); (first | exact HF15.out | exact cells11 (blk_below ((Below.refl _ _).drew) HX15.out) | exact HF16.out | exact HF17.out | exact HF18.out | exact HF19.out | exact HF20.out | exact HF21.out | exact HF22.out); done)
  clear hK K
  (try simp only [Act.put, List.setIfInBounds_toArray, List.set_cons_zero, List.set_cons_succ])
  refine wpAnyH_take (i := 48) (oi := ⟨_, _, _, _, _, _⟩) (v := ?_) rfl (by kernel_rfl) (by kernel_rfl) (by kernel_rfl) (fun _ _ _ h => h) (Or.inl ⟨by rfl, ?_⟩) (by assumption) ?_; rotate_left; (focus (intro w hSw; (try dsimp only at hSw); go_simp; (try with_reducible rfl); done)); simp only [Act.put, List.setIfInBounds_toArray, List.set_cons_zero, List.set_cons_succ]
  refine wpAnyH_take (i := 49) (oi := ⟨_, _, _, _, _, _⟩) (v := ?_) rfl (by kernel_rfl) (by kernel_rfl) (by kernel_rfl) (fun _ _ _ h => h) (Or.inl ⟨by rfl, ?_⟩) (by assumption) ?_; rotate_left; (focus (intro w hSw; (try dsimp only at hSw); go_simp; (try with_reducible rfl); done)); simp only [Act.put, List.setIfInBounds_toArray, List.set_cons_zero, List.set_cons_succ]
  refine wpAnyH_take (i := 50) (oi := ⟨_, _, _, _, _, _⟩) (v := ?_) rfl (by kernel_rfl) (by kernel_rfl) (by kernel_rfl) (fun _ _ _ h => h) (Or.inl ⟨by rfl, ?_⟩) (by assumption) ?_; rotate_left; (focus (intro w hSw; (try dsimp only at hSw); go_simp; (try with_reducible rfl); done)); simp only [Act.put, List.setIfInBounds_toArray, List.set_cons_zero, List.set_cons_succ]
  refine wpAnyH_take (i := 51) (oi := ⟨_, _, _, _, _, _⟩) (v := ?_) rfl (by kernel_rfl) (by kernel_rfl) (by kernel_rfl) (fun _ _ _ h => h) (Or.inl ⟨by rfl, ?_⟩) (by assumption) ?_; rotate_left; (focus (intro w hSw; (try dsimp only at hSw); go_simp; (try with_reducible rfl); done)); simp only [Act.put, List.setIfInBounds_toArray, List.set_cons_zero, List.set_cons_succ]
  refine wpAnyH_ready (rs := [52]) (by kernel_rfl) (by simp) ?_
  refine AllReadyH.cons (o := ⟨_, _, _, _, _, _⟩) rfl (fun K hK => ?_) AllReadyH.nil
  go_simp
  go_wp2_with fail
  refine (purge_b HR21.out (T1T HZ21.out) 220 lv_pun2 lv_pu2).mono ?_
  rintro e w22 ⟨rfl, hr, hm⟩
  have HR22 := Lib.hid hr
  have HX22 := Lib.hid (blk_mods hm HX21.out (fun e => e.2.1 rfl))
  have HB22 := Lib.hid (HB21.out.trans (hm.toBelow HB21.out.size (fun _ h => h.1)))
  have HZ22 := Lib.hid (Nat.le_trans HZ21.out hm.size)
  have HF22 := Lib.hid (show w22.cell? ⟨p, 0, none⟩ = some (.string ⟨#[117]⟩) ∧ w22.cell? ⟨p, 1, none⟩ = some (.string ⟨#[97, 112, 112]⟩) ∧ w22.cell? ⟨p, 2, none⟩ = some (.string ⟨#[116]⟩) ∧ w22.cell? ⟨p, 3, none⟩ = some (.string ⟨#[115]⟩) ∧ w22.cell? ⟨p, 4, none⟩ = some (.string ⟨#[104, 116, 116, 112, 115, 58, 47, 47, 97]⟩) ∧ w22.cell? ⟨p, 5, none⟩ = some (.string ⟨#[]⟩) ∧ w22.cell? ⟨p, 6, none⟩ = some (.string ⟨#[]⟩) ∧ w22.cell? ⟨p, 7, none⟩ = some (.int .i64 0) ∧ w22.cell? ⟨p, 8, none⟩ = some (.slice (some ⟨q, off, none⟩) 1 d) ∧ w22.cell? ⟨p, 9, none⟩ = some (.int .i64 0) ∧ w22.cell? ⟨p, 10, none⟩ = some (.int .i64 0) from cells11 HX22.out)
  clear hr hm
  (try go_wp2_with fail)
  refine hK.out _ _ ?_ (fun hHeld => ?_)
  focus ((try dsimp only); (first | exact HF15.out | exact cells11 (blk_below ((Below.refl _ _).drew) HX15.out) | exact HF16.out | exact HF17.out | exact HF18.out | exact HF19.out | exact HF20.out | exact HF21.out | exact HF22.out); done)
  clear hK K
  (try simp only [Act.put, List.setIfInBounds_toArray, List.set_cons_zero, List.set_cons_succ])
  refine wpAnyH_take (i := 53) (oi := ⟨_, _, _, _, _, _⟩) (v := ?_) rfl (by kernel_rfl) (by kernel_rfl) (by kernel_rfl) (fun _ _ _ h => h) (Or.inl ⟨by rfl, ?_⟩) (by assumption) ?_; rotate_left; (focus (intro w hSw; (try dsimp only at hSw); go_simp; (try with_reducible rfl); done)); simp only [Act.put, List.setIfInBounds_toArray, List.set_cons_zero, List.set_cons_succ]
  refine wpAnyH_take (i := 54) (oi := ⟨_, _, _, _, _, _⟩) (v := ?_) rfl (by kernel_rfl) (by kernel_rfl) (by kernel_rfl) (fun _ _ _ h => h) (Or.inl ⟨by rfl, ?_⟩) (by assumption) ?_; rotate_left; (focus (intro w hSw; (try dsimp only at hSw); go_simp; (try with_reducible rfl); done)); simp only [Act.put, List.setIfInBounds_toArray, List.set_cons_zero, List.set_cons_succ]
  refine wpAnyH_take (i := 55) (oi := ⟨_, _, _, _, _, _⟩) (v := ?_) rfl (by kernel_rfl) (by kernel_rfl) (by kernel_rfl) (fun _ _ _ h => h) (Or.inl ⟨by rfl, ?_⟩) (by assumption) ?_; rotate_left; (focus (intro w hSw; (try dsimp only at hSw); go_simp; (try with_reducible rfl); done)); simp only [Act.put, List.setIfInBounds_toArray, List.set_cons_zero, List.set_cons_succ]
  refine wpAnyH_take (i := 56) (oi := ⟨_, _, _, _, _, _⟩) (v := ?_) rfl (by kernel_rfl) (by kernel_rfl) (by kernel_rfl) (fun _ _ _ h => h) (Or.inl ⟨by rfl, ?_⟩) (by assumption) ?_; rotate_left; (focus (intro w hSw; (try dsimp only at hSw); go_simp; (try with_reducible rfl); done)); simp only [Act.put, List.setIfInBounds_toArray, List.set_cons_zero, List.set_cons_succ]
  refine wpAnyH_ready (rs := [57]) (by kernel_rfl) (by simp) ?_
  refine AllReadyH.cons (o := ⟨_, _, _, _, _, _⟩) rfl (fun K hK => ?_) AllReadyH.nil
  go_simp
  go_wp2_with fail
  refine (len_b HR22.out lv_len0).mono ?_
  rintro e wy ⟨rfl, rfl⟩
  (try go_wp2_with fail)
  refine hK.out _ _ ?_ (fun hHeld => ?_)
  focus ((try dsimp only); (first | exact HF15.out | exact cells11 (blk_below ((Below.refl _ _).drew) HX15.out) | exact HF16.out | exact HF17.out | exact HF18.out | exact HF19.out | exact HF20.out | exact HF21.out | exact HF22.out); done)
  clear hK K
  (try simp only [Act.put, List.setIfInBounds_toArray, List.set_cons_zero, List.set_cons_succ])
  refine wpAnyH_take (i := 58) (oi := ⟨_, _, _, _, _, _⟩) (v := ?_) rfl (by kernel_rfl) (by kernel_rfl) (by kernel_rfl) (fun _ _ _ h => h) (Or.inl ⟨by rfl, ?_⟩) (by assumption) ?_; rotate_left; (focus (intro w hSw; (try dsimp only at hSw); go_simp; (try with_reducible rfl); done)); simp only [Act.put, List.setIfInBounds_toArray, List.set_cons_zero, List.set_cons_succ]
  refine wpAnyH_take (i := 59) (oi := ⟨_, _, _, _, _, _⟩) (v := ?_) rfl (by kernel_rfl) (by kernel_rfl) (by kernel_rfl) (fun _ _ _ h => h) (Or.inl ⟨by rfl, ?_⟩) (by assumption) ?_; rotate_left; (focus (intro w hSw; (try dsimp only at hSw); go_simp; (try with_reducible rfl); done)); simp only [Act.put, List.setIfInBounds_toArray, List.set_cons_zero, List.set_cons_succ]
  refine wpAnyH_take (i := 60) (oi := ⟨_, _, _, _, _, _⟩) (v := ?_) rfl (by kernel_rfl) (by kernel_rfl) (by kernel_rfl) (fun _ _ _ h => h) (Or.inl ⟨by rfl, ?_⟩) (by assumption) ?_; rotate_left; (focus (intro w hSw; (try dsimp only at hSw); go_simp; (try with_reducible rfl); done)); simp only [Act.put, List.setIfInBounds_toArray, List.set_cons_zero]
  refine wpAnyH_done (by kernel_rfl) ?_ _
  go_wp2
  go_ret
  exact ⟨rfl, HB22.out⟩
end Go.Proofs.YtioabjniipkncaaGreatDoor.Rc
