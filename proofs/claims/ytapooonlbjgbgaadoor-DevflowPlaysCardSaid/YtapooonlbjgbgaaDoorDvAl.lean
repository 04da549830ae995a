/-
  The chapter's examples: alive returns true.
-/
import Derived.Test.YtapooonlbjgbgaaDoorDvSb
import Derived.KernelRfl
namespace Go.Proofs.YtapooonlbjgbgaaDoor.Dv
open Go.RowKit Go.Proofs.YtapooonlbjgbgaaDoor.Fo Go.Proofs.YtapooonlbjgbgaaDoor.Rf Go.Maps

set_option maxHeartbeats 2000000 in
/-- Two lists that read alike. -/
theorem lists_yes (A B : Option Addr) (n c d : Nat) (l : List Bs) (w : World) (hl : Ss w A n c l) (hk : Ss w B n d l) (hn : n ≤ 100000) :
    Calls Tryd.prog 21 #[.slice A n c, .slice B n d] w fun e w' => e = .returned (.bool true) ∧ Below w.heap.size w w' := by
  have HL := Lib.hid hl
  have HK := Lib.hid hk
  clear hl hk
  go_enter Tryd.func21, Tryd.ntmps21
  go_wp2
  go_loopw [5] (fun i wr => ∃ j : Nat, i = .int .i64 j ∧ j ≤ n ∧ Below w.heap.size w wr) (fun i _ => n - (intOf i).toNat)
  case atStart => exact ⟨0, rfl, Nat.zero_le _, Below.refl _ _⟩
  case round =>
    obtain ⟨j, rfl, hj, hb⟩ := hrel
    have HB := Lib.hid hb
    clear hb
    by_cases hlt : j < n
    · obtain ⟨b, off, rfl, hbl, hc⟩ := (HL.out.below HB.out).2.2 (by omega)
      obtain ⟨b2, off2, rfl, hbl2, hc2⟩ := (HK.out.below HB.out).2.2 (by omega)
      have hck := hc j hlt
      have hck2 := hc2 j hlt
      obtain ⟨x, hx⟩ : ∃ x, sAt l j = x := ⟨_, rfl⟩
      rw [hx] at hck hck2
      clear hx hc hc2
      go_wp2_with fail
      go_quiet (fail)
      go_wp2
      go_roundw
      case rel => exact ⟨j + 1, by go_num, by omega, below_drewN HB.out _⟩
      case measure => simp [intOf]; omega
    · go_wp2
      go_ret
      exact ⟨rfl, HB.out⟩
def gAp : Gr := ⟨⟨#[97, 110, 110]⟩, ⟨#[97, 112, 112]⟩, eB, eB, eB, eB, eB, 0, [⟨#[109, 97, 105, 108, 46, 114, 101, 97, 100]⟩], 0, 0⟩
def al0 : Fs := ⟨600, 5, 5, []⟩
def al1 : Fs := ⟨600, 5, 5, [⟨⟨#[100]⟩, ⟨#[66, 67, 68, 70, 45, 71, 72, 74, 75]⟩, ⟨#[97, 112, 112]⟩, [⟨#[109, 97, 105, 108]⟩], 600, 5, 0, noG, false, 0⟩]⟩
def al2 : Fs := ⟨600, 5, 5, [⟨⟨#[100]⟩, ⟨#[66, 67, 68, 70, 45, 71, 72, 74, 75]⟩, ⟨#[97, 112, 112]⟩, [⟨#[109, 97, 105, 108]⟩], 600, 5, 0, noG, true, 1⟩]⟩
def al3 : Fs := ⟨600, 5, 10, [⟨⟨#[100]⟩, ⟨#[66, 67, 68, 70, 45, 71, 72, 74, 75]⟩, ⟨#[97, 112, 112]⟩, [⟨#[109, 97, 105, 108]⟩], 600, 10, 0, noG, true, 3⟩]⟩
def al4 : Fs := ⟨600, 5, 10, [⟨⟨#[100]⟩, ⟨#[66, 67, 68, 70, 45, 71, 72, 74, 75]⟩, ⟨#[97, 112, 112]⟩, [⟨#[109, 97, 105, 108]⟩], 600, 10, 0, noG, true, 13⟩]⟩
def al5 : Fs := ⟨600, 5, 10, [⟨⟨#[100]⟩, ⟨#[66, 67, 68, 70, 45, 71, 72, 74, 75]⟩, ⟨#[97, 112, 112]⟩, [⟨#[109, 97, 105, 108]⟩], 600, 10, 1, gAp, true, 13⟩]⟩
def al6 : Fs := ⟨600, 5, 10, [⟨⟨#[100]⟩, ⟨#[66, 67, 68, 70, 45, 71, 72, 74, 75]⟩, ⟨#[97, 112, 112]⟩, [⟨#[109, 97, 105, 108]⟩], 600, 10, 3, gAp, true, 23⟩]⟩
def al7 : Fs := ⟨600, 5, 10, [⟨⟨#[100]⟩, ⟨#[66, 67, 68, 70, 45, 71, 72, 74, 75]⟩, ⟨#[97, 112, 112]⟩, [⟨#[109, 97, 105, 108]⟩], 600, 10, 3, gAp, true, 40⟩]⟩
theorem al_new : new0 600 5 = al0 := by kernel_rfl
theorem al_c1 : cuC ⟨#[32, 98, 99, 100, 102, 32, 103, 104, 106, 107]⟩ = (⟨#[66, 67, 68, 70, 45, 71, 72, 74, 75]⟩, 0) := by kernel_rfl
theorem al_c2 : cuC ⟨#[65, 66, 67, 68, 45, 70, 71, 72, 74]⟩ = (⟨#[]⟩, 4) := by kernel_rfl
theorem al_u1 : ucC 0 = ⟨#[66, 66, 66, 66, 45, 66, 66, 66, 66]⟩ := by kernel_rfl
theorem al_u2 : ucC 21 = ⟨#[66, 66, 66, 66, 45, 66, 66, 67, 67]⟩ := by kernel_rfl
theorem al_sta : sta al0 ⟨#[100]⟩ ⟨#[98, 99, 100, 102, 103, 104, 106, 107]⟩ ⟨#[97, 112, 112]⟩ [⟨#[109, 97, 105, 108]⟩] 0 = (al1, 0) := by kernel_rfl
theorem al_p1 : pol al1 ⟨#[100]⟩ ⟨#[97, 112, 112]⟩ 1 = (al2, (noG, 23)) := by kernel_rfl
theorem al_p2 : pol al2 ⟨#[100]⟩ ⟨#[97, 112, 112]⟩ 3 = (al3, (noG, 24)) := by kernel_rfl
theorem al_itv : itv al3 ⟨#[100]⟩ = 10 := by kernel_rfl
theorem al_p3 : pol al3 ⟨#[100]⟩ ⟨#[97, 112, 112]⟩ 13 = (al4, (noG, 23)) := by kernel_rfl
theorem al_p4 : pol al4 ⟨#[100]⟩ ⟨#[111, 116, 104, 101, 114]⟩ 14 = (al4, (noG, 11)) := by kernel_rfl
theorem al_pen : pen al4 ⟨#[66, 67, 68, 70, 45, 71, 72, 74, 75]⟩ 14 = (⟨#[97, 112, 112]⟩, [⟨#[109, 97, 105, 108]⟩], 0) := by kernel_rfl
theorem al_apr : apr al4 ⟨#[66, 67, 68, 70, 45, 71, 72, 74, 75]⟩ gAp 14 = (al5, 0) := by kernel_rfl
theorem al_p5 : pol al5 ⟨#[100]⟩ ⟨#[97, 112, 112]⟩ 23 = (al6, (gAp, 0)) := by kernel_rfl
theorem al_p6 : pol al6 ⟨#[100]⟩ ⟨#[97, 112, 112]⟩ 40 = (al7, (noG, 18)) := by kernel_rfl
theorem al_den : den al7 ⟨#[98, 99, 100, 102, 45, 103, 104, 106, 107]⟩ 600 = (al7, 13) := by kernel_rfl
theorem al_pur : puS al7 600 = ⟨600, 5, 10, []⟩ := by kernel_rfl
theorem al_purn : (al7.l.length : Int) - ((puS al7 600).l.length : Int) = 1 := by rw [al_pur]; rfl
theorem clean_is (s : Bs) (w : World) (hs : s.size ≤ 100000) (hm : MX w) {r : Bs × Int} (hr : cuC s = r) :
    Calls Tryd.prog 10 #[.string s] w fun e w' => e = .returned (.tuple #[.string r.1, .int .i64 r.2]) ∧ Below w.heap.size w w' := by
  rw [← hr]; exact clean_any s w hs hm
theorem ucode_is (n : Int) (w : World) {r : Bs} (hr : ucC n = r) :
    Calls Tryd.prog 12 #[.int .i64 n] w fun e w' => e = .returned (.string r) ∧ Below w.heap.size w w' := by
  rw [← hr]; exact ucode_any n w
theorem short_one {s : Bs} (h : s.size ≤ 100000) : Short [s] := fun i hi => by
  have : i = 0 := by simp at hi; omega
  subst this
  exact h
theorem pol_e {w : World} {T : Nat → Prop} {F : Nat} {st st' : Fs} {k : Int} (h : RepB w T F st) (d c : Bs) (hd : d.size ≤ 100000) (now : Int) (hcap : st.cap ≤ 576460752303423488) (hq : pol st d c now = (st', (noG, k))) :
    Calls Tryd.prog 26 #[.pointer (some ⟨F, 0, none⟩), .string d, .string c, .int .i64 now] w fun e w' => ∃ A d, e = .returned (.tuple #[.agg #[.string ⟨#[]⟩, .string ⟨#[]⟩, .string ⟨#[]⟩, .string ⟨#[]⟩, .string ⟨#[]⟩, .string ⟨#[]⟩, .string ⟨#[]⟩, .int .i64 0, .slice A 0 d, .int .i64 0, .int .i64 0], .int .i64 k]) ∧ RepB w' T F st' ∧ Mods T w w' := by
  refine (pol_b h d c hd now hcap hq).mono ?_
  rintro e w' ⟨A, d', h1, h2, h3, h4⟩
  exact ⟨A, d', h1, h3.mono (fun k _ e => e.1), h4⟩
theorem pol_k {w : World} {T : Nat → Prop} {F : Nat} {st st' : Fs} (h : RepB w T F st) (d c : Bs) (hd : d.size ≤ 100000) (now : Int) (hcap : st.cap ≤ 576460752303423488) (hq : pol st d c now = (st', (gAp, 0))) :
    Calls Tryd.prog 26 #[.pointer (some ⟨F, 0, none⟩), .string d, .string c, .int .i64 now] w fun e w' => ∃ A d, e = .returned (.tuple #[.agg #[.string ⟨#[97, 110, 110]⟩, .string ⟨#[97, 112, 112]⟩, .string ⟨#[]⟩, .string ⟨#[]⟩, .string ⟨#[]⟩, .string ⟨#[]⟩, .string ⟨#[]⟩, .int .i64 0, .slice A 1 d, .int .i64 0, .int .i64 0], .int .i64 0]) ∧ RepB w' (fun k => T k ∧ k < w.heap.size) F st' ∧ Mods T w w' := by
  refine (pol_b h d c hd now hcap hq).mono ?_
  rintro e w' ⟨A, d', h1, h2, h3, h4⟩
  exact ⟨A, d', h1, h3, h4⟩
set_option maxRecDepth 100000 in
set_option maxHeartbeats 8000000 in
theorem alive_any (w : World) (hm : MX w) : Calls Tryd.prog 9 #[] w fun e w' => e = .returned (.bool true) ∧ Below w.heap.size w w' := by
  have HM := Lib.hid hm
  have HB0 := Lib.hid (Below.refl w.heap.size w)
  clear hm
  go_enter Tryd.func9, Tryd.ntmps9
  go_wp2_with fail
  refine (clean_is ⟨#[32, 98, 99, 100, 102, 32, 103, 104, 106, 107]⟩ w (by decide) HM.out al_c1).mono ?_
  rintro e w1 ⟨rfl, hb⟩
  have HB1 := Lib.hid hb
  clear hb
  go_wp2_with fail
  refine (clean_is ⟨#[65, 66, 67, 68, 45, 70, 71, 72, 74]⟩ w1 (by decide) (HM.out.below HB1.out) al_c2).mono ?_
  rintro e w2 ⟨rfl, hb⟩
  have HB2 := Lib.hid (HB1.out.trans (hb.mono HB1.out.size))
  clear hb
  go_wp2_with fail
  refine (new_b (w := w2) (by decide) al_new).mono ?_
  rintro e w3 ⟨F, rfl, hr, hb⟩
  have HB3 := Lib.hid (HB2.out.trans (hb.mono HB2.out.size))
  have HR3 := Lib.hid (hr.mono (T' := (fun k => w.heap.size ≤ k)) (fun k _ e => Nat.le_trans HB2.out.size e))
  clear hb hr
  go_wp2_with fail
  refine (ucode_is 0 w3 al_u1).mono ?_
  rintro e w4 ⟨rfl, hb⟩
  have HB4 := Lib.hid (HB3.out.trans (hb.mono HB3.out.size))
  have HR4 := Lib.hid (HR3.out.below hb)
  clear hb
  go_wp2_with fail
  refine (ucode_is 21 w4 al_u2).mono ?_
  rintro e w5 ⟨rfl, hb⟩
  have HB5 := Lib.hid (HB4.out.trans (hb.mono HB4.out.size))
  have HR5 := Lib.hid (HR4.out.below hb)
  clear hb
  go_wp2_with fail
  obtain ⟨w6, hw⟩ : ∃ w', w' = w5.alloc (.cells #[.string ⟨#[109, 97, 105, 108]⟩] 9) := ⟨_, rfl⟩
  have hb : Below w5.heap.size w5 w6 := by rw [hw]; go_grown
  have hx : w6.heap[w5.heap.size]? = some (.cells #[.string ⟨#[109, 97, 105, 108]⟩] 9 (0, 0)) := by rw [hw]; exact heap_alloc_new _ _
  rw [← hw]
  have HB6 := Lib.hid (HB5.out.trans (hb.mono HB5.out.size))
  have HR6 := Lib.hid ((HR5.out.mono (T' := fun k => w.heap.size ≤ k ∧ k < w5.heap.size) (fun k hk e => ⟨e, hk⟩)).below hb)
  have HS6 := Lib.hid (ss_row (l := [⟨#[109, 97, 105, 108]⟩]) hx)
  clear hw hb hx
  refine (sta_b (T := (fun k => w.heap.size ≤ k)) HR6.out (fun k e => e.1) (fun k e => Nat.le_trans HB6.out.size e) ⟨#[100]⟩ ⟨#[98, 99, 100, 102, 103, 104, 106, 107]⟩ ⟨#[97, 112, 112]⟩ [⟨#[109, 97, 105, 108]⟩] (some ⟨w5.heap.size, 0, none⟩) 1 0 al_sta (by decide) (by decide) (by decide) HS6.out (short_one (by decide)) (by decide) (HM.out.below HB6.out) (fun a ha _ e => by injection ha with ha; subst ha; exact absurd e.2 (Nat.lt_irrefl _))).mono ?_
  rintro e w7 ⟨rfl, hr, hm⟩
  have HR7 := Lib.hid hr
  have HB7 := Lib.hid (HB6.out.trans (hm.toBelow HB6.out.size (fun _ h => h.1)))
  clear hr hm HR6 HS6
  go_wp2_with fail
  refine (pol_e HR7.out ⟨#[100]⟩ ⟨#[97, 112, 112]⟩ (by decide) 1 (by decide) al_p1).mono ?_
  rintro e w8 ⟨A8, d8, rfl, hr, hm⟩
  have HR8 := Lib.hid hr
  have HB8 := Lib.hid (HB7.out.trans (hm.toBelow HB7.out.size (fun _ h => h)))
  clear hr hm HR7 HB7
  go_upto_region 8 with fail
  obtain ⟨w9, hw⟩ : ∃ w', w' = w8.alloc (.cells #[.string ⟨#[]⟩, .string ⟨#[]⟩, .string ⟨#[]⟩, .string ⟨#[]⟩, .string ⟨#[]⟩, .string ⟨#[]⟩, .string ⟨#[]⟩, .int .i64 0, .slice A8 0 d8, .int .i64 0, .int .i64 0] 39) := ⟨_, rfl⟩
  have hb : Below w8.heap.size w8 w9 := by rw [hw]; go_grown
  rw [← hw]
  have HR9 := Lib.hid (HR8.out.below hb)
  have HB9 := Lib.hid (HB8.out.trans (hb.mono HB8.out.size))
  clear hw hb HR8 HB8
  go_wp2_with fail
  refine (pol_e HR9.out ⟨#[100]⟩ ⟨#[97, 112, 112]⟩ (by decide) 3 (by decide) al_p2).mono ?_
  rintro e w10 ⟨A10, d10, rfl, hr, hm⟩
  have HR10 := Lib.hid hr
  have HB10 := Lib.hid (HB9.out.trans (hm.toBelow HB9.out.size (fun _ h => h)))
  clear hr hm HR9 HB9
  go_upto_region 9 with fail
  obtain ⟨w11, hw⟩ : ∃ w', w' = w10.alloc (.cells #[.string ⟨#[]⟩, .string ⟨#[]⟩, .string ⟨#[]⟩, .string ⟨#[]⟩, .string ⟨#[]⟩, .string ⟨#[]⟩, .string ⟨#[]⟩, .int .i64 0, .slice A10 0 d10, .int .i64 0, .int .i64 0] 39) := ⟨_, rfl⟩
  have hb : Below w10.heap.size w10 w11 := by rw [hw]; go_grown
  rw [← hw]
  have HR11 := Lib.hid (HR10.out.below hb)
  have HB11 := Lib.hid (HB10.out.trans (hb.mono HB10.out.size))
  clear hw hb HR10 HB10
  go_wp2_with fail
  refine (itv_b HR11.out ⟨#[100]⟩ (by decide) al_itv).mono ?_
  rintro e wx ⟨rfl, rfl⟩
  go_wp2_with fail
  refine (pol_e HR11.out ⟨#[100]⟩ ⟨#[97, 112, 112]⟩ (by decide) 13 (by decide) al_p3).mono ?_
  rintro e w12 ⟨A12, d12, rfl, hr, hm⟩
  have HR12 := Lib.hid hr
  have HB12 := Lib.hid (HB11.out.trans (hm.toBelow HB11.out.size (fun _ h => h)))
  clear hr hm HR11 HB11
  go_upto_region 11 with fail
  obtain ⟨w13, hw⟩ : ∃ w', w' = w12.alloc (.cells #[.string ⟨#[]⟩, .string ⟨#[]⟩, .string ⟨#[]⟩, .string ⟨#[]⟩, .string ⟨#[]⟩, .string ⟨#[]⟩, .string ⟨#[]⟩, .int .i64 0, .slice A12 0 d12, .int .i64 0, .int .i64 0] 39) := ⟨_, rfl⟩
  have hb : Below w12.heap.size w12 w13 := by rw [hw]; go_grown
  rw [← hw]
  have HR13 := Lib.hid (HR12.out.below hb)
  have HB13 := Lib.hid (HB12.out.trans (hb.mono HB12.out.size))
  clear hw hb HR12 HB12
  go_wp2_with fail
  refine (pol_e HR13.out ⟨#[100]⟩ ⟨#[111, 116, 104, 101, 114]⟩ (by decide) 14 (by decide) al_p4).mono ?_
  rintro e w14 ⟨A14, d14, rfl, hr, hm⟩
  have HR14 := Lib.hid hr
  have HB14 := Lib.hid (HB13.out.trans (hm.toBelow HB13.out.size (fun _ h => h)))
  clear hr hm HR13 HB13
  go_upto_region 12 with fail
  obtain ⟨w15, hw⟩ : ∃ w', w' = w14.alloc (.cells #[.string ⟨#[]⟩, .string ⟨#[]⟩, .string ⟨#[]⟩, .string ⟨#[]⟩, .string ⟨#[]⟩, .string ⟨#[]⟩, .string ⟨#[]⟩, .int .i64 0, .slice A14 0 d14, .int .i64 0, .int .i64 0] 39) := ⟨_, rfl⟩
  have hb : Below w14.heap.size w14 w15 := by rw [hw]; go_grown
  rw [← hw]
  have HR15 := Lib.hid (HR14.out.below hb)
  have HB15 := Lib.hid (HB14.out.trans (hb.mono HB14.out.size))
  clear hw hb HR14 HB14
  go_wp2_with fail
  refine (pen_b HR15.out ⟨#[66, 67, 68, 70, 45, 71, 72, 74, 75]⟩ (by decide) 14 (HM.out.below HB15.out) al_pen).mono ?_
  rintro e w16 ⟨A16, d16, rfl, hf, hb⟩
  obtain ⟨q, off, hA, hq, _⟩ := hf.1.2.2 (show 0 < 1 by decide)
  subst hA
  have HQ := Lib.hid (show w15.heap.size ≤ q by have := hf.2 _ rfl (show 0 < 1 by decide); simpa using this)
  have HQ2 := Lib.hid hq
  have HS16 := Lib.hid (show Ss w16 (some ⟨q, off, none⟩) 1 d16 [⟨#[109, 97, 105, 108]⟩] from hf.1)
  have NQ : ∀ a, (some (⟨q, off, none⟩ : Addr)) = some a → 0 < 1 → ¬ (fun k => w.heap.size ≤ k ∧ ¬ k = q) a.block := fun a ha _ e => by injection ha with ha; subst ha; exact e.2 rfl
  have HB16 := Lib.hid (HB15.out.trans (hb.mono HB15.out.size))
  have HR16 := Lib.hid (show RepB w16 (fun k => w.heap.size ≤ k ∧ ¬ k = q) F al4 from (HR15.out.mono (fun k hk e => ⟨e, by have := HQ.out; omega⟩)).below hb)
  clear hf hb hq HR15 HB15
  go_wp2_with fail
  obtain ⟨w17, hw⟩ : ∃ w', w' = w16.alloc (.cells #[.string ⟨#[109, 97, 105, 108, 46, 114, 101, 97, 100]⟩] 9) := ⟨_, rfl⟩
  have hb : Below w16.heap.size w16 w17 := by rw [hw]; go_grown
  have hx : w17.heap[w16.heap.size]? = some (.cells #[.string ⟨#[109, 97, 105, 108, 46, 114, 101, 97, 100]⟩] 9 (0, 0)) := by rw [hw]; exact heap_alloc_new _ _
  rw [← hw]
  have HB17 := Lib.hid (HB16.out.trans (hb.mono HB16.out.size))
  have HR17 := Lib.hid (HR16.out.below hb)
  have HS17 := Lib.hid (HS16.out.below hb)
  have HSR := Lib.hid (ss_row (l := [⟨#[109, 97, 105, 108, 46, 114, 101, 97, 100]⟩]) hx)
  have HZ17 := Lib.hid (show q < w17.heap.size by have := HQ2.out; have := hb.size; omega)
  clear hw hb hx HB16
  refine (apr_b HR17.out (fun k e => ⟨Nat.le_trans HB17.out.size e, by have := HZ17.out; omega⟩) ⟨#[66, 67, 68, 70, 45, 71, 72, 74, 75]⟩ gAp (some ⟨w16.heap.size, 0, none⟩) 1 (by decide) 14 al_apr HSR.out (short_one (by decide)) (by decide) (HM.out.below HB17.out)).mono ?_
  rintro e w18 ⟨rfl, hr, hm⟩
  have HR18 := Lib.hid hr
  have HS18 := Lib.hid (ss_mods HS17.out hm NQ)
  have HB18 := Lib.hid (HB17.out.trans (hm.toBelow HB17.out.size (fun _ h => h.1)))
  have HZ18 := Lib.hid (Nat.lt_of_lt_of_le HZ17.out hm.size)
  clear hr hm HR17 HSR HS17 HB17
  go_wp2_with fail
  refine (pol_k HR18.out ⟨#[100]⟩ ⟨#[97, 112, 112]⟩ (by decide) 23 (by decide) al_p5).mono ?_
  rintro e w19 ⟨A19, d19, rfl, hr, hm⟩
  have HR19 := Lib.hid hr
  have HS19 := Lib.hid (ss_mods HS18.out hm NQ)
  have HB19 := Lib.hid (HB18.out.trans (hm.toBelow HB18.out.size (fun _ h => h.1)))
  have HZ19 := Lib.hid hm.size
  clear hr hm HR18 HS18 HB18
  go_upto_region 15 with fail
  obtain ⟨w20, hw⟩ : ∃ w', w' = w19.alloc (.cells #[.string ⟨#[97, 110, 110]⟩, .string ⟨#[97, 112, 112]⟩, .string ⟨#[]⟩, .string ⟨#[]⟩, .string ⟨#[]⟩, .string ⟨#[]⟩, .string ⟨#[]⟩, .int .i64 0, .slice A19 1 d19, .int .i64 0, .int .i64 0] 39) := ⟨_, rfl⟩
  have hb : Below w19.heap.size w19 w20 := by rw [hw]; go_grown
  rw [← hw]
  obtain ⟨p, hp⟩ : ∃ p, p = w19.heap.size := ⟨_, rfl⟩
  have HX20 := Lib.hid (show w20.heap[p]? = some (.cells #[.string ⟨#[97, 110, 110]⟩, .string ⟨#[97, 112, 112]⟩, .string ⟨#[]⟩, .string ⟨#[]⟩, .string ⟨#[]⟩, .string ⟨#[]⟩, .string ⟨#[]⟩, .int .i64 0, .slice A19 1 d19, .int .i64 0, .int .i64 0] 39 (0, 0)) by rw [hw, hp]; exact heap_alloc_new _ _)
  rw [← hp]
  have HB20 := Lib.hid (HB19.out.trans (hb.mono HB19.out.size))
  have HS20 := Lib.hid (HS19.out.below hb)
  have HR20 := Lib.hid (show RepB w20 (fun k => w.heap.size ≤ k ∧ ¬ k = q ∧ ¬ k = p) F al6 from (HR19.out.mono (fun k hk e => ⟨e.1.1, e.1.2, by omega⟩)).below hb)
  clear hp
  have NQ : ∀ a, (some (⟨q, off, none⟩ : Addr)) = some a → 0 < 1 → ¬ (fun k => w.heap.size ≤ k ∧ ¬ k = q ∧ ¬ k = p) a.block := fun a ha _ e => by injection ha with ha; subst ha; exact e.2.1 rfl
  clear hw hb HR19 HS19 HB19
  go_wp2_with fail
  refine (pol_e HR20.out ⟨#[100]⟩ ⟨#[97, 112, 112]⟩ (by decide) 40 (by decide) al_p6).mono ?_
  rintro e w21 ⟨A21, d21, rfl, hr, hm⟩
  have HR21 := Lib.hid hr
  have HB21 := Lib.hid (HB20.out.trans (hm.toBelow HB20.out.size (fun _ h => h.1)))
  have HS21 := Lib.hid (ss_mods HS20.out hm NQ)
  have HX21 := Lib.hid (blk_mods hm HX20.out (fun e => e.2.2 rfl))
  clear hr hm HR20 HB20
  go_upto_region 16 with fail
  obtain ⟨w22, hw⟩ : ∃ w', w' = w21.alloc (.cells #[.string ⟨#[]⟩, .string ⟨#[]⟩, .string ⟨#[]⟩, .string ⟨#[]⟩, .string ⟨#[]⟩, .string ⟨#[]⟩, .string ⟨#[]⟩, .int .i64 0, .slice A21 0 d21, .int .i64 0, .int .i64 0] 39) := ⟨_, rfl⟩
  have hb : Below w21.heap.size w21 w22 := by rw [hw]; go_grown
  rw [← hw]
  have HR22 := Lib.hid (HR21.out.below hb)
  have HB22 := Lib.hid (HB21.out.trans (hb.mono HB21.out.size))
  have HS22 := Lib.hid (HS21.out.below hb)
  have HX22 := Lib.hid (blk_below hb HX21.out)
  clear hw hb HR21 HB21
  have x0 := cell_block HX22.out 0
  simp only [List.getElem?_toArray, List.getElem?_cons_zero] at x0
  have HPB := Lib.hid (show p < w22.heap.size from blk_lt HX22.out)
  have HQB := Lib.hid (show q < w22.heap.size from ss_block HS22.out rfl (by decide))
  go_wp2_with fail
  obtain ⟨w23, hw⟩ : ∃ w', w' = w22.alloc (.cells #[.string ⟨#[109, 97, 105, 108]⟩] 9) := ⟨_, rfl⟩
  have hb : Below w22.heap.size w22 w23 := by rw [hw]; go_grown
  have hx : w23.heap[w22.heap.size]? = some (.cells #[.string ⟨#[109, 97, 105, 108]⟩] 9 (0, 0)) := by rw [hw]; exact heap_alloc_new _ _
  rw [← hw]
  have HB23 := Lib.hid (HB22.out.trans (hb.mono HB22.out.size))
  have HR23 := Lib.hid (HR22.out.below hb)
  have HX23 := Lib.hid (blk_below hb HX22.out)
  have HS23 := Lib.hid (HS22.out.below hb)
  have HSM := Lib.hid (ss_row (l := [⟨#[109, 97, 105, 108]⟩]) hx)
  clear hw hb hx x0
  refine (lists_yes (some ⟨q, off, none⟩) (some ⟨w22.heap.size, 0, none⟩) 1 d16 1 [⟨#[109, 97, 105, 108]⟩] w23 HS23.out HSM.out (by decide)).mono ?_
  rintro e w24 ⟨rfl, hb⟩
  have HB24 := Lib.hid (HB23.out.trans (hb.mono HB23.out.size))
  have HR24 := Lib.hid (HR23.out.below hb)
  have HX24 := Lib.hid (blk_below hb HX23.out)
  have HZ24 := Lib.hid (show p < w24.heap.size ∧ q < w24.heap.size from ⟨blk_lt HX24.out, Nat.lt_of_lt_of_le (ss_block HS23.out rfl (by decide)) hb.size⟩)
  clear hb
  have x0 := cell_block HX24.out 0
  simp only [List.getElem?_toArray, List.getElem?_cons_zero] at x0
  go_wp2_with fail
  refine (den_b HR24.out (fun k e => ⟨Nat.le_trans HB24.out.size e, by have := HZ24.out.2; omega, by have := HZ24.out.1; omega⟩) ⟨#[98, 99, 100, 102, 45, 103, 104, 106, 107]⟩ (by decide) 600 al_den (HM.out.below HB24.out)).mono ?_
  rintro e w25 ⟨rfl, hr, hm⟩
  have HR25 := Lib.hid hr
  have HB25 := Lib.hid (HB24.out.trans (hm.toBelow HB24.out.size (fun _ h => h.1)))
  clear hr hm x0
  go_wp2_with fail
  refine (pur_b HR25.out 600 al_purn rfl).mono ?_
  rintro e w26 ⟨rfl, hr, hm⟩
  have HB26 := Lib.hid (HB25.out.trans (hm.toBelow HB25.out.size (fun _ h => h.1)))
  clear hr hm
  go_wp2
  go_ret
  exact ⟨rfl, HB26.out⟩
end Go.Proofs.YtapooonlbjgbgaaDoor.Dv
