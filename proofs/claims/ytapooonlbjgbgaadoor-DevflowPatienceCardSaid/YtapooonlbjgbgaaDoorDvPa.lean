/-
  The walk of the statement DevflowPatience.
-/
import Derived.Test.YtapooonlbjgbgaaDoorDvV
import Derived.Test.YtapooonlbjgbgaaDoorDvAl
namespace Go.Proofs.YtapooonlbjgbgaaDoor.Dv
open Go.RowKit Go.Proofs.YtapooonlbjgbgaaDoor.Fo Go.Proofs.YtapooonlbjgbgaaDoor.Rf

/-- Small numbers in memory. -/
def uAt (l : List Int) (i : Nat) : Int := l.getD i 0
def Us (w : World) (A : Option Addr) (n : Nat) (l : List Int) : Prop :=
  l.length = n ∧ n ≤ 9223372036854775807 ∧ (∀ i, i < n → 0 ≤ uAt l i ∧ uAt l i ≤ 255) ∧ (0 < n → ∃ b off, A = some ⟨b, off, none⟩ ∧ b < w.heap.size ∧ ∀ i, i < n → w.cell? ⟨b, off + i, none⟩ = some (.int .u8 (uAt l i)))
theorem Us.below {w w' : World} {A : Option Addr} {n : Nat} {l : List Int} (h : Us w A n l) (hb : Below w.heap.size w w') : Us w' A n l := by
  refine ⟨h.1, h.2.1, h.2.2.1, fun hn => ?_⟩
  obtain ⟨b, off, hA, hl, hc⟩ := h.2.2.2 hn
  exact ⟨b, off, hA, Nat.lt_of_lt_of_le hl hb.size, fun i hi => (bkeep hb hl _).trans (hc i hi)⟩
def paF (iv : Int) (p : Bool) (now : Int) : Fw := ⟨⟨#[100]⟩, ⟨#[66, 66, 66, 66, 45, 66, 66, 66, 66]⟩, ⟨#[97, 112, 112]⟩, [], 1000000, iv, 0, noG, p, now⟩
def paS (k iv cap : Int) (p : Bool) (now : Int) : Fs := ⟨1000000, 1 + k, cap, [paF iv p now]⟩
theorem pa_new {k : Int} (h : 0 ≤ k ∧ k ≤ 255) : new0 1000000 (1 + k) = ⟨1000000, 1 + k, 1 + k, []⟩ := by
  unfold new0
  rw [limI_id (by omega) (by omega)]
theorem pa_sta (k : Int) : sta ⟨1000000, 1 + k, 1 + k, []⟩ ⟨#[100]⟩ ⟨#[66, 66, 66, 66, 45, 66, 66, 66, 66]⟩ ⟨#[97, 112, 112]⟩ [] 0 = (paS k (1 + k) (1 + k) false 0, 0) := by kernel_rfl
theorem pa_itv (k iv cap : Int) (p : Bool) (now : Int) : itv (paS k iv cap p now) ⟨#[100]⟩ = iv := by kernel_rfl
theorem pa_itx (k iv cap : Int) (p : Bool) (now : Int) : itv (paS k iv cap p now) ⟨#[120]⟩ = 0 := by kernel_rfl
theorem pa_cd (k iv cap : Int) (p : Bool) (now : Int) : cdI (paS k iv cap p now).l ⟨#[100]⟩ = some 0 := by kernel_rfl
theorem pa_poE (iv : Int) (p : Bool) (now u : Int) (h0 : 0 ≤ now) (hu : 0 ≤ u) (h : now + u ≤ 100000) : poE (paF iv p now) ⟨#[97, 112, 112]⟩ (now + u) = if p = true ∧ u < iv then 24 else 23 := by
  have hl : limI (now + u) = now + u := limI_id (by omega) (by omega)
  unfold poE
  rw [if_neg (fun h => h rfl)]
  have he : expd (now + u) (paF iv p now) = false := by
    unfold expd
    rw [hl]
    exact decide_eq_false (show ¬ (1000000 : Int) ≤ now + u by omega)
  rw [he, if_neg (by decide)]
  have hea : ear (paF iv p now) (now + u) = (p && decide (u < iv)) := by
    unfold ear
    rw [hl]
    show (p && decide (now + u < now + iv)) = _
    congr 1
    exact decide_eq_decide.2 (by omega)
  rw [hea]
  cases p
  · simp [paF]
  · by_cases hx : u < iv
    · simp [hx]
    · simp [hx, paF]
theorem pa_slo (iv : Int) (p : Bool) (now u : Int) (h0 : 0 ≤ now) (hu : 0 ≤ u) (h : now + u ≤ 100000) : slo (paF iv p now) (now + u) = paF (if p = true ∧ u < iv then iv + 5 else iv) true (now + u) := by
  have hl : limI (now + u) = now + u := limI_id (by omega) (by omega)
  have hea : ear (paF iv p now) (now + u) = (p && decide (u < iv)) := by
    unfold ear
    rw [hl]
    show (p && decide (now + u < now + iv)) = _
    congr 1
    exact decide_eq_decide.2 (by omega)
  unfold slo
  rw [hea, hl]
  cases p
  · simp [paF]
  · by_cases hx : u < iv
    · simp [hx, paF]
    · simp [hx, paF]
theorem pa_pol (k iv cap : Int) (p : Bool) (now u : Int) (h0 : 0 ≤ now) (hu : 0 ≤ u) (h : now + u ≤ 100000) :
    pol (paS k iv cap p now) ⟨#[100]⟩ ⟨#[97, 112, 112]⟩ (now + u) = if p = true ∧ u < iv then (paS k (iv + 5) (cap + 5) true (now + u), (noG, 24)) else (paS k iv cap true (now + u), (noG, 23)) := by
  unfold pol
  rw [pa_cd]
  show (⟨_, _⟩ : Fs × (Gr × Int)) = _
  rw [pa_poE iv p now u h0 hu h]
  have hx : poX (paF iv p now) ⟨#[97, 112, 112]⟩ (now + u) = slo (paF iv p now) (now + u) := by
    unfold poX
    rw [pa_poE iv p now u h0 hu h]
    by_cases e : p = true ∧ u < iv
    · rw [if_pos e]; simp
    · rw [if_neg e]; simp
  rw [hx, pa_slo iv p now u h0 hu h]
  by_cases e : p = true ∧ u < iv
  · simp only [if_pos e]
    rfl
  · simp only [if_neg e]
    rfl
theorem pa_add {now u : Int} (h0 : 0 ≤ now) (hu : 0 ≤ u) (h : now + u ≤ 100000) : addC now u = now + u := by
  unfold addC
  rw [limI_id h0 (by omega), limI_id hu (by omega), limI_id (by omega) (by omega)]
set_option maxRecDepth 100000 in
set_option maxHeartbeats 8000000 in
theorem pat_any (w : World) (k : Int) (A : Option Addr) (n c : Nat) (l : List Int) (hk : 0 ≤ k ∧ k ≤ 255) (hl : Us w A n l) (hm : MX w) : Calls Tryd.prog 7 #[.int .u8 k, .slice A n c] w fun e w' => e = .returned (.bool true) ∧ Below w.heap.size w w' := by
  have HM := Lib.hid hm
  have HL := Lib.hid hl
  have HN := Lib.hid hl.2.1
  have HB0 := Lib.hid (Below.refl w.heap.size w)
  have HK := Lib.hid hk
  obtain ⟨hk0, hk1⟩ := hk
  clear hm hl
  go_enter Tryd.func7, Tryd.ntmps7
  go_wp2_with fail
  refine (new_b (w := w) (l := 1000000) (i := 1 + k) (by omega) (pa_new HK.out)).mono ?_
  rintro e w1 ⟨F, rfl, hr, hb⟩
  have HB1 := Lib.hid (HB0.out.trans (hb.mono HB0.out.size))
  have HR1 := Lib.hid hr
  clear hb hr
  by_cases hn : (25 : Int) < (n : Int)
  · go_wp2_with fail
    refine (alive_any w1 (HM.out.below HB1.out)).mono ?_
    rintro e w2 ⟨rfl, hb⟩
    have HB2 := Lib.hid (HB1.out.trans (hb.mono HB1.out.size))
    clear hb
    go_wp2
    go_ret
    exact ⟨rfl, HB2.out⟩
  · have hn2 : n ≤ 25 := by omega
    go_wp2_with fail
    refine (sta_b (T := (fun k => w.heap.size ≤ k)) HR1.out (fun k e => e) (fun k e => Nat.le_trans HB1.out.size e) ⟨#[100]⟩ ⟨#[66, 66, 66, 66, 45, 66, 66, 66, 66]⟩ ⟨#[97, 112, 112]⟩ [] none 0 0 (pa_sta k) (by decide) (by decide) (by decide) (Ss.nil _ _ _) (fun i hi => absurd hi (by simp)) (by decide) (HM.out.below HB1.out) (fun a ha => by cases ha)).mono ?_
    rintro e w2 ⟨rfl, hr, hm⟩
    have HR2 := Lib.hid hr
    have HB2 := Lib.hid (HB1.out.trans (hm.toBelow HB1.out.size (fun _ h => h)))
    clear hr hm
    go_wp2_with fail
    refine (itv_b HR2.out ⟨#[100]⟩ (by decide) (pa_itv k _ _ _ _)).mono ?_
    rintro e wx ⟨rfl, rfl⟩
    go_wp2_with fail
    refine (itv_b HR2.out ⟨#[120]⟩ (by decide) (pa_itx k _ _ _ _)).mono ?_
    rintro e wx ⟨rfl, rfl⟩
    go_wp2_with fail
    go_loopw [7, 8, 9, 10, 11, 12] (fun nv iv_ _ _ _ _ wr => ∃ (i : Nat) (iv cap now : Int) (p : Bool), iv_ = .int .i64 i ∧ nv = .int .i64 now ∧ i ≤ n ∧ 0 ≤ now ∧ Hid (now ≤ 255 * i ∧ cap ≤ 256 + 5 * i ∧ 1 ≤ iv ∧ iv ≤ 256 + 5 * i) ∧ Hid (p = decide (0 < i)) ∧ RepB wr (fun k => w.heap.size ≤ k) F (paS k iv cap p now) ∧ Below w.heap.size w wr) (fun _ iv_ _ _ _ _ _ => n - (intOf iv_).toNat)
    case atStart => exact ⟨0, 1 + k, 1 + k, 0, false, rfl, rfl, Nat.zero_le _, Int.le_refl _, Lib.hid (by have := HK.out; omega), Lib.hid rfl, HR2.out, HB2.out⟩
    case round =>
      obtain ⟨j, iv, cap, now, p, rfl, rfl, hj, hnow0, HF, HP, hr, hb⟩ := hrel
      have HR := Lib.hid hr
      have HB := Lib.hid hb
      clear hr hb
      by_cases hlt : j < n
      · obtain ⟨b, off, rfl, hbl, hc⟩ := HL.out.2.2.2 (by omega)
        have hcj := hc j hlt
        obtain ⟨u, hu⟩ : ∃ u, uAt l j = u := ⟨_, rfl⟩
        have hub := HL.out.2.2.1 j hlt
        rw [hu] at hcj hub
        obtain ⟨hu0, hu1⟩ := hub
        have HCJ := Lib.hid (fun (w' : World) (hb : Below w.heap.size w w') => (bkeep hb hbl _).trans hcj)
        clear hc hu hcj
        obtain ⟨hnow, hcap, hiv1, hiv2⟩ := HF.out
        have HADD := Lib.hid (pa_add (now := now) (u := u) hnow0 hu0 (by omega))
        have HPOL := Lib.hid (pa_pol k iv cap p now u hnow0 hu0 (by omega))
        rcases Nat.eq_zero_or_pos j with hj0 | hj0
        · subst hj0
          have hp : p = false := HP.out
          subst hp
          have HPQ := Lib.hid (HPOL.out.trans (if_neg (by simp)))
          clear HP HF HPOL
          have hcj := HCJ.out wr HB.out
          rw [Nat.add_zero] at hcj
          go_wp2_with fail
          refine (itv_b HR.out ⟨#[100]⟩ (by decide) (pa_itv k iv cap false now)).mono ?_
          rintro e wx ⟨rfl, rfl⟩
          go_wp2_with fail
          refine (add_any now u wr).mono ?_
          rintro e wx ⟨rfl, rfl⟩
          rw [HADD.out]
          go_wp2_with fail
          refine (pol_e HR.out ⟨#[100]⟩ ⟨#[97, 112, 112]⟩ (by decide) (now + u) (show cap ≤ 576460752303423488 by omega) HPQ.out).mono ?_
          rintro e w2 ⟨A2, d2, rfl, hr, hm⟩
          have HR2 := Lib.hid hr
          have HB2 := Lib.hid (HB.out.trans (hm.toBelow HB.out.size (fun _ h => h)))
          clear hr hm
          go_upto_region 13 with fail
          obtain ⟨w3, hw⟩ : ∃ w', w' = w2.alloc (.cells #[.string ⟨#[]⟩, .string ⟨#[]⟩, .string ⟨#[]⟩, .string ⟨#[]⟩, .string ⟨#[]⟩, .string ⟨#[]⟩, .string ⟨#[]⟩, .int .i64 0, .slice A2 0 d2, .int .i64 0, .int .i64 0] 39) := ⟨_, rfl⟩
          have hb : Below w2.heap.size w2 w3 := by rw [hw]; go_grown
          rw [← hw]
          have HR3 := Lib.hid (HR2.out.below hb)
          have HB3 := Lib.hid (HB2.out.trans (hb.mono HB2.out.size))
          clear hw hb HR2 HB2
          clear hcj
          have hcj := HCJ.out w3 HB3.out
          rw [Nat.add_zero] at hcj
          go_wp2_with fail
          refine (itv_b HR3.out ⟨#[100]⟩ (by decide) (pa_itv k iv cap true (now + u))).mono ?_
          rintro e wx ⟨rfl, rfl⟩
          go_wp2_with fail
          go_roundw
          case rel => exact ⟨1, iv, cap, now + u, true, rfl, rfl, by omega, by omega, Lib.hid (by omega), Lib.hid (by simp), HR3.out, HB3.out⟩
          case measure => simp [intOf]; omega
        · have hp : p = true := by rw [HP.out]; simpa using hj0
          subst hp
          have hj1 : (0 : Int) < (j : Int) := by omega
          by_cases hs : u < iv
          · have HPQ := Lib.hid (HPOL.out.trans (if_pos ⟨rfl, hs⟩))
            clear HP HF HPOL hj0
            have hcj := HCJ.out wr HB.out
            go_wp2_with fail
            refine (itv_b HR.out ⟨#[100]⟩ (by decide) (pa_itv k iv cap true now)).mono ?_
            rintro e wx ⟨rfl, rfl⟩
            go_wp2_with fail
            refine (add_any now u wr).mono ?_
            rintro e wx ⟨rfl, rfl⟩
            rw [HADD.out]
            go_wp2_with fail
            refine (pol_e HR.out ⟨#[100]⟩ ⟨#[97, 112, 112]⟩ (by decide) (now + u) (show cap ≤ 576460752303423488 by omega) HPQ.out).mono ?_
            rintro e w2 ⟨A2, d2, rfl, hr, hm⟩
            have HR2 := Lib.hid hr
            have HB2 := Lib.hid (HB.out.trans (hm.toBelow HB.out.size (fun _ h => h)))
            clear hr hm
            go_upto_region 13 with fail
            obtain ⟨w3, hw⟩ : ∃ w', w' = w2.alloc (.cells #[.string ⟨#[]⟩, .string ⟨#[]⟩, .string ⟨#[]⟩, .string ⟨#[]⟩, .string ⟨#[]⟩, .string ⟨#[]⟩, .string ⟨#[]⟩, .int .i64 0, .slice A2 0 d2, .int .i64 0, .int .i64 0] 39) := ⟨_, rfl⟩
            have hb : Below w2.heap.size w2 w3 := by rw [hw]; go_grown
            rw [← hw]
            have HR3 := Lib.hid (HR2.out.below hb)
            have HB3 := Lib.hid (HB2.out.trans (hb.mono HB2.out.size))
            clear hw hb HR2 HB2
            clear hcj
            have hcj := HCJ.out w3 HB3.out
            go_wp2_with fail
            refine (itv_b HR3.out ⟨#[100]⟩ (by decide) (pa_itv k (iv + 5) (cap + 5) true (now + u))).mono ?_
            rintro e wx ⟨rfl, rfl⟩
            go_wp2_with fail
            go_roundw
            case rel => exact ⟨j + 1, iv + 5, cap + 5, now + u, true, by go_num, rfl, by omega, by omega, Lib.hid (by omega), Lib.hid (by simp), HR3.out, HB3.out⟩
            case measure => simp [intOf]; omega
          · have HPQ := Lib.hid (HPOL.out.trans (if_neg (fun e => hs e.2)))
            clear HP HF HPOL hj0
            have hcj := HCJ.out wr HB.out
            go_wp2_with fail
            refine (itv_b HR.out ⟨#[100]⟩ (by decide) (pa_itv k iv cap true now)).mono ?_
            rintro e wx ⟨rfl, rfl⟩
            go_wp2_with fail
            refine (add_any now u wr).mono ?_
            rintro e wx ⟨rfl, rfl⟩
            rw [HADD.out]
            go_wp2_with fail
            refine (pol_e HR.out ⟨#[100]⟩ ⟨#[97, 112, 112]⟩ (by decide) (now + u) (show cap ≤ 576460752303423488 by omega) HPQ.out).mono ?_
            rintro e w2 ⟨A2, d2, rfl, hr, hm⟩
            have HR2 := Lib.hid hr
            have HB2 := Lib.hid (HB.out.trans (hm.toBelow HB.out.size (fun _ h => h)))
            clear hr hm
            go_upto_region 13 with fail
            obtain ⟨w3, hw⟩ : ∃ w', w' = w2.alloc (.cells #[.string ⟨#[]⟩, .string ⟨#[]⟩, .string ⟨#[]⟩, .string ⟨#[]⟩, .string ⟨#[]⟩, .string ⟨#[]⟩, .string ⟨#[]⟩, .int .i64 0, .slice A2 0 d2, .int .i64 0, .int .i64 0] 39) := ⟨_, rfl⟩
            have hb : Below w2.heap.size w2 w3 := by rw [hw]; go_grown
            rw [← hw]
            have HR3 := Lib.hid (HR2.out.below hb)
            have HB3 := Lib.hid (HB2.out.trans (hb.mono HB2.out.size))
            clear hw hb HR2 HB2
            clear hcj
            have hcj := HCJ.out w3 HB3.out
            go_wp2_with fail
            refine (itv_b HR3.out ⟨#[100]⟩ (by decide) (pa_itv k iv cap true (now + u))).mono ?_
            rintro e wx ⟨rfl, rfl⟩
            go_wp2_with fail
            go_roundw
            case rel => exact ⟨j + 1, iv, cap, now + u, true, by go_num, rfl, by omega, by omega, Lib.hid (by omega), Lib.hid (by simp), HR3.out, HB3.out⟩
            case measure => simp [intOf]; omega
      · have e : j = n := by omega
        subst e
        go_wp2_with fail
        refine (alive_any wr (HM.out.below HB.out)).mono ?_
        rintro e w3 ⟨rfl, hb⟩
        have HB3 := Lib.hid (HB.out.trans (hb.mono HB.out.size))
        clear hb
        go_wp2
        go_ret
        exact ⟨rfl, HB3.out⟩
end Go.Proofs.YtapooonlbjgbgaaDoor.Dv
