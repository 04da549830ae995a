/-
  The walk of the statement DevflowOnce.
-/
import Derived.Test.YtapooonlbjgbgaaDoorDvOn
namespace Go.Proofs.YtapooonlbjgbgaaDoor.Dv
open Go.RowKit Go.Proofs.YtapooonlbjgbgaaDoor.Fo Go.Proofs.YtapooonlbjgbgaaDoor.Rf

theorem play_gr {st st' : Fs} {x : Opd} {g : Gr} (h : plD st x = (st', (g, true))) : ∃ z ∈ st.l, g = z.g := by
  unfold plD at h
  split at h
  · injection h with _ h2
    injection h2 with _ h3
    cases h3
  · split at h
    · injection h with _ h2
      injection h2 with h2 h3
      have h3 := of_decide_eq_true h3
      unfold pol at h2 h3
      split at h3
      · exact absurd h3 (show ¬ (6 : Int) = 0 by decide)
      · next i hi =>
        obtain ⟨z, hz, hzw⟩ := cdI_some hi
        rw [hi] at h2
        simp only [hz] at h2 h3
        rw [if_pos h3] at h2
        exact ⟨z, List.mem_of_getElem? hz, h2.symm⟩
    · injection h with _ h2
      injection h2 with _ h3
      cases h3
theorem within_is (A B : Option Addr) (n c m d : Nat) (l k : List Bs) (w : World) (hl : Ss w A n c l) (hk : Ss w B m d k) (hsl : Short l) (hsk : Short k) (hn : n ≤ 100000) (hmm : m ≤ 100000) (hm : MX w) {b : Bool} (hb : withinS l k = b) :
    Calls Tryd.prog 37 #[.slice A n c, .slice B m d] w fun e w' => e = .returned (.bool b) ∧ w = w' := by
  rw [← hb]; exact within_any A B n c m d l k w hl hk hsl hsk hn hmm hm
set_option maxRecDepth 100000 in
set_option maxHeartbeats 16000000 in
theorem once_any (w : World) (A0 : Option Addr) (c0 : Nat) (sc : List Bs) (A : Option Addr) (n c : Nat) (l : List Opd) (h0 : Ss w A0 sc.length c0 sc) (hn0 : sc.length ≤ 9223372036854775807) (hs : Os w A n c l) (hm : MX w) :
    Calls Tryd.prog 6 #[.slice A0 sc.length c0, .slice A n c] w fun e w' => e = .returned (.bool true) ∧ Below w.heap.size w w' := by
  have HM := Lib.hid hm
  have HS0 := Lib.hid h0
  have HN0 := Lib.hid hn0
  have HS := Lib.hid hs
  have HLN := Lib.hid hs.1
  have HB0 := Lib.hid (Below.refl w.heap.size w)
  clear hm h0 hs hn0
  obtain ⟨b1, hb1⟩ : ∃ b, shortB sc = b := ⟨_, rfl⟩
  have HSB := Lib.hid hb1
  obtain ⟨b2, hb2⟩ : ∃ b, fewB l = b := ⟨_, rfl⟩
  have HFB := Lib.hid hb2
  clear hb1 hb2
  go_enter Tryd.func6, Tryd.ntmps6
  go_wp2_with fail
  refine (short_any A0 sc.length c0 sc w HS0.out HN0.out HSB.out).mono ?_
  rintro e wx ⟨rfl, rfl⟩
  cases b1 with
  | false => as_aux_lemma =>
    go_wp2_with fail
    refine (alive_any w HM.out).mono ?_
    rintro e w1 ⟨rfl, hb⟩
    have HB1 := Lib.hid (HB0.out.trans (hb.mono HB0.out.size))
    clear hb
    go_wp2
    go_ret
    exact ⟨rfl, HB1.out⟩
  | true =>
    cases b2 with
    | false => as_aux_lemma =>
      go_wp2_with fail
      refine (few_any w A n c l HS.out HFB.out).mono ?_
      rintro e w1 ⟨rfl, hb⟩
      have HB1 := Lib.hid (HB0.out.trans (hb.mono HB0.out.size))
      clear hb
      go_wp2_with fail
      refine (alive_any w1 (HM.out.below HB1.out)).mono ?_
      rintro e w2 ⟨rfl, hb⟩
      have HB2 := Lib.hid (HB1.out.trans (hb.mono HB1.out.size))
      clear hb
      go_wp2
      go_ret
      exact ⟨rfl, HB2.out⟩
    | true =>
      go_wp2_with fail
      refine (few_any w A n c l HS.out HFB.out).mono ?_
      rintro e w1 ⟨rfl, hb⟩
      have HB1 := Lib.hid (HB0.out.trans (hb.mono HB0.out.size))
      clear hb
      have hn25 : n ≤ 25 := by have := few_len HFB.out; have := HLN.out; omega
      have HSP := Lib.hid (short_at HSB.out)
      go_wp2_with fail
      refine (new_b (w := w1) (l := 1000000) (i := 1) (by decide) (show new0 1000000 1 = ⟨1000000, 1, 1, []⟩ by kernel_rfl)).mono ?_
      rintro e w2 ⟨F, rfl, hr, hb⟩
      have HB2 := Lib.hid (HB1.out.trans (hb.mono HB1.out.size))
      have HR2 := Lib.hid (hr.mono (T' := (fun k => w.heap.size ≤ k)) (fun k _ e => Nat.le_trans HB1.out.size e))
      clear hb hr
      obtain ⟨⟨st1, k1⟩, hst⟩ : ∃ r, sta ⟨1000000, 1, 1, []⟩ ⟨#[100]⟩ ⟨#[66, 66, 66, 66, 45, 66, 66, 66, 66]⟩ ⟨#[97, 112, 112]⟩ sc 0 = r := ⟨_, rfl⟩
      have HST := Lib.hid hst
      have HON := Lib.hid (on_start hst)
      clear hst
      have HA0 := Lib.hid (show ∀ a, A0 = some a → 0 < sc.length → a.block < w.heap.size from fun a ha hn => by
        obtain ⟨b, off, e, hb, _⟩ := HS0.out.2.2 hn
        rw [ha] at e
        injection e with e
        rw [e]
        exact hb)
      by_cases hk : k1 = 0
      · as_aux_lemma =>
        subst hk
        have HON1 := Lib.hid (HON.out.1 rfl)
        clear HON
        go_wp2_with fail
        refine (sta_b (T := (fun k => w.heap.size ≤ k)) HR2.out (fun k e => e) (fun k e => Nat.le_trans HB2.out.size e) ⟨#[100]⟩ ⟨#[66, 66, 66, 66, 45, 66, 66, 66, 66]⟩ ⟨#[97, 112, 112]⟩ sc A0 c0 0 HST.out (by decide) (by decide) (by decide) (HS0.out.below HB2.out) HSP.out.1 (by have := HSP.out.2.1; omega) (HM.out.below HB2.out) (fun a ha hn e => by have := HA0.out a ha hn; omega)).mono ?_
        rintro e w3 ⟨rfl, hr, hm⟩
        have HR3 := Lib.hid hr
        have HB3 := Lib.hid (HB2.out.trans (hm.toBelow HB2.out.size (fun _ h => h)))
        clear hr hm
        go_wp2_with fail
        go_loopw [8, 9, 10, 11, 12, 13] (fun gv av iv _ _ _ wr => ∃ (i gr : Nat) (ap : Bool) (st : Fs), gv = .int .i64 gr ∧ av = .bool ap ∧ iv = .int .i64 i ∧ i ≤ n ∧ Hid (OnI sc gr ap (1 + 5 * i) st) ∧ RepB wr (fun k => w.heap.size ≤ k) F st ∧ Below w.heap.size w wr) (fun _ _ iv _ _ _ _ => n - (intOf iv).toNat)
        case atStart => exact ⟨0, 0, false, st1, rfl, rfl, rfl, Nat.zero_le _, Lib.hid HON1.out, HR3.out, HB3.out⟩
        case round => as_aux_lemma =>
          obtain ⟨i, gr, ap, st, rfl, rfl, rfl, hi, HO, hr, hb⟩ := hrel
          have HR := Lib.hid hr
          have HB := Lib.hid hb
          clear hr hb
          by_cases hlt : i < n
          · have HFO := Lib.hid (few_parts (few_at HFB.out (k := i) (by rw [HLN.out]; exact hlt)))
            obtain ⟨bh, oh, Ah, ch, Bh, dh, xh, rfl, hlh, hxh, h0, h1, h2, h3, h4, h5, h6, h7, h8, h9, h10, h11, h12, h13, h14, h15, h16, hsh, hth, _, _⟩ := (HS.out.below HB.out).at hlt
            rw [hxh] at HFO
            have HSh := Lib.hid hsh
            clear hsh hth hxh
            obtain ⟨w4, hw⟩ : ∃ w', w' = wr.alloc (.cells #[.int .i64 xh.kind, .string xh.dev, .string xh.user, .string xh.cl, .slice Bh xh.sc.length dh, .string xh.g.user, .string xh.g.client, .string xh.g.tenant, .string xh.g.session, .string xh.g.redirect, .string xh.g.nonce, .string xh.g.challenge, .int .i64 xh.g.method, .slice Ah xh.g.scopes.length ch, .int .i64 xh.g.auth, .int .i64 xh.g.level, .int .i64 xh.now] 41) := ⟨_, rfl⟩
            have hb : Below wr.heap.size wr w4 := by rw [hw]; go_grown
            have HX := Lib.hid (show w4.heap[wr.heap.size]? = some (.cells #[.int .i64 xh.kind, .string xh.dev, .string xh.user, .string xh.cl, .slice Bh xh.sc.length dh, .string xh.g.user, .string xh.g.client, .string xh.g.tenant, .string xh.g.session, .string xh.g.redirect, .string xh.g.nonce, .string xh.g.challenge, .int .i64 xh.g.method, .slice Ah xh.g.scopes.length ch, .int .i64 xh.g.auth, .int .i64 xh.g.level, .int .i64 xh.now] 41 (0, 0)) by rw [hw]; exact heap_alloc_new _ _)
            go_upto_region 14 with fail
            rw [← hw]
            have HB4 := Lib.hid (HB.out.trans (hb.mono HB.out.size))
            have HR4 := Lib.hid ((HR.out.mono (T' := (fun k => w.heap.size ≤ k ∧ ¬ k = wr.heap.size)) (fun k hk e => ⟨e, by omega⟩)).below hb)
            have HSh4 := Lib.hid (HSh.out.below hb)
            have HT1 := Lib.hid (show ∀ k, w4.heap.size ≤ k → (fun k => w.heap.size ≤ k ∧ ¬ k = wr.heap.size) k from fun k e => ⟨Nat.le_trans HB4.out.size e, by have := blk_lt HX.out; omega⟩)
            clear hw hb h0 h1 h2 h3 h4 h5 h6 h7 h8 h9 h10 h11 h12 h13 h14 h15 h16
            obtain ⟨z0, z1, z2, z3, z4, z5, z6, z7, z8, z9, z10, z11, z12, z13, z14, z15, z16⟩ := cells17 HX.out
            by_cases k0 : xh.kind = 0
            · as_aux_lemma =>
              have k0b : (xh.kind == 0) = true := by rw [k0]; rfl
              go_wp2_with fail
              go_roundw
              case rel => exact ⟨i + 1, gr, ap, st, rfl, rfl, by go_num, by omega, Lib.hid (HO.out.le (by omega)), HR4.out.mono (fun k _ e => e.1), HB4.out⟩
              case measure => simp [intOf]; omega
            · have k0b : (xh.kind == 0) = false := beq_eq_false_iff_ne.2 k0
              by_cases k4 : (4 : Int) < xh.kind
              · as_aux_lemma =>
                go_wp2_with fail
                go_roundw
                case rel => exact ⟨i + 1, gr, ap, st, rfl, rfl, by go_num, by omega, Lib.hid (HO.out.le (by omega)), HR4.out.mono (fun k _ e => e.1), HB4.out⟩
                case measure => simp [intOf]; omega
              · by_cases k2 : xh.kind = 2
                · as_aux_lemma =>
                  have k2b : (xh.kind == 2) = true := by rw [k2]; rfl
                  obtain ⟨⟨st2, er⟩, hq⟩ : ∃ r, apr st xh.user xh.g xh.now = r := ⟨_, rfl⟩
                  have HQ := Lib.hid hq
                  have HOA := Lib.hid (on_apr HO.out hq)
                  clear hq
                  go_wp2_with fail
                  refine (apr_b HR4.out HT1.out xh.user xh.g Ah ch (by have := HFO.out.1.2.1; omega) xh.now HQ.out HSh4.out HFO.out.2.2.1 (by have := HFO.out.2.2.2; omega) (HM.out.below HB4.out)).mono ?_
                  rintro e w5 ⟨rfl, hr, hm⟩
                  have HR5 := Lib.hid (hr.mono (T' := (fun k => w.heap.size ≤ k)) (fun k _ e => e.1))
                  have HB5 := Lib.hid (HB4.out.trans (hm.toBelow HB4.out.size (fun _ h => h.1)))
                  clear z0 z1 z2 z3 z4 z5 z6 z7 z8 z9 z10 z11 z12 z13 z14 z15 z16
                  clear hr hm
                  by_cases he : er = 0
                  · as_aux_lemma =>
                    have heb : (er == 0) = true := by rw [he]; rfl
                    have HO5 := Lib.hid (HOA.out.1 he)
                    go_wp2_with fail
                    go_roundw
                    case rel => exact ⟨i + 1, gr, true, st2, rfl, rfl, by go_num, by omega, Lib.hid (HO5.out.le (by omega)), HR5.out, HB5.out⟩
                    case measure => simp [intOf]; omega
                  · as_aux_lemma =>
                    have heb : (er == 0) = false := beq_eq_false_iff_ne.2 he
                    have HO5 := Lib.hid (HOA.out.2 he)
                    go_wp2_with fail
                    go_roundw
                    case rel => exact ⟨i + 1, gr, ap, st2, rfl, rfl, by go_num, by omega, Lib.hid (HO5.out.le (by omega)), HR5.out, HB5.out⟩
                    case measure => simp [intOf]; omega
                · as_aux_lemma =>
                  have k2b : (xh.kind == 2) = false := beq_eq_false_iff_ne.2 k2
                  obtain ⟨⟨st2, g, b⟩, hq⟩ : ∃ r, plD st xh = r := ⟨_, rfl⟩
                  have HQ := Lib.hid hq
                  have HOP := Lib.hid (on_play HO.out hq)
                  have hcap : st.cap ≤ 1000 := by have := HO.out.cap; omega
                  clear hq
                  go_wp2_with fail
                  refine (play_any HR4.out HT1.out xh Ah ch Bh dh (HM.out.below HB4.out) (by omega) (by have := HFO.out.1.2.1; omega) (by have := HFO.out.1.1; omega) k0 k2 HQ.out).mono ?_
                  rintro e w5 ⟨A5, d5, rfl, hf, hr, hm⟩
                  have HF5 := Lib.hid hf.1
                  have HR5 := Lib.hid (hr.mono (T' := (fun k => w.heap.size ≤ k)) (fun k _ e => e.1))
                  have HB5 := Lib.hid (HB4.out.trans (hm.toBelow HB4.out.size (fun _ h => h.1)))
                  have HX5 := Lib.hid (blk_mods hm HX.out (fun e => e.2 rfl))
                  clear z0 z1 z2 z3 z4 z5 z6 z7 z8 z9 z10 z11 z12 z13 z14 z15 z16
                  clear hr hm hf hcap
                  go_upto_region 18 with fail
                  obtain ⟨w6, hw⟩ : ∃ w', w' = w5.alloc (.cells #[.string g.user, .string g.client, .string g.tenant, .string g.session, .string g.redirect, .string g.nonce, .string g.challenge, .int .i64 g.method, .slice A5 g.scopes.length d5, .int .i64 g.auth, .int .i64 g.level] 39) := ⟨_, rfl⟩
                  have hb : Below w5.heap.size w5 w6 := by rw [hw]; go_grown
                  have HG := Lib.hid (show w6.heap[w5.heap.size]? = some (.cells #[.string g.user, .string g.client, .string g.tenant, .string g.session, .string g.redirect, .string g.nonce, .string g.challenge, .int .i64 g.method, .slice A5 g.scopes.length d5, .int .i64 g.auth, .int .i64 g.level] 39 (0, 0)) by rw [hw]; exact heap_alloc_new _ _)
                  rw [← hw]
                  have HB6 := Lib.hid (HB5.out.trans (hb.mono HB5.out.size))
                  have HR6 := Lib.hid (HR5.out.below hb)
                  have HF6 := Lib.hid (HF5.out.below hb)
                  have HX6 := Lib.hid (blk_below hb HX5.out)
                  clear hw hb
                  cases b with
                  | false => as_aux_lemma =>
                    have HO6 := Lib.hid (HOP.out.1 rfl)
                    clear HOP
                    go_wp2_with fail
                    go_roundw
                    case rel => exact ⟨i + 1, gr, ap, st2, rfl, rfl, by go_num, by omega, Lib.hid (HO6.out.le (by omega)), HR6.out, HB6.out⟩
                    case measure => simp [intOf]; omega
                  | true => as_aux_lemma =>
                    obtain ⟨rfl, rfl, hdv, hcl, hgc, hwi, ho6⟩ := HOP.out.2 rfl
                    have HO6 := Lib.hid ho6
                    have HWI := Lib.hid hwi
                    have HGS := Lib.hid (show Short g.scopes ∧ g.scopes.length ≤ 1000 by
                      obtain ⟨z, hz, rfl⟩ := play_gr HQ.out
                      exact HR.out.inv.gs z hz)
                    clear HOP ho6 hwi
                    obtain ⟨z0, z1, z2, z3, z4, z5, z6, z7, z8, z9, z10, z11, z12, z13, z14, z15, z16⟩ := cells17 HX6.out
                    obtain ⟨y0, y1, y2, y3, y4, y5, y6, y7, y8, y9, y10⟩ := cells11 HG.out
                    rw [hdv] at z1
                    rw [hcl] at z3
                    rw [hgc] at y1
                    clear hdv hcl hgc
                    go_wp2_with fail
                    refine (within_is A5 A0 g.scopes.length d5 sc.length c0 g.scopes sc w6 HF6.out (HS0.out.below HB6.out) HGS.out.1 HSP.out.1 (by have := HGS.out.2; omega) (by have := HSP.out.2.1; omega) (HM.out.below HB6.out) HWI.out).mono ?_
                    rintro e wx ⟨rfl, rfl⟩
                    clear z0 z1 z2 z3 z4 z5 z6 z7 z8 z9 z10 z11 z12 z13 z14 z15 z16
                    clear y0  y1  y2  y3  y4  y5  y6  y7  y8  y9  y10
                    go_wp2_with fail
                    go_roundw
                    case rel => exact ⟨i + 1, 1, true, st2, by first | rfl | go_num, rfl, by go_num, by omega, Lib.hid (HO6.out.le (by omega)), HR6.out, HB6.out⟩
                    case measure => simp [intOf]; omega
          · as_aux_lemma =>
            have HGR := HO.out.gr
            have hgr : (gr : Int) ≤ 1 := by omega
            go_wp2_with fail
            refine (alive_any wr (HM.out.below HB.out)).mono ?_
            rintro e w4 ⟨rfl, hb⟩
            have HB4 := Lib.hid (HB.out.trans (hb.mono HB.out.size))
            clear hb
            go_wp2
            go_ret
            exact ⟨rfl, HB4.out⟩
      · as_aux_lemma =>
        have HCK := Lib.hid ((HON.out.2 hk).symm)
        have hkb : (k1 == 0) = false := beq_eq_false_iff_ne.2 hk
        clear HON
        go_wp2_with fail
        refine (sta_b (T := (fun k => w.heap.size ≤ k)) HR2.out (fun k e => e) (fun k e => Nat.le_trans HB2.out.size e) ⟨#[100]⟩ ⟨#[66, 66, 66, 66, 45, 66, 66, 66, 66]⟩ ⟨#[97, 112, 112]⟩ sc A0 c0 0 HST.out (by decide) (by decide) (by decide) (HS0.out.below HB2.out) HSP.out.1 (by have := HSP.out.2.1; omega) (HM.out.below HB2.out) (fun a ha hn e => by have := HA0.out a ha hn; omega)).mono ?_
        rintro e w3 ⟨rfl, hr, hm⟩
        have HB3 := Lib.hid (HB2.out.trans (hm.toBelow HB2.out.size (fun _ h => h)))
        clear hr hm
        go_wp2_with fail
        refine (chk_is A0 sc.length c0 sc w3 (HS0.out.below HB3.out) HSP.out.1 (by have := HSP.out.2.1; omega) (HM.out.below HB3.out) HCK.out).mono ?_
        rintro e w4 ⟨rfl, hb⟩
        have HB4 := Lib.hid (HB3.out.trans (hb.mono HB3.out.size))
        clear hb
        go_wp2_with fail
        refine (alive_any w4 (HM.out.below HB4.out)).mono ?_
        rintro e w5 ⟨rfl, hb⟩
        have HB5 := Lib.hid (HB4.out.trans (hb.mono HB4.out.size))
        clear hb
        go_wp2
        go_ret
        exact ⟨rfl, HB5.out⟩
end Go.Proofs.YtapooonlbjgbgaaDoor.Dv
