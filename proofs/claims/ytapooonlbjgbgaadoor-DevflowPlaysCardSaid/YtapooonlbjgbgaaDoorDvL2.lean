/-
  The walk of the statement DevflowNil.
-/
import Derived.Test.YtapooonlbjgbgaaDoorDvNil
import Derived.Test.YtapooonlbjgbgaaDoorDvFew
namespace Go.Proofs.YtapooonlbjgbgaaDoor.Dv
open Go.RowKit Go.Proofs.YtapooonlbjgbgaaDoor.Fo Go.Proofs.YtapooonlbjgbgaaDoor.Rf

theorem cells17 {w : World} {b : Nat} {v0 v1 v2 v3 v4 v5 v6 v7 v8 v9 v10 v11 v12 v13 v14 v15 v16 : Value} {t : TypeId} {fr : Nat × Nat} (h : w.heap[b]? = some (.cells #[v0, v1, v2, v3, v4, v5, v6, v7, v8, v9, v10, v11, v12, v13, v14, v15, v16] t fr)) : w.cell? ⟨b, 0, none⟩ = some v0 ∧ w.cell? ⟨b, 1, none⟩ = some v1 ∧ w.cell? ⟨b, 2, none⟩ = some v2 ∧ w.cell? ⟨b, 3, none⟩ = some v3 ∧ w.cell? ⟨b, 4, none⟩ = some v4 ∧ w.cell? ⟨b, 5, none⟩ = some v5 ∧ w.cell? ⟨b, 6, none⟩ = some v6 ∧ w.cell? ⟨b, 7, none⟩ = some v7 ∧ w.cell? ⟨b, 8, none⟩ = some v8 ∧ w.cell? ⟨b, 9, none⟩ = some v9 ∧ w.cell? ⟨b, 10, none⟩ = some v10 ∧ w.cell? ⟨b, 11, none⟩ = some v11 ∧ w.cell? ⟨b, 12, none⟩ = some v12 ∧ w.cell? ⟨b, 13, none⟩ = some v13 ∧ w.cell? ⟨b, 14, none⟩ = some v14 ∧ w.cell? ⟨b, 15, none⟩ = some v15 ∧ w.cell? ⟨b, 16, none⟩ = some v16 :=
  ⟨cell_block h 0, cell_block h 1, cell_block h 2, cell_block h 3, cell_block h 4, cell_block h 5, cell_block h 6, cell_block h 7, cell_block h 8, cell_block h 9, cell_block h 10, cell_block h 11, cell_block h 12, cell_block h 13, cell_block h 14, cell_block h 15, cell_block h 16⟩
theorem os_one {w : World} {q : Nat} {x : Opd} {A B : Option Addr} {c d : Nat} (h : w.heap[q]? = some (.cells #[.int .i64 x.kind, .string x.dev, .string x.user, .string x.cl, .slice B x.sc.length d, .string x.g.user, .string x.g.client, .string x.g.tenant, .string x.g.session, .string x.g.redirect, .string x.g.nonce, .string x.g.challenge, .int .i64 x.g.method, .slice A x.g.scopes.length c, .int .i64 x.g.auth, .int .i64 x.g.level, .int .i64 x.now] 41 (0, 0))) (hs : Ss w A x.g.scopes.length c x.g.scopes) (ht : Ss w B x.sc.length d x.sc) (hu : x.g.scopes.length ≤ 9223372036854775807) (hv : x.sc.length ≤ 9223372036854775807) : Os w (some ⟨q, 0, none⟩) 1 1 [x] := by
  refine ⟨rfl, by decide, fun _ => ⟨q, 0, rfl, blk_lt h, fun i hi => ?_⟩⟩
  have : i = 0 := by omega
  subst this
  obtain ⟨z0, z1, z2, z3, z4, z5, z6, z7, z8, z9, z10, z11, z12, z13, z14, z15, z16⟩ := cells17 h
  exact ⟨A, c, B, d, z0, z1, z2, z3, z4, z5, z6, z7, z8, z9, z10, z11, z12, z13, z14, z15, z16, hs, ht, hu, hv⟩
set_option maxRecDepth 100000 in
set_option maxHeartbeats 8000000 in
theorem nil_any (w : World) (x : Opd) (A : Option Addr) (c : Nat) (B : Option Addr) (d : Nat) (hs : Ss w A x.g.scopes.length c x.g.scopes) (ht : Ss w B x.sc.length d x.sc) (hu : x.g.scopes.length ≤ 9223372036854775807) (hv : x.sc.length ≤ 9223372036854775807) (hm : MX w) :
    Calls Tryd.prog 8 #[.agg #[.int .i64 x.kind, .string x.dev, .string x.user, .string x.cl, .slice B x.sc.length d, .string x.g.user, .string x.g.client, .string x.g.tenant, .string x.g.session, .string x.g.redirect, .string x.g.nonce, .string x.g.challenge, .int .i64 x.g.method, .slice A x.g.scopes.length c, .int .i64 x.g.auth, .int .i64 x.g.level, .int .i64 x.now]] w fun e w' => e = .returned (.bool true) ∧ Below w.heap.size w w' := by
  obtain ⟨w0, hw0⟩ : ∃ w', w' = w.alloc (.cells #[.int .i64 x.kind, .string x.dev, .string x.user, .string x.cl, .slice B x.sc.length d, .string x.g.user, .string x.g.client, .string x.g.tenant, .string x.g.session, .string x.g.redirect, .string x.g.nonce, .string x.g.challenge, .int .i64 x.g.method, .slice A x.g.scopes.length c, .int .i64 x.g.auth, .int .i64 x.g.level, .int .i64 x.now] 41) := ⟨_, rfl⟩
  obtain ⟨w1, hw1⟩ : ∃ w', w' = w0.alloc (.cells #[.int .i64 x.kind, .string x.dev, .string x.user, .string x.cl, .slice B x.sc.length d, .string x.g.user, .string x.g.client, .string x.g.tenant, .string x.g.session, .string x.g.redirect, .string x.g.nonce, .string x.g.challenge, .int .i64 x.g.method, .slice A x.g.scopes.length c, .int .i64 x.g.auth, .int .i64 x.g.level, .int .i64 x.now] 41) := ⟨_, rfl⟩
  have hb0 : Below w.heap.size w w0 := by rw [hw0]; go_grown
  have hb1 : Below w0.heap.size w0 w1 := by rw [hw1]; go_grown
  have HX0 := Lib.hid (show w0.heap[w.heap.size]? = some (.cells #[.int .i64 x.kind, .string x.dev, .string x.user, .string x.cl, .slice B x.sc.length d, .string x.g.user, .string x.g.client, .string x.g.tenant, .string x.g.session, .string x.g.redirect, .string x.g.nonce, .string x.g.challenge, .int .i64 x.g.method, .slice A x.g.scopes.length c, .int .i64 x.g.auth, .int .i64 x.g.level, .int .i64 x.now] 41 (0, 0)) by rw [hw0]; exact heap_alloc_new _ _)
  have HX1 := Lib.hid (show w1.heap[w0.heap.size]? = some (.cells #[.int .i64 x.kind, .string x.dev, .string x.user, .string x.cl, .slice B x.sc.length d, .string x.g.user, .string x.g.client, .string x.g.tenant, .string x.g.session, .string x.g.redirect, .string x.g.nonce, .string x.g.challenge, .int .i64 x.g.method, .slice A x.g.scopes.length c, .int .i64 x.g.auth, .int .i64 x.g.level, .int .i64 x.now] 41 (0, 0)) by rw [hw1]; exact heap_alloc_new _ _)
  have HB0 := Lib.hid hb0
  have HB1 := Lib.hid (hb0.trans (hb1.mono hb0.size))
  have HO := Lib.hid (os_one HX1.out (hs.below HB1.out) (ht.below HB1.out) hu hv)
  have HM := Lib.hid hm
  have HC01 := Lib.hid (fun (w' : World) (h : Below w1.heap.size w1 w') => hb1.trans (h.mono hb1.size))
  clear hs ht hu hv hm hb0 hb1
  go_enter Tryd.func8, Tryd.ntmps8
  have HW1 := Lib.hid hw1
  clear hw1
  go_upto_region 1 with fail
  rw [← hw0]
  clear hw0
  obtain ⟨z0, z1, z2, z3, z4, z5, z6, z7, z8, z9, z10, z11, z12, z13, z14, z15, z16⟩ := cells17 HX0.out
  obtain ⟨b, hfb⟩ : ∃ b, fewB [x] = b := ⟨_, rfl⟩
  have HFB := Lib.hid hfb
  clear hfb
  go_wp2_with fail
  rw [← HW1.out]
  clear HW1 z0 z1 z2 z3 z4 z5 z6 z7 z8 z9 z10 z11 z12 z13 z14 z15 z16
  refine (few_any w1 _ 1 1 [x] HO.out HFB.out).mono ?_
  rintro e w2 ⟨rfl, hb⟩
  have HB2 := Lib.hid (HB1.out.trans (hb.mono HB1.out.size))
  have HX2 := Lib.hid (blk_below (HC01.out _ hb) HX0.out)
  clear hb
  cases b with
  | false =>
    go_wp2_with fail
    refine (alive_any w2 (HM.out.below HB2.out)).mono ?_
    rintro e w3 ⟨rfl, hb⟩
    have HB3 := Lib.hid (HB2.out.trans (hb.mono HB2.out.size))
    clear hb
    go_wp2
    go_ret
    exact ⟨rfl, HB3.out⟩
  | true =>
    go_upto_region 5 with fail
    obtain ⟨w4, hw4⟩ : ∃ w', w' = (w2.alloc (.cells #[.int .i64 0, .int .i64 0, .map none] 66)).alloc (.cells #[.pointer none, .pointer (some ⟨w2.heap.size, 0, none⟩)] 30) := ⟨_, rfl⟩
    have hb : Below w2.heap.size w2 w4 := by rw [hw4]; go_grown
    have hp : w4.heap[w2.heap.size + 1]? = some (.cells #[.pointer none, .pointer (some ⟨w2.heap.size, 0, none⟩)] 30 (0, 0)) := by
      rw [hw4, show w2.heap.size + 1 = (w2.alloc (.cells #[.int .i64 0, .int .i64 0, .map none] 66)).heap.size from (Array.size_push ..).symm]
      exact heap_alloc_new _ _
    have hq : w4.heap[w2.heap.size]? = some (.cells #[.int .i64 0, .int .i64 0, .map none] 66 (0, 0)) := by
      rw [hw4]
      exact blk_below (show Below (w2.alloc (.cells #[.int .i64 0, .int .i64 0, .map none] 66)).heap.size _ _ by go_grown) (heap_alloc_new _ _)
    rw [← hw4]
    have HB4 := Lib.hid (HB2.out.trans (hb.mono HB2.out.size))
    have HX4 := Lib.hid (blk_below hb HX2.out)
    have HPS := Lib.hid (show ∀ k, k < 2 → ∃ p, w4.cell? ⟨w2.heap.size + 1, k, none⟩ = some p ∧ NoF w4 p by
      intro k hk
      match k, hk with
      | 0, _ => exact ⟨_, cell_block hp 0, Or.inl rfl⟩
      | 1, _ => exact ⟨_, cell_block hp 1, Or.inr ⟨_, rfl, blk_lt hq, cell_block hq 2⟩⟩)
    have HLP := Lib.hid (blk_lt hp)
    clear hw4 hb hp hq HX2
    go_loopw [5, 6, 7, 8, 9, 10, 21] (fun _ _ _ _ _ _ iv wr => ∃ k : Nat, iv = .int .i64 k ∧ k ≤ 2 ∧ Below w4.heap.size w4 wr) (fun _ _ _ _ _ _ iv _ => 2 - (intOf iv).toNat)
    case atStart => exact ⟨0, rfl, Nat.zero_le _, Below.refl _ _⟩
    case round =>
      obtain ⟨k, rfl, hk, hb⟩ := hrel
      have HB := Lib.hid hb
      clear hb
      by_cases hlt : k < 2
      · obtain ⟨p, hp, hn⟩ := HPS.out k hlt
        have hpr := (bkeep HB.out HLP.out _).trans hp
        have HN := Lib.hid (hn.below HB.out)
        clear hp hn
        have HX := Lib.hid (blk_below HB.out HX4.out)
        obtain ⟨z0, z1, z2, z3, z4, z5, z6, z7, z8, z9, z10, z11, z12, z13, z14, z15, z16⟩ := cells17 HX.out
        go_wp2_with fail
        refine (pen_no HN.out x.user x.now).mono ?_
        rintro e wx ⟨rfl, rfl⟩
        go_wp2_with fail
        refine (pol_no HN.out x.dev x.cl x.now).mono ?_
        rintro e w5 ⟨rfl, hb⟩
        have HB5 := Lib.hid (HB.out.trans (hb.mono HB.out.size))
        have HN5 := Lib.hid (HN.out.below hb)
        clear hb hpr HN HX z0 z1 z2 z3 z4 z5 z6 z7 z8 z9 z10 z11 z12 z13 z14 z15 z16
        go_upto_region 9 with fail
        obtain ⟨w6, hw⟩ : ∃ w', w' = w5.alloc (.cells #[.string ⟨#[]⟩, .string ⟨#[]⟩, .string ⟨#[]⟩, .string ⟨#[]⟩, .string ⟨#[]⟩, .string ⟨#[]⟩, .string ⟨#[]⟩, .int .i64 0, .slice none 0 0, .int .i64 0, .int .i64 0] 39) := ⟨_, rfl⟩
        have hb : Below w5.heap.size w5 w6 := by rw [hw]; go_grown
        rw [← hw]
        have HB6 := Lib.hid (HB5.out.trans (hb.mono HB5.out.size))
        have HN6 := Lib.hid (HN5.out.below hb)
        have HX6 := Lib.hid (blk_below HB6.out HX4.out)
        clear hw hb
        obtain ⟨z0, z1, z2, z3, z4, z5, z6, z7, z8, z9, z10, z11, z12, z13, z14, z15, z16⟩ := cells17 HX6.out
        go_wp2_with fail
        refine (sta_no HN6.out x.dev x.user x.cl B x.sc.length d x.now).mono ?_
        rintro e w7 ⟨rfl, hb⟩
        have HB7 := Lib.hid (HB6.out.trans (hb.mono HB6.out.size))
        have HN7 := Lib.hid (HN6.out.below hb)
        have HX7 := Lib.hid (blk_below HB7.out HX4.out)
        clear hb z0 z1 z2 z3 z4 z5 z6 z7 z8 z9 z10 z11 z12 z13 z14 z15 z16
        obtain ⟨z0, z1, z2, z3, z4, z5, z6, z7, z8, z9, z10, z11, z12, z13, z14, z15, z16⟩ := cells17 HX7.out
        go_wp2_with fail
        refine (apr_no HN7.out x.user x.g A c x.now).mono ?_
        rintro e w8 ⟨rfl, hb⟩
        have HB8 := Lib.hid (HB7.out.trans (hb.mono HB7.out.size))
        have HN8 := Lib.hid (HN7.out.below hb)
        have HX8 := Lib.hid (blk_below HB8.out HX4.out)
        clear hb z0 z1 z2 z3 z4 z5 z6 z7 z8 z9 z10 z11 z12 z13 z14 z15 z16
        obtain ⟨z0, z1, z2, z3, z4, z5, z6, z7, z8, z9, z10, z11, z12, z13, z14, z15, z16⟩ := cells17 HX8.out
        go_wp2_with fail
        refine (den_no HN8.out x.user x.now).mono ?_
        rintro e wx ⟨rfl, rfl⟩
        go_wp2_with fail
        refine (itv_no HN8.out x.dev).mono ?_
        rintro e wx ⟨rfl, rfl⟩
        go_wp2_with fail
        refine (pur_no HN8.out x.now).mono ?_
        rintro e w9 ⟨rfl, hb⟩
        have HB9 := Lib.hid (HB8.out.trans (hb.mono HB8.out.size))
        clear hb z0 z1 z2 z3 z4 z5 z6 z7 z8 z9 z10 z11 z12 z13 z14 z15 z16
        go_wp2_with fail
        go_roundw
        case rel => exact ⟨k + 1, by go_num, by omega, HB9.out⟩
        case measure => simp [intOf]; omega
      · go_wp2_with fail
        refine (alive_any wr (HM.out.below (HB4.out.trans (HB.out.mono HB4.out.size)))).mono ?_
        rintro e w5 ⟨rfl, hb⟩
        have HB5 := Lib.hid ((HB4.out.trans (HB.out.mono HB4.out.size)).trans (hb.mono (Nat.le_trans HB4.out.size HB.out.size)))
        clear hb
        go_wp2
        go_ret
        exact ⟨rfl, HB5.out⟩
end Go.Proofs.YtapooonlbjgbgaaDoor.Dv
