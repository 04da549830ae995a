/-
  The chapter's examples: awake returns true.
-/
import Derived.Test.YtfeljihbaekfmaaRfSb
import Derived.Test.YtfeljihbaekfmaaRfY
import Derived.Test.YtfeljihbaekfmaaRfAwP
namespace Go.Proofs.Ytfeljihbaekfmaa.Rf
open Go.RowKit Go.Proofs.Ytfeljihbaekfmaa.Fo

theorem ss_one {w : World} {q : Nat} {s : Bs} (h : w.heap[q]? = some (.cells #[.string s] 9 (0, 0))) : Ss w (some ⟨q, 0, none⟩) 1 1 [s] := by
  refine ⟨rfl, Nat.le_refl _, fun _ => ⟨q, 0, rfl, blk_lt h, fun i hi => ?_⟩⟩
  have : i = 0 := by omega
  subst this
  have := cell_block h 0
  exact this
theorem short_one {s : Bs} (h : s.size ≤ 100000) : Short [s] := fun i hi => by
  have : i = 0 := by simp at hi; omega
  subst this
  exact h
/-- A block that the calls do not write. -/
theorem blk_mods {T : Nat → Prop} {w w' : World} {p : Nat} {o : Obj} (hm : Mods T w w') (h : w.heap[p]? = some o) (hT : ¬ T p) : w'.heap[p]? = some o := (hm.block p (blk_lt h) hT).trans h
theorem blk_below {w w' : World} {p : Nat} {o : Obj} (hb : Below w.heap.size w w') (h : w.heap[p]? = some o) : w'.heap[p]? = some o := (hb.block p (blk_lt h)).trans h
theorem MX.mods {T : Nat → Prop} {w w' : World} (h : MX w) (hm : Mods T w w') (hT : ¬ T 0) : MX w' := h.keep (hm.block 0 (by obtain ⟨m, hm⟩ := h; exact World.block_lt_of_cell? w _ hm) hT)
/-- Rotate with one wanted scope, in a slice just made. -/
theorem rotate_c {w : World} {T : Nat → Prop} {F : Nat} {st : St} (h : RepB w T F st) (t n c s : Bs) (now : Int) {r : St × (Gr × Int)} (hq : rot st t n c [s] now = r) (ht : t.size ≤ 100000) (hn : n.size ≤ 100000) (hsz : s.size ≤ 100000) (hm : MX w) :
    Calls Try.prog 25 #[.pointer (some ⟨F, 0, none⟩), .string t, .string n, .string c, .slice (some ⟨w.heap.size, 0, none⟩) 1 1, .int .i64 now] (w.alloc (.cells #[.string s] 9)) fun e w' => ∃ A d, e = .returned (.tuple #[.agg #[.string r.2.1.user, .string r.2.1.client, .string r.2.1.tenant, .string r.2.1.session, .string r.2.1.redirect, .string r.2.1.nonce, .string r.2.1.challenge, .int .i64 r.2.1.method, (.slice A r.2.1.scopes.length d), .int .i64 r.2.1.auth, .int .i64 r.2.1.level], .int .i64 r.2.2]) ∧ Ss w' A r.2.1.scopes.length d r.2.1.scopes ∧ (∀ a, A = some a → 0 < r.2.1.scopes.length → w.heap.size < a.block) ∧ RepB w' (fun k => T k ∧ k < w.heap.size) F r.1 ∧ Mods T w w' := by
  have hb : Below w.heap.size w (w.alloc (.cells #[.string s] 9)) := by go_grown
  have h2 : RepB (w.alloc (.cells #[.string s] 9)) (fun k => T k ∧ k < w.heap.size) F st := (h.mono (fun k hk e => ⟨e, hk⟩)).below hb
  refine (rotate_b h2 t n c [s] (some ⟨w.heap.size, 0, none⟩) 1 1 now hq ht hn (ss_one (heap_alloc_new _ _)) (short_one hsz) (by omega) (hm.below hb) (fun a ha _ hT => by injection ha with ha; subst ha; exact Nat.lt_irrefl _ hT.2)).mono ?_
  rintro e w' ⟨A, d, h3, h4, h5, h6, h7⟩
  exact ⟨A, d, h3, h4, fun a ha hl => by have := h5 a ha hl; simp only [World.size_alloc] at this; omega, h6.mono (fun k _ e => e.1), ⟨h7.os, h7.tape, h7.output, by have := h7.size; simp only [World.size_alloc] at this; omega, fun k hk hn => (h7.block k (by simp only [World.size_alloc]; omega) (fun e => hn e.1)).trans (hb.block k hk)⟩⟩
theorem cell_mods {T : Nat → Prop} {w w' : World} {a : Addr} {v : Value} (hm : Mods T w w') (h : w.cell? a = some v) (hT : ¬ T a.block) : w'.cell? a = some v := by
  rw [World.cell?_of_block (w := w) (hm.block a.block (World.block_lt_of_cell? w _ h) hT)]; exact h
theorem cell_below {w w' : World} {a : Addr} {v : Value} (hb : Below w.heap.size w w') (h : w.cell? a = some v) : w'.cell? a = some v := by
  rw [World.cell?_of_block (w := w) (hb.block a.block (World.block_lt_of_cell? w _ h))]; exact h
/-- Rotate with no wanted scopes, an error. -/
theorem rotate_e {w : World} {T : Nat → Prop} {F : Nat} {st st' : St} {x : Int} (h : RepB w T F st) (t n c : Bs) (now : Int) (hq : rot st t n c [] now = (st', (noG, x))) (ht : t.size ≤ 100000) (hn : n.size ≤ 100000) (hm : MX w) :
    Calls Try.prog 25 #[.pointer (some ⟨F, 0, none⟩), .string t, .string n, .string c, .slice none 0 0, .int .i64 now] w fun e w' => ∃ A d, e = .returned (.tuple #[.agg #[.string ⟨#[]⟩, .string ⟨#[]⟩, .string ⟨#[]⟩, .string ⟨#[]⟩, .string ⟨#[]⟩, .string ⟨#[]⟩, .string ⟨#[]⟩, .int .i64 0, .slice A 0 d, .int .i64 0, .int .i64 0], .int .i64 x]) ∧ RepB w' T F st' ∧ Mods T w w' := by
  refine (rotate_b h t n c [] none 0 0 now hq ht hn (Ss.nil _ _ _) (fun i hi => by simp at hi) (by omega) hm (fun a ha => by cases ha)).mono ?_
  rintro e w' ⟨A, d, h3, h4, h5, h6, h7⟩
  exact ⟨A, d, h3, h6.mono (fun k _ e => e.1), h7⟩
set_option maxRecDepth 100000 in
set_option maxHeartbeats 8000000 in
theorem awake_any (w : World) (hm : MX w) : Calls Try.prog 10 #[] w fun e w' => e = .returned (.bool true) ∧ Below w.heap.size w w' := by
  have HMX := Lib.hid hm
  clear hm
  go_enter Try.func10, Try.ntmps10
  go_wp2_with fail
  refine (new_no (Or.inl (by decide))).mono ?_
  rintro e w1 ⟨rfl, rfl⟩
  go_wp2_with fail
  refine (new_b (st := aw0) (by decide) (by kernel_rfl)).mono ?_
  rintro e w1 ⟨F, rfl, hr1, hb1⟩
  have HR1 := Lib.hid hr1
  have HB1 := Lib.hid hb1
  clear hr1 hb1
  go_wp2_with fail
  refine (grant_any _ _ _ _ _ _ _).mono ?_
  rintro e w2 ⟨rfl, hb2⟩
  obtain ⟨q, hq⟩ : ∃ q, q = w1.heap.size := ⟨_, rfl⟩
  have HB2 := Lib.hid hb2
  have HQ2 := Lib.hid (blk_below HB2.out (heap_alloc_new w1 (.cells #[.string ⟨#[109, 97, 105, 108]⟩] 9)))
  have HB12 := Lib.hid (show Below w1.heap.size w1 w2 from ((Below.refl w1.heap.size w1).alloc (Nat.le_refl _) (.cells #[.string ⟨#[109, 97, 105, 108]⟩] 9)).trans (HB2.out.mono (by simp)))
  rw [← hq] at HQ2
  rw [← hq]
  have HQW := Lib.hid (show w.heap.size ≤ q by rw [hq]; exact HB1.out.size)
  clear hb2
  have HQE := Lib.hid hq
  clear hq HB2
  go_upto_region 6 with fail
  obtain ⟨p, hp⟩ : ∃ p, p = w2.heap.size := ⟨_, rfl⟩
  obtain ⟨w3, hw3⟩ : ∃ w3, w3 = w2.alloc (.cells #[.string ⟨#[97, 110, 110]⟩, .string ⟨#[119, 101, 98]⟩, .string ⟨#[116]⟩, .string ⟨#[115]⟩, .string ⟨#[]⟩, .string ⟨#[110]⟩, .string ⟨#[]⟩, .int .i64 0, .slice (some ⟨q, 0, none⟩) 1 1, .int .i64 3, .int .i64 2] 35) := ⟨_, rfl⟩
  have HP3 := Lib.hid (show w3.heap[p]? = some (.cells #[.string ⟨#[97, 110, 110]⟩, .string ⟨#[119, 101, 98]⟩, .string ⟨#[116]⟩, .string ⟨#[115]⟩, .string ⟨#[]⟩, .string ⟨#[110]⟩, .string ⟨#[]⟩, .int .i64 0, .slice (some ⟨q, 0, none⟩) 1 1, .int .i64 3, .int .i64 2] 35 (0, 0)) by rw [hw3, hp]; exact heap_alloc_new _ _)
  have hb3 : Below w2.heap.size w2 w3 := by rw [hw3]; go_grown
  have HQ3 := Lib.hid (blk_below hb3 HQ2.out)
  have hb13 : Below w1.heap.size w1 w3 := HB12.out.trans (hb3.mono HB12.out.size)
  have HR3 := Lib.hid (show RepB w3 (fun k => w.heap.size ≤ k ∧ ¬ k = p ∧ ¬ k = q) F aw0 from (HR1.out.mono (fun k hk h => ⟨h, by have := HB12.out.size; omega, by have := HQE.out; omega⟩)).below hb13)
  have HB3 := Lib.hid (HB1.out.trans (hb13.mono HB1.out.size))
  have HPW := Lib.hid (show w.heap.size ≤ p by rw [hp]; have := HB1.out.size; have := HB12.out.size; omega)
  rw [← hw3, ← hp]
  clear hw3 hp hb3 hb13 HR1 HQ2 HB12
  obtain ⟨g0, g1, g2, g3, g4, g5, g6, g7, g8, g9, g10⟩ := cells11 HP3.out
  go_wp2_with fail
  refine (start_b HR3.out (fun k hk => by have := HB3.out.size; have := blk_lt HP3.out; have := blk_lt HQ3.out; omega) ⟨#[102, 49]⟩ ⟨#[97]⟩ gA (some ⟨q, 0, none⟩) 1 1 5 aw_start1 (by decide) (by decide) (by decide) (by decide) (by decide) (ss_one HQ3.out) (short_one (by decide)) (by omega) (HMX.out.below HB3.out)).mono ?_
  rintro e w4 ⟨rfl, hr, hm⟩
  clear g0 g1 g2 g3 g4 g5 g6 g7 g8 g9 g10
  have HP4 := Lib.hid (blk_mods hm HP3.out (fun h => h.2.1 rfl))
  have HQ4 := Lib.hid (blk_mods hm HQ3.out (fun h => h.2.2 rfl))
  have HB4 := Lib.hid (HB3.out.trans (hm.toBelow HB3.out.size (fun _ h => h.1)))
  have HR4 := Lib.hid hr
  clear hr hm HP3 HQ3 HB3 HR3
  obtain ⟨g0, g1, g2, g3, g4, g5, g6, g7, g8, g9, g10⟩ := cells11 HP4.out
  go_wp2_with fail
  refine (start_b HR4.out (fun k hk => by have := HB4.out.size; have := blk_lt HP4.out; have := blk_lt HQ4.out; omega) ⟨#[102, 50]⟩ ⟨#[97]⟩ gA (some ⟨q, 0, none⟩) 1 1 5 aw_start2 (by decide) (by decide) (by decide) (by decide) (by decide) (ss_one HQ4.out) (short_one (by decide)) (by omega) (HMX.out.below HB4.out)).mono ?_
  rintro e w5 ⟨rfl, hr, hm⟩
  clear g0 g1 g2 g3 g4 g5 g6 g7 g8 g9 g10
  have HP5 := Lib.hid (blk_mods hm HP4.out (fun h => h.2.1 rfl))
  have HQ5 := Lib.hid (blk_mods hm HQ4.out (fun h => h.2.2 rfl))
  have HB5 := Lib.hid (HB4.out.trans (hm.toBelow HB4.out.size (fun _ h => h.1)))
  have HR5 := Lib.hid hr
  clear hr hm HP4 HQ4 HB4 HR4
  go_wp2_with fail
  refine (live_b HR5.out ⟨#[102, 49]⟩ (by decide) 14 aw_live1).mono ?_
  rintro e w6 ⟨rfl, hb⟩
  have HP6 := Lib.hid (blk_below hb HP5.out)
  have HQ6 := Lib.hid (blk_below hb HQ5.out)
  have HB6 := Lib.hid (HB5.out.trans (hb.mono HB5.out.size))
  have HR6 := Lib.hid (HR5.out.below hb)
  clear hb HP5 HQ5 HB5 HR5
  go_wp2_with fail
  refine (live_b HR6.out ⟨#[102, 49]⟩ (by decide) 15 aw_live2).mono ?_
  rintro e w7 ⟨rfl, hb⟩
  have HP7 := Lib.hid (blk_below hb HP6.out)
  have HQ7 := Lib.hid (blk_below hb HQ6.out)
  have HB7 := Lib.hid (HB6.out.trans (hb.mono HB6.out.size))
  have HR7 := Lib.hid (HR6.out.below hb)
  clear hb HP6 HQ6 HB6 HR6
  go_wp2_with fail
  refine (rotate_c HR7.out ⟨#[97]⟩ ⟨#[98]⟩ ⟨#[119, 101, 98]⟩ ⟨#[102, 105, 108, 101, 115]⟩ 6 aw_rot1 (by decide) (by decide) (by decide) (HMX.out.below HB7.out)).mono ?_
  rintro e w8 ⟨A, d, he, _, _, hr, hm⟩
  replace hr := hr.mono (T' := (fun k => w.heap.size ≤ k ∧ ¬ k = p ∧ ¬ k = q)) (fun k _ e => e.1)
  have he2 : e = .returned (.tuple #[.agg #[.string ⟨#[]⟩, .string ⟨#[]⟩, .string ⟨#[]⟩, .string ⟨#[]⟩, .string ⟨#[]⟩, .string ⟨#[]⟩, .string ⟨#[]⟩, .int .i64 0, .slice A 0 d, .int .i64 0, .int .i64 0], .int .i64 19]) := he
  clear he
  subst he2
  have HP8 := Lib.hid (blk_mods hm HP7.out (fun h => h.2.1 rfl))
  have HQ8 := Lib.hid (blk_mods hm HQ7.out (fun h => h.2.2 rfl))
  have HB8 := Lib.hid (HB7.out.trans (hm.toBelow HB7.out.size (fun _ h => h.1)))
  have HR8 := Lib.hid hr
  clear hr hm HP7 HQ7 HB7 HR7
  go_upto_region 10 with fail
  obtain ⟨w9, hw⟩ : ∃ w', w' = w8.alloc (.cells #[.string ⟨#[]⟩, .string ⟨#[]⟩, .string ⟨#[]⟩, .string ⟨#[]⟩, .string ⟨#[]⟩, .string ⟨#[]⟩, .string ⟨#[]⟩, .int .i64 0, .slice A 0 d, .int .i64 0, .int .i64 0] 35) := ⟨_, rfl⟩
  have hb : Below w8.heap.size w8 w9 := by rw [hw]; go_grown
  rw [← hw]
  clear hw
  have HP9 := Lib.hid (blk_below hb HP8.out)
  have HQ9 := Lib.hid (blk_below hb HQ8.out)
  have HB9 := Lib.hid (HB8.out.trans (hb.mono HB8.out.size))
  have HR9 := Lib.hid (HR8.out.below hb)
  clear hb HP8 HQ8 HB8 HR8
  go_wp2_with fail
  refine (rotate_c HR9.out ⟨#[97]⟩ ⟨#[98]⟩ ⟨#[119, 101, 98]⟩ ⟨#[109, 97, 105, 108, 46, 114, 101, 97, 100]⟩ 6 aw_rot2 (by decide) (by decide) (by decide) (HMX.out.below HB9.out)).mono ?_
  rintro e w10 ⟨A, d, he, hss, hfr, hr, hm⟩
  have he2 : e = .returned (.tuple #[.agg #[.string ⟨#[97, 110, 110]⟩, .string ⟨#[119, 101, 98]⟩, .string ⟨#[116]⟩, .string ⟨#[115]⟩, .string ⟨#[]⟩, .string ⟨#[110]⟩, .string ⟨#[]⟩, .int .i64 0, .slice A 1 d, .int .i64 3, .int .i64 2], .int .i64 0]) := he
  clear he
  subst he2
  obtain ⟨s, so, rfl, hsl, hc⟩ := hss.2.2 (by decide)
  have hc0 := hc 0 (by decide)
  rw [Nat.add_zero] at hc0
  have hc1 : w10.cell? ⟨s, so, none⟩ = some (.string ⟨#[109, 97, 105, 108, 46, 114, 101, 97, 100]⟩) := hc0
  have HC10 := Lib.hid hc1
  have HSW := Lib.hid (show w9.heap.size < s from hfr _ rfl (by decide))
  have HR10 := Lib.hid (hr.mono (T' := (fun k => w.heap.size ≤ k ∧ ¬ k = p ∧ ¬ k = q ∧ k < w9.heap.size)) (fun k _ e => ⟨e.1.1, e.1.2.1, e.1.2.2, e.2⟩))
  clear hss hfr hc hc0 hc1 hr hsl
  have hr : True := trivial
  have HP10 := Lib.hid (blk_mods hm HP9.out (fun h => h.2.1 rfl))
  have HQ10 := Lib.hid (blk_mods hm HQ9.out (fun h => h.2.2 rfl))
  have HB10 := Lib.hid (HB9.out.trans (hm.toBelow HB9.out.size (fun _ h => h.1)))
  clear hr hm HP9 HQ9 HB9 HR9
  go_upto_region 11 with fail
  obtain ⟨w11, hw⟩ : ∃ w', w' = w10.alloc (.cells #[.string ⟨#[97, 110, 110]⟩, .string ⟨#[119, 101, 98]⟩, .string ⟨#[116]⟩, .string ⟨#[115]⟩, .string ⟨#[]⟩, .string ⟨#[110]⟩, .string ⟨#[]⟩, .int .i64 0, .slice (some ⟨s, so, none⟩) 1 d, .int .i64 3, .int .i64 2] 35) := ⟨_, rfl⟩
  have hb : Below w10.heap.size w10 w11 := by rw [hw]; go_grown
  obtain ⟨r, hr0⟩ : ∃ r, r = w10.heap.size := ⟨_, rfl⟩
  have HX11 := Lib.hid (show w11.heap[r]? = some (.cells #[.string ⟨#[97, 110, 110]⟩, .string ⟨#[119, 101, 98]⟩, .string ⟨#[116]⟩, .string ⟨#[115]⟩, .string ⟨#[]⟩, .string ⟨#[110]⟩, .string ⟨#[]⟩, .int .i64 0, .slice (some ⟨s, so, none⟩) 1 d, .int .i64 3, .int .i64 2] 35 (0, 0)) by rw [hw, hr0]; exact heap_alloc_new _ _)
  have HC11 := Lib.hid (cell_below hb HC10.out)
  have HR11 := Lib.hid (show RepB w11 (fun k => w.heap.size ≤ k ∧ ¬ k = p ∧ ¬ k = q ∧ ¬ k = r ∧ ¬ k = s) F aw2 from (HR10.out.mono (T' := (fun k => w.heap.size ≤ k ∧ ¬ k = p ∧ ¬ k = q ∧ ¬ k = r ∧ ¬ k = s)) (fun k hk e => ⟨e.1, e.2.1, e.2.2.1, by rw [hr0]; omega, by have := HSW.out; omega⟩)).below hb)
  rw [← hw, ← hr0]
  have HRW := Lib.hid (show w.heap.size ≤ r by rw [hr0]; exact HB10.out.size)
  clear hw hr0 HR10
  have HR10 : True := trivial
  have HP11 := Lib.hid (blk_below hb HP10.out)
  have HQ11 := Lib.hid (blk_below hb HQ10.out)
  have HB11 := Lib.hid (HB10.out.trans (hb.mono HB10.out.size))
  clear HC10 hb HP10 HQ10 HB10 HR10
  go_wp2_with fail
  refine (rotate_e HR11.out ⟨#[97]⟩ ⟨#[99]⟩ ⟨#[119, 101, 98]⟩ 7 aw_rot3 (by decide) (by decide) (HMX.out.below HB11.out)).mono ?_
  rintro e w12 ⟨A12, d12, rfl, hr, hm⟩
  have HP12 := Lib.hid (blk_mods hm HP11.out (fun h => h.2.1 rfl))
  have HQ12 := Lib.hid (blk_mods hm HQ11.out (fun h => h.2.2.1 rfl))
  have HX12 := Lib.hid (blk_mods hm HX11.out (fun h => h.2.2.2.1 rfl))
  have HC12 := Lib.hid (cell_mods hm HC11.out (fun h => h.2.2.2.2 rfl))
  have HB12 := Lib.hid (HB11.out.trans (hm.toBelow HB11.out.size (fun _ h => h.1)))
  have HR12 := Lib.hid hr
  clear hr hm HP11 HQ11 HB11 HR11 HX11 HC11
  go_upto_region 12 with fail
  obtain ⟨w13, hw⟩ : ∃ w', w' = w12.alloc (.cells #[.string ⟨#[]⟩, .string ⟨#[]⟩, .string ⟨#[]⟩, .string ⟨#[]⟩, .string ⟨#[]⟩, .string ⟨#[]⟩, .string ⟨#[]⟩, .int .i64 0, .slice A12 0 d12, .int .i64 0, .int .i64 0] 35) := ⟨_, rfl⟩
  have hb : Below w12.heap.size w12 w13 := by rw [hw]; go_grown
  rw [← hw]
  clear hw
  have HP13 := Lib.hid (blk_below hb HP12.out)
  have HQ13 := Lib.hid (blk_below hb HQ12.out)
  have HX13 := Lib.hid (blk_below hb HX12.out)
  have HC13 := Lib.hid (cell_below hb HC12.out)
  have HB13 := Lib.hid (HB12.out.trans (hb.mono HB12.out.size))
  have HR13 := Lib.hid (HR12.out.below hb)
  clear hb HP12 HQ12 HB12 HR12 HX12 HC12
  go_wp2_with fail
  refine (rotate_e HR13.out ⟨#[98]⟩ ⟨#[99]⟩ ⟨#[119, 101, 98]⟩ 7 aw_rot4 (by decide) (by decide) (HMX.out.below HB13.out)).mono ?_
  rintro e w14 ⟨A14, d14, rfl, hr, hm⟩
  have HP14 := Lib.hid (blk_mods hm HP13.out (fun h => h.2.1 rfl))
  have HQ14 := Lib.hid (blk_mods hm HQ13.out (fun h => h.2.2.1 rfl))
  have HX14 := Lib.hid (blk_mods hm HX13.out (fun h => h.2.2.2.1 rfl))
  have HC14 := Lib.hid (cell_mods hm HC13.out (fun h => h.2.2.2.2 rfl))
  have HB14 := Lib.hid (HB13.out.trans (hm.toBelow HB13.out.size (fun _ h => h.1)))
  have HR14 := Lib.hid hr
  clear hr hm HP13 HQ13 HB13 HR13 HX13 HC13
  go_upto_region 13 with fail
  obtain ⟨w15, hw⟩ : ∃ w', w' = w14.alloc (.cells #[.string ⟨#[]⟩, .string ⟨#[]⟩, .string ⟨#[]⟩, .string ⟨#[]⟩, .string ⟨#[]⟩, .string ⟨#[]⟩, .string ⟨#[]⟩, .int .i64 0, .slice A14 0 d14, .int .i64 0, .int .i64 0] 35) := ⟨_, rfl⟩
  have hb : Below w14.heap.size w14 w15 := by rw [hw]; go_grown
  rw [← hw]
  clear hw
  have HP15 := Lib.hid (blk_below hb HP14.out)
  have HQ15 := Lib.hid (blk_below hb HQ14.out)
  have HX15 := Lib.hid (blk_below hb HX14.out)
  have HC15 := Lib.hid (cell_below hb HC14.out)
  have HB15 := Lib.hid (HB14.out.trans (hb.mono HB14.out.size))
  have HR15 := Lib.hid (HR14.out.below hb)
  clear hb HP14 HQ14 HB14 HR14 HX14 HC14
  obtain ⟨g0, g1, g2, g3, g4, g5, g6, g7, g8, g9, g10⟩ := cells11 HP15.out
  go_wp2_with fail
  refine (start_b HR15.out (fun k hk => by have := HB15.out.size; have := blk_lt HP15.out; have := blk_lt HQ15.out; have := blk_lt HX15.out; have := World.block_lt_of_cell? _ _ HC15.out; simp only at this; omega) ⟨#[102, 51]⟩ ⟨#[122]⟩ gA (some ⟨q, 0, none⟩) 1 1 5 aw_start3 (by decide) (by decide) (by decide) (by decide) (by decide) (ss_one HQ15.out) (short_one (by decide)) (by omega) (HMX.out.below HB15.out)).mono ?_
  rintro e w16 ⟨rfl, hr, hm⟩
  clear g0 g1 g2 g3 g4 g5 g6 g7 g8 g9 g10
  have HP16 := Lib.hid (blk_mods hm HP15.out (fun h => h.2.1 rfl))
  have HQ16 := Lib.hid (blk_mods hm HQ15.out (fun h => h.2.2.1 rfl))
  have HX16 := Lib.hid (blk_mods hm HX15.out (fun h => h.2.2.2.1 rfl))
  have HC16 := Lib.hid (cell_mods hm HC15.out (fun h => h.2.2.2.2 rfl))
  have HB16 := Lib.hid (HB15.out.trans (hm.toBelow HB15.out.size (fun _ h => h.1)))
  have HR16 := Lib.hid hr
  clear hr hm HP15 HQ15 HB15 HR15 HX15 HC15
  obtain ⟨y0, y1, y2, y3, y4, y5, y6, y7, y8, y9, y10⟩ := cells11 HX16.out
  have hcs := HC16.out
  go_wp2_with fail
  refine (fam_b HR16.out ⟨#[98]⟩ (by decide) aw_fam).mono ?_
  rintro e w17 ⟨he, rfl⟩
  have he2 : e = .returned (.tuple #[.string ⟨#[102, 49]⟩, .bool true]) := he
  clear he
  subst he2
  clear y0 y1 y2 y3 y4 y5 y6 y7 y8 y9 y10 hcs
  go_wp2_with fail
  refine (len_b HR16.out 6 aw_len).mono ?_
  rintro e w17 ⟨rfl, hb⟩
  have HP17 := Lib.hid (blk_below hb HP16.out)
  have HQ17 := Lib.hid (blk_below hb HQ16.out)
  have HX17 := Lib.hid (blk_below hb HX16.out)
  have HC17 := Lib.hid (cell_below hb HC16.out)
  have HB17 := Lib.hid (HB16.out.trans (hb.mono HB16.out.size))
  have HR17 := Lib.hid (HR16.out.below hb)
  clear hb HP16 HQ16 HB16 HR16 HX16 HC16
  go_wp2_with fail
  refine (revoke_b HR17.out (fun k hk => by have := HB17.out.size; have := blk_lt HP17.out; have := blk_lt HQ17.out; have := blk_lt HX17.out; have := World.block_lt_of_cell? _ _ HC17.out; simp only at this; omega) ⟨#[102, 51]⟩ aw_rev1n aw_rev1).mono ?_
  rintro e w18 ⟨rfl, hr, hm⟩
  have HP18 := Lib.hid (blk_mods hm HP17.out (fun h => h.2.1 rfl))
  have HQ18 := Lib.hid (blk_mods hm HQ17.out (fun h => h.2.2.1 rfl))
  have HX18 := Lib.hid (blk_mods hm HX17.out (fun h => h.2.2.2.1 rfl))
  have HC18 := Lib.hid (cell_mods hm HC17.out (fun h => h.2.2.2.2 rfl))
  have HB18 := Lib.hid (HB17.out.trans (hm.toBelow HB17.out.size (fun _ h => h.1)))
  have HR18 := Lib.hid hr
  clear hr hm HP17 HQ17 HB17 HR17 HX17 HC17
  go_wp2_with fail
  refine (revoke_b HR18.out (fun k hk => by have := HB18.out.size; have := blk_lt HP18.out; have := blk_lt HQ18.out; have := blk_lt HX18.out; have := World.block_lt_of_cell? _ _ HC18.out; simp only at this; omega) ⟨#[102, 51]⟩ aw_rev2n aw_rev2).mono ?_
  rintro e w19 ⟨rfl, hr, hm⟩
  have HP19 := Lib.hid (blk_mods hm HP18.out (fun h => h.2.1 rfl))
  have HQ19 := Lib.hid (blk_mods hm HQ18.out (fun h => h.2.2.1 rfl))
  have HX19 := Lib.hid (blk_mods hm HX18.out (fun h => h.2.2.2.1 rfl))
  have HC19 := Lib.hid (cell_mods hm HC18.out (fun h => h.2.2.2.2 rfl))
  have HB19 := Lib.hid (HB18.out.trans (hm.toBelow HB18.out.size (fun _ h => h.1)))
  have HR19 := Lib.hid hr
  clear hr hm HP18 HQ18 HB18 HR18 HX18 HC18
  go_wp2_with fail
  refine (revUsr_b HR19.out (fun k hk => by have := HB19.out.size; have := blk_lt HP19.out; have := blk_lt HQ19.out; have := blk_lt HX19.out; have := World.block_lt_of_cell? _ _ HC19.out; simp only at this; omega) ⟨#[97, 110, 110]⟩ aw_usr rfl).mono ?_
  rintro e w20 ⟨rfl, hr, hm⟩
  have HP20 := Lib.hid (blk_mods hm HP19.out (fun h => h.2.1 rfl))
  have HQ20 := Lib.hid (blk_mods hm HQ19.out (fun h => h.2.2.1 rfl))
  have HX20 := Lib.hid (blk_mods hm HX19.out (fun h => h.2.2.2.1 rfl))
  have HC20 := Lib.hid (cell_mods hm HC19.out (fun h => h.2.2.2.2 rfl))
  have HB20 := Lib.hid (HB19.out.trans (hm.toBelow HB19.out.size (fun _ h => h.1)))
  have HR20 := Lib.hid hr
  clear hr hm HP19 HQ19 HB19 HR19 HX19 HC19
  obtain ⟨g0, g1, g2, g3, g4, g5, g6, g7, g8, g9, g10⟩ := cells11 HP20.out
  go_wp2_with fail
  refine (start_nil ⟨#[97]⟩ ⟨#[98]⟩ gA (some ⟨q, 0, none⟩) 1 1 1 w20).mono ?_
  rintro e w21 ⟨rfl, hb⟩
  clear g0 g1 g2 g3 g4 g5 g6 g7 g8 g9 g10
  have HP21 := Lib.hid (blk_below hb HP20.out)
  have HQ21 := Lib.hid (blk_below hb HQ20.out)
  have HX21 := Lib.hid (blk_below hb HX20.out)
  have HC21 := Lib.hid (cell_below hb HC20.out)
  have HB21 := Lib.hid (HB20.out.trans (hb.mono HB20.out.size))
  have HR21 := Lib.hid (HR20.out.below hb)
  clear hb HP20 HQ20 HB20 HR20 HX20 HC20
  go_wp2_with fail
  refine (len_nil 1 w21).mono ?_
  rintro e w22 ⟨rfl, rfl⟩
  go_wp2
  go_ret
  exact ⟨rfl, HB21.out⟩
end Go.Proofs.Ytfeljihbaekfmaa.Rf
