/-
  The program's Redeem.
-/
import Derived.Test.YtioabjniipkncaaGreatDoorRcS
namespace Go.Proofs.YtioabjniipkncaaGreatDoor.Rc
open Go.RowKit Go.Proofs.YtioabjniipkncaaGreatDoor.Fo Go.Proofs.YtioabjniipkncaaGreatDoor.Rf Go.Maps

theorem set_self {α : Type} {l : List α} {i : Nat} {x : α} (h : l[i]? = some x) : l.set i x = l := by
  refine List.ext_getElem? fun j => ?_
  rw [List.getElem?_set]
  by_cases e2 : i = j
  · subst e2; rw [if_pos rfl, if_pos (List.getElem?_eq_some_iff.1 h).1, h]
  · rw [if_neg e2]
theorem red_none {st : Ct} {w c r : Bs} {pv : Gr → Bool} {now : Int} (h : cdI st.l w = none) : red st w c r pv now = (st, (noG, 6)) := by unfold red; rw [h]
theorem red_at {st : Ct} {w c r : Bs} {pv : Gr → Bool} {now : Int} {i : Nat} {x : Cd} (h : cdI st.l w = some i) (hx : st.l[i]? = some x) {k : Int} (hk : redE x c r (pv x.g) now = k) : red st w c r pv now = ({ st with l := st.l.set i (redX x k) }, (if k = 0 then x.g else noG, k)) := by
  unfold red
  rw [h]
  simp only [hx, hk]
theorem red_bad {st : Ct} {w c r : Bs} {pv : Gr → Bool} {now : Int} {i : Nat} {x : Cd} (h : cdI st.l w = some i) (hx : st.l[i]? = some x) {k : Int} (hk : redE x c r (pv x.g) now = k) (h0 : k ≠ 0) (h1 : k ≠ 18) (h2 : k ≠ 20) : red st w c r pv now = (st, (noG, k)) := by
  rw [red_at h hx hk, if_neg h0]
  have : redX x k = x := by unfold redX; rw [if_neg h1, if_neg (by omega)]
  rw [this, set_self hx]
theorem nodup_at {α : Type} {l : List α} (h : l.Nodup) {i j : Nat} {x : α} (hi : l[i]? = some x) (hj : l[j]? = some x) : i = j := by
  have h1 := (List.getElem?_eq_some_iff.1 hi).1
  have h2 := (List.getElem?_eq_some_iff.1 hj).1
  have e1 := (List.getElem?_eq_some_iff.1 hi).2
  have e2 := (List.getElem?_eq_some_iff.1 hj).2
  rcases Nat.lt_trichotomy i j with hlt | heq | hgt
  · exact absurd (e1.trans e2.symm) (List.pairwise_iff_getElem.1 h i j h1 h2 hlt)
  · exact heq
  · exact absurd (e2.trans e1.symm) (List.pairwise_iff_getElem.1 h j i h2 h1 hgt)
/-- One code has turned in memory. -/
theorem rep_set {w : World} {S I : Nat → Prop} {F M : Nat} {st : Ct} {pl : List (Nat × Cd)} (h : RepP w S I F st M pl) {i b j : Nat} {x y : Cd} {u : Value} (hx : st.l[i]? = some x) (hb : pl[i]? = some (b, x)) (hy : y.w = x.w ∧ y.g = x.g ∧ y.fin = x.fin) (hc : ∀ A c, #[.string x.g.user, .string x.g.client, .string x.g.tenant, .string x.g.session, .string x.g.redirect, .string x.g.nonce, .string x.g.challenge, .int .i64 x.g.method, (.slice A x.g.scopes.length c), .int .i64 x.g.auth, .int .i64 x.g.level, .int .i64 x.fin, .bool x.used, .bool x.att, .bool x.drp].setIfInBounds j u = #[.string y.g.user, .string y.g.client, .string y.g.tenant, .string y.g.session, .string y.g.redirect, .string y.g.nonce, .string y.g.challenge, .int .i64 y.g.method, (.slice A y.g.scopes.length c), .int .i64 y.g.auth, .int .i64 y.g.level, .int .i64 y.fin, .bool y.used, .bool y.att, .bool y.drp]) :
    RepP (w.setCell ⟨b, j, none⟩ u) S I F { st with l := st.l.set i y } M (pl.set i (b, y)) := by
  have hm : (b, x) ∈ pl := List.mem_of_getElem? hb
  obtain ⟨sq, iq⟩ := h.sb _ hm
  have far : ∀ k, k ≠ b → (w.setCell ⟨b, j, none⟩ u).heap[k]? = w.heap[k]? := fun k hk => Below.heap_setCell _ _ _ _ hk
  obtain ⟨nM, nF⟩ := h.apart hm
  have hbi := (List.getElem?_eq_some_iff.1 hb).1
  refine rep_upd h rfl (by rw [List.map_set, h.hl]) (map_set_same (f := fun q : Nat × Cd => (q.1, q.2.w)) hb (by simp [hy.1])) (fun q hq => ?_) (fun _ e => e) (far _ nF) (far _ nM) (fun k e => by have := h.lt k e; simpa [World.setCell] using this) (inv_set h.inv hx hy)
  obtain ⟨k, hk⟩ := List.getElem?_of_mem hq
  rw [List.getElem?_set] at hk
  by_cases e : i = k
  · rw [if_pos e, if_pos hbi] at hk
    have := Option.some.inj hk
    subst this
    exact (h.hb _ hm).set iq hy.2.1 hc
  · rw [if_neg e] at hk
    have hq2 := List.mem_of_getElem? hk
    have hne : q.1 ≠ b := fun e2 => by
      have hn := h.nd
      have e3 : (pl.map Prod.fst)[k]? = some q.1 := by rw [List.getElem?_map, hk]; rfl
      have e4 : (pl.map Prod.fst)[i]? = some b := by rw [List.getElem?_map, hb]; rfl
      rw [e2] at e3
      exact e (nodup_at hn e4 e3)
    exact (h.hb _ hq2).keep (fun _ e => e) (far _ hne) (fun k hk => far _ (fun e2 => iq (by rw [← e2]; exact hk))) (by simp [World.setCell])
/-- A grant and an error come back, the codes have turned. -/
def RedIs (w : World) (S : Nat → Prop) (F : Nat) (r : Ct × (Gr × Int)) (e : Ending) (w' : World) : Prop :=
  ∃ A d, e = .returned (.tuple #[.agg #[.string r.2.1.user, .string r.2.1.client, .string r.2.1.tenant, .string r.2.1.session, .string r.2.1.redirect, .string r.2.1.nonce, .string r.2.1.challenge, .int .i64 r.2.1.method, (.slice A r.2.1.scopes.length d), .int .i64 r.2.1.auth, .int .i64 r.2.1.level], .int .i64 r.2.2]) ∧ Ss w' A r.2.1.scopes.length d r.2.1.scopes ∧ (∀ a, A = some a → 0 < r.2.1.scopes.length → w.heap.size ≤ a.block) ∧ RepE w' S F r.1 ∧ Mods S w w'
theorem red_fin {w w' : World} {S : Nat → Prop} {F : Nat} {st' : Ct} {k : Int} {r : Ct × (Gr × Int)} (hr : r = (st', (noG, k))) (_hlt : ∀ k, S k → k < w.heap.size) (h : RepE w' S F st') (hm : Mods S w w') : RedIs w S F r (.returned (.tuple #[.agg #[.string ⟨#[]⟩, .string ⟨#[]⟩, .string ⟨#[]⟩, .string ⟨#[]⟩, .string ⟨#[]⟩, .string ⟨#[]⟩, .string ⟨#[]⟩, .int .i64 0, .slice none 0 0, .int .i64 0, .int .i64 0], .int .i64 k])) w' := by
  subst hr
  refine ⟨none, 0, rfl, Ss.nil _ _ _, (fun a h => by cases h), h, hm⟩
theorem beq_bs {a b : Bs} : (a.toList == b.toList) = decide (a = b) := by
  rw [Lib.toList_data, Lib.toList_data, Bool.eq_iff_iff, beq_iff_eq, decide_eq_true_eq]
  exact ⟨fun h => bs_ext h, fun h => by rw [h]⟩
theorem redo_fin {w w4 wb wa : World} {S : Nat → Prop} {F : Nat} {st' : Ct} {x : Gr} {r : Ct × (Gr × Int)} {B' : Option Addr} {d' : Nat}
    (hr : r = (st', (x, 0))) (hlt : ∀ k, S k → k < w.heap.size) (h : RepE w4 S F st') (hm : Mods S w w4) (hb : Below w4.heap.size w4 wb) (cs : Array Value) (hz : w.heap.size < w4.heap.size) (hown : Own1 wb wa.heap.size (.slice B' x.scopes.length d') x.scopes) (hwa : w4.heap.size ≤ wa.heap.size) :
    RedIs w S F r (.returned (.tuple #[.agg #[.string x.user, .string x.client, .string x.tenant, .string x.session, .string x.redirect, .string x.nonce, .string x.challenge, .int .i64 x.method, (.slice B' x.scopes.length d'), .int .i64 x.auth, .int .i64 x.level], .int .i64 0])) (wb.setRow w.heap.size cs) := by
  have e1 : (wb.setRow w.heap.size cs).heap.size = wb.heap.size := setRow_size _ _ _
  subst hr
  have hss := hown.ss.1
  have hbz := hb.size
  refine ⟨B', d', rfl, ?_, (fun a ha _ => by have := own_ge hown a ha; omega), h.keep (fun _ e => e) (fun k hk => (setRow_other wb w.heap.size k cs (by have := hlt k hk; omega)).trans (hb.block k (h.lt k hk))) (by omega) (fun k hk => ?_), ?_⟩
  · refine ⟨hss.1, hss.2.1, fun hn => ?_⟩
    obtain ⟨b, off, e, hl, hc⟩ := hss.2.2 hn
    refine ⟨b, off, e, by omega, fun i hi => ?_⟩
    have hbg := own_ge hown _ e
    simp only at hbg
    rw [World.cell?_of_block (w := wb) (setRow_other wb w.heap.size b cs (by omega))]
    exact hc i hi
  · have := hlt k hk; have := hm.size; omega
  · have h1 := hm.below hb
    exact ⟨h1.os, h1.tape, h1.output, by have := h1.size; omega, fun k hk hn => (setRow_other wb w.heap.size k cs (by omega)).trans (h1.block k hk hn)⟩
set_option maxRecDepth 100000 in
set_option maxHeartbeats 8000000 in
theorem red_any {w : World} {S : Nat → Prop} {F : Nat} {st : Ct} (h : RepE w S F st) (t c r v : Bs) (now : Int) (ht : t.size ≤ 100000) (pv : Gr → Bool) (hpv : ∀ (i : Nat) (x : Cd) (A : Option Addr) (n d : Nat) (w1 : World), st.l[i]? = some x → (∀ k, k < w.heap.size → ¬ S k → w1.heap[k]? = w.heap[k]?) → Calls Tryz.prog 38 #[.agg #[.string x.g.user, .string x.g.client, .string x.g.tenant, .string x.g.session, .string x.g.redirect, .string x.g.nonce, .string x.g.challenge, .int .i64 x.g.method, (.slice A n d), .int .i64 x.g.auth, .int .i64 x.g.level], .string v] w1 fun e w' => e = .returned (.bool (pv x.g)) ∧ Below w1.heap.size w1 w') :
    Calls Tryz.prog 17 #[.pointer (some ⟨F, 0, none⟩), .string t, .string c, .string r, .string v, .int .i64 now] w (RedIs w S F (red st t c r pv now)) := by
  have HE := Lib.hid h
  obtain ⟨I, M, pl, h⟩ := h
  have H := Lib.hid h
  have HPV := Lib.hid hpv
  clear h hpv
  go_enter Tryz.func17, Tryz.ntmps17
  go_upto_region 1 with fail
  obtain ⟨w0, hw0⟩ : ∃ w0, w0 = w.alloc (.cells #[.string ⟨#[]⟩, .string ⟨#[]⟩, .string ⟨#[]⟩, .string ⟨#[]⟩, .string ⟨#[]⟩, .string ⟨#[]⟩, .string ⟨#[]⟩, .int .i64 0, .slice none 0 0, .int .i64 0, .int .i64 0] 36) := ⟨_, rfl⟩
  rw [← hw0]
  have HB0 := Lib.hid (show Below w.heap.size w w0 by rw [hw0]; go_grown)
  have HZ0 := Lib.hid (show w0.heap[w.heap.size]? = some (.cells #[.string ⟨#[]⟩, .string ⟨#[]⟩, .string ⟨#[]⟩, .string ⟨#[]⟩, .string ⟨#[]⟩, .string ⟨#[]⟩, .string ⟨#[]⟩, .int .i64 0, .slice none 0 0, .int .i64 0, .int .i64 0] 36 (0, 0)) by rw [hw0]; exact heap_alloc_new _ _)
  clear hw0
  have H0 := Lib.hid (H.out.below HB0.out)
  have HE0 := Lib.hid (HE.out.below HB0.out)
  go_wp2_with fail
  refine (made_yes H0.out).mono ?_
  rintro e w1 ⟨rfl, rfl⟩
  have c1 := H0.out.c1
  cases hi : cdI st.l t with
  | none =>
    have HR := Lib.hid (red_none (c := c) (r := r) (pv := pv) (now := now) hi)
    have hr := look_no H0.out t ht hi
    clear hi
    go_wp2_with (refine wpList_store_row rfl 36 (.tmp 12) (.tmp 29) rfl w.heap.size #[.string ⟨#[]⟩, .string ⟨#[]⟩, .string ⟨#[]⟩, .string ⟨#[]⟩, .string ⟨#[]⟩, .string ⟨#[]⟩, .string ⟨#[]⟩, .int .i64 0, .slice none 0 0, .int .i64 0, .int .i64 0] rfl rfl 36 _ HZ0.out (by kernel_rfl) rfl (by kernel_rfl) ?_)
    obtain ⟨y0, y1, y2, y3, y4, y5, y6, y7, y8, y9, y10⟩ := cells11 (setRow_heap w0 w.heap.size _ #[.string ⟨#[]⟩, .string ⟨#[]⟩, .string ⟨#[]⟩, .string ⟨#[]⟩, .string ⟨#[]⟩, .string ⟨#[]⟩, .string ⟨#[]⟩, .int .i64 0, .slice none 0 0, .int .i64 0, .int .i64 0] _ _ HZ0.out)
    refine bodyPost_ret (v := .tuple #[.agg #[.string ⟨#[]⟩, .string ⟨#[]⟩, .string ⟨#[]⟩, .string ⟨#[]⟩, .string ⟨#[]⟩, .string ⟨#[]⟩, .string ⟨#[]⟩, .int .i64 0, .slice none 0 0, .int .i64 0, .int .i64 0], .int .i64 6]) (by simp [results, Tryz.results17, go_sem, y0, y1, y2, y3, y4, y5, y6, y7, y8, y9, y10]) rfl ?_
    rw [setRow_self _ _ _ _ _ HZ0.out]
    exact red_fin HR.out HE.out.lt HE0.out (Mods.of_below S HB0.out)
  | some i =>
    obtain ⟨x, hx, hxt⟩ := cdI_some hi
    obtain ⟨b, hb⟩ := pl_at H.out.hl hx
    have hr := look_at H0.out hb hxt
    have HI := Lib.hid hi
    have HX := Lib.hid hx
    have HB := Lib.hid hb
    have HRA := Lib.hid (fun k hk => red_at (c := c) (r := r) (pv := pv) (now := now) (k := k) hi hx hk)
    have HRB := Lib.hid (fun k hk h0 h1 h2 => red_bad (c := c) (r := r) (pv := pv) (now := now) (k := k) hi hx hk h0 h1 h2)
    obtain ⟨A, d, hblk, hss, hIA⟩ := H0.out.hb _ (List.mem_of_getElem? hb)
    have HSX := Lib.hid hss
    have HIA := Lib.hid hIA
    have HSB := Lib.hid (H0.out.sb _ (List.mem_of_getElem? hb))
    have HSX2 := Lib.hid (H.out.inv.sc x (List.mem_of_getElem? hx))
    simp only at hblk
    have HBLK := Lib.hid hblk
    have hbl := HE.out.lt b HSB.out.1
    clear hi hx hxt hb hss hIA
    have k1 := cell_block hblk 1
    have k4 := cell_block hblk 4
    have k11 := cell_block hblk 11
    have k12 := cell_block hblk 12
    have k14 := cell_block hblk 14
    simp only [List.getElem?_toArray, List.getElem?_cons_zero, List.getElem?_cons_succ] at k1 k4 k11 k12 k14
    cases hu : x.used with
    | true =>
      have HR := Lib.hid (HRA.out 18 (by unfold redE; rw [if_pos hu]))
      rw [hu] at k12
      have k13 := cell_block hblk 13
      simp only [List.getElem?_toArray, List.getElem?_cons_zero, List.getElem?_cons_succ] at k13
      have f13 : w0.frozen? ⟨b, 13, none⟩ = false := by simp [World.frozen?, HBLK.out]
      clear hu
      go_upto_region 8 with fail
      obtain ⟨w2, hw2⟩ : ∃ w2, w2 = w0.setCell ⟨b, 13, none⟩ (.bool true) := ⟨_, rfl⟩
      rw [← hw2]
      have HE2 := Lib.hid (show RepE w2 S F { st with l := st.l.set i (redX x 18) } by rw [hw2]; exact ⟨I, M, _, rep_set (y := redX x 18) H0.out HX.out HB.out (redX_same _ _) (fun A c => rfl)⟩)
      have HM2 := Lib.hid (show Mods S w w2 by rw [hw2]; exact (Mods.of_below S HB0.out).setCell (p := ⟨b, 13, none⟩) (Or.inl HSB.out.1) (.bool true))
      have HZ2 := Lib.hid (show w2.heap[w.heap.size]? = some (.cells #[.string ⟨#[]⟩, .string ⟨#[]⟩, .string ⟨#[]⟩, .string ⟨#[]⟩, .string ⟨#[]⟩, .string ⟨#[]⟩, .string ⟨#[]⟩, .int .i64 0, .slice none 0 0, .int .i64 0, .int .i64 0] 36 (0, 0)) by rw [hw2]; exact (Below.heap_setCell _ _ _ _ (fun e => by simp only at e; omega)).trans HZ0.out)
      clear hw2 k13 f13 k1 k4 k11 k12 k14 hblk
      go_wp2_with (refine wpList_store_row rfl 36 (.tmp 12) (.tmp 38) rfl w.heap.size #[.string ⟨#[]⟩, .string ⟨#[]⟩, .string ⟨#[]⟩, .string ⟨#[]⟩, .string ⟨#[]⟩, .string ⟨#[]⟩, .string ⟨#[]⟩, .int .i64 0, .slice none 0 0, .int .i64 0, .int .i64 0] rfl rfl 36 _ HZ2.out (by kernel_rfl) rfl (by kernel_rfl) ?_)
      obtain ⟨y0, y1, y2, y3, y4, y5, y6, y7, y8, y9, y10⟩ := cells11 (setRow_heap w2 w.heap.size _ #[.string ⟨#[]⟩, .string ⟨#[]⟩, .string ⟨#[]⟩, .string ⟨#[]⟩, .string ⟨#[]⟩, .string ⟨#[]⟩, .string ⟨#[]⟩, .int .i64 0, .slice none 0 0, .int .i64 0, .int .i64 0] _ _ HZ2.out)
      refine bodyPost_ret (v := .tuple #[.agg #[.string ⟨#[]⟩, .string ⟨#[]⟩, .string ⟨#[]⟩, .string ⟨#[]⟩, .string ⟨#[]⟩, .string ⟨#[]⟩, .string ⟨#[]⟩, .int .i64 0, .slice none 0 0, .int .i64 0, .int .i64 0], .int .i64 18]) (by simp [results, Tryz.results17, go_sem, y0, y1, y2, y3, y4, y5, y6, y7, y8, y9, y10]) rfl ?_
      rw [setRow_self _ _ _ _ _ HZ2.out]
      exact red_fin (show _ = _ from HR.out) HE.out.lt HE2.out HM2.out
    | false =>
      rw [hu] at k12
      have HU := Lib.hid hu
      clear hu
      cases hd : x.drp with
      | true =>
        have HR := Lib.hid (HRB.out 25 (by unfold redE; rw [if_neg (by rw [HU.out]; decide), if_pos hd]) (by decide) (by decide) (by decide))
        rw [hd] at k14
        clear hd hblk
        go_wp2_with (refine wpList_store_row rfl 36 (.tmp 12) (.tmp 44) rfl w.heap.size #[.string ⟨#[]⟩, .string ⟨#[]⟩, .string ⟨#[]⟩, .string ⟨#[]⟩, .string ⟨#[]⟩, .string ⟨#[]⟩, .string ⟨#[]⟩, .int .i64 0, .slice none 0 0, .int .i64 0, .int .i64 0] rfl rfl 36 _ HZ0.out (by kernel_rfl) rfl (by kernel_rfl) ?_)
        obtain ⟨y0, y1, y2, y3, y4, y5, y6, y7, y8, y9, y10⟩ := cells11 (setRow_heap w0 w.heap.size _ #[.string ⟨#[]⟩, .string ⟨#[]⟩, .string ⟨#[]⟩, .string ⟨#[]⟩, .string ⟨#[]⟩, .string ⟨#[]⟩, .string ⟨#[]⟩, .int .i64 0, .slice none 0 0, .int .i64 0, .int .i64 0] _ _ HZ0.out)
        refine bodyPost_ret (v := .tuple #[.agg #[.string ⟨#[]⟩, .string ⟨#[]⟩, .string ⟨#[]⟩, .string ⟨#[]⟩, .string ⟨#[]⟩, .string ⟨#[]⟩, .string ⟨#[]⟩, .int .i64 0, .slice none 0 0, .int .i64 0, .int .i64 0], .int .i64 25]) (by simp [results, Tryz.results17, go_sem, y0, y1, y2, y3, y4, y5, y6, y7, y8, y9, y10]) rfl ?_
        rw [setRow_self _ _ _ _ _ HZ0.out]
        exact red_fin HR.out HE.out.lt HE0.out (Mods.of_below S HB0.out)
      | false =>
        rw [hd] at k14
        have HD := Lib.hid hd
        clear hd
        clear hblk
        by_cases q3 : x.fin ≤ limI now
        · have HR := Lib.hid (HRB.out 13 (by unfold redE; rw [if_neg (by rw [HU.out]; decide), if_neg (by rw [HD.out]; decide), if_pos q3]) (by decide) (by decide) (by decide))
          have d3 : decide (x.fin ≤ limI now) = true := decide_eq_true q3
          go_wp2_with fail
          go_quiet ((go_at_call 23; exact Calls.quiet_of_same (lim_q _ _)))
          obtain ⟨w1, hw1⟩ : ∃ w1, w1 = w0.drewN nq := ⟨_, rfl⟩
          rw [← hw1]
          have hb01 : Below w0.heap.size w0 w1 := by rw [hw1]; exact below_drewN (Below.refl _ _) _
          have HB1 := Lib.hid (HB0.out.trans (hb01.mono HB0.out.size))
          have H1 := Lib.hid (H0.out.below hb01)
          have HE1 := Lib.hid (HE0.out.below hb01)
          have HZ1 := Lib.hid ((hb01.block _ (blk_lt HZ0.out)).trans HZ0.out)
          have HBLK1 := Lib.hid ((hb01.block _ (blk_lt HBLK.out)).trans HBLK.out)
          have HSX1 := Lib.hid (HSX.out.below hb01)
          clear hw1 hb01 hr c1 k1 k4 k11 k12 k14
          have k1 := cell_block HBLK1.out 1
          have k4 := cell_block HBLK1.out 4
          have k12 := cell_block HBLK1.out 12
          simp only [List.getElem?_toArray, List.getElem?_cons_zero, List.getElem?_cons_succ] at k1 k4 k12
          go_wp2_with (refine wpList_store_row rfl 36 (.tmp 12) (.tmp 53) rfl w.heap.size #[.string ⟨#[]⟩, .string ⟨#[]⟩, .string ⟨#[]⟩, .string ⟨#[]⟩, .string ⟨#[]⟩, .string ⟨#[]⟩, .string ⟨#[]⟩, .int .i64 0, .slice none 0 0, .int .i64 0, .int .i64 0] rfl rfl 36 _ HZ1.out (by kernel_rfl) rfl (by kernel_rfl) ?_)
          obtain ⟨y0, y1, y2, y3, y4, y5, y6, y7, y8, y9, y10⟩ := cells11 (setRow_heap w1 w.heap.size _ #[.string ⟨#[]⟩, .string ⟨#[]⟩, .string ⟨#[]⟩, .string ⟨#[]⟩, .string ⟨#[]⟩, .string ⟨#[]⟩, .string ⟨#[]⟩, .int .i64 0, .slice none 0 0, .int .i64 0, .int .i64 0] _ _ HZ1.out)
          refine bodyPost_ret (v := .tuple #[.agg #[.string ⟨#[]⟩, .string ⟨#[]⟩, .string ⟨#[]⟩, .string ⟨#[]⟩, .string ⟨#[]⟩, .string ⟨#[]⟩, .string ⟨#[]⟩, .int .i64 0, .slice none 0 0, .int .i64 0, .int .i64 0], .int .i64 13]) (by simp [results, Tryz.results17, go_sem, y0, y1, y2, y3, y4, y5, y6, y7, y8, y9, y10]) rfl ?_
          rw [setRow_self _ _ _ _ _ HZ1.out]
          exact red_fin HR.out HE.out.lt HE1.out (Mods.of_below S HB1.out)
        · have HE3 := Lib.hid (show redE x c r (pv x.g) now = if c ≠ x.g.client then 11 else if r ≠ x.g.redirect then 2 else if pv x.g = false then 20 else 0 by unfold redE; rw [if_neg (by rw [HU.out]; decide), if_neg (by rw [HD.out]; decide), if_neg q3])
          have d3 : decide (x.fin ≤ limI now) = false := decide_eq_false q3
          go_wp2_with fail
          go_quiet ((go_at_call 23; exact Calls.quiet_of_same (lim_q _ _)))
          obtain ⟨w1, hw1⟩ : ∃ w1, w1 = w0.drewN nq := ⟨_, rfl⟩
          rw [← hw1]
          have hb01 : Below w0.heap.size w0 w1 := by rw [hw1]; exact below_drewN (Below.refl _ _) _
          have HB1 := Lib.hid (HB0.out.trans (hb01.mono HB0.out.size))
          have H1 := Lib.hid (H0.out.below hb01)
          have HE1 := Lib.hid (HE0.out.below hb01)
          have HZ1 := Lib.hid ((hb01.block _ (blk_lt HZ0.out)).trans HZ0.out)
          have HBLK1 := Lib.hid ((hb01.block _ (blk_lt HBLK.out)).trans HBLK.out)
          have HSX1 := Lib.hid (HSX.out.below hb01)
          clear hw1 hb01 hr c1 k1 k4 k11 k12 k14
          have k1 := cell_block HBLK1.out 1
          have k4 := cell_block HBLK1.out 4
          have k12 := cell_block HBLK1.out 12
          simp only [List.getElem?_toArray, List.getElem?_cons_zero, List.getElem?_cons_succ] at k1 k4 k12
          by_cases q4 : c = x.g.client
          · have HE4 := Lib.hid (show redE x c r (pv x.g) now = if r ≠ x.g.redirect then 2 else if pv x.g = false then 20 else 0 by rw [HE3.out, if_neg (by simpa using q4)])
            have p4 : (c.toList == x.g.client.toList) = true := by rw [beq_bs]; simpa using q4
            clear q4
            by_cases q5 : r = x.g.redirect
            · have HE5 := Lib.hid (show redE x c r (pv x.g) now = if pv x.g = false then 20 else 0 by rw [HE4.out, if_neg (by simpa using q5)])
              have p5 : (r.toList == x.g.redirect.toList) = true := by rw [beq_bs]; simpa using q5
              clear q5
              have f12 : w1.frozen? ⟨b, 12, none⟩ = false := by simp [World.frozen?, HBLK1.out]
              go_upto_region 18 with fail
              obtain ⟨w2, hw2⟩ : ∃ w2, w2 = w1.setCell ⟨b, 12, none⟩ (.bool true) := ⟨_, rfl⟩
              rw [← hw2]
              have HE2 := Lib.hid (show RepE w2 S F { st with l := st.l.set i { x with used := true } } by rw [hw2]; exact ⟨I, M, _, rep_set (y := { x with used := true }) H1.out HX.out HB.out ⟨rfl, rfl, rfl⟩ (fun A c => rfl)⟩)
              have HM2 := Lib.hid (show Mods S w w2 by rw [hw2]; exact (Mods.of_below S HB1.out).setCell (p := ⟨b, 12, none⟩) (Or.inl HSB.out.1) (.bool true))
              have HZ2 := Lib.hid (show w2.heap[w.heap.size]? = some (.cells #[.string ⟨#[]⟩, .string ⟨#[]⟩, .string ⟨#[]⟩, .string ⟨#[]⟩, .string ⟨#[]⟩, .string ⟨#[]⟩, .string ⟨#[]⟩, .int .i64 0, .slice none 0 0, .int .i64 0, .int .i64 0] 36 (0, 0)) by rw [hw2]; exact (Below.heap_setCell _ _ _ _ (fun e => by simp only at e; omega)).trans HZ1.out)
              have HB2 := Lib.hid (show w2.heap[b]? = some (.cells #[.string x.g.user, .string x.g.client, .string x.g.tenant, .string x.g.session, .string x.g.redirect, .string x.g.nonce, .string x.g.challenge, .int .i64 x.g.method, (.slice A x.g.scopes.length d), .int .i64 x.g.auth, .int .i64 x.g.level, .int .i64 x.fin, .bool true, .bool x.att, .bool x.drp] 66 (0, 0)) by rw [hw2]; exact heap_setCell_same _ _ 12 _ _ _ HBLK1.out)
              have HS2 := Lib.hid (show Ss w2 A x.g.scopes.length d x.g.scopes by rw [hw2]; exact ss_keep HSX1.out HIA.out (fun k e => Below.heap_setCell _ _ _ _ (fun e2 => HSB.out.2 (by subst e2; exact e))) (by simp [World.setCell]))
              have HZL := Lib.hid (show w.heap.size < w2.heap.size from Nat.lt_of_lt_of_le (blk_lt HZ2.out) (Nat.le_refl _))
              clear hw2 k1 k4 k12 f12
              have m0 := cell_block HB2.out 0
              have m1 := cell_block HB2.out 1
              have m2 := cell_block HB2.out 2
              have m3 := cell_block HB2.out 3
              have m4 := cell_block HB2.out 4
              have m5 := cell_block HB2.out 5
              have m6 := cell_block HB2.out 6
              have m7 := cell_block HB2.out 7
              have m8 := cell_block HB2.out 8
              have m9 := cell_block HB2.out 9
              have m10 := cell_block HB2.out 10
              simp only [List.getElem?_toArray, List.getElem?_cons_zero, List.getElem?_cons_succ] at m0 m1 m2 m3 m4 m5 m6 m7 m8 m9 m10
              go_wp2_with fail
              refine (HPV.out i x A x.g.scopes.length d w2 HX.out (fun k hk hn => HM2.out.block k hk hn)).mono ?_
              rintro e w3 ⟨rfl, hb3⟩
              have HB3 := Lib.hid hb3
              have HE3b := Lib.hid (HE2.out.below hb3)
              have HM3 := Lib.hid (HM2.out.below hb3)
              have HZ3 := Lib.hid ((hb3.block _ (blk_lt HZ2.out)).trans HZ2.out)
              have HX3 := Lib.hid ((hb3.block _ (blk_lt HB2.out)).trans HB2.out)
              have HS3 := Lib.hid (HS2.out.below hb3)
              clear hb3 m0 m1 m2 m3 m4 m5 m6 m7 m8 m9 m10
              cases q6 : pv x.g with
              | false =>
                have HR := Lib.hid (HRA.out 20 (by rw [HE5.out, if_pos q6]))
                clear q6
                go_wp2_with (refine wpList_store_row rfl 36 (.tmp 12) (.tmp 82) rfl w.heap.size #[.string ⟨#[]⟩, .string ⟨#[]⟩, .string ⟨#[]⟩, .string ⟨#[]⟩, .string ⟨#[]⟩, .string ⟨#[]⟩, .string ⟨#[]⟩, .int .i64 0, .slice none 0 0, .int .i64 0, .int .i64 0] rfl rfl 36 _ HZ3.out (by kernel_rfl) rfl (by kernel_rfl) ?_)
                obtain ⟨y0, y1, y2, y3, y4, y5, y6, y7, y8, y9, y10⟩ := cells11 (setRow_heap w3 w.heap.size _ #[.string ⟨#[]⟩, .string ⟨#[]⟩, .string ⟨#[]⟩, .string ⟨#[]⟩, .string ⟨#[]⟩, .string ⟨#[]⟩, .string ⟨#[]⟩, .int .i64 0, .slice none 0 0, .int .i64 0, .int .i64 0] _ _ HZ3.out)
                refine bodyPost_ret (v := .tuple #[.agg #[.string ⟨#[]⟩, .string ⟨#[]⟩, .string ⟨#[]⟩, .string ⟨#[]⟩, .string ⟨#[]⟩, .string ⟨#[]⟩, .string ⟨#[]⟩, .int .i64 0, .slice none 0 0, .int .i64 0, .int .i64 0], .int .i64 20]) (by simp [results, Tryz.results17, go_sem, y0, y1, y2, y3, y4, y5, y6, y7, y8, y9, y10]) rfl ?_
                rw [setRow_self _ _ _ _ _ HZ3.out]
                exact red_fin (show _ = _ from HR.out) HE.out.lt HE3b.out HM3.out
              | true =>
                have HR := Lib.hid (HRA.out 0 (by rw [HE5.out, if_neg (by rw [q6]; decide)]))
                clear q6
                have m0 := cell_block HX3.out 0
                have m1 := cell_block HX3.out 1
                have m2 := cell_block HX3.out 2
                have m3 := cell_block HX3.out 3
                have m4 := cell_block HX3.out 4
                have m5 := cell_block HX3.out 5
                have m6 := cell_block HX3.out 6
                have m7 := cell_block HX3.out 7
                have m8 := cell_block HX3.out 8
                have m9 := cell_block HX3.out 9
                have m10 := cell_block HX3.out 10
                simp only [List.getElem?_toArray, List.getElem?_cons_zero, List.getElem?_cons_succ] at m0 m1 m2 m3 m4 m5 m6 m7 m8 m9 m10
                go_upto_region 21 with fail
                obtain ⟨w4, hw4⟩ : ∃ w4, w4 = w3.alloc (.cells #[.string x.g.user, .string x.g.client, .string x.g.tenant, .string x.g.session, .string x.g.redirect, .string x.g.nonce, .string x.g.challenge, .int .i64 x.g.method, (.slice A x.g.scopes.length d), .int .i64 x.g.auth, .int .i64 x.g.level] 36) := ⟨_, rfl⟩
                rw [← hw4]
                have hb4 : Below w3.heap.size w3 w4 := by rw [hw4]; go_grown
                have HB4 := Lib.hid hb4
                have HX4 := Lib.hid (show w4.heap[w3.heap.size]? = some (.cells #[.string x.g.user, .string x.g.client, .string x.g.tenant, .string x.g.session, .string x.g.redirect, .string x.g.nonce, .string x.g.challenge, .int .i64 x.g.method, (.slice A x.g.scopes.length d), .int .i64 x.g.auth, .int .i64 x.g.level] 36 (0, 0)) by rw [hw4]; exact heap_alloc_new _ _)
                clear hw4 hb4 m0 m1 m2 m3 m4 m5 m6 m7 m8 m9 m10
                have m8 := cell_block HX4.out 8
                simp only [List.getElem?_toArray, List.getElem?_cons_zero, List.getElem?_cons_succ] at m8
                go_wp2_with fail
                refine (clone_any A x.g.scopes.length d x.g.scopes w4 (HS3.out.below HB4.out) (by have := HSX2.out.2; omega)).mono ?_
                rintro e w5 ⟨B', d', rfl, hown, hb5⟩
                have HOWN := Lib.hid hown
                have HB5 := Lib.hid hb5
                have HX5 := Lib.hid ((hb5.block _ (blk_lt HX4.out)).trans HX4.out)
                have f8 : w5.frozen? ⟨w3.heap.size, 8, none⟩ = false := by have := HX5.out; simp only [World.frozen?, this]; rfl
                clear hown hb5 m8
                have m8 := cell_block HX5.out 8
                simp only [List.getElem?_toArray, List.getElem?_cons_zero, List.getElem?_cons_succ] at m8
                go_upto_region 22 with fail
                obtain ⟨wb, hwb⟩ : ∃ wb, wb = w5.setCell ⟨w3.heap.size, 8, none⟩ (.slice B' x.g.scopes.length d') := ⟨_, rfl⟩
                rw [← hwb]
                have HXB := Lib.hid (show wb.heap[w3.heap.size]? = some (.cells #[.string x.g.user, .string x.g.client, .string x.g.tenant, .string x.g.session, .string x.g.redirect, .string x.g.nonce, .string x.g.challenge, .int .i64 x.g.method, (.slice B' x.g.scopes.length d'), .int .i64 x.g.auth, .int .i64 x.g.level] 36 (0, 0)) by rw [hwb]; exact heap_setCell_same _ _ 8 _ _ _ HX5.out)
                have HBB := Lib.hid (show Below w3.heap.size w3 wb by rw [hwb]; exact (HB4.out.trans (HB5.out.mono HB4.out.size)).setCell (by simp) _)
                have HZB := Lib.hid ((HBB.out.block _ (blk_lt HZ3.out)).trans HZ3.out)
                have HOB := Lib.hid (show Own1 wb w4.heap.size (.slice B' x.g.scopes.length d') x.g.scopes by rw [hwb]; exact ownsRow_setCell_below HOWN.out (by simp only; exact blk_lt HX4.out) _)
                clear hwb f8 m8
                have m0 := cell_block HXB.out 0
                have m1 := cell_block HXB.out 1
                have m2 := cell_block HXB.out 2
                have m3 := cell_block HXB.out 3
                have m4 := cell_block HXB.out 4
                have m5 := cell_block HXB.out 5
                have m6 := cell_block HXB.out 6
                have m7 := cell_block HXB.out 7
                have m8 := cell_block HXB.out 8
                have m9 := cell_block HXB.out 9
                have m10 := cell_block HXB.out 10
                simp only [List.getElem?_toArray, List.getElem?_cons_zero, List.getElem?_cons_succ] at m0 m1 m2 m3 m4 m5 m6 m7 m8 m9 m10
                have HRI := Lib.hid (redo_fin (show _ = _ from HR.out) HE.out.lt HE3b.out HM3.out HBB.out #[.string x.g.user, .string x.g.client, .string x.g.tenant, .string x.g.session, .string x.g.redirect, .string x.g.nonce, .string x.g.challenge, .int .i64 x.g.method, (.slice B' x.g.scopes.length d'), .int .i64 x.g.auth, .int .i64 x.g.level] (blk_lt HZ3.out) HOB.out HB4.out.size)
                go_wp2_with (refine wpList_store_row rfl 36 (.tmp 12) (.tmp 91) rfl w.heap.size #[.string x.g.user, .string x.g.client, .string x.g.tenant, .string x.g.session, .string x.g.redirect, .string x.g.nonce, .string x.g.challenge, .int .i64 x.g.method, (.slice B' x.g.scopes.length d'), .int .i64 x.g.auth, .int .i64 x.g.level] rfl rfl 36 _ HZB.out (by kernel_rfl) rfl (by simp [Value.oneCell']) ?_)
                obtain ⟨y0, y1, y2, y3, y4, y5, y6, y7, y8, y9, y10⟩ := cells11 (setRow_heap wb w.heap.size _ #[.string x.g.user, .string x.g.client, .string x.g.tenant, .string x.g.session, .string x.g.redirect, .string x.g.nonce, .string x.g.challenge, .int .i64 x.g.method, (.slice B' x.g.scopes.length d'), .int .i64 x.g.auth, .int .i64 x.g.level] _ _ HZB.out)
                refine bodyPost_ret (v := .tuple #[.agg #[.string x.g.user, .string x.g.client, .string x.g.tenant, .string x.g.session, .string x.g.redirect, .string x.g.nonce, .string x.g.challenge, .int .i64 x.g.method, (.slice B' x.g.scopes.length d'), .int .i64 x.g.auth, .int .i64 x.g.level], .int .i64 0]) (by simp [results, Tryz.results17, go_sem, y0, y1, y2, y3, y4, y5, y6, y7, y8, y9, y10]) rfl ?_
                exact HRI.out
            · have HR := Lib.hid (HRB.out 2 (by rw [HE4.out, if_pos q5]) (by decide) (by decide) (by decide))
              have p5 : (r.toList == x.g.redirect.toList) = false := by rw [beq_bs]; simpa using q5
              go_wp2_with (refine wpList_store_row rfl 36 (.tmp 12) (.tmp 71) rfl w.heap.size #[.string ⟨#[]⟩, .string ⟨#[]⟩, .string ⟨#[]⟩, .string ⟨#[]⟩, .string ⟨#[]⟩, .string ⟨#[]⟩, .string ⟨#[]⟩, .int .i64 0, .slice none 0 0, .int .i64 0, .int .i64 0] rfl rfl 36 _ HZ1.out (by kernel_rfl) rfl (by kernel_rfl) ?_)
              obtain ⟨y0, y1, y2, y3, y4, y5, y6, y7, y8, y9, y10⟩ := cells11 (setRow_heap w1 w.heap.size _ #[.string ⟨#[]⟩, .string ⟨#[]⟩, .string ⟨#[]⟩, .string ⟨#[]⟩, .string ⟨#[]⟩, .string ⟨#[]⟩, .string ⟨#[]⟩, .int .i64 0, .slice none 0 0, .int .i64 0, .int .i64 0] _ _ HZ1.out)
              refine bodyPost_ret (v := .tuple #[.agg #[.string ⟨#[]⟩, .string ⟨#[]⟩, .string ⟨#[]⟩, .string ⟨#[]⟩, .string ⟨#[]⟩, .string ⟨#[]⟩, .string ⟨#[]⟩, .int .i64 0, .slice none 0 0, .int .i64 0, .int .i64 0], .int .i64 2]) (by simp [results, Tryz.results17, go_sem, y0, y1, y2, y3, y4, y5, y6, y7, y8, y9, y10]) rfl ?_
              rw [setRow_self _ _ _ _ _ HZ1.out]
              exact red_fin HR.out HE.out.lt HE1.out (Mods.of_below S HB1.out)
          · have HR := Lib.hid (HRB.out 11 (by rw [HE3.out, if_pos q4]) (by decide) (by decide) (by decide))
            have p4 : (c.toList == x.g.client.toList) = false := by rw [beq_bs]; simpa using q4
            go_wp2_with (refine wpList_store_row rfl 36 (.tmp 12) (.tmp 62) rfl w.heap.size #[.string ⟨#[]⟩, .string ⟨#[]⟩, .string ⟨#[]⟩, .string ⟨#[]⟩, .string ⟨#[]⟩, .string ⟨#[]⟩, .string ⟨#[]⟩, .int .i64 0, .slice none 0 0, .int .i64 0, .int .i64 0] rfl rfl 36 _ HZ1.out (by kernel_rfl) rfl (by kernel_rfl) ?_)
            obtain ⟨y0, y1, y2, y3, y4, y5, y6, y7, y8, y9, y10⟩ := cells11 (setRow_heap w1 w.heap.size _ #[.string ⟨#[]⟩, .string ⟨#[]⟩, .string ⟨#[]⟩, .string ⟨#[]⟩, .string ⟨#[]⟩, .string ⟨#[]⟩, .string ⟨#[]⟩, .int .i64 0, .slice none 0 0, .int .i64 0, .int .i64 0] _ _ HZ1.out)
            refine bodyPost_ret (v := .tuple #[.agg #[.string ⟨#[]⟩, .string ⟨#[]⟩, .string ⟨#[]⟩, .string ⟨#[]⟩, .string ⟨#[]⟩, .string ⟨#[]⟩, .string ⟨#[]⟩, .int .i64 0, .slice none 0 0, .int .i64 0, .int .i64 0], .int .i64 11]) (by simp [results, Tryz.results17, go_sem, y0, y1, y2, y3, y4, y5, y6, y7, y8, y9, y10]) rfl ?_
            rw [setRow_self _ _ _ _ _ HZ1.out]
            exact red_fin HR.out HE.out.lt HE1.out (Mods.of_below S HB1.out)
end Go.Proofs.YtioabjniipkncaaGreatDoor.Rc
