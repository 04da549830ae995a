/-
  The reference: copied, Pending, Approve.
-/
import Derived.Test.YtapooonlbjgbgaaDoorDvXe
namespace Go.Proofs.YtapooonlbjgbgaaDoor.Dv
open Go.RowKit Go.Proofs.YtapooonlbjgbgaaDoor.Fo Go.Proofs.YtapooonlbjgbgaaDoor.Rf

theorem below_nil {w w1 : World} (hg : w.grownBy w1 none) : Below w.heap.size w w1 := by
  obtain ⟨h1, h2, h3, h4, h5⟩ := hg
  exact ⟨h1, h2, h3, h4, fun k hk => h5 k hk (fun e => by cases e)⟩
theorem below_new {w w1 : World} {o : Obj} (hb : Below w.heap.size w (w.alloc o)) (hg : (w.alloc o).grownBy w1 (some w.heap.size)) : Below w.heap.size w w1 := by
  obtain ⟨h1, h2, h3, h4, h5⟩ := hg
  exact ⟨h1.trans hb.os, h2.trans hb.tape, h3.trans hb.output, Nat.le_trans hb.size h4, fun k hk => (h5 k (Nat.lt_of_lt_of_le hk hb.size) (fun e => by injection e with e; omega)).trans (hb.block k hk)⟩
set_option maxRecDepth 100000 in
set_option maxHeartbeats 4000000 in
theorem copied_any (w : World) (g : Gr) (A : Option Addr) (c : Nat) (hs : Ss w A g.scopes.length c g.scopes) (hn : g.scopes.length ≤ 100000) :
    Calls Tryd.prog 63 #[.agg #[.string g.user, .string g.client, .string g.tenant, .string g.session, .string g.redirect, .string g.nonce, .string g.challenge, .int .i64 g.method, .slice A g.scopes.length c, .int .i64 g.auth, .int .i64 g.level]] w fun e w' => ∃ B d, e = .returned (.agg #[.string g.user, .string g.client, .string g.tenant, .string g.session, .string g.redirect, .string g.nonce, .string g.challenge, .int .i64 g.method, .slice B g.scopes.length d, .int .i64 g.auth, .int .i64 g.level]) ∧ Fresh w' w.heap.size B d g.scopes ∧ Below w.heap.size w w' := by
  obtain ⟨w0, hw0⟩ : ∃ w0, w0 = (w.alloc (.cells #[.string g.user, .string g.client, .string g.tenant, .string g.session, .string g.redirect, .string g.nonce, .string g.challenge, .int .i64 g.method, .slice A g.scopes.length c, .int .i64 g.auth, .int .i64 g.level] 39)).alloc (.cells #[.string ⟨#[]⟩, .string ⟨#[]⟩, .string ⟨#[]⟩, .string ⟨#[]⟩, .string ⟨#[]⟩, .string ⟨#[]⟩, .string ⟨#[]⟩, .int .i64 0, .slice none 0 0, .int .i64 0, .int .i64 0] 39) := ⟨_, rfl⟩
  have HB0 := Lib.hid (show Below w.heap.size w w0 by rw [hw0]; go_grown)
  have HX := Lib.hid (show w0.heap[w.heap.size]? = some (.cells #[.string g.user, .string g.client, .string g.tenant, .string g.session, .string g.redirect, .string g.nonce, .string g.challenge, .int .i64 g.method, .slice A g.scopes.length c, .int .i64 g.auth, .int .i64 g.level] 39 (0, 0)) by rw [hw0, Below.heap_alloc _ _ _ (by simp)]; exact heap_alloc_new _ _)
  have HY := Lib.hid (show w0.heap[w.heap.size + 1]? = some (.cells #[.string ⟨#[]⟩, .string ⟨#[]⟩, .string ⟨#[]⟩, .string ⟨#[]⟩, .string ⟨#[]⟩, .string ⟨#[]⟩, .string ⟨#[]⟩, .int .i64 0, .slice none 0 0, .int .i64 0, .int .i64 0] 39 (0, 0)) by
    rw [hw0]
    have e : w.heap.size + 1 = (w.alloc (.cells #[.string g.user, .string g.client, .string g.tenant, .string g.session, .string g.redirect, .string g.nonce, .string g.challenge, .int .i64 g.method, .slice A g.scopes.length c, .int .i64 g.auth, .int .i64 g.level] 39)).heap.size := by simp
    rw [e]; exact heap_alloc_new _ _)
  have HSS := Lib.hid (hs.below HB0.out)
  clear hs
  go_enter Tryd.func63, Tryd.ntmps63
  go_upto_region 1 with fail
  rw [← hw0]
  clear hw0
  have k8 := cell_block HX.out 8
  simp only [List.getElem?_toArray, List.getElem?_cons_zero, List.getElem?_cons_succ] at k8
  have hbE : Below w0.heap.size w0 (w0.alloc (.cells #[] 9)) := by go_grown
  have HBE := Lib.hid hbE
  have HSE := Lib.hid (HSS.out.below hbE)
  have HOE := Lib.hid (own1_empty w0 w0.heap.size (Nat.le_refl _))
  have k8e := cell_block (blk_below hbE HX.out) 8
  simp only [List.getElem?_toArray, List.getElem?_cons_zero, List.getElem?_cons_succ] at k8e
  clear hbE
  go_upto_region 2 with ((with_reducible refine at_dst 6 ?_); go_must (refine wpList_app1 rfl (.tmp 3) (.tmp 5) rfl w0.heap.size (by simp) (.slice (some ⟨w0.heap.size, 0, none⟩) 0 0) [] rfl HOE.out A g.scopes.length c g.scopes rfl HSE.out (by simpa using hn) ?_); intro v1 w1 hown0 hgrow hblk; rw [List.nil_append] at hown0; obtain ⟨B, d, rfl⟩ := hown0.form; have HOW := Lib.hid hown0; have HGR := Lib.hid (below_new HBE.out hgrow); clear hown0 hgrow hblk; have k8 := cell_block (blk_below HGR.out HX.out) 8; simp only [List.getElem?_toArray, List.getElem?_cons_zero, List.getElem?_cons_succ] at k8; have f8 : w1.frozen? ⟨w.heap.size, 8, none⟩ = false := (by have := (blk_below HGR.out HX.out); simp only [World.frozen?, this]; rfl))
  have hown : Own1 w1 w0.heap.size (.slice B g.scopes.length d) g.scopes := HOW.out
  have hb : Below w0.heap.size w0 w1 := HGR.out
  have HF := Lib.hid (fresh_of hown)
  have HX1 := Lib.hid (blk_below hb HX.out)
  have HY1 := Lib.hid (blk_below hb HY.out)
  have HB1 := Lib.hid (HB0.out.trans (hb.mono HB0.out.size))
  clear hown hb
  obtain ⟨w2, hw2⟩ : ∃ w2, w2 = w1.setCell ⟨w.heap.size, 8, none⟩ (.slice B g.scopes.length d) := ⟨_, rfl⟩
  rw [← hw2]
  have HX2 := Lib.hid (show w2.heap[w.heap.size]? = some (.cells #[.string g.user, .string g.client, .string g.tenant, .string g.session, .string g.redirect, .string g.nonce, .string g.challenge, .int .i64 g.method, .slice B g.scopes.length d, .int .i64 g.auth, .int .i64 g.level] 39 (0, 0)) by rw [hw2]; exact heap_setCell_same _ _ 8 _ _ _ HX1.out)
  have HY2 := Lib.hid (show w2.heap[w.heap.size + 1]? = some (.cells #[.string ⟨#[]⟩, .string ⟨#[]⟩, .string ⟨#[]⟩, .string ⟨#[]⟩, .string ⟨#[]⟩, .string ⟨#[]⟩, .string ⟨#[]⟩, .int .i64 0, .slice none 0 0, .int .i64 0, .int .i64 0] 39 (0, 0)) by rw [hw2]; exact (Below.heap_setCell _ _ _ _ (by simp)).trans HY1.out)
  have HB2 := Lib.hid (show Below w.heap.size w w2 by rw [hw2]; exact HB1.out.setCell (Nat.le_refl _) _)
  have HK2 := Lib.hid (show ∀ k, k ≠ w.heap.size → w2.heap[k]? = w1.heap[k]? from fun k hk => by rw [hw2]; exact Below.heap_setCell _ _ _ _ hk)
  have HZ2 := Lib.hid (show w1.heap.size = w2.heap.size by rw [hw2]; simp only [sc_size])
  have HZ0 := Lib.hid (show w.heap.size + 1 < w0.heap.size from blk_lt HY.out)
  clear hw2 k8 f8
  obtain ⟨y0, y1, y2, y3, y4, y5, y6, y7, y8, y9, y10⟩ := cells11 HX2.out
  go_wp2_with (refine wpList_store_row rfl 39 (.tmp 2) (.tmp 8) rfl (w.heap.size + 1) #[.string g.user, .string g.client, .string g.tenant, .string g.session, .string g.redirect, .string g.nonce, .string g.challenge, .int .i64 g.method, .slice B g.scopes.length d, .int .i64 g.auth, .int .i64 g.level] rfl rfl 39 _ HY2.out (by kernel_rfl) rfl (by simp [Value.oneCell']) ?_)
  obtain ⟨z0, z1, z2, z3, z4, z5, z6, z7, z8, z9, z10⟩ := cells11 (setRow_heap w2 (w.heap.size + 1) _ #[.string g.user, .string g.client, .string g.tenant, .string g.session, .string g.redirect, .string g.nonce, .string g.challenge, .int .i64 g.method, .slice B g.scopes.length d, .int .i64 g.auth, .int .i64 g.level] _ _ HY2.out)
  refine bodyPost_ret (v := .agg #[.string g.user, .string g.client, .string g.tenant, .string g.session, .string g.redirect, .string g.nonce, .string g.challenge, .int .i64 g.method, .slice B g.scopes.length d, .int .i64 g.auth, .int .i64 g.level]) (by simp [results, Tryd.results63, go_sem, z0, z1, z2, z3, z4, z5, z6, z7, z8, z9, z10]) rfl ?_
  refine ⟨B, d, rfl, ⟨?_, fun a ha hn => by have := HF.out.2 a ha hn; have := HZ0.out; omega⟩, below_setRow HB2.out (by omega) _⟩
  refine ss_keep (S := fun k => w0.heap.size ≤ k) HF.out.1 (fun a ha hn => HF.out.2 a ha hn) (fun k hk => ?_) (by rw [setRow_size]; have := HZ2.out; omega)
  have := HZ0.out
  exact (setRow_other _ _ _ _ (by omega)).trans (HK2.out k (by omega))
set_option maxRecDepth 100000 in
set_option maxHeartbeats 4000000 in
theorem rpen_any {w : World} {S : Nat → Prop} {G : Nat} {st : Fs} (h : RefE w S G st) (u : Bs) (hu : u.size ≤ 100000) (now : Int) {r : Bs × List Bs × Int} (hq : pen st u now = r) :
    Calls Tryd.prog 20 #[.pointer (some ⟨G, 0, none⟩), .string u, .int .i64 now] w (PenIs w r) := by
  have HE := Lib.hid h
  unfold pen at hq
  split at hq
  · next i x er hf =>
    have HQ := Lib.hid hq.symm
    have HV := Lib.hid (show opV (fnF st u now) = ((i : Int), 0) by rw [hf]; rfl)
    obtain ⟨hx, _⟩ := fn_hit hf
    have HX := Lib.hid hx
    clear h hf hx hq
    go_enter Tryd.func20, Tryd.ntmps20
    go_wp2_with fail
    refine (ropen_any HE.out u hu now HV.out).mono ?_
    rintro e w1 ⟨rfl, hb⟩
    obtain ⟨I, rv, es, h⟩ := HE.out.below hb
    have HB := Lib.hid hb
    have hle : es.length ≤ 256 := by rw [h.len]; exact h.inv.len
    have hil : i < es.length := by have := (List.getElem?_eq_some_iff.1 HX.out).1; have := h.len; omega
    obtain ⟨e, he⟩ : ∃ e, es[i]? = some e := ⟨_, List.getElem?_eq_getElem hil⟩
    have hex : e.1 = x := Option.some.inj ((h.get he).symm.trans HX.out)
    have HSC := Lib.hid (h.sc e (List.mem_of_getElem? he)).1
    have hsn : e.1.scopes.length ≤ 16 := (h.inv.sc e.1 (List.mem_of_getElem? (h.get he))).2
    have HGL := Lib.hid (blk_lt h.hG)
    obtain ⟨A, c, rfl⟩ := h.own.len
    have c2 := cell_block h.hG 2
    simp only [List.getElem?_toArray, List.getElem?_cons_zero, List.getElem?_cons_succ] at c2
    obtain ⟨g, rfl, hg, hc⟩ := h.own.at he
    have k3 := hc 3 _ rfl
    have HK2 := Lib.hid (hc 2 _ rfl)
    have HC2 := Lib.hid c2
    have HGG := Lib.hid hg
    have HEX := Lib.hid hex
    clear hb hc he hex h hg
    go_upto_region 6 with ((with_reducible refine at_dst 31 ?_); go_must (refine wpList_app1 rfl (.tmp 22) (.tmp 30) rfl w1.heap.size (Nat.le_refl _) (.slice none 0 0) [] rfl (Own1.nil _ _) e.2.1 e.1.scopes.length e.2.2.1 e.1.scopes rfl HSC.out (by simp; omega) ?_); intro v2 w2 hown hgrow hblk; rw [List.nil_append] at hown; obtain ⟨B, d, rfl⟩ := hown.form; have HOW := Lib.hid hown; have HGR := Lib.hid (below_nil hgrow); clear hown hgrow hblk)
    have c2' := (bkeep HGR.out HGL.out _).trans HC2.out
    have k2' := (bkeep HGR.out HGG.out _).trans HK2.out
    clear c2 k3
    go_wp2
    go_ret3
    rw [HQ.out, ← HEX.out]
    exact ⟨B, d, rfl, (fresh_of HOW.out).mono HB.out.size, HB.out.trans (HGR.out.mono HB.out.size)⟩
  · next er hf =>
    have HQ := Lib.hid hq.symm
    have HV := Lib.hid (show opV (fnF st u now) = (-1, er) by rw [hf]; rfl)
    have hne := fn_err hf
    have hneb : (er == 0) = false := beq_eq_false_iff_ne.2 hne
    clear h hf hq
    go_enter Tryd.func20, Tryd.ntmps20
    go_wp2_with fail
    refine (ropen_any HE.out u hu now HV.out).mono ?_
    rintro e w1 ⟨rfl, hb⟩
    have HB := Lib.hid hb
    clear hb
    go_wp2
    go_ret3
    rw [HQ.out]
    exact ⟨none, 0, rfl, fresh_nil _ _, HB.out⟩
end Go.Proofs.YtapooonlbjgbgaaDoor.Dv
