/-
  The reference: Poll.
-/
import Derived.Test.YtapooonlbjgbgaaDoorDvXl
import Derived.Deep.MidRow
namespace Go.Proofs.YtapooonlbjgbgaaDoor.Dv
open Go.RowKit Go.Proofs.YtapooonlbjgbgaaDoor.Fo Go.Proofs.YtapooonlbjgbgaaDoor.Rf

/-- A grant and an error come back, the reference's flows have turned. -/
def RPolIs (w : World) (S : Nat → Prop) (G : Nat) (r : Fs × (Gr × Int)) (e : Ending) (w' : World) : Prop :=
  ∃ A d, e = .returned (.tuple #[.agg #[.string r.2.1.user, .string r.2.1.client, .string r.2.1.tenant, .string r.2.1.session, .string r.2.1.redirect, .string r.2.1.nonce, .string r.2.1.challenge, .int .i64 r.2.1.method, .slice A r.2.1.scopes.length d, .int .i64 r.2.1.auth, .int .i64 r.2.1.level], .int .i64 r.2.2]) ∧ Fresh w' w.heap.size A d r.2.1.scopes ∧ RefE w' S G r.1 ∧ Mods S w w'
theorem rpol_fin {w wb : World} {S : Nat → Prop} {G : Nat} {st' : Fs} {k : Int} {r : Fs × (Gr × Int)} (hr : r = (st', (noG, k))) (hlt : ∀ k, S k → k < w.heap.size) (h : RefE wb S G st') (hm : Mods S w wb) (cs : Array Value) : RPolIs w S G r (.returned (.tuple #[.agg #[.string ⟨#[]⟩, .string ⟨#[]⟩, .string ⟨#[]⟩, .string ⟨#[]⟩, .string ⟨#[]⟩, .string ⟨#[]⟩, .string ⟨#[]⟩, .int .i64 0, .slice none 0 0, .int .i64 0, .int .i64 0], .int .i64 k])) (wb.setRow w.heap.size cs) := by
  subst hr
  exact ⟨none, 0, rfl, fresh_nil _ _, h.keep (fun _ e => e) (fun k hk => setRow_other wb w.heap.size k cs (by have := hlt k hk; omega)) (by rw [setRow_size]; exact Nat.le_refl _) (fun k hk => by rw [setRow_size]; exact h.lt k hk), ⟨hm.os, hm.tape, hm.output, by rw [setRow_size]; exact hm.size, fun k hk hn => (setRow_other wb w.heap.size k cs (by omega)).trans (hm.block k hk hn)⟩⟩
theorem rpol_done {w wa wb : World} {S : Nat → Prop} {G : Nat} {st' : Fs} {g : Gr} {r : Fs × (Gr × Int)} {B : Option Addr} {d : Nat} (hr : r = (st', (g, 0))) (hlt : ∀ k, S k → k < w.heap.size) (h : RefE wa S G st') (hm : Mods S w wa) (hz : w.heap.size < wa.heap.size) (hb : Below wa.heap.size wa wb) (hf : Fresh wb wa.heap.size B d g.scopes) (cs : Array Value) :
    RPolIs w S G r (.returned (.tuple #[.agg #[.string g.user, .string g.client, .string g.tenant, .string g.session, .string g.redirect, .string g.nonce, .string g.challenge, .int .i64 g.method, .slice B g.scopes.length d, .int .i64 g.auth, .int .i64 g.level], .int .i64 0])) (wb.setRow w.heap.size cs) := by
  subst hr
  have hbz := hb.size
  have h1 := hm.below hb
  refine ⟨B, d, rfl, ⟨ss_keep (S := fun k => wa.heap.size ≤ k) hf.1 (fun a ha hn => hf.2 a ha hn) (fun k hk => setRow_other wb w.heap.size k cs (by omega)) (by rw [setRow_size]; exact Nat.le_refl _), fun a ha hn => by have := hf.2 a ha hn; omega⟩, h.keep (fun _ e => e) (fun k hk => (setRow_other wb w.heap.size k cs (by have := hlt k hk; omega)).trans (hb.block k (h.lt k hk))) (by rw [setRow_size]; exact hbz) (fun k hk => by rw [setRow_size]; have := h.lt k hk; omega), ⟨h1.os, h1.tape, h1.output, by rw [setRow_size]; exact h1.size, fun k hk hn => (setRow_other wb w.heap.size k cs (by omega)).trans (h1.block k hk hn)⟩⟩
/-- One more cell of a flow is written. -/
theorem ref_cell2 {w : World} {S I : Nat → Prop} {G g c i j : Nat} {st : Fs} {cap0 cap : Int} {es : List FwE} {x y : Fw} {p : Option Addr × Nat × Option Addr × Nat} {u : Value} (h : RefP w S I G { st with cap := cap0, l := st.l.set i x } (.slice (some ⟨g, 0, none⟩) es.length c) (es.set i (x, p))) (hi : i < es.length) (hj : j < 20) (hs : (fl20 (x, p)).set j u = fl20 (y, p)) (h1 : y.scopes = x.scopes) (h2 : y.g = x.g) (hinv : Inv { st with cap := cap, l := st.l.set i y }) :
    RefP (w.setCell ⟨g, i * 20 + j, none⟩ u) S I G { st with cap := cap, l := st.l.set i y } (.slice (some ⟨g, 0, none⟩) es.length c) (es.set i (y, p)) := by
  have he : (es.set i (x, p))[i]? = some (x, p) := by rw [List.getElem?_set, if_pos rfl, if_pos hi]
  have hlen : es.length = (es.set i (x, p)).length := by simp
  rw [hlen] at h
  have := ref_cell (cap := cap) (y := y) h he hj hs h1 h2 (by simpa using hinv)
  rw [List.set_set, ← hlen] at this
  simpa using this
theorem ofV_some {l : List Fw} {d : Bs} {i : Nat} (h : cdI l d = some i) : ofV l d = (i : Int) := by unfold ofV; rw [h]
theorem ofV_none {l : List Fw} {d : Bs} (h : cdI l d = none) : ofV l d = -1 := by unfold ofV; rw [h]
set_option maxRecDepth 100000 in
set_option maxHeartbeats 8000000 in
theorem rpol_any {w : World} {S : Nat → Prop} {G : Nat} {st : Fs} (h : RefE w S G st) (d c : Bs) (now : Int) (hcap : st.cap ≤ 576460752303423488) {r : Fs × (Gr × Int)} (hq : pol st d c now = r) :
    Calls Tryd.prog 27 #[.pointer (some ⟨G, 0, none⟩), .string d, .string c, .int .i64 now] w (RPolIs w S G r) := by
  obtain ⟨w0, hw0⟩ : ∃ w0, w0 = w.alloc (.cells #[.string ⟨#[]⟩, .string ⟨#[]⟩, .string ⟨#[]⟩, .string ⟨#[]⟩, .string ⟨#[]⟩, .string ⟨#[]⟩, .string ⟨#[]⟩, .int .i64 0, .slice none 0 0, .int .i64 0, .int .i64 0] 39) := ⟨_, rfl⟩
  have HB0 := Lib.hid (show Below w.heap.size w w0 by rw [hw0]; go_grown)
  have HZ0 := Lib.hid (show w0.heap[w.heap.size]? = some (.cells #[.string ⟨#[]⟩, .string ⟨#[]⟩, .string ⟨#[]⟩, .string ⟨#[]⟩, .string ⟨#[]⟩, .string ⟨#[]⟩, .string ⟨#[]⟩, .int .i64 0, .slice none 0 0, .int .i64 0, .int .i64 0] 39 (0, 0)) by rw [hw0]; exact heap_alloc_new _ _)
  have HE := Lib.hid h
  have HE0 := Lib.hid (h.below HB0.out)
  clear h
  cases hi : cdI st.l d with
  | none =>
    have HR := Lib.hid (hq.symm.trans (pol_none (c := c) (now := now) hi))
    have HOF := Lib.hid (ofV_none hi)
    clear hi hq
    go_enter Tryd.func27, Tryd.ntmps27
    go_upto_region 1 with fail
    rw [← hw0]
    clear hw0
    go_wp2_with fail
    refine (made_yes HE0.out).mono ?_
    rintro e wx ⟨rfl, rfl⟩
    go_wp2_with fail
    refine (of_any HE0.out d HOF.out).mono ?_
    rintro e wx ⟨rfl, rfl⟩
    go_wp2_with (refine wpList_store_row rfl 39 (.tmp 8) (.tmp 21) rfl w.heap.size #[.string ⟨#[]⟩, .string ⟨#[]⟩, .string ⟨#[]⟩, .string ⟨#[]⟩, .string ⟨#[]⟩, .string ⟨#[]⟩, .string ⟨#[]⟩, .int .i64 0, .slice none 0 0, .int .i64 0, .int .i64 0] rfl rfl 39 _ HZ0.out (by kernel_rfl) rfl (by kernel_rfl) ?_)
    obtain ⟨y0, y1, y2, y3, y4, y5, y6, y7, y8, y9, y10⟩ := cells11 (setRow_heap w0 w.heap.size _ #[.string ⟨#[]⟩, .string ⟨#[]⟩, .string ⟨#[]⟩, .string ⟨#[]⟩, .string ⟨#[]⟩, .string ⟨#[]⟩, .string ⟨#[]⟩, .int .i64 0, .slice none 0 0, .int .i64 0, .int .i64 0] _ _ HZ0.out)
    refine bodyPost_ret (v := .tuple #[.agg #[.string ⟨#[]⟩, .string ⟨#[]⟩, .string ⟨#[]⟩, .string ⟨#[]⟩, .string ⟨#[]⟩, .string ⟨#[]⟩, .string ⟨#[]⟩, .int .i64 0, .slice none 0 0, .int .i64 0, .int .i64 0], .int .i64 6]) (by simp [results, Tryd.results27, go_sem, y0, y1, y2, y3, y4, y5, y6, y7, y8, y9, y10]) rfl ?_
    exact rpol_fin HR.out HE.out.lt HE0.out (Mods.of_below S HB0.out) _
  | some i =>
    obtain ⟨x, hx, _⟩ := cdI_some hi
    have HOF := Lib.hid (ofV_some hi)
    have HX := Lib.hid hx
    have HRB := Lib.hid (fun (k : Int) (hk : poE x c now = k) (h1 : k = 11 ∨ k = 13) => hq.symm.trans (pol_bad hi hx hk h1))
    have HRM := Lib.hid (fun (k : Int) (hk : poE x c now = k) h1 => hq.symm.trans (pol_mid hi hx hk h1))
    have HRO := Lib.hid (fun (hk : poE x c now = 0) => hq.symm.trans (pol_ok hi hx hk))
    obtain ⟨I, rv, es, h⟩ := HE0.out
    have hle : es.length ≤ 256 := by rw [h.len]; exact h.inv.len
    have hil : i < es.length := by have := (List.getElem?_eq_some_iff.1 hx).1; have := h.len; omega
    obtain ⟨e, he⟩ : ∃ e, es[i]? = some e := ⟨_, List.getElem?_eq_getElem hil⟩
    have hex : e.1 = x := Option.some.inj ((h.get he).symm.trans hx)
    obtain ⟨x', sA, sC, tA, tC⟩ := e
    simp only at hex
    subst hex
    rename Fw => x
    obtain ⟨A, ca, rfl⟩ := h.own.len
    have c2 := cell_block h.hG 2
    simp only [List.getElem?_toArray, List.getElem?_cons_zero, List.getElem?_cons_succ] at c2
    obtain ⟨g, rfl, hg, hc2⟩ := h.own.at he
    have HRG := Lib.hid (show w0.rangeAt g (i * 20) (fl20 ((x, sA, sC, tA, tC) : FwE)) from fun j u hj => hc2 j u hj)
    have HEL := Lib.hid he
    have HP0 := Lib.hid h
    clear hi hx hq h he hc2 hg
    go_enter Tryd.func27, Tryd.ntmps27
    go_upto_region 1 with fail
    rw [← hw0]
    clear hw0
    go_wp2_with fail
    refine (made_yes HE0.out).mono ?_
    rintro e wx ⟨rfl, rfl⟩
    go_wp2_with fail
    refine (of_any HE0.out d HOF.out).mono ?_
    rintro e wx ⟨rfl, rfl⟩
    go_upto_region 7 with (first | ((with_reducible refine at_dst 28 ?_); refine wpList_load_mid rfl 86 (.tmp 27) rfl g (i * 20) rfl (fl20 ((x, sA, sC, tA, tC) : FwE)) _ HRG.out rfl rfl (by kernel_rfl) ?_) | (refine wpList_store_row rfl 86 (.tmp 11) (.tmp 28) rfl w0.heap.size (fl20 ((x, sA, sC, tA, tC) : FwE)).toArray rfl rfl 86 _ (heap_alloc_new _ _) (by kernel_rfl) rfl (all_oneCell_toArray (fl20_one ((x, sA, sC, tA, tC) : FwE))) ?_))
    obtain ⟨w1, hw1⟩ : ∃ w1, w1 = (w0.alloc (.cells #[.string ⟨#[]⟩, .string ⟨#[]⟩, .string ⟨#[]⟩, .slice none 0 0, .int .i64 0, .int .i64 0, .int .i64 0, .int .i64 0, .bool false, .string ⟨#[]⟩, .string ⟨#[]⟩, .string ⟨#[]⟩, .string ⟨#[]⟩, .string ⟨#[]⟩, .string ⟨#[]⟩, .string ⟨#[]⟩, .int .i64 0, .slice none 0 0, .int .i64 0, .int .i64 0] 86)).setRow w0.heap.size (fl20 ((x, sA, sC, tA, tC) : FwE)).toArray := ⟨_, rfl⟩
    rw [← hw1]
    have HB1 := Lib.hid (show Below w0.heap.size w0 w1 by rw [hw1]; exact below_setRow (by go_grown) (Nat.le_refl _) _)
    have hx1 : w1.heap[w0.heap.size]? = some (.cells (fl20 ((x, sA, sC, tA, tC) : FwE)).toArray 86 (0, 0)) := by rw [hw1]; exact setRow_heap _ _ _ _ _ _ (heap_alloc_new _ _)
    have HX1 := Lib.hid hx1
    clear hw1 hx1 c2
    have y2 := cell_block HX1.out 2
    simp only [fl20, List.getElem?_toArray, List.getElem?_cons_zero, List.getElem?_cons_succ] at y2
    have HZ1 := Lib.hid (blk_below HB1.out HZ0.out)
    have HE1 := Lib.hid (HE0.out.below HB1.out)
    have HP1 := Lib.hid (HP0.out.below HB1.out)
    have HBA := Lib.hid (HB0.out.trans (HB1.out.mono HB0.out.size))
    by_cases hcl : c = x.client
    · have hcb : (x.client.toList == c.toList) = true := by rw [beq_bs]; simpa using hcl.symm
      have hcb2 : x.client.toList = c.toList := by rw [hcl]
      have HCL := Lib.hid hcl
      clear hcl
      cases hxp : expd now x with
      | true => as_aux_lemma =>
        have HXP := Lib.hid hxp
        have HR := Lib.hid (HRB.out 13 (by unfold poE; rw [if_neg (by simpa using HCL.out), if_pos hxp]) (Or.inr rfl))
        clear hxp
        go_wp2_with ((with_reducible refine at_dst 34 ?_); refine wpList_load_row rfl 86 (.tmp 11) rfl w0.heap.size rfl 86 (fl20 ((x, sA, sC, tA, tC) : FwE)).toArray (0, 0) _ HX1.out rfl rfl (by kernel_rfl) ?_)
        refine (rexp_any ((x, sA, sC, tA, tC) : FwE) now w1 (b := true) HXP.out).mono ?_
        rintro r2 w2 ⟨rfl, hb⟩
        have HB2 := Lib.hid (HBA.out.trans (hb.mono HBA.out.size))
        have HX2 := Lib.hid (blk_below hb HX1.out)
        have HZ2 := Lib.hid (blk_below hb HZ1.out)
        have HP2 := Lib.hid (HP1.out.below hb)
        clear hb y2
        go_wp2_with (refine wpList_store_row rfl 39 (.tmp 8) (.tmp 37) rfl w.heap.size #[.string ⟨#[]⟩, .string ⟨#[]⟩, .string ⟨#[]⟩, .string ⟨#[]⟩, .string ⟨#[]⟩, .string ⟨#[]⟩, .string ⟨#[]⟩, .int .i64 0, .slice none 0 0, .int .i64 0, .int .i64 0] rfl rfl 39 _ HZ2.out (by kernel_rfl) rfl (by kernel_rfl) ?_)
        obtain ⟨y0, y1, y2, y3, y4, y5, y6, y7, y8, y9, y10⟩ := cells11 (setRow_heap w2 w.heap.size _ #[.string ⟨#[]⟩, .string ⟨#[]⟩, .string ⟨#[]⟩, .string ⟨#[]⟩, .string ⟨#[]⟩, .string ⟨#[]⟩, .string ⟨#[]⟩, .int .i64 0, .slice none 0 0, .int .i64 0, .int .i64 0] _ _ HZ2.out)
        refine bodyPost_ret (v := .tuple #[.agg #[.string ⟨#[]⟩, .string ⟨#[]⟩, .string ⟨#[]⟩, .string ⟨#[]⟩, .string ⟨#[]⟩, .string ⟨#[]⟩, .string ⟨#[]⟩, .int .i64 0, .slice none 0 0, .int .i64 0, .int .i64 0], .int .i64 13]) (by simp [results, Tryd.results27, go_sem, y0, y1, y2, y3, y4, y5, y6, y7, y8, y9, y10]) rfl ?_
        exact rpol_fin HR.out HE.out.lt ⟨I, _, es, HP2.out⟩ (Mods.of_below S HB2.out) _
      | false =>
        have HXP := Lib.hid hxp
        clear hxp
        go_wp2_with ((with_reducible refine at_dst 34 ?_); refine wpList_load_row rfl 86 (.tmp 11) rfl w0.heap.size rfl 86 (fl20 ((x, sA, sC, tA, tC) : FwE)).toArray (0, 0) _ HX1.out rfl rfl (by kernel_rfl) ?_)
        refine (rexp_any ((x, sA, sC, tA, tC) : FwE) now w1 (b := false) HXP.out).mono ?_
        rintro r2 w2 ⟨rfl, hb⟩
        have HB2 := Lib.hid (HBA.out.trans (hb.mono HBA.out.size))
        have HX2 := Lib.hid (blk_below hb HX1.out)
        have HZ2 := Lib.hid (blk_below hb HZ1.out)
        have HP2 := Lib.hid (HP1.out.below hb)
        clear hb y2
        have HINV := Lib.hid HE.out.inv
        have HSV := Lib.hid (HP2.out.sv g rfl)
        have hgl := HE.out.lt g HSV.out.1
        have HGG := Lib.hid (show G ≠ g from fun e => HSV.out.2.2 e.symm)
        have HZG := Lib.hid (show w.heap.size ≠ g by omega)
        have HXG := Lib.hid (show w0.heap.size ≠ g by have := HB0.out.size; omega)
        have hxm := List.mem_of_getElem? HX.out
        have hl0 := (HINV.out.ls x hxm).1
        have hl1 := (HINV.out.ls x hxm).2
        have hv0 := (HINV.out.iv x hxm).1
        have hv1 : x.iv ≤ 576460752303423488 := by have := (HINV.out.iv x hxm).2; omega
        have hgs := HINV.out.gs x hxm
        have k8 := own_at' rfl HP2.out.own HEL.out 8 _ rfl
        have f8 := HP2.out.fz (i * 20 + 8)
        have c2 := cell_block HP2.out.hG 2
        simp only [List.getElem?_toArray, List.getElem?_cons_zero, List.getElem?_cons_succ] at c2
        clear hgl hxm
        go_upto_region 12 with fail
        obtain ⟨w3, hw3⟩ : ∃ w3, w3 = w2.setCell ⟨g, i * 20 + 8, none⟩ (.bool true) := ⟨_, rfl⟩
        rw [← hw3]
        have HX3 := Lib.hid (show w3.heap[w0.heap.size]? = some (.cells (fl20 ((x, sA, sC, tA, tC) : FwE)).toArray 86 (0, 0)) by rw [hw3]; exact (Below.heap_setCell w2 ⟨g, i * 20 + 8, none⟩ (.bool true) _ HXG.out).trans HX2.out)
        have HZ3 := Lib.hid (show w3.heap[w.heap.size]? = some (.cells #[.string ⟨#[]⟩, .string ⟨#[]⟩, .string ⟨#[]⟩, .string ⟨#[]⟩, .string ⟨#[]⟩, .string ⟨#[]⟩, .string ⟨#[]⟩, .int .i64 0, .slice none 0 0, .int .i64 0, .int .i64 0] 39 (0, 0)) by rw [hw3]; exact (Below.heap_setCell w2 ⟨g, i * 20 + 8, none⟩ (.bool true) _ HZG.out).trans HZ2.out)
        have HP3 := Lib.hid (show RefP w3 S I G ({ st with cap := st.cap, l := st.l.set i ({ x with polled := true } : Fw) } : Fs) (.slice (some ⟨g, 0, none⟩) es.length ca) (es.set i (({ x with polled := true } : Fw), sA, sC, tA, tC)) by
          rw [hw3]
          exact ref_cell (cap := st.cap) (y := ({ x with polled := true } : Fw)) HP2.out HEL.out (show 8 < 20 by omega) rfl rfl rfl (inv_set (y := ({ x with polled := true } : Fw)) HINV.out (Int.le_refl _) HX.out ⟨rfl, rfl, rfl, rfl, rfl, HINV.out.gs x (List.mem_of_getElem? HX.out), HINV.out.iv x (List.mem_of_getElem? HX.out), HINV.out.ls x (List.mem_of_getElem? HX.out)⟩))
        have HM3 := Lib.hid (show Mods S w w3 by rw [hw3]; exact (Mods.of_below S HB2.out).setCell (p := ⟨g, i * 20 + 8, none⟩) (Or.inl HSV.out.1) _)
        have he3 : (es.set i (({ x with polled := true } : Fw), sA, sC, tA, tC))[i]? = some (({ x with polled := true } : Fw), sA, sC, tA, tC) := by rw [List.getElem?_set, if_pos rfl, if_pos hil]
        have k7 := own_at' (by simp) HP3.out.own he3 7 _ rfl
        have f7 := HP3.out.own.fz (i * 20 + 7)
        have c3 := cell_block HP3.out.hG 2
        simp only [List.getElem?_toArray, List.getElem?_cons_zero, List.getElem?_cons_succ] at c3
        have HS12 := Lib.hid (show ∀ w' : World, w'.heap[G]? = w3.heap[G]? → (fun w' => w'.cell? ⟨G, 2, none⟩ = some (.slice (some ⟨g, 0, none⟩) es.length ca)) w' from fun w' h => (World.cell?_of_block h).trans c3)
        clear hw3 k8 f8 c2 he3
        go_wp2_with fail
        refine wp_region_held_drew (S := (fun w' => w'.cell? ⟨G, 2, none⟩ = some (.slice (some ⟨g, 0, none⟩) es.length ca))) (by kernel_rfl) ?_ (fun hHeld => ?_)
        focus ((try dsimp only); (first | exact HS12.out _ rfl | exact HS12.out _ (Below.heap_setCell _ _ _ _ HGG.out)); done)
        refine wpAnyH_take (i := 0) (oi := ⟨_, _, _, _, _, _⟩) (v := ?_) rfl (by kernel_rfl) (by kernel_rfl) (by kernel_rfl) (fun _ _ _ h => h) (Or.inl ⟨by rfl, ?_⟩) (by assumption) ?_; rotate_left; (focus (intro w hSw; (try dsimp only at hSw); go_simp; (try with_reducible rfl); done)); simp only [Act.put, List.setIfInBounds_toArray, List.set_cons_zero, List.set_cons_succ]
        refine wpAnyH_take (i := 1) (oi := ⟨_, _, _, _, _, _⟩) (v := ?_) rfl (by kernel_rfl) (by kernel_rfl) (by kernel_rfl) (fun _ _ _ h => h) (Or.inl ⟨by rfl, ?_⟩) (by assumption) ?_; rotate_left; (focus (intro w hSw; (try dsimp only at hSw); go_simp; (try with_reducible rfl); done)); simp only [Act.put, List.setIfInBounds_toArray, List.set_cons_zero, List.set_cons_succ]
        refine wpAnyH_take (i := 2) (oi := ⟨_, _, _, _, _, _⟩) (v := ?_) rfl (by kernel_rfl) (by kernel_rfl) (by kernel_rfl) (fun _ _ _ h => h) (Or.inl ⟨by rfl, ?_⟩) (by assumption) ?_; rotate_left; (focus (intro w hSw; (try dsimp only at hSw); go_simp; (try with_reducible rfl); done)); simp only [Act.put, List.setIfInBounds_toArray, List.set_cons_zero, List.set_cons_succ]
        refine wpAnyH_take (i := 3) (oi := ⟨_, _, _, _, _, _⟩) (v := ?_) rfl (by kernel_rfl) (by kernel_rfl) (by kernel_rfl) (fun _ _ _ h => h) (Or.inl ⟨by rfl, ?_⟩) (by assumption) ?_; rotate_left; (focus (intro w hSw; (try dsimp only at hSw); go_simp; (try with_reducible rfl); done)); simp only [Act.put, List.setIfInBounds_toArray, List.set_cons_zero, List.set_cons_succ]
        refine wpAnyH_take (i := 4) (oi := ⟨_, _, _, _, _, _⟩) (v := ?_) rfl (by kernel_rfl) (by kernel_rfl) (by kernel_rfl) (fun _ _ _ h => h) (Or.inl ⟨by rfl, ?_⟩) (by assumption) ?_; rotate_left; (focus (intro w hSw; (try dsimp only at hSw); go_simp; (try with_reducible rfl); done)); simp only [Act.put, List.setIfInBounds_toArray, List.set_cons_zero, List.set_cons_succ]
        refine wpAnyH_take (i := 5) (oi := ⟨_, _, _, _, _, _⟩) (v := ?_) rfl (by kernel_rfl) (by kernel_rfl) (by kernel_rfl) (fun _ _ _ h => h) (Or.inl ⟨by rfl, ?_⟩) (by assumption) ?_; rotate_left; (focus (intro w hSw; (try dsimp only at hSw); go_simp; (try with_reducible rfl); done)); simp only [Act.put, List.setIfInBounds_toArray, List.set_cons_zero, List.set_cons_succ]
        refine wpAnyH_ready (rs := [6]) (by kernel_rfl) (by simp) ?_
        refine AllReadyH.cons (o := ⟨_, _, _, _, _, _⟩) rfl (fun K hK => ?_) AllReadyH.nil
        go_simp
        go_wp2_with fail
        refine (limit_any now _).mono ?_
        rintro e wn ⟨rfl, rfl⟩
        (try go_wp2_with fail)
        refine hK.out _ _ ?_ (fun hHeld => ?_)
        focus ((try dsimp only); (first | exact HS12.out _ rfl | exact HS12.out _ (Below.heap_setCell _ _ _ _ HGG.out)); done)
        clear hK K
        (try simp only [Act.put, List.setIfInBounds_toArray, List.set_cons_zero, List.set_cons_succ])
        refine wpAnyH_take (i := 7) (oi := ⟨_, _, _, _, _, _⟩) (v := ?_) rfl (by kernel_rfl) (by kernel_rfl) (by kernel_rfl) (fun _ _ _ h => h) (Or.inl ⟨by rfl, ?_⟩) (by assumption) ?_; rotate_left; (focus (intro w hSw; (try dsimp only at hSw); go_simp; (try with_reducible rfl); done)); simp only [Act.put, List.setIfInBounds_toArray, List.set_cons_zero, List.set_cons_succ]
        refine wpAnyH_take (i := 8) (oi := ⟨_, _, _, _, _, _⟩) (v := ?_) rfl (by kernel_rfl) (by kernel_rfl) (by kernel_rfl) (fun _ _ _ h => h) (Or.inl ⟨by rfl, ?_⟩) (by assumption) ?_; rotate_left; (focus (intro w hSw; (try dsimp only at hSw); go_simp; (try with_reducible rfl); done)); simp only [Act.put, List.setIfInBounds_toArray, List.set_cons_zero, List.set_cons_succ]
        refine wpAnyH_ready (rs := [9]) (by kernel_rfl) (by simp) ?_
        refine AllReadyH.cons (o := ⟨_, _, _, _, _, _⟩) rfl (fun K hK => ?_) AllReadyH.nil
        go_simp
        (try go_wp2_with fail)
        refine hK.out _ _ ?_ (fun hHeld => ?_)
        focus ((try dsimp only); (first | exact HS12.out _ rfl | exact HS12.out _ (Below.heap_setCell _ _ _ _ HGG.out)); done)
        clear hK K
        (try simp only [Act.put, List.setIfInBounds_toArray, List.set_cons_zero, List.set_cons_succ])
        refine wpAnyH_done (by kernel_rfl) ?_ _
        go_upto_region 13 with fail
        obtain ⟨w4, hw4⟩ : ∃ w4, w4 = (w3.setCell ⟨g, i * 20 + 7, none⟩ (.int .i64 (limI now))).drew := ⟨_, rfl⟩
        rw [← hw4]
        have HX4 := Lib.hid (show w4.heap[w0.heap.size]? = some (.cells (fl20 ((x, sA, sC, tA, tC) : FwE)).toArray 86 (0, 0)) by rw [hw4]; exact (Below.heap_setCell w3 ⟨g, i * 20 + 7, none⟩ (.int .i64 (limI now)) _ HXG.out).trans HX3.out)
        have HZ4 := Lib.hid (show w4.heap[w.heap.size]? = some (.cells #[.string ⟨#[]⟩, .string ⟨#[]⟩, .string ⟨#[]⟩, .string ⟨#[]⟩, .string ⟨#[]⟩, .string ⟨#[]⟩, .string ⟨#[]⟩, .int .i64 0, .slice none 0 0, .int .i64 0, .int .i64 0] 39 (0, 0)) by rw [hw4]; exact (Below.heap_setCell w3 ⟨g, i * 20 + 7, none⟩ (.int .i64 (limI now)) _ HZG.out).trans HZ3.out)
        have hok4 : Fw.Ok (if ear x now = true then st.cap + 5 else st.cap) x (slo x now) := slo_ok HINV.out (List.mem_of_getElem? HX.out) now
        have HP4 := Lib.hid (show RefP w4 S I G ({ st with cap := st.cap, l := st.l.set i ({ x with polled := true, last := limI now } : Fw) } : Fs) (.slice (some ⟨g, 0, none⟩) es.length ca) (es.set i (({ x with polled := true, last := limI now } : Fw), sA, sC, tA, tC)) by
          have h1 := ref_cell2 (cap := st.cap) (y := ({ x with polled := true, last := limI now } : Fw)) (j := 7) (u := .int .i64 (limI now)) HP3.out hil (by omega) rfl rfl rfl (inv_set (y := ({ x with polled := true, last := limI now } : Fw)) HINV.out (Int.le_refl _) HX.out ⟨rfl, rfl, rfl, rfl, rfl, HINV.out.gs x (List.mem_of_getElem? HX.out), HINV.out.iv x (List.mem_of_getElem? HX.out), limI_range now⟩)
          rw [hw4]
          exact h1.below ((Below.refl _ _).drew))
        have HM4 := Lib.hid (show Mods S w w4 by rw [hw4]; exact (HM3.out.setCell (p := ⟨g, i * 20 + 7, none⟩) (Or.inl HSV.out.1) _).drew)
        have HOK4 := Lib.hid hok4
        have y5 := cell_block HX4.out 5
        have y7 := cell_block HX4.out 7
        have y8 := cell_block HX4.out 8
        simp only [fl20, List.getElem?_toArray, List.getElem?_cons_zero, List.getElem?_cons_succ] at y5 y7 y8
        have c4 := cell_block HP4.out.hG 2
        simp only [List.getElem?_toArray, List.getElem?_cons_zero, List.getElem?_cons_succ] at c4
        clear hw4 k7 f7 c3 hok4
        obtain ⟨po, hpo⟩ : ∃ po, x.polled = po := ⟨_, rfl⟩
        rw [hpo] at y8
        cases hea : ear x now with
        | true => as_aux_lemma =>
          obtain ⟨h1, h2⟩ : x.polled = true ∧ limI now < x.last + x.iv := by unfold ear at hea; simpa using hea
          have hpt : po = true := hpo.symm.trans h1
          subst hpt
          have HSL := Lib.hid (show slo x now = ({ x with polled := true, last := limI now, iv := x.iv + 5 } : Fw) by unfold slo; rw [if_pos hea])
          have HR := Lib.hid (HRM.out 24 (by unfold poE; rw [if_neg (by simpa using HCL.out), if_neg (by rw [HXP.out]; decide), if_pos hea]) (by decide))
          rw [if_pos rfl, HSL.out] at HR
          rw [hea, if_pos rfl, HSL.out] at HOK4
          clear hea hpo h1 HSL
          go_wp2_with fail
          go_quiet ((go_at_call 46; exact Calls.quiet_of_same (limit_q _ _)))
          obtain ⟨w5, hw5⟩ : ∃ w5, w5 = w4.drewN nq := ⟨_, rfl⟩
          rw [← hw5]
          have hb5 : Below w4.heap.size w4 w5 := by rw [hw5]; exact below_drewN (Below.refl _ _) _
          have HP5 := Lib.hid (HP4.out.below hb5)
          have HX5 := Lib.hid (blk_below hb5 HX4.out)
          have HZ5 := Lib.hid (blk_below hb5 HZ4.out)
          have HM5 := Lib.hid (HM4.out.below hb5)
          clear hw5 hb5 y5 y7 y8 c4
          have he5 : (es.set i (({ x with polled := true, last := limI now } : Fw), sA, sC, tA, tC))[i]? = some (({ x with polled := true, last := limI now } : Fw), sA, sC, tA, tC) := by rw [List.getElem?_set, if_pos rfl, if_pos hil]
          have k5 := own_at' (by simp) HP5.out.own he5 5 _ rfl
          have f5 := HP5.out.own.fz (i * 20 + 5)
          have y5 := cell_block HX5.out 5
          simp only [fl20, List.getElem?_toArray, List.getElem?_cons_zero, List.getElem?_cons_succ] at y5
          have c5 := cell_block HP5.out.hG 2
          simp only [List.getElem?_toArray, List.getElem?_cons_zero, List.getElem?_cons_succ] at c5
          have gw : IntKind.i64.wrap (x.iv + 5) = x.iv + 5 := IntWalk.i64_in _ (by omega)
          have HS14 := Lib.hid (show ∀ w' : World, w'.heap[G]? = w5.heap[G]? → w'.heap[w0.heap.size]? = w5.heap[w0.heap.size]? → (fun w' => w'.cell? ⟨G, 2, none⟩ = some (.slice (some ⟨g, 0, none⟩) es.length ca) ∧ w'.cell? ⟨w0.heap.size, 5, none⟩ = some (.int .i64 x.iv)) w' from fun w' h1 h2 => ⟨(World.cell?_of_block h1).trans c5, (World.cell?_of_block h2).trans y5⟩)
          clear he5
          go_wp2_with fail
          refine wp_region_held_drew (S := (fun w' => w'.cell? ⟨G, 2, none⟩ = some (.slice (some ⟨g, 0, none⟩) es.length ca) ∧ w'.cell? ⟨w0.heap.size, 5, none⟩ = some (.int .i64 x.iv))) (by kernel_rfl) ?_ (fun hHeld => ?_)
          focus ((try dsimp only); (first | exact HS14.out _ rfl rfl | exact HS14.out _ (Below.heap_setCell _ _ _ _ HGG.out) (Below.heap_setCell _ _ _ _ HXG.out)); done)
          refine wpAnyH_take (i := 0) (oi := ⟨_, _, _, _, _, _⟩) (v := ?_) rfl (by kernel_rfl) (by kernel_rfl) (by kernel_rfl) (fun _ _ _ h => h) (Or.inl ⟨by rfl, ?_⟩) (by assumption) ?_; rotate_left; (focus (intro w hSw; (try dsimp only at hSw); go_simp; (try with_reducible rfl); done)); simp only [Act.put, List.setIfInBounds_toArray, List.set_cons_zero, List.set_cons_succ]
          refine wpAnyH_take (i := 1) (oi := ⟨_, _, _, _, _, _⟩) (v := ?_) rfl (by kernel_rfl) (by kernel_rfl) (by kernel_rfl) (fun _ _ _ h => h) (Or.inl ⟨by rfl, ?_⟩) (by assumption) ?_; rotate_left; (focus (intro w hSw; (try dsimp only at hSw); go_simp; (try with_reducible rfl); done)); simp only [Act.put, List.setIfInBounds_toArray, List.set_cons_zero, List.set_cons_succ]
          refine wpAnyH_take (i := 2) (oi := ⟨_, _, _, _, _, _⟩) (v := ?_) rfl (by kernel_rfl) (by kernel_rfl) (by kernel_rfl) (fun _ _ _ h => h) (Or.inl ⟨by rfl, ?_⟩) (by assumption) ?_; rotate_left; (focus (intro w hSw; (try dsimp only at hSw); go_simp; (try with_reducible rfl); done)); simp only [Act.put, List.setIfInBounds_toArray, List.set_cons_zero, List.set_cons_succ]
          refine wpAnyH_take (i := 3) (oi := ⟨_, _, _, _, _, _⟩) (v := ?_) rfl (by kernel_rfl) (by kernel_rfl) (by kernel_rfl) (fun _ _ _ h => h) (Or.inl ⟨by rfl, ?_⟩) (by assumption) ?_; rotate_left; (focus (intro w hSw; (try dsimp only at hSw); go_simp; (try with_reducible rfl); done)); simp only [Act.put, List.setIfInBounds_toArray, List.set_cons_zero, List.set_cons_succ]
          refine wpAnyH_take (i := 4) (oi := ⟨_, _, _, _, _, _⟩) (v := ?_) rfl (by kernel_rfl) (by kernel_rfl) (by kernel_rfl) (fun _ _ _ h => h) (Or.inl ⟨by rfl, ?_⟩) (by assumption) ?_; rotate_left; (focus (intro w hSw; (try dsimp only at hSw); go_simp; (try with_reducible rfl); done)); simp only [Act.put, List.setIfInBounds_toArray, List.set_cons_zero, List.set_cons_succ]
          refine wpAnyH_take (i := 5) (oi := ⟨_, _, _, _, _, _⟩) (v := ?_) rfl (by kernel_rfl) (by kernel_rfl) (by kernel_rfl) (fun _ _ _ h => h) (Or.inl ⟨by rfl, ?_⟩) (by assumption) ?_; rotate_left; (focus (intro w hSw; (try dsimp only at hSw); go_simp; (try with_reducible rfl); done)); simp only [Act.put, List.setIfInBounds_toArray, List.set_cons_zero, List.set_cons_succ]
          refine wpAnyH_take (i := 6) (oi := ⟨_, _, _, _, _, _⟩) (v := ?_) rfl (by kernel_rfl) (by kernel_rfl) (by kernel_rfl) (fun _ _ _ h => h) (Or.inl ⟨by rfl, ?_⟩) (by assumption) ?_; rotate_left; (focus (intro w hSw; (try dsimp only at hSw); go_simp; (try with_reducible rfl); done)); simp only [Act.put, List.setIfInBounds_toArray, List.set_cons_zero, List.set_cons_succ]
          refine wpAnyH_take (i := 7) (oi := ⟨_, _, _, _, _, _⟩) (v := ?_) rfl (by kernel_rfl) (by kernel_rfl) (by kernel_rfl) (fun _ _ _ h => h) (Or.inl ⟨by rfl, ?_⟩) (by assumption) ?_; rotate_left; (focus (intro w hSw; (try dsimp only at hSw); go_simp; (try with_reducible rfl); done)); simp only [Act.put, List.setIfInBounds_toArray, List.set_cons_zero, List.set_cons_succ]
          refine wpAnyH_take (i := 8) (oi := ⟨_, _, _, _, _, _⟩) (v := ?_) rfl (by kernel_rfl) (by kernel_rfl) (by kernel_rfl) (fun _ _ _ h => h) (Or.inl ⟨by rfl, ?_⟩) (by assumption) ?_; rotate_left; (focus (intro w hSw; (try dsimp only at hSw); go_simp; (try with_reducible rfl); done)); simp only [Act.put, List.setIfInBounds_toArray, List.set_cons_zero, List.set_cons_succ]
          refine wpAnyH_take (i := 9) (oi := ⟨_, _, _, _, _, _⟩) (v := ?_) rfl (by kernel_rfl) (by kernel_rfl) (by kernel_rfl) (fun _ _ _ h => h) (Or.inl ⟨by rfl, ?_⟩) (by assumption) ?_; rotate_left; (focus (intro w hSw; (try dsimp only at hSw); go_simp; (try with_reducible rfl); done)); simp only [Act.put, List.setIfInBounds_toArray, List.set_cons_zero, List.set_cons_succ]
          refine wpAnyH_ready (rs := [10]) (by kernel_rfl) (by simp) ?_
          refine AllReadyH.cons (o := ⟨_, _, _, _, _, _⟩) rfl (fun K hK => ?_) AllReadyH.nil
          go_simp
          (try go_wp2_with fail)
          refine hK.out _ _ ?_ (fun hHeld => ?_)
          focus ((try dsimp only); (first | exact HS14.out _ rfl rfl | exact HS14.out _ (Below.heap_setCell _ _ _ _ HGG.out) (Below.heap_setCell _ _ _ _ HXG.out)); done)
          clear hK K
          (try simp only [Act.put, List.setIfInBounds_toArray, List.set_cons_zero, List.set_cons_succ])
          refine wpAnyH_done (by kernel_rfl) ?_ _
          go_upto_region 15 with fail
          obtain ⟨w6, hw6⟩ : ∃ w6, w6 = (w5.setCell ⟨g, i * 20 + 5, none⟩ (.int .i64 (x.iv + 5))).drew := ⟨_, rfl⟩
          rw [← hw6]
          have HX6 := Lib.hid (show w6.heap[w0.heap.size]? = some (.cells (fl20 ((x, sA, sC, tA, tC) : FwE)).toArray 86 (0, 0)) by rw [hw6]; exact (Below.heap_setCell w5 ⟨g, i * 20 + 5, none⟩ (.int .i64 (x.iv + 5)) _ HXG.out).trans HX5.out)
          have HZ6 := Lib.hid (show w6.heap[w.heap.size]? = some (.cells #[.string ⟨#[]⟩, .string ⟨#[]⟩, .string ⟨#[]⟩, .string ⟨#[]⟩, .string ⟨#[]⟩, .string ⟨#[]⟩, .string ⟨#[]⟩, .int .i64 0, .slice none 0 0, .int .i64 0, .int .i64 0] 39 (0, 0)) by rw [hw6]; exact (Below.heap_setCell w5 ⟨g, i * 20 + 5, none⟩ (.int .i64 (x.iv + 5)) _ HZG.out).trans HZ5.out)
          have HP6 := Lib.hid (show RefP w6 S I G ({ st with cap := (st.cap + 5), l := st.l.set i ({ x with polled := true, last := limI now, iv := x.iv + 5 } : Fw) } : Fs) (.slice (some ⟨g, 0, none⟩) es.length ca) (es.set i (({ x with polled := true, last := limI now, iv := x.iv + 5 } : Fw), sA, sC, tA, tC)) by
            have h1 := ref_cell2 (cap := st.cap + 5) (y := ({ x with polled := true, last := limI now, iv := x.iv + 5 } : Fw)) (j := 5) (u := .int .i64 (x.iv + 5)) HP5.out hil (by omega) rfl rfl rfl (inv_set (y := ({ x with polled := true, last := limI now, iv := x.iv + 5 } : Fw)) HINV.out (by omega) HX.out HOK4.out)
            rw [hw6]
            exact h1.below ((Below.refl _ _).drew))
          have HM6 := Lib.hid (show Mods S w w6 by rw [hw6]; exact (HM5.out.setCell (p := ⟨g, i * 20 + 5, none⟩) (Or.inl HSV.out.1) _).drew)
          clear hw6 k5 f5 y5 c5
          go_wp2_with (refine wpList_store_row rfl 39 (.tmp 8) (.tmp 76) rfl w.heap.size #[.string ⟨#[]⟩, .string ⟨#[]⟩, .string ⟨#[]⟩, .string ⟨#[]⟩, .string ⟨#[]⟩, .string ⟨#[]⟩, .string ⟨#[]⟩, .int .i64 0, .slice none 0 0, .int .i64 0, .int .i64 0] rfl rfl 39 _ HZ6.out (by kernel_rfl) rfl (by kernel_rfl) ?_)
          obtain ⟨y0, y1, y2, y3, y4, y5, y6, y7, y8, y9, y10⟩ := cells11 (setRow_heap w6 w.heap.size _ #[.string ⟨#[]⟩, .string ⟨#[]⟩, .string ⟨#[]⟩, .string ⟨#[]⟩, .string ⟨#[]⟩, .string ⟨#[]⟩, .string ⟨#[]⟩, .int .i64 0, .slice none 0 0, .int .i64 0, .int .i64 0] _ _ HZ6.out)
          refine bodyPost_ret (v := .tuple #[.agg #[.string ⟨#[]⟩, .string ⟨#[]⟩, .string ⟨#[]⟩, .string ⟨#[]⟩, .string ⟨#[]⟩, .string ⟨#[]⟩, .string ⟨#[]⟩, .int .i64 0, .slice none 0 0, .int .i64 0, .int .i64 0], .int .i64 24]) (by simp [results, Tryd.results27, go_sem, y0, y1, y2, y3, y4, y5, y6, y7, y8, y9, y10]) rfl ?_
          exact rpol_fin HR.out HE.out.lt ⟨I, _, _, HP6.out⟩ HM6.out _
        | false =>
          have HSL := Lib.hid (show slo x now = ({ x with polled := true, last := limI now } : Fw) by unfold slo; rw [if_neg (by rw [hea]; decide)])
          have HPE := Lib.hid (show poE x c now = if x.state = 0 then 23 else if x.state = 2 then 25 else if x.state = 3 then 18 else 0 by unfold poE; rw [if_neg (by simpa using HCL.out), if_neg (by rw [HXP.out]; decide), if_neg (by rw [hea]; decide)])
          cases po with
          | false =>
            clear hea
            go_wp2_with fail
            go_quiet (fail)
            obtain ⟨w5, hw5⟩ : ∃ w5, w5 = w4.drewN nq := ⟨_, rfl⟩
            rw [← hw5]
            have hb5 : Below w4.heap.size w4 w5 := by rw [hw5]; exact below_drewN (Below.refl _ _) _
            have HP5 := Lib.hid (HP4.out.below hb5)
            have HX5 := Lib.hid (blk_below hb5 HX4.out)
            have HZ5 := Lib.hid (blk_below hb5 HZ4.out)
            have HM5 := Lib.hid (HM4.out.below hb5)
            clear hw5 hb5 y5 y7 y8 c4
            have he5 : (es.set i (({ x with polled := true, last := limI now } : Fw), sA, sC, tA, tC))[i]? = some (({ x with polled := true, last := limI now } : Fw), sA, sC, tA, tC) := by rw [List.getElem?_set, if_pos rfl, if_pos hil]
            have y6 := cell_block HX5.out 6
            simp only [fl20, List.getElem?_toArray, List.getElem?_cons_zero, List.getElem?_cons_succ] at y6
            by_cases s0 : x.state = 0
            · as_aux_lemma =>
              have HR := Lib.hid (HRM.out 23 (by rw [HPE.out, if_pos s0]) (by decide))
              rw [if_neg (by decide), HSL.out] at HR
              have b0 : (x.state == 0) = true := by rw [s0]; rfl
              clear s0
              go_wp2_with (refine wpList_store_row rfl 39 (.tmp 8) (.tmp 81) rfl w.heap.size #[.string ⟨#[]⟩, .string ⟨#[]⟩, .string ⟨#[]⟩, .string ⟨#[]⟩, .string ⟨#[]⟩, .string ⟨#[]⟩, .string ⟨#[]⟩, .int .i64 0, .slice none 0 0, .int .i64 0, .int .i64 0] rfl rfl 39 _ HZ5.out (by kernel_rfl) rfl (by kernel_rfl) ?_)
              obtain ⟨y0, y1, y2, y3, y4, y5, y6, y7, y8, y9, y10⟩ := cells11 (setRow_heap w5 w.heap.size _ #[.string ⟨#[]⟩, .string ⟨#[]⟩, .string ⟨#[]⟩, .string ⟨#[]⟩, .string ⟨#[]⟩, .string ⟨#[]⟩, .string ⟨#[]⟩, .int .i64 0, .slice none 0 0, .int .i64 0, .int .i64 0] _ _ HZ5.out)
              refine bodyPost_ret (v := .tuple #[.agg #[.string ⟨#[]⟩, .string ⟨#[]⟩, .string ⟨#[]⟩, .string ⟨#[]⟩, .string ⟨#[]⟩, .string ⟨#[]⟩, .string ⟨#[]⟩, .int .i64 0, .slice none 0 0, .int .i64 0, .int .i64 0], .int .i64 23]) (by simp [results, Tryd.results27, go_sem, y0, y1, y2, y3, y4, y5, y6, y7, y8, y9, y10]) rfl ?_
              exact rpol_fin HR.out HE.out.lt ⟨I, _, _, HP5.out⟩ HM5.out _
            · have b0 : (x.state == 0) = false := beq_eq_false_iff_ne.2 s0
              by_cases s2 : x.state = 2
              · as_aux_lemma =>
                have HR := Lib.hid (HRM.out 25 (by rw [HPE.out, if_neg s0, if_pos s2]) (by decide))
                rw [if_neg (by decide), HSL.out] at HR
                have b2 : (x.state == 2) = true := by rw [s2]; rfl
                clear s2 s0
                go_wp2_with (refine wpList_store_row rfl 39 (.tmp 8) (.tmp 84) rfl w.heap.size #[.string ⟨#[]⟩, .string ⟨#[]⟩, .string ⟨#[]⟩, .string ⟨#[]⟩, .string ⟨#[]⟩, .string ⟨#[]⟩, .string ⟨#[]⟩, .int .i64 0, .slice none 0 0, .int .i64 0, .int .i64 0] rfl rfl 39 _ HZ5.out (by kernel_rfl) rfl (by kernel_rfl) ?_)
                obtain ⟨y0, y1, y2, y3, y4, y5, y6, y7, y8, y9, y10⟩ := cells11 (setRow_heap w5 w.heap.size _ #[.string ⟨#[]⟩, .string ⟨#[]⟩, .string ⟨#[]⟩, .string ⟨#[]⟩, .string ⟨#[]⟩, .string ⟨#[]⟩, .string ⟨#[]⟩, .int .i64 0, .slice none 0 0, .int .i64 0, .int .i64 0] _ _ HZ5.out)
                refine bodyPost_ret (v := .tuple #[.agg #[.string ⟨#[]⟩, .string ⟨#[]⟩, .string ⟨#[]⟩, .string ⟨#[]⟩, .string ⟨#[]⟩, .string ⟨#[]⟩, .string ⟨#[]⟩, .int .i64 0, .slice none 0 0, .int .i64 0, .int .i64 0], .int .i64 25]) (by simp [results, Tryd.results27, go_sem, y0, y1, y2, y3, y4, y5, y6, y7, y8, y9, y10]) rfl ?_
                exact rpol_fin HR.out HE.out.lt ⟨I, _, _, HP5.out⟩ HM5.out _
              · have b2 : (x.state == 2) = false := beq_eq_false_iff_ne.2 s2
                by_cases s3 : x.state = 3
                · as_aux_lemma =>
                  have HR := Lib.hid (HRM.out 18 (by rw [HPE.out, if_neg s0, if_neg s2, if_pos s3]) (by decide))
                  rw [if_neg (by decide), HSL.out] at HR
                  have b3 : (x.state == 3) = true := by rw [s3]; rfl
                  clear s3 s2 s0
                  go_wp2_with (refine wpList_store_row rfl 39 (.tmp 8) (.tmp 87) rfl w.heap.size #[.string ⟨#[]⟩, .string ⟨#[]⟩, .string ⟨#[]⟩, .string ⟨#[]⟩, .string ⟨#[]⟩, .string ⟨#[]⟩, .string ⟨#[]⟩, .int .i64 0, .slice none 0 0, .int .i64 0, .int .i64 0] rfl rfl 39 _ HZ5.out (by kernel_rfl) rfl (by kernel_rfl) ?_)
                  obtain ⟨y0, y1, y2, y3, y4, y5, y6, y7, y8, y9, y10⟩ := cells11 (setRow_heap w5 w.heap.size _ #[.string ⟨#[]⟩, .string ⟨#[]⟩, .string ⟨#[]⟩, .string ⟨#[]⟩, .string ⟨#[]⟩, .string ⟨#[]⟩, .string ⟨#[]⟩, .int .i64 0, .slice none 0 0, .int .i64 0, .int .i64 0] _ _ HZ5.out)
                  refine bodyPost_ret (v := .tuple #[.agg #[.string ⟨#[]⟩, .string ⟨#[]⟩, .string ⟨#[]⟩, .string ⟨#[]⟩, .string ⟨#[]⟩, .string ⟨#[]⟩, .string ⟨#[]⟩, .int .i64 0, .slice none 0 0, .int .i64 0, .int .i64 0], .int .i64 18]) (by simp [results, Tryd.results27, go_sem, y0, y1, y2, y3, y4, y5, y6, y7, y8, y9, y10]) rfl ?_
                  exact rpol_fin HR.out HE.out.lt ⟨I, _, _, HP5.out⟩ HM5.out _
                · have b3 : (x.state == 3) = false := beq_eq_false_iff_ne.2 s3
                  as_aux_lemma =>
                    have HR := Lib.hid (HRO.out (by rw [HPE.out, if_neg s0, if_neg s2, if_neg s3]))
                    rw [show ({ slo x now with state := 3 } : Fw) = ({ x with polled := true, last := limI now, state := 3 } : Fw) by rw [HSL.out]] at HR
                    have k6 := own_at' (by simp) HP5.out.own he5 6 _ rfl
                    have f6 := HP5.out.own.fz (i * 20 + 6)
                    have c5 := cell_block HP5.out.hG 2
                    simp only [List.getElem?_toArray, List.getElem?_cons_zero, List.getElem?_cons_succ] at c5
                    clear s0 s2 s3
                    go_upto_region 24 with fail
                    obtain ⟨w6, hw6⟩ : ∃ w6, w6 = w5.setCell ⟨g, i * 20 + 6, none⟩ (.int .i64 3) := ⟨_, rfl⟩
                    rw [← hw6]
                    have HX6 := Lib.hid (show w6.heap[w0.heap.size]? = some (.cells (fl20 ((x, sA, sC, tA, tC) : FwE)).toArray 86 (0, 0)) by rw [hw6]; exact (Below.heap_setCell w5 ⟨g, i * 20 + 6, none⟩ (.int .i64 3) _ HXG.out).trans HX5.out)
                    have HZ6 := Lib.hid (show w6.heap[w.heap.size]? = some (.cells #[.string ⟨#[]⟩, .string ⟨#[]⟩, .string ⟨#[]⟩, .string ⟨#[]⟩, .string ⟨#[]⟩, .string ⟨#[]⟩, .string ⟨#[]⟩, .int .i64 0, .slice none 0 0, .int .i64 0, .int .i64 0] 39 (0, 0)) by rw [hw6]; exact (Below.heap_setCell w5 ⟨g, i * 20 + 6, none⟩ (.int .i64 3) _ HZG.out).trans HZ5.out)
                    have HP6 := Lib.hid (show RefP w6 S I G ({ st with cap := st.cap, l := st.l.set i ({ x with polled := true, last := limI now, state := 3 } : Fw) } : Fs) (.slice (some ⟨g, 0, none⟩) es.length ca) (es.set i (({ x with polled := true, last := limI now, state := 3 } : Fw), sA, sC, tA, tC)) by
                      have h1 := ref_cell2 (cap := st.cap) (y := ({ x with polled := true, last := limI now, state := 3 } : Fw)) (j := 6) (u := .int .i64 3) HP5.out hil (by omega) rfl rfl rfl (inv_set (y := ({ x with polled := true, last := limI now, state := 3 } : Fw)) HINV.out (Int.le_refl _) HX.out ⟨rfl, rfl, rfl, rfl, rfl, HINV.out.gs x (List.mem_of_getElem? HX.out), HINV.out.iv x (List.mem_of_getElem? HX.out), limI_range now⟩)
                      rw [hw6]
                      exact h1)
                    have HM6 := Lib.hid (show Mods S w w6 by rw [hw6]; exact HM5.out.setCell (p := ⟨g, i * 20 + 6, none⟩) (Or.inl HSV.out.1) _)
                    clear hw6 k6 f6 c5 he5 b0 b2 b3
                    have HRG6 := Lib.hid (show w6.rangeAt w0.heap.size 9 [.string x.g.user, .string x.g.client, .string x.g.tenant, .string x.g.session, .string x.g.redirect, .string x.g.nonce, .string x.g.challenge, .int .i64 x.g.method, .slice tA x.g.scopes.length tC, .int .i64 x.g.auth, .int .i64 x.g.level] from fun j u hj => (cell_block HX6.out (9 + j)).trans (by rw [List.getElem?_toArray, Nat.add_comm]; exact hj))
                    have HT6 := Lib.hid (show Ss w6 tA x.g.scopes.length tC x.g.scopes from (HP6.out.tk (({ x with polled := true, last := limI now, state := 3 } : Fw), sA, sC, tA, tC) (List.mem_of_getElem? (i := i) (by rw [List.getElem?_set, if_pos rfl, if_pos hil]))).1)
                    have hgn := hgs.2
                    go_wp2_with ((with_reducible refine at_dst 96 ?_); refine wpList_load_mid rfl 39 (.tmp 95) rfl w0.heap.size 9 rfl [.string x.g.user, .string x.g.client, .string x.g.tenant, .string x.g.session, .string x.g.redirect, .string x.g.nonce, .string x.g.challenge, .int .i64 x.g.method, .slice tA x.g.scopes.length tC, .int .i64 x.g.auth, .int .i64 x.g.level] _ HRG6.out rfl rfl (by kernel_rfl) ?_)
                    refine (copied_any w6 x.g tA tC HT6.out (by omega)).mono ?_
                    rintro e7 w7 ⟨B, dd, rfl, hfr, hb7⟩
                    have HFR := Lib.hid hfr
                    have HB7 := Lib.hid hb7
                    have HZ7 := Lib.hid (blk_below hb7 HZ6.out)
                    clear hfr hb7
                    have HRI := Lib.hid (rpol_done HR.out HE.out.lt ⟨I, _, _, HP6.out⟩ HM6.out (blk_lt HZ6.out) HB7.out HFR.out #[.string x.g.user, .string x.g.client, .string x.g.tenant, .string x.g.session, .string x.g.redirect, .string x.g.nonce, .string x.g.challenge, .int .i64 x.g.method, .slice B x.g.scopes.length dd, .int .i64 x.g.auth, .int .i64 x.g.level])
                    go_wp2_with (refine wpList_store_row rfl 39 (.tmp 8) (.tmp 97) rfl w.heap.size #[.string x.g.user, .string x.g.client, .string x.g.tenant, .string x.g.session, .string x.g.redirect, .string x.g.nonce, .string x.g.challenge, .int .i64 x.g.method, .slice B x.g.scopes.length dd, .int .i64 x.g.auth, .int .i64 x.g.level] rfl rfl 39 _ HZ7.out (by kernel_rfl) rfl (by simp [Value.oneCell']) ?_)
                    obtain ⟨y0, y1, y2, y3, y4, y5, y6, y7, y8, y9, y10⟩ := cells11 (setRow_heap w7 w.heap.size _ #[.string x.g.user, .string x.g.client, .string x.g.tenant, .string x.g.session, .string x.g.redirect, .string x.g.nonce, .string x.g.challenge, .int .i64 x.g.method, .slice B x.g.scopes.length dd, .int .i64 x.g.auth, .int .i64 x.g.level] _ _ HZ7.out)
                    refine bodyPost_ret (v := .tuple #[.agg #[.string x.g.user, .string x.g.client, .string x.g.tenant, .string x.g.session, .string x.g.redirect, .string x.g.nonce, .string x.g.challenge, .int .i64 x.g.method, .slice B x.g.scopes.length dd, .int .i64 x.g.auth, .int .i64 x.g.level], .int .i64 0]) (by simp [results, Tryd.results27, go_sem, y0, y1, y2, y3, y4, y5, y6, y7, y8, y9, y10]) rfl ?_
                    exact HRI.out
          | true =>
            have h2 : ¬ limI now < x.last + x.iv := by unfold ear at hea; rw [hpo] at hea; simpa using hea
            clear hea
            go_wp2_with fail
            go_quiet ((go_at_call 46; exact Calls.quiet_of_same (limit_q _ _)))
            obtain ⟨w5, hw5⟩ : ∃ w5, w5 = w4.drewN nq := ⟨_, rfl⟩
            rw [← hw5]
            have hb5 : Below w4.heap.size w4 w5 := by rw [hw5]; exact below_drewN (Below.refl _ _) _
            have HP5 := Lib.hid (HP4.out.below hb5)
            have HX5 := Lib.hid (blk_below hb5 HX4.out)
            have HZ5 := Lib.hid (blk_below hb5 HZ4.out)
            have HM5 := Lib.hid (HM4.out.below hb5)
            clear hw5 hb5 y5 y7 y8 c4
            have he5 : (es.set i (({ x with polled := true, last := limI now } : Fw), sA, sC, tA, tC))[i]? = some (({ x with polled := true, last := limI now } : Fw), sA, sC, tA, tC) := by rw [List.getElem?_set, if_pos rfl, if_pos hil]
            have y6 := cell_block HX5.out 6
            simp only [fl20, List.getElem?_toArray, List.getElem?_cons_zero, List.getElem?_cons_succ] at y6
            by_cases s0 : x.state = 0
            · as_aux_lemma =>
              have HR := Lib.hid (HRM.out 23 (by rw [HPE.out, if_pos s0]) (by decide))
              rw [if_neg (by decide), HSL.out] at HR
              have b0 : (x.state == 0) = true := by rw [s0]; rfl
              clear s0
              go_wp2_with (refine wpList_store_row rfl 39 (.tmp 8) (.tmp 81) rfl w.heap.size #[.string ⟨#[]⟩, .string ⟨#[]⟩, .string ⟨#[]⟩, .string ⟨#[]⟩, .string ⟨#[]⟩, .string ⟨#[]⟩, .string ⟨#[]⟩, .int .i64 0, .slice none 0 0, .int .i64 0, .int .i64 0] rfl rfl 39 _ HZ5.out (by kernel_rfl) rfl (by kernel_rfl) ?_)
              obtain ⟨y0, y1, y2, y3, y4, y5, y6, y7, y8, y9, y10⟩ := cells11 (setRow_heap w5 w.heap.size _ #[.string ⟨#[]⟩, .string ⟨#[]⟩, .string ⟨#[]⟩, .string ⟨#[]⟩, .string ⟨#[]⟩, .string ⟨#[]⟩, .string ⟨#[]⟩, .int .i64 0, .slice none 0 0, .int .i64 0, .int .i64 0] _ _ HZ5.out)
              refine bodyPost_ret (v := .tuple #[.agg #[.string ⟨#[]⟩, .string ⟨#[]⟩, .string ⟨#[]⟩, .string ⟨#[]⟩, .string ⟨#[]⟩, .string ⟨#[]⟩, .string ⟨#[]⟩, .int .i64 0, .slice none 0 0, .int .i64 0, .int .i64 0], .int .i64 23]) (by simp [results, Tryd.results27, go_sem, y0, y1, y2, y3, y4, y5, y6, y7, y8, y9, y10]) rfl ?_
              exact rpol_fin HR.out HE.out.lt ⟨I, _, _, HP5.out⟩ HM5.out _
            · have b0 : (x.state == 0) = false := beq_eq_false_iff_ne.2 s0
              by_cases s2 : x.state = 2
              · as_aux_lemma =>
                have HR := Lib.hid (HRM.out 25 (by rw [HPE.out, if_neg s0, if_pos s2]) (by decide))
                rw [if_neg (by decide), HSL.out] at HR
                have b2 : (x.state == 2) = true := by rw [s2]; rfl
                clear s2 s0
                go_wp2_with (refine wpList_store_row rfl 39 (.tmp 8) (.tmp 84) rfl w.heap.size #[.string ⟨#[]⟩, .string ⟨#[]⟩, .string ⟨#[]⟩, .string ⟨#[]⟩, .string ⟨#[]⟩, .string ⟨#[]⟩, .string ⟨#[]⟩, .int .i64 0, .slice none 0 0, .int .i64 0, .int .i64 0] rfl rfl 39 _ HZ5.out (by kernel_rfl) rfl (by kernel_rfl) ?_)
                obtain ⟨y0, y1, y2, y3, y4, y5, y6, y7, y8, y9, y10⟩ := cells11 (setRow_heap w5 w.heap.size _ #[.string ⟨#[]⟩, .string ⟨#[]⟩, .string ⟨#[]⟩, .string ⟨#[]⟩, .string ⟨#[]⟩, .string ⟨#[]⟩, .string ⟨#[]⟩, .int .i64 0, .slice none 0 0, .int .i64 0, .int .i64 0] _ _ HZ5.out)
                refine bodyPost_ret (v := .tuple #[.agg #[.string ⟨#[]⟩, .string ⟨#[]⟩, .string ⟨#[]⟩, .string ⟨#[]⟩, .string ⟨#[]⟩, .string ⟨#[]⟩, .string ⟨#[]⟩, .int .i64 0, .slice none 0 0, .int .i64 0, .int .i64 0], .int .i64 25]) (by simp [results, Tryd.results27, go_sem, y0, y1, y2, y3, y4, y5, y6, y7, y8, y9, y10]) rfl ?_
                exact rpol_fin HR.out HE.out.lt ⟨I, _, _, HP5.out⟩ HM5.out _
              · have b2 : (x.state == 2) = false := beq_eq_false_iff_ne.2 s2
                by_cases s3 : x.state = 3
                · as_aux_lemma =>
                  have HR := Lib.hid (HRM.out 18 (by rw [HPE.out, if_neg s0, if_neg s2, if_pos s3]) (by decide))
                  rw [if_neg (by decide), HSL.out] at HR
                  have b3 : (x.state == 3) = true := by rw [s3]; rfl
                  clear s3 s2 s0
                  go_wp2_with (refine wpList_store_row rfl 39 (.tmp 8) (.tmp 87) rfl w.heap.size #[.string ⟨#[]⟩, .string ⟨#[]⟩, .string ⟨#[]⟩, .string ⟨#[]⟩, .string ⟨#[]⟩, .string ⟨#[]⟩, .string ⟨#[]⟩, .int .i64 0, .slice none 0 0, .int .i64 0, .int .i64 0] rfl rfl 39 _ HZ5.out (by kernel_rfl) rfl (by kernel_rfl) ?_)
                  obtain ⟨y0, y1, y2, y3, y4, y5, y6, y7, y8, y9, y10⟩ := cells11 (setRow_heap w5 w.heap.size _ #[.string ⟨#[]⟩, .string ⟨#[]⟩, .string ⟨#[]⟩, .string ⟨#[]⟩, .string ⟨#[]⟩, .string ⟨#[]⟩, .string ⟨#[]⟩, .int .i64 0, .slice none 0 0, .int .i64 0, .int .i64 0] _ _ HZ5.out)
                  refine bodyPost_ret (v := .tuple #[.agg #[.string ⟨#[]⟩, .string ⟨#[]⟩, .string ⟨#[]⟩, .string ⟨#[]⟩, .string ⟨#[]⟩, .string ⟨#[]⟩, .string ⟨#[]⟩, .int .i64 0, .slice none 0 0, .int .i64 0, .int .i64 0], .int .i64 18]) (by simp [results, Tryd.results27, go_sem, y0, y1, y2, y3, y4, y5, y6, y7, y8, y9, y10]) rfl ?_
                  exact rpol_fin HR.out HE.out.lt ⟨I, _, _, HP5.out⟩ HM5.out _
                · have b3 : (x.state == 3) = false := beq_eq_false_iff_ne.2 s3
                  as_aux_lemma =>
                    have HR := Lib.hid (HRO.out (by rw [HPE.out, if_neg s0, if_neg s2, if_neg s3]))
                    rw [show ({ slo x now with state := 3 } : Fw) = ({ x with polled := true, last := limI now, state := 3 } : Fw) by rw [HSL.out]] at HR
                    have k6 := own_at' (by simp) HP5.out.own he5 6 _ rfl
                    have f6 := HP5.out.own.fz (i * 20 + 6)
                    have c5 := cell_block HP5.out.hG 2
                    simp only [List.getElem?_toArray, List.getElem?_cons_zero, List.getElem?_cons_succ] at c5
                    clear s0 s2 s3
                    go_upto_region 24 with fail
                    obtain ⟨w6, hw6⟩ : ∃ w6, w6 = w5.setCell ⟨g, i * 20 + 6, none⟩ (.int .i64 3) := ⟨_, rfl⟩
                    rw [← hw6]
                    have HX6 := Lib.hid (show w6.heap[w0.heap.size]? = some (.cells (fl20 ((x, sA, sC, tA, tC) : FwE)).toArray 86 (0, 0)) by rw [hw6]; exact (Below.heap_setCell w5 ⟨g, i * 20 + 6, none⟩ (.int .i64 3) _ HXG.out).trans HX5.out)
                    have HZ6 := Lib.hid (show w6.heap[w.heap.size]? = some (.cells #[.string ⟨#[]⟩, .string ⟨#[]⟩, .string ⟨#[]⟩, .string ⟨#[]⟩, .string ⟨#[]⟩, .string ⟨#[]⟩, .string ⟨#[]⟩, .int .i64 0, .slice none 0 0, .int .i64 0, .int .i64 0] 39 (0, 0)) by rw [hw6]; exact (Below.heap_setCell w5 ⟨g, i * 20 + 6, none⟩ (.int .i64 3) _ HZG.out).trans HZ5.out)
                    have HP6 := Lib.hid (show RefP w6 S I G ({ st with cap := st.cap, l := st.l.set i ({ x with polled := true, last := limI now, state := 3 } : Fw) } : Fs) (.slice (some ⟨g, 0, none⟩) es.length ca) (es.set i (({ x with polled := true, last := limI now, state := 3 } : Fw), sA, sC, tA, tC)) by
                      have h1 := ref_cell2 (cap := st.cap) (y := ({ x with polled := true, last := limI now, state := 3 } : Fw)) (j := 6) (u := .int .i64 3) HP5.out hil (by omega) rfl rfl rfl (inv_set (y := ({ x with polled := true, last := limI now, state := 3 } : Fw)) HINV.out (Int.le_refl _) HX.out ⟨rfl, rfl, rfl, rfl, rfl, HINV.out.gs x (List.mem_of_getElem? HX.out), HINV.out.iv x (List.mem_of_getElem? HX.out), limI_range now⟩)
                      rw [hw6]
                      exact h1)
                    have HM6 := Lib.hid (show Mods S w w6 by rw [hw6]; exact HM5.out.setCell (p := ⟨g, i * 20 + 6, none⟩) (Or.inl HSV.out.1) _)
                    clear hw6 k6 f6 c5 he5 b0 b2 b3
                    have HRG6 := Lib.hid (show w6.rangeAt w0.heap.size 9 [.string x.g.user, .string x.g.client, .string x.g.tenant, .string x.g.session, .string x.g.redirect, .string x.g.nonce, .string x.g.challenge, .int .i64 x.g.method, .slice tA x.g.scopes.length tC, .int .i64 x.g.auth, .int .i64 x.g.level] from fun j u hj => (cell_block HX6.out (9 + j)).trans (by rw [List.getElem?_toArray, Nat.add_comm]; exact hj))
                    have HT6 := Lib.hid (show Ss w6 tA x.g.scopes.length tC x.g.scopes from (HP6.out.tk (({ x with polled := true, last := limI now, state := 3 } : Fw), sA, sC, tA, tC) (List.mem_of_getElem? (i := i) (by rw [List.getElem?_set, if_pos rfl, if_pos hil]))).1)
                    have hgn := hgs.2
                    go_wp2_with ((with_reducible refine at_dst 96 ?_); refine wpList_load_mid rfl 39 (.tmp 95) rfl w0.heap.size 9 rfl [.string x.g.user, .string x.g.client, .string x.g.tenant, .string x.g.session, .string x.g.redirect, .string x.g.nonce, .string x.g.challenge, .int .i64 x.g.method, .slice tA x.g.scopes.length tC, .int .i64 x.g.auth, .int .i64 x.g.level] _ HRG6.out rfl rfl (by kernel_rfl) ?_)
                    refine (copied_any w6 x.g tA tC HT6.out (by omega)).mono ?_
                    rintro e7 w7 ⟨B, dd, rfl, hfr, hb7⟩
                    have HFR := Lib.hid hfr
                    have HB7 := Lib.hid hb7
                    have HZ7 := Lib.hid (blk_below hb7 HZ6.out)
                    clear hfr hb7
                    have HRI := Lib.hid (rpol_done HR.out HE.out.lt ⟨I, _, _, HP6.out⟩ HM6.out (blk_lt HZ6.out) HB7.out HFR.out #[.string x.g.user, .string x.g.client, .string x.g.tenant, .string x.g.session, .string x.g.redirect, .string x.g.nonce, .string x.g.challenge, .int .i64 x.g.method, .slice B x.g.scopes.length dd, .int .i64 x.g.auth, .int .i64 x.g.level])
                    go_wp2_with (refine wpList_store_row rfl 39 (.tmp 8) (.tmp 97) rfl w.heap.size #[.string x.g.user, .string x.g.client, .string x.g.tenant, .string x.g.session, .string x.g.redirect, .string x.g.nonce, .string x.g.challenge, .int .i64 x.g.method, .slice B x.g.scopes.length dd, .int .i64 x.g.auth, .int .i64 x.g.level] rfl rfl 39 _ HZ7.out (by kernel_rfl) rfl (by simp [Value.oneCell']) ?_)
                    obtain ⟨y0, y1, y2, y3, y4, y5, y6, y7, y8, y9, y10⟩ := cells11 (setRow_heap w7 w.heap.size _ #[.string x.g.user, .string x.g.client, .string x.g.tenant, .string x.g.session, .string x.g.redirect, .string x.g.nonce, .string x.g.challenge, .int .i64 x.g.method, .slice B x.g.scopes.length dd, .int .i64 x.g.auth, .int .i64 x.g.level] _ _ HZ7.out)
                    refine bodyPost_ret (v := .tuple #[.agg #[.string x.g.user, .string x.g.client, .string x.g.tenant, .string x.g.session, .string x.g.redirect, .string x.g.nonce, .string x.g.challenge, .int .i64 x.g.method, .slice B x.g.scopes.length dd, .int .i64 x.g.auth, .int .i64 x.g.level], .int .i64 0]) (by simp [results, Tryd.results27, go_sem, y0, y1, y2, y3, y4, y5, y6, y7, y8, y9, y10]) rfl ?_
                    exact HRI.out
    · as_aux_lemma =>
      have hcb : (x.client.toList == c.toList) = false := by rw [beq_bs]; simpa using fun e => hcl e.symm
      have hcb2 : ¬ x.client.toList = c.toList := by rw [← beq_iff_eq, hcb]; decide
      have HR := Lib.hid (HRB.out 11 (by unfold poE; rw [if_pos hcl]) (Or.inl rfl))
      clear hcl
      go_wp2_with (refine wpList_store_row rfl 39 (.tmp 8) (.tmp 33) rfl w.heap.size #[.string ⟨#[]⟩, .string ⟨#[]⟩, .string ⟨#[]⟩, .string ⟨#[]⟩, .string ⟨#[]⟩, .string ⟨#[]⟩, .string ⟨#[]⟩, .int .i64 0, .slice none 0 0, .int .i64 0, .int .i64 0] rfl rfl 39 _ HZ1.out (by kernel_rfl) rfl (by kernel_rfl) ?_)
      obtain ⟨y0, y1, y2, y3, y4, y5, y6, y7, y8, y9, y10⟩ := cells11 (setRow_heap w1 w.heap.size _ #[.string ⟨#[]⟩, .string ⟨#[]⟩, .string ⟨#[]⟩, .string ⟨#[]⟩, .string ⟨#[]⟩, .string ⟨#[]⟩, .string ⟨#[]⟩, .int .i64 0, .slice none 0 0, .int .i64 0, .int .i64 0] _ _ HZ1.out)
      refine bodyPost_ret (v := .tuple #[.agg #[.string ⟨#[]⟩, .string ⟨#[]⟩, .string ⟨#[]⟩, .string ⟨#[]⟩, .string ⟨#[]⟩, .string ⟨#[]⟩, .string ⟨#[]⟩, .int .i64 0, .slice none 0 0, .int .i64 0, .int .i64 0], .int .i64 11]) (by simp [results, Tryd.results27, go_sem, y0, y1, y2, y3, y4, y5, y6, y7, y8, y9, y10]) rfl ?_
      exact rpol_fin HR.out HE.out.lt HE1.out (Mods.of_below S HBA.out) _
end Go.Proofs.YtapooonlbjgbgaaDoor.Dv
