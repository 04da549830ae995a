/-
  The reference: Redeem.
-/
import Derived.Test.YtioabjniipkncaaGreatDoorQcI
import Derived.Deep.MidRow
namespace Go.Proofs.YtioabjniipkncaaGreatDoor.Rc
open Go.RowKit Go.Proofs.YtioabjniipkncaaGreatDoor.Fo Go.Proofs.YtioabjniipkncaaGreatDoor.Rf Go.Maps

theorem setRow_size (w : World) (g : Nat) (cs : Array Value) : (w.setRow g cs).heap.size = w.heap.size := by simp [World.setRow]
/-- A grant and an error come back, the reference's codes have turned. -/
def RRedIs (w : World) (S : Nat → Prop) (G : Nat) (q : Ct × (Gr × Int)) (e : Ending) (w' : World) : Prop :=
  ∃ A d, e = .returned (.tuple #[.agg #[.string q.2.1.user, .string q.2.1.client, .string q.2.1.tenant, .string q.2.1.session, .string q.2.1.redirect, .string q.2.1.nonce, .string q.2.1.challenge, .int .i64 q.2.1.method, .slice A q.2.1.scopes.length d, .int .i64 q.2.1.auth, .int .i64 q.2.1.level], .int .i64 q.2.2]) ∧ Ss w' A q.2.1.scopes.length d q.2.1.scopes ∧ (∀ a, A = some a → 0 < q.2.1.scopes.length → S a.block) ∧ RefE w' S G q.1 ∧ Mods S w w'
theorem rred_fin {w wb : World} {S : Nat → Prop} {G : Nat} {st' : Ct} {k : Int} {q : Ct × (Gr × Int)} (hq : q = (st', (noG, k))) (hlt : ∀ k, S k → k < w.heap.size) (h : RefE wb S G st') (hm : Mods S w wb) (cs : Array Value) : RRedIs w S G q (.returned (.tuple #[.agg #[.string ⟨#[]⟩, .string ⟨#[]⟩, .string ⟨#[]⟩, .string ⟨#[]⟩, .string ⟨#[]⟩, .string ⟨#[]⟩, .string ⟨#[]⟩, .int .i64 0, .slice none 0 0, .int .i64 0, .int .i64 0], .int .i64 k])) (wb.setRow w.heap.size cs) := by
  subst hq
  exact ⟨none, 0, rfl, Ss.nil _ _ _, (fun a ha => (by cases ha)), h.keep (fun _ e => e) (fun k hk => setRow_other wb w.heap.size k cs (by have := hlt k hk; omega)) (by rw [setRow_size]; exact Nat.le_refl _) (fun k hk => by rw [setRow_size]; exact h.lt k hk), ⟨hm.os, hm.tape, hm.output, by rw [setRow_size]; exact hm.size, fun k hk hn => (setRow_other wb w.heap.size k cs (by omega)).trans (hm.block k hk hn)⟩⟩
theorem rred_done {w wb : World} {S : Nat → Prop} {G : Nat} {st' : Ct} {g : Gr} {q : Ct × (Gr × Int)} {B : Option Addr} {d : Nat} (hq : q = (st', (g, 0))) (hlt : ∀ k, S k → k < w.heap.size) (h : RefE wb S G st') (hm : Mods S w wb) (hs : Ss wb B g.scopes.length d g.scopes) (hB : ∀ a, B = some a → 0 < g.scopes.length → S a.block) (cs : Array Value) :
    RRedIs w S G q (.returned (.tuple #[.agg #[.string g.user, .string g.client, .string g.tenant, .string g.session, .string g.redirect, .string g.nonce, .string g.challenge, .int .i64 g.method, .slice B g.scopes.length d, .int .i64 g.auth, .int .i64 g.level], .int .i64 0])) (wb.setRow w.heap.size cs) := by
  subst hq
  have hk : ∀ k, S k → (wb.setRow w.heap.size cs).heap[k]? = wb.heap[k]? := fun k hk => setRow_other wb w.heap.size k cs (by have := hlt k hk; omega)
  exact ⟨B, d, rfl, ss_keep (S := S) hs hB hk (by rw [setRow_size]; exact Nat.le_refl _), hB, h.keep (fun _ e => e) hk (by rw [setRow_size]; exact Nat.le_refl _) (fun k hk => by rw [setRow_size]; exact h.lt k hk), ⟨hm.os, hm.tape, hm.output, by rw [setRow_size]; exact hm.size, fun k hk hn => (setRow_other wb w.heap.size k cs (by omega)).trans (hm.block k hk hn)⟩⟩
theorem own_at' {w : World} {g c m : Nat} {l : List CdE} (hm : m = l.length) (h : OwnR w (.slice (some ⟨g, 0, none⟩) m c) l) {i : Nat} {e : CdE} (hi : l[i]? = some e) (j : Nat) (u : Value) (hu : (fl16 e)[j]? = some u) : w.cell? ⟨g, i * 16 + j, none⟩ = some u := by
  subst hm
  obtain ⟨g', hg', _, hc'⟩ := h.at hi
  injection hg' with hg'
  injection hg' with hg'
  subst hg'
  exact hc' j u hu
theorem cdV_some {l : List Cd} {d : Bs} {i : Nat} (h : cdI l d = some i) : cdV l d = (i : Int) := by unfold cdV; rw [h]
theorem cdV_none {l : List Cd} {d : Bs} (h : cdI l d = none) : cdV l d = -1 := by unfold cdV; rw [h]
theorem inst_q (n : Int) (w : World) : Calls Tryz.prog 24 #[.int .i64 n] w fun e w' => e = .returned (.int .i64 (limI n)) ∧ w' = w := (inst_any n w).mono fun _ _ ⟨h1, h2⟩ => ⟨h1, h2.symm⟩
/-- Where the grant of a code lies in a box of the code. -/
theorem box_grant {w : World} {b : Nat} {e : CdE} (h : w.heap[b]? = some (.cells (fl16 e).toArray 74 (0, 0))) : w.rangeAt b 1 [.string e.1.g.user, .string e.1.g.client, .string e.1.g.tenant, .string e.1.g.session, .string e.1.g.redirect, .string e.1.g.nonce, .string e.1.g.challenge, .int .i64 e.1.g.method, .slice e.2.1 e.1.g.scopes.length e.2.2, .int .i64 e.1.g.auth, .int .i64 e.1.g.level] := fun j u hj => by
  have h1 := cell_block h (1 + j)
  rw [h1, List.getElem?_toArray]
  have e2 : fl16 e = .string e.1.w :: ([.string e.1.g.user, .string e.1.g.client, .string e.1.g.tenant, .string e.1.g.session, .string e.1.g.redirect, .string e.1.g.nonce, .string e.1.g.challenge, .int .i64 e.1.g.method, .slice e.2.1 e.1.g.scopes.length e.2.2, .int .i64 e.1.g.auth, .int .i64 e.1.g.level] ++ [.int .i64 e.1.fin, .bool e.1.used, .bool e.1.att, .bool e.1.drp]) := rfl
  rw [e2, Nat.add_comm 1 j, List.getElem?_cons_succ, List.getElem?_append_left (List.getElem?_eq_some_iff.1 hj).1]
  exact hj
set_option maxRecDepth 100000 in
set_option maxHeartbeats 16000000 in
theorem rred_any {w : World} {S : Nat → Prop} {G : Nat} {st : Ct} (h : RefE w S G st) (t c r v : Bs) (now : Int) (hv : v.size ≤ 100000) {q : Ct × (Gr × Int)} (hq : red st t c r (prv v) now = q) :
    Calls Tryz.prog 27 #[.pointer (some ⟨G, 0, none⟩), .string t, .string c, .string r, .string v, .int .i64 now] w (RRedIs w S G q) := by
  obtain ⟨w0, hw0⟩ : ∃ w0, w0 = w.alloc (.cells #[.string ⟨#[]⟩, .string ⟨#[]⟩, .string ⟨#[]⟩, .string ⟨#[]⟩, .string ⟨#[]⟩, .string ⟨#[]⟩, .string ⟨#[]⟩, .int .i64 0, .slice none 0 0, .int .i64 0, .int .i64 0] 36) := ⟨_, rfl⟩
  have HB0 := Lib.hid (show Below w.heap.size w w0 by rw [hw0]; go_grown)
  have HZ0 := Lib.hid (show w0.heap[w.heap.size]? = some (.cells #[.string ⟨#[]⟩, .string ⟨#[]⟩, .string ⟨#[]⟩, .string ⟨#[]⟩, .string ⟨#[]⟩, .string ⟨#[]⟩, .string ⟨#[]⟩, .int .i64 0, .slice none 0 0, .int .i64 0, .int .i64 0] 36 (0, 0)) by rw [hw0]; exact heap_alloc_new _ _)
  have HE := Lib.hid h
  have HE0 := Lib.hid (h.below HB0.out)
  clear h
  cases hi : cdI st.l t with
  | none => as_aux_lemma =>
    have HR := Lib.hid (hq.symm.trans (red_none hi))
    have HOF := Lib.hid (cdV_none hi)
    clear hi hq
    go_enter Tryz.func27, Tryz.ntmps27
    go_upto_region 1 with fail
    rw [← hw0]
    clear hw0
    go_wp2_with fail
    refine (rfind_any HE0.out t HOF.out).mono ?_
    rintro e wx ⟨rfl, rfl⟩
    go_wp2_with (refine wpList_store_row rfl 36 (.tmp 12) (.tmp 21) rfl w.heap.size #[.string ⟨#[]⟩, .string ⟨#[]⟩, .string ⟨#[]⟩, .string ⟨#[]⟩, .string ⟨#[]⟩, .string ⟨#[]⟩, .string ⟨#[]⟩, .int .i64 0, .slice none 0 0, .int .i64 0, .int .i64 0] rfl rfl 36 _ HZ0.out (by kernel_rfl) rfl (by kernel_rfl) ?_)
    obtain ⟨y0, y1, y2, y3, y4, y5, y6, y7, y8, y9, y10⟩ := cells11 (setRow_heap w0 w.heap.size _ #[.string ⟨#[]⟩, .string ⟨#[]⟩, .string ⟨#[]⟩, .string ⟨#[]⟩, .string ⟨#[]⟩, .string ⟨#[]⟩, .string ⟨#[]⟩, .int .i64 0, .slice none 0 0, .int .i64 0, .int .i64 0] _ _ HZ0.out)
    refine bodyPost_ret (v := .tuple #[.agg #[.string ⟨#[]⟩, .string ⟨#[]⟩, .string ⟨#[]⟩, .string ⟨#[]⟩, .string ⟨#[]⟩, .string ⟨#[]⟩, .string ⟨#[]⟩, .int .i64 0, .slice none 0 0, .int .i64 0, .int .i64 0], .int .i64 6]) (by simp [results, Tryz.results27, go_sem, y0, y1, y2, y3, y4, y5, y6, y7, y8, y9, y10]) rfl ?_
    exact rred_fin HR.out HE.out.lt HE0.out (Mods.of_below S HB0.out) _
  | some i =>
    obtain ⟨x, hx, _⟩ := cdI_some hi
    have HOF := Lib.hid (cdV_some hi)
    have HX := Lib.hid hx
    have HFR := Lib.hid (HE.out.inv.fr x (List.mem_of_getElem? hx))
    have HRA := Lib.hid (fun (k : Int) (hk : redE x c r (prv v x.g) now = k) => hq.symm.trans (red_at hi hx hk))
    have HRB := Lib.hid (fun (k : Int) (hk : redE x c r (prv v x.g) now = k) h0 h1 h2 => hq.symm.trans (red_bad hi hx hk h0 h1 h2))
    obtain ⟨I, rv, es, h⟩ := HE0.out
    have hle : es.length ≤ 256 := by rw [h.len]; exact h.inv.len
    have hil : i < es.length := by have := (List.getElem?_eq_some_iff.1 hx).1; have := h.len; omega
    have HIL := Lib.hid hil
    obtain ⟨e, he⟩ : ∃ e, es[i]? = some e := ⟨_, List.getElem?_eq_getElem hil⟩
    have hex : e.1 = x := Option.some.inj ((h.get he).symm.trans hx)
    obtain ⟨x', sA, sC⟩ := e
    simp only at hex
    subst hex
    rename Cd => x
    obtain ⟨A, ca, rfl⟩ := h.own.len
    have c1 := cell_block h.hG 1
    simp only [List.getElem?_toArray, List.getElem?_cons_zero, List.getElem?_cons_succ] at c1
    obtain ⟨g, rfl, hg, hc2⟩ := h.own.at he
    have HRG := Lib.hid (show w0.rangeAt g (i * 16) (fl16 ((x, sA, sC) : CdE)) from fun j u hj => hc2 j u hj)
    have HEL := Lib.hid he
    have HP0 := Lib.hid h
    have HSG := Lib.hid (show S g from (h.sv g rfl).1)
    have HXG := Lib.hid (show w0.heap.size ≠ g by omega)
    have HZG := Lib.hid (show w.heap.size ≠ g from fun e => by have := HE.out.lt g HSG.out; omega)
    clear hi hx hq h he hc2 hg
    go_enter Tryz.func27, Tryz.ntmps27
    go_upto_region 1 with fail
    rw [← hw0]
    clear hw0
    go_wp2_with fail
    refine (rfind_any HE0.out t HOF.out).mono ?_
    rintro e wx ⟨rfl, rfl⟩
    go_upto_region 5 with (first | ((with_reducible refine at_dst 28 ?_); refine wpList_load_mid rfl 74 (.tmp 27) rfl g (i * 16) rfl (fl16 ((x, sA, sC) : CdE)) _ HRG.out rfl rfl (by kernel_rfl) ?_) | (refine wpList_store_row rfl 74 (.tmp 15) (.tmp 28) rfl w0.heap.size (fl16 ((x, sA, sC) : CdE)).toArray rfl rfl 74 _ (heap_alloc_new _ _) (by kernel_rfl) rfl (all_oneCell_toArray (fl16_one ((x, sA, sC) : CdE))) ?_))
    obtain ⟨w1, hw1⟩ : ∃ w1, w1 = (w0.alloc (.cells #[.string ⟨#[]⟩, .string ⟨#[]⟩, .string ⟨#[]⟩, .string ⟨#[]⟩, .string ⟨#[]⟩, .string ⟨#[]⟩, .string ⟨#[]⟩, .string ⟨#[]⟩, .int .i64 0, .slice none 0 0, .int .i64 0, .int .i64 0, .int .i64 0, .bool false, .bool false, .bool false] 74)).setRow w0.heap.size (fl16 ((x, sA, sC) : CdE)).toArray := ⟨_, rfl⟩
    rw [← hw1]
    have HB1 := Lib.hid (show Below w0.heap.size w0 w1 by rw [hw1]; exact below_setRow (by go_grown) (Nat.le_refl _) _)
    have hx1 : w1.heap[w0.heap.size]? = some (.cells (fl16 ((x, sA, sC) : CdE)).toArray 74 (0, 0)) := by rw [hw1]; exact setRow_heap _ _ _ _ _ _ (heap_alloc_new _ _)
    have HX1 := Lib.hid hx1
    clear hw1 hx1 c1
    have HZ1 := Lib.hid (blk_below HB1.out HZ0.out)
    have HP1 := Lib.hid (HP0.out.below HB1.out)
    have HBA := Lib.hid (HB0.out.trans (HB1.out.mono HB0.out.size))
    have HM1 := Lib.hid (Mods.of_below S HBA.out)
    cases hu : x.used with
    | true => as_aux_lemma =>
      have HR := Lib.hid (show q = ({ st with l := st.l.set i { x with att := true } }, (noG, 18)) by rw [HRA.out 18 (by unfold redE; rw [hu]; rfl)]; rfl)
      have y13 := cell_block HX1.out 13
      simp only [fl16, List.getElem?_toArray, List.getElem?_cons_zero, List.getElem?_cons_succ] at y13
      rw [hu] at y13
      have c1 := cell_block HP1.out.hG 1
      simp only [List.getElem?_toArray, List.getElem?_cons_zero, List.getElem?_cons_succ] at c1
      have f14 := HP1.out.fz (i * 16 + 14)
      have k14 := own_at' rfl HP1.out.own HEL.out 14 _ rfl
      simp only at k14
      clear hu
      go_upto_region 7 with fail
      clear f14 k14 c1 y13
      obtain ⟨w2, hw2⟩ : ∃ w', w' = w1.setCell ⟨g, i * 16 + 14, none⟩ (.bool true) := ⟨_, rfl⟩
      rw [← hw2]
      have HX2 := Lib.hid (show w2.heap[w0.heap.size]? = some (.cells (fl16 ((x, sA, sC) : CdE)).toArray 74 (0, 0)) by rw [hw2]; exact (Below.heap_setCell w1 ⟨g, i * 16 + 14, none⟩ (.bool true) _ HXG.out).trans HX1.out)
      have HZ2 := Lib.hid (show w2.heap[w.heap.size]? = some (.cells #[.string ⟨#[]⟩, .string ⟨#[]⟩, .string ⟨#[]⟩, .string ⟨#[]⟩, .string ⟨#[]⟩, .string ⟨#[]⟩, .string ⟨#[]⟩, .int .i64 0, .slice none 0 0, .int .i64 0, .int .i64 0] 36 (0, 0)) by rw [hw2]; exact (Below.heap_setCell w1 ⟨g, i * 16 + 14, none⟩ (.bool true) _ HZG.out).trans HZ1.out)
      have HP2 := Lib.hid (show RefP w2 S I G { st with l := st.l.set i ({ x with att := true } : Cd) } (.slice (some ⟨g, 0, none⟩) es.length ca) (es.set i (({ x with att := true } : Cd), sA, sC)) by rw [hw2]; exact ref_cell (y := ({ x with att := true } : Cd)) HP1.out HEL.out (by decide) rfl rfl (inv_set HP1.out.inv HX.out ⟨rfl, rfl, rfl⟩))
      have HM2 := Lib.hid (show Mods S w w2 by rw [hw2]; exact HM1.out.setCell (p := ⟨g, i * 16 + 14, none⟩) (Or.inl HSG.out) (.bool true))
      clear hw2
      go_wp2_with (refine wpList_store_row rfl 36 (.tmp 12) (.tmp 38) rfl w.heap.size #[.string ⟨#[]⟩, .string ⟨#[]⟩, .string ⟨#[]⟩, .string ⟨#[]⟩, .string ⟨#[]⟩, .string ⟨#[]⟩, .string ⟨#[]⟩, .int .i64 0, .slice none 0 0, .int .i64 0, .int .i64 0] rfl rfl 36 _ HZ2.out (by kernel_rfl) rfl (by kernel_rfl) ?_)
      obtain ⟨y0, y1, y2, y3, y4, y5, y6, y7, y8, y9, y10⟩ := cells11 (setRow_heap w2 w.heap.size _ #[.string ⟨#[]⟩, .string ⟨#[]⟩, .string ⟨#[]⟩, .string ⟨#[]⟩, .string ⟨#[]⟩, .string ⟨#[]⟩, .string ⟨#[]⟩, .int .i64 0, .slice none 0 0, .int .i64 0, .int .i64 0] _ _ HZ2.out)
      refine bodyPost_ret (v := .tuple #[.agg #[.string ⟨#[]⟩, .string ⟨#[]⟩, .string ⟨#[]⟩, .string ⟨#[]⟩, .string ⟨#[]⟩, .string ⟨#[]⟩, .string ⟨#[]⟩, .int .i64 0, .slice none 0 0, .int .i64 0, .int .i64 0], .int .i64 18]) (by simp [results, Tryz.results27, go_sem, y0, y1, y2, y3, y4, y5, y6, y7, y8, y9, y10]) rfl ?_
      exact rred_fin HR.out HE.out.lt ⟨I, _, _, HP2.out⟩ HM2.out _
    | false =>
      have y13 := cell_block HX1.out 13
      simp only [fl16, List.getElem?_toArray, List.getElem?_cons_zero, List.getElem?_cons_succ] at y13
      rw [hu] at y13
      go_upto_region 8 with fail
      clear y13
      cases hd : x.drp with
      | true => as_aux_lemma =>
        have HR := Lib.hid (HRB.out 25 (by unfold redE; rw [hu, hd]; rfl) (by decide) (by decide) (by decide))
        have y15 := cell_block HX1.out 15
        simp only [fl16, List.getElem?_toArray, List.getElem?_cons_zero, List.getElem?_cons_succ] at y15
        rw [hd] at y15
        clear hu hd
        go_wp2_with (refine wpList_store_row rfl 36 (.tmp 12) (.tmp 41) rfl w.heap.size #[.string ⟨#[]⟩, .string ⟨#[]⟩, .string ⟨#[]⟩, .string ⟨#[]⟩, .string ⟨#[]⟩, .string ⟨#[]⟩, .string ⟨#[]⟩, .int .i64 0, .slice none 0 0, .int .i64 0, .int .i64 0] rfl rfl 36 _ HZ1.out (by kernel_rfl) rfl (by kernel_rfl) ?_)
        obtain ⟨y0, y1, y2, y3, y4, y5, y6, y7, y8, y9, y10⟩ := cells11 (setRow_heap w1 w.heap.size _ #[.string ⟨#[]⟩, .string ⟨#[]⟩, .string ⟨#[]⟩, .string ⟨#[]⟩, .string ⟨#[]⟩, .string ⟨#[]⟩, .string ⟨#[]⟩, .int .i64 0, .slice none 0 0, .int .i64 0, .int .i64 0] _ _ HZ1.out)
        refine bodyPost_ret (v := .tuple #[.agg #[.string ⟨#[]⟩, .string ⟨#[]⟩, .string ⟨#[]⟩, .string ⟨#[]⟩, .string ⟨#[]⟩, .string ⟨#[]⟩, .string ⟨#[]⟩, .int .i64 0, .slice none 0 0, .int .i64 0, .int .i64 0], .int .i64 25]) (by simp [results, Tryz.results27, go_sem, y0, y1, y2, y3, y4, y5, y6, y7, y8, y9, y10]) rfl ?_
        exact rred_fin HR.out HE.out.lt ⟨I, _, _, HP1.out⟩ HM1.out _
      | false =>
        have HRE := Lib.hid (show ∀ b, redE x c r b now = if x.fin ≤ limI now then 13 else if c ≠ x.g.client then 11 else if r ≠ x.g.redirect then 2 else if b = false then 20 else 0 from fun b => by unfold redE; rw [hu, hd]; rfl)
        have y15 := cell_block HX1.out 15
        simp only [fl16, List.getElem?_toArray, List.getElem?_cons_zero, List.getElem?_cons_succ] at y15
        rw [hd] at y15
        go_upto_region 10 with fail
        clear y15 hu hd
        have y12 := cell_block HX1.out 12
        simp only [fl16, List.getElem?_toArray, List.getElem?_cons_zero, List.getElem?_cons_succ] at y12
        obtain ⟨fn, hfn⟩ : ∃ fn, x.fin = fn := ⟨_, rfl⟩
        obtain ⟨ln, hln⟩ : ∃ ln, limI now = ln := ⟨_, rfl⟩
        have HLN := Lib.hid (fun w => hln ▸ inst_q now w)
        rw [hfn] at y12
        by_cases hx13 : fn ≤ ln
        · as_aux_lemma =>
          have HR := Lib.hid (HRB.out 13 (by rw [HRE.out, hfn, hln, if_pos hx13]) (by decide) (by decide) (by decide))
          clear hfn hln
          go_quiet ((go_at_call 24; exact Calls.quiet_of_same (HLN.out _)))
          obtain ⟨w2, hw2⟩ : ∃ w2, w2 = w1.drewN nq := ⟨_, rfl⟩
          rw [← hw2]
          have hb2 : Below w1.heap.size w1 w2 := by rw [hw2]; exact below_drewN (Below.refl _ _) _
          have HP2 := Lib.hid (HP1.out.below hb2)
          have HX2 := Lib.hid (blk_below hb2 HX1.out)
          have HZ2 := Lib.hid (blk_below hb2 HZ1.out)
          have HM2 := Lib.hid (HM1.out.below hb2)
          clear hw2 hb2 y12
          go_wp2_with (refine wpList_store_row rfl 36 (.tmp 12) (.tmp 47) rfl w.heap.size #[.string ⟨#[]⟩, .string ⟨#[]⟩, .string ⟨#[]⟩, .string ⟨#[]⟩, .string ⟨#[]⟩, .string ⟨#[]⟩, .string ⟨#[]⟩, .int .i64 0, .slice none 0 0, .int .i64 0, .int .i64 0] rfl rfl 36 _ HZ2.out (by kernel_rfl) rfl (by kernel_rfl) ?_)
          obtain ⟨y0, y1, y2, y3, y4, y5, y6, y7, y8, y9, y10⟩ := cells11 (setRow_heap w2 w.heap.size _ #[.string ⟨#[]⟩, .string ⟨#[]⟩, .string ⟨#[]⟩, .string ⟨#[]⟩, .string ⟨#[]⟩, .string ⟨#[]⟩, .string ⟨#[]⟩, .int .i64 0, .slice none 0 0, .int .i64 0, .int .i64 0] _ _ HZ2.out)
          refine bodyPost_ret (v := .tuple #[.agg #[.string ⟨#[]⟩, .string ⟨#[]⟩, .string ⟨#[]⟩, .string ⟨#[]⟩, .string ⟨#[]⟩, .string ⟨#[]⟩, .string ⟨#[]⟩, .int .i64 0, .slice none 0 0, .int .i64 0, .int .i64 0], .int .i64 13]) (by simp [results, Tryz.results27, go_sem, y0, y1, y2, y3, y4, y5, y6, y7, y8, y9, y10]) rfl ?_
          exact rred_fin HR.out HE.out.lt ⟨I, _, _, HP2.out⟩ HM2.out _
        · have HRF := Lib.hid (show ∀ b, redE x c r b now = if c ≠ x.g.client then 11 else if r ≠ x.g.redirect then 2 else if b = false then 20 else 0 from fun b => by rw [HRE.out, hfn, hln, if_neg hx13])
          clear hfn hln
          go_quiet ((go_at_call 24; exact Calls.quiet_of_same (HLN.out _)))
          obtain ⟨w2, hw2⟩ : ∃ w2, w2 = w1.drewN nq := ⟨_, rfl⟩
          rw [← hw2]
          have hb2 : Below w1.heap.size w1 w2 := by rw [hw2]; exact below_drewN (Below.refl _ _) _
          have HP2 := Lib.hid (HP1.out.below hb2)
          have HX2 := Lib.hid (blk_below hb2 HX1.out)
          have HZ2 := Lib.hid (blk_below hb2 HZ1.out)
          have HM2 := Lib.hid (HM1.out.below hb2)
          clear hw2 hb2 y12
          go_upto_region 12 with fail
          have y2 := cell_block HX2.out 2
          simp only [fl16, List.getElem?_toArray, List.getElem?_cons_zero, List.getElem?_cons_succ] at y2
          by_cases hc : c = x.g.client
          · have hcb : (c.toList == x.g.client.toList) = true := by rw [beq_bs]; simpa using hc
            have hcb2 : c.toList = x.g.client.toList := by rw [hc]
            have HRG2 := Lib.hid (show ∀ b, redE x c r b now = if r ≠ x.g.redirect then 2 else if b = false then 20 else 0 from fun b => by rw [HRF.out, if_neg (by rw [hc]; simp)])
            clear hc
            go_upto_region 14 with fail
            clear y2 hcb hcb2
            have y5 := cell_block HX2.out 5
            simp only [fl16, List.getElem?_toArray, List.getElem?_cons_zero, List.getElem?_cons_succ] at y5
            by_cases hr : r = x.g.redirect
            · have hrb : (r.toList == x.g.redirect.toList) = true := by rw [beq_bs]; simpa using hr
              have hrb2 : r.toList = x.g.redirect.toList := by rw [hr]
              have HRH := Lib.hid (show ∀ b, redE x c r b now = if b = false then 20 else 0 from fun b => by rw [HRG2.out, if_neg (by rw [hr]; simp)])
              clear hr
              go_upto_region 16 with fail
              clear y5 hrb hrb2
              have c1 := cell_block HP2.out.hG 1
              simp only [List.getElem?_toArray, List.getElem?_cons_zero, List.getElem?_cons_succ] at c1
              have f13 := HP2.out.fz (i * 16 + 13)
              have k13 := own_at' rfl HP2.out.own HEL.out 13 _ rfl
              simp only at k13
              go_upto_region 17 with fail
              clear f13 k13 c1
              obtain ⟨w3, hw3⟩ : ∃ w', w' = w2.setCell ⟨g, i * 16 + 13, none⟩ (.bool true) := ⟨_, rfl⟩
              rw [← hw3]
              have HX3 := Lib.hid (show w3.heap[w0.heap.size]? = some (.cells (fl16 ((x, sA, sC) : CdE)).toArray 74 (0, 0)) by rw [hw3]; exact (Below.heap_setCell w2 ⟨g, i * 16 + 13, none⟩ (.bool true) _ HXG.out).trans HX2.out)
              have HZ3 := Lib.hid (show w3.heap[w.heap.size]? = some (.cells #[.string ⟨#[]⟩, .string ⟨#[]⟩, .string ⟨#[]⟩, .string ⟨#[]⟩, .string ⟨#[]⟩, .string ⟨#[]⟩, .string ⟨#[]⟩, .int .i64 0, .slice none 0 0, .int .i64 0, .int .i64 0] 36 (0, 0)) by rw [hw3]; exact (Below.heap_setCell w2 ⟨g, i * 16 + 13, none⟩ (.bool true) _ HZG.out).trans HZ2.out)
              have HP3 := Lib.hid (show RefP w3 S I G { st with l := st.l.set i ({ x with used := true } : Cd) } (.slice (some ⟨g, 0, none⟩) es.length ca) (es.set i (({ x with used := true } : Cd), sA, sC)) by rw [hw3]; exact ref_cell (y := ({ x with used := true } : Cd)) HP2.out HEL.out (by decide) rfl rfl (inv_set HP2.out.inv HX.out ⟨rfl, rfl, rfl⟩))
              have HM3 := Lib.hid (show Mods S w w3 by rw [hw3]; exact HM2.out.setCell (p := ⟨g, i * 16 + 13, none⟩) (Or.inl HSG.out) (.bool true))
              clear hw3
              have HBG3 := Lib.hid (show w3.rangeAt w0.heap.size 1 [.string x.g.user, .string x.g.client, .string x.g.tenant, .string x.g.session, .string x.g.redirect, .string x.g.nonce, .string x.g.challenge, .int .i64 x.g.method, .slice sA x.g.scopes.length sC, .int .i64 x.g.auth, .int .i64 x.g.level] from box_grant (e := ((x, sA, sC) : CdE)) HX3.out)
              go_wp2_with ((with_reducible refine at_dst 68 ?_); refine wpList_load_mid rfl 36 (.tmp 67) rfl w0.heap.size 1 rfl [.string x.g.user, .string x.g.client, .string x.g.tenant, .string x.g.session, .string x.g.redirect, .string x.g.nonce, .string x.g.challenge, .int .i64 x.g.method, .slice sA x.g.scopes.length sC, .int .i64 x.g.auth, .int .i64 x.g.level] _ HBG3.out rfl rfl (by kernel_rfl) ?_)
              obtain ⟨pv, hpv⟩ : ∃ pv, prv v x.g = pv := ⟨_, rfl⟩
              have HPV := Lib.hid hpv
              refine (rprv_any x.g HFR.out sA x.g.scopes.length sC v w3 hv).mono ?_
              rintro e w4 ⟨rfl, hb⟩
              rw [hpv]
              have HX4 := Lib.hid (blk_below hb HX3.out)
              have HZ4 := Lib.hid (blk_below hb HZ3.out)
              have HP4 := Lib.hid (HP3.out.below hb)
              have HM4 := Lib.hid (HM3.out.below hb)
              clear hb hpv
              cases pv with
              | false => as_aux_lemma =>
                have HR := Lib.hid (show q = ({ st with l := st.l.set i { x with used := true } }, (noG, 20)) by rw [HRA.out 20 (by rw [HRH.out, HPV.out]; rfl)]; rfl)
                go_wp2_with (refine wpList_store_row rfl 36 (.tmp 12) (.tmp 72) rfl w.heap.size #[.string ⟨#[]⟩, .string ⟨#[]⟩, .string ⟨#[]⟩, .string ⟨#[]⟩, .string ⟨#[]⟩, .string ⟨#[]⟩, .string ⟨#[]⟩, .int .i64 0, .slice none 0 0, .int .i64 0, .int .i64 0] rfl rfl 36 _ HZ4.out (by kernel_rfl) rfl (by kernel_rfl) ?_)
                obtain ⟨y0, y1, y2, y3, y4, y5, y6, y7, y8, y9, y10⟩ := cells11 (setRow_heap w4 w.heap.size _ #[.string ⟨#[]⟩, .string ⟨#[]⟩, .string ⟨#[]⟩, .string ⟨#[]⟩, .string ⟨#[]⟩, .string ⟨#[]⟩, .string ⟨#[]⟩, .int .i64 0, .slice none 0 0, .int .i64 0, .int .i64 0] _ _ HZ4.out)
                refine bodyPost_ret (v := .tuple #[.agg #[.string ⟨#[]⟩, .string ⟨#[]⟩, .string ⟨#[]⟩, .string ⟨#[]⟩, .string ⟨#[]⟩, .string ⟨#[]⟩, .string ⟨#[]⟩, .int .i64 0, .slice none 0 0, .int .i64 0, .int .i64 0], .int .i64 20]) (by simp [results, Tryz.results27, go_sem, y0, y1, y2, y3, y4, y5, y6, y7, y8, y9, y10]) rfl ?_
                exact rred_fin HR.out HE.out.lt ⟨I, _, _, HP4.out⟩ HM4.out _
              | true => as_aux_lemma =>
                have HR := Lib.hid (show q = ({ st with l := st.l.set i { x with used := true } }, (x.g, 0)) by rw [HRA.out 0 (by rw [HRH.out, HPV.out]; rfl)]; rfl)
                have HTK := Lib.hid (HP4.out.tk (({ x with used := true } : Cd), sA, sC) (List.mem_of_getElem? (show (es.set i (({ x with used := true } : Cd), sA, sC))[i]? = some (({ x with used := true } : Cd), sA, sC) by rw [List.getElem?_set, if_pos rfl, if_pos HIL.out])))
                have HBG4 := Lib.hid (show w4.rangeAt w0.heap.size 1 [.string x.g.user, .string x.g.client, .string x.g.tenant, .string x.g.session, .string x.g.redirect, .string x.g.nonce, .string x.g.challenge, .int .i64 x.g.method, .slice sA x.g.scopes.length sC, .int .i64 x.g.auth, .int .i64 x.g.level] from box_grant (e := ((x, sA, sC) : CdE)) HX4.out)
                go_wp2_with (first | ((with_reducible refine at_dst 74 ?_); refine wpList_load_mid rfl 36 (.tmp 73) rfl w0.heap.size 1 rfl [.string x.g.user, .string x.g.client, .string x.g.tenant, .string x.g.session, .string x.g.redirect, .string x.g.nonce, .string x.g.challenge, .int .i64 x.g.method, .slice sA x.g.scopes.length sC, .int .i64 x.g.auth, .int .i64 x.g.level] _ HBG4.out rfl rfl (by kernel_rfl) ?_) | (refine wpList_store_row rfl 36 (.tmp 12) (.tmp 74) rfl w.heap.size #[.string x.g.user, .string x.g.client, .string x.g.tenant, .string x.g.session, .string x.g.redirect, .string x.g.nonce, .string x.g.challenge, .int .i64 x.g.method, .slice sA x.g.scopes.length sC, .int .i64 x.g.auth, .int .i64 x.g.level] rfl rfl 36 _ HZ4.out (by kernel_rfl) rfl (by kernel_rfl) ?_))
                obtain ⟨y0, y1, y2, y3, y4, y5, y6, y7, y8, y9, y10⟩ := cells11 (setRow_heap w4 w.heap.size _ #[.string x.g.user, .string x.g.client, .string x.g.tenant, .string x.g.session, .string x.g.redirect, .string x.g.nonce, .string x.g.challenge, .int .i64 x.g.method, .slice sA x.g.scopes.length sC, .int .i64 x.g.auth, .int .i64 x.g.level] _ _ HZ4.out)
                refine bodyPost_ret (v := .tuple #[.agg #[.string x.g.user, .string x.g.client, .string x.g.tenant, .string x.g.session, .string x.g.redirect, .string x.g.nonce, .string x.g.challenge, .int .i64 x.g.method, .slice sA x.g.scopes.length sC, .int .i64 x.g.auth, .int .i64 x.g.level], .int .i64 0]) (by simp [results, Tryz.results27, go_sem, y0, y1, y2, y3, y4, y5, y6, y7, y8, y9, y10]) rfl ?_
                exact rred_done HR.out HE.out.lt ⟨I, _, _, HP4.out⟩ HM4.out HTK.out.1 (fun a ha hn => HP4.out.sI _ (HTK.out.2 a ha hn)) _
            · as_aux_lemma =>
              have hrb : (r.toList == x.g.redirect.toList) = false := by rw [beq_bs]; simpa using hr
              have hrb2 : ¬ r.toList = x.g.redirect.toList := by rw [← beq_iff_eq, hrb]; decide
              have HR := Lib.hid (HRB.out 2 (by rw [HRG2.out, if_pos hr]) (by decide) (by decide) (by decide))
              clear hr
              go_wp2_with (refine wpList_store_row rfl 36 (.tmp 12) (.tmp 59) rfl w.heap.size #[.string ⟨#[]⟩, .string ⟨#[]⟩, .string ⟨#[]⟩, .string ⟨#[]⟩, .string ⟨#[]⟩, .string ⟨#[]⟩, .string ⟨#[]⟩, .int .i64 0, .slice none 0 0, .int .i64 0, .int .i64 0] rfl rfl 36 _ HZ2.out (by kernel_rfl) rfl (by kernel_rfl) ?_)
              obtain ⟨y0, y1, y2, y3, y4, y5, y6, y7, y8, y9, y10⟩ := cells11 (setRow_heap w2 w.heap.size _ #[.string ⟨#[]⟩, .string ⟨#[]⟩, .string ⟨#[]⟩, .string ⟨#[]⟩, .string ⟨#[]⟩, .string ⟨#[]⟩, .string ⟨#[]⟩, .int .i64 0, .slice none 0 0, .int .i64 0, .int .i64 0] _ _ HZ2.out)
              refine bodyPost_ret (v := .tuple #[.agg #[.string ⟨#[]⟩, .string ⟨#[]⟩, .string ⟨#[]⟩, .string ⟨#[]⟩, .string ⟨#[]⟩, .string ⟨#[]⟩, .string ⟨#[]⟩, .int .i64 0, .slice none 0 0, .int .i64 0, .int .i64 0], .int .i64 2]) (by simp [results, Tryz.results27, go_sem, y0, y1, y2, y3, y4, y5, y6, y7, y8, y9, y10]) rfl ?_
              exact rred_fin HR.out HE.out.lt ⟨I, _, _, HP2.out⟩ HM2.out _
          · as_aux_lemma =>
            have hcb : (c.toList == x.g.client.toList) = false := by rw [beq_bs]; simpa using hc
            have hcb2 : ¬ c.toList = x.g.client.toList := by rw [← beq_iff_eq, hcb]; decide
            have HR := Lib.hid (HRB.out 11 (by rw [HRF.out, if_pos hc]) (by decide) (by decide) (by decide))
            clear hc
            go_wp2_with (refine wpList_store_row rfl 36 (.tmp 12) (.tmp 53) rfl w.heap.size #[.string ⟨#[]⟩, .string ⟨#[]⟩, .string ⟨#[]⟩, .string ⟨#[]⟩, .string ⟨#[]⟩, .string ⟨#[]⟩, .string ⟨#[]⟩, .int .i64 0, .slice none 0 0, .int .i64 0, .int .i64 0] rfl rfl 36 _ HZ2.out (by kernel_rfl) rfl (by kernel_rfl) ?_)
            obtain ⟨y0, y1, y2, y3, y4, y5, y6, y7, y8, y9, y10⟩ := cells11 (setRow_heap w2 w.heap.size _ #[.string ⟨#[]⟩, .string ⟨#[]⟩, .string ⟨#[]⟩, .string ⟨#[]⟩, .string ⟨#[]⟩, .string ⟨#[]⟩, .string ⟨#[]⟩, .int .i64 0, .slice none 0 0, .int .i64 0, .int .i64 0] _ _ HZ2.out)
            refine bodyPost_ret (v := .tuple #[.agg #[.string ⟨#[]⟩, .string ⟨#[]⟩, .string ⟨#[]⟩, .string ⟨#[]⟩, .string ⟨#[]⟩, .string ⟨#[]⟩, .string ⟨#[]⟩, .int .i64 0, .slice none 0 0, .int .i64 0, .int .i64 0], .int .i64 11]) (by simp [results, Tryz.results27, go_sem, y0, y1, y2, y3, y4, y5, y6, y7, y8, y9, y10]) rfl ?_
            exact rred_fin HR.out HE.out.lt ⟨I, _, _, HP2.out⟩ HM2.out _
end Go.Proofs.YtioabjniipkncaaGreatDoor.Rc
