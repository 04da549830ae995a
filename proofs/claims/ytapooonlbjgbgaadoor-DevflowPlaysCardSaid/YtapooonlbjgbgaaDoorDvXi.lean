/-
  The reference: Purge.
-/
import Derived.Test.YtapooonlbjgbgaaDoorDvXh
import Derived.Great.BuildSlice
namespace Go.Proofs.YtapooonlbjgbgaaDoor.Dv
open Go.RowKit Go.Proofs.YtapooonlbjgbgaaDoor.Fo Go.Proofs.YtapooonlbjgbgaaDoor.Rf

set_option maxRecDepth 100000 in
theorem fill20 (z : Array Value) (hz : z.size = 20) (e : FwE) : Instr.fill (fun i => some (i * 20, 20)) z [(0, .agg (fl20 e).toArray)] = some (fl20 e).toArray := by
  have h := Great.fill_whole (s := 20) (by decide) [.agg (fl20 e).toArray] z (fun v hv => by
    rw [List.mem_singleton.1 hv]
    rfl) (by rw [hz]; rfl)
  simpa [Value.cells] using h
/-- A slice of one flow is built. -/
theorem wpList_build20 {w : World} {ops : Array Oper} {rest : List Oper} {o : Oper} {a : Act} {Q : Exit → Act → World → Prop} (hg : o.guard = none) (p : Operand) (ho : o.op = .buildSlice 73 1 #[(0, p)]) (e : FwE) (hp : a.eval p = .agg (fl20 e).toArray)
    (h : wpList Tryd.prog ops Q rest (a.put o.dst (.slice (some ⟨w.heap.size, 0, none⟩) 1 1)) (w.alloc (.cells (fl20 e).toArray 86))) : wpList Tryd.prog ops Q (o :: rest) a w := by
  obtain ⟨i0, hi, hz0, hz1, hz2⟩ := info_parts flow_info
  refine wpList_buildSlice hg _ 86 1 #[(0, p)] ho (fl20 e).toArray i0 _ Tryd.underlying73 hi hz0 (by rw [hz1]; decide) (by rw [hz1]; decide) ?_ h
  rw [hz1]
  simp only [List.map_toArray, List.map_cons, List.map_nil, hp]
  exact fill20 _ (by simp) e
theorem wpList_app20 {w : World} {ops : Array Oper} {rest : List Oper} {o : Oper} {a : Act} {Q : Exit → Act → World → Prop} (hgd : o.guard = none) (s x : Operand)
    (ho : o.op = .call { callee := .builtin .append, args := #[s, x], argTypes := #[73, 73] }) (v : Value) (l : List FwE) (hs : a.eval s = v) (hown : OwnR w v l) (q d : Nat) (y : FwE) (hx : a.eval x = .slice (some ⟨q, 0, none⟩) 1 d) (hy : ∀ j u, (fl20 y)[j]? = some u → w.cell? ⟨q, j, none⟩ = some u) (hlen : l.length ≤ 1000)
    (h : ∀ v' w', OwnR w' v' (l ++ [y]) → w.grownBy w' v.ownBlock → (v'.ownBlock = v.ownBlock ∨ v'.ownBlock = some w.heap.size) → wpList Tryd.prog ops Q rest (a.put o.dst v') w') : wpList Tryd.prog ops Q (o :: rest) a w := by
  refine wpList_plain hgd fun K hK => ?_
  obtain ⟨v', w', hr, h2, h3, h4⟩ := app20_run w o.type v l hown q d y hy hlen
  unfold Oper.wp execOp
  simp only [ho, resolve, invoke, builtin, Sem.run_bind, Sem.run_pure, Result.andThen_ok, List.map_toArray, List.map_cons, List.map_nil, hs, hx, hr]
  exact hK _ _ (h v' w' h2 h3 h4)
/-- The flows that are open. -/
def flE (now : Int) (es : List FwE) : List FwE := es.filter fun e => opn now e.1
theorem flE_take {now : Int} {es : List FwE} {k : Nat} {e : FwE} (h : es[k]? = some e) : flE now (es.take (k + 1)) = if opn now e.1 = true then flE now (es.take k) ++ [e] else flE now (es.take k) := by
  unfold flE
  rw [List.take_add_one, h, List.filter_append]
  split
  · next h1 => simp [h1]
  · next h1 => simp [h1]
theorem flE_len (now : Int) (es : List FwE) (k : Nat) : (flE now (es.take k)).length ≤ es.length :=
  Nat.le_trans (List.length_filter_le _ _) (by rw [List.length_take]; omega)
theorem flE_map (now : Int) (es : List FwE) : (flE now es).map Prod.fst = (es.map Prod.fst).filter (opn now) := by
  unfold flE
  rw [List.filter_map]
  rfl
theorem ref_pur {w w2 w3 : World} {S I : Nat → Prop} {G : Nat} {st : Fs} {v v' : Value} {es : List FwE} {now : Int} (h : RefP w S I G st v es) (hb : Below w.heap.size w w2) (ho : OwnR w2 v' (flE now es)) (hv : ∀ g, v'.ownBlock = some g → w.heap.size ≤ g) (h3 : w3 = w2.setCell ⟨G, 2, none⟩ v') :
    RefE w3 (Go.Proofs.YtapooonlbjgbgaaDoor.grow S w w3) G (puS st now) ∧ Mods S w w3 := by
  have hG := h.lt G h.sG.1
  have hz : w3.heap.size = w2.heap.size := by rw [h3]; simp only [sc_size]
  have hbz := hb.size
  have hk : ∀ k, k < w.heap.size → k ≠ G → w3.heap[k]? = w.heap[k]? := fun k hk hne => by rw [h3, Below.heap_setCell _ _ _ _ hne]; exact hb.block k hk
  have hkI : ∀ k, I k → w3.heap[k]? = w.heap[k]? := fun k hk2 => hk k (h.lt k (h.sI k hk2)) (fun e2 => h.sG.2 (by rw [← e2]; exact hk2))
  have hs : ∀ e ∈ flE now es, e ∈ es := fun e he => (List.mem_filter.1 he).1
  refine ⟨⟨I, v', flE now es, ?_, ho.keep (fun g hg => by rw [h3]; exact Below.heap_setCell _ _ _ _ (fun e => by have := hv g hg; simp only at e; omega)), ?_, fun e he => ⟨ss_keep (h.sc e (hs e he)).1 (h.sc e (hs e he)).2 hkI (by omega), (h.sc e (hs e he)).2⟩, fun e he => ⟨ss_keep (h.tk e (hs e he)).1 (h.tk e (hs e he)).2 hkI (by omega), (h.tk e (hs e he)).2⟩, fun k e => Or.inl (h.sI k e), ⟨Or.inl h.sG.1, h.sG.2⟩, fun g hg => ?_, fun k e => ?_, inv_filter h.inv _⟩, ?_⟩
  · rw [h3]
    exact heap_setCell_same _ _ 2 _ _ _ ((hb.block G hG).trans h.hG)
  · rw [flE_map, h.hl]
    rfl
  · have h1 := hv g hg
    have h2 := ho.lt g hg
    exact ⟨Or.inr ⟨h1, by omega⟩, fun e => by have := h.lt g (h.sI g e); omega, fun e => by omega⟩
  · rcases e with e | e
    · have := h.lt k e; omega
    · exact e.2
  · rw [h3]
    exact (Mods.of_below S hb).setCell (p := ⟨G, 2, none⟩) (Or.inl h.sG.1) _
theorem puS_len {w : World} {S I : Nat → Prop} {G : Nat} {st : Fs} {v : Value} {es : List FwE} (now : Int) (h : RefP w S I G st v es) : (puS st now).l.length = (flE now es).length := by
  rw [show (puS st now).l = st.l.filter (opn now) from rfl, ← h.hl, ← flE_map, List.length_map]
set_option maxRecDepth 100000 in
set_option maxHeartbeats 4000000 in
theorem rpur_any {w : World} {S : Nat → Prop} {G : Nat} {st : Fs} (h : RefE w S G st) (now : Int) {n : Int} (hn : (st.l.length : Int) - ((puS st now).l.length : Int) = n) :
    Calls Tryd.prog 32 #[.pointer (some ⟨G, 0, none⟩), .int .i64 now] w fun e w' => e = .returned (.int .i64 n) ∧ RefE w' (Go.Proofs.YtapooonlbjgbgaaDoor.grow S w w') G (puS st now) ∧ Mods S w w' := by
  obtain ⟨I, rv, es, h⟩ := h
  have hle : es.length ≤ 256 := by rw [h.len]; exact h.inv.len
  obtain ⟨A, c, rfl⟩ := h.own.len
  have HN := Lib.hid (show ((es.length : Int) - ((flE now es).length : Int)) = n by rw [← hn, puS_len now h, h.len])
  have HP := Lib.hid h
  clear h hn
  go_enter Tryd.func32, Tryd.ntmps32
  go_wp2
  go_loopw [5, 6] (fun lv iv wr => ∃ k : Nat, iv = .int .i64 k ∧ k ≤ es.length ∧ OwnR wr lv (flE now (es.take k)) ∧ (∀ g, lv.ownBlock = some g → w.heap.size ≤ g) ∧ Below w.heap.size w wr) (fun _ iv _ => es.length - (intOf iv).toNat)
  case atStart => exact ⟨0, rfl, Nat.zero_le _, by simpa [flE] using OwnR.nil w, (fun g hg => by cases hg), Below.refl _ _⟩
  case round =>
    obtain ⟨k, rfl, hk, hown, hbase, hb⟩ := hrel
    obtain ⟨A', c', rfl⟩ := hown.len
    have HO := Lib.hid hown
    have HBS := Lib.hid hbase
    have HB := Lib.hid hb
    have HPW := Lib.hid (HP.out.below hb)
    have c2 := cell_block (blk_below hb HP.out.hG) 2
    simp only [List.getElem?_toArray, List.getElem?_cons_zero, List.getElem?_cons_succ] at c2
    have hfl := flE_len now es k
    clear hown hbase hb
    by_cases hlt : k < es.length
    · obtain ⟨e, he⟩ : ∃ e, es[k]? = some e := ⟨_, List.getElem?_eq_getElem hlt⟩
      obtain ⟨g, rfl, hg, hc⟩ := HPW.out.own.at he
      have HRG := Lib.hid (show wr.rangeAt g (k * 20) (fl20 e) from fun j u hj => hc j u hj)
      have HTK := Lib.hid (flE_take (now := now) he)
      obtain ⟨b, hb⟩ : ∃ b, expd now e.1 = b := ⟨_, rfl⟩
      have HEX := Lib.hid hb
      clear hb hc he
      go_wp2_with (refine wpList_load_mid rfl 86 (.tmp 24) rfl g (k * 20) rfl (fl20 e) _ HRG.out rfl rfl (by kernel_rfl) ?_)
      refine (rexp_any e now wr HEX.out).mono ?_
      rintro r w2 ⟨rfl, hb⟩
      have HB2 := Lib.hid (HB.out.trans (hb.mono HB.out.size))
      have HO2 := Lib.hid (HO.out.keep (fun q hq => hb.block q (HO.out.lt q hq)))
      have c2' := (bkeep hb (show G < wr.heap.size from blk_lt HPW.out.hG) _).trans c2
      have HRG2 := Lib.hid (show w2.rangeAt g (k * 20) (fl20 e) from fun j u hj => (bkeep hb hg _).trans (HRG.out j u hj))
      clear hb c2
      cases b with
      | true => as_aux_lemma =>
        go_wp2
        go_roundw
        case rel => exact ⟨k + 1, by go_num, by omega, by rw [HTK.out, if_neg (by unfold opn; rw [HEX.out]; decide)]; exact HO2.out, HBS.out, HB2.out⟩
        case measure => simp [intOf]; omega
      | false =>
        obtain ⟨w3, hw3⟩ : ∃ w3, w3 = w2.alloc (.cells (fl20 e).toArray 86) := ⟨_, rfl⟩
        have HB3 := Lib.hid (show Below w2.heap.size w2 w3 by rw [hw3]; go_grown)
        have HO3 := Lib.hid (show OwnR (w2.alloc (.cells (fl20 e).toArray 86)) (.slice A' (flE now (es.take k)).length c') (flE now (es.take k)) by rw [← hw3]; exact HO2.out.keep (fun q hq => HB3.out.block q (HO2.out.lt q hq)))
        have HEL3 := Lib.hid (show ∀ j u, (fl20 e)[j]? = some u → (w2.alloc (.cells (fl20 e).toArray 86)).cell? ⟨w2.heap.size, j, none⟩ = some u from fun j u hj => by
          have h1 := cell_block (heap_alloc_new w2 (.cells (fl20 e).toArray 86)) j
          rw [h1, ← hj]
          simp)
        have HW3 := Lib.hid hw3
        clear hw3
        go_wp2_with (first
            | (refine wpList_load_mid rfl 86 (.tmp 35) rfl g (k * 20) rfl (fl20 e) _ HRG2.out rfl rfl (by kernel_rfl) ?_)
            | ((with_reducible refine at_dst 37 ?_); refine wpList_build20 rfl (.tmp 36) rfl e rfl ?_)
            | ((with_reducible refine at_dst 38 ?_); refine wpList_app20 rfl (.tmp 29) (.tmp 37) rfl (.slice A' (flE now (es.take k)).length c') (flE now (es.take k)) rfl HO3.out w2.heap.size 1 e rfl HEL3.out (by omega) ?_; intro v4 w4 hO4 hg4 hv4)
          )
        have HB4 := Lib.hid (show Below w.heap.size w w4 from by
          have h5 := HB3.out.mono (HB2.out.size)
          rw [← HW3.out] at hg4
          have hz3 := HB3.out.size
          have hz2 := HB2.out.size
          exact ⟨hg4.os.trans (HB3.out.os.trans HB2.out.os), hg4.tape.trans (HB3.out.tape.trans HB2.out.tape), hg4.output.trans (HB3.out.output.trans HB2.out.output), by have := hg4.size; omega, fun q hq => (hg4.block q (by omega) (fun e5 => by have := HBS.out q e5.symm; omega)).trans ((HB3.out.block q (by omega)).trans (HB2.out.block q hq))⟩)
        have HBS4 := Lib.hid (show ∀ q, v4.ownBlock = some q → w.heap.size ≤ q from fun q hq => by
          rcases hv4 with h5 | h5
          · rw [h5] at hq; exact HBS.out q hq
          · rw [h5] at hq
            have e6 := Option.some.inj hq
            have hz2 := HB2.out.size
            simp at e6
            omega)
        have HO4 := Lib.hid hO4
        clear hO4 hg4 hv4
        go_wp2
        go_roundw
        case rel => exact ⟨k + 1, by go_num, by omega, by rw [HTK.out, if_pos (by unfold opn; rw [HEX.out]; rfl)]; exact HO4.out, HBS4.out, HB4.out⟩
        case measure => simp [intOf]; omega
    · have hkk : k = es.length := by omega
      rw [hkk, List.take_length] at HO HBS hfl
      have HR := Lib.hid (ref_pur (w3 := wr.setCell ⟨G, 2, none⟩ (.slice A' (flE now es).length c')) HP.out HB.out HO.out HBS.out rfl)
      have f2 : wr.frozen? ⟨G, 2, none⟩ = false := by have := HPW.out.hG; simp only [World.frozen?, this]; rfl
      have HN2 := Lib.hid HN.out
      rw [hkk, List.take_length]
      clear hkk
      go_wp2
      go_ret
      exact ⟨ret_int HN.out, HR.out⟩
end Go.Proofs.YtapooonlbjgbgaaDoor.Dv
