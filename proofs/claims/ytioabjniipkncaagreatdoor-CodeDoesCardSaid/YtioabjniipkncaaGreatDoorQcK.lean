/-
  The reference: Purge.
-/
import Derived.Test.YtioabjniipkncaaGreatDoorQcI
import Derived.Deep.MidRow
namespace Go.Proofs.YtioabjniipkncaaGreatDoor.Rc
open Go.RowKit Go.Proofs.YtioabjniipkncaaGreatDoor.Fo Go.Proofs.YtioabjniipkncaaGreatDoor.Rf Go.Maps

theorem inst_q2 (n : Int) (w : World) : Calls Tryz.prog 24 #[.int .i64 n] w fun e w' => e = .returned (.int .i64 (limI n)) ∧ w' = w := (inst_any n w).mono fun _ _ ⟨h1, h2⟩ => ⟨h1, h2.symm⟩
theorem radd_q (t d : Int) (w : World) : Calls Tryz.prog 48 #[.int .i64 t, .int .i64 d] w fun e w' => e = .returned (.int .i64 (addC t d)) ∧ w' = w := (radd_any t d w).mono fun _ _ ⟨h1, h2⟩ => ⟨h1, h2.symm⟩
/-- The codes that stay. -/
def flE (life now : Int) (es : List CdE) : List CdE := es.filter fun e => !old life now e.1
theorem flE_take {life now : Int} {es : List CdE} {k : Nat} {e : CdE} (h : es[k]? = some e) : flE life now (es.take (k + 1)) = if old life now e.1 = false then flE life now (es.take k) ++ [e] else flE life now (es.take k) := by
  unfold flE
  rw [List.take_add_one, h, List.filter_append]
  cases h1 : old life now e.1 <;> simp [h1]
theorem flE_len (life now : Int) (es : List CdE) (k : Nat) : (flE life now (es.take k)).length ≤ es.length :=
  Nat.le_trans (List.length_filter_le _ _) (by rw [List.length_take]; omega)
theorem flE_map (life now : Int) (es : List CdE) : (flE life now es).map Prod.fst = (es.map Prod.fst).filter fun x => !old life now x := by
  unfold flE
  rw [List.filter_map]
  rfl
theorem ref_pur {w w2 w3 : World} {S I : Nat → Prop} {G : Nat} {st : Ct} {v v' : Value} {es : List CdE} {now : Int} (h : RefP w S I G st v es) (hb : Below w.heap.size w w2) (ho : OwnR w2 v' (flE st.life now es)) (hv : ∀ g, v'.ownBlock = some g → w.heap.size ≤ g) (h3 : w3 = w2.setCell ⟨G, 1, none⟩ v') :
    RefE w3 (Go.Proofs.YtioabjniipkncaaGreatDoor.grow S w w3) G (puS st now) ∧ Mods S w w3 := by
  have hG := h.lt G h.sG.1
  have hz : w3.heap.size = w2.heap.size := by rw [h3]; simp only [sc_size]
  have hbz := hb.size
  have hk : ∀ k, k < w.heap.size → k ≠ G → w3.heap[k]? = w.heap[k]? := fun k hk hne => by rw [h3, Below.heap_setCell _ _ _ _ hne]; exact hb.block k hk
  have hkI : ∀ k, I k → w3.heap[k]? = w.heap[k]? := fun k hk2 => hk k (h.lt k (h.sI k hk2)) (fun e2 => h.sG.2 (by rw [← e2]; exact hk2))
  have hs : ∀ e ∈ flE st.life now es, e ∈ es := fun e he => (List.mem_filter.1 he).1
  refine ⟨⟨I, v', flE st.life now es, ?_, ho.keep (fun g hg => by rw [h3]; exact Below.heap_setCell _ _ _ _ (fun e => by have := hv g hg; simp only at e; omega)), ?_, fun e he => ⟨ss_keep (h.tk e (hs e he)).1 (h.tk e (hs e he)).2 hkI (by omega), (h.tk e (hs e he)).2⟩, fun k e => Or.inl (h.sI k e), ⟨Or.inl h.sG.1, h.sG.2⟩, fun g hg => ?_, fun k e => ?_, inv_filter h.inv _⟩, ?_⟩
  · rw [h3]
    exact heap_setCell_same _ _ 1 _ _ _ ((hb.block G hG).trans h.hG)
  · rw [flE_map, h.hl]
    rfl
  · have h1 := hv g hg
    have h2 := ho.lt g hg
    exact ⟨Or.inr ⟨h1, by omega⟩, fun e => by have := h.lt g (h.sI g e); omega, fun e => by omega⟩
  · rcases e with e | e
    · have := h.lt k e; omega
    · exact e.2
  · rw [h3]
    exact (Mods.of_below S hb).setCell (p := ⟨G, 1, none⟩) (Or.inl h.sG.1) _
theorem puS_len {w : World} {S I : Nat → Prop} {G : Nat} {st : Ct} {v : Value} {es : List CdE} (now : Int) (h : RefP w S I G st v es) : (puS st now).l.length = (flE st.life now es).length := by
  rw [show (puS st now).l = st.l.filter (fun x => !old st.life now x) from rfl, ← h.hl, ← flE_map, List.length_map]
set_option maxRecDepth 100000 in
set_option maxHeartbeats 16000000 in
theorem rpur_any {w : World} {S : Nat → Prop} {G : Nat} {st : Ct} (h : RefE w S G st) (now : Int) {n : Int} (hn : (st.l.length : Int) - ((puS st now).l.length : Int) = n) :
    Calls Tryz.prog 32 #[.pointer (some ⟨G, 0, none⟩), .int .i64 now] w fun e w' => e = .returned (.int .i64 n) ∧ RefE w' (Go.Proofs.YtioabjniipkncaaGreatDoor.grow S w w') G (puS st now) ∧ Mods S w w' := by
  obtain ⟨I, rv, es, h⟩ := h
  have hle : es.length ≤ 256 := by rw [h.len]; exact h.inv.len
  obtain ⟨A, c, rfl⟩ := h.own.len
  have HN := Lib.hid (show ((es.length : Int) - ((flE st.life now es).length : Int)) = n by rw [← hn, puS_len now h, h.len])
  have HP := Lib.hid h
  clear h hn
  go_enter Tryz.func32, Tryz.ntmps32
  go_wp2
  go_loopw [5, 6] (fun lv iv wr => ∃ k : Nat, iv = .int .i64 k ∧ k ≤ es.length ∧ OwnR wr lv (flE st.life now (es.take k)) ∧ (∀ g, lv.ownBlock = some g → w.heap.size ≤ g) ∧ Below w.heap.size w wr) (fun _ iv _ => es.length - (intOf iv).toNat)
  case atStart => exact ⟨0, rfl, Nat.zero_le _, by simpa [flE] using OwnR.nil w, (fun g hg => by cases hg), Below.refl _ _⟩
  case round =>
    obtain ⟨k, rfl, hk, hown, hbase, hb⟩ := hrel
    obtain ⟨A', c', rfl⟩ := hown.len
    have HO := Lib.hid hown
    have HBS := Lib.hid hbase
    have HB := Lib.hid hb
    have HPW := Lib.hid (HP.out.below hb)
    have c1 := cell_block (blk_below hb HP.out.hG) 1
    have c0 := cell_block (blk_below hb HP.out.hG) 0
    simp only [List.getElem?_toArray, List.getElem?_cons_zero, List.getElem?_cons_succ] at c0 c1
    have hfl := flE_len st.life now es k
    clear hown hbase hb
    by_cases hlt : k < es.length
    · obtain ⟨e, he⟩ : ∃ e, es[k]? = some e := ⟨_, List.getElem?_eq_getElem hlt⟩
      obtain ⟨g, rfl, hg, hc⟩ := HPW.out.own.at he
      have HRG := Lib.hid (show wr.rangeAt g (k * 16) (fl16 e) from fun j u hj => hc j u hj)
      have HTK := Lib.hid (flE_take (life := st.life) (now := now) he)
      have k12 := hc 12 _ rfl
      obtain ⟨ef, hef⟩ : ∃ ef, e.1.fin = ef := ⟨_, rfl⟩
      obtain ⟨lf, hlf⟩ : ∃ lf, st.life = lf := ⟨_, rfl⟩
      rw [hef] at k12
      rw [hlf] at c0
      obtain ⟨ae, hae⟩ : ∃ ae, addC ef lf = ae := ⟨_, rfl⟩
      obtain ⟨ln, hln⟩ : ∃ ln, limI now = ln := ⟨_, rfl⟩
      have HAE := Lib.hid (fun w => hae ▸ radd_q ef lf w)
      have HLN := Lib.hid (fun w => hln ▸ inst_q2 now w)
      have HOL := Lib.hid (show old st.life now e.1 = decide (ae ≤ ln) by unfold old; rw [hef, hlf, hae, hln])
      clear hc he hef hlf hae hln
      by_cases hgt : ae ≤ ln
      · as_aux_lemma =>
        have hng : ¬ ln < ae := by omega
        have HOT := Lib.hid (show old st.life now e.1 = true by rw [HOL.out]; exact decide_eq_true hgt)
        clear hgt
        go_wp2_with fail
        go_quiet ((first | (go_at_call 48; exact Calls.quiet_of_same (HAE.out _)) | (go_at_call 24; exact Calls.quiet_of_same (HLN.out _))))
        go_wp2
        go_roundw
        case rel => exact ⟨k + 1, by go_num, by omega, by rw [HTK.out, if_neg (by rw [HOT.out]; decide)]; exact HO.out.keep (fun _ _ => rfl), HBS.out, below_drewN HB.out _⟩
        case measure => simp [intOf]; omega
      · as_aux_lemma =>
        have hng : ln < ae := by omega
        have HOT := Lib.hid (show old st.life now e.1 = false by rw [HOL.out]; exact decide_eq_false hgt)
        clear hgt
        go_wp2_with fail
        go_quiet ((first | (go_at_call 48; exact Calls.quiet_of_same (HAE.out _)) | (go_at_call 24; exact Calls.quiet_of_same (HLN.out _))))
        obtain ⟨w2, hw2⟩ : ∃ w2, w2 = wr.drewN nq := ⟨_, rfl⟩
        rw [← hw2]
        have hb2 : Below wr.heap.size wr w2 := by rw [hw2]; exact below_drewN (Below.refl _ _) _
        have HB2 := Lib.hid (HB.out.trans (hb2.mono HB.out.size))
        have HO2 := Lib.hid (HO.out.keep (fun q hq => hb2.block q (HO.out.lt q hq)))
        have c1' := (bkeep hb2 (show G < wr.heap.size from blk_lt HPW.out.hG) _).trans c1
        have HRG2 := Lib.hid (show w2.rangeAt g (k * 16) (fl16 e) from fun j u hj => (bkeep hb2 hg _).trans (HRG.out j u hj))
        clear hb2 c1 c0 k12 hw2
        obtain ⟨w3, hw3⟩ : ∃ w3, w3 = w2.alloc (.cells (fl16 e).toArray 74) := ⟨_, rfl⟩
        have HB3 := Lib.hid (show Below w2.heap.size w2 w3 by rw [hw3]; go_grown)
        have HO3 := Lib.hid (show OwnR (w2.alloc (.cells (fl16 e).toArray 74)) (.slice A' (flE st.life now (es.take k)).length c') (flE st.life now (es.take k)) by rw [← hw3]; exact HO2.out.keep (fun q hq => HB3.out.block q (HO2.out.lt q hq)))
        have HEL3 := Lib.hid (show ∀ j u, (fl16 e)[j]? = some u → (w2.alloc (.cells (fl16 e).toArray 74)).cell? ⟨w2.heap.size, j, none⟩ = some u from fun j u hj => by
          have h1 := cell_block (heap_alloc_new w2 (.cells (fl16 e).toArray 74)) j
          rw [h1, ← hj]
          simp)
        have HW3 := Lib.hid hw3
        clear hw3
        go_wp2_with (first
            | (refine wpList_load_mid rfl 74 (.tmp 39) rfl g (k * 16) rfl (fl16 e) _ HRG2.out rfl rfl (by kernel_rfl) ?_)
            | ((with_reducible refine at_dst 41 ?_); refine wpList_build16 rfl (.tmp 40) rfl e rfl ?_)
            | ((with_reducible refine at_dst 42 ?_); refine wpList_app16 rfl (.tmp 33) (.tmp 41) rfl (.slice A' (flE st.life now (es.take k)).length c') (flE st.life now (es.take k)) rfl HO3.out w2.heap.size 1 e rfl HEL3.out (by omega) ?_; intro v4 w4 hO4 hg4 hv4)          )
        have HB4 := Lib.hid (show Below w.heap.size w w4 from by
          have h5 := HB3.out.mono (HB2.out.size)
          rw [← HW3.out] at hg4
          have hz3 := HB3.out.size
          have hz2 := HB2.out.size
          exact ⟨hg4.os.trans (HB3.out.os.trans HB2.out.os), hg4.tape.trans (HB3.out.tape.trans HB2.out.tape), hg4.output.trans (HB3.out.output.trans HB2.out.output), by have := hg4.size; omega, fun q hq => (hg4.block q (by omega) (fun e5 => by have := HBS.out q e5.symm; omega)).trans ((HB3.out.block q (by omega)).trans (HB2.out.block q hq))⟩)
        have HBS4 := Lib.hid (show ∀ q, v4.ownBlock = some q → w.heap.size ≤ q from fun q hq => by
          rcases hv4 with h5 | h5
          · rw [h5] at hq; exact HBS.out q hq
          · rw [h5] at hq
            have e6 := Option.some.inj hq
            have hz2 := HB2.out.size
            simp at e6
            omega)
        have HO4 := Lib.hid hO4
        clear hO4 hg4 hv4
        go_wp2
        go_roundw
        case rel => exact ⟨k + 1, by go_num, by omega, by rw [HTK.out, if_pos HOT.out]; exact HO4.out, HBS4.out, HB4.out⟩
        case measure => simp [intOf]; omega
    · have hkk : k = es.length := by omega
      rw [hkk, List.take_length] at HO HBS hfl
      have HR := Lib.hid (ref_pur (w3 := wr.setCell ⟨G, 1, none⟩ (.slice A' (flE st.life now es).length c')) HP.out HB.out HO.out HBS.out rfl)
      have f2 : wr.frozen? ⟨G, 1, none⟩ = false := by have := HPW.out.hG; simp only [World.frozen?, this]; rfl
      have HN2 := Lib.hid HN.out
      rw [hkk, List.take_length]
      clear hkk
      go_wp2
      go_ret
      exact ⟨ret_int HN.out, HR.out⟩
end Go.Proofs.YtioabjniipkncaaGreatDoor.Rc
