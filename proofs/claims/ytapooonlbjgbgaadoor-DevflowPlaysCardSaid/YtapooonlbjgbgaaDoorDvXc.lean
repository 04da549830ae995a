/-
  The reference: open.
-/
import Derived.Test.YtapooonlbjgbgaaDoorDvXb
import Derived.Deep.MidRow
namespace Go.Proofs.YtapooonlbjgbgaaDoor.Dv
open Go.RowKit Go.Proofs.YtapooonlbjgbgaaDoor.Fo Go.Proofs.YtapooonlbjgbgaaDoor.Rf

/-- What open answers. -/
def opV (r : Option (Nat × Fw) × Int) : Int × Int := match r with
  | (some (i, _), _) => ((i : Int), 0)
  | (none, e) => (-1, e)
theorem fn_bad {st : Fs} {u code : Bs} {now er : Int} (hc : cuC u = (code, er)) (he : er ≠ 0) : opV (fnF st u now) = (-1, er) := by
  unfold fnF
  rw [hc, if_pos he]
  rfl
theorem fn_none {st : Fs} {u code : Bs} {now : Int} (hc : cuC u = (code, 0)) (h : coI st.l code = none) : opV (fnF st u now) = (-1, 6) := by
  unfold fnF
  rw [hc, if_neg (by simp), h]
  rfl
theorem fn_at {st : Fs} {u code : Bs} {now : Int} {i : Nat} {x : Fw} (hc : cuC u = (code, 0)) (h : coI st.l code = some i) (hx : st.l[i]? = some x) : opV (fnF st u now) = if expd now x = true then (-1, 13) else if x.state ≠ 0 then (-1, 12) else ((i : Int), 0) := by
  unfold fnF
  rw [hc, if_neg (by simp), h]
  simp only [hx]
  split
  · rfl
  · split <;> rfl
set_option maxRecDepth 100000 in
set_option maxHeartbeats 4000000 in
theorem ropen_any {w : World} {S : Nat → Prop} {G : Nat} {st : Fs} (h : RefE w S G st) (u : Bs) (hu : u.size ≤ 100000) (now : Int) {v : Int × Int} (hv : opV (fnF st u now) = v) :
    Calls Tryd.prog 60 #[.pointer (some ⟨G, 0, none⟩), .string u, .int .i64 now] w fun e w' => e = .returned (.tuple #[.int .i64 v.1, .int .i64 v.2]) ∧ Below w.heap.size w w' := by
  have HE := Lib.hid h
  obtain ⟨I, rv, es, h⟩ := h
  have hle : es.length ≤ 256 := by rw [h.len]; exact h.inv.len
  obtain ⟨A, c, rfl⟩ := h.own.len
  have H := Lib.hid h
  obtain ⟨⟨code, er⟩, hcu⟩ : ∃ r, cuC u = r := ⟨_, rfl⟩
  have HC := Lib.hid hcu
  clear h
  by_cases he : er = 0
  · subst he
    have HV := Lib.hid hv
    clear hcu hv
    go_enter Tryd.func60, Tryd.ntmps60
    go_wp2_with fail
    refine (made_yes HE.out).mono ?_
    rintro e wx ⟨rfl, rfl⟩
    go_wp2_with fail
    refine (rclean_any u w hu HC.out).mono ?_
    rintro e w1 ⟨rfl, hb⟩
    have HB1 := Lib.hid hb
    have c2 := cell_block (blk_below hb H.out.hG) 2
    simp only [List.getElem?_toArray, List.getElem?_cons_zero, List.getElem?_cons_succ] at c2
    clear hb
    go_wp2_with fail
    go_loop [10] (fun i => ∃ k : Nat, i = .int .i64 k ∧ k ≤ es.length ∧ Hid (∀ j y, j < k → st.l[j]? = some y → y.code ≠ code)) (fun i => es.length - (intOf i).toNat)
    case atStart => exact ⟨0, rfl, Nat.zero_le _, Lib.hid (fun j y hj => absurd hj (by omega))⟩
    case round => as_aux_lemma =>
      obtain ⟨k, rfl, hk, HB⟩ := hrel
      by_cases hlt : k < es.length
      · obtain ⟨e, he⟩ : ∃ e, es[k]? = some e := ⟨_, List.getElem?_eq_getElem hlt⟩
        obtain ⟨g, rfl, hg, hc⟩ := (H.out.below HB1.out).own.at he
        have HX := Lib.hid (H.out.get he)
        have k1 := hc 1 _ rfl
        by_cases hd : e.1.code = code
        · as_aux_lemma =>
          have hbd : (e.1.code.toList == code.toList) = true := by rw [beq_bs]; simpa using hd
          have hbd2 : e.1.code.toList = code.toList := by rw [hd]
          have HF := Lib.hid (show v = if expd now e.1 = true then (-1, 13) else if e.1.state ≠ 0 then (-1, 12) else ((k : Int), 0) by
            rw [← HV.out]
            exact fn_at HC.out (idx_hit HX.out (by simp [hd]) (fun j y hj hy => by simpa using HB.out j y hj hy)) HX.out)
          clear hd he
          have HRG := Lib.hid (show w1.rangeAt g (k * 20) (fl20 e) from fun j u hj => hc j u hj)
          have k6 := hc 6 _ rfl
          clear hc
          obtain ⟨b, hb⟩ : ∃ b, expd now e.1 = b := ⟨_, rfl⟩
          have HEX := Lib.hid hb
          clear hb
          go_wp2_with (refine wpList_load_mid rfl 86 (.tmp 46) rfl g (k * 20) rfl (fl20 e) _ HRG.out rfl rfl (by kernel_rfl) ?_)
          refine (rexp_any e now w1 HEX.out).mono ?_
          rintro r w2 ⟨rfl, hb⟩
          have HB2 := Lib.hid (HB1.out.trans (hb.mono HB1.out.size))
          have k6' := (bkeep hb hg _).trans k6
          have c2' := (bkeep hb (show G < w1.heap.size from blk_lt (blk_below HB1.out H.out.hG)) _).trans c2
          clear hb c2 k6 k1
          cases b with
          | true => as_aux_lemma =>
            have HR := Lib.hid (show v = (-1, 13) by rw [HF.out, if_pos HEX.out])
            go_wp2
            go_ret2
            rw [HR.out]
            exact ⟨rfl, HB2.out⟩
          | false => as_aux_lemma =>
            by_cases hs : e.1.state = 0
            · have HR := Lib.hid (show v = ((k : Int), 0) by rw [HF.out, if_neg (by rw [HEX.out]; decide), if_neg (by rw [hs]; decide)])
              rw [hs] at k6'
              clear hs
              go_wp2
              go_ret2
              rw [HR.out]
              exact ⟨rfl, HB2.out⟩
            · have HR := Lib.hid (show v = (-1, 12) by rw [HF.out, if_neg (by rw [HEX.out]; decide), if_pos hs])
              have hsb : (e.1.state == 0) = false := beq_eq_false_iff_ne.2 hs
              go_wp2
              go_ret2
              rw [HR.out]
              exact ⟨rfl, HB2.out⟩
        · as_aux_lemma =>
          have hbd : (e.1.code.toList == code.toList) = false := by rw [beq_bs]; simpa using hd
          have hbd2 : ¬ e.1.code.toList = code.toList := by rw [← beq_iff_eq, hbd]; decide
          have HD := Lib.hid hd
          clear hd he hc
          go_wp2
          go_round
          case rel => exact ⟨k + 1, by go_num, by omega, Lib.hid (fun j y hj hy => if e2 : j = k then by subst e2; rw [HX.out] at hy; injection hy with hy; rw [← hy]; exact HD.out else HB.out j y (by omega) hy)⟩
          case measure => simp [intOf]; omega
      · as_aux_lemma =>
        have HF := Lib.hid (show v = (-1, 6) by
          rw [← HV.out]
          exact fn_none HC.out (coI_none.2 (fun y hy => by
            obtain ⟨q, hq⟩ := List.getElem?_of_mem hy
            exact HB.out q y (by have := (List.getElem?_eq_some_iff.1 hq).1; have := H.out.len; omega) hq)))
        go_wp2
        go_ret2
        rw [HF.out]
        exact ⟨rfl, HB1.out⟩
  · as_aux_lemma =>
    have HF := Lib.hid (show v = (-1, er) by rw [← hv]; exact fn_bad hcu he)
    have heb : (er == 0) = false := beq_eq_false_iff_ne.2 he
    clear hcu hv
    go_enter Tryd.func60, Tryd.ntmps60
    go_wp2_with fail
    refine (made_yes HE.out).mono ?_
    rintro e wx ⟨rfl, rfl⟩
    go_wp2_with fail
    refine (rclean_any u w hu HC.out).mono ?_
    rintro e w1 ⟨rfl, hb⟩
    have HB1 := Lib.hid hb
    clear hb
    go_wp2
    go_ret2
    rw [HF.out]
    exact ⟨rfl, HB1.out⟩
end Go.Proofs.YtapooonlbjgbgaaDoor.Dv
