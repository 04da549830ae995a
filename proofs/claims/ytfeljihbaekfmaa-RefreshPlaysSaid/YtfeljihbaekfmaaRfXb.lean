/-
  The reference: find, at, Family, live, Live, Len.
-/
import Derived.Test.YtfeljihbaekfmaaRfXa
namespace Go.Proofs.Ytfeljihbaekfmaa.Rf
open Go.RowKit Go.Proofs.Ytfeljihbaekfmaa.Fo

/-- The places of a token. -/
def posT (x : Fm) (t : Bs) : Nat := x.toks.findIdx fun s => decide (s = t)
def findV (l : List Fm) (t : Bs) : Int × Int := match tokI l t with
  | none => (-1, -1)
  | some i => match l[i]? with
    | none => (-1, -1)
    | some x => ((i : Int), (posT x t : Int))
theorem findV_hit {l : List Fm} {t : Bs} {i k : Nat} {x : Fm} (hx : l[i]? = some x) (hb : ∀ j y, j < i → l[j]? = some y → t ∉ y.toks) (hk : x.toks[k]? = some t) (hb2 : ∀ j, j < k → x.toks[j]? ≠ some t) : findV l t = ((i : Int), (k : Int)) := by
  have hi := (List.getElem?_eq_some_iff.1 hx).1
  have e1 : tokI l t = some i := by
    unfold tokI
    rw [List.findIdx?_eq_some_iff_getElem]
    refine ⟨hi, ?_, fun j hj => ?_⟩
    · rw [(List.getElem?_eq_some_iff.1 hx).2, memB_iff]
      exact List.mem_of_getElem? hk
    · have hjl : j < l.length := by omega
      rw [Bool.not_eq_true]
      cases hq : memB t l[j].toks with
      | false => rfl
      | true => exact absurd (memB_iff.1 hq) (hb j _ hj (List.getElem?_eq_getElem hjl))
  have e2 : posT x t = k := by
    unfold posT
    have hkl := (List.getElem?_eq_some_iff.1 hk).1
    rw [List.findIdx_eq hkl]
    refine ⟨by simp [(List.getElem?_eq_some_iff.1 hk).2], fun j hj => ?_⟩
    have hjl : j < x.toks.length := by omega
    have := hb2 j hj
    rw [List.getElem?_eq_getElem hjl] at this
    simpa using this
  unfold findV
  rw [e1]
  simp only [hx, e2]
theorem findV_miss {l : List Fm} {t : Bs} (h : ∀ y ∈ l, t ∉ y.toks) : findV l t = (-1, -1) := by
  unfold findV
  rw [tokI_none.2 h]
theorem not_mem_of {l : List Bs} {t : Bs} (h : ∀ j, j < l.length → l[j]? ≠ some t) : t ∉ l := fun hm => by
  obtain ⟨j, hj⟩ := List.getElem?_of_mem hm
  exact h j (List.getElem?_eq_some_iff.1 hj).1 hj
theorem sAt_some {l : List Bs} {i : Nat} (h : i < l.length) : l[i]? = some (sAt l i) := by rw [List.getElem?_eq_getElem h, sAt_get]
set_option maxRecDepth 100000 in
set_option maxHeartbeats 4000000 in
theorem find_any {w : World} {S : Nat → Prop} {G : Nat} {st : St} (h : RefE w S G st) (t : Bs) :
    Calls Try.prog 42 #[.pointer (some ⟨G, 0, none⟩), .string t] w fun e w' => e = .returned (.tuple #[.int .i64 (findV st.l t).1, .int .i64 (findV st.l t).2]) ∧ w = w' := by
  obtain ⟨I, v, es, h⟩ := h
  have H := Lib.hid h
  have hle : es.length ≤ 256 := by rw [h.len]; exact h.inv.len
  obtain ⟨A, c, rfl⟩ := h.own.len
  have c3 := cell_block h.hG 3
  simp only [List.getElem?_toArray, List.getElem?_cons_zero, List.getElem?_cons_succ] at c3
  clear h
  go_enter Try.func42, Try.ntmps42
  go_wp2
  go_loop [6, 7] (fun i _ => ∃ k : Nat, i = .int .i64 k ∧ k ≤ es.length ∧ Hid (∀ j y, j < k → st.l[j]? = some y → t ∉ y.toks)) (fun i _ => es.length - (intOf i).toNat)
  case atStart => exact ⟨0, rfl, Nat.zero_le _, fun j y hj => absurd hj (by omega)⟩
  case round =>
    obtain ⟨k, rfl, hk, HB⟩ := hrel
    by_cases hlt : k < es.length
    · obtain ⟨e, he⟩ : ∃ e, es[k]? = some e := ⟨_, List.getElem?_eq_getElem hlt⟩
      obtain ⟨g, rfl, hg, hc⟩ := H.out.own.at he
      have k12 := hc 12 _ rfl
      have HT := Lib.hid (H.out.tk e (List.mem_of_getElem? he)).1
      have hx := H.out.get he
      have HX := Lib.hid hx
      have htl : e.1.toks.length ≤ 256 := H.out.inv.tl _ (List.mem_of_getElem? hx)
      clear hc he hx
      go_wp2
      go_loop [7] (fun q => ∃ j : Nat, q = .int .i64 j ∧ j ≤ e.1.toks.length ∧ Hid (∀ i, i < j → e.1.toks[i]? ≠ some t)) (fun q => e.1.toks.length - (intOf q).toNat)
      case atStart => exact ⟨0, rfl, Nat.zero_le _, fun j hj => absurd hj (by omega)⟩
      case round =>
        obtain ⟨j, rfl, hj, HJ⟩ := hrel
        by_cases hjl : j < e.1.toks.length
        · obtain ⟨b2, o2, ha2, hb2, hc2⟩ := HT.out.2.2 (by omega)
          have hck := hc2 j hjl
          have HS := Lib.hid (sAt_some (l := e.1.toks) hjl)
          obtain ⟨s, hs⟩ : ∃ s, sAt e.1.toks j = s := ⟨_, rfl⟩
          rw [hs] at hck HS
          rw [ha2] at k12
          clear hs hc2
          by_cases hst : s = t
          · have HF := Lib.hid (findV_hit HX.out HB.out (by rw [HS.out, hst]) HJ.out)
            have hbt : (s.toList == t.toList) = true := by rw [beq_bs]; simpa using hst
            clear hst
            go_wp2
            go_ret2
            rw [HF.out]
            exact ⟨rfl, rfl⟩
          · have HN := Lib.hid (show ∀ i, i < j + 1 → e.1.toks[i]? ≠ some t from fun i hi => by
              by_cases e2 : i = j
              · subst e2; rw [HS.out]; intro h; injection h with h; exact hst h
              · exact HJ.out i (by omega))
            have hbt : (s.toList == t.toList) = false := by rw [beq_bs]; simpa using hst
            clear hst
            go_wp2
            go_round
            case rel => exact ⟨j + 1, by go_num, by omega, HN.out⟩
            case measure => simp [intOf]; omega
        · have HN := Lib.hid (show ∀ q y, q < k + 1 → st.l[q]? = some y → t ∉ y.toks from fun q y hq hy => by
            by_cases e2 : q = k
            · subst e2
              rw [HX.out] at hy
              injection hy with hy
              subst hy
              exact not_mem_of (fun i hi => HJ.out i (by omega))
            · exact HB.out q y (by omega) hy)
          go_wp2
          go_round
          case rel => exact ⟨k + 1, by go_num, by omega, HN.out⟩
          case measure => simp [intOf]; omega
    · have HF := Lib.hid (findV_miss (l := st.l) (t := t) fun y hy => by
        obtain ⟨q, hq⟩ := List.getElem?_of_mem hy
        exact HB.out q y (by have := (List.getElem?_eq_some_iff.1 hq).1; have := H.out.len; omega) hq)
      go_wp2
      go_ret2
      rw [HF.out]
      exact ⟨rfl, rfl⟩
/-- The place of an identifier. -/
def atV (l : List Fm) (i : Bs) : Int := match idI l i with
  | none => -1
  | some k => (k : Int)
theorem atV_hit {l : List Fm} {i : Bs} {k : Nat} {x : Fm} (hx : l[k]? = some x) (hb : ∀ j y, j < k → l[j]? = some y → y.id ≠ i) (hi : x.id = i) : atV l i = (k : Int) := by
  have hk := (List.getElem?_eq_some_iff.1 hx).1
  have e1 : idI l i = some k := by
    unfold idI
    rw [List.findIdx?_eq_some_iff_getElem]
    refine ⟨hk, ?_, fun j hj => ?_⟩
    · rw [(List.getElem?_eq_some_iff.1 hx).2]; simpa using hi
    · have hjl : j < l.length := by omega
      simpa using hb j _ hj (List.getElem?_eq_getElem hjl)
  unfold atV
  rw [e1]
theorem atV_miss {l : List Fm} {i : Bs} (h : ∀ y ∈ l, y.id ≠ i) : atV l i = -1 := by
  unfold atV
  rw [idI_none.2 h]
set_option maxRecDepth 100000 in
set_option maxHeartbeats 4000000 in
theorem at_any {w : World} {S : Nat → Prop} {G : Nat} {st : St} (h : RefE w S G st) (t : Bs) :
    Calls Try.prog 45 #[.pointer (some ⟨G, 0, none⟩), .string t] w fun e w' => e = .returned (.int .i64 (atV st.l t)) ∧ w = w' := by
  obtain ⟨I, v, es, h⟩ := h
  have H := Lib.hid h
  have hle : es.length ≤ 256 := by rw [h.len]; exact h.inv.len
  obtain ⟨A, c, rfl⟩ := h.own.len
  have c3 := cell_block h.hG 3
  simp only [List.getElem?_toArray, List.getElem?_cons_zero, List.getElem?_cons_succ] at c3
  clear h
  go_enter Try.func45, Try.ntmps45
  go_wp2
  go_loop [5] (fun i => ∃ k : Nat, i = .int .i64 k ∧ k ≤ es.length ∧ Hid (∀ j y, j < k → st.l[j]? = some y → y.id ≠ t)) (fun i => es.length - (intOf i).toNat)
  case atStart => exact ⟨0, rfl, Nat.zero_le _, fun j y hj => absurd hj (by omega)⟩
  case round =>
    obtain ⟨k, rfl, hk, HB⟩ := hrel
    by_cases hlt : k < es.length
    · obtain ⟨e, he⟩ : ∃ e, es[k]? = some e := ⟨_, List.getElem?_eq_getElem hlt⟩
      obtain ⟨g, rfl, hg, hc⟩ := H.out.own.at he
      have k0 : w.cell? ⟨g, k * 16, none⟩ = some (.string e.1.id) := hc 0 _ rfl
      have HX := Lib.hid (H.out.get he)
      clear hc he
      by_cases hst : e.1.id = t
      · have HF := Lib.hid (atV_hit HX.out HB.out hst)
        have hbt : (e.1.id.toList == t.toList) = true := by rw [beq_bs]; simpa using hst
        clear hst
        go_wp2
        go_ret
        rw [HF.out]
        exact ⟨rfl, rfl⟩
      · have HN := Lib.hid (show ∀ q y, q < k + 1 → st.l[q]? = some y → y.id ≠ t from fun q y hq hy => by
          by_cases e2 : q = k
          · subst e2
            rw [HX.out] at hy
            injection hy with hy
            subst hy
            exact hst
          · exact HB.out q y (by omega) hy)
        have hbt : (e.1.id.toList == t.toList) = false := by rw [beq_bs]; simpa using hst
        clear hst
        go_wp2
        go_round
        case rel => exact ⟨k + 1, by go_num, by omega, HN.out⟩
        case measure => simp [intOf]; omega
    · have HF := Lib.hid (atV_miss (l := st.l) (i := t) fun y hy => by
        obtain ⟨q, hq⟩ := List.getElem?_of_mem hy
        exact HB.out q y (by have := (List.getElem?_eq_some_iff.1 hq).1; have := H.out.len; omega) hq)
      go_wp2
      go_ret
      rw [HF.out]
      exact ⟨rfl, rfl⟩
theorem rfamily_any {w : World} {S : Nat → Prop} {G : Nat} {st : St} (h : RefE w S G st) (t : Bs) :
    Calls Try.prog 16 #[.pointer (some ⟨G, 0, none⟩), .string t] w (FamIs w (famT st t)) := by
  have HE := Lib.hid h
  obtain ⟨I, v, es, h⟩ := h
  have H := Lib.hid h
  obtain ⟨A, c, rfl⟩ := h.own.len
  have c3 := cell_block h.hG 3
  simp only [List.getElem?_toArray, List.getElem?_cons_zero, List.getElem?_cons_succ] at c3
  clear h
  cases hq : tokI st.l t with
  | none =>
    have HV := Lib.hid (show findV st.l t = (-1, -1) by unfold findV; rw [hq])
    have HF := Lib.hid (show famT st t = none by unfold famT; rw [hq]; rfl)
    clear hq
    go_enter Try.func16, Try.ntmps16
    go_wp2_with fail
    refine (rmade_yes HE.out).mono ?_
    rintro e w1 ⟨rfl, rfl⟩
    go_wp2_with fail
    refine (find_any HE.out t).mono ?_
    rintro e w1 ⟨rfl, rfl⟩
    rw [HV.out]
    go_wp2
    go_ret2
    rw [HF.out]
    exact ⟨rfl, rfl⟩
  | some i =>
    obtain ⟨x, hx, htx⟩ := tokI_some hq
    have HV := Lib.hid (show findV st.l t = ((i : Int), (posT x t : Int)) by unfold findV; rw [hq]; simp only [hx])
    have HF := Lib.hid (show famT st t = some x.id by unfold famT; rw [hq]; simp only [Option.bind_some]; rw [hx]; rfl)
    have hil : i < es.length := by rw [H.out.len]; exact (List.getElem?_eq_some_iff.1 hx).1
    obtain ⟨e, he⟩ : ∃ e, es[i]? = some e := ⟨_, List.getElem?_eq_getElem hil⟩
    have hex : e.1 = x := Option.some.inj ((H.out.get he).symm.trans hx)
    obtain ⟨g, rfl, hg, hc⟩ := H.out.own.at he
    have k0 : w.cell? ⟨g, i * 16, none⟩ = some (.string e.1.id) := hc 0 _ rfl
    simp only [hex] at k0
    clear hq hc he hx htx hex
    go_enter Try.func16, Try.ntmps16
    go_wp2_with fail
    refine (rmade_yes HE.out).mono ?_
    rintro e w1 ⟨rfl, rfl⟩
    go_wp2_with fail
    refine (find_any HE.out t).mono ?_
    rintro e w1 ⟨rfl, rfl⟩
    rw [HV.out]
    go_wp2
    go_ret2
    rw [HF.out]
    exact ⟨rfl, rfl⟩
end Go.Proofs.Ytfeljihbaekfmaa.Rf
