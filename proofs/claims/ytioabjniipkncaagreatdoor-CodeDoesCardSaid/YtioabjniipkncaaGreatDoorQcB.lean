/-
  The reference: find, Redeemed, Attacked.
-/
import Derived.Test.YtioabjniipkncaaGreatDoorQcA
namespace Go.Proofs.YtioabjniipkncaaGreatDoor.Rc
open Go.RowKit Go.Proofs.YtioabjniipkncaaGreatDoor.Fo Go.Proofs.YtioabjniipkncaaGreatDoor.Rf Go.Maps

theorem idx_hit {p : Cd → Bool} {l : List Cd} {i : Nat} {x : Cd} (hx : l[i]? = some x) (hp : p x = true) (hb : ∀ j y, j < i → l[j]? = some y → p y = false) : l.findIdx? p = some i := by
  have hi := (List.getElem?_eq_some_iff.1 hx).1
  rw [List.findIdx?_eq_some_iff_getElem]
  refine ⟨hi, by rw [(List.getElem?_eq_some_iff.1 hx).2]; exact hp, fun j hj => ?_⟩
  have hjl : j < l.length := by omega
  rw [hb j _ hj (List.getElem?_eq_getElem hjl)]
  decide
def cdV (l : List Cd) (d : Bs) : Int := match cdI l d with | none => -1 | some i => (i : Int)
theorem rfind_any {w : World} {S : Nat → Prop} {G : Nat} {st : Ct} (h : RefE w S G st) (d : Bs) {v : Int} (hv : cdV st.l d = v) :
    Calls Tryz.prog 45 #[.pointer (some ⟨G, 0, none⟩), .string d] w fun e w' => e = .returned (.int .i64 v) ∧ w = w' := by
  obtain ⟨I, rv, es, h⟩ := h
  have H := Lib.hid h
  have HV := Lib.hid hv
  have hle : es.length ≤ 256 := by rw [h.len]; exact h.inv.len
  obtain ⟨A, c, rfl⟩ := h.own.len
  have c1 := cell_block h.hG 1
  simp only [List.getElem?_toArray, List.getElem?_cons_zero, List.getElem?_cons_succ] at c1
  clear h hv
  go_enter Tryz.func45, Tryz.ntmps45
  go_wp2
  go_loop [5] (fun i => ∃ k : Nat, i = .int .i64 k ∧ k ≤ es.length ∧ Hid (∀ j y, j < k → st.l[j]? = some y → y.w ≠ d)) (fun i => es.length - (intOf i).toNat)
  case atStart => exact ⟨0, rfl, Nat.zero_le _, Lib.hid (fun j y hj => absurd hj (by omega))⟩
  case round =>
    obtain ⟨k, rfl, hk, HB⟩ := hrel
    by_cases hlt : k < es.length
    · obtain ⟨e, he⟩ : ∃ e, es[k]? = some e := ⟨_, List.getElem?_eq_getElem hlt⟩
      obtain ⟨g, rfl, hg, hc⟩ := H.out.own.at he
      have k0 := hc 0 _ rfl
      have HX := Lib.hid (H.out.get he)
      obtain ⟨x, hx⟩ : ∃ x, e.1.w = x := ⟨_, rfl⟩
      rw [hx] at k0
      rw [Nat.add_zero] at k0
      have HX2 := Lib.hid hx
      clear hc he hx
      by_cases hd : x = d
      · have hbd : (x.toList == d.toList) = true := by rw [beq_bs]; simpa using hd
        have hbd2 : x.toList = d.toList := by rw [hd]
        have HF := Lib.hid (show v = (k : Int) by
          rw [← HV.out]
          unfold cdV
          rw [show cdI st.l d = some k from idx_hit HX.out (by simp [HX2.out, hd]) (fun j y hj hy => by simpa using HB.out j y hj hy)])
        clear hd
        go_wp2
        go_ret
        exact ⟨ret_int HF.out.symm, rfl⟩
      · have hbd : (x.toList == d.toList) = false := by rw [beq_bs]; simpa using hd
        have hbd2 : ¬ x.toList = d.toList := by rw [← beq_iff_eq, hbd]; decide
        have HD := Lib.hid hd
        clear hd
        go_wp2
        go_round
        case rel => exact ⟨k + 1, by go_num, by omega, Lib.hid (fun j y hj hy => if e : j = k then by subst e; rw [HX.out] at hy; injection hy with hy; rw [← hy, HX2.out]; exact HD.out else HB.out j y (by omega) hy)⟩
        case measure => simp [intOf]; omega
    · have HF := Lib.hid (show v = -1 by
        rw [← HV.out]
        unfold cdV
        rw [show cdI st.l d = none from cdI_none.2 (fun y hy => by
          obtain ⟨q, hq⟩ := List.getElem?_of_mem hy
          exact HB.out q y (by have := (List.getElem?_eq_some_iff.1 hq).1; have := H.out.len; omega) hq)])
      go_wp2
      go_ret
      exact ⟨ret_int HF.out.symm, rfl⟩
theorem rused_any {w : World} {S : Nat → Prop} {G : Nat} {st : Ct} (h : RefE w S G st) (d : Bs) {v : Bool} (hv : usedS st d = v) :
    Calls Tryz.prog 28 #[.pointer (some ⟨G, 0, none⟩), .string d] w fun e w' => e = .returned (.bool v) ∧ w = w' := by
  have HE := Lib.hid h
  obtain ⟨I, rv, es, h⟩ := h
  cases hc : cdI st.l d with
  | none =>
    have HV := Lib.hid (show v = false by rw [← hv]; unfold usedS; rw [fnd_none hc])
    have HO := Lib.hid (show cdV st.l d = -1 by unfold cdV; rw [hc])
    clear h hc hv
    go_enter Tryz.func28, Tryz.ntmps28
    go_wp2_with fail
    refine (rfind_any HE.out d HO.out).mono ?_
    rintro e wx ⟨rfl, rfl⟩
    go_wp2
    go_ret
    exact ⟨ret_bool HV.out.symm, rfl⟩
  | some i =>
    obtain ⟨x, hx, _⟩ := cdI_some hc
    have HO := Lib.hid (show cdV st.l d = (i : Int) by unfold cdV; rw [hc])
    have hil : i < es.length := by have := (List.getElem?_eq_some_iff.1 hx).1; have := h.len; omega
    obtain ⟨e, he⟩ : ∃ e, es[i]? = some e := ⟨_, List.getElem?_eq_getElem hil⟩
    have hle : es.length ≤ 256 := by rw [h.len]; exact h.inv.len
    have hex := h.get he
    rw [hx] at hex
    injection hex with hex
    have HV := Lib.hid (show v = e.1.used by rw [← hv]; unfold usedS; rw [fnd_some hc hx, hex])
    obtain ⟨A, c, rfl⟩ := h.own.len
    have c1 := cell_block h.hG 1
    simp only [List.getElem?_toArray, List.getElem?_cons_zero, List.getElem?_cons_succ] at c1
    obtain ⟨g, rfl, hg, hcl⟩ := h.own.at he
    have k5 := hcl 13 _ rfl
    obtain ⟨y, hy⟩ : ∃ y, e.1.used = y := ⟨_, rfl⟩
    rw [hy] at k5 HV
    clear h hc hv hcl he hex hx hy
    go_enter Tryz.func28, Tryz.ntmps28
    go_wp2_with fail
    refine (rfind_any HE.out d HO.out).mono ?_
    rintro e wx ⟨rfl, rfl⟩
    go_wp2
    go_ret
    exact ⟨ret_bool HV.out.symm, rfl⟩
theorem ratt_any {w : World} {S : Nat → Prop} {G : Nat} {st : Ct} (h : RefE w S G st) (d : Bs) {v : Bool} (hv : attS st d = v) :
    Calls Tryz.prog 29 #[.pointer (some ⟨G, 0, none⟩), .string d] w fun e w' => e = .returned (.bool v) ∧ w = w' := by
  have HE := Lib.hid h
  obtain ⟨I, rv, es, h⟩ := h
  cases hc : cdI st.l d with
  | none =>
    have HV := Lib.hid (show v = false by rw [← hv]; unfold attS; rw [fnd_none hc])
    have HO := Lib.hid (show cdV st.l d = -1 by unfold cdV; rw [hc])
    clear h hc hv
    go_enter Tryz.func29, Tryz.ntmps29
    go_wp2_with fail
    refine (rfind_any HE.out d HO.out).mono ?_
    rintro e wx ⟨rfl, rfl⟩
    go_wp2
    go_ret
    exact ⟨ret_bool HV.out.symm, rfl⟩
  | some i =>
    obtain ⟨x, hx, _⟩ := cdI_some hc
    have HO := Lib.hid (show cdV st.l d = (i : Int) by unfold cdV; rw [hc])
    have hil : i < es.length := by have := (List.getElem?_eq_some_iff.1 hx).1; have := h.len; omega
    obtain ⟨e, he⟩ : ∃ e, es[i]? = some e := ⟨_, List.getElem?_eq_getElem hil⟩
    have hle : es.length ≤ 256 := by rw [h.len]; exact h.inv.len
    have hex := h.get he
    rw [hx] at hex
    injection hex with hex
    have HV := Lib.hid (show v = e.1.att by rw [← hv]; unfold attS; rw [fnd_some hc hx, hex])
    obtain ⟨A, c, rfl⟩ := h.own.len
    have c1 := cell_block h.hG 1
    simp only [List.getElem?_toArray, List.getElem?_cons_zero, List.getElem?_cons_succ] at c1
    obtain ⟨g, rfl, hg, hcl⟩ := h.own.at he
    have k5 := hcl 14 _ rfl
    obtain ⟨y, hy⟩ : ∃ y, e.1.att = y := ⟨_, rfl⟩
    rw [hy] at k5 HV
    clear h hc hv hcl he hex hx hy
    go_enter Tryz.func29, Tryz.ntmps29
    go_wp2_with fail
    refine (rfind_any HE.out d HO.out).mono ?_
    rintro e wx ⟨rfl, rfl⟩
    go_wp2
    go_ret
    exact ⟨ret_bool HV.out.symm, rfl⟩
end Go.Proofs.YtioabjniipkncaaGreatDoor.Rc
