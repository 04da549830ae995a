/-
  The reference: expired, of, open, Interval.
-/
import Derived.Test.YtapooonlbjgbgaaDoorDvXa
namespace Go.Proofs.YtapooonlbjgbgaaDoor.Dv
open Go.RowKit Go.Proofs.YtapooonlbjgbgaaDoor.Fo Go.Proofs.YtapooonlbjgbgaaDoor.Rf

theorem limit_q (n : Int) (w : World) : Calls Tryd.prog 46 #[.int .i64 n] w fun e w' => e = .returned (.int .i64 (limI n)) ∧ w' = w := (limit_any n w).mono fun _ _ ⟨h1, h2⟩ => ⟨h1, h2.symm⟩
theorem rexp_any (e : FwE) (now : Int) (w : World) {b : Bool} (hb : expd now e.1 = b) : Calls Tryd.prog 57 #[.agg #[.string e.1.w, .string e.1.code, .string e.1.client, .slice e.2.1 e.1.scopes.length e.2.2.1, .int .i64 e.1.fin, .int .i64 e.1.iv, .int .i64 e.1.state, .int .i64 e.1.last, .bool e.1.polled, .string e.1.g.user, .string e.1.g.client, .string e.1.g.tenant, .string e.1.g.session, .string e.1.g.redirect, .string e.1.g.nonce, .string e.1.g.challenge, .int .i64 e.1.g.method, .slice e.2.2.2.1 e.1.g.scopes.length e.2.2.2.2, .int .i64 e.1.g.auth, .int .i64 e.1.g.level], .int .i64 now] w fun r w' => r = .returned (.bool b) ∧ Below w.heap.size w w' := by
  obtain ⟨w0, hw0⟩ : ∃ w', w' = w.alloc (.cells #[.string e.1.w, .string e.1.code, .string e.1.client, .slice e.2.1 e.1.scopes.length e.2.2.1, .int .i64 e.1.fin, .int .i64 e.1.iv, .int .i64 e.1.state, .int .i64 e.1.last, .bool e.1.polled, .string e.1.g.user, .string e.1.g.client, .string e.1.g.tenant, .string e.1.g.session, .string e.1.g.redirect, .string e.1.g.nonce, .string e.1.g.challenge, .int .i64 e.1.g.method, .slice e.2.2.2.1 e.1.g.scopes.length e.2.2.2.2, .int .i64 e.1.g.auth, .int .i64 e.1.g.level] 86) := ⟨_, rfl⟩
  have HB0 := Lib.hid (show Below w.heap.size w w0 by rw [hw0]; go_grown)
  have hx : w0.heap[w.heap.size]? = some (.cells #[.string e.1.w, .string e.1.code, .string e.1.client, .slice e.2.1 e.1.scopes.length e.2.2.1, .int .i64 e.1.fin, .int .i64 e.1.iv, .int .i64 e.1.state, .int .i64 e.1.last, .bool e.1.polled, .string e.1.g.user, .string e.1.g.client, .string e.1.g.tenant, .string e.1.g.session, .string e.1.g.redirect, .string e.1.g.nonce, .string e.1.g.challenge, .int .i64 e.1.g.method, .slice e.2.2.2.1 e.1.g.scopes.length e.2.2.2.2, .int .i64 e.1.g.auth, .int .i64 e.1.g.level] 86 (0, 0)) := by rw [hw0]; exact heap_alloc_new _ _
  have c4 := cell_block hx 4
  simp only [List.getElem?_toArray, List.getElem?_cons_zero, List.getElem?_cons_succ] at c4
  have HV := Lib.hid (show b = decide (e.1.fin ≤ limI now) from hb.symm)
  clear hx hb
  go_enter Tryd.func57, Tryd.ntmps57
  go_upto_region 1 with fail
  rw [← hw0]
  clear hw0
  go_quiet ((go_at_call 46; exact Calls.quiet_of_same (limit_q _ _)))
  go_wp2
  go_ret
  exact ⟨ret_bool HV.out.symm, below_drewN HB0.out _⟩
theorem idx_hit {p : Fw → Bool} {l : List Fw} {i : Nat} {x : Fw} (hx : l[i]? = some x) (hp : p x = true) (hb : ∀ j y, j < i → l[j]? = some y → p y = false) : l.findIdx? p = some i := by
  have hi := (List.getElem?_eq_some_iff.1 hx).1
  rw [List.findIdx?_eq_some_iff_getElem]
  refine ⟨hi, by rw [(List.getElem?_eq_some_iff.1 hx).2]; exact hp, fun j hj => ?_⟩
  have hjl : j < l.length := by omega
  rw [hb j _ hj (List.getElem?_eq_getElem hjl)]
  decide
def ofV (l : List Fw) (d : Bs) : Int := match cdI l d with | none => -1 | some i => (i : Int)
theorem of_any {w : World} {S : Nat → Prop} {G : Nat} {st : Fs} (h : RefE w S G st) (d : Bs) {v : Int} (hv : ofV st.l d = v) :
    Calls Tryd.prog 65 #[.pointer (some ⟨G, 0, none⟩), .string d] w fun e w' => e = .returned (.int .i64 v) ∧ w = w' := by
  obtain ⟨I, rv, es, h⟩ := h
  have H := Lib.hid h
  have HV := Lib.hid hv
  have hle : es.length ≤ 256 := by rw [h.len]; exact h.inv.len
  obtain ⟨A, c, rfl⟩ := h.own.len
  have c2 := cell_block h.hG 2
  simp only [List.getElem?_toArray, List.getElem?_cons_zero, List.getElem?_cons_succ] at c2
  clear h hv
  go_enter Tryd.func65, Tryd.ntmps65
  go_wp2
  go_loop [5] (fun i => ∃ k : Nat, i = .int .i64 k ∧ k ≤ es.length ∧ Hid (∀ j y, j < k → st.l[j]? = some y → y.w ≠ d)) (fun i => es.length - (intOf i).toNat)
  case atStart => exact ⟨0, rfl, Nat.zero_le _, Lib.hid (fun j y hj => absurd hj (by omega))⟩
  case round =>
    obtain ⟨k, rfl, hk, HB⟩ := hrel
    by_cases hlt : k < es.length
    · obtain ⟨e, he⟩ : ∃ e, es[k]? = some e := ⟨_, List.getElem?_eq_getElem hlt⟩
      obtain ⟨g, rfl, hg, hc⟩ := H.out.own.at he
      have k0 := hc 0 _ rfl
      have HX := Lib.hid (H.out.get he)
      obtain ⟨x, hx⟩ : ∃ x, e.1.w = x := ⟨_, rfl⟩
      rw [hx] at k0
      rw [Nat.add_zero] at k0
      have HX2 := Lib.hid hx
      clear hc he hx
      by_cases hd : x = d
      · have hbd : (x.toList == d.toList) = true := by rw [beq_bs]; simpa using hd
        have hbd2 : x.toList = d.toList := by rw [hd]
        have HF := Lib.hid (show v = (k : Int) by
          rw [← HV.out]
          unfold ofV
          rw [show cdI st.l d = some k from idx_hit HX.out (by simp [HX2.out, hd]) (fun j y hj hy => by simpa using HB.out j y hj hy)])
        clear hd
        go_wp2
        go_ret
        exact ⟨ret_int HF.out.symm, rfl⟩
      · have hbd : (x.toList == d.toList) = false := by rw [beq_bs]; simpa using hd
        have hbd2 : ¬ x.toList = d.toList := by rw [← beq_iff_eq, hbd]; decide
        have HD := Lib.hid hd
        clear hd
        go_wp2
        go_round
        case rel => exact ⟨k + 1, by go_num, by omega, Lib.hid (fun j y hj hy => if e : j = k then by subst e; rw [HX.out] at hy; injection hy with hy; rw [← hy, HX2.out]; exact HD.out else HB.out j y (by omega) hy)⟩
        case measure => simp [intOf]; omega
    · have HF := Lib.hid (show v = -1 by
        rw [← HV.out]
        unfold ofV
        rw [show cdI st.l d = none from cdI_none.2 (fun y hy => by
          obtain ⟨q, hq⟩ := List.getElem?_of_mem hy
          exact HB.out q y (by have := (List.getElem?_eq_some_iff.1 hq).1; have := H.out.len; omega) hq)])
      go_wp2
      go_ret
      exact ⟨ret_int HF.out.symm, rfl⟩
theorem rit_any {w : World} {S : Nat → Prop} {G : Nat} {st : Fs} (h : RefE w S G st) (d : Bs) {v : Int} (hv : itv st d = v) :
    Calls Tryd.prog 30 #[.pointer (some ⟨G, 0, none⟩), .string d] w fun e w' => e = .returned (.int .i64 v) ∧ w = w' := by
  have HE := Lib.hid h
  obtain ⟨I, rv, es, h⟩ := h
  cases hc : cdI st.l d with
  | none =>
    have HV := Lib.hid (show v = 0 by rw [← hv]; unfold itv; rw [fnd_none hc])
    have HO := Lib.hid (show ofV st.l d = -1 by unfold ofV; rw [hc])
    clear h hc hv
    go_enter Tryd.func30, Tryd.ntmps30
    go_wp2_with fail
    refine (of_any HE.out d HO.out).mono ?_
    rintro e wx ⟨rfl, rfl⟩
    go_wp2
    go_ret
    exact ⟨ret_int HV.out.symm, rfl⟩
  | some i =>
    obtain ⟨x, hx, _⟩ := cdI_some hc
    have HO := Lib.hid (show ofV st.l d = (i : Int) by unfold ofV; rw [hc])
    have hil : i < es.length := by have := (List.getElem?_eq_some_iff.1 hx).1; have := h.len; omega
    obtain ⟨e, he⟩ : ∃ e, es[i]? = some e := ⟨_, List.getElem?_eq_getElem hil⟩
    have hle : es.length ≤ 256 := by rw [h.len]; exact h.inv.len
    have hex := h.get he
    rw [hx] at hex
    injection hex with hex
    have HV := Lib.hid (show v = e.1.iv by rw [← hv]; unfold itv; rw [fnd_some hc hx, hex])
    obtain ⟨A, c, rfl⟩ := h.own.len
    have c2 := cell_block h.hG 2
    simp only [List.getElem?_toArray, List.getElem?_cons_zero, List.getElem?_cons_succ] at c2
    obtain ⟨g, rfl, hg, hcl⟩ := h.own.at he
    have k5 := hcl 5 _ rfl
    obtain ⟨y, hy⟩ : ∃ y, e.1.iv = y := ⟨_, rfl⟩
    rw [hy] at k5 HV
    clear h hc hv hcl he hex hx hy
    go_enter Tryd.func30, Tryd.ntmps30
    go_wp2_with fail
    refine (of_any HE.out d HO.out).mono ?_
    rintro e wx ⟨rfl, rfl⟩
    go_wp2
    go_ret
    exact ⟨ret_int HV.out.symm, rfl⟩
end Go.Proofs.YtapooonlbjgbgaaDoor.Dv
