/-
  The reference: one flow changed in place; Deny.
-/
import Derived.Test.YtapooonlbjgbgaaDoorDvXc
namespace Go.Proofs.YtapooonlbjgbgaaDoor.Dv
open Go.RowKit Go.Proofs.YtapooonlbjgbgaaDoor.Fo Go.Proofs.YtapooonlbjgbgaaDoor.Rf

/-- One flow is changed. -/
theorem ref_put {w w' : World} {S S' I I' : Nat → Prop} {G g : Nat} {st : Fs} {cap : Int} {v : Value} {es : List FwE} (h : RefP w S I G st v es) {i : Nat} {e' : FwE} (hg : v.ownBlock = some g) (hown : OwnR w' v (es.set i e')) (hI : ∀ k, I k → I' k) (hk : ∀ k, S k → k ≠ g → w'.heap[k]? = w.heap[k]?) (hz : w.heap.size ≤ w'.heap.size) (hS : ∀ k, S k → S' k) (hIS : ∀ k, I' k → S' k) (hIn : ¬ I' G ∧ ¬ I' g) (hlt : ∀ k, S' k → k < w'.heap.size)
    (hsc : Ss w' e'.2.1 e'.1.scopes.length e'.2.2.1 e'.1.scopes ∧ ∀ a, e'.2.1 = some a → 0 < e'.1.scopes.length → I' a.block) (htk : Ss w' e'.2.2.2.1 e'.1.g.scopes.length e'.2.2.2.2 e'.1.g.scopes ∧ ∀ a, e'.2.2.2.1 = some a → 0 < e'.1.g.scopes.length → I' a.block) (hinv : Inv { st with cap := cap, l := st.l.set i e'.1 }) :
    RefP w' S' I' G { st with cap := cap, l := st.l.set i e'.1 } v (es.set i e') := by
  have hgI := (h.sv g hg).2.1
  have hkI : ∀ k, I k → w'.heap[k]? = w.heap[k]? := fun k hk2 => hk k (h.sI k hk2) (fun e2 => hgI (by rw [← e2]; exact hk2))
  refine ⟨(hk G h.sG.1 (fun e2 => (h.sv g hg).2.2 e2.symm)).trans h.hG, hown, by rw [List.map_set, h.hl], fun x hx => ?_, fun x hx => ?_, hIS, ⟨hS _ h.sG.1, hIn.1⟩, fun g' hg' => ?_, hlt, hinv⟩
  · rcases mem_set hx with rfl | ⟨j, _, hj⟩
    · exact hsc
    · have := h.sc x (List.mem_of_getElem? hj)
      exact ⟨ss_keep this.1 this.2 hkI hz, fun a ha hn => hI _ (this.2 a ha hn)⟩
  · rcases mem_set hx with rfl | ⟨j, _, hj⟩
    · exact htk
    · have := h.tk x (List.mem_of_getElem? hj)
      exact ⟨ss_keep this.1 this.2 hkI hz, fun a ha hn => hI _ (this.2 a ha hn)⟩
  · rw [hg] at hg'
    injection hg' with hg'
    subst hg'
    exact ⟨hS _ (h.sv g hg).1, hIn.2, (h.sv g hg).2.2⟩
/-- One cell of a flow is written; its scopes and its grant stay. -/
theorem ref_cell {w : World} {S I : Nat → Prop} {G g c : Nat} {st : Fs} {cap : Int} {es : List FwE} (h : RefP w S I G st (.slice (some ⟨g, 0, none⟩) es.length c) es) {i j : Nat} {e : FwE} {y : Fw} {u : Value} (he : es[i]? = some e) (hj : j < 20) (hs : (fl20 e).set j u = fl20 (y, e.2)) (h1 : y.scopes = e.1.scopes) (h2 : y.g = e.1.g) (hinv : Inv { st with cap := cap, l := st.l.set i y }) :
    RefP (w.setCell ⟨g, i * 20 + j, none⟩ u) S I G { st with cap := cap, l := st.l.set i y } (.slice (some ⟨g, 0, none⟩) es.length c) (es.set i (y, e.2)) := by
  have hz : w.heap.size ≤ (w.setCell ⟨g, i * 20 + j, none⟩ u).heap.size := by simp [World.setCell]
  have hk : ∀ k, S k → k ≠ g → (w.setCell ⟨g, i * 20 + j, none⟩ u).heap[k]? = w.heap[k]? := fun k _ hne => Below.heap_setCell _ _ _ _ hne
  have hgI := (h.sv g rfl).2.1
  have hkI : ∀ k, I k → (w.setCell ⟨g, i * 20 + j, none⟩ u).heap[k]? = w.heap[k]? := fun k hk2 => hk k (h.sI k hk2) (fun e2 => hgI (by rw [← e2]; exact hk2))
  have hm := List.mem_of_getElem? he
  refine ref_put (e' := (y, e.2)) h rfl (h.own.set he hj hs) (fun _ e => e) hk hz (fun _ e => e) h.sI ⟨h.sG.2, hgI⟩ (fun k hk2 => Nat.lt_of_lt_of_le (h.lt k hk2) hz) ?_ ?_ hinv
  · show Ss _ _ y.scopes.length _ y.scopes ∧ _
    rw [h1]
    exact ⟨ss_keep (h.sc e hm).1 (h.sc e hm).2 hkI hz, (h.sc e hm).2⟩
  · show Ss _ _ y.g.scopes.length _ y.g.scopes ∧ _
    rw [h2]
    exact ⟨ss_keep (h.tk e hm).1 (h.tk e hm).2 hkI hz, (h.tk e hm).2⟩
theorem RefP.fz {w : World} {S I : Nat → Prop} {G g n c : Nat} {st : Fs} {es : List FwE} (h : RefP w S I G st (.slice (some ⟨g, 0, none⟩) n c) es) (j : Nat) : w.frozen? ⟨g, j, none⟩ = false := h.own.fz j
theorem fn_hit {st : Fs} {u : Bs} {now : Int} {i : Nat} {y : Fw} {e : Int} (h : fnF st u now = (some (i, y), e)) : st.l[i]? = some y ∧ y.state = 0 := by
  unfold fnF at h
  split at h
  · cases h
  · split at h
    · cases h
    · split at h
      · cases h
      · next x hx =>
        split at h
        · cases h
        · split at h
          · cases h
          · next hs =>
            injection h with h1 _
            injection h1 with h1
            injection h1 with h1 h2
            subst h1
            subst h2
            exact ⟨hx, by simpa using hs⟩
theorem inv_state {st : Fs} (h : Inv st) {i : Nat} {x : Fw} (hx : st.l[i]? = some x) (k : Int) : Inv { st with cap := st.cap, l := st.l.set i { x with state := k } } :=
  inv_set h (Int.le_refl _) hx ⟨rfl, rfl, rfl, rfl, rfl, h.gs x (List.mem_of_getElem? hx), h.iv x (List.mem_of_getElem? hx), h.ls x (List.mem_of_getElem? hx)⟩
theorem fn_err {st : Fs} {u : Bs} {now e : Int} (h : fnF st u now = (none, e)) : e ≠ 0 := by
  unfold fnF at h
  split at h
  · next hc => injection h with _ h2; rw [← h2]; exact hc
  · split at h
    · injection h with _ h2; rw [← h2]; decide
    · split at h
      · injection h with _ h2; rw [← h2]; decide
      · split at h
        · injection h with _ h2; rw [← h2]; decide
        · split at h
          · injection h with _ h2; rw [← h2]; decide
          · cases h
set_option maxRecDepth 100000 in
set_option maxHeartbeats 4000000 in
theorem rden_any {w : World} {S : Nat → Prop} {G : Nat} {st st' : Fs} {k : Int} (h : RefE w S G st) (u : Bs) (hu : u.size ≤ 100000) (now : Int) (hq : den st u now = (st', k)) :
    Calls Tryd.prog 25 #[.pointer (some ⟨G, 0, none⟩), .string u, .int .i64 now] w fun e w' => e = .returned (.int .i64 k) ∧ RefE w' S G st' ∧ Mods S w w' := by
  have HE := Lib.hid h
  unfold den at hq
  split at hq
  · next i x er hf =>
    injection hq with e1 e2
    subst e1
    subst e2
    have HV := Lib.hid (show opV (fnF st u now) = ((i : Int), 0) by rw [hf]; rfl)
    obtain ⟨hx, _⟩ := fn_hit hf
    have HX := Lib.hid hx
    clear h hf hx
    go_enter Tryd.func25, Tryd.ntmps25
    go_wp2_with fail
    refine (ropen_any HE.out u hu now HV.out).mono ?_
    rintro e w1 ⟨rfl, hb⟩
    obtain ⟨I, rv, es, h⟩ := HE.out.below hb
    have HB := Lib.hid hb
    have hle : es.length ≤ 256 := by rw [h.len]; exact h.inv.len
    have hil : i < es.length := by have := (List.getElem?_eq_some_iff.1 HX.out).1; have := h.len; omega
    obtain ⟨e, he⟩ : ∃ e, es[i]? = some e := ⟨_, List.getElem?_eq_getElem hil⟩
    have hex : e.1 = x := Option.some.inj ((h.get he).symm.trans HX.out)
    obtain ⟨A, c, rfl⟩ := h.own.len
    have c2 := cell_block h.hG 2
    simp only [List.getElem?_toArray, List.getElem?_cons_zero, List.getElem?_cons_succ] at c2
    obtain ⟨g, rfl, hg, hc⟩ := h.own.at he
    have k6 := hc 6 _ rfl
    have f6 := h.fz (i * 20 + 6)
    have HR := Lib.hid (show RefE (w1.setCell ⟨g, i * 20 + 6, none⟩ (.int .i64 2)) S G { st with l := st.l.set i { x with state := 2 } } from ⟨I, _, _, ref_cell (cap := st.cap) (y := { x with state := 2 }) h he (by decide) (by rw [← hex]; rfl) (by rw [hex]) (by rw [hex]) (inv_state h.inv HX.out 2)⟩)
    have HG := Lib.hid (h.sv g rfl).1
    clear hb hc he hex h
    go_wp2
    go_ret
    exact ⟨rfl, HR.out, (Mods.of_below S HB.out).setCell (p := ⟨g, i * 20 + 6, none⟩) (Or.inl HG.out) (.int .i64 2)⟩
  · next er hf =>
    injection hq with e1 e2
    subst e1
    subst e2
    have HV := Lib.hid (show opV (fnF st u now) = (-1, er) by rw [hf]; rfl)
    have hne := fn_err hf
    have hneb : (er == 0) = false := beq_eq_false_iff_ne.2 hne
    clear h hf
    go_enter Tryd.func25, Tryd.ntmps25
    go_wp2_with fail
    refine (ropen_any HE.out u hu now HV.out).mono ?_
    rintro e w1 ⟨rfl, hb⟩
    have HB := Lib.hid hb
    clear hb
    go_wp2
    go_ret
    exact ⟨rfl, HE.out.below HB.out, Mods.of_below S HB.out⟩
end Go.Proofs.YtapooonlbjgbgaaDoor.Dv
