/-
  The reference: fits, revoke, Revoke, RevokeSession, RevokeUser, RevokeClient.
-/
import Derived.Test.YtfeljihbaekfmaaRfXb2
import Derived.Test.YtfeljihbaekfmaaRfPl
namespace Go.Proofs.Ytfeljihbaekfmaa.Rf
open Go.RowKit Go.Proofs.Ytfeljihbaekfmaa.Fo

/-- One family is changed. -/
theorem ref_put {w w' : World} {S S' I I' : Nat → Prop} {G g : Nat} {st : St} {v : Value} {es : List FmE} (h : RefP w S I G st v es) {i : Nat} {e e' : FmE} (_ : es[i]? = some e) (hg : v.ownBlock = some g) (hown : OwnR w' v (es.set i e')) (hI : ∀ k, I k → I' k) (hk : ∀ k, S k → k ≠ g → w'.heap[k]? = w.heap[k]?) (hz : w.heap.size ≤ w'.heap.size) (hS : ∀ k, S k → S' k) (hIS : ∀ k, I' k → S' k) (hIn : ¬ I' G ∧ ¬ I' g) (hlt : ∀ k, S' k → k < w'.heap.size)
    (hsc : Ss w' e'.2.1 e'.1.g.scopes.length e'.2.2.1 e'.1.g.scopes ∧ ∀ a, e'.2.1 = some a → 0 < e'.1.g.scopes.length → I' a.block) (htk : Ss w' e'.2.2.2.1 e'.1.toks.length e'.2.2.2.2 e'.1.toks ∧ ∀ a, e'.2.2.2.1 = some a → 0 < e'.1.toks.length → I' a.block) (hinv : Inv { st with l := st.l.set i e'.1 }) :
    RefP w' S' I' G { st with l := st.l.set i e'.1 } v (es.set i e') := by
  have hgI := (h.sv g hg).2.1
  have hkI : ∀ k, I k → w'.heap[k]? = w.heap[k]? := fun k hk2 => hk k (h.sI k hk2) (fun e2 => hgI (by rw [← e2]; exact hk2))
  refine ⟨(hk G h.sG.1 (fun e2 => (h.sv g hg).2.2 e2.symm)).trans h.hG, hown, by rw [List.map_set, h.hl], fun x hx => ?_, fun x hx => ?_, hIS, ⟨hS _ h.sG.1, hIn.1⟩, fun g' hg' => ?_, hlt, hinv⟩
  · rcases mem_set hx with rfl | ⟨j, _, hj⟩
    · exact hsc
    · have := h.sc x (List.mem_of_getElem? hj)
      exact ⟨this.1.keep this.2 hkI hz, fun a ha hn => hI _ (this.2 a ha hn)⟩
  · rcases mem_set hx with rfl | ⟨j, _, hj⟩
    · exact htk
    · have := h.tk x (List.mem_of_getElem? hj)
      exact ⟨this.1.keep this.2 hkI hz, fun a ha hn => hI _ (this.2 a ha hn)⟩
  · rw [hg] at hg'
    injection hg' with hg'
    subst hg'
    exact ⟨hS _ (h.sv g hg).1, hIn.2, (h.sv g hg).2.2⟩
theorem ref_ended {w : World} {S I : Nat → Prop} {G g c : Nat} {st : St} {es : List FmE} (h : RefP w S I G st (.slice (some ⟨g, 0, none⟩) es.length c) es) {i : Nat} {e : FmE} (he : es[i]? = some e) : RefP (w.setCell ⟨g, i * 16 + 15, none⟩ (.bool true)) S I G { st with l := st.l.set i { e.1 with ended := true } } (.slice (some ⟨g, 0, none⟩) es.length c) (es.set i ({ e.1 with ended := true }, e.2)) := by
  have hz : w.heap.size ≤ (w.setCell ⟨g, i * 16 + 15, none⟩ (.bool true)).heap.size := by simp [World.setCell]
  have hk : ∀ k, S k → k ≠ g → (w.setCell ⟨g, i * 16 + 15, none⟩ (.bool true)).heap[k]? = w.heap[k]? := fun k _ hne => Below.heap_setCell _ _ _ _ hne
  have hgI := (h.sv g rfl).2.1
  have hkI : ∀ k, I k → (w.setCell ⟨g, i * 16 + 15, none⟩ (.bool true)).heap[k]? = w.heap[k]? := fun k hk2 => hk k (h.sI k hk2) (fun e2 => hgI (by rw [← e2]; exact hk2))
  have hm := List.mem_of_getElem? he
  exact ref_put (e' := ({ e.1 with ended := true }, e.2)) h he rfl (h.own.set he (by omega) rfl) (fun _ e => e) hk hz (fun _ e => e) h.sI ⟨h.sG.2, hgI⟩ (fun k hk2 => Nat.lt_of_lt_of_le (h.lt k hk2) hz)
    ⟨(h.sc e hm).1.keep (h.sc e hm).2 hkI hz, (h.sc e hm).2⟩ ⟨(h.tk e hm).1.keep (h.tk e hm).2 hkI hz, (h.tk e hm).2⟩ (inv_set_ended h.inv (h.get he))
theorem RefP.fz {w : World} {S I : Nat → Prop} {G g n c : Nat} {st : St} {es : List FmE} (h : RefP w S I G st (.slice (some ⟨g, 0, none⟩) n c) es) (j : Nat) : w.frozen? ⟨g, j, none⟩ = false := h.own.fz j
theorem rRevoke_any {w : World} {S : Nat → Prop} {G : Nat} {st : St} (h : RefE w S G st) (i : Bs) :
    Calls Try.prog 36 #[.pointer (some ⟨G, 0, none⟩), .string i] w fun e w' => e = .returned (.bool (decide (endN (isId i) st = 1))) ∧ RefE w' S G (endS (isId i) st) ∧ Mods S w w' := by
  have HE := Lib.hid h
  cases hq : idI st.l i with
  | none =>
    have hno : ∀ x ∈ st.l, isId i x = false := fun x hx => by unfold isId; simpa using idI_none.1 hq x hx
    have HV := Lib.hid (show atV st.l i = -1 by unfold atV; rw [hq])
    have HN := Lib.hid (show decide (endN (isId i) st = 1) = false by
      have : endN (isId i) st = 0 := by unfold endN; rw [List.countP_eq_zero]; intro x hx; rw [hno x hx]; simp
      rw [this]; rfl)
    have HS := Lib.hid (show endS (isId i) st = st by
      unfold endS
      have : st.l.map (endF (isId i)) = st.l := by
        conv => rhs; rw [← List.map_id st.l]
        refine List.map_congr_left fun x hx => ?_
        unfold endF
        rw [hno x hx]
        simp
      rw [this])
    clear hq hno h
    go_enter Try.func36, Try.ntmps36
    go_wp2_with fail
    refine (rmade_yes HE.out).mono ?_
    rintro e w1 ⟨rfl, rfl⟩
    go_wp2_with fail
    refine (at_any HE.out i).mono ?_
    rintro e w1 ⟨rfl, rfl⟩
    rw [HV.out]
    go_wp2
    go_ret
    rw [HN.out, HS.out]
    exact ⟨rfl, HE.out, Mods.refl _ _⟩
  | some k =>
    obtain ⟨x, hx, hid⟩ := idI_some hq
    have huniq : ∀ j y, st.l[j]? = some y → isId i y = decide (j = k) := fun j y hy => by
      unfold isId
      by_cases e2 : j = k
      · subst e2; rw [hx] at hy; injection hy with hy; subst hy; simp [hid]
      · have : y.id ≠ i := fun e3 => e2 (nodup_at h.inv.ids (x := i) (by rw [List.getElem?_map, hy, ← e3]; rfl) (by rw [List.getElem?_map, hx, ← hid]; rfl))
        simp [this, e2]
    have HV := Lib.hid (show atV st.l i = (k : Int) by unfold atV; rw [hq])
    have hcount : ∀ b : Bool, x.ended = b → endN (isId i) st = if b then 0 else 1 := fun b hb => by
      unfold endN
      have hk := (List.getElem?_eq_some_iff.1 hx).1
      rw [← List.take_append_drop k st.l, List.drop_eq_getElem_cons hk, (List.getElem?_eq_some_iff.1 hx).2, List.countP_append, List.countP_cons]
      have z1 : (st.l.take k).countP (fun x => !x.ended && isId i x) = 0 := by
        rw [List.countP_eq_zero]
        intro y hy
        obtain ⟨j, hj⟩ := List.getElem?_of_mem hy
        rw [List.getElem?_take] at hj
        split at hj
        · next hlt => rw [huniq j y hj, decide_eq_false (by omega)]; simp
        · cases hj
      have z2 : (st.l.drop (k + 1)).countP (fun x => !x.ended && isId i x) = 0 := by
        rw [List.countP_eq_zero]
        intro y hy
        obtain ⟨j, hj⟩ := List.getElem?_of_mem hy
        rw [List.getElem?_drop] at hj
        rw [huniq _ y hj, decide_eq_false (by omega)]; simp
      rw [z1, z2, huniq k x hx, hb]
      cases b <;> simp
    have hset : endS (isId i) st = { st with l := st.l.set k (endF (isId i) x) } := by
      unfold endS
      congr 1
      refine List.ext_getElem? fun j => ?_
      rw [List.getElem?_map, List.getElem?_set]
      by_cases e2 : k = j
      · subst e2
        rw [if_pos rfl, if_pos (List.getElem?_eq_some_iff.1 hx).1, hx]
        rfl
      · rw [if_neg e2]
        cases hy : st.l[j]? with
        | none => rfl
        | some y =>
          simp only [Option.map_some, Option.some.injEq]
          unfold endF
          rw [huniq j y hy, decide_eq_false (by omega)]
          simp
    obtain ⟨I, v, es, h⟩ := h
    obtain ⟨A, c, rfl⟩ := h.own.len
    have c3 := cell_block h.hG 3
    simp only [List.getElem?_toArray, List.getElem?_cons_zero, List.getElem?_cons_succ] at c3
    have hil : k < es.length := by rw [h.len]; exact (List.getElem?_eq_some_iff.1 hx).1
    obtain ⟨e, he⟩ : ∃ e, es[k]? = some e := ⟨_, List.getElem?_eq_getElem hil⟩
    have hex : e.1 = x := Option.some.inj ((h.get he).symm.trans hx)
    obtain ⟨g, rfl, hg, hc⟩ := h.own.at he
    have k15 : w.cell? ⟨g, k * 16 + 15, none⟩ = some (.bool x.ended) := by rw [← hex]; exact hc 15 _ rfl
    have f15 := h.fz (k * 16 + 15)
    cases hen : x.ended with
    | true =>
      have HN := Lib.hid (show decide (endN (isId i) st = 1) = false by rw [hcount true hen]; rfl)
      have HS := Lib.hid (show endS (isId i) st = st by
        rw [hset]
        have : endF (isId i) x = x := by unfold endF; rw [hen]; simp
        rw [this]
        have : st.l.set k x = st.l := by
          refine List.ext_getElem? fun j => ?_
          rw [List.getElem?_set]
          by_cases e2 : k = j
          · subst e2; rw [if_pos rfl, if_pos (List.getElem?_eq_some_iff.1 hx).1, hx]
          · rw [if_neg e2]
        rw [this])
      rw [hen] at k15
      clear hcount hset huniq hq hx hid hc he hex h hen f15
      go_enter Try.func36, Try.ntmps36
      go_wp2_with fail
      refine (rmade_yes HE.out).mono ?_
      rintro e w1 ⟨rfl, rfl⟩
      go_wp2_with fail
      refine (at_any HE.out i).mono ?_
      rintro e w1 ⟨rfl, rfl⟩
      rw [HV.out]
      go_wp2
      go_ret
      rw [HN.out, HS.out]
      exact ⟨rfl, HE.out, Mods.refl _ _⟩
    | false =>
      have HN := Lib.hid (show decide (endN (isId i) st = 1) = true by rw [hcount false hen]; rfl)
      have HS := Lib.hid (show RefE (w.setCell ⟨g, k * 16 + 15, none⟩ (.bool true)) S G (endS (isId i) st) by
        rw [hset]
        have : endF (isId i) x = { e.1 with ended := true } := by unfold endF; rw [hen, huniq k x hx, hex]; simp
        rw [this]
        exact ⟨I, _, _, ref_ended h he⟩)
      have HG := Lib.hid (h.sv g rfl).1
      rw [hen] at k15
      clear hcount hset huniq hq hx hid hc he hex h hen
      go_enter Try.func36, Try.ntmps36
      go_wp2_with fail
      refine (rmade_yes HE.out).mono ?_
      rintro e w1 ⟨rfl, rfl⟩
      go_wp2_with fail
      refine (at_any HE.out i).mono ?_
      rintro e w1 ⟨rfl, rfl⟩
      rw [HV.out]
      go_wp2
      go_ret
      rw [HN.out]
      exact ⟨rfl, HS.out, (Mods.refl S w).setCell (p := ⟨g, k * 16 + 15, none⟩) (Or.inl HG.out) (.bool true)⟩
end Go.Proofs.Ytfeljihbaekfmaa.Rf
