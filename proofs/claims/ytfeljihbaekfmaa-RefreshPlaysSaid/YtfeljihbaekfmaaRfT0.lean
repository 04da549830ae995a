/-
  One family changed in memory; the plain errors of Rotate.
-/
import Derived.Test.YtfeljihbaekfmaaRfS
namespace Go.Proofs.Ytfeljihbaekfmaa.Rf
open Go.RowKit Go.Proofs.Ytfeljihbaekfmaa.Fo Go.Maps

theorem map_set_same {α β : Type} {f : α → β} {l : List α} {i : Nat} {x y : α} (hx : l[i]? = some x) (h : f y = f x) : (l.set i y).map f = l.map f := by
  refine List.ext_getElem? fun j => ?_
  rw [List.getElem?_map, List.getElem?_map, List.getElem?_set]
  split
  · next e =>
    subst e
    rw [hx]
    have hi := (List.getElem?_eq_some_iff.1 hx).1
    rw [if_pos hi]
    simp [h]
  · rfl
theorem mem_set {α : Type} {l : List α} {i : Nat} {y z : α} (h : z ∈ l.set i y) : z = y ∨ ∃ j, j ≠ i ∧ l[j]? = some z := by
  obtain ⟨j, hj⟩ := List.getElem?_of_mem h
  rw [List.getElem?_set] at hj
  split at hj
  · split at hj
    · exact Or.inl (Option.some.inj hj).symm
    · cases hj
  · next e => exact Or.inr ⟨j, fun h => e h.symm, hj⟩
theorem nodup_at {α : Type} {l : List α} (h : l.Nodup) {i j : Nat} {x : α} (hi : l[i]? = some x) (hj : l[j]? = some x) : i = j := by
  have h1 := (List.getElem?_eq_some_iff.1 hi).1
  have h2 := (List.getElem?_eq_some_iff.1 hj).1
  have e1 := (List.getElem?_eq_some_iff.1 hi).2
  have e2 := (List.getElem?_eq_some_iff.1 hj).2
  rcases Nat.lt_trichotomy i j with hlt | heq | hgt
  · exact absurd (e1.trans e2.symm) (List.pairwise_iff_getElem.1 h i j h1 h2 hlt)
  · exact heq
  · exact absurd (e2.trans e1.symm) (List.pairwise_iff_getElem.1 h j i h2 h1 hgt)
theorem inv_set_ended {st : St} (h : Inv st) {i : Nat} {x : Fm} (hx : st.l[i]? = some x) : Inv { st with l := st.l.set i { x with ended := true } } := by
  have key : ∀ y ∈ st.l.set i { x with ended := true }, ∃ z ∈ st.l, y.id = z.id ∧ y.g = z.g ∧ y.toks = z.toks ∧ y.untl = z.untl ∧ y.fin = z.fin := fun y hy => by
    rcases mem_set hy with rfl | ⟨j, _, hj⟩
    · exact ⟨x, List.mem_of_getElem? hx, rfl, rfl, rfl, rfl, rfl⟩
    · exact ⟨y, List.mem_of_getElem? hj, rfl, rfl, rfl, rfl, rfl⟩
  refine ⟨?_, ?_, ?_, ?_, by simpa using h.len, ?_, ?_, ?_, ?_, h.lf⟩
  · rw [map_set_same (f := Fm.id) (y := { x with ended := true }) hx rfl]; exact h.ids
  · intro y hy z hz t k1 k2
    obtain ⟨y', hy', e1⟩ := key y hy
    obtain ⟨z', hz', e2⟩ := key z hz
    rw [e1.1, e2.1]
    exact h.tk y' hy' z' hz' t (by rw [← e1.2.2.1]; exact k1) (by rw [← e2.2.2.1]; exact k2)
  · intro y hy; obtain ⟨z, hz, e⟩ := key y hy; rw [e.2.2.1]; exact h.nd z hz
  · intro y hy; obtain ⟨z, hz, e⟩ := key y hy; rw [e.2.2.1]; exact h.ne z hz
  · intro y hy; obtain ⟨z, hz, e⟩ := key y hy; rw [e.2.2.1]; exact h.tl z hz
  · intro y hy; obtain ⟨z, hz, e⟩ := key y hy; rw [e.1, e.2.2.1]; exact h.sz z hz
  · intro y hy; obtain ⟨z, hz, e⟩ := key y hy; rw [e.2.1]; exact h.sc z hz
  · intro y hy; obtain ⟨z, hz, e⟩ := key y hy; rw [e.2.2.2.1, e.2.2.2.2]; exact h.rg z hz
/-- One family has ended. -/
theorem rep_ended {w : World} {S I : Nat → Prop} {F M1 M2 : Nat} {st : St} {pl : List (Nat × Fm)} (h : RepP w S I F st M1 M2 pl) {i b : Nat} {x : Fm} (hx : st.l[i]? = some x) (hb : pl[i]? = some (b, x)) :
    RepP (w.setCell ⟨b, 15, none⟩ (.bool true)) S I F { st with l := st.l.set i { x with ended := true } } M1 M2 (pl.set i (b, { x with ended := true })) := by
  have hm : (b, x) ∈ pl := List.mem_of_getElem? hb
  obtain ⟨sq, iq⟩ := h.sb _ hm
  obtain ⟨A, c, hq1, _⟩ := h.hb _ hm
  have far : ∀ k, k ≠ b → (w.setCell ⟨b, 15, none⟩ (.bool true)).heap[k]? = w.heap[k]? := fun k hk => Below.heap_setCell _ _ _ _ hk
  have nM1 : M1 ≠ b := fun e => by
    obtain ⟨f1, m1, _⟩ := h.h1
    obtain ⟨es, cl, hmm⟩ := m1.isMap
    rw [e, hq1] at hmm
    cases hmm
  have nM2 : M2 ≠ b := fun e => by
    obtain ⟨f1, m1, _⟩ := h.h2
    obtain ⟨es, cl, hmm⟩ := m1.isMap
    rw [e, hq1] at hmm
    cases hmm
  have nF : F ≠ b := fun e => by
    have := h.hF
    rw [e, hq1] at this
    cases this
  refine rep_upd h rfl rfl (by simp only [List.map_set, h.hl]) (map_set_same hb rfl) (map_set_same hx rfl) (fun q hq => ?_) (fun _ e => e) (far _ nF) (far _ nM1) (far _ nM2) (fun k e => by have := h.lt k e; simpa [World.setCell] using this) (inv_set_ended h.inv hx)
  rcases mem_set hq with rfl | ⟨j, hj, hq2⟩
  · exact (h.hb _ hm).ended iq
  · have hne : q.1 ≠ b := fun e => by
      have e1 : (pl.map Prod.fst)[j]? = some b := by rw [List.getElem?_map, hq2]; exact congrArg some e
      have e2 : (pl.map Prod.fst)[i]? = some b := by rw [List.getElem?_map, hb]; rfl
      exact hj (nodup_at h.nd e1 e2)
    exact (h.hb q (List.mem_of_getElem? hq2)).keep (fun _ e => e) (far _ hne) (fun k hk => far _ (fun e2 => iq (by rw [← e2]; exact hk))) (by simp [World.setCell])

section
variable {st : St} {x : Fm} {t n c : Bs} {sc : List Bs} {now : Int}
theorem cur_last (h : x.toks ≠ []) : x.toks.getLast? = some (cur x) := by
  unfold cur
  cases hx : x.toks.getLast? with
  | none => exact absurd (List.getLast?_eq_none_iff.1 hx) h
  | some y => rfl
theorem rotE_11 (h : c ≠ x.g.client) : rotE st x t n c sc now = 11 := by unfold rotE; rw [if_pos h]
theorem rotE_18 (h : c = x.g.client) (hne : x.toks ≠ []) (h2 : t ≠ cur x) : rotE st x t n c sc now = 18 := by
  unfold rotE; rw [if_neg (by simp [h]), if_pos (by rw [cur_last hne]; simpa using h2)]
theorem rotE_1 (h : c = x.g.client) (hne : x.toks ≠ []) (h2 : t = cur x) : rotE st x t n c sc now = if x.ended then 25 else if x.untl ≤ limI now then 13 else if wrd n = false then 5 else if tokI st.l n ≠ none then 7 else if withinS sc x.g.scopes = false then 19 else if 256 ≤ x.toks.length then 3 else 0 := by
  unfold rotE; rw [if_neg (by simp [h]), if_neg (by rw [cur_last hne]; simp [h2])]
end
end Go.Proofs.Ytfeljihbaekfmaa.Rf
