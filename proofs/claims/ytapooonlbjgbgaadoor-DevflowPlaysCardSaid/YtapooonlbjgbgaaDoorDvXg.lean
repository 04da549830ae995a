/-
  The reference: a row of cells of a flow is written; Approve.
-/
import Derived.Test.YtapooonlbjgbgaaDoorDvXf
namespace Go.Proofs.YtapooonlbjgbgaaDoor.Dv
open Go.RowKit Go.Proofs.YtapooonlbjgbgaaDoor.Fo Go.Proofs.YtapooonlbjgbgaaDoor.Rf

/-- A row of a list is written. -/
def setL : Nat → List Value → List Value → List Value
  | _, [], L => L
  | o, v :: r, L => setL (o + 1) r (L.set o v)
theorem setL_left : ∀ (vs : List Value) (o : Nat) (A B : List Value), o + vs.length ≤ A.length → setL o vs (A ++ B) = setL o vs A ++ B
  | [], _, _, _, _ => rfl
  | v :: r, o, A, B, h => by
    rw [List.length_cons] at h
    rw [setL, setL, List.set_append_left _ _ (by omega)]
    exact setL_left r (o + 1) (A.set o v) B (by rw [List.length_set]; omega)
theorem setL_right : ∀ (vs : List Value) (o : Nat) (A B : List Value), setL (A.length + o) vs (A ++ B) = A ++ setL o vs B
  | [], _, _, _ => rfl
  | v :: r, o, A, B => by
    rw [setL, setL, List.set_append_right _ _ (by omega), show A.length + o - A.length = o by omega, Nat.add_assoc]
    exact setL_right r (o + 1) A (B.set o v)
theorem flat20_setL : ∀ (l : List FwE) (i : Nat) (e e' : FwE) (j : Nat) (vs : List Value), l[i]? = some e → j + vs.length ≤ 20 → setL j vs (fl20 e) = fl20 e' → setL (i * 20 + j) vs (flat20 l) = flat20 (l.set i e')
  | [], i, e, e', j, vs, h, _, _ => by simp at h
  | x :: r, 0, e, e', j, vs, h, hj, hs => by
    injection h with h
    subst h
    rw [Nat.zero_mul, Nat.zero_add, flat20, setL_left _ _ _ _ (by rw [fl20_length]; exact hj), hs, List.set_cons_zero, flat20]
  | x :: r, i + 1, e, e', j, vs, h, hj, hs => by
    rw [flat20, show (i + 1) * 20 + j = (fl20 x).length + (i * 20 + j) by rw [fl20_length]; omega, setL_right, flat20_setL r i e e' j vs h hj hs, List.set_cons_succ, flat20]
theorem owns_setCells {g c n : Nat} : ∀ (vs : List Value) (o : Nat) (w : World) (L : List Value), w.ownsRow 0 86 20 (.slice (some ⟨g, 0, none⟩) n c) n L → (w.setCells g o vs).ownsRow 0 86 20 (.slice (some ⟨g, 0, none⟩) n c) n (setL o vs L)
  | [], _, _, _, h => h
  | v :: r, o, _, _, h => owns_setCells r (o + 1) _ _ (World.ownsRow.stored h o v).1
theorem OwnR.row {w : World} {g c : Nat} {l : List FwE} (h : OwnR w (.slice (some ⟨g, 0, none⟩) l.length c) l) {i : Nat} {e e' : FwE} (hi : l[i]? = some e) {j : Nat} {vs : List Value} (hj : j + vs.length ≤ 20) (hs : setL j vs (fl20 e) = fl20 e') : OwnR (w.setCells g (i * 20 + j) vs) (.slice (some ⟨g, 0, none⟩) l.length c) (l.set i e') := by
  have h1 := owns_setCells vs (i * 20 + j) w _ h
  rw [flat20_setL l i e e' j vs hi hj hs] at h1
  unfold OwnR
  rw [List.length_set]
  exact h1
theorem setCells_other (b : Nat) : ∀ (vs : List Value) (o : Nat) (w : World) (k : Nat), k ≠ b → (w.setCells b o vs).heap[k]? = w.heap[k]?
  | [], _, _, _, _ => rfl
  | _ :: r, o, _, k, h => (setCells_other b r (o + 1) _ k h).trans (Below.heap_setCell _ _ _ _ h)
theorem setCells_facts (b : Nat) : ∀ (vs : List Value) (o : Nat) (w : World), (w.setCells b o vs).heap.size = w.heap.size ∧ (w.setCells b o vs).os = w.os ∧ (w.setCells b o vs).tape = w.tape ∧ (w.setCells b o vs).output = w.output
  | [], _, _ => ⟨rfl, rfl, rfl, rfl⟩
  | v :: r, o, w => by
    obtain ⟨h1, h2, h3, h4⟩ := setCells_facts b r (o + 1) (w.setCell ⟨b, o, none⟩ v)
    exact ⟨h1.trans (by simp only [sc_size]), h2, h3, h4⟩
end Go.Proofs.YtapooonlbjgbgaaDoor.Dv
