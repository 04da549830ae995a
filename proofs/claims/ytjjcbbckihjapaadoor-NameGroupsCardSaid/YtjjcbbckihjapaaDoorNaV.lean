/-
  The walks of layer 5: Rebase.
-/
import Derived.Test.YtjjcbbckihjapaaDoorNaU
namespace Go.Proofs.YtjjcbbckihjapaaDoor.Na
open Go.RowKit Go.Proofs.YtjjcbbckihjapaaDoor.Fo

theorem Ps.src {w : World} {B : Option Addr} {m d : Nat} {y : List B2} (hy : Ps w B m d y) : Src Tryd.prog 2 24 (.slice B m d) m (flat2 y) w := by
  cases B with
  | none =>
    have h0 : m = 0 := by
      rcases Nat.eq_zero_or_pos m with h | h
      · exact h
      · obtain ⟨b, off, h, _⟩ := hy.2.2 h; cases h
    subst h0
    have hl : y = [] := List.eq_nil_of_length_eq_zero hy.1
    subst hl
    exact Src.ofNil w Tryd.underlying24 d
  | some ad =>
    refine Src.ofSlice w Tryd.underlying24 ad m d (flat2 y) (by rw [flat2_length, hy.1]) (fun j u hu => ?_) (flat2_one y)
    rcases Nat.eq_zero_or_pos m with h0 | h0
    · have hl : y = [] := List.eq_nil_of_length_eq_zero (hy.1.trans h0)
      rw [hl] at hu
      exact absurd hu (by simp [flat2])
    · obtain ⟨b, off, h, _⟩ := hy.2.2 h0
      injection h with h
      subst h
      exact hy.flat j u hu
theorem ps_block {w : World} {g c : Nat} {l : List B2} {cs : List Value} {t : TypeId} {fr : Nat × Nat} (hg : w.heap[g]? = some (.cells (flat2 l ++ cs).toArray t fr)) (hc : l.length ≤ c) : Ps w (some ⟨g, 0, none⟩) l.length c l := by
  refine ⟨rfl, hc, fun _ => ⟨g, 0, rfl, (Array.getElem?_eq_some_iff.1 hg).1, fun i hi => ?_⟩⟩
  obtain ⟨f0, f1⟩ := flat2_get l i hi
  have hcell : ∀ j, j < l.length * 2 → w.cell? ⟨g, j, none⟩ = (flat2 l)[j]? := fun j hj => by
    rw [cell_of_row w g j _ t fr hg]
    simp [List.getElem?_append_left (show j < (flat2 l).length by rw [flat2_length]; exact hj)]
  simp only [Nat.zero_add]
  rw [hcell _ (by omega), hcell _ (by omega)]
  exact ⟨f0, f1⟩
/-- append onto a slice without room. -/
theorem wpList_app2F {w : World} {ops : Array Oper} {rest : List Oper} {o : Oper} {a : Act} {Q : Exit → Act → World → Prop} (hgd : o.guard = none) (s x : Operand)
    (ho : o.op = .call { callee := .builtin .append, args := #[s, x], argTypes := #[24, 24] }) (k : Nat) (A : Option Addr) (l : List B2) (hs : a.eval s = .slice A k k) (hl : Ps w A k k l)
    (B : Option Addr) (m d : Nat) (y : List B2) (hx : a.eval x = .slice B m d) (hy : Ps w B m d y) (hlen : k + m ≤ 1000000)
    (h : ∀ A' c' w', Ps w' A' (l ++ y).length c' (l ++ y) → Below w.heap.size w w' → wpList Tryd.prog ops Q rest (a.put o.dst (.slice A' (l ++ y).length c')) w') : wpList Tryd.prog ops Q (o :: rest) a w := by
  obtain ⟨i0, hi, hz0, hz1, hz2⟩ := info_parts pair_info
  have key : ∃ A' c' w', (Builtin.append_ #[24, 24] o.type #[.slice A k k, .slice B m d]).run Tryd.prog w = .ok (.slice A' (l ++ y).length c') w' ∧ Ps w' A' (l ++ y).length c' (l ++ y) ∧ Below w.heap.size w w' := by
    have hsrc := hy.src
    rcases Nat.eq_zero_or_pos m with h0 | h0
    · subst h0
      have hy0 : y = [] := List.eq_nil_of_length_eq_zero hy.1
      subst hy0
      rw [List.append_nil, hl.1]
      exact ⟨A, k, w, run_append_nothing w _ _ _ _ i0 Tryd.underlying24 hi A k k (Nat.le_refl _) _ (by rw [hz1]; exact hsrc), hl, Below.refl _ _⟩
    · have hold : (Builtin.firstCells i0.size k (.slice A k k)).run Tryd.prog w.drew = .ok (flat2 l).toArray w.drew := by
        rw [hz1]
        have hl2 : Ps w.drew A k k l := hl
        exact hl2.src.cells
      have hrun := run_append_grow_src w 24 24 o.type 36 i0 _ Tryd.underlying24 hi hz0 A k k (flat2 l) hold _ m (flat2 y) (by rw [hz1]; exact hsrc) (by omega) (by omega) (by rw [hz2]; exact Nat.le_trans (Nat.mul_le_mul_right 32 (nextslicecap_le (by omega))) (by omega))
      have e1 : k + m = (l ++ y).length := by rw [List.length_append, hl.1, hy.1]
      rw [e1] at hrun
      refine ⟨_, _, _, hrun, ?_, ((Below.refl _ w).drew).alloc (Nat.le_refl _) _⟩
      have hge := grownCap_ge w (l ++ y).length k 36
      refine ps_block (g := w.heap.size) (cs := (Builtin.zeroCells (Value.agg #[.string ⟨#[]⟩, .string ⟨#[]⟩]).cells (grownCap w (l ++ y).length k 36 - (l ++ y).length)).toList) (t := 36) (fr := (0, 0)) ?_ hge
      have := heap_alloc_new w.drew (.cells ((flat2 l ++ flat2 y).toArray ++ Builtin.zeroCells (Value.agg #[.string ⟨#[]⟩, .string ⟨#[]⟩]).cells (grownCap w (l ++ y).length k 36 - (l ++ y).length)) 36)
      rw [flat2_append]
      rw [show ((flat2 l ++ flat2 y) ++ (Builtin.zeroCells (Value.agg #[.string ⟨#[]⟩, .string ⟨#[]⟩]).cells (grownCap w (l ++ y).length k 36 - (l ++ y).length)).toList).toArray = (flat2 l ++ flat2 y).toArray ++ Builtin.zeroCells (Value.agg #[.string ⟨#[]⟩, .string ⟨#[]⟩]).cells (grownCap w (l ++ y).length k 36 - (l ++ y).length) by apply Array.ext'; simp]
      exact this
  obtain ⟨A', c', w', hrun, hp, hb⟩ := key
  refine wpList_plain hgd fun K hK => ?_
  unfold Oper.wp execOp
  simp only [ho, resolve, invoke, builtin, Sem.run_bind, Sem.run_pure, Result.andThen_ok, List.map_toArray, List.map_cons, List.map_nil, hs, hx, hrun]
  exact hK _ _ (h A' c' w' hp hb)
/-- .. with what comes behind a name of its own. -/
theorem wpList_app2G {w : World} {ops : Array Oper} {rest : List Oper} {o : Oper} {a : Act} {Q : Exit → Act → World → Prop} (hgd : o.guard = none) (s x : Operand)
    (ho : o.op = .call { callee := .builtin .append, args := #[s, x], argTypes := #[24, 24] }) (k : Nat) (A : Option Addr) (l : List B2) (hs : a.eval s = .slice A k k) (hl : Ps w A k k l)
    (B : Option Addr) (m d : Nat) (y : List B2) (hx : a.eval x = .slice B m d) (hy : Ps w B m d y) (hlen : k + m ≤ 1000000)
    (h : ∀ A' c' w' (L : List B2), Hid (L = l ++ y) → Hid (Ps w' A' L.length c' L) → Hid (Below w.heap.size w w') → wpList Tryd.prog ops Q rest (a.put o.dst (.slice A' L.length c')) w') : wpList Tryd.prog ops Q (o :: rest) a w :=
  wpList_app2F hgd s x ho k A l hs hl B m d y hx hy hlen fun A' c' w' h1 h2 => h A' c' w' _ (Lib.hid rfl) (Lib.hid h1) (Lib.hid h2)
theorem reb_inv {s f t : List UInt8} (h : valid s = false ∨ valid f = false ∨ valid t = false) : reb s f t = ([], 4) := by unfold reb; rw [if_pos h]
theorem reb_none {s f t : List UInt8} (h1 : valid s = true) (h2 : valid f = true) (h3 : valid t = true) (h : ¬ (cps f <:+ cps s)) : reb s f t = ([], 6) := by
  unfold reb; rw [if_neg (by simp [h1, h2, h3]), if_pos h]
theorem reb_yes {s f t : List UInt8} (h1 : valid s = true) (h2 : valid f = true) (h3 : valid t = true) (h : cps f <:+ cps s) : reb s f t = fmt ((cps s).take ((cps s).length - (cps f).length) ++ cps t) := by
  unfold reb; rw [if_neg (by simp [h1, h2, h3]), if_neg (by simp [h])]
theorem prL_append (l m : List B2) : prL (l ++ m) = prL l ++ prL m := by simp [prL]
theorem prL_take (l : List B2) (k : Nat) : prL (l.take k) = (prL l).take k := by simp [prL, List.map_take]
theorem Sh.take {l : List B2} (h : Sh l) (k : Nat) : Sh (l.take k) := by
  intro i hi
  have hi' : i < k := by simp at hi; omega
  rw [(pX_take hi').1, (pX_take hi').2]
  exact h i (by simp at hi; omega)
end Go.Proofs.YtjjcbbckihjapaaDoor.Na
