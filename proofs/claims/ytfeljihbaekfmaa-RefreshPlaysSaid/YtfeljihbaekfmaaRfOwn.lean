/-
  Rows of calls of the statement's own: append.
-/
import Derived.Test.YtfeljihbaekfmaaRfL0
import Derived.Maps.AppendAt
namespace Go.Proofs.Ytfeljihbaekfmaa.Rf
open Go.RowKit Go.Proofs.Ytfeljihbaekfmaa.Fo

/-- A call, and where its scopes lie. -/
abbrev OpE := Opx × Option Addr × Nat
def fl9 (e : OpE) : List Value := [.int .i64 e.1.call, .int .i64 e.1.now, .string e.1.id, .string e.1.tok, .string e.1.nxt, .string e.1.user, .string e.1.cl, .string e.1.ses, .slice e.2.1 e.1.sc.length e.2.2]
def flat9 : List OpE → List Value
  | [] => []
  | e :: r => fl9 e ++ flat9 r
theorem fl9_length (e : OpE) : (fl9 e).length = 9 := rfl
theorem flat9_length : ∀ l : List OpE, (flat9 l).length = l.length * 9
  | [] => rfl
  | e :: r => by rw [flat9, List.length_append, flat9_length r, fl9_length, List.length_cons]; omega
theorem flat9_append : ∀ l k : List OpE, flat9 (l ++ k) = flat9 l ++ flat9 k
  | [], _ => rfl
  | e :: r, k => by rw [List.cons_append, flat9, flat9, flat9_append r k, List.append_assoc]
theorem flat9_one : ∀ (l : List OpE), ∀ u ∈ flat9 l, u.oneCell' = true
  | [], u, h => by simp [flat9] at h
  | e :: r, u, h => by
    rw [flat9, List.mem_append] at h
    rcases h with h | h
    · simp only [fl9, List.mem_cons, List.not_mem_nil, or_false] at h
      rcases h with h | h | h | h | h | h | h | h | h <;> (subst h; rfl)
    · exact flat9_one r u h
theorem flat9_get : ∀ (l : List OpE) (i : Nat) (e : OpE) (j : Nat), l[i]? = some e → j < 9 → (flat9 l)[i * 9 + j]? = (fl9 e)[j]?
  | [], i, e, j, h, _ => by simp at h
  | x :: r, 0, e, j, h, hj => by
    injection h with h
    subst h
    rw [flat9, Nat.zero_mul, Nat.zero_add, List.getElem?_append_left (by rw [fl9_length]; exact hj)]
  | x :: r, i + 1, e, j, h, hj => by
    rw [flat9, List.getElem?_append_right (by rw [fl9_length]; omega), fl9_length, show (i + 1) * 9 + j - 9 = i * 9 + j by omega]
    exact flat9_get r i e j h hj
def Own9 (w : World) (base : Nat) (v : Value) (l : List OpE) : Prop := w.ownsRow base 39 9 v l.length (flat9 l)
theorem Own9.nil (w : World) (base : Nat) : Own9 w base (.slice none 0 0) [] := World.ownsRow_nil _ _ _ _
theorem Own9.form {w : World} {base : Nat} {v : Value} {l : List OpE} (h : Own9 w base v l) : (v = .slice none 0 0 ∧ l = []) ∨ ∃ g c, v = .slice (some ⟨g, 0, none⟩) l.length c ∧ base ≤ g ∧ g < w.heap.size := by
  rcases h.2 with ⟨hv, hn⟩ | ⟨g, cap, cur, hv, hg, hh, _⟩
  · exact Or.inl ⟨hv, List.eq_nil_of_length_eq_zero hn⟩
  · exact Or.inr ⟨g, cap, hv, hg, (Array.getElem?_eq_some_iff.1 hh).1⟩
theorem Own9.len {w : World} {base : Nat} {v : Value} {l : List OpE} (h : Own9 w base v l) : ∃ A c, v = .slice A l.length c := by
  rcases h.form with ⟨h1, h2⟩ | ⟨g, c, h1, _⟩
  · subst h2; exact ⟨none, 0, h1⟩
  · exact ⟨_, c, h1⟩
theorem Own9.cell {w : World} {base g c : Nat} {l : List OpE} (h : Own9 w base (.slice (some ⟨g, 0, none⟩) l.length c) l) {i : Nat} {e : OpE} (hi : l[i]? = some e) {j : Nat} {u : Value} (hj : (fl9 e)[j]? = some u) : w.cell? ⟨g, i * 9 + j, none⟩ = some u := by
  have hj9 : j < 9 := (List.getElem?_eq_some_iff.1 hj).1
  have h2 := World.ownsRow.cells h (g := g) rfl (i * 9 + j) u (by rw [flat9_get l i e j hi hj9]; exact hj)
  have e2 : (⟨g, 0, none⟩ : Addr).add (i * 9 + j) = ⟨g, i * 9 + j, none⟩ := by unfold Addr.add; split <;> simp_all
  rw [e2] at h2
  exact h2
theorem Own9.keep {w w' : World} {base : Nat} {v : Value} {l : List OpE} (h : Own9 w base v l) (hk : ∀ g, v.ownBlock = some g → w'.heap[g]? = w.heap[g]?) : Own9 w' base v l := by
  refine ⟨h.1, ?_⟩
  rcases h.2 with hn | ⟨g, cap, cur, rfl, hb, hgg, rest⟩
  · exact Or.inl hn
  · exact Or.inr ⟨g, cap, cur, rfl, hb, (hk g rfl).trans hgg, rest⟩
theorem Own9.lt {w : World} {base : Nat} {v : Value} {l : List OpE} (h : Own9 w base v l) (g : Nat) (hg : v.ownBlock = some g) : base ≤ g ∧ g < w.heap.size := by
  rcases h.form with ⟨h1, _⟩ | ⟨g', c, h1, h2, h3⟩
  · rw [h1] at hg; cases hg
  · rw [h1] at hg; injection hg with hg; subst hg; exact ⟨h2, h3⟩
theorem Own9.below {w w' : World} {base : Nat} {v : Value} {l : List OpE} (h : Own9 w base v l) (hb : Below w.heap.size w w') : Own9 w' base v l := h.keep (fun g hg => hb.block g (h.lt g hg).2)
theorem Own9.mods {T : Nat → Prop} {w w' : World} {base : Nat} {v : Value} {l : List OpE} (h : Own9 w base v l) (hm : Mods T w w') (hT : ∀ g, v.ownBlock = some g → ¬ T g) : Own9 w' base v l := h.keep (fun g hg => hm.block g (h.lt g hg).2 (hT g hg))
theorem op_info : (Try.prog.info? 39).map (fun i => (i.zero, i.size, i.bytes)) = some (some (.agg #[.int .i64 0, .int .i64 0, .string ⟨#[]⟩, .string ⟨#[]⟩, .string ⟨#[]⟩, .string ⟨#[]⟩, .string ⟨#[]⟩, .string ⟨#[]⟩, .slice none 0 0]), 9, 136) := by kernel_rfl
theorem info_of {t : TypeId} {z : Value} {s b : Nat} (h : (Try.prog.info? t).map (fun i => (i.zero, i.size, i.bytes)) = some (some z, s, b)) : ∃ i, Try.prog.info? t = some i ∧ i.zero = some z ∧ i.size = s ∧ i.bytes = b := by
  cases hq : Try.prog.info? t with
  | none => rw [hq] at h; cases h
  | some i =>
    rw [hq] at h
    simp only [Option.map_some, Option.some.injEq, Prod.mk.injEq] at h
    exact ⟨i, rfl, h.1, h.2.1, h.2.2⟩
theorem at_dst {P : Program} (d : Nat) {ops : Array Oper} {Q : Exit → Act → World → Prop} {rest : List Oper} {op : Op} {ty : TypeId} {pos : String} {af : Array Edge} {gd : Option (Nat × Bool)} {a : Act} {w : World}
    (h : wpList P ops Q (⟨some d, op, ty, pos, af, gd⟩ :: rest) a w) : wpList P ops Q (⟨some d, op, ty, pos, af, gd⟩ :: rest) a w := h
/-- append of one call. -/
theorem wpList_app9 {w : World} {ops : Array Oper} {rest : List Oper} {o : Oper} {a : Act} {Q : Exit → Act → World → Prop} (hgd : o.guard = none) (s x : Operand)
    (ho : o.op = .call { callee := .builtin .append, args := #[s, x], argTypes := #[22, 22] }) (base : Nat) (v : Value) (l : List OpE) (hs : a.eval s = v) (hown : Own9 w base v l)
    (q d : Nat) (y : OpE) (hx : a.eval x = .slice (some ⟨q, 0, none⟩) 1 d) (hy : ∀ j u, (fl9 y)[j]? = some u → w.cell? ⟨q, j, none⟩ = some u) (hlen : l.length ≤ 1000) (hb : base ≤ w.heap.size)
    (h : ∀ v' w', Own9 w' base v' (l ++ [y]) → w.grownBy w' v.ownBlock → (v'.ownBlock = v.ownBlock ∨ v'.ownBlock = some w.heap.size) → wpList Try.prog ops Q rest (a.put o.dst v') w') : wpList Try.prog ops Q (o :: rest) a w := by
  obtain ⟨i0, hi, hz0, hz1, hz2⟩ := info_of op_info
  refine wpList_append_own_at w hgd s x 22 ho base 39 i0 _ 9 136 Try.underlying22 hi hz0 hz1 hz2 rfl (by decide) v l.length (flat9 l) hs hown ⟨q, 0, none⟩ 1 d (fl9 y) hx rfl (fun j u hu => ?_) (fun u hu => flat9_one [y] u (by simpa [flat9] using hu)) (by simp only [maxLen]; omega) (by omega) hb (fun v' w' h1 h2 _ h4 => h v' w' ?_ h2 h4)
  · have e2 : (⟨q, 0, none⟩ : Addr).add j = ⟨q, j, none⟩ := by unfold Addr.add; split <;> simp_all
    rw [e2]
    exact hy j u hu
  · have e : flat9 (l ++ [y]) = flat9 l ++ fl9 y := by rw [flat9_append]; simp [flat9]
    unfold Own9
    rw [e, List.length_append]
    exact h1
end Go.Proofs.Ytfeljihbaekfmaa.Rf
