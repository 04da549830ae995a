/-
  append: strings and families, as run equations.
-/
import Derived.Test.YtfeljihbaekfmaaRfXd
import Derived.Maps.AppendAt
namespace Go.Proofs.Ytfeljihbaekfmaa.Rf
open Go.RowKit Go.Proofs.Ytfeljihbaekfmaa.Fo

theorem str_info : (Try.prog.info? 9).map (fun i => (i.zero, i.size, i.bytes)) = some (some (.string ⟨#[]⟩), 1, 16) := by kernel_rfl
theorem fam_info : (Try.prog.info? 72).map (fun i => (i.zero, i.size, i.bytes)) = some (some (.agg #[.string ⟨#[]⟩, .string ⟨#[]⟩, .string ⟨#[]⟩, .string ⟨#[]⟩, .string ⟨#[]⟩, .string ⟨#[]⟩, .string ⟨#[]⟩, .string ⟨#[]⟩, .int .i64 0, .slice none 0 0, .int .i64 0, .int .i64 0, .slice none 0 0, .int .i64 0, .int .i64 0, .bool false]), 16, 224) := by kernel_rfl
theorem stV_get {l : List Bs} {j : Nat} {u : Value} (h : (stV l)[j]? = some u) : j < l.length ∧ u = .string (sAt l j) := by
  unfold stV at h
  rw [List.getElem?_map] at h
  obtain ⟨s, hs, rfl⟩ := Option.map_eq_some_iff.1 h
  have hj := (List.getElem?_eq_some_iff.1 hs).1
  refine ⟨hj, ?_⟩
  rw [sAt_some hj] at hs
  injection hs with hs
  rw [hs]
theorem stV_one (l : List Bs) : ∀ u ∈ stV l, u.oneCell' = true := fun u h => by
  unfold stV at h
  obtain ⟨s, _, rfl⟩ := List.mem_map.1 h
  rfl
theorem own1_empty (w : World) (base : Nat) (hb : base ≤ w.heap.size) : Own1 (w.alloc (.cells #[] 9)) base (.slice (some ⟨w.heap.size, 0, none⟩) 0 0) [] :=
  ⟨rfl, .inr ⟨w.heap.size, 0, #[], rfl, hb, heap_alloc_new w _, Nat.le_refl _, by simp [maxLen], rfl, rfl⟩⟩
/-- append of strings onto a row of the call's own. -/
theorem app1_run (w : World) (base : Nat) (hb : base ≤ w.heap.size) (ty : TypeId) (v : Value) (l : List Bs) (hown : Own1 w base v l) (B : Option Addr) (m d : Nat) (y : List Bs) (hy : Ss w B m d y) (hlen : l.length + m ≤ 100000) :
    ∃ v' w', (Builtin.append_ #[33, 33] ty #[v, .slice B m d]).run Try.prog w = .ok v' w' ∧ Own1 w' base v' (l ++ y) ∧ w.grownBy w' v.ownBlock ∧ (v'.ownBlock = v.ownBlock ∨ v'.ownBlock = some w.heap.size) := by
  obtain ⟨i0, hi, hz0, hz1, hz2⟩ := info_of str_info
  cases B with
  | some ad =>
    obtain ⟨v', w', h1, h2, h3, _, h5⟩ := run_append_own_at (P := Try.prog) w base 33 ty 9 i0 _ 1 16 Try.underlying33 hi hz0 hz1 hz2 rfl (by decide) v l.length (stV l) hown ad m d (stV y) (by simp [stV, hy.1]) (fun j u hu => by
      obtain ⟨hj, rfl⟩ := stV_get hu
      obtain ⟨b, off, e, _, hc⟩ := hy.2.2 (by have := hy.1; omega)
      injection e with e
      subst e
      have e2 : (⟨b, off, none⟩ : Addr).add j = ⟨b, off + j, none⟩ := by unfold Addr.add; split <;> simp_all
      rw [e2]
      exact hc j (by have := hy.1; omega)) (stV_one y) (by simp only [maxLen]; omega) (by omega) hb
    refine ⟨v', w', h1, ?_, h3, h5⟩
    have e : stV (l ++ y) = stV l ++ stV y := by simp [stV]
    unfold Own1
    rw [e, List.length_append, hy.1]
    exact h2
  | none =>
    have hm : m = 0 := by
      rcases Nat.eq_zero_or_pos m with h | h
      · exact h
      · obtain ⟨b, off, e, _⟩ := hy.2.2 h; cases e
    have hyn : y = [] := List.eq_nil_of_length_eq_zero (hy.1.trans hm)
    subst hm
    subst hyn
    refine ⟨v, w, ?_, by rw [List.append_nil]; exact hown, ⟨rfl, rfl, rfl, Nat.le_refl _, fun _ _ _ => rfl⟩, Or.inl rfl⟩
    rcases hown.2 with ⟨hv, h0⟩ | ⟨g, cap, cur, hv, _, _, hnc, _⟩
    · rw [hv]
      simp [Builtin.append_, run_underlying Try.underlying33, sizeOf, typeInfo, hi, Builtin.lenOf, Builtin.firstCells]
    · rw [hv]
      simp [Builtin.append_, run_underlying Try.underlying33, sizeOf, typeInfo, hi, Builtin.lenOf, Builtin.firstCells, hnc, storeCells]
theorem wpList_app1 {w : World} {ops : Array Oper} {rest : List Oper} {o : Oper} {a : Act} {Q : Exit → Act → World → Prop} (hgd : o.guard = none) (s x : Operand)
    (ho : o.op = .call { callee := .builtin .append, args := #[s, x], argTypes := #[33, 33] }) (base : Nat) (hb : base ≤ w.heap.size) (v : Value) (l : List Bs) (hs : a.eval s = v) (hown : Own1 w base v l) (B : Option Addr) (m d : Nat) (y : List Bs) (hx : a.eval x = .slice B m d) (hy : Ss w B m d y) (hlen : l.length + m ≤ 100000)
    (h : ∀ v' w', Own1 w' base v' (l ++ y) → w.grownBy w' v.ownBlock → (v'.ownBlock = v.ownBlock ∨ v'.ownBlock = some w.heap.size) → wpList Try.prog ops Q rest (a.put o.dst v') w') : wpList Try.prog ops Q (o :: rest) a w := by
  refine wpList_plain hgd fun K hK => ?_
  obtain ⟨v', w', hr, h2, h3, h4⟩ := app1_run w base hb o.type v l hown B m d y hy hlen
  unfold Oper.wp execOp
  simp only [ho, resolve, invoke, builtin, Sem.run_bind, Sem.run_pure, Result.andThen_ok, List.map_toArray, List.map_cons, List.map_nil, hs, hx, hr]
  exact hK _ _ (h v' w' h2 h3 h4)
/-- append of one family. -/
theorem app16_run (w : World) (ty : TypeId) (v : Value) (l : List FmE) (hown : OwnR w v l) (q d : Nat) (y : FmE) (hy : ∀ j u, (fl16 y)[j]? = some u → w.cell? ⟨q, j, none⟩ = some u) (hlen : l.length ≤ 1000) :
    ∃ v' w', (Builtin.append_ #[65, 65] ty #[v, .slice (some ⟨q, 0, none⟩) 1 d]).run Try.prog w = .ok v' w' ∧ OwnR w' v' (l ++ [y]) ∧ w.grownBy w' v.ownBlock ∧ (v'.ownBlock = v.ownBlock ∨ v'.ownBlock = some w.heap.size) := by
  obtain ⟨i0, hi, hz0, hz1, hz2⟩ := info_of fam_info
  obtain ⟨v', w', h1, h2, h3, _, h5⟩ := run_append_own_at (P := Try.prog) w 0 65 ty 72 i0 _ 16 224 Try.underlying65 hi hz0 hz1 hz2 rfl (by decide) v l.length (flat16 l) hown ⟨q, 0, none⟩ 1 d (fl16 y) rfl (fun j u hu => by
    have e2 : (⟨q, 0, none⟩ : Addr).add j = ⟨q, j, none⟩ := by unfold Addr.add; split <;> simp_all
    rw [e2]
    exact hy j u hu) (fl16_one y) (by simp only [maxLen]; omega) (by omega) (Nat.zero_le _)
  refine ⟨v', w', h1, ?_, h3, h5⟩
  have e : flat16 (l ++ [y]) = flat16 l ++ fl16 y := by rw [flat16_append]; simp [flat16]
  unfold OwnR
  rw [e, List.length_append]
  exact h2
theorem wp_app1 {w : World} {o : Oper} {a : Act} {K : Act → World → Prop} {Q : Exit → Act → World → Prop} (s x : Operand)
    (ho : o.op = .call { callee := .builtin .append, args := #[s, x], argTypes := #[33, 33] }) (base : Nat) (hb : base ≤ w.heap.size) (v : Value) (l : List Bs) (hs : a.eval s = v) (hown : Own1 w base v l) (B : Option Addr) (m d : Nat) (y : List Bs) (hx : a.eval x = .slice B m d) (hy : Ss w B m d y) (hlen : l.length + m ≤ 100000)
    (h : ∀ v' w', Own1 w' base v' (l ++ y) → w.grownBy w' v.ownBlock → (v'.ownBlock = v.ownBlock ∨ v'.ownBlock = some w.heap.size) → K (a.put o.dst v') w') : o.wp Try.prog a w K Q := by
  obtain ⟨v', w', hr, h2, h3, h4⟩ := app1_run w base hb o.type v l hown B m d y hy hlen
  unfold Oper.wp execOp
  simp only [ho, resolve, invoke, builtin, Sem.run_bind, Sem.run_pure, Result.andThen_ok, List.map_toArray, List.map_cons, List.map_nil, hs, hx, hr]
  exact h v' w' h2 h3 h4
theorem wp_app16 {w : World} {o : Oper} {a : Act} {K : Act → World → Prop} {Q : Exit → Act → World → Prop} (s x : Operand)
    (ho : o.op = .call { callee := .builtin .append, args := #[s, x], argTypes := #[65, 65] }) (v : Value) (l : List FmE) (hs : a.eval s = v) (hown : OwnR w v l) (q d : Nat) (y : FmE) (hx : a.eval x = .slice (some ⟨q, 0, none⟩) 1 d) (hy : ∀ j u, (fl16 y)[j]? = some u → w.cell? ⟨q, j, none⟩ = some u) (hlen : l.length ≤ 1000)
    (h : ∀ v' w', OwnR w' v' (l ++ [y]) → w.grownBy w' v.ownBlock → (v'.ownBlock = v.ownBlock ∨ v'.ownBlock = some w.heap.size) → K (a.put o.dst v') w') : o.wp Try.prog a w K Q := by
  obtain ⟨v', w', hr, h2, h3, h4⟩ := app16_run w o.type v l hown q d y hy hlen
  unfold Oper.wp execOp
  simp only [ho, resolve, invoke, builtin, Sem.run_bind, Sem.run_pure, Result.andThen_ok, List.map_toArray, List.map_cons, List.map_nil, hs, hx, hr]
  exact h v' w' h2 h3 h4
theorem addC_l (t d : Int) : addC (limI t) d = addC t d := by unfold addC; rw [limI_lim]
theorem rw_is (s : Bs) (w : World) (hs : s.size ≤ 100000) (b : Bool) (h : wrd s = b) : Calls Try.prog 56 #[.string s] w fun e w' => e = .returned (.bool b) ∧ w = w' := by
  subst h
  exact rword_any s w hs
end Go.Proofs.Ytfeljihbaekfmaa.Rf
