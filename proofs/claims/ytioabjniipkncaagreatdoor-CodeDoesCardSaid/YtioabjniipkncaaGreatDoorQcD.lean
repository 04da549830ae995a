/-
  append: strings and codes, as run equations; a slice of one code.
-/
import Derived.Test.YtioabjniipkncaaGreatDoorQcC
import Derived.Great.BuildSlice
import Derived.Deep.MidRow
namespace Go.Proofs.YtioabjniipkncaaGreatDoor.Rc
open Go.RowKit Go.Proofs.YtioabjniipkncaaGreatDoor.Fo Go.Proofs.YtioabjniipkncaaGreatDoor.Rf Go.Maps

theorem str_info : (Tryz.prog.info? 9).map (fun i => (i.zero, i.size, i.bytes)) = some (some (.string ⟨#[]⟩), 1, 16) := by kernel_rfl
theorem code_info : (Tryz.prog.info? 74).map (fun i => (i.zero, i.size, i.bytes)) = some (some (.agg #[.string ⟨#[]⟩, .string ⟨#[]⟩, .string ⟨#[]⟩, .string ⟨#[]⟩, .string ⟨#[]⟩, .string ⟨#[]⟩, .string ⟨#[]⟩, .string ⟨#[]⟩, .int .i64 0, .slice none 0 0, .int .i64 0, .int .i64 0, .int .i64 0, .bool false, .bool false, .bool false]), 16, 192) := by kernel_rfl
theorem sAt_some {l : List Bs} {i : Nat} (h : i < l.length) : l[i]? = some (sAt l i) := by rw [List.getElem?_eq_getElem h]; simp [sAt, List.getD, h]
theorem at_dst {P : Program} (d : Nat) {ops : Array Oper} {Q : Exit → Act → World → Prop} {rest : List Oper} {op : Op} {ty : TypeId} {pos : String} {af : Array Edge} {gd : Option (Nat × Bool)} {a : Act} {w : World}
    (h : wpList P ops Q (⟨some d, op, ty, pos, af, gd⟩ :: rest) a w) : wpList P ops Q (⟨some d, op, ty, pos, af, gd⟩ :: rest) a w := h
theorem stV_get {l : List Bs} {j : Nat} {u : Value} (h : (stV l)[j]? = some u) : j < l.length ∧ u = .string (sAt l j) := by
  unfold stV at h
  rw [List.getElem?_map] at h
  obtain ⟨s, hs, rfl⟩ := Option.map_eq_some_iff.1 h
  have hj := (List.getElem?_eq_some_iff.1 hs).1
  refine ⟨hj, ?_⟩
  rw [sAt_some hj] at hs
  injection hs with hs
  rw [hs]
theorem stV_one (l : List Bs) : ∀ u ∈ stV l, u.oneCell' = true := fun u h => by
  unfold stV at h
  obtain ⟨s, _, rfl⟩ := List.mem_map.1 h
  rfl
theorem own1_empty (w : World) (base : Nat) (hb : base ≤ w.heap.size) : Own1 (w.alloc (.cells #[] 9)) base (.slice (some ⟨w.heap.size, 0, none⟩) 0 0) [] :=
  ⟨rfl, .inr ⟨w.heap.size, 0, #[], rfl, hb, heap_alloc_new w _, Nat.le_refl _, by simp [maxLen], rfl, rfl⟩⟩
set_option maxRecDepth 100000 in
/-- append of strings onto a row of the call's own. -/
theorem app1_run (w : World) (base : Nat) (hb : base ≤ w.heap.size) (ty : TypeId) (v : Value) (l : List Bs) (hown : Own1 w base v l) (B : Option Addr) (m d : Nat) (y : List Bs) (hy : Ss w B m d y) (hlen : l.length + m ≤ 100000) :
    ∃ v' w', (Builtin.append_ #[34, 34] ty #[v, .slice B m d]).run Tryz.prog w = .ok v' w' ∧ Own1 w' base v' (l ++ y) ∧ w.grownBy w' v.ownBlock ∧ (v'.ownBlock = v.ownBlock ∨ v'.ownBlock = some w.heap.size) := by
  obtain ⟨i0, hi, hz0, hz1, hz2⟩ := info_parts str_info
  cases B with
  | some ad =>
    obtain ⟨v', w', h1, h2, h3, _, h5⟩ := run_append_own_at (P := Tryz.prog) w base 34 ty 9 i0 _ 1 16 Tryz.underlying34 hi hz0 hz1 hz2 rfl (by decide) v l.length (stV l) hown ad m d (stV y) (by simp [stV, hy.1]) (fun j u hu => by
      obtain ⟨hj, rfl⟩ := stV_get hu
      obtain ⟨b, off, e, _, hc⟩ := hy.2.2 (by have := hy.1; omega)
      injection e with e
      subst e
      have e2 : (⟨b, off, none⟩ : Addr).add j = ⟨b, off + j, none⟩ := by unfold Addr.add; split <;> simp_all
      rw [e2]
      exact hc j (by have := hy.1; omega)) (stV_one y) (by simp only [maxLen]; omega) (by omega) hb
    refine ⟨v', w', h1, ?_, h3, h5⟩
    have e : stV (l ++ y) = stV l ++ stV y := by simp [stV]
    unfold Own1
    rw [e, List.length_append, hy.1]
    exact h2
  | none =>
    have hm : m = 0 := by
      rcases Nat.eq_zero_or_pos m with h | h
      · exact h
      · obtain ⟨b, off, e, _⟩ := hy.2.2 h; cases e
    have hyn : y = [] := List.eq_nil_of_length_eq_zero (hy.1.trans hm)
    subst hm
    subst hyn
    refine ⟨v, w, ?_, by rw [List.append_nil]; exact hown, ⟨rfl, rfl, rfl, Nat.le_refl _, fun _ _ _ => rfl⟩, Or.inl rfl⟩
    rcases hown.2 with ⟨hv, h0⟩ | ⟨g, cap, cur, hv, _, _, hnc, _⟩
    · rw [hv]
      simp [Builtin.append_, run_underlying Tryz.underlying34, sizeOf, typeInfo, hi, Builtin.lenOf, Builtin.firstCells]
    · rw [hv]
      simp [Builtin.append_, run_underlying Tryz.underlying34, sizeOf, typeInfo, hi, Builtin.lenOf, Builtin.firstCells, hnc, storeCells]
theorem wpList_app1 {w : World} {ops : Array Oper} {rest : List Oper} {o : Oper} {a : Act} {Q : Exit → Act → World → Prop} (hgd : o.guard = none) (s x : Operand)
    (ho : o.op = .call { callee := .builtin .append, args := #[s, x], argTypes := #[34, 34] }) (base : Nat) (hb : base ≤ w.heap.size) (v : Value) (l : List Bs) (hs : a.eval s = v) (hown : Own1 w base v l) (B : Option Addr) (m d : Nat) (y : List Bs) (hx : a.eval x = .slice B m d) (hy : Ss w B m d y) (hlen : l.length + m ≤ 100000)
    (h : ∀ v' w', Own1 w' base v' (l ++ y) → w.grownBy w' v.ownBlock → (v'.ownBlock = v.ownBlock ∨ v'.ownBlock = some w.heap.size) → wpList Tryz.prog ops Q rest (a.put o.dst v') w') : wpList Tryz.prog ops Q (o :: rest) a w := by
  refine wpList_plain hgd fun K hK => ?_
  obtain ⟨v', w', hr, h2, h3, h4⟩ := app1_run w base hb o.type v l hown B m d y hy hlen
  unfold Oper.wp execOp
  simp only [ho, resolve, invoke, builtin, Sem.run_bind, Sem.run_pure, Result.andThen_ok, List.map_toArray, List.map_cons, List.map_nil, hs, hx, hr]
  exact hK _ _ (h v' w' h2 h3 h4)
set_option maxRecDepth 100000 in
/-- append of one code. -/
theorem app16_run (w : World) (ty : TypeId) (v : Value) (l : List CdE) (hown : OwnR w v l) (q d : Nat) (y : CdE) (hy : ∀ j u, (fl16 y)[j]? = some u → w.cell? ⟨q, j, none⟩ = some u) (hlen : l.length ≤ 1000) :
    ∃ v' w', (Builtin.append_ #[58, 58] ty #[v, .slice (some ⟨q, 0, none⟩) 1 d]).run Tryz.prog w = .ok v' w' ∧ OwnR w' v' (l ++ [y]) ∧ w.grownBy w' v.ownBlock ∧ (v'.ownBlock = v.ownBlock ∨ v'.ownBlock = some w.heap.size) := by
  obtain ⟨i0, hi, hz0, hz1, hz2⟩ := info_parts code_info
  obtain ⟨v', w', h1, h2, h3, _, h5⟩ := run_append_own_at (P := Tryz.prog) w 0 58 ty 74 i0 _ 16 192 Tryz.underlying58 hi hz0 hz1 hz2 rfl (by decide) v l.length (flat16 l) hown ⟨q, 0, none⟩ 1 d (fl16 y) rfl (fun j u hu => by
    have e2 : (⟨q, 0, none⟩ : Addr).add j = ⟨q, j, none⟩ := by unfold Addr.add; split <;> simp_all
    rw [e2]
    exact hy j u hu) (fl16_one y) (by simp only [maxLen]; omega) (by omega) (Nat.zero_le _)
  refine ⟨v', w', h1, ?_, h3, h5⟩
  have e : flat16 (l ++ [y]) = flat16 l ++ fl16 y := by rw [flat16_append]; simp [flat16]
  unfold OwnR
  rw [e, List.length_append]
  exact h2
theorem wp_app1 {w : World} {o : Oper} {a : Act} {K : Act → World → Prop} {Q : Exit → Act → World → Prop} (s x : Operand)
    (ho : o.op = .call { callee := .builtin .append, args := #[s, x], argTypes := #[34, 34] }) (base : Nat) (hb : base ≤ w.heap.size) (v : Value) (l : List Bs) (hs : a.eval s = v) (hown : Own1 w base v l) (B : Option Addr) (m d : Nat) (y : List Bs) (hx : a.eval x = .slice B m d) (hy : Ss w B m d y) (hlen : l.length + m ≤ 100000)
    (h : ∀ v' w', Own1 w' base v' (l ++ y) → w.grownBy w' v.ownBlock → (v'.ownBlock = v.ownBlock ∨ v'.ownBlock = some w.heap.size) → K (a.put o.dst v') w') : o.wp Tryz.prog a w K Q := by
  obtain ⟨v', w', hr, h2, h3, h4⟩ := app1_run w base hb o.type v l hown B m d y hy hlen
  unfold Oper.wp execOp
  simp only [ho, resolve, invoke, builtin, Sem.run_bind, Sem.run_pure, Result.andThen_ok, List.map_toArray, List.map_cons, List.map_nil, hs, hx, hr]
  exact h v' w' h2 h3 h4
theorem wp_app16 {w : World} {o : Oper} {a : Act} {K : Act → World → Prop} {Q : Exit → Act → World → Prop} (s x : Operand)
    (ho : o.op = .call { callee := .builtin .append, args := #[s, x], argTypes := #[58, 58] }) (v : Value) (l : List CdE) (hs : a.eval s = v) (hown : OwnR w v l) (q d : Nat) (y : CdE) (hx : a.eval x = .slice (some ⟨q, 0, none⟩) 1 d) (hy : ∀ j u, (fl16 y)[j]? = some u → w.cell? ⟨q, j, none⟩ = some u) (hlen : l.length ≤ 1000)
    (h : ∀ v' w', OwnR w' v' (l ++ [y]) → w.grownBy w' v.ownBlock → (v'.ownBlock = v.ownBlock ∨ v'.ownBlock = some w.heap.size) → K (a.put o.dst v') w') : o.wp Tryz.prog a w K Q := by
  obtain ⟨v', w', hr, h2, h3, h4⟩ := app16_run w o.type v l hown q d y hy hlen
  unfold Oper.wp execOp
  simp only [ho, resolve, invoke, builtin, Sem.run_bind, Sem.run_pure, Result.andThen_ok, List.map_toArray, List.map_cons, List.map_nil, hs, hx, hr]
  exact h v' w' h2 h3 h4
set_option maxRecDepth 100000 in
theorem fill16 (z : Array Value) (hz : z.size = 16) (e : CdE) : Instr.fill (fun i => some (i * 16, 16)) z [(0, .agg (fl16 e).toArray)] = some (fl16 e).toArray := by
  have h := Great.fill_whole (s := 16) (by decide) [.agg (fl16 e).toArray] z (fun v hv => by
    rw [List.mem_singleton.1 hv]
    rfl) (by rw [hz]; rfl)
  simpa [Value.cells] using h
/-- A slice of one code is built. -/
theorem wpList_build16 {w : World} {ops : Array Oper} {rest : List Oper} {o : Oper} {a : Act} {Q : Exit → Act → World → Prop} (hg : o.guard = none) (p : Operand) (ho : o.op = .buildSlice 58 1 #[(0, p)]) (e : CdE) (hp : a.eval p = .agg (fl16 e).toArray)
    (h : wpList Tryz.prog ops Q rest (a.put o.dst (.slice (some ⟨w.heap.size, 0, none⟩) 1 1)) (w.alloc (.cells (fl16 e).toArray 74))) : wpList Tryz.prog ops Q (o :: rest) a w := by
  obtain ⟨i0, hi, hz0, hz1, hz2⟩ := info_parts code_info
  refine wpList_buildSlice hg _ 74 1 #[(0, p)] ho (fl16 e).toArray i0 _ Tryz.underlying58 hi hz0 (by rw [hz1]; decide) (by rw [hz1]; decide) ?_ h
  rw [hz1]
  simp only [List.map_toArray, List.map_cons, List.map_nil, hp]
  exact fill16 _ (by simp) e
theorem wpList_app16 {w : World} {ops : Array Oper} {rest : List Oper} {o : Oper} {a : Act} {Q : Exit → Act → World → Prop} (hgd : o.guard = none) (s x : Operand)
    (ho : o.op = .call { callee := .builtin .append, args := #[s, x], argTypes := #[58, 58] }) (v : Value) (l : List CdE) (hs : a.eval s = v) (hown : OwnR w v l) (q d : Nat) (y : CdE) (hx : a.eval x = .slice (some ⟨q, 0, none⟩) 1 d) (hy : ∀ j u, (fl16 y)[j]? = some u → w.cell? ⟨q, j, none⟩ = some u) (hlen : l.length ≤ 1000)
    (h : ∀ v' w', OwnR w' v' (l ++ [y]) → w.grownBy w' v.ownBlock → (v'.ownBlock = v.ownBlock ∨ v'.ownBlock = some w.heap.size) → wpList Tryz.prog ops Q rest (a.put o.dst v') w') : wpList Tryz.prog ops Q (o :: rest) a w := by
  refine wpList_plain hgd fun K hK => ?_
  obtain ⟨v', w', hr, h2, h3, h4⟩ := app16_run w o.type v l hown q d y hy hlen
  unfold Oper.wp execOp
  simp only [ho, resolve, invoke, builtin, Sem.run_bind, Sem.run_pure, Result.andThen_ok, List.map_toArray, List.map_cons, List.map_nil, hs, hx, hr]
  exact hK _ _ (h v' w' h2 h3 h4)
end Go.Proofs.YtioabjniipkncaaGreatDoor.Rc
