/-
  Slices of pairs and of strings: how they read, rows of the call's own.
-/
import Derived.Test.YtjjcbbckihjapaaDoorNaD
namespace Go.Proofs.YtjjcbbckihjapaaDoor.Na
open Go.RowKit Go.Proofs.YtjjcbbckihjapaaDoor.Fo

theorem at_dst {P : Program} (d : Nat) {ops : Array Oper} {Q : Exit → Act → World → Prop} {rest : List Oper} {op : Op} {ty : TypeId} {pos : String} {af : Array Edge} {gd : Option (Nat × Bool)} {a : Act} {w : World}
    (h : wpList P ops Q (⟨some d, op, ty, pos, af, gd⟩ :: rest) a w) : wpList P ops Q (⟨some d, op, ty, pos, af, gd⟩ :: rest) a w := h
theorem pair_info : (Tryd.prog.info? 36).map (fun i => (i.zero, i.size, i.bytes)) = some (some (.agg #[.string ⟨#[]⟩, .string ⟨#[]⟩]), 2, 32) := by kernel_rfl
theorem str_info : (Tryd.prog.info? 9).map (fun i => (i.zero, i.size, i.bytes)) = some (some (.string ⟨#[]⟩), 1, 16) := by kernel_rfl

abbrev B2 := ByteArray × ByteArray
def pX (l : List B2) (i : Nat) : ByteArray := (l.getD i (⟨#[]⟩, ⟨#[]⟩)).1
def pY (l : List B2) (i : Nat) : ByteArray := (l.getD i (⟨#[]⟩, ⟨#[]⟩)).2
/-- A pair's bytes. -/
def prB (p : B2) : Pr := (p.1.data.toList, p.2.data.toList)
def prL (l : List B2) : List Pr := l.map prB
theorem b2_at (l : List B2) (i : Nat) (h : i < l.length) : l[i] = (pX l i, pY l i) := by simp [pX, pY, List.getD, h]
theorem prL_at (l : List B2) (i : Nat) (h : i < (prL l).length) : (prL l)[i] = ((pX l i).data.toList, (pY l i).data.toList) := by
  have h' : i < l.length := by simpa [prL] using h
  simp only [prL, List.getElem_map, prB]
  rw [b2_at l i h']
theorem prL_length (l : List B2) : (prL l).length = l.length := by simp [prL]
theorem ba_ext {a b : ByteArray} (h : a.data.toList = b.data.toList) : a = b := ByteArray.ext (by rw [← Array.toArray_toList (xs := a.data), h])
theorem prB_inj {p q : B2} (h : prB p = prB q) : p = q := Prod.ext (ba_ext (congrArg Prod.fst h)) (ba_ext (congrArg Prod.snd h))
theorem prL_inj {l m : List B2} (h : prL l = prL m) : l = m := List.map_inj_right (fun _ _ h => prB_inj h) |>.1 h
/-- The cells of pairs from an address on. -/
def Cells2 (w : World) (b off n : Nat) (l : List B2) : Prop :=
  ∀ i, i < n → w.cell? ⟨b, off + i * 2, none⟩ = some (.string (pX l i)) ∧ w.cell? ⟨b, off + i * 2 + 1, none⟩ = some (.string (pY l i))
def Ps (w : World) (A : Option Addr) (n c : Nat) (l : List B2) : Prop :=
  l.length = n ∧ n ≤ c ∧ (0 < n → ∃ b off, A = some ⟨b, off, none⟩ ∧ b < w.heap.size ∧ Cells2 w b off n l)
theorem Ps.nil (w : World) (c : Nat) : Ps w none 0 c [] := ⟨rfl, Nat.zero_le _, fun h => absurd h (by omega)⟩
theorem Ps.below {w w' : World} {A : Option Addr} {n c : Nat} {l : List B2} (h : Ps w A n c l) (hb : Below w.heap.size w w') : Ps w' A n c l := by
  refine ⟨h.1, h.2.1, fun hn => ?_⟩
  obtain ⟨b, off, hA, hl, hc⟩ := h.2.2 hn
  refine ⟨b, off, hA, Nat.lt_of_lt_of_le hl hb.size, fun i hi => ?_⟩
  have k := bkeep hb hl
  rw [k, k]
  exact hc i hi
theorem pX_take {l : List B2} {k i : Nat} (h : i < k) : pX (l.take k) i = pX l i ∧ pY (l.take k) i = pY l i := by
  have e : (l.take k).getD i (⟨#[]⟩, ⟨#[]⟩) = l.getD i (⟨#[]⟩, ⟨#[]⟩) := by simp [List.getD, h]
  unfold pX pY
  rw [e]
  exact ⟨rfl, rfl⟩
theorem pX_drop (l : List B2) (k i : Nat) : pX (l.drop k) i = pX l (k + i) ∧ pY (l.drop k) i = pY l (k + i) := by
  have e : (l.drop k).getD i (⟨#[]⟩, ⟨#[]⟩) = l.getD (k + i) (⟨#[]⟩, ⟨#[]⟩) := by simp [List.getD]
  unfold pX pY
  rw [e]
  exact ⟨rfl, rfl⟩
theorem Ps.take {w : World} {A : Option Addr} {n c k d : Nat} {l : List B2} (h : Ps w A n c l) (hk : k ≤ n) (hd : k ≤ d) : Ps w A k d (l.take k) := by
  refine ⟨by rw [List.length_take, h.1]; omega, hd, fun hn => ?_⟩
  obtain ⟨b, off, hA, hl, hc⟩ := h.2.2 (by omega)
  refine ⟨b, off, hA, hl, fun i hi => ?_⟩
  rw [(pX_take hi).1, (pX_take hi).2]
  exact hc i (by omega)

/-- The cells of a list of pairs. -/
def flat2 : List B2 → List Value
  | [] => []
  | x :: r => .string x.1 :: .string x.2 :: flat2 r
theorem flat2_length (l : List B2) : (flat2 l).length = l.length * 2 := by
  induction l with
  | nil => rfl
  | cons x r ih => simp [flat2, ih]; omega
theorem flat2_append (a b : List B2) : flat2 (a ++ b) = flat2 a ++ flat2 b := by
  induction a with
  | nil => rfl
  | cons x r ih => simp [flat2, ih]
theorem flat2_one (l : List B2) : ∀ u ∈ flat2 l, u.oneCell' = true := by
  induction l with
  | nil => simp [flat2]
  | cons x r ih =>
    intro u hu
    simp only [flat2, List.mem_cons] at hu
    rcases hu with rfl | rfl | hu
    · rfl
    · rfl
    · exact ih u hu
theorem flat2_get (l : List B2) (i : Nat) (h : i < l.length) : (flat2 l)[i * 2]? = some (.string (pX l i)) ∧ (flat2 l)[i * 2 + 1]? = some (.string (pY l i)) := by
  induction l generalizing i with
  | nil => simp at h
  | cons x r ih =>
    cases i with
    | zero => exact ⟨rfl, rfl⟩
    | succ i =>
      have := ih i (by simpa using h)
      have e : (i + 1) * 2 = i * 2 + 1 + 1 := by omega
      rw [e]
      simpa [flat2, pX, pY] using this
theorem Ps.flat {w : World} {b off n c : Nat} {l : List B2} (h : Ps w (some ⟨b, off, none⟩) n c l) : ∀ j u, (flat2 l)[j]? = some u → w.cell? ((⟨b, off, none⟩ : Addr).add j) = some u := by
  intro j u hu
  have hj : j < (flat2 l).length := by
    rcases Nat.lt_or_ge j (flat2 l).length with h | h
    · exact h
    · rw [List.getElem?_eq_none h] at hu; cases hu
  rw [flat2_length, h.1] at hj
  obtain ⟨b', off', he, hb, hc⟩ := h.2.2 (by omega)
  injection he with he
  injection he with e1 e2
  subst e1; subst e2
  have hadd : (⟨b, off, none⟩ : Addr).add j = ⟨b, off + j, none⟩ := by unfold Addr.add; split <;> simp_all
  rw [hadd]
  obtain ⟨i, r, hr, rfl⟩ : ∃ i r, r < 2 ∧ j = i * 2 + r := ⟨j / 2, j % 2, by omega, by omega⟩
  obtain ⟨g0, g1⟩ := flat2_get l i (by rw [h.1]; omega)
  obtain ⟨c0, c1⟩ := hc i (by omega)
  rcases (by omega : r = 0 ∨ r = 1) with rfl | rfl
  · rw [Nat.add_zero] at hu ⊢; rw [g0] at hu; rw [← hu]; exact c0
  · rw [g1] at hu; rw [← hu, ← Nat.add_assoc]; exact c1

/-- An owned row of pairs. -/
def Own2 (w : World) (base : Nat) (v : Value) (l : List B2) : Prop := w.ownsRow base 36 2 v l.length (flat2 l)
theorem Own2.nil (w : World) (base : Nat) : Own2 w base (.slice none 0 0) [] := World.ownsRow_nil _ _ _ _
theorem Own2.form {w : World} {base : Nat} {v : Value} {l : List B2} (h : Own2 w base v l) : ∃ A c, v = .slice A l.length c := by
  rcases h.2 with ⟨hv, hn⟩ | ⟨g, cap, cur, hv, _⟩
  · exact ⟨none, 0, by rw [hv, hn]⟩
  · exact ⟨_, _, hv⟩
theorem Own2.ps {w : World} {base : Nat} {A : Option Addr} {n c : Nat} {l : List B2} (h : Own2 w base (.slice A n c) l) : Ps w A n c l ∧ n = l.length ∧ (A = none → c = 0) := by
  have h2 := h.2
  rcases h2 with ⟨hv, hn⟩ | ⟨g, cap, cur, hv, hg, hh, hnc, hcm, hcs, ht⟩
  · injection hv with e1 e2 e3
    subst e1; subst e2; subst e3
    have : l = [] := List.eq_nil_of_length_eq_zero hn
    subst this
    exact ⟨Ps.nil _ _, rfl, fun _ => rfl⟩
  · injection hv with e1 e2 e3
    subst e1; subst e2; subst e3
    refine ⟨⟨rfl, hnc, fun h0 => ⟨g, 0, rfl, (Array.getElem?_eq_some_iff.1 hh).1, fun i hi => ?_⟩⟩, rfl, fun h => by cases h⟩
    obtain ⟨f0, f1⟩ := flat2_get l i hi
    have hcell : ∀ j, j < l.length * 2 → w.cell? ⟨g, j, none⟩ = (flat2 l)[j]? := fun j hj => by
      rw [← ht, List.getElem?_take, if_pos hj]
      simp [World.cell?, hh]
    simp only [Nat.zero_add]
    rw [hcell _ (by omega), hcell _ (by omega)]
    exact ⟨f0, f1⟩
theorem Own2.below {w w' : World} {base : Nat} {v : Value} {l : List B2} (h : Own2 w base v l) (hb : Below w.heap.size w w') : Own2 w' base v l :=
  World.ownsRow.kept (row := none) h ⟨hb.os, hb.tape, hb.output, hb.size, fun k hk _ => hb.block k hk⟩ (by cases v.ownBlock <;> simp)
theorem Own2.alloc {w : World} {base : Nat} {v : Value} {l : List B2} (h : Own2 w base v l) (o : Obj) : Own2 (w.alloc o) base v l := World.ownsRow.alloc h o
theorem ps_one (w : World) (x y : ByteArray) (t : TypeId) : Ps (w.alloc (.cells #[.string x, .string y] t)) (some ⟨w.heap.size, 0, none⟩) 1 1 [(x, y)] := by
  refine ⟨rfl, Nat.le_refl _, fun _ => ⟨w.heap.size, 0, rfl, by simp, fun i hi => ?_⟩⟩
  have : i = 0 := by omega
  subst this
  simp [pX, pY, go_sem]

/-- append of whatever slice onto a row of the call's own. -/
theorem wpList_app2 {w : World} {ops : Array Oper} {rest : List Oper} {o : Oper} {a : Act} {Q : Exit → Act → World → Prop} (hgd : o.guard = none) (s x : Operand)
    (ho : o.op = .call { callee := .builtin .append, args := #[s, x], argTypes := #[24, 24] }) (base c : Nat) (A : Option Addr) (l : List B2) (hs : a.eval s = .slice A l.length c) (hown : Own2 w base (.slice A l.length c) l)
    (B : Option Addr) (m d : Nat) (y : List B2) (hx : a.eval x = .slice B m d) (hy : Ps w B m d y) (hlen : l.length + m ≤ 1000000) (hb : base ≤ w.heap.size)
    (h : ∀ A' c' w', Own2 w' base (.slice A' (l ++ y).length c') (l ++ y) → Below base w w' → wpList Tryd.prog ops Q rest (a.put o.dst (.slice A' (l ++ y).length c')) w') : wpList Tryd.prog ops Q (o :: rest) a w := by
  obtain ⟨i0, hi, hz0, hz1, hz2⟩ := info_parts pair_info
  cases B with
  | none =>
    have h0 : m = 0 := by
      rcases Nat.eq_zero_or_pos m with h | h
      · exact h
      · obtain ⟨b, off, h, _⟩ := hy.2.2 h; cases h
    subst h0
    have hl : y = [] := List.eq_nil_of_length_eq_zero hy.1
    subst hl
    have hf := h A c w (by rw [List.append_nil]; exact hown) (Below.refl _ _)
    rw [List.append_nil] at hf
    refine wpList_plain hgd fun K hK => ?_
    have hrun : (Builtin.append_ #[24, 24] o.type #[.slice A l.length c, .slice none 0 d]).run Tryd.prog w = .ok (.slice A l.length c) w := by
      rcases hown.2 with ⟨hv, h0⟩ | ⟨g, cap, cur, hv, _, _, hnc, _⟩
      · injection hv with e1 e2 e3
        subst e1; subst e3
        rw [e2]
        simp [Builtin.append_, run_underlying Tryd.underlying24, sizeOf, typeInfo, hi, Builtin.lenOf, Builtin.firstCells]
      · injection hv with e1 e2 e3
        subst e1; subst e3
        simp [Builtin.append_, run_underlying Tryd.underlying24, sizeOf, typeInfo, hi, Builtin.lenOf, Builtin.firstCells, hnc, storeCells]
    unfold Oper.wp execOp
    simp only [ho, resolve, invoke, builtin, Sem.run_bind, Sem.run_pure, Result.andThen_ok, List.map_toArray, List.map_cons, List.map_nil, hs, hx, hrun]
    exact hK _ _ hf
  | some ad =>
    refine wpList_append_own_at _ hgd s x _ ho base 36 i0 _ 2 32 Tryd.underlying24 hi hz0 hz1 hz2 rfl (by decide) _ l.length (flat2 l) hs hown ad m d (flat2 y) hx (by rw [flat2_length, hy.1]) ?_ (flat2_one y) (by simp only [maxLen]; omega) (by omega) hb ?_
    · intro j u hu
      rcases Nat.eq_zero_or_pos m with h0 | h0
      · have hl : y = [] := List.eq_nil_of_length_eq_zero (hy.1.trans h0)
        rw [hl] at hu
        exact absurd hu (by simp [flat2])
      · obtain ⟨b, off, h, _⟩ := hy.2.2 h0
        injection h with h
        subst h
        exact hy.flat j u hu
    · intro v' w1 hown1 hgrow _ _
      have hO : Own2 w1 base v' (l ++ y) := by rw [Own2, flat2_append, List.length_append, hy.1]; exact hown1
      obtain ⟨A', c', rfl⟩ := hO.form
      exact h A' c' w1 hO ((Below.refl _ _).grown hgrow hb (fun k hk => (World.ownsRow.lt hown k hk).1))

/-! ### Strings -/
def sAt (l : List ByteArray) (i : Nat) : ByteArray := l.getD i ⟨#[]⟩
def stV (l : List ByteArray) : List Value := l.map fun s => .string s
def Ss (w : World) (A : Option Addr) (n c : Nat) (l : List ByteArray) : Prop :=
  l.length = n ∧ n ≤ c ∧ (0 < n → ∃ b off, A = some ⟨b, off, none⟩ ∧ b < w.heap.size ∧ ∀ i, i < n → w.cell? ⟨b, off + i, none⟩ = some (.string (sAt l i)))
theorem Ss.below {w w' : World} {A : Option Addr} {n c : Nat} {l : List ByteArray} (h : Ss w A n c l) (hb : Below w.heap.size w w') : Ss w' A n c l := by
  refine ⟨h.1, h.2.1, fun hn => ?_⟩
  obtain ⟨b, off, hA, hl, hc⟩ := h.2.2 hn
  refine ⟨b, off, hA, Nat.lt_of_lt_of_le hl hb.size, fun i hi => ?_⟩
  rw [bkeep hb hl]
  exact hc i hi
/-- An owned row of strings. -/
def Own1 (w : World) (base : Nat) (v : Value) (l : List ByteArray) : Prop := w.ownsRow base 9 1 v l.length (stV l)
theorem Own1.nil (w : World) (base : Nat) : Own1 w base (.slice none 0 0) [] := World.ownsRow_nil _ _ _ _
theorem Own1.form {w : World} {base : Nat} {v : Value} {l : List ByteArray} (h : Own1 w base v l) : ∃ A c, v = .slice A l.length c := by
  rcases h.2 with ⟨hv, hn⟩ | ⟨g, cap, cur, hv, _⟩
  · exact ⟨none, 0, by rw [hv, hn]⟩
  · exact ⟨_, _, hv⟩
theorem Own1.ss {w : World} {base : Nat} {A : Option Addr} {n c : Nat} {l : List ByteArray} (h : Own1 w base (.slice A n c) l) : Ss w A n c l ∧ n = l.length := by
  have h2 := h.2
  rcases h2 with ⟨hv, hn⟩ | ⟨g, cap, cur, hv, hg, hh, hnc, hcm, hcs, ht⟩
  · injection hv with e1 e2 e3
    subst e1; subst e2; subst e3
    have : l = [] := List.eq_nil_of_length_eq_zero hn
    subst this
    exact ⟨⟨rfl, Nat.le_refl _, fun h => absurd h (by simp)⟩, rfl⟩
  · injection hv with e1 e2 e3
    subst e1; subst e2; subst e3
    refine ⟨⟨rfl, hnc, fun h0 => ⟨g, 0, rfl, (Array.getElem?_eq_some_iff.1 hh).1, fun i hi => ?_⟩⟩, rfl⟩
    rw [Nat.zero_add]
    have e : w.cell? ⟨g, i, none⟩ = (stV l)[i]? := by
      rw [← ht, List.getElem?_take, if_pos (by omega)]
      simp [World.cell?, hh]
    rw [e]
    simp [stV, sAt, List.getD, hi]
theorem Own1.below {w w' : World} {base : Nat} {v : Value} {l : List ByteArray} (h : Own1 w base v l) (hb : Below w.heap.size w w') : Own1 w' base v l :=
  World.ownsRow.kept (row := none) h ⟨hb.os, hb.tape, hb.output, hb.size, fun k hk _ => hb.block k hk⟩ (by cases v.ownBlock <;> simp)
/-- append of one string onto a row of the call's own. -/
theorem wpList_app1 {w : World} {ops : Array Oper} {rest : List Oper} {o : Oper} {a : Act} {Q : Exit → Act → World → Prop} (hgd : o.guard = none) (s x : Operand)
    (ho : o.op = .call { callee := .builtin .append, args := #[s, x], argTypes := #[46, 46] }) (base c : Nat) (A : Option Addr) (l : List ByteArray) (hs : a.eval s = .slice A l.length c) (w0 : World) (y : ByteArray) (t : TypeId) (hw : w = w0.alloc (.cells #[.string y] t)) (hown : Own1 w0 base (.slice A l.length c) l)
    (hx : a.eval x = .slice (some ⟨w0.heap.size, 0, none⟩) 1 1) (hlen : l.length + 1 ≤ 1000000) (hb : base ≤ w0.heap.size)
    (h : ∀ A' c' w', Own1 w' base (.slice A' (l ++ [y]).length c') (l ++ [y]) → Below base w0 w' → wpList Tryd.prog ops Q rest (a.put o.dst (.slice A' (l ++ [y]).length c')) w') : wpList Tryd.prog ops Q (o :: rest) a w := by
  obtain ⟨i0, hi, hz0, hz1, hz2⟩ := info_parts str_info
  subst hw
  refine wpList_append_own_at _ hgd s x _ ho base 9 i0 _ 1 16 Tryd.underlying46 hi hz0 hz1 hz2 rfl (by decide) _ l.length (stV l) hs (World.ownsRow.alloc hown _) ⟨w0.heap.size, 0, none⟩ 1 1 [.string y] hx rfl (cell_one_new _ _ _) (by simp [Value.oneCell']) (by simp only [maxLen]; omega) (by omega) (by simp; omega) ?_
  intro v' w1 hown1 hgrow _ _
  have hO : Own1 w1 base v' (l ++ [y]) := by rw [Own1, stV, List.map_append, List.length_append]; exact hown1
  obtain ⟨A', c', rfl⟩ := hO.form
  exact h A' c' w1 hO (((Below.refl _ _).alloc hb _).grown hgrow (by simp; omega) (fun k hk => (World.ownsRow.lt hown k hk).1))
end Go.Proofs.YtjjcbbckihjapaaDoor.Na
