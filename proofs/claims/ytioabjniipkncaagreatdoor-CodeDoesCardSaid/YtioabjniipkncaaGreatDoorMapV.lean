/-
  Maps with strings as keys, told by a plain function; memory that is told by blocks. No program.
-/
import Derived.Test.YtioabjniipkncaaGreatDoorBase
import Derived.Maps.RangeWalk
import Derived.Maps.Ext
namespace Go.Proofs.YtioabjniipkncaaGreatDoor
open Go.RowKit Go.Maps Go.WideMaps

theorem keyOf_string_inv' {P : Program} {k : TypeId} (hk : P.underlying k = some .string) {key : Value} {kl : Lit} (h : keyOf P k key = some kl) : ∃ s : ByteArray, key = .string s ∧ kl = .string s.data.toList ∧ s.size ≤ maxLen := by
  cases key <;> simp [keyOf, hk, mapKey] at h
  obtain ⟨hs, rfl⟩ := h
  exact ⟨_, rfl, rfl, hs⟩
/-- What a map reads as, key by key. -/
def View (D : DataW Unit) (f : List UInt8 → Option (DataW Unit)) : Prop := (∀ x, Maps.has D (.string x) = (f x).isSome) ∧ ∀ x z, D.atKey (.string x) z = (f x).getD z
/-- Block b is a map with strings as keys, of sz entries, that reads as f. -/
def MapV (P : Program) (k : TypeId) (R : Value → Option (DataW Unit × List MemPlace)) (w : World) (b sz : Nat) (f : List UInt8 → Option (DataW Unit)) : Prop :=
  ∃ D, w.ownsMap P k R b sz D ∧ Maps.size D = sz ∧ View D f
/-- A pointer to a block's first cell, as an element. -/
def ptrR (v : Value) : Option (DataW Unit × List MemPlace) :=
  match v with
  | .pointer none => some (.nil, [])
  | .pointer (some ⟨b, 0, none⟩) => some (.lit (.int .i64 b), [])
  | _ => none
theorem ptrR_nil : ptrR (.pointer none) = some (.nil, []) := rfl
theorem ptrR_mk (b : Nat) : ptrR (.pointer (some ⟨b, 0, none⟩)) = some (.lit (.int .i64 b), []) := rfl
theorem ptrR_inv {v : Value} {y : DataW Unit × List MemPlace} (h : ptrR v = some y) : (v = .pointer none ∧ y = (.nil, [])) ∨ ∃ b : Nat, v = .pointer (some ⟨b, 0, none⟩) ∧ y = (.lit (.int .i64 b), []) := by
  unfold ptrR at h
  split at h
  · exact Or.inl ⟨rfl, (Option.some.inj h).symm⟩
  · exact Or.inr ⟨_, rfl, (Option.some.inj h).symm⟩
  · cases h
theorem ptrR_at {v : Value} {b : Nat} {ps : List MemPlace} (h : ptrR v = some (.lit (.int .i64 b), ps)) : v = .pointer (some ⟨b, 0, none⟩) := by
  rcases ptrR_inv h with ⟨_, h2⟩ | ⟨c, rfl, h2⟩
  · cases h2
  · simp only [Prod.mk.injEq, DataW.lit.injEq, Lit.int.injEq, true_and] at h2
    rw [show b = c by omega]

section
variable {P : Program} {k : TypeId} {R : Value → Option (DataW Unit × List MemPlace)} {w : World} {b sz : Nat} {f : List UInt8 → Option (DataW Unit)}
theorem own_exact {n : Nat} {D : DataW Unit} (h : w.ownsMap P k R b n D) : w.ownsMap P k R b (Maps.size D) D := by
  obtain ⟨es, clock, hb, F, hs, rfl⟩ := h
  exact ⟨es, clock, hb, F, by simp [Maps.size, length_sorted], rfl⟩
theorem MapV.made (w : World) (P : Program) (k : TypeId) (R : Value → Option (DataW Unit × List MemPlace)) : MapV P k R (w.alloc (.map #[] 0)) w.heap.size 0 (fun _ => none) :=
  ⟨.map [], World.ownsMap_made w P k R, rfl, fun _ => rfl, fun _ _ => rfl⟩
theorem MapV.lt (h : MapV P k R w b sz f) : b < w.heap.size := h.elim fun _ h => h.1.lt
theorem MapV.frame {w' : World} (h : MapV P k R w b sz f) (hb : w'.heap[b]? = w.heap[b]?) : MapV P k R w' b sz f := by
  obtain ⟨D, ⟨es, clock, h0, r⟩, h2⟩ := h
  exact ⟨D, ⟨es, clock, hb.trans h0, r⟩, h2⟩
theorem MapV.isMap (h : MapV P k R w b sz f) : ∃ es clock, w.heap[b]? = some (.map es clock) := by
  obtain ⟨D, ⟨es, clock, h0, r⟩, h2⟩ := h
  exact ⟨es, clock, h0⟩
/-- A look-up that finds nothing. -/
theorem MapV.look_no {t e : TypeId} (h : MapV P k R w b sz f) (hk : P.underlying k = some .string) (ht : P.underlying t = some (.map k e)) {z : Value} (hz : (zeroValue e).run P w = .ok z w) {s : ByteArray} (hs : s.size ≤ maxLen) (hf : f s.data.toList = none) (ok : Bool) :
    (Instr.lookup t (.map (some b)) (.string s) ok).run P w = .ok (if ok then .tuple #[z, .bool false] else z) w := by
  obtain ⟨D, ⟨es, clock, hb, F, _, rfl⟩, _, h1, h2⟩ := h
  rcases Maps.fit_look ok (string_keyed hk) ht hz hb F (keyOf_string_mk hk hs) with ⟨hrun, _⟩ | ⟨e0, y, _, _, hrun, hRv, hat, _⟩
  · exact hrun
  · have := Maps.has_true_of_atKey hat
    rw [h1, hf] at this
    cases this
/-- A look-up that finds something. -/
theorem MapV.look_yes {t e : TypeId} (h : MapV P k R w b sz f) (hk : P.underlying k = some .string) (ht : P.underlying t = some (.map k e)) {z : Value} (hz : (zeroValue e).run P w = .ok z w) {s : ByteArray} (hs : s.size ≤ maxLen) {d : DataW Unit} (hf : f s.data.toList = some d) (ok : Bool) :
    ∃ v ps, R v = some (d, ps) ∧ (Instr.lookup t (.map (some b)) (.string s) ok).run P w = .ok (if ok then .tuple #[v, .bool true] else v) w := by
  obtain ⟨D, ⟨es, clock, hb, F, _, rfl⟩, _, h1, h2⟩ := h
  rcases Maps.fit_look ok (string_keyed hk) ht hz hb F (keyOf_string_mk hk hs) with ⟨hrun, _, hat⟩ | ⟨e0, y, _, _, hrun, hRv, hat, _⟩
  · have := Maps.has_false_of_atKey hat
    rw [h1, hf] at this
    cases this
  · have := hat d
    rw [h2, hf] at this
    have hd : d = y.1 := this
    exact ⟨e0.val, y.2, by rw [hd]; exact hRv, hrun⟩
/-- A store. -/
theorem MapV.store {t e : TypeId} (h : MapV P k R w b sz f) (hk : P.underlying k = some .string) (ht : P.underlying t = some (.map k e)) (hn : sz < maxLen) {s : ByteArray} (hs : s.size ≤ maxLen) {v : Value} {d : DataW Unit} {ps : List MemPlace} (hv : R v = some (d, ps)) :
    ∃ w', (Instr.mapUpdate t (.map (some b)) (.string s) v).run P w = .ok () w' ∧ MapV P k R w' b (if (f s.data.toList).isSome then sz else sz + 1) (fun x => if x = s.data.toList then some d else f x) ∧ w.mapTurned w' b := by
  obtain ⟨D, ho, hsz, h1, h2⟩ := h
  obtain ⟨w', hrun, ho', htn⟩ := ho.store (string_keyed hk) ht hn (keyOf_string_mk hk hs) hv
  have hsize : Maps.size (D.put (.string s.data.toList) d) = if (f s.data.toList).isSome then sz else sz + 1 := by
    rw [size_put (ho.tidy (string_keyed hk)), h1, hsz]
  have ho2 := own_exact ho'
  rw [hsize] at ho2
  refine ⟨w', hrun, ⟨_, ho2, hsize, fun x => ?_, fun x z => ?_⟩, htn⟩
  · by_cases e : x = s.data.toList
    · subst e; simp only [if_true]; rw [ has_put_same ho.isMap (k := .string s.data.toList) trivial]; rfl
    · simp only [if_neg e]; rw [has_put_other (fun h => e (by injection h))]; exact h1 x
  · by_cases e : x = s.data.toList
    · subst e; simp only [if_true]; rw [ atKey_put_same ho.isMap (k := .string s.data.toList) trivial]; rfl
    · simp only [if_neg e]; rw [atKey_put_other (fun h => e (by injection h))]; exact h2 x z
/-- delete. -/
theorem MapV.drop {t e : TypeId} (h : MapV P k R w b sz f) (hk : P.underlying k = some .string) (ht : P.underlying t = some (.map k e)) {s : ByteArray} (hs : s.size ≤ maxLen) (ty : TypeId) :
    ∃ w', (Builtin.delete_ #[t, k] ty #[.map (some b), .string s]).run P w = .ok (.tuple #[]) w' ∧ MapV P k R w' b (sz - if (f s.data.toList).isSome then 1 else 0) (fun x => if x = s.data.toList then none else f x) ∧ w.mapTurned w' b := by
  obtain ⟨D, ho, hsz, h1, h2⟩ := h
  obtain ⟨w', hrun, ho', htn⟩ := ho.drop (string_keyed hk) ht (keyOf_string_mk hk hs) ty
  have hsize : Maps.size (D.del (.string s.data.toList)) = sz - if (f s.data.toList).isSome then 1 else 0 := by
    have := size_del (k := .string s.data.toList) (ho.tidy (string_keyed hk))
    rw [h1, hsz] at this
    omega
  have ho2 := own_exact ho'
  rw [hsize] at ho2
  refine ⟨w', hrun, ⟨_, ho2, hsize, fun x => ?_, fun x z => ?_⟩, htn⟩
  · by_cases e : x = s.data.toList
    · subst e; simp only [if_true]; rw [ has_del_same]; rfl
    · simp only [if_neg e]; rw [has_del_other (fun h => e (by injection h))]; exact h1 x
  · by_cases e : x = s.data.toList
    · subst e; simp only [if_true]; rw [ atKey_del_same]; rfl
    · simp only [if_neg e]; rw [atKey_del_other (fun h => e (by injection h))]; exact h2 x z
theorem MapV.len {t e : TypeId} (h : MapV P k R w b sz f) (ht : P.underlying t = some (.map k e)) (ty : TypeId) : (Builtin.len_ #[t] ty #[.map (some b)]).run P w = .ok (.int .i64 (sz : Int)) w := by
  obtain ⟨D, ho, hsz, _⟩ := h
  rw [← hsz]
  exact ho.len ht ty
end

/-- A map of pointers is ranged over: the step. -/
theorem wpList_next_view {P : Program} {w : World} {ops : Array Oper} {rest : List Oper} {o : Oper} {a : Act} {Q : Exit → Act → World → Prop} (hg : o.guard = none) (it : Operand) (hop : o.op = Op.next it false) (k : TypeId) (hk : P.underlying k = some .string)
    (b r n : Nat) (D : DataW Unit) (f : List UInt8 → Option (DataW Unit)) (hv : View D f) (hp : ∀ x d, f x = some d → ∃ q : Nat, d = .lit (.int .i64 q)) (left : Lit → Bool) (cnt : Nat) (hit : a.eval it = .pointer (some ⟨r, 0, none⟩)) (h : w.ranges P k ptrR b r n D left cnt)
    (hDone : (∀ kl, left kl = false) → wpList P ops Q rest (a.put o.dst (.tuple #[.bool false])) w)
    (hMore : ∀ (s : ByteArray) (q : Nat) (w' : World) (cnt' : Nat), f s.data.toList = some (.lit (.int .i64 q)) → left (.string s.data.toList) = true → w'.ranges P k ptrR b r n D (fun z => left z && !z.sameKey (.string s.data.toList)) cnt' → cnt' < cnt →
      w.grownBy w' (some r) → w'.heap.size = w.heap.size → (Instr.entry (.pointer (some ⟨r, 0, none⟩))).run P w' = .ok (.tuple #[.string s, .pointer (some ⟨q, 0, none⟩)]) w' → wpList P ops Q rest (a.put o.dst (.tuple #[.bool true, .string s, .pointer (some ⟨q, 0, none⟩)])) w') :
    wpList P ops Q (o :: rest) a w :=
  wpList_next_ranges w hg it hop k (string_keyed hk) ptrR Value.string (fun v : Value => v) (fun key kl hkey => by obtain ⟨s, rfl, _⟩ := keyOf_string_inv' hk hkey; exact ⟨s, rfl⟩) (fun v _ _ => ⟨v, rfl⟩)
    b r n D left cnt hit h (fun _ hl => hDone hl) (fun s v kl y w' cnt' hkey hlk hv2 hat hrg hlt hgr hsz hen => by
      obtain ⟨s', e1, rfl, _⟩ := keyOf_string_inv' hk hkey
      injection e1 with e1
      subst e1
      cases hf : f s.data.toList with
      | none =>
        exfalso
        have h1 := hat .nil
        have h2 := hat (.lit .nil)
        rw [hv.2, hf] at h1 h2
        rw [← h1] at h2
        cases h2
      | some d =>
        have h1 := hat .nil
        rw [hv.2, hf] at h1
        obtain ⟨q, rfl⟩ := hp _ _ hf
        have h3 : y = (.lit (.int .i64 q), y.2) := Prod.ext h1.symm rfl
        rw [h3] at hv2
        have h4 := ptrR_at hv2
        subst h4
        exact hMore s q w' cnt' hf hlk hrg hlt hgr hsz hen)

/-! ### Memory by blocks -/
/-- Only blocks of S, and new ones, have turned. -/
structure Mods (S : Nat → Prop) (w w' : World) : Prop where
  os : w'.os = w.os
  tape : w'.tape = w.tape
  output : w'.output = w.output
  size : w.heap.size ≤ w'.heap.size
  block : ∀ k, k < w.heap.size → ¬ S k → w'.heap[k]? = w.heap[k]?
theorem Mods.refl (S : Nat → Prop) (w : World) : Mods S w w := ⟨rfl, rfl, rfl, Nat.le_refl _, fun _ _ _ => rfl⟩
theorem Mods.of_below {w w' : World} (S : Nat → Prop) (h : Below w.heap.size w w') : Mods S w w' := ⟨h.os, h.tape, h.output, h.size, fun k hk _ => h.block k hk⟩
theorem Mods.mono {S S' : Nat → Prop} {w w' : World} (h : Mods S w w') (hs : ∀ k, S k → S' k) : Mods S' w w' := ⟨h.os, h.tape, h.output, h.size, fun k hk hn => h.block k hk fun e => hn (hs k e)⟩
/-- The blocks of S and those that were made since. -/
def grow (S : Nat → Prop) (w w' : World) (k : Nat) : Prop := S k ∨ (w.heap.size ≤ k ∧ k < w'.heap.size)
theorem Mods.trans {S : Nat → Prop} {a b c : World} (h : Mods S a b) (h2 : Mods (grow S a b) b c) : Mods S a c :=
  ⟨h2.os.trans h.os, h2.tape.trans h.tape, h2.output.trans h.output, Nat.le_trans h.size h2.size, fun k hk hn =>
    (h2.block k (Nat.lt_of_lt_of_le hk h.size) (fun e => by rcases e with e | e; exact hn e; omega)).trans (h.block k hk hn)⟩
theorem Mods.below {S : Nat → Prop} {a b c : World} (h : Mods S a b) (h2 : Below b.heap.size b c) : Mods S a c := h.trans (Mods.of_below _ h2)
/-- What may turn lies from B on. -/
theorem Mods.toBelow {S : Nat → Prop} {w w' : World} {B : Nat} (h : Mods S w w') (hB : B ≤ w.heap.size) (hs : ∀ k, S k → B ≤ k) : Below B w w' :=
  ⟨h.os, h.tape, h.output, h.size, fun k hk => h.block k (by omega) fun e => by have := hs k e; omega⟩
theorem Mods.setCell {S : Nat → Prop} {a w : World} (h : Mods S a w) {p : Addr} (hp : S p.block ∨ a.heap.size ≤ p.block) (u : Value) : Mods S a (w.setCell p u) :=
  ⟨h.os, h.tape, h.output, by simpa [World.setCell] using h.size, fun k hk hn => (Below.heap_setCell _ _ _ _ (fun e => by subst e; rcases hp with e | e; exact hn e; omega)).trans (h.block k hk hn)⟩
theorem Mods.alloc {S : Nat → Prop} {a w : World} (h : Mods S a w) (o : Obj) : Mods S a (w.alloc o) :=
  ⟨h.os, h.tape, h.output, by have := h.size; simp; omega, fun k hk hn => (Below.heap_alloc _ _ _ (Nat.lt_of_lt_of_le hk h.size)).trans (h.block k hk hn)⟩
theorem Mods.drew {S : Nat → Prop} {a w : World} (h : Mods S a w) : Mods S a w.drew := ⟨h.os, h.tape, h.output, h.size, h.block⟩
theorem Mods.turned {S : Nat → Prop} {a w w' : World} {b : Nat} (h : Mods S a w) (ht : w.mapTurned w' b) (hp : S b ∨ a.heap.size ≤ b) : Mods S a w' := by
  have g := ht.grown
  exact ⟨g.os.trans h.os, g.tape.trans h.tape, g.output.trans h.output, Nat.le_trans h.size g.size, fun k hk hn => (g.block k (Nat.lt_of_lt_of_le hk h.size) (fun e => by injection e with e; subst e; rcases hp with e | e; exact hn e; omega)).trans (h.block k hk hn)⟩
theorem Mods.grown {S : Nat → Prop} {a w w' : World} {row : Option Nat} (h : Mods S a w) (g : w.grownBy w' row) (hp : ∀ b, row = some b → S b ∨ a.heap.size ≤ b) : Mods S a w' :=
  ⟨g.os.trans h.os, g.tape.trans h.tape, g.output.trans h.output, Nat.le_trans h.size g.size, fun k hk hn => (g.block k (Nat.lt_of_lt_of_le hk h.size) (fun e => by rcases hp k e.symm with e | e; exact hn e; omega)).trans (h.block k hk hn)⟩
theorem grow_lt {S : Nat → Prop} {w w' : World} (hs : ∀ k, S k → k < w.heap.size) (h : w.heap.size ≤ w'.heap.size) : ∀ k, grow S w w' k → k < w'.heap.size := fun k e => by
  rcases e with e | e
  · exact Nat.lt_of_lt_of_le (hs k e) h
  · exact e.2
theorem grow_grow {S : Nat → Prop} {a b c : World} (h1 : a.heap.size ≤ b.heap.size) (h2 : b.heap.size ≤ c.heap.size) (k : Nat) : grow (grow S a b) b c k ↔ grow S a c k := by
  unfold grow
  constructor
  · rintro ((h | h) | h)
    · exact Or.inl h
    · exact Or.inr ⟨h.1, by omega⟩
    · exact Or.inr ⟨by omega, h.2⟩
  · rintro (h | h)
    · exact Or.inl (Or.inl h)
    · by_cases e : k < b.heap.size
      · exact Or.inl (Or.inr ⟨h.1, e⟩)
      · exact Or.inr ⟨by omega, h.2⟩
end Go.Proofs.YtioabjniipkncaaGreatDoor
