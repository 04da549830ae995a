/-
  Laws over no program: copy, and append of a made slice, for elements of any number of cells.
-/
import Derived.Test.YteidbomkbddliaaBase
import Derived.Laws.CopyOwn
import Derived.Maps.AppendAt
import Derived.StillTailTactics
namespace Go.Proofs.Yteidbomkbddliaa
open Go.RowKit

/-- A row with cells laid over it from a place on. -/
def over (L : List Value) (off : Nat) (cs : List Value) : List Value := L.take off ++ (cs ++ L.drop (off + cs.length))

section
variable {P : Program}
theorem run_copy_gen (w : World) (dT sT ty elem : TypeId) (g o dLen dCap : Nat) (a : Addr) (sLen sCap size : Nat) (cur : List Value) (t : TypeId) (cs : List Value)
    (hu : P.underlying dT = some (.slice elem)) (hs : (P.info? elem).map (·.size) = some size)
    (hg : w.heap[g]? = some (.cells cur.toArray t (0, 0))) (hn : cs.length = Nat.min sLen dLen * size)
    (hsrc : ∀ j v, cs[j]? = some v → w.cell? (a.add j) = some v) (hfit : o + cs.length ≤ cur.length) (h1 : ∀ v ∈ cs, v.oneCell' = true) :
    (Builtin.copy_ #[dT, sT] ty #[.slice (some ⟨g, o, none⟩) dLen dCap, .slice (some a) sLen sCap]).run P w =
      .ok (goInt (Nat.min sLen dLen)) (w.setRow g (over cur o cs).toArray) := by
  have hl := run_loadCells_list (P := P) w a cs hsrc
  have hst := run_storeCells_at P g o t cs 0 cur.toArray w hg (by simpa using hfit) h1
  cases hq : P.info? elem with
  | none => simp [hq] at hs
  | some i =>
    have hi : i.size = size := by simpa [hq] using hs
    simp [Builtin.copy_, run_underlying hu, Builtin.lenOf, Builtin.firstCells, sizeOf, typeInfo, hq, hi, ← hn, hl, hst, over]

theorem wpList_copy_gen {w : World} {ops : Array Oper} {rest : List Oper} {o : Oper} {a : Act} {Q : Exit → Act → World → Prop} (hgd : o.guard = none) (d s : Operand) (dT sT : TypeId)
    (ho : o.op = .call { callee := .builtin .copy, args := #[d, s], argTypes := #[dT, sT] }) (elem : TypeId) (size : Nat) (hu : P.underlying dT = some (.slice elem)) (hsz : (P.info? elem).map (·.size) = some size)
    (g off dLen dCap : Nat) (ad : Addr) (sLen sCap m : Nat) (hd : a.eval d = .slice (some ⟨g, off, none⟩) dLen dCap) (hs : a.eval s = .slice (some ad) sLen sCap) (hm : Nat.min sLen dLen = m)
    (cur : List Value) (t : TypeId) (hg : w.heap[g]? = some (.cells cur.toArray t (0, 0))) (cs : List Value) (hn : cs.length = m * size)
    (hsrc : ∀ j v, cs[j]? = some v → w.cell? (ad.add j) = some v) (hfit : off + cs.length ≤ cur.length) (h1 : ∀ v ∈ cs, v.oneCell' = true)
    (h : wpList P ops Q rest (a.put o.dst (goInt m)) (w.setRow g (over cur off cs).toArray)) : wpList P ops Q (o :: rest) a w := by
  subst hm
  refine wpList_plain hgd fun K hK => ?_
  have hrun := run_copy_gen (P := P) w dT sT o.type elem g off dLen dCap ad sLen sCap size cur t cs hu hsz hg hn hsrc hfit h1
  unfold Oper.wp
  simp [execOp, ho, resolve, invoke, builtin, hd, hs, hrun, Result.andThen]
  exact hK _ _ h

/-- append of a made slice where the capacity does not suffice: a new row. -/
theorem run_append_zeros (w : World) (t ti ty e : TypeId) (i : TypeInfo) (z : Value) (ht : P.underlying t = some (.slice e)) (hti : P.underlying ti = some (.int .i64)) (hi : P.info? e = some i) (hz : i.zero = some z)
    (b : Addr) (sLen sCap n : Nat) (hn0 : 0 < n * i.size) (olds : List Value) (hlo : olds.length = sLen * i.size) (holds : ∀ j v, olds[j]? = some v → w.cell? (b.add j) = some v)
    (hg : sCap < sLen + n) (hsmall : sLen + n ≤ 1000000) (hb : i.bytes ≤ 1000) :
    (Builtin.append_ #[t, ti] ty #[.slice (some b) sLen sCap, .int .i64 n]).run P w =
      .ok (.slice (some ⟨w.heap.size, 0, none⟩) (sLen + n) (grownCap w (sLen + n) sCap e))
        (w.drew.alloc (.cells (olds.toArray ++ Builtin.zeroCells z.cells n ++ Builtin.zeroCells z.cells (grownCap w (sLen + n) sCap e - (sLen + n))) e)) := by
  have hn : ¬ (sLen + n ≤ sCap) := by omega
  have hbb : (sLen + n) * i.bytes ≤ 1000000 * 1000 := Nat.mul_le_mul hsmall hb
  have hnb : n * i.bytes ≤ 1000000 * 1000 := Nat.mul_le_mul (by omega) hb
  have h63' : ¬ (9223372036854775807 < ((sLen : Int) + (n : Int))) := by omega
  have h48' : ¬ (281474976710656 < Builtin.nextslicecap (sLen + n) sCap * i.bytes) := by
    have := growslice_fits (bytes := i.bytes) hg (by omega)
    omega
  have hneg : ¬ ((n : Int) < 0) := by omega
  have hmk : ¬ ((281474976710656 : Int) < (n : Int) * (i.bytes : Int)) := by
    have e : ((n * i.bytes : Nat) : Int) = (n : Int) * (i.bytes : Int) := by simp
    omega
  have hw : IntKind.i64.wrap (n : Int) = n := by rw [IntKind.wrap_i64]; omega
  have hne : ¬ (n * i.size = 0) := by omega
  have hfo := run_firstCells_some (P := P) w.drew i.size sLen b sLen sCap olds hlo (by simpa using holds)
  simp [Builtin.append_, run_underlying ht, run_underlying hti, sizeOf, typeInfo, zeroValue, hi, hz, asInt, asIntOf, hw, hneg, hmk, hn, h63', h48', Question.forced, hfo, newRow, grownCap]
  exact fun h => absurd h hne

theorem wpList_append_zeros {w : World} {ops : Array Oper} {rest : List Oper} {o : Oper} {a : Act} {Q : Exit → Act → World → Prop} (hgd : o.guard = none) (s x : Operand) (t ti : TypeId)
    (ho : o.op = .call { callee := .builtin .append, args := #[s, x], argTypes := #[t, ti] })
    (e : TypeId) (i : TypeInfo) (z : Value) (size bytes : Nat) (ht : P.underlying t = some (.slice e)) (hti : P.underlying ti = some (.int .i64)) (hi : P.info? e = some i) (hz : i.zero = some z)
    (hsize : i.size = size) (hby : i.bytes = bytes) (hzs : z.cells.size = size)
    (b : Addr) (sLen sCap n : Nat) (hs : a.eval s = .slice (some b) sLen sCap) (hx : a.eval x = .int .i64 n)
    (hn0 : 0 < n * size) (olds : List Value) (hlo : olds.length = sLen * size) (holds : ∀ j v, olds[j]? = some v → w.cell? (b.add j) = some v)
    (hg : sCap < sLen + n) (hsmall : sLen + n ≤ 1000000) (hb : bytes ≤ 1000)
    (h : ∀ cap (L : List Value) w', sLen + n ≤ cap → cap ≤ maxLen → L.length = cap * size → L.take (sLen * size) = olds → w'.heap[w.heap.size]? = some (.cells L.toArray e (0, 0)) → w.grownBy w' none →
      wpList P ops Q rest (a.put o.dst (.slice (some ⟨w.heap.size, 0, none⟩) (sLen + n) cap)) w') :
    wpList P ops Q (o :: rest) a w := by
  subst hsize
  subst hby
  refine wpList_plain hgd fun K hK => ?_
  have hr := run_append_zeros (P := P) w t ti o.type e i z ht hti hi hz b sLen sCap n hn0 olds hlo holds hg hsmall hb
  have hge := grownCap_ge w (sLen + n) sCap e
  have hL := h _ (olds ++ (Builtin.zeroCells z.cells n).toList ++ (Builtin.zeroCells z.cells (grownCap w (sLen + n) sCap e - (sLen + n))).toList) _ hge (grownCap_le_maxLen w _ _ _ (by simp only [maxLen]; omega))
    (by
      simp only [List.length_append, Array.length_toList, size_zeroCells, hzs, hlo, ← Nat.add_mul]
      congr 1
      omega)
    (by rw [List.append_assoc, ← hlo]; exact List.take_left)
    (heap_alloc_new w.drew _) ⟨rfl, rfl, rfl, by simp, fun k hk _ => heap_alloc_old w.drew _ hk⟩
  unfold Oper.wp execOp
  simp only [ho, resolve, invoke, builtin, Sem.run_bind, Sem.run_pure, Result.andThen_ok, List.map_toArray, List.map_cons, List.map_nil, hs, hx, hr]
  refine hK _ _ ?_
  have e1 : (olds ++ (Builtin.zeroCells z.cells n).toList ++ (Builtin.zeroCells z.cells (grownCap w (sLen + n) sCap e - (sLen + n))).toList).toArray = olds.toArray ++ Builtin.zeroCells z.cells n ++ Builtin.zeroCells z.cells (grownCap w (sLen + n) sCap e - (sLen + n)) := by simp
  rw [e1] at hL
  exact hL

/-- copy, the world behind it told by what it keeps. -/
theorem wpList_copy_at {w : World} {ops : Array Oper} {rest : List Oper} {o : Oper} {a : Act} {Q : Exit → Act → World → Prop} (hgd : o.guard = none) (d s : Operand) (dT sT : TypeId)
    (ho : o.op = .call { callee := .builtin .copy, args := #[d, s], argTypes := #[dT, sT] }) (elem : TypeId) (size : Nat) (hu : P.underlying dT = some (.slice elem)) (hsz : (P.info? elem).map (·.size) = some size)
    (g off dLen dCap : Nat) (ad : Addr) (sLen sCap m : Nat) (hd : a.eval d = .slice (some ⟨g, off, none⟩) dLen dCap) (hs : a.eval s = .slice (some ad) sLen sCap) (hm : Nat.min sLen dLen = m)
    (cur : List Value) (t : TypeId) (hg : w.heap[g]? = some (.cells cur.toArray t (0, 0))) (cs : List Value) (hn : cs.length = m * size)
    (hsrc : ∀ j v, cs[j]? = some v → w.cell? (ad.add j) = some v) (hfit : off + cs.length ≤ cur.length) (h1 : ∀ v ∈ cs, v.oneCell' = true)
    (h : ∀ w', w'.heap[g]? = some (.cells (over cur off cs).toArray t (0, 0)) → w.grownBy w' (some g) → wpList P ops Q rest (a.put o.dst (goInt m)) w') : wpList P ops Q (o :: rest) a w :=
  wpList_copy_gen hgd d s dT sT ho elem size hu hsz g off dLen dCap ad sLen sCap m hd hs hm cur t hg cs hn hsrc hfit h1
    (h _ (setRow_heap w g _ _ t _ hg) ⟨rfl, rfl, rfl, by simp, fun k _ hk => setRow_other w g k _ (fun e => hk (by rw [e]))⟩)
end

/-- A guard for an arm: the operation that writes slot d stands next. -/
theorem at_dst {P : Program} (d : Nat) {ops : Array Oper} {Q : Exit → Act → World → Prop} {rest : List Oper} {op : Op} {ty : TypeId} {pos : String} {af : Array Edge} {gd : Option (Nat × Bool)} {a : Act} {w : World}
    (h : wpList P ops Q (⟨some d, op, ty, pos, af, gd⟩ :: rest) a w) : wpList P ops Q (⟨some d, op, ty, pos, af, gd⟩ :: rest) a w := h
theorem over_length (L : List Value) (off : Nat) (cs : List Value) (h : off + cs.length ≤ L.length) : (over L off cs).length = L.length := by simp [over]; omega
theorem over_over (L : List Value) (a : Nat) (xs ys : List Value) (h : a + xs.length + ys.length ≤ L.length) :
    (over (over L a xs) (a + xs.length) ys).take (a + xs.length + ys.length) = L.take a ++ (xs ++ ys) := by
  obtain ⟨A, R, rfl, hA⟩ : ∃ A R, L = A ++ R ∧ A.length = a := ⟨L.take a, L.drop a, (List.take_append_drop a L).symm, by simp; omega⟩
  subst hA
  have e1 : over (A ++ R) A.length xs = (A ++ xs) ++ R.drop xs.length := by
    unfold over
    rw [List.take_left, List.drop_append, List.drop_of_length_le (by omega), List.nil_append, show A.length + xs.length - A.length = xs.length by omega, List.append_assoc]
  have e2 : over ((A ++ xs) ++ R.drop xs.length) (A ++ xs).length ys = (A ++ xs) ++ (ys ++ (R.drop xs.length).drop ys.length) := by
    unfold over
    rw [List.take_left, List.drop_append, List.drop_of_length_le (by omega), List.nil_append, show (A ++ xs).length + ys.length - (A ++ xs).length = ys.length by omega]
  rw [e1, show A.length + xs.length = (A ++ xs).length by simp, e2, List.take_left, ← List.append_assoc, show (A ++ xs).length + ys.length = ((A ++ xs) ++ ys).length by simp; omega, List.take_left, List.append_assoc]
theorem over_back (L : List Value) (a : Nat) (xs ys : List Value) (h : a + xs.length + ys.length ≤ L.length) :
    (over (over L (a + xs.length) ys) a xs).take (a + xs.length + ys.length) = L.take a ++ (xs ++ ys) := by
  obtain ⟨A, R, rfl, hA⟩ : ∃ A R, L = A ++ R ∧ A.length = a := ⟨L.take a, L.drop a, (List.take_append_drop a L).symm, by simp; omega⟩
  subst hA
  simp only [List.length_append] at h
  have e1 : over (A ++ R) (A.length + xs.length) ys = A ++ (R.take xs.length ++ (ys ++ R.drop (xs.length + ys.length))) := by
    unfold over
    rw [List.take_append, List.take_of_length_le (by omega), show A.length + xs.length - A.length = xs.length by omega, List.drop_append, List.drop_of_length_le (by omega), List.nil_append, show A.length + xs.length + ys.length - A.length = xs.length + ys.length by omega, List.append_assoc]
  have hl : (R.take xs.length).length = xs.length := by simp; omega
  have e2 : over (A ++ (R.take xs.length ++ (ys ++ R.drop (xs.length + ys.length)))) A.length xs = A ++ (xs ++ (ys ++ R.drop (xs.length + ys.length))) := by
    unfold over
    rw [List.take_left, List.drop_append, List.drop_of_length_le (by omega), List.nil_append, show A.length + xs.length - A.length = (R.take xs.length).length by omega, List.drop_left]
  rw [e1, e2, List.take_left, ← List.append_assoc, ← List.append_assoc, show A.length + xs.length + ys.length = ((A ++ xs) ++ ys).length by simp; omega, List.take_left, List.append_assoc]
end Go.Proofs.Yteidbomkbddliaa
