/-
  What the rows of layer 41's statements open: lists of calls, one call.
-/
import Derived.Test.YtfeljihbaekfmaaRfL0
import Derived.Test.YtfeljihbaekfmaaLawRow
import Derived.Test.YtfeljihbaekfmaaRows
import Derived.Deep.DeepHandedRow
import Derived.LaidMore
import Derived.Lay
import Derived.SevenTiedAt
import Derived.Shelf.LaysM
import Derived.ChangeMaps5
import Derived.SliceStrings
import Derived.Lib.SmallJoins
import Derived.Deep.Slices
import Derived.Deep.Strs
namespace Go.Proofs.Ytfeljihbaekfmaa.Rf
open Go.ChangeShapes Go.WideShapes Go.ChangeAt Go.RowKit Go.Proofs.Ytfeljihbaekfmaa.Fo

theorem laid : laidOutB Try.prog = true := by kernel_rfl
theorem own : ownKnob Try.prog.godebug = none := by kernel_rfl
theorem readable (t : TypeId) (h : t = 3 ∨ t = 22 ∨ t = 39 ∨ t = 5) : Try.prog.readableRec t = true ∧ t < Try.prog.types.size := by
  rcases h with rfl | rfl | rfl | rfl
  · exact ⟨by kernel_rfl, of_decide_eq_true (by kernel_rfl)⟩
  · exact ⟨by kernel_rfl, of_decide_eq_true (by kernel_rfl)⟩
  · exact ⟨by kernel_rfl, of_decide_eq_true (by kernel_rfl)⟩
  · exact ⟨by kernel_rfl, of_decide_eq_true (by kernel_rfl)⟩
theorem mx_of {w : World} (h : w.ShapedOpen Try.prog) : MX w :=
  Go.Proofs.cell_of_shapedOpen_int (zero := #[.int .i64 0]) (t := 3) h (of_decide_eq_true (by kernel_rfl)) (by kernel_rfl) rfl (by kernel_rfl) (by kernel_rfl) Try.underlying3
theorem u8_range {n : Int} (h : (Lit.int .u8 n).wf = true) : 0 ≤ n ∧ n < 256 := by
  simp only [Lit.wf, Bool.and_eq_true, decide_eq_true_eq] at h
  have e1 : IntKind.u8.min = 0 := rfl
  have e2 : IntKind.u8.max = 255 := rfl
  omega
theorem cell_lt {w : World} {a : Addr} {u : Value} (h : w.cell? a = some u) : a.block < w.heap.size ∧ a.spot = none := by
  unfold World.cell? at h
  cases hb : w.heap[a.block]? with
  | none => simp [hb] at h
  | some o =>
    refine ⟨(Array.getElem?_eq_some_iff.1 hb).1, ?_⟩
    rw [hb] at h
    by_cases hs : a.spot.isSome
    · cases o <;> simp [hs] at h
    · simpa using hs
theorem add_plain (b off j : Nat) : (⟨b, off, none⟩ : Addr).add j = ⟨b, off + j, none⟩ := by unfold Addr.add; split <;> simp_all
theorem add_zero (a : Addr) : a.add 0 = a := by unfold Addr.add; simp
theorem list9 {α : Type} {l : List α} (h : l.length = 9) : ∃ a0 a1 a2 a3 a4 a5 a6 a7 a8, l = [a0, a1, a2, a3, a4, a5, a6, a7, a8] := by
  match l, h with
  | [a0, a1, a2, a3, a4, a5, a6, a7, a8], _ => exact ⟨a0, a1, a2, a3, a4, a5, a6, a7, a8, rfl⟩
section
variable {H : Type} {enc : TypeId × Value → H} {w : World}
theorem trodAll_five {P : Program} {base : Nat} {spare : Nat → Bool} {held : Bool} {t0 t1 t2 t3 t4 : TypeId} {args : Array Value} {ds : List (DataW H)} {ps : List MemPlace} (h : DataW.TrodAll enc P w base spare held [t0, t1, t2, t3, t4] args.toList ds ps) :
    ∃ v0 v1 v2 v3 v4 d0 d1 d2 d3 d4 p0 p1 p2 p3 p4, args = #[v0, v1, v2, v3, v4] ∧ ds = [d0, d1, d2, d3, d4] ∧ ps = p0 ++ p1 ++ p2 ++ p3 ++ p4 ∧ DataW.Trod enc P w base spare held t0 v0 d0 p0 ∧ DataW.Trod enc P w base spare held t1 v1 d1 p1 ∧ DataW.Trod enc P w base spare held t2 v2 d2 p2 ∧ DataW.Trod enc P w base spare held t3 v3 d3 p3 ∧ DataW.Trod enc P w base spare held t4 v4 d4 p4 := by
  obtain ⟨v0, s0, d0, e0, p0, q0, hargs, rfl, rfl, h0, r0⟩ := trodAll_cons h
  obtain ⟨v1, s1, d1, e1, p1, q1, rfl, rfl, rfl, h1, r1⟩ := trodAll_cons r0
  obtain ⟨v2, s2, d2, e2, p2, q2, rfl, rfl, rfl, h2, r2⟩ := trodAll_cons r1
  obtain ⟨v3, s3, d3, e3, p3, q3, rfl, rfl, rfl, h3, r3⟩ := trodAll_cons r2
  obtain ⟨v4, s4, d4, e4, p4, q4, rfl, rfl, rfl, h4, r4⟩ := trodAll_cons r3
  obtain ⟨rfl, rfl, rfl⟩ := trodAll_nil r4
  exact ⟨v0, v1, v2, v3, v4, d0, d1, d2, d3, d4, p0, p1, p2, p3, p4, by cases args; simp_all, rfl, by simp, h0, h1, h2, h3, h4⟩
theorem ss_of {fuel : Nat} {v : Value} {x : DataW H × List MemPlace} (hf : DataW.trod enc Try.prog w 0 (fun _ => true) true fuel 33 [v] = some x) : ∃ (A : Option Addr) (l : List Bs) (c : Nat), v = .slice A l.length c ∧ Ss w A l.length c l := by
  rcases open_strings Try.underlying33 Try.underlying9 (by kernel_rfl) hf with ⟨hcs, _⟩ | ⟨a, n, c, zs, hcs, _, hlc, hcm, hlen, _, hc, _⟩
  · injection hcs with hcs
    exact ⟨none, [], 0, hcs, Ss.nil _ _ _⟩
  · injection hcs with hcs
    simp only [if_true] at hlen
    have e : (zs.take n).length = n := by rw [List.length_take, hlen]; omega
    refine ⟨some a, zs.take n, c, by rw [hcs, e], ?_⟩
    rw [e]
    refine ⟨e, hlc, fun hn => ?_⟩
    have h00 := hc 0 (by omega)
    have hl := cell_lt h00
    rw [add_zero] at hl
    obtain ⟨b, off, sp⟩ := a
    simp only at hl
    obtain ⟨hl1, rfl⟩ := hl
    refine ⟨b, off, rfl, hl1, fun i hi => ?_⟩
    have := hc i (by omega)
    rw [add_plain] at this
    rw [this]
    congr 2
    simp [sAt, List.getD, hi]
    rfl
theorem trod_struct9 {P : Program} {base : Nat} {spare : Nat → Bool} {held : Bool} {t : TypeId} {f0 f1 f2 f3 f4 f5 f6 f7 f8 : Field} {fuel : Nat} {cs : List Value} {x : DataW H × List MemPlace} (ht : P.underlying t = some (.struct #[f0, f1, f2, f3, f4, f5, f6, f7, f8])) (h : DataW.trod enc P w base spare held fuel t cs = some x) :
    ∃ y0 y1 y2 y3 y4 y5 y6 y7 y8 n, cs.length = P.cellsOf t ∧ DataW.trod enc P w base spare held n f0.type ((cs.drop f0.offset).take (P.cellsOf f0.type)) = some y0 ∧ DataW.trod enc P w base spare held n f1.type ((cs.drop f1.offset).take (P.cellsOf f1.type)) = some y1 ∧ DataW.trod enc P w base spare held n f2.type ((cs.drop f2.offset).take (P.cellsOf f2.type)) = some y2 ∧ DataW.trod enc P w base spare held n f3.type ((cs.drop f3.offset).take (P.cellsOf f3.type)) = some y3 ∧ DataW.trod enc P w base spare held n f4.type ((cs.drop f4.offset).take (P.cellsOf f4.type)) = some y4 ∧ DataW.trod enc P w base spare held n f5.type ((cs.drop f5.offset).take (P.cellsOf f5.type)) = some y5 ∧ DataW.trod enc P w base spare held n f6.type ((cs.drop f6.offset).take (P.cellsOf f6.type)) = some y6 ∧ DataW.trod enc P w base spare held n f7.type ((cs.drop f7.offset).take (P.cellsOf f7.type)) = some y7 ∧ DataW.trod enc P w base spare held n f8.type ((cs.drop f8.offset).take (P.cellsOf f8.type)) = some y8 := by
  obtain ⟨xs, n, _, rfl, hl, hlen, hf⟩ := DataW.trod_struct ht h
  match xs, hlen with
  | [y0, y1, y2, y3, y4, y5, y6, y7, y8], _ => exact ⟨y0, y1, y2, y3, y4, y5, y6, y7, y8, n, hl, by simpa using hf 0 f0 rfl, by simpa using hf 1 f1 rfl, by simpa using hf 2 f2 rfl, by simpa using hf 3 f3 rfl, by simpa using hf 4 f4 rfl, by simpa using hf 5 f5 rfl, by simpa using hf 6 f6 rfl, by simpa using hf 7 f7 rfl, by simpa using hf 8 f8 rfl⟩
/-- The nine cells of a call that reads. -/
theorem op_of {fuel : Nat} {cs : List Value} {x : DataW H × List MemPlace} (hf : DataW.trod enc Try.prog w 0 (fun _ => true) true fuel 39 cs = some x) :
    ∃ (X : Opx) (A : Option Addr) (c : Nat), cs = [.int .i64 X.call, .int .i64 X.now, .string X.id, .string X.tok, .string X.nxt, .string X.user, .string X.cl, .string X.ses, .slice A X.sc.length c] ∧ Ss w A X.sc.length c X.sc := by
  obtain ⟨b0, b1, b2, b3, b4, b5, b6, b7, b8, n, hl, e0, e1, e2, e3, e4, e5, e6, e7, e8⟩ := trod_struct9 Try.underlying39 hf
  have hC : Try.prog.cellsOf 39 = 9 := by kernel_rfl
  rw [hC] at hl
  obtain ⟨a0, a1, a2, a3, a4, a5, a6, a7, a8, rfl⟩ := list9 hl
  have c3 : Try.prog.cellsOf 3 = 1 := by kernel_rfl
  have c9 : Try.prog.cellsOf 9 = 1 := by kernel_rfl
  have c33 : Try.prog.cellsOf 33 = 1 := by kernel_rfl
  simp only [c3, c9, c33, List.drop_zero, List.drop_succ_cons, List.take_succ_cons, List.take_zero] at e0 e1 e2 e3 e4 e5 e6 e7 e8
  obtain ⟨x0, k0, _, _⟩ := DataW.trod_int Try.underlying3 e0
  obtain ⟨x1, k1, _, _⟩ := DataW.trod_int Try.underlying3 e1
  obtain ⟨x2, k2, _, _⟩ := DataW.trod_string Try.underlying9 e2
  obtain ⟨x3, k3, _, _⟩ := DataW.trod_string Try.underlying9 e3
  obtain ⟨x4, k4, _, _⟩ := DataW.trod_string Try.underlying9 e4
  obtain ⟨x5, k5, _, _⟩ := DataW.trod_string Try.underlying9 e5
  obtain ⟨x6, k6, _, _⟩ := DataW.trod_string Try.underlying9 e6
  obtain ⟨x7, k7, _, _⟩ := DataW.trod_string Try.underlying9 e7
  obtain ⟨A, l, c, k8, hs⟩ := ss_of e8
  injection k0 with k0
  injection k1 with k1
  injection k2 with k2
  injection k3 with k3
  injection k4 with k4
  injection k5 with k5
  injection k6 with k6
  injection k7 with k7
  exact ⟨⟨x0, x1, x2, x3, x4, x5, x6, x7, l⟩, A, c, by rw [k0, k1, k2, k3, k4, k5, k6, k7, k8], hs⟩
theorem open_ops {b0 : Nat} {v : Value} {d : DataW H} {p : List MemPlace} (hv : Value.okWide Try.prog w .any b0 22 v) (h : DataW.Trod enc Try.prog w 0 (fun _ => true) true 22 v d p) :
    ∃ (A : Option Addr) (n c : Nat) (l : List Opx), v = .slice A n c ∧ Os w A n c l := by
  obtain ⟨A, n, c, rfl⟩ := okWide_slice Try.underlying22 hv
  obtain ⟨fuel, hf⟩ := h
  rcases Deep.open_slice Try.underlying22 hf with ⟨hcs, _⟩ | ⟨a, len, cap, m, n', D, Pl, hcs, _, hlc, hcm, hm, _, hel⟩
  · simp [Value.cells] at hcs
    obtain ⟨rfl, rfl, rfl⟩ := hcs
    exact ⟨none, 0, 0, [], rfl, Os.nil _ _ _⟩
  · simp [Value.cells] at hcs
    obtain ⟨rfl, rfl, rfl⟩ := hcs
    simp only [if_true] at hm
    have hC : Try.prog.cellsOf 39 = 9 := by kernel_rfl
    have key : ∀ i, ∃ X : Opx, i < n → ∃ A' c', Ss w A' X.sc.length c' X.sc ∧ ∀ (j : Nat) (u : Value), ([.int .i64 X.call, .int .i64 X.now, .string X.id, .string X.tok, .string X.nxt, .string X.user, .string X.cl, .string X.ses, .slice A' X.sc.length c'] : List Value)[j]? = some u → w.cell? ((a.add (i * 9)).add j) = some u := by
      intro i
      by_cases hi : i < n
      · obtain ⟨cs', hc, ht⟩ := hel i (by omega)
        rw [hC] at hc
        obtain ⟨_, hlen, hget⟩ := World.cells?_some hc
        obtain ⟨X, A', c', rfl, hs⟩ := op_of ht
        refine ⟨X, fun _ => ⟨A', c', hs, fun j u hu => ?_⟩⟩
        have hj := (List.getElem?_eq_some_iff.1 hu).1
        simp only [List.length_cons, List.length_nil] at hj
        rw [hget j (by omega)]
        exact hu
      · exact ⟨op0, fun h => absurd h hi⟩
    obtain ⟨f, hf2⟩ := Classical.axiomOfChoice key
    refine ⟨some a, n, c, (List.range n).map f, rfl, by simp, hlc, fun hn => ?_⟩
    obtain ⟨A0, c0, _, k0⟩ := hf2 0 hn
    have hl := cell_lt (k0 0 _ rfl)
    rw [Nat.zero_mul, add_zero, add_zero] at hl
    obtain ⟨b, off, sp⟩ := a
    simp only at hl
    obtain ⟨hl1, rfl⟩ := hl
    refine ⟨b, off, rfl, hl1, fun i hi => ?_⟩
    obtain ⟨A', c', hs, k⟩ := hf2 i hi
    have e : oAt ((List.range n).map f) i = f i := by simp [oAt, List.getD, hi]
    rw [e]
    have kk : ∀ (j : Nat) (u : Value), ([.int .i64 (f i).call, .int .i64 (f i).now, .string (f i).id, .string (f i).tok, .string (f i).nxt, .string (f i).user, .string (f i).cl, .string (f i).ses, .slice A' (f i).sc.length c'] : List Value)[j]? = some u → w.cell? ⟨b, off + i * 9 + j, none⟩ = some u := fun j u hu => by
      have := k j u hu
      rwa [add_plain, add_plain] at this
    exact ⟨A', c', kk 0 _ rfl, kk 1 _ rfl, kk 2 _ rfl, kk 3 _ rfl, kk 4 _ rfl, kk 5 _ rfl, kk 6 _ rfl, kk 7 _ rfl, kk 8 _ rfl, hs⟩
/-- One call that came in. -/
theorem open_op {b0 : Nat} {v : Value} {d : DataW H} {p : List MemPlace} (hv : Value.okWide Try.prog w .any b0 39 v) (h : DataW.Trod enc Try.prog w 0 (fun _ => true) true 39 v d p) :
    ∃ (X : Opx) (A : Option Addr) (c : Nat), v = .agg #[.int .i64 X.call, .int .i64 X.now, .string X.id, .string X.tok, .string X.nxt, .string X.user, .string X.cl, .string X.ses, .slice A X.sc.length c] ∧ Ss w A X.sc.length c X.sc := by
  obtain ⟨cs, rfl, hsz⟩ := okWide_struct Try.underlying39 hv
  obtain ⟨fuel, hf⟩ := h
  obtain ⟨X, A, c, e, hs⟩ := op_of hf
  refine ⟨X, A, c, ?_, hs⟩
  have : cs.toList = _ := e
  rw [← Array.toArray_toList (xs := cs), this]
end
end Go.Proofs.Ytfeljihbaekfmaa.Rf
