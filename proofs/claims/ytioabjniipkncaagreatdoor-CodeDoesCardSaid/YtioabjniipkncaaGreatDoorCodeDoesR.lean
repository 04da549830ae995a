/-
  CodeDoes holds: for every life and operations the law returns true. No condition.
-/
import Derived.Test.YtioabjniipkncaaGreatDoorRcSb
import Derived.Test.YtioabjniipkncaaGreatDoorLawRow
import Derived.Test.YtioabjniipkncaaGreatDoorRows
import Derived.Test.YtioabjniipkncaaGreatDoorCards
import Derived.Test.YtioabjniipkncaaGreatDoorTie
import Derived.Deep.DeepHandedRow
import Derived.LaidMore
import Derived.Lay
import Derived.SevenTiedAt
import Derived.Shelf.LaysM
import Derived.ChangeMaps5
import Derived.SliceStrings
import Derived.Lib.SmallJoins
import Derived.Lib.LaidU8
import Derived.Deep.Slices
import Derived.Deep.Strs
import Derived.Test.YtioabjniipkncaaGreatDoorQcN
namespace Go.Proofs.YtioabjniipkncaaGreatDoor.Rc
open Go.ChangeShapes Go.WideShapes Go.ChangeAt Go.RowKit Go.Proofs.YtioabjniipkncaaGreatDoor.Fo Go.Proofs.YtioabjniipkncaaGreatDoor.Rf

theorem laid : laidOutB Tryz.prog = true := by kernel_rfl
theorem own : ownKnob Tryz.prog.godebug = none := by kernel_rfl
theorem readable (t : TypeId) (h : t = 3 ∨ t = 22 ∨ t = 41 ∨ t = 9 ∨ t = 36 ∨ t = 4) : Tryz.prog.readableRec t = true ∧ t < Tryz.prog.types.size := by
  rcases h with rfl | rfl | rfl | rfl | rfl | rfl
  · exact ⟨by kernel_rfl, of_decide_eq_true (by kernel_rfl)⟩
  · exact ⟨by kernel_rfl, of_decide_eq_true (by kernel_rfl)⟩
  · exact ⟨by kernel_rfl, of_decide_eq_true (by kernel_rfl)⟩
  · exact ⟨by kernel_rfl, of_decide_eq_true (by kernel_rfl)⟩
  · exact ⟨by kernel_rfl, of_decide_eq_true (by kernel_rfl)⟩
  · exact ⟨by kernel_rfl, of_decide_eq_true (by kernel_rfl)⟩
theorem noStand (t : TypeId) (h : t = 3 ∨ t = 22 ∨ t = 41 ∨ t = 9 ∨ t = 36 ∨ t = 4) : Tryz.pinned.checked.prog.wantsStandIn t = false := by
  rcases h with rfl | rfl | rfl | rfl | rfl | rfl
  · exact (show Tryz.prog.wantsStandIn 3 = false by kernel_rfl)
  · exact (show Tryz.prog.wantsStandIn 22 = false by kernel_rfl)
  · exact (show Tryz.prog.wantsStandIn 41 = false by kernel_rfl)
  · exact (show Tryz.prog.wantsStandIn 9 = false by kernel_rfl)
  · exact (show Tryz.prog.wantsStandIn 36 = false by kernel_rfl)
  · exact (show Tryz.prog.wantsStandIn 4 = false by kernel_rfl)
theorem mx_of {w : World} (h : w.ShapedOpen Tryz.prog) : MX w :=
  Go.Proofs.cell_of_shapedOpen_int (zero := #[.int .i64 0]) (t := 3) h (of_decide_eq_true (by kernel_rfl)) (by kernel_rfl) rfl (by kernel_rfl) (by kernel_rfl) Tryz.underlying3
theorem cell_lt {w : World} {a : Addr} {u : Value} (h : w.cell? a = some u) : a.block < w.heap.size ∧ a.spot = none := by
  unfold World.cell? at h
  cases hb : w.heap[a.block]? with
  | none => simp [hb] at h
  | some o =>
    refine ⟨(Array.getElem?_eq_some_iff.1 hb).1, ?_⟩
    rw [hb] at h
    by_cases hs : a.spot.isSome
    · cases o <;> simp [hs] at h
    · simpa using hs
theorem add_plain (b off j : Nat) : (⟨b, off, none⟩ : Addr).add j = ⟨b, off + j, none⟩ := by unfold Addr.add; split <;> simp_all
theorem add_zero (a : Addr) : a.add 0 = a := by unfold Addr.add; simp
section
variable {H : Type} {enc : TypeId × Value → H} {w : World}
theorem trodAll_two' {P : Program} {base : Nat} {spare : Nat → Bool} {held : Bool} {t0 t1 : TypeId} {args : Array Value} {ds : List (DataW H)} {ps : List MemPlace} (h : DataW.TrodAll enc P w base spare held [t0, t1] args.toList ds ps) :
    ∃ v0 v1 d0 d1 p0 p1, args = #[v0, v1] ∧ ds = [d0, d1] ∧ ps = p0 ++ p1 ∧ DataW.Trod enc P w base spare held t0 v0 d0 p0 ∧ DataW.Trod enc P w base spare held t1 v1 d1 p1 := by
  obtain ⟨v0, s0, d0, e0, p0, q0, hargs, rfl, rfl, h0, r0⟩ := trodAll_cons h
  obtain ⟨v1, s1, d1, e1, p1, q1, rfl, rfl, rfl, h1, r1⟩ := trodAll_cons r0
  obtain ⟨rfl, rfl, rfl⟩ := trodAll_nil r1
  exact ⟨v0, v1, d0, d1, p0, p1, by cases args; simp_all, rfl, by simp, h0, h1⟩
theorem trodAll_five' {P : Program} {base : Nat} {spare : Nat → Bool} {held : Bool} {t0 t1 t2 t3 t4 : TypeId} {args : Array Value} {ds : List (DataW H)} {ps : List MemPlace} (h : DataW.TrodAll enc P w base spare held [t0, t1, t2, t3, t4] args.toList ds ps) :
    ∃ v0 v1 v2 v3 v4 d0 d1 d2 d3 d4 p0 p1 p2 p3 p4, args = #[v0, v1, v2, v3, v4] ∧ ds = [d0, d1, d2, d3, d4] ∧ ps = p0 ++ p1 ++ p2 ++ p3 ++ p4 ∧ DataW.Trod enc P w base spare held t0 v0 d0 p0 ∧ DataW.Trod enc P w base spare held t1 v1 d1 p1 ∧ DataW.Trod enc P w base spare held t2 v2 d2 p2 ∧ DataW.Trod enc P w base spare held t3 v3 d3 p3 ∧ DataW.Trod enc P w base spare held t4 v4 d4 p4 := by
  obtain ⟨v0, s0, d0, e0, p0, q0, hargs, rfl, rfl, h0, r0⟩ := trodAll_cons h
  obtain ⟨v1, s1, d1, e1, p1, q1, rfl, rfl, rfl, h1, r1⟩ := trodAll_cons r0
  obtain ⟨v2, s2, d2, e2, p2, q2, rfl, rfl, rfl, h2, r2⟩ := trodAll_cons r1
  obtain ⟨v3, s3, d3, e3, p3, q3, rfl, rfl, rfl, h3, r3⟩ := trodAll_cons r2
  obtain ⟨v4, s4, d4, e4, p4, q4, rfl, rfl, rfl, h4, r4⟩ := trodAll_cons r3
  obtain ⟨rfl, rfl, rfl⟩ := trodAll_nil r4
  exact ⟨v0, v1, v2, v3, v4, d0, d1, d2, d3, d4, p0, p1, p2, p3, p4, by cases args; simp_all, rfl, by simp, h0, h1, h2, h3, h4⟩
theorem trodAll_six' {P : Program} {base : Nat} {spare : Nat → Bool} {held : Bool} {t0 t1 t2 t3 t4 t5 : TypeId} {args : Array Value} {ds : List (DataW H)} {ps : List MemPlace} (h : DataW.TrodAll enc P w base spare held [t0, t1, t2, t3, t4, t5] args.toList ds ps) :
    ∃ v0 v1 v2 v3 v4 v5 d0 d1 d2 d3 d4 d5 p0 p1 p2 p3 p4 p5, args = #[v0, v1, v2, v3, v4, v5] ∧ ds = [d0, d1, d2, d3, d4, d5] ∧ ps = p0 ++ p1 ++ p2 ++ p3 ++ p4 ++ p5 ∧ DataW.Trod enc P w base spare held t0 v0 d0 p0 ∧ DataW.Trod enc P w base spare held t1 v1 d1 p1 ∧ DataW.Trod enc P w base spare held t2 v2 d2 p2 ∧ DataW.Trod enc P w base spare held t3 v3 d3 p3 ∧ DataW.Trod enc P w base spare held t4 v4 d4 p4 ∧ DataW.Trod enc P w base spare held t5 v5 d5 p5 := by
  obtain ⟨v0, s0, d0, e0, p0, q0, hargs, rfl, rfl, h0, r0⟩ := trodAll_cons h
  obtain ⟨v1, s1, d1, e1, p1, q1, rfl, rfl, rfl, h1, r1⟩ := trodAll_cons r0
  obtain ⟨v2, s2, d2, e2, p2, q2, rfl, rfl, rfl, h2, r2⟩ := trodAll_cons r1
  obtain ⟨v3, s3, d3, e3, p3, q3, rfl, rfl, rfl, h3, r3⟩ := trodAll_cons r2
  obtain ⟨v4, s4, d4, e4, p4, q4, rfl, rfl, rfl, h4, r4⟩ := trodAll_cons r3
  obtain ⟨v5, s5, d5, e5, p5, q5, rfl, rfl, rfl, h5, r5⟩ := trodAll_cons r4
  obtain ⟨rfl, rfl, rfl⟩ := trodAll_nil r5
  exact ⟨v0, v1, v2, v3, v4, v5, d0, d1, d2, d3, d4, d5, p0, p1, p2, p3, p4, p5, by cases args; simp_all, rfl, by simp, h0, h1, h2, h3, h4, h5⟩

theorem ss_of {fuel : Nat} {v : Value} {x : DataW H × List MemPlace} (hf : DataW.trod enc Tryz.prog w 0 (fun _ => true) true fuel 34 [v] = some x) : ∃ (A : Option Addr) (l : List Bs) (c : Nat), v = .slice A l.length c ∧ Ss w A l.length c l := by
  rcases open_strings Tryz.underlying34 Tryz.underlying9 (by kernel_rfl) hf with ⟨hcs, _⟩ | ⟨a, n, c, zs, hcs, _, hlc, hcm, hlen, _, hc, _⟩
  · injection hcs with hcs
    exact ⟨none, [], 0, hcs, Ss.nil _ _ _⟩
  · injection hcs with hcs
    simp only [if_true] at hlen
    have e : (zs.take n).length = n := by rw [List.length_take, hlen]; omega
    refine ⟨some a, zs.take n, c, by rw [hcs, e], ?_⟩
    rw [e]
    refine ⟨e, hlc, fun hn => ?_⟩
    have h00 := hc 0 (by omega)
    have hl := cell_lt h00
    rw [add_zero] at hl
    obtain ⟨b, off, sp⟩ := a
    simp only at hl
    obtain ⟨hl1, rfl⟩ := hl
    refine ⟨b, off, rfl, hl1, fun i hi => ?_⟩
    have := hc i (by omega)
    rw [add_plain] at this
    rw [this]
    congr 2
    simp [sAt, List.getD, hi]
    rfl
theorem list11 {α : Type} {l : List α} (h : l.length = 11) : ∃ a0 a1 a2 a3 a4 a5 a6 a7 a8 a9 a10, l = [a0, a1, a2, a3, a4, a5, a6, a7, a8, a9, a10] := by
  match l, h with
  | [a0, a1, a2, a3, a4, a5, a6, a7, a8, a9, a10], _ => exact ⟨a0, a1, a2, a3, a4, a5, a6, a7, a8, a9, a10, rfl⟩
theorem list17 {α : Type} {l : List α} (h : l.length = 17) : ∃ a0 a1 a2 a3 a4 a5 a6 a7 a8 a9 a10 a11 a12 a13 a14 a15 a16, l = [a0, a1, a2, a3, a4, a5, a6, a7, a8, a9, a10, a11, a12, a13, a14, a15, a16] := by
  match l, h with
  | [a0, a1, a2, a3, a4, a5, a6, a7, a8, a9, a10, a11, a12, a13, a14, a15, a16], _ => exact ⟨a0, a1, a2, a3, a4, a5, a6, a7, a8, a9, a10, a11, a12, a13, a14, a15, a16, rfl⟩
theorem trod_struct11 {P : Program} {base : Nat} {spare : Nat → Bool} {held : Bool} {t : TypeId} {f0 f1 f2 f3 f4 f5 f6 f7 f8 f9 f10 : Field} {fuel : Nat} {cs : List Value} {x : DataW H × List MemPlace} (ht : P.underlying t = some (.struct #[f0, f1, f2, f3, f4, f5, f6, f7, f8, f9, f10])) (h : DataW.trod enc P w base spare held fuel t cs = some x) :
    ∃ y0 y1 y2 y3 y4 y5 y6 y7 y8 y9 y10 n, cs.length = P.cellsOf t ∧ DataW.trod enc P w base spare held n f0.type ((cs.drop f0.offset).take (P.cellsOf f0.type)) = some y0 ∧ DataW.trod enc P w base spare held n f1.type ((cs.drop f1.offset).take (P.cellsOf f1.type)) = some y1 ∧ DataW.trod enc P w base spare held n f2.type ((cs.drop f2.offset).take (P.cellsOf f2.type)) = some y2 ∧ DataW.trod enc P w base spare held n f3.type ((cs.drop f3.offset).take (P.cellsOf f3.type)) = some y3 ∧ DataW.trod enc P w base spare held n f4.type ((cs.drop f4.offset).take (P.cellsOf f4.type)) = some y4 ∧ DataW.trod enc P w base spare held n f5.type ((cs.drop f5.offset).take (P.cellsOf f5.type)) = some y5 ∧ DataW.trod enc P w base spare held n f6.type ((cs.drop f6.offset).take (P.cellsOf f6.type)) = some y6 ∧ DataW.trod enc P w base spare held n f7.type ((cs.drop f7.offset).take (P.cellsOf f7.type)) = some y7 ∧ DataW.trod enc P w base spare held n f8.type ((cs.drop f8.offset).take (P.cellsOf f8.type)) = some y8 ∧ DataW.trod enc P w base spare held n f9.type ((cs.drop f9.offset).take (P.cellsOf f9.type)) = some y9 ∧ DataW.trod enc P w base spare held n f10.type ((cs.drop f10.offset).take (P.cellsOf f10.type)) = some y10 := by
  obtain ⟨xs, n, _, rfl, hl, hlen, hf⟩ := DataW.trod_struct ht h
  match xs, hlen with
  | [y0, y1, y2, y3, y4, y5, y6, y7, y8, y9, y10], _ => exact ⟨y0, y1, y2, y3, y4, y5, y6, y7, y8, y9, y10, n, hl, by simpa using hf 0 f0 rfl, by simpa using hf 1 f1 rfl, by simpa using hf 2 f2 rfl, by simpa using hf 3 f3 rfl, by simpa using hf 4 f4 rfl, by simpa using hf 5 f5 rfl, by simpa using hf 6 f6 rfl, by simpa using hf 7 f7 rfl, by simpa using hf 8 f8 rfl, by simpa using hf 9 f9 rfl, by simpa using hf 10 f10 rfl⟩
theorem trod_struct7 {P : Program} {base : Nat} {spare : Nat → Bool} {held : Bool} {t : TypeId} {f0 f1 f2 f3 f4 f5 f6 : Field} {fuel : Nat} {cs : List Value} {x : DataW H × List MemPlace} (ht : P.underlying t = some (.struct #[f0, f1, f2, f3, f4, f5, f6])) (h : DataW.trod enc P w base spare held fuel t cs = some x) :
    ∃ y0 y1 y2 y3 y4 y5 y6 n, cs.length = P.cellsOf t ∧ DataW.trod enc P w base spare held n f0.type ((cs.drop f0.offset).take (P.cellsOf f0.type)) = some y0 ∧ DataW.trod enc P w base spare held n f1.type ((cs.drop f1.offset).take (P.cellsOf f1.type)) = some y1 ∧ DataW.trod enc P w base spare held n f2.type ((cs.drop f2.offset).take (P.cellsOf f2.type)) = some y2 ∧ DataW.trod enc P w base spare held n f3.type ((cs.drop f3.offset).take (P.cellsOf f3.type)) = some y3 ∧ DataW.trod enc P w base spare held n f4.type ((cs.drop f4.offset).take (P.cellsOf f4.type)) = some y4 ∧ DataW.trod enc P w base spare held n f5.type ((cs.drop f5.offset).take (P.cellsOf f5.type)) = some y5 ∧ DataW.trod enc P w base spare held n f6.type ((cs.drop f6.offset).take (P.cellsOf f6.type)) = some y6 := by
  obtain ⟨xs, n, _, rfl, hl, hlen, hf⟩ := DataW.trod_struct ht h
  match xs, hlen with
  | [y0, y1, y2, y3, y4, y5, y6], _ => exact ⟨y0, y1, y2, y3, y4, y5, y6, n, hl, by simpa using hf 0 f0 rfl, by simpa using hf 1 f1 rfl, by simpa using hf 2 f2 rfl, by simpa using hf 3 f3 rfl, by simpa using hf 4 f4 rfl, by simpa using hf 5 f5 rfl, by simpa using hf 6 f6 rfl⟩

set_option maxRecDepth 100000 in
/-- The eleven cells of a grant that reads. -/
theorem gr_of {fuel : Nat} {cs : List Value} {x : DataW H × List MemPlace} (hf : DataW.trod enc Tryz.prog w 0 (fun _ => true) true fuel 36 cs = some x) :
    ∃ (X : Gr) (A : Option Addr) (c : Nat), cs = [.string X.user, .string X.client, .string X.tenant, .string X.session, .string X.redirect, .string X.nonce, .string X.challenge, .int .i64 X.method, (.slice A X.scopes.length c), .int .i64 X.auth, .int .i64 X.level] ∧ Ss w A X.scopes.length c X.scopes := by
  obtain ⟨b0, b1, b2, b3, b4, b5, b6, b7, b8, b9, b10, n, hl, e0, e1, e2, e3, e4, e5, e6, e7, e8, e9, e10⟩ := trod_struct11 Tryz.underlying36 hf
  have hC : Tryz.prog.cellsOf 36 = 11 := by kernel_rfl
  rw [hC] at hl
  obtain ⟨a0, a1, a2, a3, a4, a5, a6, a7, a8, a9, a10, rfl⟩ := list11 hl
  have c3 : Tryz.prog.cellsOf 3 = 1 := by kernel_rfl
  have c4 : Tryz.prog.cellsOf 33 = 1 := by kernel_rfl
  have c9 : Tryz.prog.cellsOf 9 = 1 := by kernel_rfl
  have c33 : Tryz.prog.cellsOf 34 = 1 := by kernel_rfl
  simp only [c3, c4, c9, c33, List.drop_zero, List.drop_succ_cons, List.take_succ_cons, List.take_zero] at e0 e1 e2 e3 e4 e5 e6 e7 e8 e9 e10
  obtain ⟨x0, k0, _, _⟩ := DataW.trod_string Tryz.underlying9 e0
  obtain ⟨x1, k1, _, _⟩ := DataW.trod_string Tryz.underlying9 e1
  obtain ⟨x2, k2, _, _⟩ := DataW.trod_string Tryz.underlying9 e2
  obtain ⟨x3, k3, _, _⟩ := DataW.trod_string Tryz.underlying9 e3
  obtain ⟨x4, k4, _, _⟩ := DataW.trod_string Tryz.underlying9 e4
  obtain ⟨x5, k5, _, _⟩ := DataW.trod_string Tryz.underlying9 e5
  obtain ⟨x6, k6, _, _⟩ := DataW.trod_string Tryz.underlying9 e6
  obtain ⟨x7, k7, _, _⟩ := DataW.trod_int Tryz.underlying33 e7
  obtain ⟨A, l, c, k8, hs⟩ := ss_of e8
  obtain ⟨x9, k9, _, _⟩ := DataW.trod_int Tryz.underlying3 e9
  obtain ⟨x10, k10, _, _⟩ := DataW.trod_int Tryz.underlying3 e10
  injection k0 with k0
  injection k1 with k1
  injection k2 with k2
  injection k3 with k3
  injection k4 with k4
  injection k5 with k5
  injection k6 with k6
  injection k7 with k7
  injection k9 with k9
  injection k10 with k10
  exact ⟨⟨x0, x1, x2, x3, x4, x5, x6, x7, l, x9, x10⟩, A, c, by rw [k0, k1, k2, k3, k4, k5, k6, k7, k8, k9, k10], hs⟩
theorem gr_size {fuel : Nat} {cs : List Value} {x : DataW H × List MemPlace} (hf : DataW.trod enc Tryz.prog w 0 (fun _ => true) true fuel 36 cs = some x) : cs.length = 11 := by
  obtain ⟨X, A, c, rfl, _⟩ := gr_of hf
  rfl
set_option maxRecDepth 100000 in
/-- The cells of an operation that reads. -/
theorem op_of {fuel : Nat} {cs : List Value} {x : DataW H × List MemPlace} (hf : DataW.trod enc Tryz.prog w 0 (fun _ => true) true fuel 41 cs = some x) :
    ∃ (X : Opc) (A : Option Addr) (c : Nat), cs = [.int .i64 X.kind, .string X.code, .string X.cl, .string X.rd, .string X.ver, .string X.g.user, .string X.g.client, .string X.g.tenant, .string X.g.session, .string X.g.redirect, .string X.g.nonce, .string X.g.challenge, .int .i64 X.g.method, .slice A X.g.scopes.length c, .int .i64 X.g.auth, .int .i64 X.g.level, .int .i64 X.now] ∧ Ss w A X.g.scopes.length c X.g.scopes := by
  obtain ⟨b0, b1, b2, b3, b4, b5, b6, n, hl, e0, e1, e2, e3, e4, e5, e6⟩ := trod_struct7 Tryz.underlying41 hf
  have hC : Tryz.prog.cellsOf 41 = 17 := by kernel_rfl
  rw [hC] at hl
  obtain ⟨a0, a1, a2, a3, a4, a5, a6, a7, a8, a9, a10, a11, a12, a13, a14, a15, a16, rfl⟩ := list17 hl
  have c3 : Tryz.prog.cellsOf 3 = 1 := by kernel_rfl
  have c4 : Tryz.prog.cellsOf 36 = 11 := by kernel_rfl
  have c9 : Tryz.prog.cellsOf 9 = 1 := by kernel_rfl
  simp only [c3, c4, c9, List.drop_zero, List.drop_succ_cons, List.take_succ_cons, List.take_zero] at e0 e1 e2 e3 e4 e5 e6
  obtain ⟨x0, k0, _, _⟩ := DataW.trod_int Tryz.underlying3 e0
  obtain ⟨x1, k1, _, _⟩ := DataW.trod_string Tryz.underlying9 e1
  obtain ⟨x2, k2, _, _⟩ := DataW.trod_string Tryz.underlying9 e2
  obtain ⟨x3, k3, _, _⟩ := DataW.trod_string Tryz.underlying9 e3
  obtain ⟨x4, k4, _, _⟩ := DataW.trod_string Tryz.underlying9 e4
  obtain ⟨X, A, c, k5, hs⟩ := gr_of e5
  obtain ⟨x6, k6, _, _⟩ := DataW.trod_int Tryz.underlying3 e6
  injection k0 with k0
  injection k1 with k1
  injection k2 with k2
  injection k3 with k3
  injection k4 with k4
  injection k6 with k6
  simp only [List.cons.injEq, and_true] at k5
  obtain ⟨g0, g1, g2, g3, g4, g5, g6, g7, g8, g9, g10⟩ := k5
  exact ⟨⟨x0, x1, x2, x3, x4, X, x6⟩, A, c, by rw [k0, k1, k2, k3, k4, g0, g1, g2, g3, g4, g5, g6, g7, g8, g9, g10, k6], hs⟩
set_option maxRecDepth 100000 in
theorem open_ops {b0 : Nat} {v : Value} {d : DataW H} {p : List MemPlace} (hv : Value.okWide Tryz.prog w .any b0 22 v) (h : DataW.Trod enc Tryz.prog w 0 (fun _ => true) true 22 v d p) :
    ∃ (A : Option Addr) (n c : Nat) (l : List Opc), v = .slice A n c ∧ Os w A n c l := by
  obtain ⟨A, n, c, rfl⟩ := okWide_slice Tryz.underlying22 hv
  obtain ⟨fuel, hf⟩ := h
  rcases Deep.open_slice Tryz.underlying22 hf with ⟨hcs, _⟩ | ⟨a, len, cap, m, n', D, Pl, hcs, _, hlc, hcm, hm, _, hel⟩
  · simp [Value.cells] at hcs
    obtain ⟨rfl, rfl, rfl⟩ := hcs
    exact ⟨none, 0, 0, [], rfl, rfl, Nat.le_refl _, fun h => absurd h (by omega)⟩
  · simp [Value.cells] at hcs
    obtain ⟨rfl, rfl, rfl⟩ := hcs
    simp only [if_true] at hm
    have hC : Tryz.prog.cellsOf 41 = 17 := by kernel_rfl
    have key : ∀ i, ∃ X : Opc, i < n → ∃ A' c', Ss w A' X.g.scopes.length c' X.g.scopes ∧ ∀ (j : Nat) (u : Value), ([.int .i64 X.kind, .string X.code, .string X.cl, .string X.rd, .string X.ver, .string X.g.user, .string X.g.client, .string X.g.tenant, .string X.g.session, .string X.g.redirect, .string X.g.nonce, .string X.g.challenge, .int .i64 X.g.method, .slice A' X.g.scopes.length c', .int .i64 X.g.auth, .int .i64 X.g.level, .int .i64 X.now] : List Value)[j]? = some u → w.cell? ((a.add (i * 17)).add j) = some u := by
      intro i
      by_cases hi : i < n
      · obtain ⟨cs', hc, ht⟩ := hel i (by omega)
        rw [hC] at hc
        obtain ⟨_, hlen, hget⟩ := World.cells?_some hc
        obtain ⟨X, A', c', rfl, hs⟩ := op_of ht
        refine ⟨X, fun _ => ⟨A', c', hs, fun j u hu => ?_⟩⟩
        have hj := (List.getElem?_eq_some_iff.1 hu).1
        simp only [List.length_cons, List.length_nil] at hj
        rw [hget j (by omega)]
        exact hu
      · exact ⟨op0, fun h => absurd h hi⟩
    obtain ⟨f, hf2⟩ := Classical.axiomOfChoice key
    refine ⟨some a, n, c, (List.range n).map f, rfl, by simp, hlc, fun hn => ?_⟩
    obtain ⟨A0, c0, _, k0⟩ := hf2 0 hn
    have hl := cell_lt (k0 0 _ rfl)
    rw [Nat.zero_mul, add_zero, add_zero] at hl
    obtain ⟨b, off, sp⟩ := a
    simp only at hl
    obtain ⟨hl1, rfl⟩ := hl
    refine ⟨b, off, rfl, hl1, fun i hi => ?_⟩
    obtain ⟨A', c', hs, k⟩ := hf2 i hi
    have e : oAt ((List.range n).map f) i = f i := by simp [oAt, List.getD, hi]
    rw [e]
    have kk : ∀ (j : Nat) (u : Value), ([.int .i64 (f i).kind, .string (f i).code, .string (f i).cl, .string (f i).rd, .string (f i).ver, .string (f i).g.user, .string (f i).g.client, .string (f i).g.tenant, .string (f i).g.session, .string (f i).g.redirect, .string (f i).g.nonce, .string (f i).g.challenge, .int .i64 (f i).g.method, .slice A' (f i).g.scopes.length c', .int .i64 (f i).g.auth, .int .i64 (f i).g.level, .int .i64 (f i).now] : List Value)[j]? = some u → w.cell? ⟨b, off + i * 17 + j, none⟩ = some u := fun j u hu => by
      have := k j u hu
      rwa [add_plain, add_plain] at this
    exact ⟨A', c', kk 0 _ rfl, kk 1 _ rfl, kk 2 _ rfl, kk 3 _ rfl, kk 4 _ rfl, kk 5 _ rfl, kk 6 _ rfl, kk 7 _ rfl, kk 8 _ rfl, kk 9 _ rfl, kk 10 _ rfl, kk 11 _ rfl, kk 12 _ rfl, kk 13 _ rfl, kk 14 _ rfl, kk 15 _ rfl, kk 16 _ rfl, hs⟩
set_option maxRecDepth 100000 in
/-- One operation that came in. -/
theorem open_op {b0 : Nat} {v : Value} {d : DataW H} {p : List MemPlace} (hv : Value.okWide Tryz.prog w .any b0 41 v) (h : DataW.Trod enc Tryz.prog w 0 (fun _ => true) true 41 v d p) :
    ∃ (X : Opc) (A : Option Addr) (c : Nat), v = .agg #[.int .i64 X.kind, .string X.code, .string X.cl, .string X.rd, .string X.ver, .string X.g.user, .string X.g.client, .string X.g.tenant, .string X.g.session, .string X.g.redirect, .string X.g.nonce, .string X.g.challenge, .int .i64 X.g.method, .slice A X.g.scopes.length c, .int .i64 X.g.auth, .int .i64 X.g.level, .int .i64 X.now] ∧ Ss w A X.g.scopes.length c X.g.scopes := by
  obtain ⟨cs, rfl, hsz⟩ := okWide_struct Tryz.underlying41 hv
  obtain ⟨fuel, hf⟩ := h
  obtain ⟨X, A, c, e, hs⟩ := op_of hf
  refine ⟨X, A, c, ?_, hs⟩
  have : cs.toList = _ := e
  rw [← Array.toArray_toList (xs := cs), this]
set_option maxRecDepth 100000 in
/-- One grant that came in. -/
theorem open_gr {b0 : Nat} {v : Value} {d : DataW H} {p : List MemPlace} (hv : Value.okWide Tryz.prog w .any b0 36 v) (h : DataW.Trod enc Tryz.prog w 0 (fun _ => true) true 36 v d p) :
    ∃ (X : Gr) (A : Option Addr) (c : Nat), v = .agg #[.string X.user, .string X.client, .string X.tenant, .string X.session, .string X.redirect, .string X.nonce, .string X.challenge, .int .i64 X.method, (.slice A X.scopes.length c), .int .i64 X.auth, .int .i64 X.level] ∧ Ss w A X.scopes.length c X.scopes := by
  obtain ⟨cs, rfl, hsz⟩ := okWide_struct Tryz.underlying36 hv
  obtain ⟨fuel, hf⟩ := h
  obtain ⟨X, A, c, e, hs⟩ := gr_of hf
  refine ⟨X, A, c, ?_, hs⟩
  have : cs.toList = _ := e
  rw [← Array.toArray_toList (xs := cs), this]
end
/-- The digits, as the row lists them. -/
theorem dg_of {w : World} {l : List (String × DataW Unit)} (h : laidMet Tryz.prog l w) (hm : ("identity/digest.digits", Rows.laid_identity_digest_digits) ∈ l) : DG w := by
  obtain ⟨g, t, cs, fuel, p, hg, ht, hvar, hd⟩ := Lib.laidMet.reads h hm
  obtain rfl := Option.some.inj ((show Tryz.prog.globalNamed "identity/digest.digits" = some 0 by kernel_rfl).symm.trans hg)
  obtain rfl := Option.some.inj ((show (Tryz.prog.globals[0]?).map (·.type) = some 110 by kernel_rfl).symm.trans ht)
  have hcs : cs.toList = ([48, 49, 50, 51, 52, 53, 54, 55, 56, 57, 97, 98, 99, 100, 101, 102] : List Int).map fun z => Value.int .u8 z := Lib.cells_of_tab (k := .u8) (zs := [48, 49, 50, 51, 52, 53, 54, 55, 56, 57, 97, 98, 99, 100, 101, 102]) Tryz.underlying110 Tryz.underlying5 (by kernel_rfl) (by kernel_rfl) hd
  intro j hj
  rw [World.var?_cell hg hvar j, ← Array.getElem?_toList, hcs]
  match j, hj with
  | 0, _ => rfl
  | 1, _ => rfl
  | 2, _ => rfl
  | 3, _ => rfl
  | 4, _ => rfl
  | 5, _ => rfl
  | 6, _ => rfl
  | 7, _ => rfl
  | 8, _ => rfl
  | 9, _ => rfl
  | 10, _ => rfl
  | 11, _ => rfl
  | 12, _ => rfl
  | 13, _ => rfl
  | 14, _ => rfl
  | 15, _ => rfl
  | j + 16, h => exact absurd h (by omega)

end Go.Proofs.YtioabjniipkncaaGreatDoor.Rc

namespace Go.Proofs.YtioabjniipkncaaGreatDoor
open Go.ChangeShapes Go.WideShapes Go.ChangeAt Go.RowKit

set_option maxRecDepth 100000 in
/-- The walk's step, for every argument and every world of the row. -/
theorem codeDoes_contract (H : Type) (enc : TypeId × Value → H) (W : World) (base : Nat) (args : Array Value) (ds gs : List (DataW H)) (before : List MemPlace)
    (hval : ∀ (j : Nat) t v, Tryz.f3.params[j]? = some t → args[j]? = some v → Value.okWide Tryz.prog W .any base t v)
    (hW : DataW.Whole enc Tryz.prog Tryz.f3.params.toList Rows.codeDoesSpec.vars false W args.toList ds gs before) (hL : laidMetH Tryz.prog Rows.codeDoesRow.laid W) (hsh : W.ShapedOpen Tryz.prog) :
    Calls Tryz.prog 3 args W fun e W' => ∃ v, e = .returned v ∧ Rows.codeDoesSpec.post enc Tryz.prog Tryz.f3 false true false false W args v W' := by
  have hW' := hW
  rw [MakeChecks.laidMetH_plain _ _ _ (by kernel_rfl)] at hL
  have hdg := Rc.dg_of hL (List.Mem.tail _ (List.Mem.head _))
  obtain ⟨p, q, hA0, hV, rfl, hfz, hnd⟩ := hW
  have hA : DataW.TrodAll enc Tryz.prog W 0 (fun _ => true) true Tryz.f3.params.toList args.toList ds p := hA0
  rw [Tryz.params3] at hA hval
  obtain ⟨v0, v1, d0, d1, p0, p1, rfl, rfl, rfl, h0, h1⟩ := Rc.trodAll_two' hA
  obtain ⟨rfl, rfl⟩ := trodVars_none hV
  obtain ⟨n0, rfl, rfl, rfl, w0⟩ := open_int Tryz.underlying3 (hval 0 3 v0 rfl rfl) h0
  obtain ⟨A1, n1, c1, l1, rfl, hs1⟩ := Rc.open_ops (hval 1 22 v1 rfl rfl) h1
  clear hA0 hval hA hL
  refine (Rc.does_any W n0 A1 _ c1 l1 hs1 (Rc.mx_of hsh) hdg).mono fun e W' ⟨he, hg⟩ => ?_
  subst he
  exact ⟨_, rfl, post_law (tb := 4) Rc.laid Tryz.underlying4 (by kernel_rfl) (fun t ht => Rc.readable t (by rw [Tryz.params3] at ht; simp at ht; first | (rcases ht with h | h | h | h | h | h <;> simp [h]; done) | (rcases ht with h | h | h | h | h <;> simp [h]; done) | (rcases ht with h | h | h | h <;> simp [h]; done) | (rcases ht with h | h | h <;> simp [h]; done) | (rcases ht with h | h <;> simp [h]; done) | (simp [ht]; done))) rfl hW' rfl rfl rfl hg⟩

set_option maxRecDepth 100000 in
theorem codeDoes_lifted (os : Os) (started : os.Started) (H : Type) (enc : TypeId × Value → H) (F : Stop.Interp) :
    ReturnsInHanded {} Tryz.checked os 3 .any ((OpenSpec.ofChange Rows.codeDoesSpec).preRow enc Tryz.prog Tryz.f3 Rows.codeDoesRow.domain false Rows.codeDoesRow.laid) (((OpenSpec.ofChange Rows.codeDoesSpec).at F).post enc Tryz.prog Tryz.f3 false true false false) := by
  have hx : ∃ places, DataW.whole enc Tryz.prog ((World.laidAll Tryz.prog os Rows.codeDoesRow.laid).forCall (fun _ _ => 0) ⟨#[], #[.int .i64 0, .slice none 0 0], []⟩).memory Tryz.f3.params.toList Rows.codeDoesSpec.vars false #[.int .i64 0, .slice none 0 0].toList 8 = some ([.lit (.int .i64 0), .nil], [], places) := ⟨[], by kernel_rfl⟩
  obtain ⟨places, hx⟩ := hx
  refine returnsInHanded_of_row (C := Tryz.checked) (s := OpenSpec.ofChange Rows.codeDoesSpec) Rc.own started (by kernel_rfl) Tryz.func3
    (witness_row_at (enc := enc) (C := Tryz.checked) false (World.laidAll Tryz.prog os Rows.codeDoesRow.laid) #[.int .i64 0, .slice none 0 0] (World.laidAll_os _ _ _) (by kernel_rfl) (by kernel_rfl) (by kernel_rfl)
      (OpenSpec.preRow_of_cond 8 hx (by kernel_rfl) (fun k hk => by cases hk) (by kernel_rfl) (by rw [MakeChecks.laidMetH_plain _ _ _ (by kernel_rfl)]; exact laidMet_laidAll _ (by kernel_rfl) (by kernel_rfl)))) ?_
  intro W base args ds gs before hval hW _ _ _ hL hsh _
  exact codeDoes_contract H enc W base args ds gs before hval hW hL hsh

/-- The law's row. -/
theorem codeDoes_said : Rows.CodeDoesSaid :=
  OpenClaim.holds_of_cond 3 Tryz.f3 rfl rfl rfl rfl rfl rfl rfl ⟨rfl, rfl, rfl, rfl, rfl⟩ rfl rfl rfl rfl rfl (by kernel_rfl) Tryz.func3 (by kernel_rfl)
    (of_decide_eq_true (by kernel_rfl)) (by unfold Func.isWrapper; first | (rw [if_pos (by decide +kernel)]; kernel_rfl) | (rw [if_neg (by decide +kernel)]; exact ⟨rfl, rfl⟩))
    (fun os started H enc _ F => by rw [OpenClaim.pre_eq_preRow]; exact codeDoes_lifted os started H enc F)
theorem codeDoes_plain (f : FuncId) (fn : Func) (hf : Tryz.pinned.checked.prog.funcNamed Rows.codeDoesRow.func = some f) (hfn : Tryz.pinned.checked.prog.funcs[f]? = some fn) :
    false = Tryz.pinned.checked.prog.looks [] ∧ ∀ (j : Nat) t, fn.params[j]? = some t → Tryz.pinned.checked.prog.wantsStandIn t = false := by
  obtain rfl : f = 3 := Option.some.inj ((show Tryz.prog.funcNamed Rows.codeDoesRow.func = some 3 by kernel_rfl).symm.trans hf) |>.symm
  obtain rfl : fn = Tryz.f3 := (Option.some.inj (Tryz.func3.symm.trans hfn)).symm
  refine ⟨by kernel_rfl, fun j t ht => ?_⟩
  rw [Tryz.params3] at ht
  have ht := Array.mem_of_getElem? ht
  exact Rc.noStand t (by simp at ht; first | (rcases ht with h | h | h | h | h | h <;> simp [h]; done) | (rcases ht with h | h | h | h | h <;> simp [h]; done) | (rcases ht with h | h | h | h <;> simp [h]; done) | (rcases ht with h | h | h <;> simp [h]; done) | (rcases ht with h | h <;> simp [h]; done) | (simp [ht]; done))
/-- The card. -/
theorem codeDoes_holds : Rows.CodeDoesCardSaid :=
  Claim7.holds_tied_plain_at .later [] _ _ _ _ codeDoes_said (fun _ h => by cases h) (by kernel_rfl) (fun _ h => by cases h) codeDoes_row_tie rfl ⟨rfl, rfl⟩ (by kernel_rfl) rfl codeDoes_plain (by kernel_rfl)
#print axioms codeDoes_holds
end Go.Proofs.YtioabjniipkncaaGreatDoor
