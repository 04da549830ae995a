/-
  CodeDoes holds: for every life and operations the law returns true. No condition.
-/
import Derived.Test.YtioabjniipkncaaGreatDoorRcSb
import Derived.Test.YtioabjniipkncaaGreatDoorLawRow
import Derived.Test.YtioabjniipkncaaGreatDoorRows
import Derived.Test.YtioabjniipkncaaGreatDoorCards
import Derived.Test.YtioabjniipkncaaGreatDoorTie
import Derived.Deep.DeepHandedRow
import Derived.LaidMore
import Derived.Lay
import Derived.SevenTiedAt
import Derived.Shelf.LaysM
import Derived.ChangeMaps5
import Derived.SliceStrings
import Derived.Lib.SmallJoins
import Derived.Lib.LaidU8
import Derived.Deep.Slices
import Derived.Deep.Strs
import Derived.Test.YtioabjniipkncaaGreatDoorQcL3
import Derived.Test.YtioabjniipkncaaGreatDoorRcLv
import Derived.Deep.MidRow
namespace Go.Proofs.YtioabjniipkncaaGreatDoor.Rc
open Go.ChangeShapes Go.WideShapes Go.ChangeAt Go.RowKit Go.Proofs.YtioabjniipkncaaGreatDoor.Fo Go.Proofs.YtioabjniipkncaaGreatDoor.Rf

theorem laid : laidOutB Tryz.prog = true := by kernel_rfl
theorem own : ownKnob Tryz.prog.godebug = none := by kernel_rfl
theorem readable (t : TypeId) (h : t = 3 ∨ t = 22 ∨ t = 41 ∨ t = 9 ∨ t = 36 ∨ t = 4) : Tryz.prog.readableRec t = true ∧ t < Tryz.prog.types.size := by
  rcases h with rfl | rfl | rfl | rfl | rfl | rfl
  · exact ⟨by kernel_rfl, of_decide_eq_true (by kernel_rfl)⟩
  · exact ⟨by kernel_rfl, of_decide_eq_true (by kernel_rfl)⟩
  · exact ⟨by kernel_rfl, of_decide_eq_true (by kernel_rfl)⟩
  · exact ⟨by kernel_rfl, of_decide_eq_true (by kernel_rfl)⟩
  · exact ⟨by kernel_rfl, of_decide_eq_true (by kernel_rfl)⟩
  · exact ⟨by kernel_rfl, of_decide_eq_true (by kernel_rfl)⟩
theorem noStand (t : TypeId) (h : t = 3 ∨ t = 22 ∨ t = 41 ∨ t = 9 ∨ t = 36 ∨ t = 4) : Tryz.pinned.checked.prog.wantsStandIn t = false := by
  rcases h with rfl | rfl | rfl | rfl | rfl | rfl
  · exact (show Tryz.prog.wantsStandIn 3 = false by kernel_rfl)
  · exact (show Tryz.prog.wantsStandIn 22 = false by kernel_rfl)
  · exact (show Tryz.prog.wantsStandIn 41 = false by kernel_rfl)
  · exact (show Tryz.prog.wantsStandIn 9 = false by kernel_rfl)
  · exact (show Tryz.prog.wantsStandIn 36 = false by kernel_rfl)
  · exact (show Tryz.prog.wantsStandIn 4 = false by kernel_rfl)
theorem mx_of {w : World} (h : w.ShapedOpen Tryz.prog) : MX w :=
  Go.Proofs.cell_of_shapedOpen_int (zero := #[.int .i64 0]) (t := 3) h (of_decide_eq_true (by kernel_rfl)) (by kernel_rfl) rfl (by kernel_rfl) (by kernel_rfl) Tryz.underlying3
theorem cell_lt {w : World} {a : Addr} {u : Value} (h : w.cell? a = some u) : a.block < w.heap.size ∧ a.spot = none := by
  unfold World.cell? at h
  cases hb : w.heap[a.block]? with
  | none => simp [hb] at h
  | some o =>
    refine ⟨(Array.getElem?_eq_some_iff.1 hb).1, ?_⟩
    rw [hb] at h
    by_cases hs : a.spot.isSome
    · cases o <;> simp [hs] at h
    · simpa using hs
theorem add_plain (b off j : Nat) : (⟨b, off, none⟩ : Addr).add j = ⟨b, off + j, none⟩ := by unfold Addr.add; split <;> simp_all
theorem add_zero (a : Addr) : a.add 0 = a := by unfold Addr.add; simp
section
variable {H : Type} {enc : TypeId × Value → H} {w : World}
theorem trodAll_two' {P : Program} {base : Nat} {spare : Nat → Bool} {held : Bool} {t0 t1 : TypeId} {args : Array Value} {ds : List (DataW H)} {ps : List MemPlace} (h : DataW.TrodAll enc P w base spare held [t0, t1] args.toList ds ps) :
    ∃ v0 v1 d0 d1 p0 p1, args = #[v0, v1] ∧ ds = [d0, d1] ∧ ps = p0 ++ p1 ∧ DataW.Trod enc P w base spare held t0 v0 d0 p0 ∧ DataW.Trod enc P w base spare held t1 v1 d1 p1 := by
  obtain ⟨v0, s0, d0, e0, p0, q0, hargs, rfl, rfl, h0, r0⟩ := trodAll_cons h
  obtain ⟨v1, s1, d1, e1, p1, q1, rfl, rfl, rfl, h1, r1⟩ := trodAll_cons r0
  obtain ⟨rfl, rfl, rfl⟩ := trodAll_nil r1
  exact ⟨v0, v1, d0, d1, p0, p1, by cases args; simp_all, rfl, by simp, h0, h1⟩
theorem trodAll_five' {P : Program} {base : Nat} {spare : Nat → Bool} {held : Bool} {t0 t1 t2 t3 t4 : TypeId} {args : Array Value} {ds : List (DataW H)} {ps : List MemPlace} (h : DataW.TrodAll enc P w base spare held [t0, t1, t2, t3, t4] args.toList ds ps) :
    ∃ v0 v1 v2 v3 v4 d0 d1 d2 d3 d4 p0 p1 p2 p3 p4, args = #[v0, v1, v2, v3, v4] ∧ ds = [d0, d1, d2, d3, d4] ∧ ps = p0 ++ p1 ++ p2 ++ p3 ++ p4 ∧ DataW.Trod enc P w base spare held t0 v0 d0 p0 ∧ DataW.Trod enc P w base spare held t1 v1 d1 p1 ∧ DataW.Trod enc P w base spare held t2 v2 d2 p2 ∧ DataW.Trod enc P w base spare held t3 v3 d3 p3 ∧ DataW.Trod enc P w base spare held t4 v4 d4 p4 := by
  obtain ⟨v0, s0, d0, e0, p0, q0, hargs, rfl, rfl, h0, r0⟩ := trodAll_cons h
  obtain ⟨v1, s1, d1, e1, p1, q1, rfl, rfl, rfl, h1, r1⟩ := trodAll_cons r0
  obtain ⟨v2, s2, d2, e2, p2, q2, rfl, rfl, rfl, h2, r2⟩ := trodAll_cons r1
  obtain ⟨v3, s3, d3, e3, p3, q3, rfl, rfl, rfl, h3, r3⟩ := trodAll_cons r2
  obtain ⟨v4, s4, d4, e4, p4, q4, rfl, rfl, rfl, h4, r4⟩ := trodAll_cons r3
  obtain ⟨rfl, rfl, rfl⟩ := trodAll_nil r4
  exact ⟨v0, v1, v2, v3, v4, d0, d1, d2, d3, d4, p0, p1, p2, p3, p4, by cases args; simp_all, rfl, by simp, h0, h1, h2, h3, h4⟩
theorem trodAll_six' {P : Program} {base : Nat} {spare : Nat → Bool} {held : Bool} {t0 t1 t2 t3 t4 t5 : TypeId} {args : Array Value} {ds : List (DataW H)} {ps : List MemPlace} (h : DataW.TrodAll enc P w base spare held [t0, t1, t2, t3, t4, t5] args.toList ds ps) :
    ∃ v0 v1 v2 v3 v4 v5 d0 d1 d2 d3 d4 d5 p0 p1 p2 p3 p4 p5, args = #[v0, v1, v2, v3, v4, v5] ∧ ds = [d0, d1, d2, d3, d4, d5] ∧ ps = p0 ++ p1 ++ p2 ++ p3 ++ p4 ++ p5 ∧ DataW.Trod enc P w base spare held t0 v0 d0 p0 ∧ DataW.Trod enc P w base spare held t1 v1 d1 p1 ∧ DataW.Trod enc P w base spare held t2 v2 d2 p2 ∧ DataW.Trod enc P w base spare held t3 v3 d3 p3 ∧ DataW.Trod enc P w base spare held t4 v4 d4 p4 ∧ DataW.Trod enc P w base spare held t5 v5 d5 p5 := by
  obtain ⟨v0, s0, d0, e0, p0, q0, hargs, rfl, rfl, h0, r0⟩ := trodAll_cons h
  obtain ⟨v1, s1, d1, e1, p1, q1, rfl, rfl, rfl, h1, r1⟩ := trodAll_cons r0
  obtain ⟨v2, s2, d2, e2, p2, q2, rfl, rfl, rfl, h2, r2⟩ := trodAll_cons r1
  obtain ⟨v3, s3, d3, e3, p3, q3, rfl, rfl, rfl, h3, r3⟩ := trodAll_cons r2
  obtain ⟨v4, s4, d4, e4, p4, q4, rfl, rfl, rfl, h4, r4⟩ := trodAll_cons r3
  obtain ⟨v5, s5, d5, e5, p5, q5, rfl, rfl, rfl, h5, r5⟩ := trodAll_cons r4
  obtain ⟨rfl, rfl, rfl⟩ := trodAll_nil r5
  exact ⟨v0, v1, v2, v3, v4, v5, d0, d1, d2, d3, d4, d5, p0, p1, p2, p3, p4, p5, by cases args; simp_all, rfl, by simp, h0, h1, h2, h3, h4, h5⟩

theorem ss_of {fuel : Nat} {v : Value} {x : DataW H × List MemPlace} (hf : DataW.trod enc Tryz.prog w 0 (fun _ => true) true fuel 34 [v] = some x) : ∃ (A : Option Addr) (l : List Bs) (c : Nat), v = .slice A l.length c ∧ Ss w A l.length c l := by
  rcases open_strings Tryz.underlying34 Tryz.underlying9 (by kernel_rfl) hf with ⟨hcs, _⟩ | ⟨a, n, c, zs, hcs, _, hlc, hcm, hlen, _, hc, _⟩
  · injection hcs with hcs
    exact ⟨none, [], 0, hcs, Ss.nil _ _ _⟩
  · injection hcs with hcs
    simp only [if_true] at hlen
    have e : (zs.take n).length = n := by rw [List.length_take, hlen]; omega
    refine ⟨some a, zs.take n, c, by rw [hcs, e], ?_⟩
    rw [e]
    refine ⟨e, hlc, fun hn => ?_⟩
    have h00 := hc 0 (by omega)
    have hl := cell_lt h00
    rw [add_zero] at hl
    obtain ⟨b, off, sp⟩ := a
    simp only at hl
    obtain ⟨hl1, rfl⟩ := hl
    refine ⟨b, off, rfl, hl1, fun i hi => ?_⟩
    have := hc i (by omega)
    rw [add_plain] at this
    rw [this]
    congr 2
    simp [sAt, List.getD, hi]
    rfl
theorem list11 {α : Type} {l : List α} (h : l.length = 11) : ∃ a0 a1 a2 a3 a4 a5 a6 a7 a8 a9 a10, l = [a0, a1, a2, a3, a4, a5, a6, a7, a8, a9, a10] := by
  match l, h with
  | [a0, a1, a2, a3, a4, a5, a6, a7, a8, a9, a10], _ => exact ⟨a0, a1, a2, a3, a4, a5, a6, a7, a8, a9, a10, rfl⟩
theorem list17 {α : Type} {l : List α} (h : l.length = 17) : ∃ a0 a1 a2 a3 a4 a5 a6 a7 a8 a9 a10 a11 a12 a13 a14 a15 a16, l = [a0, a1, a2, a3, a4, a5, a6, a7, a8, a9, a10, a11, a12, a13, a14, a15, a16] := by
  match l, h with
  | [a0, a1, a2, a3, a4, a5, a6, a7, a8, a9, a10, a11, a12, a13, a14, a15, a16], _ => exact ⟨a0, a1, a2, a3, a4, a5, a6, a7, a8, a9, a10, a11, a12, a13, a14, a15, a16, rfl⟩
theorem trod_struct11 {P : Program} {base : Nat} {spare : Nat → Bool} {held : Bool} {t : TypeId} {f0 f1 f2 f3 f4 f5 f6 f7 f8 f9 f10 : Field} {fuel : Nat} {cs : List Value} {x : DataW H × List MemPlace} (ht : P.underlying t = some (.struct #[f0, f1, f2, f3, f4, f5, f6, f7, f8, f9, f10])) (h : DataW.trod enc P w base spare held fuel t cs = some x) :
    ∃ y0 y1 y2 y3 y4 y5 y6 y7 y8 y9 y10 n, cs.length = P.cellsOf t ∧ DataW.trod enc P w base spare held n f0.type ((cs.drop f0.offset).take (P.cellsOf f0.type)) = some y0 ∧ DataW.trod enc P w base spare held n f1.type ((cs.drop f1.offset).take (P.cellsOf f1.type)) = some y1 ∧ DataW.trod enc P w base spare held n f2.type ((cs.drop f2.offset).take (P.cellsOf f2.type)) = some y2 ∧ DataW.trod enc P w base spare held n f3.type ((cs.drop f3.offset).take (P.cellsOf f3.type)) = some y3 ∧ DataW.trod enc P w base spare held n f4.type ((cs.drop f4.offset).take (P.cellsOf f4.type)) = some y4 ∧ DataW.trod enc P w base spare held n f5.type ((cs.drop f5.offset).take (P.cellsOf f5.type)) = some y5 ∧ DataW.trod enc P w base spare held n f6.type ((cs.drop f6.offset).take (P.cellsOf f6.type)) = some y6 ∧ DataW.trod enc P w base spare held n f7.type ((cs.drop f7.offset).take (P.cellsOf f7.type)) = some y7 ∧ DataW.trod enc P w base spare held n f8.type ((cs.drop f8.offset).take (P.cellsOf f8.type)) = some y8 ∧ DataW.trod enc P w base spare held n f9.type ((cs.drop f9.offset).take (P.cellsOf f9.type)) = some y9 ∧ DataW.trod enc P w base spare held n f10.type ((cs.drop f10.offset).take (P.cellsOf f10.type)) = some y10 := by
  obtain ⟨xs, n, _, rfl, hl, hlen, hf⟩ := DataW.trod_struct ht h
  match xs, hlen with
  | [y0, y1, y2, y3, y4, y5, y6, y7, y8, y9, y10], _ => exact ⟨y0, y1, y2, y3, y4, y5, y6, y7, y8, y9, y10, n, hl, by simpa using hf 0 f0 rfl, by simpa using hf 1 f1 rfl, by simpa using hf 2 f2 rfl, by simpa using hf 3 f3 rfl, by simpa using hf 4 f4 rfl, by simpa using hf 5 f5 rfl, by simpa using hf 6 f6 rfl, by simpa using hf 7 f7 rfl, by simpa using hf 8 f8 rfl, by simpa using hf 9 f9 rfl, by simpa using hf 10 f10 rfl⟩
theorem trod_struct7 {P : Program} {base : Nat} {spare : Nat → Bool} {held : Bool} {t : TypeId} {f0 f1 f2 f3 f4 f5 f6 : Field} {fuel : Nat} {cs : List Value} {x : DataW H × List MemPlace} (ht : P.underlying t = some (.struct #[f0, f1, f2, f3, f4, f5, f6])) (h : DataW.trod enc P w base spare held fuel t cs = some x) :
    ∃ y0 y1 y2 y3 y4 y5 y6 n, cs.length = P.cellsOf t ∧ DataW.trod enc P w base spare held n f0.type ((cs.drop f0.offset).take (P.cellsOf f0.type)) = some y0 ∧ DataW.trod enc P w base spare held n f1.type ((cs.drop f1.offset).take (P.cellsOf f1.type)) = some y1 ∧ DataW.trod enc P w base spare held n f2.type ((cs.drop f2.offset).take (P.cellsOf f2.type)) = some y2 ∧ DataW.trod enc P w base spare held n f3.type ((cs.drop f3.offset).take (P.cellsOf f3.type)) = some y3 ∧ DataW.trod enc P w base spare held n f4.type ((cs.drop f4.offset).take (P.cellsOf f4.type)) = some y4 ∧ DataW.trod enc P w base spare held n f5.type ((cs.drop f5.offset).take (P.cellsOf f5.type)) = some y5 ∧ DataW.trod enc P w base spare held n f6.type ((cs.drop f6.offset).take (P.cellsOf f6.type)) = some y6 := by
  obtain ⟨xs, n, _, rfl, hl, hlen, hf⟩ := DataW.trod_struct ht h
  match xs, hlen with
  | [y0, y1, y2, y3, y4, y5, y6], _ => exact ⟨y0, y1, y2, y3, y4, y5, y6, n, hl, by simpa using hf 0 f0 rfl, by simpa using hf 1 f1 rfl, by simpa using hf 2 f2 rfl, by simpa using hf 3 f3 rfl, by simpa using hf 4 f4 rfl, by simpa using hf 5 f5 rfl, by simpa using hf 6 f6 rfl⟩

set_option maxRecDepth 100000 in
/-- The eleven cells of a grant that reads. -/
theorem gr_of {fuel : Nat} {cs : List Value} {x : DataW H × List MemPlace} (hf : DataW.trod enc Tryz.prog w 0 (fun _ => true) true fuel 36 cs = some x) :
    ∃ (X : Gr) (A : Option Addr) (c : Nat), cs = [.string X.user, .string X.client, .string X.tenant, .string X.session, .string X.redirect, .string X.nonce, .string X.challenge, .int .i64 X.method, (.slice A X.scopes.length c), .int .i64 X.auth, .int .i64 X.level] ∧ Ss w A X.scopes.length c X.scopes := by
  obtain ⟨b0, b1, b2, b3, b4, b5, b6, b7, b8, b9, b10, n, hl, e0, e1, e2, e3, e4, e5, e6, e7, e8, e9, e10⟩ := trod_struct11 Tryz.underlying36 hf
  have hC : Tryz.prog.cellsOf 36 = 11 := by kernel_rfl
  rw [hC] at hl
  obtain ⟨a0, a1, a2, a3, a4, a5, a6, a7, a8, a9, a10, rfl⟩ := list11 hl
  have c3 : Tryz.prog.cellsOf 3 = 1 := by kernel_rfl
  have c4 : Tryz.prog.cellsOf 33 = 1 := by kernel_rfl
  have c9 : Tryz.prog.cellsOf 9 = 1 := by kernel_rfl
  have c33 : Tryz.prog.cellsOf 34 = 1 := by kernel_rfl
  simp only [c3, c4, c9, c33, List.drop_zero, List.drop_succ_cons, List.take_succ_cons, List.take_zero] at e0 e1 e2 e3 e4 e5 e6 e7 e8 e9 e10
  obtain ⟨x0, k0, _, _⟩ := DataW.trod_string Tryz.underlying9 e0
  obtain ⟨x1, k1, _, _⟩ := DataW.trod_string Tryz.underlying9 e1
  obtain ⟨x2, k2, _, _⟩ := DataW.trod_string Tryz.underlying9 e2
  obtain ⟨x3, k3, _, _⟩ := DataW.trod_string Tryz.underlying9 e3
  obtain ⟨x4, k4, _, _⟩ := DataW.trod_string Tryz.underlying9 e4
  obtain ⟨x5, k5, _, _⟩ := DataW.trod_string Tryz.underlying9 e5
  obtain ⟨x6, k6, _, _⟩ := DataW.trod_string Tryz.underlying9 e6
  obtain ⟨x7, k7, _, _⟩ := DataW.trod_int Tryz.underlying33 e7
  obtain ⟨A, l, c, k8, hs⟩ := ss_of e8
  obtain ⟨x9, k9, _, _⟩ := DataW.trod_int Tryz.underlying3 e9
  obtain ⟨x10, k10, _, _⟩ := DataW.trod_int Tryz.underlying3 e10
  injection k0 with k0
  injection k1 with k1
  injection k2 with k2
  injection k3 with k3
  injection k4 with k4
  injection k5 with k5
  injection k6 with k6
  injection k7 with k7
  injection k9 with k9
  injection k10 with k10
  exact ⟨⟨x0, x1, x2, x3, x4, x5, x6, x7, l, x9, x10⟩, A, c, by rw [k0, k1, k2, k3, k4, k5, k6, k7, k8, k9, k10], hs⟩
theorem gr_size {fuel : Nat} {cs : List Value} {x : DataW H × List MemPlace} (hf : DataW.trod enc Tryz.prog w 0 (fun _ => true) true fuel 36 cs = some x) : cs.length = 11 := by
  obtain ⟨X, A, c, rfl, _⟩ := gr_of hf
  rfl
set_option maxRecDepth 100000 in
/-- The cells of an operation that reads. -/
theorem op_of {fuel : Nat} {cs : List Value} {x : DataW H × List MemPlace} (hf : DataW.trod enc Tryz.prog w 0 (fun _ => true) true fuel 41 cs = some x) :
    ∃ (X : Opc) (A : Option Addr) (c : Nat), cs = [.int .i64 X.kind, .string X.code, .string X.cl, .string X.rd, .string X.ver, .string X.g.user, .string X.g.client, .string X.g.tenant, .string X.g.session, .string X.g.redirect, .string X.g.nonce, .string X.g.challenge, .int .i64 X.g.method, .slice A X.g.scopes.length c, .int .i64 X.g.auth, .int .i64 X.g.level, .int .i64 X.now] ∧ Ss w A X.g.scopes.length c X.g.scopes := by
  obtain ⟨b0, b1, b2, b3, b4, b5, b6, n, hl, e0, e1, e2, e3, e4, e5, e6⟩ := trod_struct7 Tryz.underlying41 hf
  have hC : Tryz.prog.cellsOf 41 = 17 := by kernel_rfl
  rw [hC] at hl
  obtain ⟨a0, a1, a2, a3, a4, a5, a6, a7, a8, a9, a10, a11, a12, a13, a14, a15, a16, rfl⟩ := list17 hl
  have c3 : Tryz.prog.cellsOf 3 = 1 := by kernel_rfl
  have c4 : Tryz.prog.cellsOf 36 = 11 := by kernel_rfl
  have c9 : Tryz.prog.cellsOf 9 = 1 := by kernel_rfl
  simp only [c3, c4, c9, List.drop_zero, List.drop_succ_cons, List.take_succ_cons, List.take_zero] at e0 e1 e2 e3 e4 e5 e6
  obtain ⟨x0, k0, _, _⟩ := DataW.trod_int Tryz.underlying3 e0
  obtain ⟨x1, k1, _, _⟩ := DataW.trod_string Tryz.underlying9 e1
  obtain ⟨x2, k2, _, _⟩ := DataW.trod_string Tryz.underlying9 e2
  obtain ⟨x3, k3, _, _⟩ := DataW.trod_string Tryz.underlying9 e3
  obtain ⟨x4, k4, _, _⟩ := DataW.trod_string Tryz.underlying9 e4
  obtain ⟨X, A, c, k5, hs⟩ := gr_of e5
  obtain ⟨x6, k6, _, _⟩ := DataW.trod_int Tryz.underlying3 e6
  injection k0 with k0
  injection k1 with k1
  injection k2 with k2
  injection k3 with k3
  injection k4 with k4
  injection k6 with k6
  simp only [List.cons.injEq, and_true] at k5
  obtain ⟨g0, g1, g2, g3, g4, g5, g6, g7, g8, g9, g10⟩ := k5
  exact ⟨⟨x0, x1, x2, x3, x4, X, x6⟩, A, c, by rw [k0, k1, k2, k3, k4, g0, g1, g2, g3, g4, g5, g6, g7, g8, g9, g10, k6], hs⟩
set_option maxRecDepth 100000 in
theorem open_ops {b0 : Nat} {v : Value} {d : DataW H} {p : List MemPlace} (hv : Value.okWide Tryz.prog w .any b0 22 v) (h : DataW.Trod enc Tryz.prog w 0 (fun _ => true) true 22 v d p) :
    ∃ (A : Option Addr) (n c : Nat) (l : List Opc), v = .slice A n c ∧ Os w A n c l := by
  obtain ⟨A, n, c, rfl⟩ := okWide_slice Tryz.underlying22 hv
  obtain ⟨fuel, hf⟩ := h
  rcases Deep.open_slice Tryz.underlying22 hf with ⟨hcs, _⟩ | ⟨a, len, cap, m, n', D, Pl, hcs, _, hlc, hcm, hm, _, hel⟩
  · simp [Value.cells] at hcs
    obtain ⟨rfl, rfl, rfl⟩ := hcs
    exact ⟨none, 0, 0, [], rfl, rfl, Nat.le_refl _, fun h => absurd h (by omega)⟩
  · simp [Value.cells] at hcs
    obtain ⟨rfl, rfl, rfl⟩ := hcs
    simp only [if_true] at hm
    have hC : Tryz.prog.cellsOf 41 = 17 := by kernel_rfl
    have key : ∀ i, ∃ X : Opc, i < n → ∃ A' c', Ss w A' X.g.scopes.length c' X.g.scopes ∧ ∀ (j : Nat) (u : Value), ([.int .i64 X.kind, .string X.code, .string X.cl, .string X.rd, .string X.ver, .string X.g.user, .string X.g.client, .string X.g.tenant, .string X.g.session, .string X.g.redirect, .string X.g.nonce, .string X.g.challenge, .int .i64 X.g.method, .slice A' X.g.scopes.length c', .int .i64 X.g.auth, .int .i64 X.g.level, .int .i64 X.now] : List Value)[j]? = some u → w.cell? ((a.add (i * 17)).add j) = some u := by
      intro i
      by_cases hi : i < n
      · obtain ⟨cs', hc, ht⟩ := hel i (by omega)
        rw [hC] at hc
        obtain ⟨_, hlen, hget⟩ := World.cells?_some hc
        obtain ⟨X, A', c', rfl, hs⟩ := op_of ht
        refine ⟨X, fun _ => ⟨A', c', hs, fun j u hu => ?_⟩⟩
        have hj := (List.getElem?_eq_some_iff.1 hu).1
        simp only [List.length_cons, List.length_nil] at hj
        rw [hget j (by omega)]
        exact hu
      · exact ⟨op0, fun h => absurd h hi⟩
    obtain ⟨f, hf2⟩ := Classical.axiomOfChoice key
    refine ⟨some a, n, c, (List.range n).map f, rfl, by simp, hlc, fun hn => ?_⟩
    obtain ⟨A0, c0, _, k0⟩ := hf2 0 hn
    have hl := cell_lt (k0 0 _ rfl)
    rw [Nat.zero_mul, add_zero, add_zero] at hl
    obtain ⟨b, off, sp⟩ := a
    simp only at hl
    obtain ⟨hl1, rfl⟩ := hl
    refine ⟨b, off, rfl, hl1, fun i hi => ?_⟩
    obtain ⟨A', c', hs, k⟩ := hf2 i hi
    have e : oAt ((List.range n).map f) i = f i := by simp [oAt, List.getD, hi]
    rw [e]
    have kk : ∀ (j : Nat) (u : Value), ([.int .i64 (f i).kind, .string (f i).code, .string (f i).cl, .string (f i).rd, .string (f i).ver, .string (f i).g.user, .string (f i).g.client, .string (f i).g.tenant, .string (f i).g.session, .string (f i).g.redirect, .string (f i).g.nonce, .string (f i).g.challenge, .int .i64 (f i).g.method, .slice A' (f i).g.scopes.length c', .int .i64 (f i).g.auth, .int .i64 (f i).g.level, .int .i64 (f i).now] : List Value)[j]? = some u → w.cell? ⟨b, off + i * 17 + j, none⟩ = some u := fun j u hu => by
      have := k j u hu
      rwa [add_plain, add_plain] at this
    exact ⟨A', c', kk 0 _ rfl, kk 1 _ rfl, kk 2 _ rfl, kk 3 _ rfl, kk 4 _ rfl, kk 5 _ rfl, kk 6 _ rfl, kk 7 _ rfl, kk 8 _ rfl, kk 9 _ rfl, kk 10 _ rfl, kk 11 _ rfl, kk 12 _ rfl, kk 13 _ rfl, kk 14 _ rfl, kk 15 _ rfl, kk 16 _ rfl, hs⟩
set_option maxRecDepth 100000 in
/-- One operation that came in. -/
theorem open_op {b0 : Nat} {v : Value} {d : DataW H} {p : List MemPlace} (hv : Value.okWide Tryz.prog w .any b0 41 v) (h : DataW.Trod enc Tryz.prog w 0 (fun _ => true) true 41 v d p) :
    ∃ (X : Opc) (A : Option Addr) (c : Nat), v = .agg #[.int .i64 X.kind, .string X.code, .string X.cl, .string X.rd, .string X.ver, .string X.g.user, .string X.g.client, .string X.g.tenant, .string X.g.session, .string X.g.redirect, .string X.g.nonce, .string X.g.challenge, .int .i64 X.g.method, .slice A X.g.scopes.length c, .int .i64 X.g.auth, .int .i64 X.g.level, .int .i64 X.now] ∧ Ss w A X.g.scopes.length c X.g.scopes := by
  obtain ⟨cs, rfl, hsz⟩ := okWide_struct Tryz.underlying41 hv
  obtain ⟨fuel, hf⟩ := h
  obtain ⟨X, A, c, e, hs⟩ := op_of hf
  refine ⟨X, A, c, ?_, hs⟩
  have : cs.toList = _ := e
  rw [← Array.toArray_toList (xs := cs), this]
set_option maxRecDepth 100000 in
/-- One grant that came in. -/
theorem open_gr {b0 : Nat} {v : Value} {d : DataW H} {p : List MemPlace} (hv : Value.okWide Tryz.prog w .any b0 36 v) (h : DataW.Trod enc Tryz.prog w 0 (fun _ => true) true 36 v d p) :
    ∃ (X : Gr) (A : Option Addr) (c : Nat), v = .agg #[.string X.user, .string X.client, .string X.tenant, .string X.session, .string X.redirect, .string X.nonce, .string X.challenge, .int .i64 X.method, (.slice A X.scopes.length c), .int .i64 X.auth, .int .i64 X.level] ∧ Ss w A X.scopes.length c X.scopes := by
  obtain ⟨cs, rfl, hsz⟩ := okWide_struct Tryz.underlying36 hv
  obtain ⟨fuel, hf⟩ := h
  obtain ⟨X, A, c, e, hs⟩ := gr_of hf
  refine ⟨X, A, c, ?_, hs⟩
  have : cs.toList = _ := e
  rw [← Array.toArray_toList (xs := cs), this]
end
/-- The digits, as the row lists them. -/
theorem dg_of {w : World} {l : List (String × DataW Unit)} (h : laidMet Tryz.prog l w) (hm : ("identity/digest.digits", Rows.laid_identity_digest_digits) ∈ l) : DG w := by
  obtain ⟨g, t, cs, fuel, p, hg, ht, hvar, hd⟩ := Lib.laidMet.reads h hm
  obtain rfl := Option.some.inj ((show Tryz.prog.globalNamed "identity/digest.digits" = some 0 by kernel_rfl).symm.trans hg)
  obtain rfl := Option.some.inj ((show (Tryz.prog.globals[0]?).map (·.type) = some 110 by kernel_rfl).symm.trans ht)
  have hcs : cs.toList = ([48, 49, 50, 51, 52, 53, 54, 55, 56, 57, 97, 98, 99, 100, 101, 102] : List Int).map fun z => Value.int .u8 z := Lib.cells_of_tab (k := .u8) (zs := [48, 49, 50, 51, 52, 53, 54, 55, 56, 57, 97, 98, 99, 100, 101, 102]) Tryz.underlying110 Tryz.underlying5 (by kernel_rfl) (by kernel_rfl) hd
  intro j hj
  rw [World.var?_cell hg hvar j, ← Array.getElem?_toList, hcs]
  match j, hj with
  | 0, _ => rfl
  | 1, _ => rfl
  | 2, _ => rfl
  | 3, _ => rfl
  | 4, _ => rfl
  | 5, _ => rfl
  | 6, _ => rfl
  | 7, _ => rfl
  | 8, _ => rfl
  | 9, _ => rfl
  | 10, _ => rfl
  | 11, _ => rfl
  | 12, _ => rfl
  | 13, _ => rfl
  | 14, _ => rfl
  | 15, _ => rfl
  | j + 16, h => exact absurd h (by omega)

end Go.Proofs.YtioabjniipkncaaGreatDoor.Rc

namespace Go.Proofs.YtioabjniipkncaaGreatDoor.Rc
open Go.RowKit Go.Proofs.YtioabjniipkncaaGreatDoor.Fo Go.Proofs.YtioabjniipkncaaGreatDoor.Rf Go.Maps

theorem long_is {w : World} {A : Option Addr} {n c : Nat} {l : List Opc} {m : Int} (hs : Os w A n c l) (hm : m ≤ 1000) {b : Bool} (hb : longB l m = b) : Calls Tryz.prog 4 #[.slice A n c, .int .i64 m] w fun e w' => e = .returned (.bool b) ∧ Below w.heap.size w w' := by
  rw [← hb]; exact long_any w A n c l m hs hm
theorem res_grant {w : World} {b d : Nat} {r : Rs} {A : Option Addr} (h : w.heap[b]? = some (.cells #[.string r.g.user, .string r.g.client, .string r.g.tenant, .string r.g.session, .string r.g.redirect, .string r.g.nonce, .string r.g.challenge, .int .i64 r.g.method, .slice A r.g.scopes.length d, .int .i64 r.g.auth, .int .i64 r.g.level, .int .i64 r.n, .bool r.yes, .bool r.also, .int .i64 r.e] 38 (0, 0))) : w.rangeAt b 0 [.string r.g.user, .string r.g.client, .string r.g.tenant, .string r.g.session, .string r.g.redirect, .string r.g.nonce, .string r.g.challenge, .int .i64 r.g.method, .slice A r.g.scopes.length d, .int .i64 r.g.auth, .int .i64 r.g.level] := fun j u hj => by
  have h1 := cell_block h j
  rw [Nat.zero_add, h1, List.getElem?_toArray]
  have e2 : ([.string r.g.user, .string r.g.client, .string r.g.tenant, .string r.g.session, .string r.g.redirect, .string r.g.nonce, .string r.g.challenge, .int .i64 r.g.method, .slice A r.g.scopes.length d, .int .i64 r.g.auth, .int .i64 r.g.level, .int .i64 r.n, .bool r.yes, .bool r.also, .int .i64 r.e] : List Value) = [.string r.g.user, .string r.g.client, .string r.g.tenant, .string r.g.session, .string r.g.redirect, .string r.g.nonce, .string r.g.challenge, .int .i64 r.g.method, .slice A r.g.scopes.length d, .int .i64 r.g.auth, .int .i64 r.g.level] ++ [.int .i64 r.n, .bool r.yes, .bool r.also, .int .i64 r.e] := rfl
  rw [e2, List.getElem?_append_left (List.getElem?_eq_some_iff.1 hj).1]
  exact hj
set_option maxRecDepth 100000 in
set_option maxHeartbeats 4000000 in
/-- Two results of the same fields, whose scopes read alike. -/
theorem lsame_yes (r : Rs) (A B : Option Addr) (d d2 : Nat) (w : World) (hl : Ss w A r.g.scopes.length d r.g.scopes) (hk : Ss w B r.g.scopes.length d2 r.g.scopes) (hn : r.g.scopes.length ≤ 100000) :
    Calls Tryz.prog 8 #[.agg #[.string r.g.user, .string r.g.client, .string r.g.tenant, .string r.g.session, .string r.g.redirect, .string r.g.nonce, .string r.g.challenge, .int .i64 r.g.method, .slice A r.g.scopes.length d, .int .i64 r.g.auth, .int .i64 r.g.level, .int .i64 r.n, .bool r.yes, .bool r.also, .int .i64 r.e], .agg #[.string r.g.user, .string r.g.client, .string r.g.tenant, .string r.g.session, .string r.g.redirect, .string r.g.nonce, .string r.g.challenge, .int .i64 r.g.method, .slice B r.g.scopes.length d2, .int .i64 r.g.auth, .int .i64 r.g.level, .int .i64 r.n, .bool r.yes, .bool r.also, .int .i64 r.e]] w fun e w' => e = .returned (.bool true) ∧ Below w.heap.size w w' := by
  obtain ⟨w1, hw1⟩ : ∃ w1, w1 = w.alloc (.cells #[.string r.g.user, .string r.g.client, .string r.g.tenant, .string r.g.session, .string r.g.redirect, .string r.g.nonce, .string r.g.challenge, .int .i64 r.g.method, .slice A r.g.scopes.length d, .int .i64 r.g.auth, .int .i64 r.g.level, .int .i64 r.n, .bool r.yes, .bool r.also, .int .i64 r.e] 38) := ⟨_, rfl⟩
  obtain ⟨w2, hw2⟩ : ∃ w2, w2 = w1.alloc (.cells #[.string r.g.user, .string r.g.client, .string r.g.tenant, .string r.g.session, .string r.g.redirect, .string r.g.nonce, .string r.g.challenge, .int .i64 r.g.method, .slice B r.g.scopes.length d2, .int .i64 r.g.auth, .int .i64 r.g.level, .int .i64 r.n, .bool r.yes, .bool r.also, .int .i64 r.e] 38) := ⟨_, rfl⟩
  have hb1 : Below w.heap.size w w1 := by rw [hw1]; go_grown
  have hb2 : Below w1.heap.size w1 w2 := by rw [hw2]; go_grown
  have HB2 := Lib.hid (hb1.trans (hb2.mono hb1.size))
  have HX1 := Lib.hid (show w2.heap[w.heap.size]? = some (.cells #[.string r.g.user, .string r.g.client, .string r.g.tenant, .string r.g.session, .string r.g.redirect, .string r.g.nonce, .string r.g.challenge, .int .i64 r.g.method, .slice A r.g.scopes.length d, .int .i64 r.g.auth, .int .i64 r.g.level, .int .i64 r.n, .bool r.yes, .bool r.also, .int .i64 r.e] 38 (0, 0)) from (hb2.block _ (by rw [hw1]; simp)).trans (by rw [hw1]; exact heap_alloc_new _ _))
  have HX2 := Lib.hid (show w2.heap[w1.heap.size]? = some (.cells #[.string r.g.user, .string r.g.client, .string r.g.tenant, .string r.g.session, .string r.g.redirect, .string r.g.nonce, .string r.g.challenge, .int .i64 r.g.method, .slice B r.g.scopes.length d2, .int .i64 r.g.auth, .int .i64 r.g.level, .int .i64 r.n, .bool r.yes, .bool r.also, .int .i64 r.e] 38 (0, 0)) by rw [hw2]; exact heap_alloc_new _ _)
  have HZ := Lib.hid (show w1.heap.size = w.heap.size + 1 by rw [hw1]; simp)
  have HL := Lib.hid (hl.below HB2.out)
  have HK := Lib.hid (hk.below HB2.out)
  have HG1 := Lib.hid (res_grant HX1.out)
  have HG2 := Lib.hid (show w2.rangeAt (w.heap.size + 1) 0 [.string r.g.user, .string r.g.client, .string r.g.tenant, .string r.g.session, .string r.g.redirect, .string r.g.nonce, .string r.g.challenge, .int .i64 r.g.method, .slice B r.g.scopes.length d2, .int .i64 r.g.auth, .int .i64 r.g.level] by rw [← HZ.out]; exact res_grant HX2.out)
  have HW := Lib.hid (show (w.alloc (.cells #[.string r.g.user, .string r.g.client, .string r.g.tenant, .string r.g.session, .string r.g.redirect, .string r.g.nonce, .string r.g.challenge, .int .i64 r.g.method, .slice A r.g.scopes.length d, .int .i64 r.g.auth, .int .i64 r.g.level, .int .i64 r.n, .bool r.yes, .bool r.also, .int .i64 r.e] 38)).alloc (.cells #[.string r.g.user, .string r.g.client, .string r.g.tenant, .string r.g.session, .string r.g.redirect, .string r.g.nonce, .string r.g.challenge, .int .i64 r.g.method, .slice B r.g.scopes.length d2, .int .i64 r.g.auth, .int .i64 r.g.level, .int .i64 r.n, .bool r.yes, .bool r.also, .int .i64 r.e] 38) = w2 by rw [hw2, hw1])
  clear hw1 hw2 hb1 hb2 hl hk
  go_enter Tryz.func8, Tryz.ntmps8
  go_upto_region 1 with fail
  rw [HW.out]
  go_wp2_with (first | ((with_reducible refine at_dst 6 ?_); refine wpList_load_mid rfl 36 (.tmp 5) rfl w.heap.size 0 rfl [.string r.g.user, .string r.g.client, .string r.g.tenant, .string r.g.session, .string r.g.redirect, .string r.g.nonce, .string r.g.challenge, .int .i64 r.g.method, .slice A r.g.scopes.length d, .int .i64 r.g.auth, .int .i64 r.g.level] _ HG1.out rfl rfl (by kernel_rfl) ?_) | ((with_reducible refine at_dst 8 ?_); refine wpList_load_mid rfl 36 (.tmp 7) rfl (w.heap.size + 1) 0 rfl [.string r.g.user, .string r.g.client, .string r.g.tenant, .string r.g.session, .string r.g.redirect, .string r.g.nonce, .string r.g.challenge, .int .i64 r.g.method, .slice B r.g.scopes.length d2, .int .i64 r.g.auth, .int .i64 r.g.level] _ HG2.out rfl rfl (by kernel_rfl) ?_))
  refine (same_yes r.g.user r.g.client r.g.tenant r.g.session r.g.redirect r.g.nonce r.g.challenge r.g.method r.g.auth r.g.level A B r.g.scopes.length d d2 r.g.scopes w2 HL.out HK.out hn).mono ?_
  rintro e w3 ⟨rfl, hb⟩
  have HB3 := Lib.hid (HB2.out.trans (hb.mono HB2.out.size))
  have HX13 := Lib.hid (blk_below hb HX1.out)
  have HX23 := Lib.hid (show w3.heap[w.heap.size + 1]? = some (.cells #[.string r.g.user, .string r.g.client, .string r.g.tenant, .string r.g.session, .string r.g.redirect, .string r.g.nonce, .string r.g.challenge, .int .i64 r.g.method, .slice B r.g.scopes.length d2, .int .i64 r.g.auth, .int .i64 r.g.level, .int .i64 r.n, .bool r.yes, .bool r.also, .int .i64 r.e] 38 (0, 0)) by rw [← HZ.out]; exact blk_below hb HX2.out)
  clear hb
  obtain ⟨n0, hn0⟩ : ∃ n0, r.n = n0 := ⟨_, rfl⟩
  obtain ⟨b1, hb1⟩ : ∃ b1, r.yes = b1 := ⟨_, rfl⟩
  obtain ⟨b2, hb2⟩ : ∃ b2, r.also = b2 := ⟨_, rfl⟩
  obtain ⟨e0, he0⟩ : ∃ e0, r.e = e0 := ⟨_, rfl⟩
  have x11 := cell_block HX13.out 11
  have y11 := cell_block HX23.out 11
  have x12 := cell_block HX13.out 12
  have y12 := cell_block HX23.out 12
  have x13 := cell_block HX13.out 13
  have y13 := cell_block HX23.out 13
  have x14 := cell_block HX13.out 14
  have y14 := cell_block HX23.out 14
  simp only [List.getElem?_toArray, List.getElem?_cons_zero, List.getElem?_cons_succ] at x11 y11 x12 y12 x13 y13 x14 y14
  rw [hn0] at x11 y11
  rw [hb1] at x12 y12
  rw [hb2] at x13 y13
  rw [he0] at x14 y14
  clear hn0 hb1 hb2 he0
  go_wp2
  go_ret
  exact ⟨rfl, HB3.out⟩
/-- The reference's record lies in blocks of T. -/
def RefB (w : World) (T : Nat → Prop) (G : Nat) (st : Ct) : Prop := ∃ S, RefE w S G st ∧ ∀ k, S k → T k
theorem RefB.inv {w : World} {T : Nat → Prop} {G : Nat} {st : Ct} (h : RefB w T G st) : Inv st := h.elim fun _ h => h.1.inv
theorem RefB.below {w w' : World} {T : Nat → Prop} {G : Nat} {st : Ct} (h : RefB w T G st) (hb : Below w.heap.size w w') : RefB w' T G st := h.elim fun S h => ⟨S, h.1.below hb, h.2⟩
theorem RefB.mono {w : World} {T T' : Nat → Prop} {G : Nat} {st : Ct} (h : RefB w T G st) (ht : ∀ k, k < w.heap.size → T k → T' k) : RefB w T' G st := h.elim fun S h => ⟨S, h.1, fun k e => ht k (h.1.lt k e) (h.2 k e)⟩
theorem RefB.keep {w w' : World} {T : Nat → Prop} {G : Nat} {st : Ct} (h : RefB w T G st) (hk : ∀ k, k < w.heap.size → T k → w'.heap[k]? = w.heap[k]?) (hz : w.heap.size ≤ w'.heap.size) : RefB w' T G st :=
  h.elim fun S h => ⟨S, h.1.keep (fun _ e => e) (fun k e => hk k (h.1.lt k e) (h.2 k e)) hz (fun k e => Nat.lt_of_lt_of_le (h.1.lt k e) hz), h.2⟩
theorem rnew_b {w : World} {l : Int} {st : Ct} (h : limI l ≠ 0) (hst : (⟨limI l, []⟩ : Ct) = st) : Calls Tryz.prog 7 #[.int .i64 l] w fun e w' => ∃ G, e = .returned (.tuple #[.pointer (some ⟨G, 0, none⟩), .int .i64 0]) ∧ RefB w' (fun k => w.heap.size ≤ k) G st ∧ Below w.heap.size w w' := by
  refine (rnew_any l w).mono ?_
  intro e w' hN
  unfold RNewIs at hN
  rw [if_neg h] at hN
  obtain ⟨G, h1, h2, h3⟩ := hN
  subst hst
  exact ⟨G, h1, ⟨_, h2, fun k e => by rw [e]; exact Nat.le_refl _⟩, h3⟩
theorem rnew_no {w : World} {l : Int} (h : limI l = 0) : Calls Tryz.prog 7 #[.int .i64 l] w fun e w' => e = .returned (.tuple #[.pointer none, .int .i64 2]) ∧ w = w' := by
  refine (rnew_any l w).mono ?_
  intro e w' hN
  unfold RNewIs at hN
  rw [if_pos h] at hN
  exact hN
theorem rlen_b {w : World} {T : Nat → Prop} {G : Nat} {st : Ct} (h : RefB w T G st) {n : Nat} (hq : st.l.length = n) : Calls Tryz.prog 12 #[.pointer (some ⟨G, 0, none⟩)] w fun e w' => e = .returned (.int .i64 n) ∧ w = w' := by
  obtain ⟨S, h, hS⟩ := h
  subst hq
  exact rlen_any h
/-- One operation of the program; what it returns lies in new blocks. -/
theorem do_c {w : World} {T : Nat → Prop} {F : Nat} {st : Ct} (h : RepB w T F st) (x : Opc) (A : Option Addr) (d : Nat) (hs : Ss w A x.g.scopes.length d x.g.scopes) (hok : greatO x = false) (hm : MX w) (hd : DG w) (hS0 : ∀ k, T k → 2 ≤ k) {st' : Ct} {rs : Rs} (hq : doC st x = (st', rs)) :
    Calls Tryz.prog 9 #[.pointer (some ⟨F, 0, none⟩), .agg #[.int .i64 x.kind, .string x.code, .string x.cl, .string x.rd, .string x.ver, .string x.g.user, .string x.g.client, .string x.g.tenant, .string x.g.session, .string x.g.redirect, .string x.g.nonce, .string x.g.challenge, .int .i64 x.g.method, .slice A x.g.scopes.length d, .int .i64 x.g.auth, .int .i64 x.g.level, .int .i64 x.now]] w fun e w' => ∃ B d', e = .returned (.agg #[.string rs.g.user, .string rs.g.client, .string rs.g.tenant, .string rs.g.session, .string rs.g.redirect, .string rs.g.nonce, .string rs.g.challenge, .int .i64 rs.g.method, .slice B rs.g.scopes.length d', .int .i64 rs.g.auth, .int .i64 rs.g.level, .int .i64 rs.n, .bool rs.yes, .bool rs.also, .int .i64 rs.e]) ∧ Ss w' B rs.g.scopes.length d' rs.g.scopes ∧ (∀ a, B = some a → 0 < rs.g.scopes.length → w.heap.size ≤ a.block) ∧ RepB w' (fun k => T k ∨ w.heap.size ≤ k) F st' ∧ Mods T w w' := by
  obtain ⟨S, h, hS⟩ := h
  refine (do_any h x A d hs hok hm hd (fun k e => hS0 k (hS k e))).mono ?_
  rw [hq]
  rintro e w' ⟨B, d', h1, h2, h3, h4, h5⟩
  exact ⟨B, d', h1, h2, h3, ⟨_, h4, fun k e => by
    rcases e with e | e
    · exact Or.inl (hS k e)
    · exact Or.inr e.1⟩, Go.Proofs.YtioabjniipkncaaGreatDoor.Mods.mono h5 hS⟩
/-- One operation of the reference. -/
theorem mo_c {w : World} {T : Nat → Prop} {G : Nat} {st : Ct} (h : RefB w T G st) (x : Opc) (A : Option Addr) (d : Nat) (hs : Ss w A x.g.scopes.length d x.g.scopes) (hok : greatO x = false) (hm : MX w) (hd : DG w) (hS0 : ∀ k, T k → 2 ≤ k) {st' : Ct} {rs : Rs} (hq : doC st x = (st', rs)) :
    Calls Tryz.prog 10 #[.pointer (some ⟨G, 0, none⟩), .agg #[.int .i64 x.kind, .string x.code, .string x.cl, .string x.rd, .string x.ver, .string x.g.user, .string x.g.client, .string x.g.tenant, .string x.g.session, .string x.g.redirect, .string x.g.nonce, .string x.g.challenge, .int .i64 x.g.method, .slice A x.g.scopes.length d, .int .i64 x.g.auth, .int .i64 x.g.level, .int .i64 x.now]] w fun e w' => ∃ B d', e = .returned (.agg #[.string rs.g.user, .string rs.g.client, .string rs.g.tenant, .string rs.g.session, .string rs.g.redirect, .string rs.g.nonce, .string rs.g.challenge, .int .i64 rs.g.method, .slice B rs.g.scopes.length d', .int .i64 rs.g.auth, .int .i64 rs.g.level, .int .i64 rs.n, .bool rs.yes, .bool rs.also, .int .i64 rs.e]) ∧ Ss w' B rs.g.scopes.length d' rs.g.scopes ∧ RefB w' (fun k => T k ∨ w.heap.size ≤ k) G st' ∧ Mods T w w' := by
  obtain ⟨S, h, hS⟩ := h
  refine (mo_any h x A d hs hok hm hd (fun k e => hS0 k (hS k e))).mono ?_
  rw [hq]
  rintro e w' ⟨B, d', h1, h2, _, h4, h5⟩
  exact ⟨B, d', h1, h2, ⟨_, h4, fun k e => by
    rcases e with e | e
    · exact Or.inl (hS k e)
    · exact Or.inr e.1⟩, Go.Proofs.YtioabjniipkncaaGreatDoor.Mods.mono h5 hS⟩
theorem rep_far {w w' : World} {S T : Nat → Prop} {F : Nat} {st : Ct} (h : RepB w T F st) (hm : Mods S w w') (hd : ∀ k, k < w.heap.size → T k → ¬ S k) : RepB w' T F st :=
  h.keep (fun k hk e => hm.block k hk (hd k hk e)) hm.size
theorem ref_far {w w' : World} {S T : Nat → Prop} {F : Nat} {st : Ct} (h : RefB w T F st) (hm : Mods S w w') (hd : ∀ k, k < w.heap.size → T k → ¬ S k) : RefB w' T F st :=
  h.keep (fun k hk e => hm.block k hk (hd k hk e)) hm.size
/-- The two records lie apart, in blocks from B on. -/
def Two (w : World) (B F G : Nat) (st : Ct) : Prop := ∃ T S : Nat → Prop, RepB w T F st ∧ RefB w S G st ∧ (∀ k, T k → ¬ S k) ∧ (∀ k, T k → B ≤ k ∧ k < w.heap.size) ∧ (∀ k, S k → B ≤ k ∧ k < w.heap.size)
theorem RepB.cap {w : World} {T : Nat → Prop} {F : Nat} {st : Ct} (h : RepB w T F st) : RepB w (fun k => T k ∧ k < w.heap.size) F st := h.mono (fun _ h1 h2 => ⟨h2, h1⟩)
theorem RefB.cap {w : World} {T : Nat → Prop} {F : Nat} {st : Ct} (h : RefB w T F st) : RefB w (fun k => T k ∧ k < w.heap.size) F st := h.mono (fun _ h1 h2 => ⟨h2, h1⟩)
theorem Two.below {w w' : World} {B F G : Nat} {st : Ct} (h : Two w B F G st) (hb : Below w.heap.size w w') : Two w' B F G st := by
  obtain ⟨T, S, h1, h2, h3, h4, h5⟩ := h
  exact ⟨T, S, h1.below hb, h2.below hb, h3, fun k e => ⟨(h4 k e).1, Nat.lt_of_lt_of_le (h4 k e).2 hb.size⟩, fun k e => ⟨(h5 k e).1, Nat.lt_of_lt_of_le (h5 k e).2 hb.size⟩⟩
/-- The program's record has turned, the reference's has not yet; what the call changed lies apart from it. -/
structure Mid (w : World) (B F G : Nat) (st st' : Ct) (w1 : World) : Prop where
  rep : ∃ T S : Nat → Prop, RepB w1 T F st' ∧ RefB w1 S G st ∧ (∀ k, T k → ¬ S k) ∧ (∀ k, T k → B ≤ k ∧ k < w1.heap.size) ∧ (∀ k, S k → B ≤ k ∧ k < w.heap.size)
  size : w.heap.size ≤ w1.heap.size
theorem Two.first {w w1 : World} {B F G : Nat} {st st' : Ct} {T S T' : Nat → Prop} (hS : RefB w S G st) (hd : ∀ k, T k → ¬ S k) (hT1 : ∀ k, T k → B ≤ k) (hS1 : ∀ k, S k → B ≤ k ∧ k < w.heap.size) (hB : B ≤ w.heap.size) (hm : Mods T w w1) (h : RepB w1 T' F st') (hT' : ∀ k, T' k → T k ∨ w.heap.size ≤ k) : Mid w B F G st st' w1 :=
  ⟨⟨fun k => T' k ∧ k < w1.heap.size, S, h.cap, ref_far hS hm (fun k _ e e2 => hd k e2 e), fun k e e2 => by
    rcases hT' k e.1 with e3 | e3
    · exact hd k e3 e2
    · have := (hS1 k e2).2; omega, fun k e => ⟨by
    rcases hT' k e.1 with e3 | e3
    · exact hT1 k e3
    · omega, e.2⟩, hS1⟩, hm.size⟩
theorem Mid.below {w w1 w2 : World} {B F G : Nat} {st st' : Ct} (h : Mid w B F G st st' w1) (hb : Below w1.heap.size w1 w2) : Mid w B F G st st' w2 := by
  obtain ⟨⟨T, S, h1, h2, h3, h4, h5⟩, hz⟩ := h
  exact ⟨⟨T, S, h1.below hb, h2.below hb, h3, fun k e => ⟨(h4 k e).1, Nat.lt_of_lt_of_le (h4 k e).2 hb.size⟩, h5⟩, Nat.le_trans hz hb.size⟩
theorem Mid.second {w1 w2 : World} {B F G : Nat} {st' : Ct} {T S S' : Nat → Prop} (h1 : RepB w1 T F st') (hd : ∀ k, T k → ¬ S k) (hT1 : ∀ k, T k → B ≤ k ∧ k < w1.heap.size) (hS1 : ∀ k, S k → B ≤ k) (hB : B ≤ w1.heap.size) (hm : Mods S w1 w2) (h : RefB w2 S' G st') (hS' : ∀ k, S' k → S k ∨ w1.heap.size ≤ k) : Two w2 B F G st' :=
  ⟨T, fun k => S' k ∧ k < w2.heap.size, rep_far h1 hm (fun k _ e => hd k e), h.cap, fun k e e2 => by
    rcases hS' k e2.1 with e3 | e3
    · exact hd k e e3
    · have := (hT1 k e).2; omega, fun k e => ⟨(hT1 k e).1, Nat.lt_of_lt_of_le (hT1 k e).2 hm.size⟩, fun k e => ⟨by
    rcases hS' k e.1 with e3 | e3
    · exact hS1 k e3
    · omega, e.2⟩⟩
theorem two_first {w w1 : World} {B F G : Nat} {st st' : Ct} {T S T' : Nat → Prop} (hS : RefB w S G st) (hd : ∀ k, T k → ¬ S k) (hT1 : ∀ k, T k → B ≤ k) (hS1 : ∀ k, S k → B ≤ k ∧ k < w.heap.size) (hB : B ≤ w.heap.size) (hm : Mods T w w1) (h : RepB w1 T' F st') (hT' : ∀ k, T' k → T k ∨ w.heap.size ≤ k) :
    ∃ T5 : Nat → Prop, RepB w1 T5 F st' ∧ RefB w1 S G st ∧ (∀ k, T5 k → ¬ S k) ∧ (∀ k, T5 k → B ≤ k ∧ k < w1.heap.size) :=
  ⟨fun k => T' k ∧ k < w1.heap.size, h.cap, ref_far hS hm (fun k _ e e2 => hd k e2 e), fun k e e2 => by
    rcases hT' k e.1 with e3 | e3
    · exact hd k e3 e2
    · have := (hS1 k e2).2; omega, fun k e => ⟨by
    rcases hT' k e.1 with e3 | e3
    · exact hT1 k e3
    · omega, e.2⟩⟩
end Go.Proofs.YtioabjniipkncaaGreatDoor.Rc

namespace Go.Proofs.YtioabjniipkncaaGreatDoor.Rc
open Go.RowKit Go.Proofs.YtioabjniipkncaaGreatDoor.Fo Go.Proofs.YtioabjniipkncaaGreatDoor.Rf Go.Maps

theorem op_range {w : World} {b o : Nat} {x : Opc} {A : Option Addr} {d : Nat} (h0 : w.cell? ⟨b, o, none⟩ = some (.int .i64 x.kind)) (h1 : w.cell? ⟨b, o + 1, none⟩ = some (.string x.code)) (h2 : w.cell? ⟨b, o + 2, none⟩ = some (.string x.cl)) (h3 : w.cell? ⟨b, o + 3, none⟩ = some (.string x.rd)) (h4 : w.cell? ⟨b, o + 4, none⟩ = some (.string x.ver)) (h5 : w.cell? ⟨b, o + 5, none⟩ = some (.string x.g.user)) (h6 : w.cell? ⟨b, o + 6, none⟩ = some (.string x.g.client)) (h7 : w.cell? ⟨b, o + 7, none⟩ = some (.string x.g.tenant)) (h8 : w.cell? ⟨b, o + 8, none⟩ = some (.string x.g.session)) (h9 : w.cell? ⟨b, o + 9, none⟩ = some (.string x.g.redirect)) (h10 : w.cell? ⟨b, o + 10, none⟩ = some (.string x.g.nonce)) (h11 : w.cell? ⟨b, o + 11, none⟩ = some (.string x.g.challenge)) (h12 : w.cell? ⟨b, o + 12, none⟩ = some (.int .i64 x.g.method)) (h13 : w.cell? ⟨b, o + 13, none⟩ = some (.slice A x.g.scopes.length d)) (h14 : w.cell? ⟨b, o + 14, none⟩ = some (.int .i64 x.g.auth)) (h15 : w.cell? ⟨b, o + 15, none⟩ = some (.int .i64 x.g.level)) (h16 : w.cell? ⟨b, o + 16, none⟩ = some (.int .i64 x.now)) : w.rangeAt b o [.int .i64 x.kind, .string x.code, .string x.cl, .string x.rd, .string x.ver, .string x.g.user, .string x.g.client, .string x.g.tenant, .string x.g.session, .string x.g.redirect, .string x.g.nonce, .string x.g.challenge, .int .i64 x.g.method, .slice A x.g.scopes.length d, .int .i64 x.g.auth, .int .i64 x.g.level, .int .i64 x.now] := fun j u hj => by
  match j, hj with
  | 0, e => exact (Option.some.inj e) ▸ h0
  | 1, e => exact (Option.some.inj e) ▸ h1
  | 2, e => exact (Option.some.inj e) ▸ h2
  | 3, e => exact (Option.some.inj e) ▸ h3
  | 4, e => exact (Option.some.inj e) ▸ h4
  | 5, e => exact (Option.some.inj e) ▸ h5
  | 6, e => exact (Option.some.inj e) ▸ h6
  | 7, e => exact (Option.some.inj e) ▸ h7
  | 8, e => exact (Option.some.inj e) ▸ h8
  | 9, e => exact (Option.some.inj e) ▸ h9
  | 10, e => exact (Option.some.inj e) ▸ h10
  | 11, e => exact (Option.some.inj e) ▸ h11
  | 12, e => exact (Option.some.inj e) ▸ h12
  | 13, e => exact (Option.some.inj e) ▸ h13
  | 14, e => exact (Option.some.inj e) ▸ h14
  | 15, e => exact (Option.some.inj e) ▸ h15
  | 16, e => exact (Option.some.inj e) ▸ h16
  | j + 17, e => exact absurd e (by simp)
theorem red_len {st : Ct} (hi : Inv st) (w c r : Bs) (pv : Gr → Bool) (now : Int) : (red st w c r pv now).2.1.scopes.length ≤ 100000 := by
  rcases red_cases st w c r pv now with ⟨e, _⟩ | ⟨i, x, k, hx, _, _, e⟩
  · rw [e]; exact Nat.zero_le _
  · rw [e]
    have h := (hi.sc x (List.mem_of_getElem? hx)).2
    show (if k = 0 then x.g else noG).scopes.length ≤ 100000
    split
    · omega
    · exact Nat.zero_le _
theorem do_len {st st' : Ct} {x : Opc} {rs : Rs} (hi : Inv st) (h : doC st x = (st', rs)) : rs.g.scopes.length ≤ 100000 := by
  have e : rs = (doC st x).2 := by rw [h]
  rw [e]
  unfold doC
  have z : noG.scopes.length ≤ 100000 := Nat.zero_le _
  split
  · exact z
  · split
    · exact red_len hi _ _ _ _ _
    · split
      · exact red_len hi _ _ _ _ _
      · split
        · exact z
        · split
          · exact z
          · split
            · exact z
            · split <;> exact z
set_option maxRecDepth 100000 in
set_option maxHeartbeats 16000000 in
theorem does_any (w : World) (life : Int) (A : Option Addr) (n c : Nat) (l : List Opc) (hs : Os w A n c l) (hm : MX w) (hd : DG w) :
    Calls Tryz.prog 3 #[.int .i64 life, .slice A n c] w fun e w' => e = .returned (.bool true) ∧ Below w.heap.size w w' := by
  have HP := Lib.hid hm.pos
  have HM := Lib.hid hm
  have HD := Lib.hid hd
  have HS := Lib.hid hs
  have HLN := Lib.hid hs.1
  have HB0 := Lib.hid (Below.refl w.heap.size w)
  clear hm hd hs
  go_enter Tryz.func3, Tryz.ntmps3
  cases hl : longB l 20 with
  | true => as_aux_lemma =>
    have HL := Lib.hid hl
    clear hl
    go_wp2_with fail
    refine (long_is HS.out (by omega) HL.out).mono ?_
    rintro e w1 ⟨rfl, hb⟩
    have HB1 := Lib.hid (HB0.out.trans (hb.mono HB0.out.size))
    clear hb
    go_wp2_with fail
    refine (live_any w1 (HM.out.below HB1.out) (HD.out.below HB1.out)).mono ?_
    rintro e w2 ⟨rfl, hb⟩
    have HB2 := Lib.hid (HB1.out.trans (hb.mono HB1.out.size))
    clear hb
    go_wp2
    go_ret
    exact ⟨rfl, HB2.out⟩
  | false =>
    have HL := Lib.hid hl
    clear hl
    have hn20 : n ≤ 20 := by have := long_len HL.out; have := HLN.out; omega
    go_wp2_with fail
    refine (long_is HS.out (by omega) HL.out).mono ?_
    rintro e w1 ⟨rfl, hb⟩
    have HB1 := Lib.hid (HB0.out.trans (hb.mono HB0.out.size))
    clear hb
    by_cases hz : limI life = 0
    · as_aux_lemma =>
      go_wp2_with fail
      refine (new_no hz).mono ?_
      rintro e wx ⟨rfl, rfl⟩
      go_wp2_with fail
      refine (rnew_no hz).mono ?_
      rintro e wx ⟨rfl, rfl⟩
      clear hz
      go_wp2_with fail
      refine (live_any w1 (HM.out.below HB1.out) (HD.out.below HB1.out)).mono ?_
      rintro e w2 ⟨rfl, hb⟩
      have HB2 := Lib.hid (HB1.out.trans (hb.mono HB1.out.size))
      clear hb
      go_wp2_with fail
      go_loopw [9] (fun iv wr => iv = .int .i64 0 ∧ wr = w2) (fun _ _ => 0)
      case atStart => exact ⟨rfl, rfl⟩
      case round =>
        obtain ⟨rfl, hwr⟩ := hrel
        obtain rfl : w2 = wr := hwr.symm
        go_wp2
        go_ret
        exact ⟨rfl, HB2.out⟩
    · go_wp2_with fail
      refine (new_b hz rfl).mono ?_
      rintro e w2 ⟨F, rfl, hr, hb⟩
      have HB2 := Lib.hid (HB1.out.trans (hb.mono HB1.out.size))
      have HR2 := Lib.hid hr
      have HZ2 := Lib.hid hb.size
      clear hr hb
      go_wp2_with fail
      refine (rnew_b hz rfl).mono ?_
      rintro e w3 ⟨G, rfl, hr, hb⟩
      have HB3 := Lib.hid (HB2.out.trans (hb.mono HB2.out.size))
      have HTW3 := Lib.hid (show Two w3 w.heap.size F G ⟨limI life, []⟩ from ⟨fun k => w1.heap.size ≤ k ∧ k < w2.heap.size, fun k => w2.heap.size ≤ k ∧ k < w3.heap.size, (HR2.out.cap).below hb, hr.cap, fun k e e2 => by omega, fun k e => ⟨by have := HB1.out.size; omega, Nat.lt_of_lt_of_le e.2 hb.size⟩, fun k e => ⟨by have := HB2.out.size; omega, e.2⟩⟩)
      clear hr hb HR2 HZ2 hz
      go_wp2_with fail
      refine (live_any w3 (HM.out.below HB3.out) (HD.out.below HB3.out)).mono ?_
      rintro e w4 ⟨rfl, hb⟩
      have HB4 := Lib.hid (HB3.out.trans (hb.mono HB3.out.size))
      have HTW4 := Lib.hid (HTW3.out.below hb)
      clear hb
      go_wp2_with fail
      go_loopw [9] (fun iv wr => ∃ (k : Nat) (st : Ct), iv = .int .i64 k ∧ k ≤ n ∧ Two wr w.heap.size F G st ∧ Below w.heap.size w wr) (fun iv _ => n - (intOf iv).toNat)
      case atStart => exact ⟨0, _, rfl, Nat.zero_le _, HTW4.out, HB4.out⟩
      case round =>
        obtain ⟨k, st, rfl, hk, htw, hb⟩ := hrel
        have HB := Lib.hid hb
        have HTW := Lib.hid htw
        clear htw hb
        by_cases hlt : k < n
        · as_aux_lemma =>
          have HOK := Lib.hid (long_at HL.out (k := k) (by rw [HLN.out]; exact hlt))
          obtain ⟨b, off, Ah, dh, xh, rfl, hbl, hxh, h0, h1, h2, h3, h4, h5, h6, h7, h8, h9, h10, h11, h12, h13, h14, h15, h16, hsh⟩ := HS.out.at hlt
          rw [hxh] at HOK
          have HSH := Lib.hid hsh
          have HRG := Lib.hid (op_range h0 h1 h2 h3 h4 h5 h6 h7 h8 h9 h10 h11 h12 h13 h14 h15 h16)
          have HSK := Lib.hid (show ∀ w' : World, Below w.heap.size w w' → (fun w' => w'.rangeAt b (off + k * 17) [.int .i64 xh.kind, .string xh.code, .string xh.cl, .string xh.rd, .string xh.ver, .string xh.g.user, .string xh.g.client, .string xh.g.tenant, .string xh.g.session, .string xh.g.redirect, .string xh.g.nonce, .string xh.g.challenge, .int .i64 xh.g.method, .slice Ah xh.g.scopes.length dh, .int .i64 xh.g.auth, .int .i64 xh.g.level, .int .i64 xh.now]) w' from fun w' hb j u hj => (bkeep hb hbl _).trans (HRG.out j u hj))
          clear hsh hxh h0 h1 h2 h3 h4 h5 h6 h7 h8 h9 h10 h11 h12 h13 h14 h15 h16
          obtain ⟨⟨st2, rs⟩, hq⟩ : ∃ r, doC st xh = r := ⟨_, rfl⟩
          have HQ := Lib.hid hq
          obtain ⟨T, S, hrp, hrf, hds, hTl, hSl⟩ := HTW.out
          have HLN5 := Lib.hid (do_len hrp.inv hq)
          obtain ⟨n7, hn7⟩ : ∃ n7, st2.l.length = n7 := ⟨_, rfl⟩
          have HL7 := Lib.hid hn7
          clear hq hn7
          have hbd : Below wr.heap.size wr wr.drew := (Below.refl _ _).drew
          have HBD := Lib.hid (HB.out.trans (hbd.mono HB.out.size))
          have HRPD := Lib.hid (hrp.below hbd)
          have HRFD := Lib.hid (hrf.below hbd)
          have HDS := Lib.hid hds
          have HTL := Lib.hid hTl
          have HSL := Lib.hid (show ∀ k, S k → w.heap.size ≤ k ∧ k < wr.drew.heap.size from hSl)
          have HT2 := Lib.hid (show ∀ k, T k → 2 ≤ k from fun k e => by have := (hTl k e).1; have := HP.out; omega)
          have HS2 := Lib.hid (show ∀ k, S k → 2 ≤ k from fun k e => by have := (hSl k e).1; have := HP.out; omega)
          clear hrp hrf hds hTl hSl hbd
          go_wp2_with fail
          refine wp_region_held_drew (S := (fun w' => w'.rangeAt b (off + k * 17) [.int .i64 xh.kind, .string xh.code, .string xh.cl, .string xh.rd, .string xh.ver, .string xh.g.user, .string xh.g.client, .string xh.g.tenant, .string xh.g.session, .string xh.g.redirect, .string xh.g.nonce, .string xh.g.challenge, .int .i64 xh.g.method, .slice Ah xh.g.scopes.length dh, .int .i64 xh.g.auth, .int .i64 xh.g.level, .int .i64 xh.now])) (by kernel_rfl) ?_ (fun hHeld => ?_)
          focus ((try dsimp only); (first | exact HSK.out _ HBD.out | exact HSK.out _ HB5.out | exact HSK.out _ HB6.out | exact HSK.out _ HB7.out); done)
          refine wpAnyH_take (i := 0) (oi := ⟨_, _, _, _, _, _⟩) (v := ?_) rfl (by kernel_rfl) (by kernel_rfl) (by kernel_rfl) (fun _ _ _ h => h) (Or.inl ⟨by rfl, ?_⟩) (by assumption) ?_; rotate_left; (focus (intro w hSw; (try dsimp only at hSw); go_simp; (try with_reducible rfl); done)); simp only [Act.put, List.setIfInBounds_toArray, List.set_cons_zero, List.set_cons_succ]
          refine wpAnyH_take (i := 1) (oi := ⟨_, _, _, _, _, _⟩) (v := ?_) rfl (by kernel_rfl) (by kernel_rfl) (by kernel_rfl) (fun _ _ _ h => h) (Or.inl ⟨by rfl, ?_⟩) (by assumption) ?_; rotate_left; (focus (intro w hSw; (try dsimp only at hSw); go_simp; (try with_reducible rfl); done)); simp only [Act.put, List.setIfInBounds_toArray, List.set_cons_zero, List.set_cons_succ]
          refine wpAnyH_take (i := 2) (oi := ⟨_, _, _, _, _, _⟩) (v := ?_) rfl (by kernel_rfl) (by kernel_rfl) (by kernel_rfl) (fun _ _ _ h => h) (Or.inl ⟨by rfl, ?_⟩) (by assumption) ?_; rotate_left; (focus (intro w hSw; (try dsimp only at hSw); go_simp; (try with_reducible rfl); done)); simp only [Act.put, List.setIfInBounds_toArray, List.set_cons_zero, List.set_cons_succ]
          refine wpAnyH_take (i := 3) (oi := ⟨_, _, _, _, _, _⟩) (v := ?_) rfl (by kernel_rfl) (by kernel_rfl) (by kernel_rfl) (fun _ _ _ h => h) (Or.inl ⟨by rfl, ?_⟩) (by assumption) ?_; rotate_left; (focus (intro w hSw; (try dsimp only at hSw); go_simp; (try with_reducible rfl); done)); simp only [Act.put, List.setIfInBounds_toArray, List.set_cons_zero, List.set_cons_succ]
          refine wpAnyH_take (i := 4) (oi := ⟨_, _, _, _, _, _⟩) rfl (by kernel_rfl) (by kernel_rfl) (by kernel_rfl) (fun _ _ _ h => h) (yieldsIf_load_mid (by rfl) 41 (.tmp 50) rfl b (off + k * 17) rfl [.int .i64 xh.kind, .string xh.code, .string xh.cl, .string xh.rd, .string xh.ver, .string xh.g.user, .string xh.g.client, .string xh.g.tenant, .string xh.g.session, .string xh.g.redirect, .string xh.g.nonce, .string xh.g.challenge, .int .i64 xh.g.method, .slice Ah xh.g.scopes.length dh, .int .i64 xh.g.auth, .int .i64 xh.g.level, .int .i64 xh.now] _ (fun _ h => h) rfl rfl (by kernel_rfl)) (by assumption) ?_
          simp only [Act.put, List.setIfInBounds_toArray, List.set_cons_zero, List.set_cons_succ]
          refine wpAnyH_take (i := 6) (oi := ⟨_, _, _, _, _, _⟩) (v := ?_) rfl (by kernel_rfl) (by kernel_rfl) (by kernel_rfl) (fun _ _ _ h => h) (Or.inl ⟨by rfl, ?_⟩) (by assumption) ?_; rotate_left; (focus (intro w hSw; (try dsimp only at hSw); go_simp; (try with_reducible rfl); done)); simp only [Act.put, List.setIfInBounds_toArray, List.set_cons_zero, List.set_cons_succ]
          refine wpAnyH_take (i := 7) (oi := ⟨_, _, _, _, _, _⟩) (v := ?_) rfl (by kernel_rfl) (by kernel_rfl) (by kernel_rfl) (fun _ _ _ h => h) (Or.inl ⟨by rfl, ?_⟩) (by assumption) ?_; rotate_left; (focus (intro w hSw; (try dsimp only at hSw); go_simp; (try with_reducible rfl); done)); simp only [Act.put, List.setIfInBounds_toArray, List.set_cons_zero, List.set_cons_succ]
          refine wpAnyH_take (i := 8) (oi := ⟨_, _, _, _, _, _⟩) (v := ?_) rfl (by kernel_rfl) (by kernel_rfl) (by kernel_rfl) (fun _ _ _ h => h) (Or.inl ⟨by rfl, ?_⟩) (by assumption) ?_; rotate_left; (focus (intro w hSw; (try dsimp only at hSw); go_simp; (try with_reducible rfl); done)); simp only [Act.put, List.setIfInBounds_toArray, List.set_cons_zero, List.set_cons_succ]
          refine wpAnyH_take (i := 9) (oi := ⟨_, _, _, _, _, _⟩) (v := ?_) rfl (by kernel_rfl) (by kernel_rfl) (by kernel_rfl) (fun _ _ _ h => h) (Or.inl ⟨by rfl, ?_⟩) (by assumption) ?_; rotate_left; (focus (intro w hSw; (try dsimp only at hSw); go_simp; (try with_reducible rfl); done)); simp only [Act.put, List.setIfInBounds_toArray, List.set_cons_zero, List.set_cons_succ]
          refine wpAnyH_take (i := 10) (oi := ⟨_, _, _, _, _, _⟩) rfl (by kernel_rfl) (by kernel_rfl) (by kernel_rfl) (fun _ _ _ h => h) (yieldsIf_load_mid (by rfl) 41 (.tmp 56) rfl b (off + k * 17) rfl [.int .i64 xh.kind, .string xh.code, .string xh.cl, .string xh.rd, .string xh.ver, .string xh.g.user, .string xh.g.client, .string xh.g.tenant, .string xh.g.session, .string xh.g.redirect, .string xh.g.nonce, .string xh.g.challenge, .int .i64 xh.g.method, .slice Ah xh.g.scopes.length dh, .int .i64 xh.g.auth, .int .i64 xh.g.level, .int .i64 xh.now] _ (fun _ h => h) rfl rfl (by kernel_rfl)) (by assumption) ?_
          simp only [Act.put, List.setIfInBounds_toArray, List.set_cons_zero, List.set_cons_succ]
          refine wpAnyH_ready (rs := [5]) (by kernel_rfl) (by simp) ?_
          refine AllReadyH.cons (o := ⟨_, _, _, _, _, _⟩) rfl (fun K hK => ?_) AllReadyH.nil
          go_simp
          go_wp2_with fail
          refine (do_c HRPD.out xh Ah dh (HSH.out.below HBD.out) HOK.out (HM.out.below HBD.out) (HD.out.below HBD.out) HT2.out HQ.out).mono ?_
          rintro e5 w5 ⟨B1, d1, rfl, hs1, hf1, hr, hm⟩
          have HMID := Lib.hid (two_first (B := w.heap.size) HRFD.out HDS.out (fun k e => (HTL.out k e).1) HSL.out HBD.out.size hm hr (fun _ e => e))
          have HB5 := Lib.hid (HBD.out.trans (hm.toBelow HBD.out.size (fun k e => (HTL.out k e).1)))
          have HS1 := Lib.hid hs1
          have HF1 := Lib.hid (show ∀ a, B1 = some a → 0 < rs.g.scopes.length → ¬ S a.block from fun a ha hn e => by have h1 := hf1 a ha hn; have h2 := (HSL.out _ e).2; exact absurd h1 (Nat.not_le.2 h2))
          clear hs1 hf1 hr hm
          obtain ⟨T5, hrp5, hrf5, hds5, hTl5⟩ := HMID.out
          (try go_wp2_with fail)
          refine hK.out _ _ ?_ (fun hHeld => ?_)
          focus ((try dsimp only); (first | exact HSK.out _ HBD.out | exact HSK.out _ HB5.out | exact HSK.out _ HB6.out | exact HSK.out _ HB7.out); done)
          clear hK K
          (try simp only [Act.put, List.setIfInBounds_toArray, List.set_cons_zero, List.set_cons_succ])
          refine wpAnyH_ready (rs := [11]) (by kernel_rfl) (by simp) ?_
          refine AllReadyH.cons (o := ⟨_, _, _, _, _, _⟩) rfl (fun K hK => ?_) AllReadyH.nil
          go_simp
          go_wp2_with fail
          refine (mo_c hrf5 xh Ah dh (HSH.out.below HB5.out) HOK.out (HM.out.below HB5.out) (HD.out.below HB5.out) HS2.out HQ.out).mono ?_
          rintro e6 w6 ⟨B2, d2, rfl, hs2, hr, hm⟩
          have HTW6 := Lib.hid (Mid.second (B := w.heap.size) hrp5 hds5 hTl5 (fun k e => (HSL.out k e).1) HB5.out.size hm hr (fun _ e => e))
          have HB6 := Lib.hid (HB5.out.trans (hm.toBelow HB5.out.size (fun k e => (HSL.out k e).1)))
          have HS16 := Lib.hid (ss_mods HS1.out hm HF1.out)
          have HS26 := Lib.hid hs2
          clear hs2 hr hm hrp5 hrf5 hds5 hTl5
          (try go_wp2_with fail)
          refine hK.out _ _ ?_ (fun hHeld => ?_)
          focus ((try dsimp only); (first | exact HSK.out _ HBD.out | exact HSK.out _ HB5.out | exact HSK.out _ HB6.out | exact HSK.out _ HB7.out); done)
          clear hK K
          (try simp only [Act.put, List.setIfInBounds_toArray, List.set_cons_zero, List.set_cons_succ])
          refine wpAnyH_ready (rs := [12]) (by kernel_rfl) (by simp) ?_
          refine AllReadyH.cons (o := ⟨_, _, _, _, _, _⟩) rfl (fun K hK => ?_) AllReadyH.nil
          go_simp
          go_wp2_with fail
          refine (lsame_yes rs B1 B2 d1 d2 w6 HS16.out HS26.out HLN5.out).mono ?_
          rintro e7 w7 ⟨rfl, hb⟩
          have HTW7 := Lib.hid (HTW6.out.below hb)
          have HB7 := Lib.hid (HB6.out.trans (hb.mono HB6.out.size))
          clear hb
          obtain ⟨T7, S7, hrp7, hrf7, _, _, _⟩ := HTW7.out
          (try go_wp2_with fail)
          refine hK.out _ _ ?_ (fun hHeld => ?_)
          focus ((try dsimp only); (first | exact HSK.out _ HBD.out | exact HSK.out _ HB5.out | exact HSK.out _ HB6.out | exact HSK.out _ HB7.out); done)
          clear hK K
          (try simp only [Act.put, List.setIfInBounds_toArray, List.set_cons_zero, List.set_cons_succ])
          refine wpAnyH_take (i := 13) (oi := ⟨_, _, _, _, _, _⟩) (v := ?_) rfl (by kernel_rfl) (by kernel_rfl) (by kernel_rfl) (fun _ _ _ h => h) (Or.inl ⟨by rfl, ?_⟩) (by assumption) ?_; rotate_left; (focus (intro w hSw; (try dsimp only at hSw); go_simp; (try with_reducible rfl); done)); simp only [Act.put, List.setIfInBounds_toArray, List.set_cons_zero, List.set_cons_succ]
          refine wpAnyH_take (i := 14) (oi := ⟨_, _, _, _, _, _⟩) (v := ?_) rfl (by kernel_rfl) (by kernel_rfl) (by kernel_rfl) (fun _ _ _ h => h) (Or.inl ⟨by rfl, ?_⟩) (by assumption) ?_; rotate_left; (focus (intro w hSw; (try dsimp only at hSw); go_simp; (try with_reducible rfl); done)); simp only [Act.put, List.setIfInBounds_toArray, List.set_cons_zero, List.set_cons_succ]
          refine wpAnyH_take (i := 15) (oi := ⟨_, _, _, _, _, _⟩) (v := ?_) rfl (by kernel_rfl) (by kernel_rfl) (by kernel_rfl) (fun _ _ _ h => h) (Or.inl ⟨by rfl, ?_⟩) (by assumption) ?_; rotate_left; (focus (intro w hSw; (try dsimp only at hSw); go_simp; (try with_reducible rfl); done)); simp only [Act.put, List.setIfInBounds_toArray, List.set_cons_zero, List.set_cons_succ]
          refine wpAnyH_take (i := 17) (oi := ⟨_, _, _, _, _, _⟩) (v := ?_) rfl (by kernel_rfl) (by kernel_rfl) (by kernel_rfl) (fun _ _ _ h => h) (Or.inl ⟨by rfl, ?_⟩) (by assumption) ?_; rotate_left; (focus (intro w hSw; (try dsimp only at hSw); go_simp; (try with_reducible rfl); done)); simp only [Act.put, List.setIfInBounds_toArray, List.set_cons_zero, List.set_cons_succ]
          refine wpAnyH_ready (rs := [16]) (by kernel_rfl) (by simp) ?_
          refine AllReadyH.cons (o := ⟨_, _, _, _, _, _⟩) rfl (fun K hK => ?_) AllReadyH.nil
          go_simp
          go_wp2_with fail
          refine (len_b hrp7 HL7.out).mono ?_
          rintro e8 w8 ⟨rfl, rfl⟩
          (try go_wp2_with fail)
          refine hK.out _ _ ?_ (fun hHeld => ?_)
          focus ((try dsimp only); (first | exact HSK.out _ HBD.out | exact HSK.out _ HB5.out | exact HSK.out _ HB6.out | exact HSK.out _ HB7.out); done)
          clear hK K
          (try simp only [Act.put, List.setIfInBounds_toArray, List.set_cons_zero, List.set_cons_succ])
          refine wpAnyH_ready (rs := [18]) (by kernel_rfl) (by simp) ?_
          refine AllReadyH.cons (o := ⟨_, _, _, _, _, _⟩) rfl (fun K hK => ?_) AllReadyH.nil
          go_simp
          go_wp2_with fail
          refine (rlen_b hrf7 HL7.out).mono ?_
          rintro e9 w9 ⟨rfl, rfl⟩
          (try go_wp2_with fail)
          refine hK.out _ _ ?_ (fun hHeld => ?_)
          focus ((try dsimp only); (first | exact HSK.out _ HBD.out | exact HSK.out _ HB5.out | exact HSK.out _ HB6.out | exact HSK.out _ HB7.out); done)
          clear hK K
          (try simp only [Act.put, List.setIfInBounds_toArray, List.set_cons_zero, List.set_cons_succ])
          refine wpAnyH_take (i := 19) (oi := ⟨_, _, _, _, _, _⟩) (v := ?_) rfl (by kernel_rfl) (by kernel_rfl) (by kernel_rfl) (fun _ _ _ h => h) (Or.inl ⟨by rfl, ?_⟩) (by assumption) ?_; rotate_left; (focus (intro w hSw; (try dsimp only at hSw); go_simp; (try with_reducible rfl); done)); simp only [Act.put, List.setIfInBounds_toArray, List.set_cons_zero, List.set_cons_succ]
          refine wpAnyH_take (i := 20) (oi := ⟨_, _, _, _, _, _⟩) (v := ?_) rfl (by kernel_rfl) (by kernel_rfl) (by kernel_rfl) (fun _ _ _ h => h) (Or.inl ⟨by rfl, ?_⟩) (by assumption) ?_; rotate_left; (focus (intro w hSw; (try dsimp only at hSw); go_simp; (try with_reducible rfl); done)); simp only [Act.put, List.setIfInBounds_toArray, List.set_cons_zero, List.set_cons_succ]
          refine wpAnyH_done (by kernel_rfl) ?_ _
          go_wp2
          go_roundw
          case rel => exact ⟨k + 1, st2, by go_num, by omega, HTW7.out, HB7.out⟩
          case measure => simp [intOf]; omega
        · as_aux_lemma =>
          go_wp2
          go_ret
          exact ⟨rfl, HB.out⟩
end Go.Proofs.YtioabjniipkncaaGreatDoor.Rc

namespace Go.Proofs.YtioabjniipkncaaGreatDoor
open Go.ChangeShapes Go.WideShapes Go.ChangeAt Go.RowKit

set_option maxRecDepth 100000 in
/-- The walk's step, for every argument and every world of the row. -/
theorem codeDoes_contract (H : Type) (enc : TypeId × Value → H) (W : World) (base : Nat) (args : Array Value) (ds gs : List (DataW H)) (before : List MemPlace)
    (hval : ∀ (j : Nat) t v, Tryz.f3.params[j]? = some t → args[j]? = some v → Value.okWide Tryz.prog W .any base t v)
    (hW : DataW.Whole enc Tryz.prog Tryz.f3.params.toList Rows.codeDoesSpec.vars false W args.toList ds gs before) (hL : laidMetH Tryz.prog Rows.codeDoesRow.laid W) (hsh : W.ShapedOpen Tryz.prog) :
    Calls Tryz.prog 3 args W fun e W' => ∃ v, e = .returned v ∧ Rows.codeDoesSpec.post enc Tryz.prog Tryz.f3 false true false false W args v W' := by
  have hW' := hW
  rw [MakeChecks.laidMetH_plain _ _ _ (by kernel_rfl)] at hL
  have hdg := Rc.dg_of hL (List.Mem.tail _ (List.Mem.head _))
  obtain ⟨p, q, hA0, hV, rfl, hfz, hnd⟩ := hW
  have hA : DataW.TrodAll enc Tryz.prog W 0 (fun _ => true) true Tryz.f3.params.toList args.toList ds p := hA0
  rw [Tryz.params3] at hA hval
  obtain ⟨v0, v1, d0, d1, p0, p1, rfl, rfl, rfl, h0, h1⟩ := Rc.trodAll_two' hA
  obtain ⟨rfl, rfl⟩ := trodVars_none hV
  obtain ⟨n0, rfl, rfl, rfl, w0⟩ := open_int Tryz.underlying3 (hval 0 3 v0 rfl rfl) h0
  obtain ⟨A1, n1, c1, l1, rfl, hs1⟩ := Rc.open_ops (hval 1 22 v1 rfl rfl) h1
  clear hA0 hval hA hL
  refine (Rc.does_any W n0 A1 _ c1 l1 hs1 (Rc.mx_of hsh) hdg).mono fun e W' ⟨he, hg⟩ => ?_
  subst he
  exact ⟨_, rfl, post_law (tb := 4) Rc.laid Tryz.underlying4 (by kernel_rfl) (fun t ht => Rc.readable t (by rw [Tryz.params3] at ht; simp at ht; first | (rcases ht with h | h | h | h | h | h <;> simp [h]; done) | (rcases ht with h | h | h | h | h <;> simp [h]; done) | (rcases ht with h | h | h | h <;> simp [h]; done) | (rcases ht with h | h | h <;> simp [h]; done) | (rcases ht with h | h <;> simp [h]; done) | (simp [ht]; done))) rfl hW' rfl rfl rfl hg⟩

set_option maxRecDepth 100000 in
theorem codeDoes_lifted (os : Os) (started : os.Started) (H : Type) (enc : TypeId × Value → H) (F : Stop.Interp) :
    ReturnsInHanded {} Tryz.checked os 3 .any ((OpenSpec.ofChange Rows.codeDoesSpec).preRow enc Tryz.prog Tryz.f3 Rows.codeDoesRow.domain false Rows.codeDoesRow.laid) (((OpenSpec.ofChange Rows.codeDoesSpec).at F).post enc Tryz.prog Tryz.f3 false true false false) := by
  have hx : ∃ places, DataW.whole enc Tryz.prog ((World.laidAll Tryz.prog os Rows.codeDoesRow.laid).forCall (fun _ _ => 0) ⟨#[], #[.int .i64 0, .slice none 0 0], []⟩).memory Tryz.f3.params.toList Rows.codeDoesSpec.vars false #[.int .i64 0, .slice none 0 0].toList 8 = some ([.lit (.int .i64 0), .nil], [], places) := ⟨[], by kernel_rfl⟩
  obtain ⟨places, hx⟩ := hx
  refine returnsInHanded_of_row (C := Tryz.checked) (s := OpenSpec.ofChange Rows.codeDoesSpec) Rc.own started (by kernel_rfl) Tryz.func3
    (witness_row_at (enc := enc) (C := Tryz.checked) false (World.laidAll Tryz.prog os Rows.codeDoesRow.laid) #[.int .i64 0, .slice none 0 0] (World.laidAll_os _ _ _) (by kernel_rfl) (by kernel_rfl) (by kernel_rfl)
      (OpenSpec.preRow_of_cond 8 hx (by kernel_rfl) (fun k hk => by cases hk) (by kernel_rfl) (by rw [MakeChecks.laidMetH_plain _ _ _ (by kernel_rfl)]; exact laidMet_laidAll _ (by kernel_rfl) (by kernel_rfl)))) ?_
  intro W base args ds gs before hval hW _ _ _ hL hsh _
  exact codeDoes_contract H enc W base args ds gs before hval hW hL hsh

/-- The law's row. -/
theorem codeDoes_said : Rows.CodeDoesSaid :=
  OpenClaim.holds_of_cond 3 Tryz.f3 rfl rfl rfl rfl rfl rfl rfl ⟨rfl, rfl, rfl, rfl, rfl⟩ rfl rfl rfl rfl rfl (by kernel_rfl) Tryz.func3 (by kernel_rfl)
    (of_decide_eq_true (by kernel_rfl)) (by unfold Func.isWrapper; first | (rw [if_pos (by decide +kernel)]; kernel_rfl) | (rw [if_neg (by decide +kernel)]; exact ⟨rfl, rfl⟩))
    (fun os started H enc _ F => by rw [OpenClaim.pre_eq_preRow]; exact codeDoes_lifted os started H enc F)
theorem codeDoes_plain (f : FuncId) (fn : Func) (hf : Tryz.pinned.checked.prog.funcNamed Rows.codeDoesRow.func = some f) (hfn : Tryz.pinned.checked.prog.funcs[f]? = some fn) :
    false = Tryz.pinned.checked.prog.looks [] ∧ ∀ (j : Nat) t, fn.params[j]? = some t → Tryz.pinned.checked.prog.wantsStandIn t = false := by
  obtain rfl : f = 3 := Option.some.inj ((show Tryz.prog.funcNamed Rows.codeDoesRow.func = some 3 by kernel_rfl).symm.trans hf) |>.symm
  obtain rfl : fn = Tryz.f3 := (Option.some.inj (Tryz.func3.symm.trans hfn)).symm
  refine ⟨by kernel_rfl, fun j t ht => ?_⟩
  rw [Tryz.params3] at ht
  have ht := Array.mem_of_getElem? ht
  exact Rc.noStand t (by simp at ht; first | (rcases ht with h | h | h | h | h | h <;> simp [h]; done) | (rcases ht with h | h | h | h | h <;> simp [h]; done) | (rcases ht with h | h | h | h <;> simp [h]; done) | (rcases ht with h | h | h <;> simp [h]; done) | (rcases ht with h | h <;> simp [h]; done) | (simp [ht]; done))
/-- The card. -/
theorem codeDoes_holds : Rows.CodeDoesCardSaid :=
  Claim7.holds_tied_plain_at .later [] _ _ _ _ codeDoes_said (fun _ h => by cases h) (by kernel_rfl) (fun _ h => by cases h) codeDoes_row_tie rfl ⟨rfl, rfl⟩ (by kernel_rfl) rfl codeDoes_plain (by kernel_rfl)
#print axioms codeDoes_holds
end Go.Proofs.YtioabjniipkncaaGreatDoor
