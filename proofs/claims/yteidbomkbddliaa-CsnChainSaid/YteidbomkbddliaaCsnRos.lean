/-
  What a law's row of layer 15 opens: slices of numbers.
-/
import Derived.Test.YteidbomkbddliaaCsnRow
import Derived.Deep.Slices
import Derived.Deep.Strs
namespace Go.Proofs.Yteidbomkbddliaa.Csn
open Go.ChangeShapes Go.WideShapes Go.ChangeAt Go.RowKit

/-- A cell that reads lies in a block that is there, and its address has no spot. -/
theorem cell_lt {w : World} {a : Addr} {u : Value} (h : w.cell? a = some u) : a.block < w.heap.size ∧ a.spot = none := by
  unfold World.cell? at h
  cases hb : w.heap[a.block]? with
  | none => simp [hb] at h
  | some o =>
    refine ⟨(Array.getElem?_eq_some_iff.1 hb).1, ?_⟩
    rw [hb] at h
    by_cases hs : a.spot.isSome
    · cases o <;> simp [hs] at h
    · simpa using hs
theorem add_plain (b off j : Nat) : (⟨b, off, none⟩ : Addr).add j = ⟨b, off + j, none⟩ := by unfold Addr.add; split <;> simp_all
theorem add_zero (a : Addr) : a.add 0 = a := by unfold Addr.add; simp

section
variable {H : Type} {enc : TypeId × Value → H} {w : World}
/-- A slice of numbers that came in. -/
theorem open_sl {b0 : Nat} {v : Value} {d : DataW H} {p : List MemPlace} (hv : Value.okWide Try.prog w .any b0 39 v) (h : DataW.Trod enc Try.prog w 0 (fun _ => true) true 39 v d p) :
    ∃ (A : Option Addr) (n c : Nat) (l : List C), v = .slice A n c ∧ Sl w A n c l := by
  obtain ⟨A, n, c, rfl⟩ := okWide_slice Try.underlying39 hv
  obtain ⟨fuel, hf⟩ := h
  rcases Deep.open_slice Try.underlying39 hf with ⟨hcs, _⟩ | ⟨a, len, cap, m, n', D, Pl, hcs, _, hlc, hcm, hm, _, hel⟩
  · simp [Value.cells] at hcs
    obtain ⟨rfl, rfl, rfl⟩ := hcs
    exact ⟨none, 0, 0, [], rfl, Sl.nil _ _⟩
  · simp [Value.cells] at hcs
    obtain ⟨rfl, rfl, rfl⟩ := hcs
    simp only [if_true] at hm
    have hC : Try.prog.cellsOf 23 = 3 := by kernel_rfl
    have key : ∀ i, ∃ x : C, i < n → w.cell? (a.add (i * 3)) = some (.int .i64 x.1) ∧ w.cell? ((a.add (i * 3)).add 1) = some (.int .i64 x.2.1) ∧ w.cell? ((a.add (i * 3)).add 2) = some (.int .i64 x.2.2) := by
      intro i
      by_cases hi : i < n
      · obtain ⟨cs', hc, ht⟩ := hel i (by omega)
        rw [hC] at hc
        obtain ⟨_, hlen, hget⟩ := World.cells?_some hc
        obtain ⟨y0, y1, y2, k, _, _, h0, h1, h2⟩ := Deep.trod_struct3 Try.underlying23 ht
        match cs', hlen with
        | [u0, u1, u2], _ =>
          have e0 : Try.prog.cellsOf 3 = 1 := by kernel_rfl
          simp only [e0, List.drop_zero, List.take_succ_cons, List.take_zero, List.drop_succ_cons] at h0 h1 h2
          obtain ⟨x0, hx0, _, _⟩ := DataW.trod_int Try.underlying3 h0
          obtain ⟨x1, hx1, _, _⟩ := DataW.trod_int Try.underlying3 h1
          obtain ⟨x2, hx2, _, _⟩ := DataW.trod_int Try.underlying3 h2
          injection hx0 with hx0
          injection hx1 with hx1
          injection hx2 with hx2
          refine ⟨(x0, x1, x2), fun _ => ⟨?_, ?_, ?_⟩⟩
          · have := hget 0 (by decide)
            rw [add_zero] at this
            rw [this, ← hx0]; rfl
          · rw [hget 1 (by decide), ← hx1]; rfl
          · rw [hget 2 (by decide), ← hx2]; rfl
      · exact ⟨(0, 0, 0), fun h => absurd h hi⟩
    obtain ⟨f, hf2⟩ := Classical.axiomOfChoice key
    refine ⟨some a, n, c, (List.range n).map f, rfl, by simp, hlc, fun hn => ?_⟩
    have h00 := (hf2 0 hn).1
    have hl := cell_lt h00
    rw [Nat.zero_mul, add_zero] at hl
    obtain ⟨b, off, sp⟩ := a
    simp only at hl
    obtain ⟨hl1, rfl⟩ := hl
    refine ⟨b, off, rfl, hl1, fun i hi => ?_⟩
    obtain ⟨k0, k1, k2⟩ := hf2 i hi
    rw [add_plain] at k0
    rw [add_plain, add_plain] at k1 k2
    have e : ((List.range n).map f).getD i (0, 0, 0) = f i := by simp [List.getD, hi]
    unfold cT cS cR
    rw [e]
    exact ⟨k0, k1, k2⟩
end
end Go.Proofs.Yteidbomkbddliaa.Csn
