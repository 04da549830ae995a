/-
  What a law's row of layer 1 opens: slices of strings.
-/
import Derived.Test.YtphlihmngbmiiaaDoorFoRow
namespace Go.Proofs.YtphlihmngbmiiaaDoor.Fo
open Go.ChangeShapes Go.WideShapes Go.ChangeAt Go.RowKit

theorem cell_lt {w : World} {a : Addr} {u : Value} (h : w.cell? a = some u) : a.block < w.heap.size ∧ a.spot = none := by
  unfold World.cell? at h
  cases hb : w.heap[a.block]? with
  | none => simp [hb] at h
  | some o =>
    refine ⟨(Array.getElem?_eq_some_iff.1 hb).1, ?_⟩
    rw [hb] at h
    by_cases hs : a.spot.isSome
    · cases o <;> simp [hs] at h
    · simpa using hs
theorem add_plain (b off j : Nat) : (⟨b, off, none⟩ : Addr).add j = ⟨b, off + j, none⟩ := by unfold Addr.add; split <;> simp_all
theorem add_zero (a : Addr) : a.add 0 = a := by unfold Addr.add; simp
section
variable {H : Type} {enc : TypeId × Value → H} {w : World}
/-- A slice of strings that came in. -/
theorem open_ss {b0 : Nat} {v : Value} {d : DataW H} {p : List MemPlace} (hv : Value.okWide Tryd.prog w .any b0 27 v) (h : DataW.Trod enc Tryd.prog w 0 (fun _ => true) true 27 v d p) :
    ∃ (A : Option Addr) (n c : Nat) (l : List ByteArray), v = .slice A n c ∧ Ss w A n c l ∧ n ≤ 9223372036854775807 := by
  obtain ⟨A, n, c, rfl⟩ := okWide_slice Tryd.underlying27 hv
  obtain ⟨fuel, hf⟩ := h
  rcases open_strings Tryd.underlying27 Tryd.underlying9 (by kernel_rfl) hf with ⟨hcs, _⟩ | ⟨a, len, cap, zs, hcs, _, hlc, hcm, hlen, _, hc, _⟩
  · simp [Value.cells] at hcs
    obtain ⟨rfl, rfl, rfl⟩ := hcs
    exact ⟨none, 0, 0, [], rfl, ⟨rfl, Nat.le_refl _, fun h => absurd h (by omega)⟩, by omega⟩
  · simp [Value.cells] at hcs
    obtain ⟨rfl, rfl, rfl⟩ := hcs
    simp only [if_true] at hlen
    unfold maxLen at hcm
    refine ⟨some a, n, c, zs.take n, rfl, ⟨by rw [List.length_take, hlen]; omega, hlc, fun hn => ?_⟩, by omega⟩
    have h00 := hc 0 (by omega)
    have hl := cell_lt h00
    rw [add_zero] at hl
    obtain ⟨b, off, sp⟩ := a
    simp only at hl
    obtain ⟨hl1, rfl⟩ := hl
    refine ⟨b, off, rfl, hl1, fun i hi => ?_⟩
    have := hc i (by omega)
    rw [add_plain] at this
    rw [this]
    congr 2
    simp [sAt, List.getD, hi]
end
end Go.Proofs.YtphlihmngbmiiaaDoor.Fo
