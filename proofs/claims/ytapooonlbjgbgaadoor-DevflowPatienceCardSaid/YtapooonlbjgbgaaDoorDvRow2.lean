/-
  What the row of DevflowPatience opens.
-/
import Derived.Test.YtapooonlbjgbgaaDoorDvRow
import Derived.Test.YtapooonlbjgbgaaDoorDvPa
namespace Go.Proofs.YtapooonlbjgbgaaDoor.Dv
open Go.ChangeShapes Go.WideShapes Go.ChangeAt Go.RowKit Go.Proofs.YtapooonlbjgbgaaDoor.Fo Go.Proofs.YtapooonlbjgbgaaDoor.Rf

section
variable {H : Type} {enc : TypeId × Value → H} {w : World}
theorem u8_wf {n : Int} (h : (Lit.int .u8 n).wf = true) : 0 ≤ n ∧ n ≤ 255 := by
  have := Go.bounds_u8 h
  omega
set_option maxRecDepth 100000 in
theorem open_u8s {b0 : Nat} {v : Value} {d : DataW H} {p : List MemPlace} (hv : Value.okWide Tryd.prog w .any b0 61 v) (h : DataW.Trod enc Tryd.prog w 0 (fun _ => true) true 61 v d p) :
    ∃ (A : Option Addr) (n c : Nat) (l : List Int), v = .slice A n c ∧ Us w A n l := by
  obtain ⟨A, n, c, rfl⟩ := okWide_slice Tryd.underlying61 hv
  obtain ⟨fuel, hf⟩ := h
  rcases Deep.open_slice Tryd.underlying61 hf with ⟨hcs, _⟩ | ⟨a, len, cap, m, n', D, Pl, hcs, _, hlc, hcm, hm, _, hel⟩
  · simp [Value.cells] at hcs
    obtain ⟨rfl, rfl, rfl⟩ := hcs
    exact ⟨none, 0, 0, [], rfl, rfl, by decide, fun i h => absurd h (by omega), fun h => absurd h (by omega)⟩
  · simp [Value.cells] at hcs
    obtain ⟨rfl, rfl, rfl⟩ := hcs
    simp only [if_true] at hm
    have hC : Tryd.prog.cellsOf 5 = 1 := by kernel_rfl
    have key : ∀ i, ∃ x : Int, i < n → (0 ≤ x ∧ x ≤ 255) ∧ w.cell? (a.add i) = some (.int .u8 x) := by
      intro i
      by_cases hi : i < n
      · obtain ⟨cs', hc, ht⟩ := hel i (by omega)
        rw [hC, Nat.mul_one] at hc
        obtain ⟨x, k0, _, hw⟩ := DataW.trod_int Tryd.underlying5 ht
        obtain ⟨_, hlen, hget⟩ := World.cells?_some hc
        subst k0
        refine ⟨x, fun _ => ⟨u8_wf hw, ?_⟩⟩
        have := hget 0 (by omega)
        rw [add_zero] at this
        exact this
      · exact ⟨0, fun h => absurd h hi⟩
    obtain ⟨f, hf2⟩ := Classical.axiomOfChoice key
    have e : ∀ i, i < n → uAt ((List.range n).map f) i = f i := fun i hi => by simp [uAt, List.getD, hi]
    refine ⟨some a, n, c, (List.range n).map f, rfl, by simp, by simp only [maxLen] at hcm; omega, fun i hi => by rw [e i hi]; exact (hf2 i hi).1, fun hn => ?_⟩
    have hl := cell_lt (hf2 0 hn).2
    rw [add_zero] at hl
    obtain ⟨b, off, sp⟩ := a
    simp only at hl
    obtain ⟨hl1, rfl⟩ := hl
    refine ⟨b, off, rfl, hl1, fun i hi => ?_⟩
    rw [e i hi]
    have := (hf2 i hi).2
    rwa [add_plain] at this
end
end Go.Proofs.YtapooonlbjgbgaaDoor.Dv
