/-
  What the row of DevflowOnce opens.
-/
import Derived.Test.YtapooonlbjgbgaaDoorDvRow
import Derived.Test.YtapooonlbjgbgaaDoorDvL3
namespace Go.Proofs.YtapooonlbjgbgaaDoor.Dv
open Go.ChangeShapes Go.WideShapes Go.ChangeAt Go.RowKit Go.Proofs.YtapooonlbjgbgaaDoor.Fo Go.Proofs.YtapooonlbjgbgaaDoor.Rf

section
variable {H : Type} {enc : TypeId × Value → H} {w : World}
set_option maxRecDepth 100000 in
theorem open_ss {b0 : Nat} {v : Value} {d : DataW H} {p : List MemPlace} (hv : Value.okWide Tryd.prog w .any b0 36 v) (h : DataW.Trod enc Tryd.prog w 0 (fun _ => true) true 36 v d p) :
    ∃ (A : Option Addr) (l : List Bs) (c : Nat), v = .slice A l.length c ∧ Ss w A l.length c l ∧ l.length ≤ 9223372036854775807 := by
  obtain ⟨A, n, c, rfl⟩ := okWide_slice Tryd.underlying36 hv
  obtain ⟨fuel, hf⟩ := h
  exact ss_of hf
end
end Go.Proofs.YtapooonlbjgbgaaDoor.Dv
