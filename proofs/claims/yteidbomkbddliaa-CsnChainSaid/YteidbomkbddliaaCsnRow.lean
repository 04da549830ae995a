/-
  What a law's row of layer 15 opens: numbers, integers.
-/
import Derived.Test.YteidbomkbddliaaCsnX
import Derived.Test.YteidbomkbddliaaCsnY
import Derived.Test.YteidbomkbddliaaLawRow
import Derived.Test.YteidbomkbddliaaRows
import Derived.Lib.SmallJoins
namespace Go.Proofs.Yteidbomkbddliaa.Csn
open Go.ChangeShapes Go.WideShapes Go.ChangeAt Go.RowKit

theorem laid : laidOutB Try.prog = true := by kernel_rfl
theorem own : ownKnob Try.prog.godebug = none := by kernel_rfl
theorem readable (t : TypeId) (h : t = 23 ∨ t = 3 ∨ t = 9 ∨ t = 39 ∨ t = 36) : Try.prog.readableRec t = true ∧ t < Try.prog.types.size := by
  rcases h with rfl | rfl | rfl | rfl | rfl
  · exact ⟨by kernel_rfl, of_decide_eq_true (by kernel_rfl)⟩
  · exact ⟨by kernel_rfl, of_decide_eq_true (by kernel_rfl)⟩
  · exact ⟨by kernel_rfl, of_decide_eq_true (by kernel_rfl)⟩
  · exact ⟨by kernel_rfl, of_decide_eq_true (by kernel_rfl)⟩
  · exact ⟨by kernel_rfl, of_decide_eq_true (by kernel_rfl)⟩
section
variable {H : Type} {enc : TypeId × Value → H} {w : World} {base : Nat} {spare : Nat → Bool} {held : Bool}
/-- A number that came in. -/
theorem open_csn {b0 : Nat} {v : Value} {d : DataW H} {p : List MemPlace} (hv : Value.okWide Try.prog w .any b0 23 v) (h : DataW.Trod enc Try.prog w base spare held 23 v d p) :
    ∃ t s r : Int, v = .agg #[.int .i64 t, .int .i64 s, .int .i64 r] ∧ (Lit.int .i64 t).wf = true ∧ (Lit.int .i64 s).wf = true ∧ (Lit.int .i64 r).wf = true := by
  obtain ⟨v0, v1, v2, y0, y1, y2, n, rfl, _, _, h0, h1, h2⟩ := Joins.open_agg3 Try.underlying23 (by kernel_rfl) (by kernel_rfl) hv h
  obtain ⟨a, ha, _, wa⟩ := DataW.trod_int Try.underlying3 h0
  obtain ⟨b, hb, _, wb⟩ := DataW.trod_int Try.underlying3 h1
  obtain ⟨c, hc, _, wc⟩ := DataW.trod_int Try.underlying3 h2
  injection ha with ha
  injection hb with hb
  injection hc with hc
  subst ha; subst hb; subst hc
  exact ⟨a, b, c, rfl, wa, wb, wc⟩
end
end Go.Proofs.Yteidbomkbddliaa.Csn
