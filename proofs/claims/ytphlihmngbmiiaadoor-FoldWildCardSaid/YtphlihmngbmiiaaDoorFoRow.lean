/-
  What the laws' rows of layer 1 share: the program's facts, the witness' world, the shape, strings and slices of strings that come in; the step from a walk to the row.
-/
import Derived.Test.YtphlihmngbmiiaaDoorFoN
import Derived.Test.YtphlihmngbmiiaaDoorLawRow
import Derived.Test.YtphlihmngbmiiaaDoorCards
import Derived.Test.YtphlihmngbmiiaaDoorTie
import Derived.Deep.DeepHandedRow
import Derived.LaidMore
import Derived.Lay
import Derived.SevenTiedAt
import Derived.Shelf.LaysM
import Derived.ChangeMaps5
import Derived.SliceStrings
import Derived.Lib.SmallJoins
namespace Go.Proofs.YtphlihmngbmiiaaDoor.Fo
open Go.ChangeShapes Go.WideShapes Go.ChangeAt Go.RowKit

theorem laid : laidOutB Tryd.prog = true := by kernel_rfl
theorem own : ownKnob Tryd.prog.godebug = none := by kernel_rfl
theorem readable (t : TypeId) (h : t = 9 ∨ t = 27 ∨ t = 5) : Tryd.prog.readableRec t = true ∧ t < Tryd.prog.types.size := by
  rcases h with rfl | rfl | rfl
  · exact ⟨by kernel_rfl, of_decide_eq_true (by kernel_rfl)⟩
  · exact ⟨by kernel_rfl, of_decide_eq_true (by kernel_rfl)⟩
  · exact ⟨by kernel_rfl, of_decide_eq_true (by kernel_rfl)⟩
theorem noStand (t : TypeId) (h : t = 9 ∨ t = 27 ∨ t = 5) : Tryd.pinned.checked.prog.wantsStandIn t = false := by
  rcases h with rfl | rfl | rfl
  · exact (show Tryd.prog.wantsStandIn 9 = false by kernel_rfl)
  · exact (show Tryd.prog.wantsStandIn 27 = false by kernel_rfl)
  · exact (show Tryd.prog.wantsStandIn 5 = false by kernel_rfl)
theorem mx_of {w : World} (h : w.ShapedOpen Tryd.prog) : MX w :=
  Go.Proofs.cell_of_shapedOpen_int (zero := #[.int .i64 0]) (t := 3) h (of_decide_eq_true (by kernel_rfl)) (by kernel_rfl) rfl (by kernel_rfl) (by kernel_rfl) Tryd.underlying3
end Go.Proofs.YtphlihmngbmiiaaDoor.Fo
