/-
  CsnOrders holds: for every three numbers the law returns true. No condition.
-/
import Derived.Test.YteidbomkbddliaaCsnX
import Derived.Test.YteidbomkbddliaaCsnY
import Derived.Test.YteidbomkbddliaaLawRow
import Derived.Test.YteidbomkbddliaaRows
import Derived.Lib.SmallJoins
namespace Go.Proofs.Yteidbomkbddliaa
open Go.ChangeShapes Go.WideShapes Go.ChangeAt Go.RowKit

theorem laws_laid : laidOutB Try.prog = true := by kernel_rfl
theorem readable_orders : ∀ t ∈ Try.f3.params.toList, Try.prog.readableRec t = true ∧ t < Try.prog.types.size := by
  rw [Try.params3]
  intro t ht
  simp at ht
  subst ht
  exact ⟨by kernel_rfl, of_decide_eq_true (by kernel_rfl)⟩
theorem laws_own : ownKnob Try.prog.godebug = none := by kernel_rfl
section
variable {H : Type} {enc : TypeId × Value → H} {w : World} {base : Nat} {spare : Nat → Bool} {held : Bool}
/-- A number that came in. -/
theorem open_csn {b0 : Nat} {v : Value} {d : DataW H} {p : List MemPlace} (hv : Value.okWide Try.prog w .any b0 23 v) (h : DataW.Trod enc Try.prog w base spare held 23 v d p) :
    ∃ t s r : Int, v = .agg #[.int .i64 t, .int .i64 s, .int .i64 r] ∧ (Lit.int .i64 t).wf = true ∧ (Lit.int .i64 s).wf = true ∧ (Lit.int .i64 r).wf = true := by
  obtain ⟨v0, v1, v2, y0, y1, y2, n, rfl, _, _, h0, h1, h2⟩ := Joins.open_agg3 Try.underlying23 (by kernel_rfl) (by kernel_rfl) hv h
  obtain ⟨a, ha, _, wa⟩ := DataW.trod_int Try.underlying3 h0
  obtain ⟨b, hb, _, wb⟩ := DataW.trod_int Try.underlying3 h1
  obtain ⟨c, hc, _, wc⟩ := DataW.trod_int Try.underlying3 h2
  injection ha with ha
  injection hb with hb
  injection hc with hc
  subst ha; subst hb; subst hc
  exact ⟨a, b, c, rfl, wa, wb, wc⟩
end

set_option maxRecDepth 100000 in
theorem csnOrders_lifted (os : Os) (started : os.Started) (H : Type) (enc : TypeId × Value → H) :
    ReturnsInHanded {} Try.checked os 3 .any (Rows.csnOrdersSpec.pre6 enc Try.prog Try.f3 Rows.csnOrdersRow.domain false) (Rows.csnOrdersSpec.post enc Try.prog Try.f3 false true false false) := by
  refine returnsInHanded_of_change (C := Try.checked) laws_own started (by kernel_rfl) Try.func3
    (ChangeSpec.witness6 (enc := enc) (C := Try.checked) false ⟨#[], #[.agg #[.int .i64 0, .int .i64 0, .int .i64 0], .agg #[.int .i64 0, .int .i64 0, .int .i64 0], .agg #[.int .i64 0, .int .i64 0, .int .i64 0]], []⟩ 8 (by kernel_rfl) (by kernel_rfl) (by kernel_rfl) (by kernel_rfl)) ?_
  intro W base args ds gs before hval0 hW hcnd _
  have hval : ∀ (j : Nat) t v, Try.f3.params[j]? = some t → args[j]? = some v → Value.okWide Try.prog W .any base t v := hval0
  have hW' := hW
  obtain ⟨p, q, hA0, hV, rfl, hfz, hnd⟩ := hW
  have hA : DataW.TrodAll enc Try.prog W 0 (fun _ => true) true Try.f3.params.toList args.toList ds p := hA0
  rw [Try.params3] at hA hval
  obtain ⟨v0, v1, v2, d0, d1, d2, p0, p1, p2, rfl, rfl, rfl, h0, h1, h2⟩ := trodAll_three hA
  obtain ⟨rfl, rfl⟩ := trodVars_none hV
  obtain ⟨t, s, r, rfl, _, _, _⟩ := open_csn (hval 0 23 v0 rfl rfl) h0
  obtain ⟨t', s', r', rfl, _, _, _⟩ := open_csn (hval 1 23 v1 rfl rfl) h1
  obtain ⟨t'', s'', r'', rfl, _, _, _⟩ := open_csn (hval 2 23 v2 rfl rfl) h2
  clear hA0 hval0 hA hval
  refine (Csn.orders_any Csn.live_any t s r t' s' r' t'' s'' r'' W).mono fun e W' ⟨he, hg⟩ => ?_
  subst he
  exact ⟨_, rfl, post_law (tb := 4) laws_laid Try.underlying4 (by kernel_rfl) (fun t ht => readable_orders t ht) rfl hW' rfl rfl rfl hg⟩

theorem csnOrders_holds : Rows.CsnOrdersSaid :=
  OpenClaim.holds_of_wide 3 Try.f3 rfl rfl rfl rfl rfl rfl rfl ⟨rfl, rfl, rfl, rfl, rfl⟩ rfl rfl rfl rfl rfl (by kernel_rfl) Try.func3 (by kernel_rfl)
    (of_decide_eq_true (by kernel_rfl)) (by unfold Func.isWrapper; first | (rw [if_pos (by decide +kernel)]; kernel_rfl) | (rw [if_neg (by decide +kernel)]; exact ⟨rfl, rfl⟩))
    (fun os started H enc _ => csnOrders_lifted os started H enc)
#print axioms csnOrders_holds
end Go.Proofs.Yteidbomkbddliaa
