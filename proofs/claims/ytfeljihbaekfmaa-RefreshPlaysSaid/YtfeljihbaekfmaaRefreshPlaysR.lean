/-
  RefreshPlays holds: for every two lengths, every script and every instant the law returns true. No condition.
-/
import Derived.Test.YtfeljihbaekfmaaRfRow
import Derived.Test.YtfeljihbaekfmaaRfRp
namespace Go.Proofs.Ytfeljihbaekfmaa
open Go.ChangeShapes Go.WideShapes Go.ChangeAt Go.RowKit

/-- The walk's step, for every argument and every world of the row. -/
theorem refreshPlays_contract (H : Type) (enc : TypeId × Value → H) (W : World) (base : Nat) (args : Array Value) (ds gs : List (DataW H)) (before : List MemPlace)
    (hval : ∀ (j : Nat) t v, Try.f3.params[j]? = some t → args[j]? = some v → Value.okWide Try.prog W .any base t v)
    (hW : DataW.Whole enc Try.prog Try.f3.params.toList Rows.refreshPlaysSpec.vars false W args.toList ds gs before) (hsh : W.ShapedOpen Try.prog) :
    Calls Try.prog 3 args W fun e W' => ∃ v, e = .returned v ∧ Rows.refreshPlaysSpec.post enc Try.prog Try.f3 false true false false W args v W' := by
  have hW' := hW
  obtain ⟨p, q, hA0, hV, rfl, hfz, hnd⟩ := hW
  have hA : DataW.TrodAll enc Try.prog W 0 (fun _ => true) true Try.f3.params.toList args.toList ds p := hA0
  rw [Try.params3] at hA hval
  obtain ⟨v0, v1, v2, v3, d0, d1, d2, d3, p0, p1, p2, p3, rfl, rfl, rfl, h0, h1, h2, h3⟩ := trodAll_four hA
  obtain ⟨rfl, rfl⟩ := trodVars_none hV
  obtain ⟨n0, rfl, rfl, rfl, w0⟩ := open_int Try.underlying3 (hval 0 3 v0 rfl rfl) h0
  obtain ⟨n1, rfl, rfl, rfl, w1⟩ := open_int Try.underlying3 (hval 1 3 v1 rfl rfl) h1
  obtain ⟨A2, m2, c2, l2, rfl, hs2⟩ := Rf.open_ops (hval 2 22 v2 rfl rfl) h2
  obtain ⟨n3, rfl, rfl, rfl, w3⟩ := open_int Try.underlying3 (hval 3 3 v3 rfl rfl) h3
  clear hA0 hval hA
  refine (Rf.plays_any W n0 n1 n3 A2 m2 c2 l2 hs2 (Rf.mx_of hsh)).mono fun e W' ⟨he, hg⟩ => ?_
  subst he
  exact ⟨_, rfl, post_law (tb := 4) Rf.laid Try.underlying4 (by kernel_rfl) (fun t ht => Rf.readable t (by rw [Try.params3] at ht; simp at ht; first | (rcases ht with h | h | h | h | h <;> simp [h]; done) | (rcases ht with h | h | h | h <;> simp [h]; done) | (rcases ht with h | h | h <;> simp [h]; done) | (rcases ht with h | h <;> simp [h]; done) | (simp [ht]; done))) rfl hW' rfl rfl rfl hg⟩

set_option maxRecDepth 100000 in
theorem refreshPlays_lifted (os : Os) (started : os.Started) (H : Type) (enc : TypeId × Value → H) (F : Stop.Interp) :
    ReturnsInHanded {} Try.checked os 3 .any ((OpenSpec.ofChange Rows.refreshPlaysSpec).preRow enc Try.prog Try.f3 Rows.refreshPlaysRow.domain false Rows.refreshPlaysRow.laid) (((OpenSpec.ofChange Rows.refreshPlaysSpec).at F).post enc Try.prog Try.f3 false true false false) := by
  have hx : ∃ places, DataW.whole enc Try.prog ((World.laidAll Try.prog os Rows.refreshPlaysRow.laid).forCall (fun _ _ => 0) ⟨#[], #[.int .i64 0, .int .i64 0, .slice none 0 0, .int .i64 0], []⟩).memory Try.f3.params.toList Rows.refreshPlaysSpec.vars false #[.int .i64 0, .int .i64 0, .slice none 0 0, .int .i64 0].toList 8 = some ([.lit (.int .i64 0), .lit (.int .i64 0), .nil, .lit (.int .i64 0)], [], places) := ⟨[], by kernel_rfl⟩
  obtain ⟨places, hx⟩ := hx
  refine returnsInHanded_of_row (C := Try.checked) (s := OpenSpec.ofChange Rows.refreshPlaysSpec) Rf.own started (by kernel_rfl) Try.func3
    (witness_row_at (enc := enc) (C := Try.checked) false (World.laidAll Try.prog os Rows.refreshPlaysRow.laid) #[.int .i64 0, .int .i64 0, .slice none 0 0, .int .i64 0] (World.laidAll_os _ _ _) (by kernel_rfl) (by kernel_rfl) (by kernel_rfl)
      (OpenSpec.preRow_of_cond 8 hx (by kernel_rfl) (fun k hk => by cases hk) (by kernel_rfl) (by rw [MakeChecks.laidMetH_plain _ _ _ (by kernel_rfl)]; exact laidMet_laidAll _ (by kernel_rfl) (by kernel_rfl)))) ?_
  intro W base args ds gs before hval hW _ _ _ _ hsh _
  exact refreshPlays_contract H enc W base args ds gs before hval hW hsh

/-- The law's row. -/
theorem refreshPlays_holds : Rows.RefreshPlaysSaid :=
  OpenClaim.holds_of_cond 3 Try.f3 rfl rfl rfl rfl rfl rfl rfl ⟨rfl, rfl, rfl, rfl, rfl⟩ rfl rfl rfl rfl rfl (by kernel_rfl) Try.func3 (by kernel_rfl)
    (of_decide_eq_true (by kernel_rfl)) (by unfold Func.isWrapper; first | (rw [if_pos (by decide +kernel)]; kernel_rfl) | (rw [if_neg (by decide +kernel)]; exact ⟨rfl, rfl⟩))
    (fun os started H enc _ F => by rw [OpenClaim.pre_eq_preRow]; exact refreshPlays_lifted os started H enc F)
#print axioms refreshPlays_holds
end Go.Proofs.Ytfeljihbaekfmaa
