/-
  DevflowNil holds: for every operation the law returns true. No condition.
-/
import Derived.Test.YtapooonlbjgbgaaDoorDvRow
import Derived.Test.YtapooonlbjgbgaaDoorDvL2
namespace Go.Proofs.YtapooonlbjgbgaaDoor
open Go.ChangeShapes Go.WideShapes Go.ChangeAt Go.RowKit

set_option maxRecDepth 100000 in
/-- The walk's step, for every argument and every world of the row. -/
theorem devflowNil_contract (H : Type) (enc : TypeId × Value → H) (W : World) (base : Nat) (args : Array Value) (ds gs : List (DataW H)) (before : List MemPlace)
    (hval : ∀ (j : Nat) t v, Tryd.f8.params[j]? = some t → args[j]? = some v → Value.okWide Tryd.prog W .any base t v)
    (hW : DataW.Whole enc Tryd.prog Tryd.f8.params.toList Rows.devflowNilSpec.vars false W args.toList ds gs before) (hsh : W.ShapedOpen Tryd.prog) :
    Calls Tryd.prog 8 args W fun e W' => ∃ v, e = .returned v ∧ Rows.devflowNilSpec.post enc Tryd.prog Tryd.f8 false true false false W args v W' := by
  have hW' := hW
  obtain ⟨p, q, hA0, hV, rfl, hfz, hnd⟩ := hW
  have hA : DataW.TrodAll enc Tryd.prog W 0 (fun _ => true) true Tryd.f8.params.toList args.toList ds p := hA0
  rw [Tryd.params8] at hA hval
  obtain ⟨v0, d0, p0, rfl, rfl, rfl, h0⟩ := Dv.trodAll_one' hA
  obtain ⟨rfl, rfl⟩ := trodVars_none hV
  obtain ⟨X0, A0, c0, B0, d0, rfl, hs0, ht0, hu0, hv0⟩ := Dv.open_op (hval 0 41 v0 rfl rfl) h0
  clear hA0 hval hA
  refine (Dv.nil_any W X0 A0 c0 B0 d0 hs0 ht0 hu0 hv0 (Dv.mx_of hsh)).mono fun e W' ⟨he, hg⟩ => ?_
  subst he
  exact ⟨_, rfl, post_law (tb := 4) Dv.laid Tryd.underlying4 (by kernel_rfl) (fun t ht => Dv.readable t (by rw [Tryd.params8] at ht; simp at ht; first | (rcases ht with h | h | h | h | h | h <;> simp [h]; done) | (rcases ht with h | h | h | h | h <;> simp [h]; done) | (rcases ht with h | h | h | h <;> simp [h]; done) | (rcases ht with h | h | h <;> simp [h]; done) | (rcases ht with h | h <;> simp [h]; done) | (simp [ht]; done))) rfl hW' rfl rfl rfl hg⟩

set_option maxRecDepth 100000 in
theorem devflowNil_lifted (os : Os) (started : os.Started) (H : Type) (enc : TypeId × Value → H) (F : Stop.Interp) :
    ReturnsInHanded {} Tryd.checked os 8 .any ((OpenSpec.ofChange Rows.devflowNilSpec).preRow enc Tryd.prog Tryd.f8 Rows.devflowNilRow.domain false Rows.devflowNilRow.laid) (((OpenSpec.ofChange Rows.devflowNilSpec).at F).post enc Tryd.prog Tryd.f8 false true false false) := by
  have hx : ∃ places, DataW.whole enc Tryd.prog ((World.laidAll Tryd.prog os Rows.devflowNilRow.laid).forCall (fun _ _ => 0) ⟨#[], #[.agg #[.int .i64 0, .string ⟨#[]⟩, .string ⟨#[]⟩, .string ⟨#[]⟩, .slice none 0 0, .string ⟨#[]⟩, .string ⟨#[]⟩, .string ⟨#[]⟩, .string ⟨#[]⟩, .string ⟨#[]⟩, .string ⟨#[]⟩, .string ⟨#[]⟩, .int .i64 0, .slice none 0 0, .int .i64 0, .int .i64 0, .int .i64 0]], []⟩).memory Tryd.f8.params.toList Rows.devflowNilSpec.vars false #[.agg #[.int .i64 0, .string ⟨#[]⟩, .string ⟨#[]⟩, .string ⟨#[]⟩, .slice none 0 0, .string ⟨#[]⟩, .string ⟨#[]⟩, .string ⟨#[]⟩, .string ⟨#[]⟩, .string ⟨#[]⟩, .string ⟨#[]⟩, .string ⟨#[]⟩, .int .i64 0, .slice none 0 0, .int .i64 0, .int .i64 0, .int .i64 0]].toList 8 = some ([.agg [.lit (.int .i64 0), .lit (.string []), .lit (.string []), .lit (.string []), .nil, .agg [.lit (.string []), .lit (.string []), .lit (.string []), .lit (.string []), .lit (.string []), .lit (.string []), .lit (.string []), .lit (.int .i64 0), .nil, .lit (.int .i64 0), .lit (.int .i64 0)], .lit (.int .i64 0)]], [], places) := ⟨[], by kernel_rfl⟩
  obtain ⟨places, hx⟩ := hx
  refine returnsInHanded_of_row (C := Tryd.checked) (s := OpenSpec.ofChange Rows.devflowNilSpec) Dv.own started (by kernel_rfl) Tryd.func8
    (witness_row_at (enc := enc) (C := Tryd.checked) false (World.laidAll Tryd.prog os Rows.devflowNilRow.laid) #[.agg #[.int .i64 0, .string ⟨#[]⟩, .string ⟨#[]⟩, .string ⟨#[]⟩, .slice none 0 0, .string ⟨#[]⟩, .string ⟨#[]⟩, .string ⟨#[]⟩, .string ⟨#[]⟩, .string ⟨#[]⟩, .string ⟨#[]⟩, .string ⟨#[]⟩, .int .i64 0, .slice none 0 0, .int .i64 0, .int .i64 0, .int .i64 0]] (World.laidAll_os _ _ _) (by kernel_rfl) (by kernel_rfl) (by kernel_rfl)
      (OpenSpec.preRow_of_cond 8 hx (by kernel_rfl) (fun k hk => by cases hk) (by kernel_rfl) (by rw [MakeChecks.laidMetH_plain _ _ _ (by kernel_rfl)]; exact laidMet_laidAll _ (by kernel_rfl) (by kernel_rfl)))) ?_
  intro W base args ds gs before hval hW _ _ _ _ hsh _
  exact devflowNil_contract H enc W base args ds gs before hval hW hsh

/-- The law's row. -/
theorem devflowNil_said : Rows.DevflowNilSaid :=
  OpenClaim.holds_of_cond 8 Tryd.f8 rfl rfl rfl rfl rfl rfl rfl ⟨rfl, rfl, rfl, rfl, rfl⟩ rfl rfl rfl rfl rfl (by kernel_rfl) Tryd.func8 (by kernel_rfl)
    (of_decide_eq_true (by kernel_rfl)) (by unfold Func.isWrapper; first | (rw [if_pos (by decide +kernel)]; kernel_rfl) | (rw [if_neg (by decide +kernel)]; exact ⟨rfl, rfl⟩))
    (fun os started H enc _ F => by rw [OpenClaim.pre_eq_preRow]; exact devflowNil_lifted os started H enc F)
theorem devflowNil_plain (f : FuncId) (fn : Func) (hf : Tryd.pinned.checked.prog.funcNamed Rows.devflowNilRow.func = some f) (hfn : Tryd.pinned.checked.prog.funcs[f]? = some fn) :
    false = Tryd.pinned.checked.prog.looks [] ∧ ∀ (j : Nat) t, fn.params[j]? = some t → Tryd.pinned.checked.prog.wantsStandIn t = false := by
  obtain rfl : f = 8 := Option.some.inj ((show Tryd.prog.funcNamed Rows.devflowNilRow.func = some 8 by kernel_rfl).symm.trans hf) |>.symm
  obtain rfl : fn = Tryd.f8 := (Option.some.inj (Tryd.func8.symm.trans hfn)).symm
  refine ⟨by kernel_rfl, fun j t ht => ?_⟩
  rw [Tryd.params8] at ht
  have ht := Array.mem_of_getElem? ht
  exact Dv.noStand t (by simp at ht; first | (rcases ht with h | h | h | h | h | h <;> simp [h]; done) | (rcases ht with h | h | h | h | h <;> simp [h]; done) | (rcases ht with h | h | h | h <;> simp [h]; done) | (rcases ht with h | h | h <;> simp [h]; done) | (rcases ht with h | h <;> simp [h]; done) | (simp [ht]; done))
/-- The card. -/
theorem devflowNil_holds : Rows.DevflowNilCardSaid :=
  Claim7.holds_tied_plain_at .later [] _ _ _ _ devflowNil_said (fun _ h => by cases h) (by kernel_rfl) (fun _ h => by cases h) devflowNil_row_tie rfl ⟨rfl, rfl⟩ (by kernel_rfl) rfl devflowNil_plain (by kernel_rfl)
#print axioms devflowNil_holds
end Go.Proofs.YtapooonlbjgbgaaDoor
