/-
  DevflowPatience holds: for every interval and waits the law returns true. No condition.
-/
import Derived.Test.YtapooonlbjgbgaaDoorDvRow2
namespace Go.Proofs.YtapooonlbjgbgaaDoor
open Go.ChangeShapes Go.WideShapes Go.ChangeAt Go.RowKit

set_option maxRecDepth 100000 in
/-- The walk's step, for every argument and every world of the row. -/
theorem devflowPatience_contract (H : Type) (enc : TypeId × Value → H) (W : World) (base : Nat) (args : Array Value) (ds gs : List (DataW H)) (before : List MemPlace)
    (hval : ∀ (j : Nat) t v, Tryd.f7.params[j]? = some t → args[j]? = some v → Value.okWide Tryd.prog W .any base t v)
    (hW : DataW.Whole enc Tryd.prog Tryd.f7.params.toList Rows.devflowPatienceSpec.vars false W args.toList ds gs before) (hsh : W.ShapedOpen Tryd.prog) :
    Calls Tryd.prog 7 args W fun e W' => ∃ v, e = .returned v ∧ Rows.devflowPatienceSpec.post enc Tryd.prog Tryd.f7 false true false false W args v W' := by
  have hW' := hW
  obtain ⟨p, q, hA0, hV, rfl, hfz, hnd⟩ := hW
  have hA : DataW.TrodAll enc Tryd.prog W 0 (fun _ => true) true Tryd.f7.params.toList args.toList ds p := hA0
  rw [Tryd.params7] at hA hval
  obtain ⟨v0, v1, d0, d1, p0, p1, rfl, rfl, rfl, h0, h1⟩ := Dv.trodAll_two' hA
  obtain ⟨rfl, rfl⟩ := trodVars_none hV
  obtain ⟨n0, rfl, rfl, rfl, w0⟩ := open_int Tryd.underlying5 (hval 0 5 v0 rfl rfl) h0
  obtain ⟨A1, n1, c1, l1, rfl, hs1⟩ := Dv.open_u8s (hval 1 61 v1 rfl rfl) h1
  clear hA0 hval hA
  refine (Dv.pat_any W n0 A1 _ c1 l1 (Dv.u8_wf w0) hs1 (Dv.mx_of hsh)).mono fun e W' ⟨he, hg⟩ => ?_
  subst he
  exact ⟨_, rfl, post_law (tb := 4) Dv.laid Tryd.underlying4 (by kernel_rfl) (fun t ht => Dv.readable t (by rw [Tryd.params7] at ht; simp at ht; first | (rcases ht with h | h | h | h | h | h <;> simp [h]; done) | (rcases ht with h | h | h | h | h <;> simp [h]; done) | (rcases ht with h | h | h | h <;> simp [h]; done) | (rcases ht with h | h | h <;> simp [h]; done) | (rcases ht with h | h <;> simp [h]; done) | (simp [ht]; done))) rfl hW' rfl rfl rfl hg⟩

set_option maxRecDepth 100000 in
theorem devflowPatience_lifted (os : Os) (started : os.Started) (H : Type) (enc : TypeId × Value → H) (F : Stop.Interp) :
    ReturnsInHanded {} Tryd.checked os 7 .any ((OpenSpec.ofChange Rows.devflowPatienceSpec).preRow enc Tryd.prog Tryd.f7 Rows.devflowPatienceRow.domain false Rows.devflowPatienceRow.laid) (((OpenSpec.ofChange Rows.devflowPatienceSpec).at F).post enc Tryd.prog Tryd.f7 false true false false) := by
  have hx : ∃ places, DataW.whole enc Tryd.prog ((World.laidAll Tryd.prog os Rows.devflowPatienceRow.laid).forCall (fun _ _ => 0) ⟨#[], #[.int .u8 0, .slice none 0 0], []⟩).memory Tryd.f7.params.toList Rows.devflowPatienceSpec.vars false #[.int .u8 0, .slice none 0 0].toList 8 = some ([.lit (.int .u8 0), .nil], [], places) := ⟨[], by kernel_rfl⟩
  obtain ⟨places, hx⟩ := hx
  refine returnsInHanded_of_row (C := Tryd.checked) (s := OpenSpec.ofChange Rows.devflowPatienceSpec) Dv.own started (by kernel_rfl) Tryd.func7
    (witness_row_at (enc := enc) (C := Tryd.checked) false (World.laidAll Tryd.prog os Rows.devflowPatienceRow.laid) #[.int .u8 0, .slice none 0 0] (World.laidAll_os _ _ _) (by kernel_rfl) (by kernel_rfl) (by kernel_rfl)
      (OpenSpec.preRow_of_cond 8 hx (by kernel_rfl) (fun k hk => by cases hk) (by kernel_rfl) (by rw [MakeChecks.laidMetH_plain _ _ _ (by kernel_rfl)]; exact laidMet_laidAll _ (by kernel_rfl) (by kernel_rfl)))) ?_
  intro W base args ds gs before hval hW _ _ _ _ hsh _
  exact devflowPatience_contract H enc W base args ds gs before hval hW hsh

/-- The law's row. -/
theorem devflowPatience_said : Rows.DevflowPatienceSaid :=
  OpenClaim.holds_of_cond 7 Tryd.f7 rfl rfl rfl rfl rfl rfl rfl ⟨rfl, rfl, rfl, rfl, rfl⟩ rfl rfl rfl rfl rfl (by kernel_rfl) Tryd.func7 (by kernel_rfl)
    (of_decide_eq_true (by kernel_rfl)) (by unfold Func.isWrapper; first | (rw [if_pos (by decide +kernel)]; kernel_rfl) | (rw [if_neg (by decide +kernel)]; exact ⟨rfl, rfl⟩))
    (fun os started H enc _ F => by rw [OpenClaim.pre_eq_preRow]; exact devflowPatience_lifted os started H enc F)
theorem devflowPatience_plain (f : FuncId) (fn : Func) (hf : Tryd.pinned.checked.prog.funcNamed Rows.devflowPatienceRow.func = some f) (hfn : Tryd.pinned.checked.prog.funcs[f]? = some fn) :
    false = Tryd.pinned.checked.prog.looks [] ∧ ∀ (j : Nat) t, fn.params[j]? = some t → Tryd.pinned.checked.prog.wantsStandIn t = false := by
  obtain rfl : f = 7 := Option.some.inj ((show Tryd.prog.funcNamed Rows.devflowPatienceRow.func = some 7 by kernel_rfl).symm.trans hf) |>.symm
  obtain rfl : fn = Tryd.f7 := (Option.some.inj (Tryd.func7.symm.trans hfn)).symm
  refine ⟨by kernel_rfl, fun j t ht => ?_⟩
  rw [Tryd.params7] at ht
  have ht := Array.mem_of_getElem? ht
  exact Dv.noStand t (by simp at ht; first | (rcases ht with h | h | h | h | h | h <;> simp [h]; done) | (rcases ht with h | h | h | h | h <;> simp [h]; done) | (rcases ht with h | h | h | h <;> simp [h]; done) | (rcases ht with h | h | h <;> simp [h]; done) | (rcases ht with h | h <;> simp [h]; done) | (simp [ht]; done))
/-- The card. -/
theorem devflowPatience_holds : Rows.DevflowPatienceCardSaid :=
  Claim7.holds_tied_plain_at .later [] _ _ _ _ devflowPatience_said (fun _ h => by cases h) (by kernel_rfl) (fun _ h => by cases h) devflowPatience_row_tie rfl ⟨rfl, rfl⟩ (by kernel_rfl) rfl devflowPatience_plain (by kernel_rfl)
#print axioms devflowPatience_holds
end Go.Proofs.YtapooonlbjgbgaaDoor
