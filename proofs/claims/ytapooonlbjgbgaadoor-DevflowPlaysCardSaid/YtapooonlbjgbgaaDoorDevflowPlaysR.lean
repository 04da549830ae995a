/-
  DevflowPlays holds: for every life, interval and operations the law returns true. No condition.
-/
import Derived.Test.YtapooonlbjgbgaaDoorDvRow
import Derived.Test.YtapooonlbjgbgaaDoorDvL4
namespace Go.Proofs.YtapooonlbjgbgaaDoor
open Go.ChangeShapes Go.WideShapes Go.ChangeAt Go.RowKit

set_option maxRecDepth 100000 in
/-- The walk's step, for every argument and every world of the row. -/
theorem devflowPlays_contract (H : Type) (enc : TypeId × Value → H) (W : World) (base : Nat) (args : Array Value) (ds gs : List (DataW H)) (before : List MemPlace)
    (hval : ∀ (j : Nat) t v, Tryd.f4.params[j]? = some t → args[j]? = some v → Value.okWide Tryd.prog W .any base t v)
    (hW : DataW.Whole enc Tryd.prog Tryd.f4.params.toList Rows.devflowPlaysSpec.vars false W args.toList ds gs before) (hsh : W.ShapedOpen Tryd.prog) :
    Calls Tryd.prog 4 args W fun e W' => ∃ v, e = .returned v ∧ Rows.devflowPlaysSpec.post enc Tryd.prog Tryd.f4 false true false false W args v W' := by
  have hW' := hW
  obtain ⟨p, q, hA0, hV, rfl, hfz, hnd⟩ := hW
  have hA : DataW.TrodAll enc Tryd.prog W 0 (fun _ => true) true Tryd.f4.params.toList args.toList ds p := hA0
  rw [Tryd.params4] at hA hval
  obtain ⟨v0, v1, v2, d0, d1, d2, p0, p1, p2, rfl, rfl, rfl, h0, h1, h2⟩ := Dv.trodAll_three' hA
  obtain ⟨rfl, rfl⟩ := trodVars_none hV
  obtain ⟨n0, rfl, rfl, rfl, w0⟩ := open_int Tryd.underlying3 (hval 0 3 v0 rfl rfl) h0
  obtain ⟨n1, rfl, rfl, rfl, w1⟩ := open_int Tryd.underlying3 (hval 1 3 v1 rfl rfl) h1
  obtain ⟨A2, n2, c2, l2, rfl, hs2⟩ := Dv.open_ops (hval 2 28 v2 rfl rfl) h2
  clear hA0 hval hA
  refine (Dv.plays_any W n0 n1 A2 _ c2 l2 hs2 (Dv.mx_of hsh)).mono fun e W' ⟨he, hg⟩ => ?_
  subst he
  exact ⟨_, rfl, post_law (tb := 4) Dv.laid Tryd.underlying4 (by kernel_rfl) (fun t ht => Dv.readable t (by rw [Tryd.params4] at ht; simp at ht; first | (rcases ht with h | h | h | h | h | h <;> simp [h]; done) | (rcases ht with h | h | h | h | h <;> simp [h]; done) | (rcases ht with h | h | h | h <;> simp [h]; done) | (rcases ht with h | h | h <;> simp [h]; done) | (rcases ht with h | h <;> simp [h]; done) | (simp [ht]; done))) rfl hW' rfl rfl rfl hg⟩

set_option maxRecDepth 100000 in
theorem devflowPlays_lifted (os : Os) (started : os.Started) (H : Type) (enc : TypeId × Value → H) (F : Stop.Interp) :
    ReturnsInHanded {} Tryd.checked os 4 .any ((OpenSpec.ofChange Rows.devflowPlaysSpec).preRow enc Tryd.prog Tryd.f4 Rows.devflowPlaysRow.domain false Rows.devflowPlaysRow.laid) (((OpenSpec.ofChange Rows.devflowPlaysSpec).at F).post enc Tryd.prog Tryd.f4 false true false false) := by
  have hx : ∃ places, DataW.whole enc Tryd.prog ((World.laidAll Tryd.prog os Rows.devflowPlaysRow.laid).forCall (fun _ _ => 0) ⟨#[], #[.int .i64 0, .int .i64 0, .slice none 0 0], []⟩).memory Tryd.f4.params.toList Rows.devflowPlaysSpec.vars false #[.int .i64 0, .int .i64 0, .slice none 0 0].toList 8 = some ([.lit (.int .i64 0), .lit (.int .i64 0), .nil], [], places) := ⟨[], by kernel_rfl⟩
  obtain ⟨places, hx⟩ := hx
  refine returnsInHanded_of_row (C := Tryd.checked) (s := OpenSpec.ofChange Rows.devflowPlaysSpec) Dv.own started (by kernel_rfl) Tryd.func4
    (witness_row_at (enc := enc) (C := Tryd.checked) false (World.laidAll Tryd.prog os Rows.devflowPlaysRow.laid) #[.int .i64 0, .int .i64 0, .slice none 0 0] (World.laidAll_os _ _ _) (by kernel_rfl) (by kernel_rfl) (by kernel_rfl)
      (OpenSpec.preRow_of_cond 8 hx (by kernel_rfl) (fun k hk => by cases hk) (by kernel_rfl) (by rw [MakeChecks.laidMetH_plain _ _ _ (by kernel_rfl)]; exact laidMet_laidAll _ (by kernel_rfl) (by kernel_rfl)))) ?_
  intro W base args ds gs before hval hW _ _ _ _ hsh _
  exact devflowPlays_contract H enc W base args ds gs before hval hW hsh

/-- The law's row. -/
theorem devflowPlays_said : Rows.DevflowPlaysSaid :=
  OpenClaim.holds_of_cond 4 Tryd.f4 rfl rfl rfl rfl rfl rfl rfl ⟨rfl, rfl, rfl, rfl, rfl⟩ rfl rfl rfl rfl rfl (by kernel_rfl) Tryd.func4 (by kernel_rfl)
    (of_decide_eq_true (by kernel_rfl)) (by unfold Func.isWrapper; first | (rw [if_pos (by decide +kernel)]; kernel_rfl) | (rw [if_neg (by decide +kernel)]; exact ⟨rfl, rfl⟩))
    (fun os started H enc _ F => by rw [OpenClaim.pre_eq_preRow]; exact devflowPlays_lifted os started H enc F)
theorem devflowPlays_plain (f : FuncId) (fn : Func) (hf : Tryd.pinned.checked.prog.funcNamed Rows.devflowPlaysRow.func = some f) (hfn : Tryd.pinned.checked.prog.funcs[f]? = some fn) :
    false = Tryd.pinned.checked.prog.looks [] ∧ ∀ (j : Nat) t, fn.params[j]? = some t → Tryd.pinned.checked.prog.wantsStandIn t = false := by
  obtain rfl : f = 4 := Option.some.inj ((show Tryd.prog.funcNamed Rows.devflowPlaysRow.func = some 4 by kernel_rfl).symm.trans hf) |>.symm
  obtain rfl : fn = Tryd.f4 := (Option.some.inj (Tryd.func4.symm.trans hfn)).symm
  refine ⟨by kernel_rfl, fun j t ht => ?_⟩
  rw [Tryd.params4] at ht
  have ht := Array.mem_of_getElem? ht
  exact Dv.noStand t (by simp at ht; first | (rcases ht with h | h | h | h | h | h <;> simp [h]; done) | (rcases ht with h | h | h | h | h <;> simp [h]; done) | (rcases ht with h | h | h | h <;> simp [h]; done) | (rcases ht with h | h | h <;> simp [h]; done) | (rcases ht with h | h <;> simp [h]; done) | (simp [ht]; done))
/-- The card. -/
theorem devflowPlays_holds : Rows.DevflowPlaysCardSaid :=
  Claim7.holds_tied_plain_at .later [] _ _ _ _ devflowPlays_said (fun _ h => by cases h) (by kernel_rfl) (fun _ h => by cases h) devflowPlays_row_tie rfl ⟨rfl, rfl⟩ (by kernel_rfl) rfl devflowPlays_plain (by kernel_rfl)
#print axioms devflowPlays_holds
end Go.Proofs.YtapooonlbjgbgaaDoor
