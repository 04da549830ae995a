/-
  CsnChain holds: for every last number, all clocks and every replica the law returns true. No condition.
-/
import Derived.Test.YteidbomkbddliaaCsnRow
import Derived.Test.YteidbomkbddliaaCsnCn
import Derived.Test.YteidbomkbddliaaCsnRoi
namespace Go.Proofs.Yteidbomkbddliaa
open Go.ChangeShapes Go.WideShapes Go.ChangeAt Go.RowKit

set_option maxRecDepth 100000 in
theorem csnChain_lifted (os : Os) (started : os.Started) (H : Type) (enc : TypeId × Value → H) :
    ReturnsInHanded {} Try.checked os 6 .any (Rows.csnChainSpec.pre6 enc Try.prog Try.f6 Rows.csnChainRow.domain false) (Rows.csnChainSpec.post enc Try.prog Try.f6 false true false false) := by
  refine returnsInHanded_of_change (C := Try.checked) Csn.own started (by kernel_rfl) Try.func6
    (ChangeSpec.witness6 (enc := enc) (C := Try.checked) false ⟨#[], #[.agg #[.int .i64 0, .int .i64 0, .int .i64 0], .slice none 0 0, .int .i64 0], []⟩ 8 (by kernel_rfl) (by kernel_rfl) (by kernel_rfl) (by kernel_rfl)) ?_
  intro W base args ds gs before hval0 hW hcnd _
  have hval : ∀ (j : Nat) t v, Try.f6.params[j]? = some t → args[j]? = some v → Value.okWide Try.prog W .any base t v := hval0
  have hW' := hW
  obtain ⟨p, q, hA0, hV, rfl, hfz, hnd⟩ := hW
  have hA : DataW.TrodAll enc Try.prog W 0 (fun _ => true) true Try.f6.params.toList args.toList ds p := hA0
  rw [Try.params6] at hA hval
  obtain ⟨v0, v1, v2, d0, d1, d2, p0, p1, p2, rfl, rfl, rfl, h0, h1, h2⟩ := trodAll_three hA
  obtain ⟨rfl, rfl⟩ := trodVars_none hV
  obtain ⟨t0, s0, r0, rfl, _, _, _⟩ := Csn.open_csn (hval 0 23 v0 rfl rfl) h0
  obtain ⟨A1, n1, c1, l1, rfl, hs1⟩ := Csn.open_is (hval 1 36 v1 rfl rfl) h1
  obtain ⟨n2, rfl, rfl, rfl, w2⟩ := open_int Try.underlying3 (hval 2 3 v2 rfl rfl) h2
  clear hA0 hval0 hA hval
  refine (Csn.chainLaw_any Csn.live_any W t0 s0 r0 A1 n1 c1 l1 n2 hs1).mono fun e W' ⟨he, hg⟩ => ?_
  subst he
  exact ⟨_, rfl, post_law (tb := 4) Csn.laid Try.underlying4 (by kernel_rfl) (fun t ht => Csn.readable t (by rw [Try.params6] at ht; simp at ht; first | (rcases ht with h | h | h <;> simp [h]) | (rcases ht with h | h <;> simp [h]) | simp [ht])) rfl hW' rfl rfl rfl hg⟩

/-- The law's row. -/
theorem csnChain_holds : Rows.CsnChainSaid :=
  OpenClaim.holds_of_wide 6 Try.f6 rfl rfl rfl rfl rfl rfl rfl ⟨rfl, rfl, rfl, rfl, rfl⟩ rfl rfl rfl rfl rfl (by kernel_rfl) Try.func6 (by kernel_rfl)
    (of_decide_eq_true (by kernel_rfl)) (by unfold Func.isWrapper; first | (rw [if_pos (by decide +kernel)]; kernel_rfl) | (rw [if_neg (by decide +kernel)]; exact ⟨rfl, rfl⟩))
    (fun os started H enc _ => csnChain_lifted os started H enc)
#print axioms csnChain_holds
end Go.Proofs.Yteidbomkbddliaa
