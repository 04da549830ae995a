/-
  CsnNotes holds: for every list of numbers and every two numbers the law returns true. No condition.
-/
import Derived.Test.YteidbomkbddliaaCsnRos
import Derived.Test.YteidbomkbddliaaCsnNt
namespace Go.Proofs.Yteidbomkbddliaa
open Go.ChangeShapes Go.WideShapes Go.ChangeAt Go.RowKit

set_option maxRecDepth 100000 in
theorem csnNotes_lifted (os : Os) (started : os.Started) (H : Type) (enc : TypeId × Value → H) :
    ReturnsInHanded {} Try.checked os 8 .any (Rows.csnNotesSpec.pre6 enc Try.prog Try.f8 Rows.csnNotesRow.domain false) (Rows.csnNotesSpec.post enc Try.prog Try.f8 false true false false) := by
  refine returnsInHanded_of_change (C := Try.checked) Csn.own started (by kernel_rfl) Try.func8
    (ChangeSpec.witness6 (enc := enc) (C := Try.checked) false ⟨#[], #[.slice none 0 0, .agg #[.int .i64 0, .int .i64 0, .int .i64 0], .agg #[.int .i64 0, .int .i64 0, .int .i64 0]], []⟩ 8 (by kernel_rfl) (by kernel_rfl) (by kernel_rfl) (by kernel_rfl)) ?_
  intro W base args ds gs before hval0 hW hcnd _
  have hval : ∀ (j : Nat) t v, Try.f8.params[j]? = some t → args[j]? = some v → Value.okWide Try.prog W .any base t v := hval0
  have hW' := hW
  obtain ⟨p, q, hA0, hV, rfl, hfz, hnd⟩ := hW
  have hA : DataW.TrodAll enc Try.prog W 0 (fun _ => true) true Try.f8.params.toList args.toList ds p := hA0
  rw [Try.params8] at hA hval
  obtain ⟨v0, v1, v2, d0, d1, d2, p0, p1, p2, rfl, rfl, rfl, h0, h1, h2⟩ := trodAll_three hA
  obtain ⟨rfl, rfl⟩ := trodVars_none hV
  obtain ⟨A0, n0, c0, l0, rfl, hs0⟩ := Csn.open_sl (hval 0 39 v0 rfl rfl) h0
  obtain ⟨t1, s1, r1, rfl, _, _, _⟩ := Csn.open_csn (hval 1 23 v1 rfl rfl) h1
  obtain ⟨t2, s2, r2, rfl, _, _, _⟩ := Csn.open_csn (hval 2 23 v2 rfl rfl) h2
  clear hA0 hval0 hA hval
  refine (Csn.notesLaw_any Csn.live_any W A0 n0 c0 l0 t1 s1 r1 t2 s2 r2 hs0).mono fun e W' ⟨he, hg⟩ => ?_
  subst he
  exact ⟨_, rfl, post_law (tb := 4) Csn.laid Try.underlying4 (by kernel_rfl) (fun t ht => Csn.readable t (by rw [Try.params8] at ht; simp at ht; first | (rcases ht with h | h | h <;> simp [h]) | (rcases ht with h | h <;> simp [h]) | simp [ht])) rfl hW' rfl rfl rfl hg⟩

/-- The law's row. -/
theorem csnNotes_holds : Rows.CsnNotesSaid :=
  OpenClaim.holds_of_wide 8 Try.f8 rfl rfl rfl rfl rfl rfl rfl ⟨rfl, rfl, rfl, rfl, rfl⟩ rfl rfl rfl rfl rfl (by kernel_rfl) Try.func8 (by kernel_rfl)
    (of_decide_eq_true (by kernel_rfl)) (by unfold Func.isWrapper; first | (rw [if_pos (by decide +kernel)]; kernel_rfl) | (rw [if_neg (by decide +kernel)]; exact ⟨rfl, rfl⟩))
    (fun os started H enc _ => csnNotes_lifted os started H enc)
#print axioms csnNotes_holds
end Go.Proofs.Yteidbomkbddliaa
