/-
  The walk of live: the chapter's examples.
-/
import Derived.Test.YteidbomkbddliaaCsnT
import Derived.Test.YteidbomkbddliaaCsnE
namespace Go.Proofs.Yteidbomkbddliaa.Csn
open Go.RowKit

def lit1 : ByteArray := ⟨#[48, 48, 48, 48, 48, 48, 48, 48, 48, 48, 53, 45, 48, 48, 48, 48, 48, 48, 49, 49, 45, 50]⟩
def lit2 : ByteArray := ⟨#[48, 48, 48, 48, 48, 48, 48, 48, 48, 48, 53, 45, 48, 48, 48, 48, 48, 48, 49, 49, 45, 57]⟩
theorem parse_lit1 (w : World) : Calls Try.prog 16 #[.string ⟨#[48, 48, 48, 48, 48, 48, 48, 48, 48, 48, 53, 45, 48, 48, 48, 48, 48, 48, 49, 49, 45, 50]⟩] w fun e w' => e = .returned (.tuple #[.agg #[.int .i64 5, .int .i64 17, .int .i64 2], .int .i64 0]) ∧ Below w.heap.size w w' := by
  have h := parse_any lit1 w
  rw [show parseC lit1 = ((5, 17, 2), 0) by decide +kernel] at h
  exact h
theorem parse_lit2 (w : World) : Calls Try.prog 16 #[.string ⟨#[48, 48, 48, 48, 48, 48, 48, 48, 48, 48, 53, 45, 48, 48, 48, 48, 48, 48, 49, 49, 45, 57]⟩] w fun e w' => e = .returned (.tuple #[.agg #[.int .i64 0, .int .i64 0, .int .i64 0], .int .i64 27]) ∧ Below w.heap.size w w' := by
  have h := parse_any lit2 w
  rw [show parseC lit2 = ((0, 0, 0), 27) by decide +kernel] at h
  exact h
theorem next_lit1 (w : World) : Calls Try.prog 21 #[.agg #[.int .i64 5, .int .i64 17, .int .i64 2], .int .i64 4, .int .i64 1] w fun e w' => e = .returned (.tuple #[.agg #[.int .i64 5, .int .i64 18, .int .i64 1], .int .i64 0]) ∧ Below w.heap.size w w' := by
  have h := next_any 5 17 2 4 1 w
  rw [show nextC 5 17 2 4 1 = ((5, 18, 1), 0) by decide +kernel] at h
  exact h
theorem next_lit2 (w : World) : Calls Try.prog 21 #[.agg #[.int .i64 5, .int .i64 17, .int .i64 2], .int .i64 9, .int .i64 1] w fun e w' => e = .returned (.tuple #[.agg #[.int .i64 9, .int .i64 0, .int .i64 1], .int .i64 0]) ∧ Below w.heap.size w w' := by
  have h := next_any 5 17 2 9 1 w
  rw [show nextC 5 17 2 9 1 = ((9, 0, 1), 0) by decide +kernel] at h
  exact h

theorem format_lit (w : World) : Calls Try.prog 18 #[.agg #[.int .i64 5, .int .i64 17, .int .i64 2]] w fun e w' => e = .returned (.string ⟨#[48, 48, 48, 48, 48, 48, 48, 48, 48, 48, 53, 45, 48, 48, 48, 48, 48, 48, 49, 49, 45, 50]⟩) ∧ Below w.heap.size w w' := by
  have h := format_any 5 17 2 w
  rw [show (fmtC 5 17 2).toArray = #[48, 48, 48, 48, 48, 48, 48, 48, 48, 48, 53, 45, 48, 48, 48, 48, 48, 48, 49, 49, 45, 50] by decide +kernel] at h
  exact h
def vv : List C := [(4, 1, 0), (2, 0, 1), (5, 0, 2)]
theorem join_lit : joinC [(1, 0, 0), (5, 0, 2)] [(4, 1, 0), (2, 0, 1)] = vv := by decide +kernel
theorem cov_lit1 : cov vv 4 0 0 = true := by decide +kernel
theorem cov_lit2 : cov vv 4 2 0 = false := by decide +kernel
theorem within_lit1 : within [] vv = true := by decide +kernel
theorem within_lit2 : within vv [] = false := by decide +kernel
theorem chk_lit1 : chk [(1, 0, 2), (1, 0, 0)] = 4 := by decide +kernel
theorem chk_lit2 : chk [(1, 0, 2), (3, 0, 2)] = 7 := by decide +kernel
theorem note_lit : noteC [] (1, 0, 3) = [(1, 0, 3)] := by decide +kernel
end Go.Proofs.Yteidbomkbddliaa.Csn
