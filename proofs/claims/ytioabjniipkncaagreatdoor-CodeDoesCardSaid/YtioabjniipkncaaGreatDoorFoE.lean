/-
  The walks of layer 1: Fold and its reference.
-/
import Derived.Test.YtioabjniipkncaaGreatDoorFoD
namespace Go.Proofs.YtioabjniipkncaaGreatDoor.Fo
open Go.RowKit

/-- A string comes back that reads as L; what was there is as it was. -/
def StrIs (w : World) (L : List UInt8) (e : Ending) (w' : World) : Prop := ∃ t : ByteArray, e = .returned (.string t) ∧ t.data.toList = L ∧ Below w.heap.size w w'
theorem trim_t (s : ByteArray) (w : World) (hs : s.size ≤ 100000) : Calls Tryz.prog 72 #[.string s] w (StrIs w (trimL s.data.toList)) := (trim_any s w hs).mono fun _ _ ⟨h1, h2⟩ => ⟨_, h1, by simp, h2⟩
theorem dropWhile_le (p : UInt8 → Bool) (l : List UInt8) : (l.dropWhile p).length ≤ l.length := by
  induction l with
  | nil => simp
  | cons x r ih => rw [List.dropWhile_cons]; split <;> simp <;> omega
theorem trimL_le (l : List UInt8) : (trimL l).length ≤ l.length := by
  unfold trimL Lib.trimB Lib.trimLeftB Lib.trimRightB
  have h1 := dropWhile_le (· == 32) l.reverse
  have h2 := dropWhile_le (· == 32) (l.reverse.dropWhile (· == 32)).reverse
  simp only [List.length_reverse] at h1 h2
  omega
theorem dropWhile_head (l : List UInt8) (h : 0 < (l.dropWhile (· == 32)).length) : bAt (l.dropWhile (· == 32)) 0 ≠ 32 := by
  induction l with
  | nil => simp at h
  | cons x r ih =>
    rw [List.dropWhile_cons] at h ⊢
    split
    · rename_i hx
      rw [if_pos hx] at h
      exact ih h
    · rename_i hx
      simpa [bAt] using hx
theorem trimL_head (l : List UInt8) (h : 0 < (trimL l).length) : bAt (trimL l) 0 ≠ 32 := dropWhile_head _ h
end Go.Proofs.YtioabjniipkncaaGreatDoor.Fo
