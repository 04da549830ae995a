/-
  The walks of scopes: the reference's Implies; covered, Within, both; slices of strings.
-/
import Derived.Test.YtioabjniipkncaaGreatDoorRfB
namespace Go.Proofs.YtioabjniipkncaaGreatDoor.Rf
open Go.RowKit Go.Proofs.YtioabjniipkncaaGreatDoor.Fo

def sAt (l : List Bs) (i : Nat) : Bs := l.getD i ⟨#[]⟩
/-- A slice of strings in memory. -/
def Ss (w : World) (A : Option Addr) (n c : Nat) (l : List Bs) : Prop :=
  l.length = n ∧ n ≤ c ∧ (0 < n → ∃ b off, A = some ⟨b, off, none⟩ ∧ b < w.heap.size ∧ ∀ i, i < n → w.cell? ⟨b, off + i, none⟩ = some (.string (sAt l i)))
theorem Ss.nil (w : World) (c : Nat) (A : Option Addr) : Ss w A 0 c [] := ⟨rfl, Nat.zero_le _, fun h => absurd h (by omega)⟩
theorem Ss.below {w w' : World} {A : Option Addr} {n c : Nat} {l : List Bs} (h : Ss w A n c l) (hb : Below w.heap.size w w') : Ss w' A n c l := by
  refine ⟨h.1, h.2.1, fun hn => ?_⟩
  obtain ⟨b, off, hA, hl, hc⟩ := h.2.2 hn
  refine ⟨b, off, hA, Nat.lt_of_lt_of_le hl hb.size, fun i hi => ?_⟩
  rw [bkeep hb hl]
  exact hc i hi
/-- All strings of a list are short. -/
def Short (l : List Bs) : Prop := ∀ i, i < l.length → (sAt l i).size ≤ 100000
theorem sAt_get (l : List Bs) (i : Nat) (h : i < l.length) : l[i] = sAt l i := by simp [sAt, List.getD, h]
theorem ss_drop (l : List Bs) (i : Nat) (h : i < l.length) : l.drop i = sAt l i :: l.drop (i + 1) := by rw [List.drop_eq_getElem_cons h, sAt_get]
theorem Short.mem {l : List Bs} (h : Short l) {s : Bs} (hs : s ∈ l) : s.size ≤ 100000 := by
  obtain ⟨i, hi, rfl⟩ := List.getElem_of_mem hs
  rw [sAt_get]
  exact h i hi

end Go.Proofs.YtioabjniipkncaaGreatDoor.Rf
