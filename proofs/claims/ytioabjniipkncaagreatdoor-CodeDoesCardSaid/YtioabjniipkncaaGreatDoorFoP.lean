/-
  The plain functions of layer 1 (fold): what both texts compute. No walk.
-/
import Derived.Test.YtioabjniipkncaaGreatDoorRfW
import Derived.Lib.TrimByte
namespace Go.Proofs.YtioabjniipkncaaGreatDoor.Fo
open Go.RowKit

/-- A byte in lower case. -/
def lowB (c : UInt8) : UInt8 := if upB c then c + 32 else c
theorem lowB_up {c : UInt8} (h : upB c = true) : (lowB c).toNat = c.toNat + 32 := by
  rw [lowB, if_pos h]
  simp [upB] at h
  rw [UInt8.toNat_add]
  have : (32 : UInt8).toNat = 32 := rfl
  omega
theorem lowB_no {c : UInt8} (h : upB c = false) : lowB c = c := by rw [lowB, if_neg (by simp [h])]
/-- Lower. -/
def lowL (l : List UInt8) : List UInt8 := l.map lowB
/-- Lower, k bytes done. -/
def lowTo (l : List UInt8) (k : Nat) : List UInt8 := (l.take k).map lowB ++ l.drop k
theorem lowTo_length (l : List UInt8) (k : Nat) : (lowTo l k).length = l.length := by simp [lowTo]; omega
theorem lowTo_zero (l : List UInt8) : lowTo l 0 = l := by simp [lowTo]
theorem lowTo_all (l : List UInt8) : lowTo l l.length = lowL l := by simp [lowTo, lowL]
theorem lowTo_at (l : List UInt8) (k : Nat) (h : k < l.length) : bAt (lowTo l k) k = bAt l k := by
  unfold bAt lowTo
  rw [List.getD, List.getElem?_append_right (by simp; omega), List.getD]
  simp [Nat.min_eq_left (Nat.le_of_lt h)]
theorem lowTo_set (l : List UInt8) (k : Nat) (h : k < l.length) : (lowTo l k).set k (lowB (bAt l k)) = lowTo l (k + 1) := by
  unfold lowTo
  have e : List.drop k l = bAt l k :: List.drop (k + 1) l := by rw [List.drop_eq_getElem_cons h, bAt_get l k h]
  rw [List.set_append_right _ _ (by simp; omega), e, List.take_succ_eq_append_getElem h, bAt_get l k h]
  simp only [List.length_map, List.length_take, Nat.min_eq_left (Nat.le_of_lt h), Nat.sub_self, List.set_cons_zero, List.map_append, List.map_cons, List.map_nil, List.append_assoc, List.singleton_append]
theorem lowTo_keep (l : List UInt8) (k : Nat) (h : k < l.length) (hn : lowB (bAt l k) = bAt l k) : lowTo l k = lowTo l (k + 1) := by
  rw [← lowTo_set l k h, hn, ← lowTo_at l k h, bAt_get _ _ (by rw [lowTo_length]; exact h), List.set_getElem_self]
/-- Trim. -/
def trimL (l : List UInt8) : List UInt8 := Lib.trimB l 32
/-- Fold's squeeze, byte i kept or not. -/
def keepB (t : List UInt8) (i : Nat) : Bool := decide ((bAt t i).toNat ≠ 32 ∨ i = 0 ∨ (bAt t (i - 1)).toNat ≠ 32)
/-- Fold's squeeze of the first k bytes. -/
def sqTo (t : List UInt8) : Nat → List UInt8
  | 0 => []
  | k + 1 => if keepB t k then sqTo t k ++ [bAt t k] else sqTo t k
theorem sqTo_le (t : List UInt8) (k : Nat) : (sqTo t k).length ≤ k := by
  induction k with
  | zero => simp [sqTo]
  | succ k ih =>
    rw [sqTo]
    split
    · simp; omega
    · omega
theorem sqTo_yes (t : List UInt8) (k : Nat) (h : keepB t k = true) : sqTo t (k + 1) = sqTo t k ++ [bAt t k] := by rw [sqTo, if_pos h]
theorem sqTo_no (t : List UInt8) (k : Nat) (h : keepB t k = false) : sqTo t (k + 1) = sqTo t k := by rw [sqTo, if_neg (by simp [h])]
/-- Fold. -/
def foldL (l : List UInt8) : List UInt8 := sqTo (lowL (trimL l)) (lowL (trimL l)).length

/-- The cells of bytes. -/
def bytesV (l : List UInt8) : List Value := l.map fun c => .int .u8 (c.toNat : Int)
/-- A block that reads as bytes and may be written. -/
def Bys (w : World) (g : Nat) (L : List UInt8) : Prop := g < w.heap.size ∧ ∀ j, j < L.length → w.cell? ⟨g, j, none⟩ = some (.int .u8 ((bAt L j).toNat : Int)) ∧ w.frozen? ⟨g, j, none⟩ = false
theorem Bys.later {w w' : World} {g : Nat} {L : List UInt8} (h : Bys w g L) (hb : Below w.heap.size w w') : Bys w' g L :=
  ⟨Nat.lt_of_lt_of_le h.1 hb.size, fun j hj => by rw [bkeep hb h.1, bkeepf hb h.1]; exact h.2 j hj⟩
theorem Bys.drew {w : World} {g : Nat} {L : List UInt8} (h : Bys w g L) : Bys w.drew g L := h.later (Below.refl _ _).drew
theorem Bys.set {w : World} {g : Nat} {L : List UInt8} (h : Bys w g L) (k : Nat) (hk : k < L.length) (c : UInt8) : Bys (w.setCell ⟨g, k, none⟩ (.int .u8 (c.toNat : Int))) g (L.set k c) := by
  refine ⟨by simpa [World.setCell] using h.1, fun j hj => ⟨?_, by rw [World.frozen?_setCell]; exact (h.2 j (by simpa using hj)).2⟩⟩
  rw [List.length_set] at hj
  by_cases e : k = j
  · subst e
    rw [World.cell?_setCell_same _ _ _ (h.2 k hk).1]
    simp [bAt, List.getD, hk]
  · rw [World.cell?_setCell_other _ _ _ _ (fun h => e (by injection h)), (h.2 j hj).1]
    rw [bAt, bAt, List.getD, List.getD, List.getElem?_set_ne e]
theorem Bys.ints {w : World} {g : Nat} {L : List UInt8} (h : Bys w g L) : ∀ i, i < (L.map fun c => (c.toNat : Int)).length → w.cell? ⟨g, 0 + i, none⟩ = some (.int .u8 ((L.map fun c => (c.toNat : Int)).getD i 0)) := by
  intro i hi
  rw [Nat.zero_add]
  simp only [List.length_map] at hi
  rw [(h.2 i hi).1]
  simp [bAt, List.getD, hi]
theorem strOf (L : List UInt8) : strOfNums (L.map fun c => (c.toNat : Int)) = ⟨L.toArray⟩ := by
  unfold strOfNums
  congr 2
  rw [List.map_map]
  exact List.map_id'' (fun c => by simp) _
theorem byte_info : (Tryz.prog.info? 5).map (fun i => (i.zero, i.size, i.bytes)) = some (some (.int .u8 0), 1, 1) := by kernel_rfl
/-- []byte(s). -/
theorem conv_bytes (s : ByteArray) (w : World) : ∃ (C : Nat) (w1 : World), (convert 9 90 (.string s)).run Tryz.prog w = .ok (.slice (some ⟨w.heap.size, 0, none⟩) s.size C) w1 ∧ s.size ≤ C ∧ Bys w1 w.heap.size s.data.toList ∧ Below w.heap.size w w1 := by
  refine ⟨_, _, run_bytes_of_string w 9 90 5 s Tryz.underlying9 Tryz.underlying90 Tryz.underlying5, grownCap_ge _ _ _ _, ?_, ?_⟩
  · refine ⟨by simp, fun j hj => ⟨?_, ?_⟩⟩
    · have hj' : j < s.data.size := by simpa using hj
      have := World.cell?_alloc_mark w.drew (bytesRow s (grownCap w s.size 0 5)) 5 ((bytesRow s (grownCap w s.size 0 5)).size, (bytesRow s (grownCap w s.size 0 5)).size + 1) j
      rw [bytesRow_at s _ j hj'] at this
      rw [show w.heap.size = w.drew.heap.size from rfl, this]
      rw [bAt_get _ _ hj]
      rfl
    · have hj' : j < s.data.size := by simpa using hj
      have := World.frozen?_alloc_mark w.drew (bytesRow s (grownCap w s.size 0 5)) 5 (bytesRow s (grownCap w s.size 0 5)).size ((bytesRow s (grownCap w s.size 0 5)).size + 1) j
      rw [show w.heap.size = w.drew.heap.size from rfl, this]
      have hl : j < (bytesRow s (grownCap w s.size 0 5)).size := by simp [bytesRow]; have : s.size = s.data.size := rfl; omega
      simp; omega
  · exact ((Below.refl _ _).drew).alloc (Nat.le_refl _) _
end Go.Proofs.YtioabjniipkncaaGreatDoor.Fo
