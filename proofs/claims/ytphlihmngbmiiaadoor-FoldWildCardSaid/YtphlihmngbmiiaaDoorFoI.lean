/-
  The walks of layer 1: occurs, Match.
-/
import Derived.Test.YtphlihmngbmiiaaDoorFoM
import Derived.Test.YtphlihmngbmiiaaDoorFoH
namespace Go.Proofs.YtphlihmngbmiiaaDoor.Fo
open Go.RowKit

theorem occurs_any (a b : ByteArray) (i : Nat) (w : World) (ha : a.size ≤ 100000) (hb : b.size ≤ 100000) (hi : i ≤ 100000) :
    Calls Tryd.prog 43 #[.string a, .string b, .int .i64 (i : Int)] w fun e w' => e = .returned (.bool (occL a.data.toList b.data.toList i)) ∧ w = w' := by
  have h1 : a.data.toList.length = a.size := by simp
  have h2 : b.data.toList.length = b.size := by simp
  by_cases h : i + b.size ≤ a.size
  · have HR := Lib.hid (show occL a.data.toList b.data.toList i = ((a.extract i (i + b.size)).toList == b.toList) by
      rw [occL, h1, h2, decide_eq_true h, Lib.occ_of_piece a b i h]; rfl)
    have g1 : (i : Int) + (b.size : Int) ≤ (a.size : Int) := by omega
    have g2 : IntKind.i64.wrap ((i : Int) + (b.size : Int)) = (i : Int) + (b.size : Int) := IntWalk.i64_in _ (by omega)
    have g3 : ((i : Int) + (b.size : Int)).toNat = i + b.size := by omega
    have g4 : (0 : Int) ≤ (i : Int) + (b.size : Int) := by omega
    have g5 : (i : Int) ≤ (i : Int) + (b.size : Int) := by omega
    clear h1 h2
    go_enter Tryd.func43, Tryd.ntmps43
    go_wp2
    go_ret
    exact ⟨ret_bool HR.out.symm, rfl⟩
  · have HR := Lib.hid (show occL a.data.toList b.data.toList i = false by rw [occL, h1, h2, decide_eq_false h]; rfl)
    have g1 : decide ((i : Int) + (b.size : Int) ≤ (a.size : Int)) = false := by simp; omega
    have g2 : IntKind.i64.wrap ((i : Int) + (b.size : Int)) = (i : Int) + (b.size : Int) := IntWalk.i64_in _ (by omega)
    clear h1 h2 h
    go_enter Tryd.func43, Tryd.ntmps43
    go_wp2
    go_ret
    exact ⟨ret_bool HR.out.symm, rfl⟩

/-- Element i of a list of strings. -/
def sAt (l : List ByteArray) (i : Nat) : ByteArray := l.getD i ByteArray.empty
/-- A slice of strings. -/
def Ss (w : World) (A : Option Addr) (n c : Nat) (l : List ByteArray) : Prop :=
  l.length = n ∧ n ≤ c ∧ (0 < n → ∃ b off, A = some ⟨b, off, none⟩ ∧ b < w.heap.size ∧ ∀ i, i < n → w.cell? ⟨b, off + i, none⟩ = some (.string (sAt l i)))
theorem Ss.below {w w' : World} {A : Option Addr} {n c : Nat} {l : List ByteArray} (h : Ss w A n c l) (hb : Below w.heap.size w w') : Ss w' A n c l := by
  refine ⟨h.1, h.2.1, fun hn => ?_⟩
  obtain ⟨b, off, hA, hl, hc⟩ := h.2.2 hn
  refine ⟨b, off, hA, Nat.lt_of_lt_of_le hl hb.size, fun i hi => ?_⟩
  rw [bkeep hb hl]
  exact hc i hi
/-- The lists of bytes of strings. -/
def strsL (l : List ByteArray) : List (List UInt8) := l.map fun s => s.data.toList
theorem strsL_at (l : List ByteArray) (i : Nat) (h : i < l.length) : pAt (strsL l) i = (sAt l i).data.toList := by simp [pAt, strsL, sAt, List.getD, h]
/-- Each string is short. -/
def Short (l : List ByteArray) : Prop := ∀ i, i < l.length → (sAt l i).size ≤ 100000
/-- The variable that strings.Cut reads holds a number. -/
def MX (w : World) : Prop := ∃ m, w.cell? ⟨0, 0, none⟩ = some (.int .i64 m)
theorem MX.later {w w' : World} (h : MX w) (hb : Below w.heap.size w w') : MX w' := by
  obtain ⟨m, hm⟩ := h
  have hl : 0 < w.heap.size := World.block_lt_of_cell? w _ hm
  exact ⟨m, by rw [bkeep hb hl]; exact hm⟩

/-- Cut's answer. -/
def CutIs (w : World) (r p : List UInt8) (e : Ending) (w' : World) : Prop :=
  ∃ x y : ByteArray, e = .returned (.tuple #[.string x, .string y, .bool (Lib.cut r p).2.2]) ∧ y.data.toList = (Lib.cut r p).2.1 ∧ Below w.heap.size w w'
theorem cut_t (r p : ByteArray) (w : World) (hr : r.size ≤ 100000) (hm : MX w) : Calls Tryd.prog 41 #[.string r, .string p] w (CutIs w r.data.toList p.data.toList) := by
  obtain ⟨m, hm⟩ := hm
  exact (Tryd.strings_Cut r p m w (by omega) hm).mono fun e w' ⟨h1, n, h2⟩ => ⟨_, _, h1, by simp, by rw [h2]; exact below_drewN (Below.refl _ _) _⟩
theorem cut_le (r p : List UInt8) : (Lib.cut r p).2.1.length ≤ r.length := by
  rw [Lib.cut]
  split <;> simp
theorem foldL_le (l : List UInt8) : (foldL l).length ≤ l.length := by
  unfold foldL
  have h1 := sqTo_le (lowL (trimL l)) (lowL (trimL l)).length
  have h2 := trimL_le l
  rw [lowL_length] at h1 ⊢
  omega
theorem trimPrefix_le (l p : List UInt8) : (Lib.trimPrefix l p).length ≤ l.length := by
  rw [Lib.trimPrefix]; split <;> simp
end Go.Proofs.YtphlihmngbmiiaaDoor.Fo
