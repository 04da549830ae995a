/-
  The order of strings; cmp.Or.
-/
import Derived.Test.YtjjcbbckihjapaaDoorFoG
namespace Go.Proofs.YtjjcbbckihjapaaDoor.Fo
open Go.RowKit

/-- The order of two strings. -/
def ordS (a b : List UInt8) : Int := if Op.bytesLess a b then -1 else if a = b then 0 else 1
theorem ordS_cons (x y : UInt8) (a b : List UInt8) : ordS (x :: a) (y :: b) = if x < y then -1 else if y < x then 1 else ordS a b := by
  unfold ordS
  by_cases h1 : x < y
  · simp [Op.bytesLess, h1]
  · by_cases h2 : y < x
    · have hne : x ≠ y := fun h => by subst h; exact h1 h2
      simp [Op.bytesLess, h1, h2, hne]
    · have : x = y := UInt8.le_antisymm (UInt8.not_lt.1 h2) (UInt8.not_lt.1 h1)
      subst this
      simp [Op.bytesLess, h1]
/-- cmp.Or. -/
def orL : List Int → Int
  | [] => 0
  | x :: r => if x ≠ 0 then x else orL r
def ie (l : List Int) (k : Nat) : Int := l.getD k 0
theorem orL_at (l : List Int) (k : Nat) (hk : k < l.length) (hz : ∀ j, j < k → ie l j = 0) (h : ie l k ≠ 0) : orL l = ie l k := by
  unfold ie at *
  induction l generalizing k with
  | nil => simp at hk
  | cons x r ih =>
    cases k with
    | zero => simp at h; simp [orL, h]
    | succ k =>
      have h0 := hz 0 (by omega)
      simp at h0
      subst h0
      simp [orL]
      exact ih k (by simpa using hk) (fun j hj => by simpa using hz (j + 1) (by omega)) (by simpa using h)
theorem orL_zero (l : List Int) (hz : ∀ j, j < l.length → ie l j = 0) : orL l = 0 := by
  unfold ie at *
  induction l with
  | nil => rfl
  | cons x r ih =>
    have h0 := hz 0 (by simp)
    simp at h0
    subst h0
    simp [orL]
    exact ih fun j hj => by simpa using hz (j + 1) (by simpa using hj)
theorem or_any (w : World) (b c : Nat) (l : List Int) (hl : l.length ≤ 100) (hc : ∀ k, k < l.length → w.cell? ⟨b, k, none⟩ = some (.int .i64 (ie l k))) :
    Calls Tryd.prog 57 #[.slice (some ⟨b, 0, none⟩) l.length c] w fun e w' => e = .returned (.int .i64 (orL l)) ∧ w = w' := by
  have HC := Lib.hid hc
  clear hc
  go_enter Tryd.func57, Tryd.ntmps57
  go_wp2
  go_loop [5, 8] (fun _ i => ∃ k : Nat, k ≤ l.length ∧ i = .int .i64 k ∧ Hid (∀ j, j < k → ie l j = 0)) (fun _ i => l.length - (intOf i).toNat)
  case atStart => exact ⟨0, Nat.zero_le _, rfl, fun j hj => by omega⟩
  case round =>
    obtain ⟨k, hk, rfl, hz⟩ := hrel
    by_cases hlt : k < l.length
    · have hcell := HC.out k hlt
      by_cases h0 : ie l k = 0
      · rw [h0] at hcell
        have H0 := Lib.hid h0
        clear h0
        go_wp2
        go_round
        case rel => exact ⟨k + 1, by omega, by go_num, fun j hj => if e : j = k then e ▸ H0.out else hz.out j (by omega)⟩
        case measure => simp [intOf]; omega
      · have hn : (ie l k != 0) = true := by simpa using h0
        have HO := Lib.hid (orL_at l k hlt hz.out h0)
        go_wp2
        go_ret
        exact ⟨ret_int HO.out.symm, rfl⟩
    · have HO := Lib.hid (orL_zero l (fun j hj => hz.out j (by omega)))
      go_wp2
      go_ret
      exact ⟨ret_int HO.out.symm, rfl⟩
end Go.Proofs.YtjjcbbckihjapaaDoor.Fo
