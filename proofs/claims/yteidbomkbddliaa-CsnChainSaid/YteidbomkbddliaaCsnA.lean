/-
  The walks of layer 15 over numbers: Valid, Compare, Next and their references.
-/
import Derived.Test.YteidbomkbddliaaProg
import Derived.Test.YteidbomkbddliaaBase
import Derived.Test.YteidbomkbddliaaCsnP
namespace Go.Proofs.Yteidbomkbddliaa.Csn
open Go.RowKit

theorem valid_any (t s r : Int) (w : World) :
    Calls Try.prog 12 #[.agg #[.int .i64 t, .int .i64 s, .int .i64 r]] w fun e w' => e = .returned (.bool (vld t s r)) ∧ Below w.heap.size w w' := by
  go_enter Try.func12, Try.ntmps12
  go_wp2
  all_goals (go_ret; exact ⟨ret_bool (by rw [Bool.eq_iff_iff]; simp [vld]; omega), (Below.refl _ _).alloc (Nat.le_refl _) _⟩)

theorem rvalid_any (t s r : Int) (w : World) :
    Calls Try.prog 13 #[.agg #[.int .i64 t, .int .i64 s, .int .i64 r]] w fun e w' => e = .returned (.bool (vld t s r)) ∧ Below w.heap.size w w' := by
  go_enter Try.func13, Try.ntmps13
  go_wp2
  all_goals (go_ret; exact ⟨ret_bool (by rw [Bool.eq_iff_iff]; simp [vld]; omega), (Below.refl _ _).alloc (Nat.le_refl _) _⟩)

theorem isNaN_any (a : Int) (w : World) :
    Calls Try.prog 50 #[.int .i64 a] w fun e w' => e = .returned (.bool false) ∧ w = w' := by
  go_enter Try.func50, Try.ntmps50
  go_wp2
  go_ret
  exact ⟨by simp, rfl⟩

theorem compare_int (a b : Int) (w : World) :
    Calls Try.prog 37 #[.int .i64 a, .int .i64 b] w fun e w' => e = .returned (.int .i64 (ord a b)) ∧ w = w' := by
  go_enter Try.func37, Try.ntmps37
  go_wp2_with (go_at_call 50; refine (isNaN_any _ _).mono ?_; rintro e w' ⟨rfl, rfl⟩)
  all_goals (go_ret; exact ⟨ret_int (by unfold ord; first | (rw [if_pos (by assumption)]) | (rw [if_neg (by omega)]; first | (rw [if_pos (by omega)]) | (rw [if_neg (by omega)]))), rfl⟩)

theorem order_any (a b : Int) (w : World) :
    Calls Try.prog 38 #[.int .i64 a, .int .i64 b] w fun e w' => e = .returned (.int .i64 (ord a b)) ∧ w = w' := by
  go_enter Try.func38, Try.ntmps38
  go_wp2
  all_goals (go_ret; exact ⟨ret_int (by unfold ord; first | (rw [if_pos (by assumption)]) | (rw [if_neg (by omega)]; first | (rw [if_pos (by omega)]) | (rw [if_neg (by omega)]))), rfl⟩)

theorem rcompare_any (t s r t' s' r' : Int) (w : World) :
    Calls Try.prog 14 #[.agg #[.int .i64 t, .int .i64 s, .int .i64 r], .agg #[.int .i64 t', .int .i64 s', .int .i64 r']] w fun e w' => e = .returned (.int .i64 (cmpC t s r t' s' r')) ∧ Below w.heap.size w w' := by
  go_enter Try.func14, Try.ntmps14
  go_wp2_with (go_at_call 38; refine (order_any _ _ _).mono ?_; rintro e w' ⟨rfl, rfl⟩)
  all_goals (go_ret; go_tidy; exact ⟨ret_int (by simp_all [cmpC]), ((Below.refl _ _).alloc (Nat.le_refl _) _).alloc (by simp) _⟩)

theorem or_any (w : World) (b c : Nat) (l : List Int) (hl : l.length ≤ 100) (hc : ∀ k, k < l.length → w.cell? ⟨b, k, none⟩ = some (.int .i64 (ie l k))) :
    Calls Try.prog 36 #[.slice (some ⟨b, 0, none⟩) l.length c] w fun e w' => e = .returned (.int .i64 (orL l)) ∧ w = w' := by
  have HC := Lib.hid hc
  clear hc
  go_enter Try.func36, Try.ntmps36
  go_wp2
  go_loop [5, 8] (fun _ i => ∃ k : Nat, k ≤ l.length ∧ i = .int .i64 k ∧ Hid (∀ j, j < k → ie l j = 0)) (fun _ i => l.length - (intOf i).toNat)
  case atStart => exact ⟨0, Nat.zero_le _, rfl, fun j hj => by omega⟩
  case round =>
    obtain ⟨k, hk, rfl, hz⟩ := hrel
    by_cases hlt : k < l.length
    · have hcell := HC.out k hlt
      by_cases h0 : ie l k = 0
      · rw [h0] at hcell
        have H0 := Lib.hid h0
        clear h0
        go_wp2
        go_round
        case rel => exact ⟨k + 1, by omega, by go_num, fun j hj => if e : j = k then e ▸ H0.out else hz.out j (by omega)⟩
        case measure => simp [intOf]; omega
      · have hn : (ie l k != 0) = true := by simpa using h0
        have HO := Lib.hid (orL_at l k hlt hz.out h0)
        go_wp2
        go_ret
        exact ⟨ret_int HO.out.symm, rfl⟩
    · have HO := Lib.hid (orL_zero l (fun j hj => hz.out j (by omega)))
      go_wp2
      go_ret
      exact ⟨ret_int HO.out.symm, rfl⟩

theorem compare_any (t s r t' s' r' : Int) (w : World) :
    Calls Try.prog 11 #[.agg #[.int .i64 t, .int .i64 s, .int .i64 r], .agg #[.int .i64 t', .int .i64 s', .int .i64 r']] w fun e w' => e = .returned (.int .i64 (cmpC t s r t' s' r')) ∧ Below w.heap.size w w' := by
  by_cases h1 : t = t'
  · subst h1
    by_cases h2 : s = s'
    · subst h2
      by_cases h3 : r = r'
      · subst h3
        go_enter Try.func11, Try.ntmps11
        go_wp2_with fail
        go_ret
        exact ⟨ret_int (cmp_self _ _ _).symm, ((Below.refl _ _).alloc (Nat.le_refl _) _).alloc (by simp) _⟩
      · go_enter Try.func11, Try.ntmps11
        go_wp2_with fail
        go_region_held3 (fun w' => w'.cell? ⟨w.heap.size, 0, none⟩ = some (.int .i64 t) ∧ w'.cell? ⟨w.heap.size, 1, none⟩ = some (.int .i64 s) ∧ w'.cell? ⟨w.heap.size, 2, none⟩ = some (.int .i64 r) ∧ w'.cell? ⟨w.heap.size + 1, 0, none⟩ = some (.int .i64 t) ∧ w'.cell? ⟨w.heap.size + 1, 1, none⟩ = some (.int .i64 s) ∧ w'.cell? ⟨w.heap.size + 1, 2, none⟩ = some (.int .i64 r')) (simp [go_sem, World.cell?_alloc_past])
          (first | (go_at_call 37; refine (compare_int _ _ _).mono ?_; rintro e w' ⟨rfl, rfl⟩) | (go_at_call 36; refine (or_any _ _ _ [ord t t, ord s s, ord r r'] (by simp) (fun k hk => by rcases k with _ | _ | _ | k <;> first | (simp [go_sem, ie]; done) | (simp only [List.length_cons, List.length_nil] at hk; omega))).mono ?_; rintro e w' ⟨rfl, rfl⟩))
        go_wp2
        go_ret
        exact ⟨ret_int (cmp_or _ _ _ _ _ _), by repeat (first | exact Below.refl _ _ | apply Below.drew | refine Below.alloc ?_ (by simp <;> omega) _)⟩
    · go_enter Try.func11, Try.ntmps11
      go_wp2_with fail
      go_region_held3 (fun w' => w'.cell? ⟨w.heap.size, 0, none⟩ = some (.int .i64 t) ∧ w'.cell? ⟨w.heap.size, 1, none⟩ = some (.int .i64 s) ∧ w'.cell? ⟨w.heap.size, 2, none⟩ = some (.int .i64 r) ∧ w'.cell? ⟨w.heap.size + 1, 0, none⟩ = some (.int .i64 t) ∧ w'.cell? ⟨w.heap.size + 1, 1, none⟩ = some (.int .i64 s') ∧ w'.cell? ⟨w.heap.size + 1, 2, none⟩ = some (.int .i64 r')) (simp [go_sem, World.cell?_alloc_past])
        (first | (go_at_call 37; refine (compare_int _ _ _).mono ?_; rintro e w' ⟨rfl, rfl⟩) | (go_at_call 36; refine (or_any _ _ _ [ord t t, ord s s', ord r r'] (by simp) (fun k hk => by rcases k with _ | _ | _ | k <;> first | (simp [go_sem, ie]; done) | (simp only [List.length_cons, List.length_nil] at hk; omega))).mono ?_; rintro e w' ⟨rfl, rfl⟩))
      go_wp2
      go_ret
      exact ⟨ret_int (cmp_or _ _ _ _ _ _), by repeat (first | exact Below.refl _ _ | apply Below.drew | refine Below.alloc ?_ (by simp <;> omega) _)⟩
  · go_enter Try.func11, Try.ntmps11
    go_wp2_with fail
    go_region_held3 (fun w' => w'.cell? ⟨w.heap.size, 0, none⟩ = some (.int .i64 t) ∧ w'.cell? ⟨w.heap.size, 1, none⟩ = some (.int .i64 s) ∧ w'.cell? ⟨w.heap.size, 2, none⟩ = some (.int .i64 r) ∧ w'.cell? ⟨w.heap.size + 1, 0, none⟩ = some (.int .i64 t') ∧ w'.cell? ⟨w.heap.size + 1, 1, none⟩ = some (.int .i64 s') ∧ w'.cell? ⟨w.heap.size + 1, 2, none⟩ = some (.int .i64 r')) (simp [go_sem, World.cell?_alloc_past])
      (first | (go_at_call 37; refine (compare_int _ _ _).mono ?_; rintro e w' ⟨rfl, rfl⟩) | (go_at_call 36; refine (or_any _ _ _ [ord t t', ord s s', ord r r'] (by simp) (fun k hk => by rcases k with _ | _ | _ | k <;> first | (simp [go_sem, ie]; done) | (simp only [List.length_cons, List.length_nil] at hk; omega))).mono ?_; rintro e w' ⟨rfl, rfl⟩))
    go_wp2
    go_ret
    exact ⟨ret_int (cmp_or _ _ _ _ _ _), by repeat (first | exact Below.refl _ _ | apply Below.drew | refine Below.alloc ?_ (by simp <;> omega) _)⟩
end Go.Proofs.Yteidbomkbddliaa.Csn
