/-
  The walks of layer 1: Compare and its reference.
-/
import Derived.Test.YtphlihmngbmiiaaDoorFoG
namespace Go.Proofs.YtphlihmngbmiiaaDoor.Fo
open Go.RowKit

/-- The order of two strings. -/
def ordS (a b : List UInt8) : Int := if Op.bytesLess a b then -1 else if a = b then 0 else 1
theorem ordS_cons (x y : UInt8) (a b : List UInt8) : ordS (x :: a) (y :: b) = if x < y then -1 else if y < x then 1 else ordS a b := by
  unfold ordS
  by_cases h1 : x < y
  · simp [Op.bytesLess, h1]
  · by_cases h2 : y < x
    · have hne : x ≠ y := fun h => by subst h; exact h1 h2
      simp [Op.bytesLess, h1, h2, hne]
    · have : x = y := UInt8.le_antisymm (UInt8.not_lt.1 h2) (UInt8.not_lt.1 h1)
      subst this
      simp [Op.bytesLess, h1]
theorem ordS_bytes (a b : List UInt8) : Lib.compareBytes a b = ordS a b := by
  induction a generalizing b with
  | nil =>
    cases b with
    | nil => simp [Lib.compareBytes, ordS, Op.bytesLess]
    | cons y b => simp [Lib.compareBytes, ordS, Op.bytesLess]
  | cons x a ih =>
    cases b with
    | nil => simp [Lib.compareBytes, ordS, Op.bytesLess]
    | cons y b => rw [Lib.compareBytes, ordS_cons, ih]
/-- Compare. -/
def cmpL (a b : List UInt8) : Int := if ordS (foldL a) (foldL b) ≠ 0 then ordS (foldL a) (foldL b) else ordS a b

/-- cmp.Or. -/
def orL : List Int → Int
  | [] => 0
  | x :: r => if x ≠ 0 then x else orL r
def ie (l : List Int) (k : Nat) : Int := l.getD k 0
theorem orL_at (l : List Int) (k : Nat) (hk : k < l.length) (hz : ∀ j, j < k → ie l j = 0) (h : ie l k ≠ 0) : orL l = ie l k := by
  unfold ie at *
  induction l generalizing k with
  | nil => simp at hk
  | cons x r ih =>
    cases k with
    | zero => simp at h; simp [orL, h]
    | succ k =>
      have h0 := hz 0 (by omega)
      simp at h0
      subst h0
      simp [orL]
      exact ih k (by simpa using hk) (fun j hj => by simpa using hz (j + 1) (by omega)) (by simpa using h)
theorem orL_zero (l : List Int) (hz : ∀ j, j < l.length → ie l j = 0) : orL l = 0 := by
  unfold ie at *
  induction l with
  | nil => rfl
  | cons x r ih =>
    have h0 := hz 0 (by simp)
    simp at h0
    subst h0
    simp [orL]
    exact ih fun j hj => by simpa using hz (j + 1) (by simpa using hj)
theorem or_any (w : World) (b c : Nat) (l : List Int) (hl : l.length ≤ 100) (hc : ∀ k, k < l.length → w.cell? ⟨b, k, none⟩ = some (.int .i64 (ie l k))) :
    Calls Tryd.prog 37 #[.slice (some ⟨b, 0, none⟩) l.length c] w fun e w' => e = .returned (.int .i64 (orL l)) ∧ w = w' := by
  have HC := Lib.hid hc
  clear hc
  go_enter Tryd.func37, Tryd.ntmps37
  go_wp2
  go_loop [5, 8] (fun _ i => ∃ k : Nat, k ≤ l.length ∧ i = .int .i64 k ∧ Hid (∀ j, j < k → ie l j = 0)) (fun _ i => l.length - (intOf i).toNat)
  case atStart => exact ⟨0, Nat.zero_le _, rfl, fun j hj => by omega⟩
  case round =>
    obtain ⟨k, hk, rfl, hz⟩ := hrel
    by_cases hlt : k < l.length
    · have hcell := HC.out k hlt
      by_cases h0 : ie l k = 0
      · rw [h0] at hcell
        have H0 := Lib.hid h0
        clear h0
        go_wp2
        go_round
        case rel => exact ⟨k + 1, by omega, by go_num, fun j hj => if e : j = k then e ▸ H0.out else hz.out j (by omega)⟩
        case measure => simp [intOf]; omega
      · have hn : (ie l k != 0) = true := by simpa using h0
        have HO := Lib.hid (orL_at l k hlt hz.out h0)
        go_wp2
        go_ret
        exact ⟨ret_int HO.out.symm, rfl⟩
    · have HO := Lib.hid (orL_zero l (fun j hj => hz.out j (by omega)))
      go_wp2
      go_ret
      exact ⟨ret_int HO.out.symm, rfl⟩
theorem cmp_or (a b : List UInt8) : orL [ordS (foldL a) (foldL b), ordS a b] = cmpL a b := by
  have h2 : (if ordS a b ≠ 0 then ordS a b else 0) = ordS a b := by by_cases e : ordS a b = 0 <;> simp [e]
  simp only [orL, cmpL, h2]

theorem strCmp (a b : ByteArray) (w : World) : Calls Tryd.prog 38 #[.string a, .string b] w fun e w' => e = .returned (.int .i64 (ordS a.data.toList b.data.toList)) ∧ w = w' :=
  (Tryd.strings_Compare a b w).mono fun _ _ ⟨h1, h2⟩ => ⟨by rw [h1, ordS_bytes], h2.symm⟩

set_option maxHeartbeats 2000000 in
theorem compare_any (a b : ByteArray) (w : World) (ha : a.size ≤ 100000) (hb : b.size ≤ 100000) :
    Calls Tryd.prog 23 #[.string a, .string b] w fun e w' => e = .returned (.int .i64 (cmpL a.data.toList b.data.toList)) ∧ Below w.heap.size w w' := by
  have HA := Lib.hid ha
  have HB := Lib.hid hb
  clear ha hb
  go_enter Tryd.func23, Tryd.ntmps23
  go_wp2_with fail
  refine (fold_t a _ HA.out).mono ?_
  rintro e w1 ⟨x, rfl, hx, hb1⟩
  have HX := Lib.hid hx
  have HB1 := Lib.hid hb1
  clear hx hb1
  go_wp2_with fail
  refine (fold_t b _ HB.out).mono ?_
  rintro e w2 ⟨y, rfl, hy, hb2⟩
  have HY := Lib.hid hy
  have HB2 := Lib.hid (HB1.out.trans (hb2.mono HB1.out.size))
  clear hy hb2
  have HXY := Lib.hid (show ordS x.data.toList y.data.toList = ordS (foldL a.data.toList) (foldL b.data.toList) by rw [HX.out, HY.out])
  obtain ⟨p, hp⟩ : ∃ p, p = ordS x.data.toList y.data.toList := ⟨_, rfl⟩
  obtain ⟨q, hq⟩ : ∃ q, q = ordS a.data.toList b.data.toList := ⟨_, rfl⟩
  have HP := Lib.hid hp
  have HQ := Lib.hid hq
  clear hp hq
  go_wp2_with fail
  refine (strCmp x y _).mono ?_
  rintro e w3 ⟨rfl, rfl⟩
  rw [← HP.out]
  go_wp2_with fail
  refine (strCmp a b _).mono ?_
  rintro e w3 ⟨rfl, rfl⟩
  rw [← HQ.out]
  go_wp2_with fail
  refine (or_any _ _ 2 [p, q] (by simp) (fun k hk => by rcases k with _ | _ | k <;> first | (simp [go_sem, ie]; done) | (simp only [List.length_cons, List.length_nil] at hk; omega))).mono ?_
  rintro e w3 ⟨rfl, rfl⟩
  have HR := Lib.hid (show orL [p, q] = cmpL a.data.toList b.data.toList by rw [← cmp_or, HP.out, HQ.out, HXY.out])
  have HB3 := Lib.hid (HB2.out.alloc HB2.out.size (.cells #[.int .i64 p, .int .i64 q] 3))
  go_wp2
  go_ret
  exact ⟨ret_int HR.out, HB3.out⟩

theorem order_any (a b : ByteArray) (w : World) :
    Calls Tryd.prog 39 #[.string a, .string b] w fun e w' => e = .returned (.int .i64 (ordS a.data.toList b.data.toList)) ∧ w = w' := by
  have e1 : a.toList = a.data.toList := Lib.toList_data _
  have e2 : b.toList = b.data.toList := Lib.toList_data _
  have E1 := Lib.hid e1
  have E2 := Lib.hid e2
  clear e1 e2
  cases h : Op.bytesLess a.toList b.toList with
  | true =>
    have HF := Lib.hid (show ordS a.data.toList b.data.toList = -1 by rw [← E1.out, ← E2.out]; simp [ordS, h])
    go_enter Tryd.func39, Tryd.ntmps39
    go_wp2
    go_ret
    exact ⟨ret_int HF.out.symm, rfl⟩
  | false =>
    cases h2 : (a.toList == b.toList) with
    | true =>
      have HF := Lib.hid (show ordS a.data.toList b.data.toList = 0 by rw [← E1.out, ← E2.out]; simp at h2; simp [ordS, h2]; rw [h2] at h; exact h)
      go_enter Tryd.func39, Tryd.ntmps39
      go_wp2
      go_ret
      exact ⟨ret_int HF.out.symm, rfl⟩
    | false =>
      have HF := Lib.hid (show ordS a.data.toList b.data.toList = 1 by rw [← E1.out, ← E2.out]; simp at h2; simp [ordS, h, h2])
      go_enter Tryd.func39, Tryd.ntmps39
      go_wp2
      go_ret
      exact ⟨ret_int HF.out.symm, rfl⟩

set_option maxHeartbeats 2000000 in
theorem rcompare_any (a b : ByteArray) (w : World) (ha : a.size ≤ 100000) (hb : b.size ≤ 100000) :
    Calls Tryd.prog 24 #[.string a, .string b] w fun e w' => e = .returned (.int .i64 (cmpL a.data.toList b.data.toList)) ∧ Below w.heap.size w w' := by
  have HA := Lib.hid ha
  have HB := Lib.hid hb
  clear ha hb
  go_enter Tryd.func24, Tryd.ntmps24
  go_wp2_with fail
  refine (rfold_t a _ HA.out).mono ?_
  rintro e w1 ⟨x, rfl, hx, hb1⟩
  have HX := Lib.hid hx
  have HB1 := Lib.hid hb1
  clear hx hb1
  go_wp2_with fail
  refine (rfold_t b _ HB.out).mono ?_
  rintro e w2 ⟨y, rfl, hy, hb2⟩
  have HY := Lib.hid hy
  have HB2 := Lib.hid (HB1.out.trans (hb2.mono HB1.out.size))
  clear hy hb2
  have HXY := Lib.hid (show ordS x.data.toList y.data.toList = ordS (foldL a.data.toList) (foldL b.data.toList) by rw [HX.out, HY.out])
  obtain ⟨p, hp⟩ : ∃ p, p = ordS x.data.toList y.data.toList := ⟨_, rfl⟩
  have HP := Lib.hid hp
  clear hp
  go_wp2_with fail
  refine (order_any x y _).mono ?_
  rintro e w3 ⟨rfl, rfl⟩
  rw [← HP.out]
  by_cases h0 : p = 0
  · have HR := Lib.hid (show cmpL a.data.toList b.data.toList = ordS a.data.toList b.data.toList by rw [cmpL, ← HXY.out, ← HP.out, h0]; simp)
    subst h0
    go_wp2_with fail
    refine (order_any a b _).mono ?_
    rintro e w3 ⟨rfl, rfl⟩
    rw [← HR.out]
    go_wp2
    go_ret
    exact ⟨rfl, HB2.out⟩
  · have h1 : (p != 0) = true := by simpa using h0
    have HR := Lib.hid (show cmpL a.data.toList b.data.toList = p by rw [cmpL, ← HXY.out, ← HP.out, if_pos h0])
    clear h0
    go_wp2
    go_ret
    exact ⟨ret_int HR.out.symm, HB2.out⟩
end Go.Proofs.YtphlihmngbmiiaaDoor.Fo
