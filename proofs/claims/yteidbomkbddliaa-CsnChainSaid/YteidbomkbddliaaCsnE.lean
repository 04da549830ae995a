/-
  The walks of layer 15: Parse.
-/
import Derived.Test.YteidbomkbddliaaCsnD
import Derived.Test.YteidbomkbddliaaCsnB
namespace Go.Proofs.Yteidbomkbddliaa.Csn
open Go.RowKit

/-- The three numbers of a text of the right shape. -/
def pA (s : ByteArray) : Int := numF (s.extract 0 11).data.toList 0
def pB (s : ByteArray) : Int := numF (s.extract 12 20).data.toList 0
def pD (s : ByteArray) : Int := numF (s.extract 21 22).data.toList 0
/-- The shape of a text form. -/
def shp (s : ByteArray) : Bool := decide (s.size = 22) && decide ((s.data.toList.getD 11 0).toNat = 45) && decide ((s.data.toList.getD 20 0).toNat = 45)
def parseC (s : ByteArray) : (Int × Int × Int) × Int :=
  if shp s = false then ((0, 0, 0), 4)
  else if pA s < 0 ∨ pB s < 0 ∨ pD s < 0 then ((0, 0, 0), 4)
  else if vld (pA s) (pB s) (pD s) = false then ((0, 0, 0), 27)
  else ((pA s, pB s, pD s), 0)
theorem parse_shape {s : ByteArray} (h : shp s = false) : parseC s = ((0, 0, 0), 4) := by simp [parseC, h]
theorem parse_neg {s : ByteArray} (h : shp s = true) (h1 : pA s < 0 ∨ pB s < 0 ∨ pD s < 0) : parseC s = ((0, 0, 0), 4) := by simp [parseC, h, h1]
theorem parse_range {s : ByteArray} (h : shp s = true) (h1 : 0 ≤ pA s) (h2 : 0 ≤ pB s) (h3 : 0 ≤ pD s) (h4 : vld (pA s) (pB s) (pD s) = false) : parseC s = ((0, 0, 0), 27) := by
  unfold parseC; rw [if_neg (by simp [h]), if_neg (by omega), if_pos h4]
theorem parse_good {s : ByteArray} (h : shp s = true) (h1 : 0 ≤ pA s) (h2 : 0 ≤ pB s) (h3 : 0 ≤ pD s) (h4 : vld (pA s) (pB s) (pD s) = true) : parseC s = ((pA s, pB s, pD s), 0) := by
  unfold parseC; rw [if_neg (by simp [h]), if_neg (by omega), if_neg (by simp [h4])]

theorem getD_at (s : ByteArray) {i : Nat} (h : i < s.size) : s.data.toList.getD i 0 = s[i] := by
  have : s.data.toList[i]? = some s[i] := List.getElem?_eq_getElem (show i < s.data.toList.length from h)
  simp [List.getD, this]
set_option maxHeartbeats 1000000 in
theorem parse_unshaped (s : ByteArray) (w : World) (h : shp s = false) :
    Calls Try.prog 16 #[.string s] w fun e w' => e = .returned (.tuple #[.agg #[.int .i64 (parseC s).1.1, .int .i64 (parseC s).1.2.1, .int .i64 (parseC s).1.2.2], .int .i64 (parseC s).2]) ∧ Below w.heap.size w w' := by
  have HN := Lib.hid (parse_shape h)
  have HP := Lib.hid h
  clear h
  go_enter Try.func16, Try.ntmps16
  go_upto_region 1 with fail
  go_cut [17] (fun s17 wx => s17 = .bool true ∧ wx = w.alloc (.cells #[.int .i64 0, .int .i64 0, .int .i64 0] 23))
  case first =>
    by_cases h22 : s.size = 22
    · have i1 : 11 < s.size := by omega
      have i2 : 20 < s.size := by omega
      have e1 : s.data.toList.getD 11 0 = s[11] := getD_at s i1
      have e2 : s.data.toList.getD 20 0 = s[20] := getD_at s i2
      have HQ : Hid ((s[11].toNat : Int) = 45 → ¬ (s[20].toNat : Int) = 45) := fun a b => by
        have := HP.out
        rw [shp, e1, e2] at this
        simp [h22] at this
        omega
      clear e1 e2
      by_cases h11 : (s[11].toNat : Int) = 45
      · have h20 := HQ.out h11
        have h20' : ((s[20].toNat : Int) != 45) = true := by simpa using h20
        go_wp2
        go_meet
        exact ⟨rfl, rfl⟩
      · go_wp2
        go_meet
        exact ⟨rfl, rfl⟩
    · go_wp2
      go_meet
      exact ⟨rfl, rfl⟩
  case rest =>
    obtain ⟨rfl, rfl⟩ := hcut
    go_wp2
    refine bodyPost_ret (v := .tuple #[.agg #[.int .i64 (parseC s).1.1, .int .i64 (parseC s).1.2.1, .int .i64 (parseC s).1.2.2], .int .i64 (parseC s).2]) (by simp [results, Try.results16, go_sem, HN.out]) rfl ⟨rfl, ?_⟩
    repeat (first | exact Below.refl _ _ | apply Below.drew | refine Below.alloc ?_ (by simp) _)

set_option maxHeartbeats 4000000 in
theorem parse_any (s : ByteArray) (w : World) :
    Calls Try.prog 16 #[.string s] w fun e w' => e = .returned (.tuple #[.agg #[.int .i64 (parseC s).1.1, .int .i64 (parseC s).1.2.1, .int .i64 (parseC s).1.2.2], .int .i64 (parseC s).2]) ∧ Below w.heap.size w w' := by
  cases h : shp s with
  | false => exact parse_unshaped s w h
  | true =>
    have h2 := h
    simp only [shp, Bool.and_eq_true, decide_eq_true_eq] at h2
    obtain ⟨⟨h22, h11⟩, h20⟩ := h2
    have i1 : 11 < s.size := by omega
    have i2 : 20 < s.size := by omega
    rw [getD_at s i1] at h11
    rw [getD_at s i2] at h20
    have j11 : ((s[11].toNat : Int) != 45) = false := by simp; omega
    have j20 : ((s[20].toNat : Int) != 45) = false := by simp; omega
    have HS := Lib.hid h
    have z1 : (s.extract 0 11).size ≤ 15 := by simp; omega
    have z2 : (s.extract 12 20).size ≤ 15 := by simp; omega
    have z3 : (s.extract 21 22).size ≤ 15 := by simp; omega
    have Z1 := Lib.hid z1
    have Z2 := Lib.hid z2
    have Z3 := Lib.hid z3
    have H11 := Lib.hid h11
    have H20 := Lib.hid h20
    clear h z1 z2 z3 h11 h20
    go_enter Try.func16, Try.ntmps16
    go_upto_region 3 with fail
    go_cut [4] (fun s4 wx => ∃ g : Nat, s4 = .pointer (some ⟨g, 0, none⟩) ∧ w.heap.size < g ∧ g < wx.heap.size ∧ Below w.heap.size w wx ∧
      wx.cell? ⟨g, 0, none⟩ = some (.int .i64 (pA s)) ∧ wx.cell? ⟨g, 1, none⟩ = some (.int .i64 (pB s)) ∧ wx.cell? ⟨g, 2, none⟩ = some (.int .i64 (pD s)) ∧
      (∀ o, wx.cell? ⟨w.heap.size, o, none⟩ = #[Value.int .i64 0, .int .i64 0, .int .i64 0][o]?) ∧ (∀ o, wx.frozen? ⟨w.heap.size, o, none⟩ = false))
    case first =>
      go_wp2_with fail
      go_region_held3 (fun _ => True) (trivial)
        (first | (go_at_call_of 40 (Value.string (s.extract 0 11)); refine (number_any _ _ Z1.out).mono ?_; rintro e w1 ⟨rfl, rfl⟩) | (go_at_call_of 40 (Value.string (s.extract 12 20)); refine (number_any _ _ Z2.out).mono ?_; rintro e w1 ⟨rfl, rfl⟩) | (go_at_call_of 40 (Value.string (s.extract 21 22)); refine (number_any _ _ Z3.out).mono ?_; rintro e w1 ⟨rfl, rfl⟩))
      all_goals (go_wp2; go_meet; exact ⟨w.heap.size + 1, rfl, by omega, by simp [go_sem], by repeat (first | exact Below.refl _ _ | apply Below.drew | refine Below.setCell ?_ (by simp <;> omega) _ | refine Below.alloc ?_ (by simp <;> omega) _), by simp [go_sem, pA], by simp [go_sem, pB], by simp [go_sem, pD], fun o => by simp [go_sem], fun o => by simp [go_sem]⟩)
    case rest =>
      obtain ⟨g, rfl, hg1, hg2, hb, c0, c1, c2, k0, kf⟩ := hcut
      have HB := Lib.hid hb
      clear hb
      have z0 := k0 0
      have z1 := k0 1
      have z2 := k0 2
      have y0 := kf 0
      have y1 := kf 1
      have y2 := kf 2
      simp only [List.getElem?_toArray, List.getElem?_cons_zero, List.getElem?_cons_succ] at z0 z1 z2
      have hz0 : w.heap.size < wc.heap.size := by omega
      clear k0 kf
      by_cases n1 : pA s < 0
      · have HN := Lib.hid (parse_neg HS.out (Or.inl n1))
        go_wp2_with (go_at_call 12; refine (valid_any _ _ _ _).mono ?_; rintro e w5 ⟨rfl, hb5⟩; have k5 := bkeep hb5 hz0; have f5 := bkeepf hb5 hz0; have q5 := bkeep hb5 hg2; have HB5 := Lib.hid ((HB.out).trans (hb5.mono (Nat.le_of_lt hz0))); clear hb5)
        refine bodyPost_ret (v := .tuple #[.agg #[.int .i64 (parseC s).1.1, .int .i64 (parseC s).1.2.1, .int .i64 (parseC s).1.2.2], .int .i64 (parseC s).2]) (by simp [results, Try.results16, go_sem, HN.out, *]) rfl ⟨rfl, ?_⟩
        repeat (first | exact HB.out | exact HB5.out | apply Below.drew | refine Below.setCell ?_ (by simp) _)
      · by_cases n2 : pB s < 0
        · have HN := Lib.hid (parse_neg HS.out (Or.inr (Or.inl n2)))
          go_wp2_with (go_at_call 12; refine (valid_any _ _ _ _).mono ?_; rintro e w5 ⟨rfl, hb5⟩; have k5 := bkeep hb5 hz0; have f5 := bkeepf hb5 hz0; have q5 := bkeep hb5 hg2; have HB5 := Lib.hid ((HB.out).trans (hb5.mono (Nat.le_of_lt hz0))); clear hb5)
          refine bodyPost_ret (v := .tuple #[.agg #[.int .i64 (parseC s).1.1, .int .i64 (parseC s).1.2.1, .int .i64 (parseC s).1.2.2], .int .i64 (parseC s).2]) (by simp [results, Try.results16, go_sem, HN.out, *]) rfl ⟨rfl, ?_⟩
          repeat (first | exact HB.out | exact HB5.out | apply Below.drew | refine Below.setCell ?_ (by simp) _)
        · by_cases n3 : pD s < 0
          · have HN := Lib.hid (parse_neg HS.out (Or.inr (Or.inr n3)))
            go_wp2_with (go_at_call 12; refine (valid_any _ _ _ _).mono ?_; rintro e w5 ⟨rfl, hb5⟩; have k5 := bkeep hb5 hz0; have f5 := bkeepf hb5 hz0; have q5 := bkeep hb5 hg2; have HB5 := Lib.hid ((HB.out).trans (hb5.mono (Nat.le_of_lt hz0))); clear hb5)
            refine bodyPost_ret (v := .tuple #[.agg #[.int .i64 (parseC s).1.1, .int .i64 (parseC s).1.2.1, .int .i64 (parseC s).1.2.2], .int .i64 (parseC s).2]) (by simp [results, Try.results16, go_sem, HN.out, *]) rfl ⟨rfl, ?_⟩
            repeat (first | exact HB.out | exact HB5.out | apply Below.drew | refine Below.setCell ?_ (by simp) _)
          · cases hv : vld (pA s) (pB s) (pD s) with
            | false =>
              have HN := Lib.hid (parse_range HS.out (by omega) (by omega) (by omega) hv)
              go_wp2_with (go_at_call 12; refine (valid_any _ _ _ _).mono ?_; rintro e w5 ⟨rfl, hb5⟩; have k5 := bkeep hb5 hz0; have f5 := bkeepf hb5 hz0; have q5 := bkeep hb5 hg2; have HB5 := Lib.hid ((HB.out).trans (hb5.mono (Nat.le_of_lt hz0))); clear hb5)
              refine bodyPost_ret (v := .tuple #[.agg #[.int .i64 (parseC s).1.1, .int .i64 (parseC s).1.2.1, .int .i64 (parseC s).1.2.2], .int .i64 (parseC s).2]) (by simp [results, Try.results16, go_sem, HN.out, *]) rfl ⟨rfl, ?_⟩
              repeat (first | exact HB.out | exact HB5.out | apply Below.drew | refine Below.setCell ?_ (by simp) _)
            | true =>
              have HN := Lib.hid (parse_good HS.out (by omega) (by omega) (by omega) hv)
              go_wp2_with (go_at_call 12; refine (valid_any _ _ _ _).mono ?_; rintro e w5 ⟨rfl, hb5⟩; have k5 := bkeep hb5 hz0; have f5 := bkeepf hb5 hz0; have q5 := bkeep hb5 hg2; have HB5 := Lib.hid ((HB.out).trans (hb5.mono (Nat.le_of_lt hz0))); clear hb5)
              refine bodyPost_ret (v := .tuple #[.agg #[.int .i64 (parseC s).1.1, .int .i64 (parseC s).1.2.1, .int .i64 (parseC s).1.2.2], .int .i64 (parseC s).2]) (by simp [results, Try.results16, go_sem, HN.out, *]) rfl ⟨rfl, ?_⟩
              repeat (first | exact HB.out | exact HB5.out | apply Below.drew | refine Below.setCell ?_ (by simp) _)

set_option maxHeartbeats 1000000 in
theorem rparse_unshaped (s : ByteArray) (w : World) (h : shp s = false) :
    Calls Try.prog 17 #[.string s] w fun e w' => e = .returned (.tuple #[.agg #[.int .i64 (parseC s).1.1, .int .i64 (parseC s).1.2.1, .int .i64 (parseC s).1.2.2], .int .i64 (parseC s).2]) ∧ Below w.heap.size w w' := by
  have HN := Lib.hid (parse_shape h)
  have HP := Lib.hid h
  clear h
  go_enter Try.func17, Try.ntmps17
  go_upto_region 1 with fail
  go_cut [17] (fun s17 wx => s17 = .bool true ∧ wx = w.alloc (.cells #[.int .i64 0, .int .i64 0, .int .i64 0] 23))
  case first =>
    by_cases h22 : s.size = 22
    · have i1 : 11 < s.size := by omega
      have i2 : 20 < s.size := by omega
      have e1 : s.data.toList.getD 11 0 = s[11] := getD_at s i1
      have e2 : s.data.toList.getD 20 0 = s[20] := getD_at s i2
      have HQ : Hid ((s[11].toNat : Int) = 45 → ¬ (s[20].toNat : Int) = 45) := fun a b => by
        have := HP.out
        rw [shp, e1, e2] at this
        simp [h22] at this
        omega
      clear e1 e2
      by_cases h11 : (s[11].toNat : Int) = 45
      · have h20 := HQ.out h11
        have h20' : ((s[20].toNat : Int) != 45) = true := by simpa using h20
        go_wp2
        go_meet
        exact ⟨rfl, rfl⟩
      · go_wp2
        go_meet
        exact ⟨rfl, rfl⟩
    · go_wp2
      go_meet
      exact ⟨rfl, rfl⟩
  case rest =>
    obtain ⟨rfl, rfl⟩ := hcut
    go_wp2
    refine bodyPost_ret (v := .tuple #[.agg #[.int .i64 (parseC s).1.1, .int .i64 (parseC s).1.2.1, .int .i64 (parseC s).1.2.2], .int .i64 (parseC s).2]) (by simp [results, Try.results17, go_sem, HN.out]) rfl ⟨rfl, ?_⟩
    repeat (first | exact Below.refl _ _ | apply Below.drew | refine below_drewN ?_ _ | refine Below.alloc ?_ (by simp) _)

set_option maxHeartbeats 4000000 in
theorem rparse_any (s : ByteArray) (w : World) :
    Calls Try.prog 17 #[.string s] w fun e w' => e = .returned (.tuple #[.agg #[.int .i64 (parseC s).1.1, .int .i64 (parseC s).1.2.1, .int .i64 (parseC s).1.2.2], .int .i64 (parseC s).2]) ∧ Below w.heap.size w w' := by
  cases h : shp s with
  | false => exact rparse_unshaped s w h
  | true =>
    have h2 := h
    simp only [shp, Bool.and_eq_true, decide_eq_true_eq] at h2
    obtain ⟨⟨h22, h11⟩, h20⟩ := h2
    have i1 : 11 < s.size := by omega
    have i2 : 20 < s.size := by omega
    rw [getD_at s i1] at h11
    rw [getD_at s i2] at h20
    have j11 : ((s[11].toNat : Int) != 45) = false := by simp; omega
    have j20 : ((s[20].toNat : Int) != 45) = false := by simp; omega
    have HS := Lib.hid h
    have z1 : (s.extract 0 11).size ≤ 15 := by simp; omega
    have z2 : (s.extract 12 20).size ≤ 15 := by simp; omega
    have z3 : (s.extract 21 22).size ≤ 15 := by simp; omega
    have Z1 := Lib.hid z1
    have Z2 := Lib.hid z2
    have Z3 := Lib.hid z3
    have H11 := Lib.hid h11
    have H20 := Lib.hid h20
    clear h z1 z2 z3 h11 h20
    go_enter Try.func17, Try.ntmps17
    go_upto_region 3 with fail
    go_cut [4] (fun s4 wx => ∃ g : Nat, s4 = .pointer (some ⟨g, 0, none⟩) ∧ w.heap.size < g ∧ g < wx.heap.size ∧ Below w.heap.size w wx ∧
      wx.cell? ⟨g, 0, none⟩ = some (.int .i64 (pA s)) ∧ wx.cell? ⟨g, 1, none⟩ = some (.int .i64 (pB s)) ∧ wx.cell? ⟨g, 2, none⟩ = some (.int .i64 (pD s)) ∧
      (∀ o, wx.cell? ⟨w.heap.size, o, none⟩ = #[Value.int .i64 0, .int .i64 0, .int .i64 0][o]?) ∧ (∀ o, wx.frozen? ⟨w.heap.size, o, none⟩ = false))
    case first =>
      go_wp2_with fail
      go_region_held3 (fun _ => True) (trivial)
        (first | (go_at_call_of 41 (Value.string (s.extract 0 11)); refine (rnumber_any _ _ Z1.out).mono ?_; rintro e w1 ⟨rfl, nd1, rfl⟩) | (go_at_call_of 41 (Value.string (s.extract 12 20)); refine (rnumber_any _ _ Z2.out).mono ?_; rintro e w2 ⟨rfl, nd2, rfl⟩) | (go_at_call_of 41 (Value.string (s.extract 21 22)); refine (rnumber_any _ _ Z3.out).mono ?_; rintro e w3 ⟨rfl, nd3, rfl⟩))
      all_goals (go_wp2; go_meet; exact ⟨w.heap.size + 1, rfl, by omega, by simp [go_sem], by repeat (first | exact Below.refl _ _ | apply Below.drew | refine below_drewN ?_ _ | refine Below.setCell ?_ (by simp <;> omega) _ | refine Below.alloc ?_ (by simp <;> omega) _), by simp [go_sem, pA], by simp [go_sem, pB], by simp [go_sem, pD], fun o => by simp [go_sem], fun o => by simp [go_sem]⟩)
    case rest =>
      obtain ⟨g, rfl, hg1, hg2, hb, c0, c1, c2, k0, kf⟩ := hcut
      have HB := Lib.hid hb
      clear hb
      have z0 := k0 0
      have z1 := k0 1
      have z2 := k0 2
      have y0 := kf 0
      have y1 := kf 1
      have y2 := kf 2
      simp only [List.getElem?_toArray, List.getElem?_cons_zero, List.getElem?_cons_succ] at z0 z1 z2
      have hz0 : w.heap.size < wc.heap.size := by omega
      clear k0 kf
      by_cases n1 : pA s < 0
      · have HN := Lib.hid (parse_neg HS.out (Or.inl n1))
        go_wp2_with (go_at_call 13; refine (rvalid_any _ _ _ _).mono ?_; rintro e w5 ⟨rfl, hb5⟩; have k5 := bkeep hb5 hz0; have f5 := bkeepf hb5 hz0; have q5 := bkeep hb5 hg2; have HB5 := Lib.hid ((HB.out).trans (hb5.mono (Nat.le_of_lt hz0))); clear hb5)
        refine bodyPost_ret (v := .tuple #[.agg #[.int .i64 (parseC s).1.1, .int .i64 (parseC s).1.2.1, .int .i64 (parseC s).1.2.2], .int .i64 (parseC s).2]) (by simp [results, Try.results17, go_sem, HN.out, *]) rfl ⟨rfl, ?_⟩
        repeat (first | exact HB.out | exact HB5.out | apply Below.drew | refine below_drewN ?_ _ | refine Below.setCell ?_ (by simp) _)
      · by_cases n2 : pB s < 0
        · have HN := Lib.hid (parse_neg HS.out (Or.inr (Or.inl n2)))
          go_wp2_with (go_at_call 13; refine (rvalid_any _ _ _ _).mono ?_; rintro e w5 ⟨rfl, hb5⟩; have k5 := bkeep hb5 hz0; have f5 := bkeepf hb5 hz0; have q5 := bkeep hb5 hg2; have HB5 := Lib.hid ((HB.out).trans (hb5.mono (Nat.le_of_lt hz0))); clear hb5)
          refine bodyPost_ret (v := .tuple #[.agg #[.int .i64 (parseC s).1.1, .int .i64 (parseC s).1.2.1, .int .i64 (parseC s).1.2.2], .int .i64 (parseC s).2]) (by simp [results, Try.results17, go_sem, HN.out, *]) rfl ⟨rfl, ?_⟩
          repeat (first | exact HB.out | exact HB5.out | apply Below.drew | refine below_drewN ?_ _ | refine Below.setCell ?_ (by simp) _)
        · by_cases n3 : pD s < 0
          · have HN := Lib.hid (parse_neg HS.out (Or.inr (Or.inr n3)))
            go_wp2_with (go_at_call 13; refine (rvalid_any _ _ _ _).mono ?_; rintro e w5 ⟨rfl, hb5⟩; have k5 := bkeep hb5 hz0; have f5 := bkeepf hb5 hz0; have q5 := bkeep hb5 hg2; have HB5 := Lib.hid ((HB.out).trans (hb5.mono (Nat.le_of_lt hz0))); clear hb5)
            refine bodyPost_ret (v := .tuple #[.agg #[.int .i64 (parseC s).1.1, .int .i64 (parseC s).1.2.1, .int .i64 (parseC s).1.2.2], .int .i64 (parseC s).2]) (by simp [results, Try.results17, go_sem, HN.out, *]) rfl ⟨rfl, ?_⟩
            repeat (first | exact HB.out | exact HB5.out | apply Below.drew | refine below_drewN ?_ _ | refine Below.setCell ?_ (by simp) _)
          · cases hv : vld (pA s) (pB s) (pD s) with
            | false =>
              have HN := Lib.hid (parse_range HS.out (by omega) (by omega) (by omega) hv)
              go_wp2_with (go_at_call 13; refine (rvalid_any _ _ _ _).mono ?_; rintro e w5 ⟨rfl, hb5⟩; have k5 := bkeep hb5 hz0; have f5 := bkeepf hb5 hz0; have q5 := bkeep hb5 hg2; have HB5 := Lib.hid ((HB.out).trans (hb5.mono (Nat.le_of_lt hz0))); clear hb5)
              refine bodyPost_ret (v := .tuple #[.agg #[.int .i64 (parseC s).1.1, .int .i64 (parseC s).1.2.1, .int .i64 (parseC s).1.2.2], .int .i64 (parseC s).2]) (by simp [results, Try.results17, go_sem, HN.out, *]) rfl ⟨rfl, ?_⟩
              repeat (first | exact HB.out | exact HB5.out | apply Below.drew | refine below_drewN ?_ _ | refine Below.setCell ?_ (by simp) _)
            | true =>
              have HN := Lib.hid (parse_good HS.out (by omega) (by omega) (by omega) hv)
              go_wp2_with (go_at_call 13; refine (rvalid_any _ _ _ _).mono ?_; rintro e w5 ⟨rfl, hb5⟩; have k5 := bkeep hb5 hz0; have f5 := bkeepf hb5 hz0; have q5 := bkeep hb5 hg2; have HB5 := Lib.hid ((HB.out).trans (hb5.mono (Nat.le_of_lt hz0))); clear hb5)
              refine bodyPost_ret (v := .tuple #[.agg #[.int .i64 (parseC s).1.1, .int .i64 (parseC s).1.2.1, .int .i64 (parseC s).1.2.2], .int .i64 (parseC s).2]) (by simp [results, Try.results17, go_sem, HN.out, *]) rfl ⟨rfl, ?_⟩
              repeat (first | exact HB.out | exact HB5.out | apply Below.drew | refine below_drewN ?_ _ | refine Below.setCell ?_ (by simp) _)
end Go.Proofs.Yteidbomkbddliaa.Csn
