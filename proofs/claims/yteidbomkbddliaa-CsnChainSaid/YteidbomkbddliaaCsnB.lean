/-
  The walks of layer 15: Next and its reference.
-/
import Derived.Test.YteidbomkbddliaaCsnA
namespace Go.Proofs.Yteidbomkbddliaa.Csn
open Go.RowKit

theorem inst_bd (n : Int) : 0 ≤ inst n ∧ inst n ≤ 1099511627776 := by unfold inst; split <;> (try split) <;> omega
/-- Next refuses its arguments. -/
def nbad (t s r rep : Int) : Bool := !(vld t s r) || decide (rep < 0) || decide (8 ≤ rep)
theorem next_bad {t s r now rep : Int} (h : nbad t s r rep = true) : nextC t s r now rep = ((0, 0, 0), 2) := by
  simp [nbad] at h; unfold nextC; rw [if_pos (by rcases h with (h | h) | h <;> simp [h])]
theorem next_new {t s r now rep : Int} (h : nbad t s r rep = false) (h3 : t < inst now) : nextC t s r now rep = ((inst now, 0, rep), 0) := by
  simp [nbad] at h; unfold nextC; rw [if_neg (by simp [h]), if_pos h3]
theorem next_full {t r now rep : Int} (h : nbad t 4294967295 r rep = false) (h3 : inst now ≤ t) : nextC t 4294967295 r now rep = ((0, 0, 0), 27) := by
  simp [nbad] at h; unfold nextC; rw [if_neg (by simp [h]), if_neg (by omega), if_pos rfl]
theorem next_more {t s r now rep : Int} (h : nbad t s r rep = false) (h3 : inst now ≤ t) (h4 : s < 4294967295) : nextC t s r now rep = ((t, s + 1, rep), 0) := by
  simp [nbad] at h; unfold nextC; rw [if_neg (by simp [h]), if_neg (by omega), if_neg (by omega)]
theorem instant_any (n : Int) (w : World) :
    Calls Try.prog 23 #[.int .i64 n] w fun e w' => e = .returned (.int .i64 (inst n)) ∧ w = w' := by
  go_enter Try.func23, Try.ntmps23
  go_wp2
  all_goals (go_ret; exact ⟨ret_int (by unfold inst; first | (rw [if_pos (by assumption)]) | (rw [if_neg (by omega)]; first | (rw [if_pos (by omega)]) | (rw [if_neg (by omega)]))), rfl⟩)

/-- A world in which a call's two structs lie. -/
def Two (w wx : World) (t s r : Int) : Prop := Below w.heap.size w wx ∧ w.heap.size + 1 < wx.heap.size ∧
  wx.cell? ⟨w.heap.size, 0, none⟩ = some (.int .i64 t) ∧ wx.cell? ⟨w.heap.size, 1, none⟩ = some (.int .i64 s) ∧ wx.cell? ⟨w.heap.size, 2, none⟩ = some (.int .i64 r) ∧
  wx.cell? ⟨w.heap.size + 1, 0, none⟩ = some (.int .i64 0) ∧ wx.cell? ⟨w.heap.size + 1, 1, none⟩ = some (.int .i64 0) ∧ wx.cell? ⟨w.heap.size + 1, 2, none⟩ = some (.int .i64 0) ∧
  wx.frozen? ⟨w.heap.size + 1, 0, none⟩ = false ∧ wx.frozen? ⟨w.heap.size + 1, 1, none⟩ = false ∧ wx.frozen? ⟨w.heap.size + 1, 2, none⟩ = false
theorem two_start (w : World) (t s r : Int) (T : TypeId) : Two w ((w.alloc (.cells #[.int .i64 t, .int .i64 s, .int .i64 r] T)).alloc (.cells #[.int .i64 0, .int .i64 0, .int .i64 0] T)) t s r :=
  ⟨((Below.refl _ _).alloc (Nat.le_refl _) _).alloc (by simp) _, by simp, by simp [go_sem], by simp [go_sem], by simp [go_sem], by simp [go_sem], by simp [go_sem], by simp [go_sem], by simp [go_sem], by simp [go_sem], by simp [go_sem]⟩
theorem Two.below {w wx w1 : World} {t s r : Int} (h : Two w wx t s r) (hb : Below wx.heap.size wx w1) : Two w w1 t s r := by
  obtain ⟨h1, h2, a, b, c, d, e, f, g, i, j⟩ := h
  have hc := fun o h => (bcell hb).1 w.heap.size o h
  have hc' := fun o h => (bcell hb).1 (w.heap.size + 1) o h
  have hf := fun o h => (bcell hb).2 (w.heap.size + 1) o h
  refine ⟨h1.trans (hb.mono (by omega)), Nat.lt_of_lt_of_le h2 hb.size, ?_, ?_, ?_, ?_, ?_, ?_, ?_, ?_, ?_⟩ <;> first | (rw [hc _ (by omega)]; assumption) | (rw [hc' _ (by omega)]; assumption) | (rw [hf _ (by omega)]; assumption)

set_option maxHeartbeats 1000000 in
theorem next_any (t s r now rep : Int) (w : World) :
    Calls Try.prog 21 #[.agg #[.int .i64 t, .int .i64 s, .int .i64 r], .int .i64 now, .int .i64 rep] w fun e w' => e = .returned (.tuple #[.agg #[.int .i64 (nextC t s r now rep).1.1, .int .i64 (nextC t s r now rep).1.2.1, .int .i64 (nextC t s r now rep).1.2.2], .int .i64 (nextC t s r now rep).2]) ∧ Below w.heap.size w w' := by
  go_enter Try.func21, Try.ntmps21
  go_upto_region 1 with fail
  go_cut [1] (fun s1 wx => s1 = .int .i64 (inst now) ∧ Two w wx t s r)
  case first =>
    have h2 := two_start w t s r 23
    rcases (by omega : now < 0 ∨ (0 ≤ now ∧ now ≤ 1099511627776) ∨ 1099511627776 < now) with hn | ⟨hn, hn'⟩ | hn
    all_goals (go_wp2; go_meet; exact ⟨by simp [inst]; omega, h2⟩)
  case rest =>
  obtain ⟨rfl, h2⟩ := hcut
  go_upto_region 2 with fail
  go_cut [21] (fun s21 wx => s21 = .bool (nbad t s r rep) ∧ Two w wx t s r)
  case first =>
    have H2 := Lib.hid h2
    obtain ⟨hb0, hz, a, b, c, d, e, f, g, i, j⟩ := h2
    go_wp2_with (go_at_call 12; refine (valid_any _ _ _ _).mono ?_; rintro e w1 ⟨rfl, hb⟩)
    all_goals (go_meet; exact ⟨congrArg Value.bool (by rw [Bool.eq_iff_iff]; simp [nbad, *] <;> omega), H2.out.below hb⟩)
  case rest =>
  obtain ⟨rfl, h2⟩ := hcut
  obtain ⟨hb0, hz, a, b, c, d, e, f, g, i, j⟩ := h2
  have HB := Lib.hid hb0
  clear hb0
  cases h : nbad t s r rep with
  | true =>
    have HN := Lib.hid (next_bad (now := now) h)
    go_wp2
    refine bodyPost_ret (v := .tuple #[.agg #[.int .i64 (nextC t s r now rep).1.1, .int .i64 (nextC t s r now rep).1.2.1, .int .i64 (nextC t s r now rep).1.2.2], .int .i64 (nextC t s r now rep).2]) (by simp [results, Try.results21, go_sem, HN.out, *]) rfl ⟨rfl, ?_⟩
    repeat (first | exact HB.out | apply Below.drew | refine Below.setCell ?_ (by simp) _)
  | false =>
    have hv : vld t s r = true := by simp [nbad] at h; exact h.1.1
    obtain ⟨v1, v2, v3, v4, v5, v6⟩ := vld_iff.1 hv
    have ib := inst_bd now
    clear hv
    by_cases h3 : t < inst now
    · have HN := Lib.hid (next_new h h3)
      go_wp2
      refine bodyPost_ret (v := .tuple #[.agg #[.int .i64 (nextC t s r now rep).1.1, .int .i64 (nextC t s r now rep).1.2.1, .int .i64 (nextC t s r now rep).1.2.2], .int .i64 (nextC t s r now rep).2]) (by simp [results, Try.results21, go_sem, HN.out, *]) rfl ⟨rfl, ?_⟩
      repeat (first | exact HB.out | apply Below.drew | refine Below.setCell ?_ (by simp) _)
    · by_cases h4 : s = 4294967295
      · subst h4
        have HN := Lib.hid (next_full (now := now) h (by omega))
        go_wp2
        refine bodyPost_ret (v := .tuple #[.agg #[.int .i64 (nextC t 4294967295 r now rep).1.1, .int .i64 (nextC t 4294967295 r now rep).1.2.1, .int .i64 (nextC t 4294967295 r now rep).1.2.2], .int .i64 (nextC t 4294967295 r now rep).2]) (by simp [results, Try.results21, go_sem, HN.out, *]) rfl ⟨rfl, ?_⟩
        repeat (first | exact HB.out | apply Below.drew | refine Below.setCell ?_ (by simp) _)
      · have HN := Lib.hid (next_more h (by omega : inst now ≤ t) (by omega))
        go_wp2
        refine bodyPost_ret (v := .tuple #[.agg #[.int .i64 (nextC t s r now rep).1.1, .int .i64 (nextC t s r now rep).1.2.1, .int .i64 (nextC t s r now rep).1.2.2], .int .i64 (nextC t s r now rep).2]) (by simp [results, Try.results21, go_sem, HN.out, *]) rfl ⟨rfl, ?_⟩
        repeat (first | exact HB.out | apply Below.drew | refine Below.setCell ?_ (by simp) _)

set_option maxHeartbeats 1000000 in
theorem rnext_any (t s r now rep : Int) (w : World) :
    Calls Try.prog 22 #[.agg #[.int .i64 t, .int .i64 s, .int .i64 r], .int .i64 now, .int .i64 rep] w fun e w' => e = .returned (.tuple #[.agg #[.int .i64 (nextC t s r now rep).1.1, .int .i64 (nextC t s r now rep).1.2.1, .int .i64 (nextC t s r now rep).1.2.2], .int .i64 (nextC t s r now rep).2]) ∧ Below w.heap.size w w' := by
  go_enter Try.func22, Try.ntmps22
  go_upto_region 1 with fail
  go_cut [19] (fun s21 wx => s21 = .bool (nbad t s r rep) ∧ Two w wx t s r)
  case first =>
    have h2 := two_start w t s r 23
    have H2 := Lib.hid h2
    obtain ⟨hb0, hz, a, b, c, d, e, f, g, i, j⟩ := h2
    go_wp2_with (go_at_call 13; refine (rvalid_any _ _ _ _).mono ?_; rintro e w1 ⟨rfl, hb⟩)
    all_goals (go_meet; exact ⟨congrArg Value.bool (by rw [Bool.eq_iff_iff]; simp [nbad, *] <;> omega), H2.out.below hb⟩)
  case rest =>
  obtain ⟨rfl, h2⟩ := hcut
  obtain ⟨hb0, hz, a, b, c, d, e, f, g, i, j⟩ := h2
  have HB := Lib.hid hb0
  clear hb0
  cases h : nbad t s r rep with
  | true =>
    have HN := Lib.hid (next_bad (now := now) h)
    go_wp2_with (go_at_call 23; refine (instant_any _ _).mono ?_; rintro e w1 ⟨rfl, rfl⟩)
    refine bodyPost_ret (v := .tuple #[.agg #[.int .i64 (nextC t s r now rep).1.1, .int .i64 (nextC t s r now rep).1.2.1, .int .i64 (nextC t s r now rep).1.2.2], .int .i64 (nextC t s r now rep).2]) (by simp [results, Try.results22, go_sem, HN.out, *]) rfl ⟨rfl, ?_⟩
    repeat (first | exact HB.out | apply Below.drew | refine Below.setCell ?_ (by simp) _)
  | false =>
    have hv : vld t s r = true := by simp [nbad] at h; exact h.1.1
    obtain ⟨v1, v2, v3, v4, v5, v6⟩ := vld_iff.1 hv
    have ib := inst_bd now
    clear hv
    by_cases h3 : t < inst now
    · have HN := Lib.hid (next_new h h3)
      go_wp2_with (go_at_call 23; refine (instant_any _ _).mono ?_; rintro e w1 ⟨rfl, rfl⟩)
      refine bodyPost_ret (v := .tuple #[.agg #[.int .i64 (nextC t s r now rep).1.1, .int .i64 (nextC t s r now rep).1.2.1, .int .i64 (nextC t s r now rep).1.2.2], .int .i64 (nextC t s r now rep).2]) (by simp [results, Try.results22, go_sem, HN.out, *]) rfl ⟨rfl, ?_⟩
      repeat (first | exact HB.out | apply Below.drew | refine Below.setCell ?_ (by simp) _)
    · by_cases h4 : s = 4294967295
      · subst h4
        have HN := Lib.hid (next_full (now := now) h (by omega))
        go_wp2_with (go_at_call 23; refine (instant_any _ _).mono ?_; rintro e w1 ⟨rfl, rfl⟩)
        refine bodyPost_ret (v := .tuple #[.agg #[.int .i64 (nextC t 4294967295 r now rep).1.1, .int .i64 (nextC t 4294967295 r now rep).1.2.1, .int .i64 (nextC t 4294967295 r now rep).1.2.2], .int .i64 (nextC t 4294967295 r now rep).2]) (by simp [results, Try.results22, go_sem, HN.out, *]) rfl ⟨rfl, ?_⟩
        repeat (first | exact HB.out | apply Below.drew | refine Below.setCell ?_ (by simp) _)
      · have HN := Lib.hid (next_more h (by omega : inst now ≤ t) (by omega))
        have h5 : (s == 4294967295) = false := by simpa using h4
        go_wp2_with (go_at_call 23; refine (instant_any _ _).mono ?_; rintro e w1 ⟨rfl, rfl⟩)
        refine bodyPost_ret (v := .tuple #[.agg #[.int .i64 (nextC t s r now rep).1.1, .int .i64 (nextC t s r now rep).1.2.1, .int .i64 (nextC t s r now rep).1.2.2], .int .i64 (nextC t s r now rep).2]) (by simp [results, Try.results22, go_sem, HN.out, *]) rfl ⟨rfl, ?_⟩
        repeat (first | exact HB.out | apply Below.drew | refine Below.setCell ?_ (by simp) _)
end Go.Proofs.Yteidbomkbddliaa.Csn
