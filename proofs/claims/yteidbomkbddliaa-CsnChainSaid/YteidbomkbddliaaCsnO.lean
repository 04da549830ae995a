/-
  The walks of layer 15: Note and Join.
-/
import Derived.Test.YteidbomkbddliaaCsnN
namespace Go.Proofs.Yteidbomkbddliaa.Csn
open Go.RowKit

/-- When Check finds no fault. -/
theorem chkN_ok (l : List C) : ∀ m, m ≤ l.length → (chkN l m = 0 ↔ ∀ j, l.length - m ≤ j → j < l.length → vld (cT l j) (cS l j) (cR l j) = true ∧ (l.take j).any (fun x => x.2.2 == cR l j) = false ∧ ¬ (0 < j ∧ cR l j < cR l (j - 1)))
  | 0, _ => by simp [chkN]; omega
  | m + 1, hm => by
    have ih := chkN_ok l m (by omega)
    rw [chkN]
    constructor
    · intro h j h1 h2
      cases hv : vld (cT l (l.length - (m + 1))) (cS l (l.length - (m + 1))) (cR l (l.length - (m + 1))) with
      | false => simp [hv] at h
      | true =>
        rw [if_neg (by simp [hv])] at h
        cases hy : (l.take (l.length - (m + 1))).any (fun x => x.2.2 == cR l (l.length - (m + 1))) with
        | true => rw [if_pos hy] at h; cases h
        | false =>
          rw [if_neg (by simp [hy])] at h
          by_cases hq : 0 < l.length - (m + 1) ∧ cR l (l.length - (m + 1)) < cR l (l.length - (m + 1) - 1)
          · rw [if_pos hq] at h; cases h
          · rw [if_neg hq] at h
            by_cases e : j = l.length - (m + 1)
            · subst e; exact ⟨hv, hy, hq⟩
            · exact ih.1 h j (by omega) h2
    · intro h
      obtain ⟨a1, a2, a3⟩ := h (l.length - (m + 1)) (Nat.le_refl _) (by omega)
      rw [if_neg (by simp [a1]), if_neg (by simp [a2]), if_neg a3]
      exact ih.2 fun j h1 h2 => h j (by omega) h2
theorem chk_ok (l : List C) : chk l = 0 ↔ ∀ j, j < l.length → vld (cT l j) (cS l j) (cR l j) = true ∧ (l.take j).any (fun x => x.2.2 == cR l j) = false ∧ ¬ (0 < j ∧ cR l j < cR l (j - 1)) := by
  rw [chk, chkN_ok l l.length (Nat.le_refl _)]
  simp
/-- Every number is valid. -/
def Vals (l : List C) : Prop := ∀ j, j < l.length → vld (cT l j) (cS l j) (cR l j) = true
theorem asc_of_chk {l : List C} (h : chk l = 0) : Asc l := by
  have h1 := (chk_ok l).1 h
  have step : ∀ j, 0 < j → j < l.length → cR l (j - 1) < cR l j := by
    intro j h0 hj
    obtain ⟨_, a2, a3⟩ := h1 j hj
    have hne : ¬ cR l (j - 1) = cR l j := by
      intro e
      have := any_take_hit l (fun x => x.2.2 == cR l j) (j - 1) j (by omega) (by omega) (by simp [cAt_eq, e])
      rw [a2] at this; cases this
    omega
  intro i j hij hj
  induction j with
  | zero => omega
  | succ j ih =>
    have s := step (j + 1) (by omega) hj
    rw [Nat.add_sub_cancel] at s
    rcases Nat.lt_or_ge i j with h2 | h2
    · have := ih h2 (by omega); omega
    · have : i = j := by omega
      subst this; exact s
theorem vals_of_chk {l : List C} (h : chk l = 0) : Vals l := fun j hj => ((chk_ok l).1 h j hj).1
theorem chk_of {l : List C} (ha : Asc l) (hv : Vals l) : chk l = 0 := by
  rw [chk_ok]
  intro j hj
  refine ⟨hv j hj, ?_, ?_⟩
  · rw [List.any_eq_false]
    intro x hx
    obtain ⟨i, hi⟩ := List.mem_iff_getElem?.1 hx
    rw [List.getElem?_take] at hi
    split at hi
    · rename_i h
      have := ha i j h hj
      have e : cAt l i = x := by simp [cAt, List.getD, hi]
      rw [cR_of, e] at this
      simp
      omega
    · cases hi
  · rintro ⟨h0, h1⟩
    have := ha (j - 1) j (by omega) hj
    omega
theorem chk_nil : chk [] = 0 := rfl
theorem chk_vec (l : List C) : chk (vec l) = 0 := by
  unfold vec
  split
  · assumption
  · rfl
theorem asc_vec (l : List C) : Asc (vec l) := asc_of_chk (chk_vec l)
theorem vals_vec (l : List C) : Vals (vec l) := vals_of_chk (chk_vec l)
theorem vec_vec (l : List C) : vec (vec l) = vec l := vec_yes (chk_vec l)
theorem vec_length (l : List C) : (vec l).length ≤ l.length := by unfold vec; split <;> simp

theorem Own.mono {w : World} {base base' : Nat} {v : Value} {l : List C} (h : Own w base v l) (hb : base' ≤ base) : Own w base' v l := by
  refine ⟨h.1, ?_⟩
  rcases h.2 with h1 | ⟨g, cap, cur, a1, a2, a3⟩
  · exact .inl h1
  · exact .inr ⟨g, cap, cur, a1, Nat.le_trans hb a2, a3⟩

/-- Note. -/
def noteC (l : List C) (x : C) : List C := if vld x.1 x.2.1 x.2.2 then insC (vec l) x else vec l
theorem noteC_length (l : List C) (x : C) : (noteC l x).length ≤ l.length + 1 := by
  have := vec_length l
  unfold noteC
  split
  · have := insC_length (vec l) x; omega
  · omega

theorem sl_one (w : World) (T S R : Int) : Sl (w.alloc (.cells #[.int .i64 T, .int .i64 S, .int .i64 R] 23)) (some ⟨w.heap.size, 0, none⟩) 1 1 [(T, S, R)] :=
  ⟨rfl, Nat.le_refl _, fun _ => ⟨w.heap.size, 0, rfl, by simp, fun i hi => by
    have e : i = 0 := by omega
    subst e
    exact ⟨by simp [go_sem, cT], by simp [go_sem, cS], by simp [go_sem, cR]⟩⟩⟩
set_option maxHeartbeats 2000000 in
theorem note_any (w : World) (A : Option Addr) (n c : Nat) (l : List C) (T S R : Int) (hs : Sl w A n c l) (hn : n ≤ 49) :
    Calls Try.prog 27 #[.slice A n c, .agg #[.int .i64 T, .int .i64 S, .int .i64 R]] w (IsSl w 50 (noteC l (T, S, R))) := by
  have HS := Lib.hid hs
  have HLN := Lib.hid (noteC_length l (T, S, R))
  have HL := Lib.hid hs.1
  clear hs
  cases h : vld T S R with
  | false =>
    have HN := Lib.hid (show noteC l (T, S, R) = vec l by simp [noteC, h])
    go_enter Try.func27, Try.ntmps27
    go_wp2_with (go_at_call 12; refine (valid_any _ _ _ _).mono ?_; rintro e w1 ⟨rfl, hb⟩)
    have HB1 := Lib.hid (((Below.refl w.heap.size w).alloc (Nat.le_refl _) (.cells #[.int .i64 T, .int .i64 S, .int .i64 R] 23)).trans (hb.mono (by simp)))
    clear hb
    refine (vector_any _ _ _ _ _ (HS.out.below HB1.out) (by omega)).mono ?_
    rintro e w2 ⟨A1, n1, c1, rfl, hs1, hn1, hb2⟩
    have HB2 := Lib.hid (HB1.out.trans (hb2.mono HB1.out.size))
    have HW := Lib.hid (with_any w2 A1 none n1 c1 0 0 (vec l) [] hs1 (Sl.nil _ _) (by omega) (by omega) (asc_vec l))
    clear hs1 hb2
    go_wp2_with fail
    refine HW.out.mono ?_
    rintro e w3 ⟨A3, c3, rfl, hO, hb3⟩
    have HO := Lib.hid hO
    have HB3 := Lib.hid (HB2.out.trans (hb3.mono HB2.out.size))
    clear hO hb3
    go_wp2
    go_ret
    exact ⟨A3, (vec l).length, c3, rfl, by rw [HN.out]; exact HO.out.sl.1, by have := vec_length l; have := HL.out; omega, HB3.out⟩
  | true =>
    have HN := Lib.hid (show noteC l (T, S, R) = insC (vec l) (T, S, R) by simp [noteC, h])
    go_enter Try.func27, Try.ntmps27
    go_wp2_with (go_at_call 12; refine (valid_any _ _ _ _).mono ?_; rintro e w1 ⟨rfl, hb⟩)
    have hz1 : w.heap.size < w1.heap.size := by have := hb.size; simp at this; omega
    have z0 : w1.cell? ⟨w.heap.size, 0, none⟩ = some (.int .i64 T) := by rw [bkeep hb (by simp)]; simp [go_sem]
    have z1 : w1.cell? ⟨w.heap.size, 1, none⟩ = some (.int .i64 S) := by rw [bkeep hb (by simp)]; simp [go_sem]
    have z2 : w1.cell? ⟨w.heap.size, 2, none⟩ = some (.int .i64 R) := by rw [bkeep hb (by simp)]; simp [go_sem]
    have HB1 := Lib.hid (((Below.refl w.heap.size w).alloc (Nat.le_refl _) (.cells #[.int .i64 T, .int .i64 S, .int .i64 R] 23)).trans (hb.mono (by simp)))
    clear hb
    go_region_held3 (fun w' => w'.cell? ⟨w.heap.size, 0, none⟩ = some (.int .i64 T) ∧ w'.cell? ⟨w.heap.size, 1, none⟩ = some (.int .i64 S) ∧ w'.cell? ⟨w.heap.size, 2, none⟩ = some (.int .i64 R)) (simp [go_sem, World.cell?_alloc_lt, *])
      (first
        | (go_at_call 47; refine (vector_any w1.drew _ _ _ _ (HS.out.below HB1.out.drew) (by omega)).mono ?_; rintro e w2 ⟨A1, n1, c1, rfl, hs1, hn1, hb2⟩; have q2 := bkeep hb2 hz1; have hz2 := Nat.lt_of_lt_of_le hz1 hb2.size; have HB2 := Lib.hid (HB1.out.drew.trans (hb2.mono HB1.out.size)); have HS1 := Lib.hid hs1; have HS2 := Lib.hid (sl_one w2 T S R); clear hs1 hb2)
        | (go_at_call 47; refine (vector_any (w1.alloc (.cells #[.int .i64 T, .int .i64 S, .int .i64 R] 23)).drew _ _ _ _ (HS.out.below (HB1.out.alloc HB1.out.size _).drew) (by omega)).mono ?_; rintro e w2 ⟨A1, n1, c1, rfl, hs1, hn1, hb2⟩; have q2 := bkeep hb2 (b := w.heap.size) (by simp; omega); have hz2 : w.heap.size < w2.heap.size := (by have := hb2.size; simp at this; omega); have HB2 := Lib.hid ((HB1.out.alloc HB1.out.size _).drew.trans (hb2.mono (by have := HB1.out.size; simp; omega))); have HS1 := Lib.hid hs1; have HS2 := Lib.hid ((sl_one w1 T S R).below ((Below.refl _ _).drew.trans hb2)); clear hs1 hb2)
        | (go_at_call 46; refine (with_any (w2.alloc (.cells #[.int .i64 T, .int .i64 S, .int .i64 R] 23)) A1 _ n1 c1 1 1 (vec l) [(T, S, R)] (HS1.out.below ((Below.refl _ _).alloc (Nat.le_refl _) _)) HS2.out (by omega) (by omega) (asc_vec l)).mono ?_; rintro e w3 ⟨A3, c3, rfl, hO, hb3⟩; have HO := Lib.hid hO; have HB3 := Lib.hid ((HB2.out.alloc HB2.out.size _).trans (hb3.mono (by have := HB2.out.size; simp; omega))); have q3 := bkeep hb3 (b := w.heap.size) (by simp; omega); clear hO hb3)
        | (go_at_call 46; refine (with_any w2 A1 _ n1 c1 1 1 (vec l) [(T, S, R)] HS1.out HS2.out (by omega) (by omega) (asc_vec l)).mono ?_; rintro e w3 ⟨A3, c3, rfl, hO, hb3⟩; have HO := Lib.hid hO; have HB3 := Lib.hid (HB2.out.trans (hb3.mono HB2.out.size)); have q3 := bkeep hb3 hz2; clear hO hb3))
    all_goals
      go_wp2
      go_ret
      exact ⟨A3, _, c3, rfl, by rw [HN.out]; exact HO.out.sl.1, by have := insC_length (vec l) (T, S, R); have := vec_length l; have := HL.out; show (insC (vec l) (T, S, R)).length ≤ 50; omega, HB3.out⟩

/-- Join. -/
def joinC (a b : List C) : List C := (vec b).foldl insC (vec a)
theorem joinC_length (a b : List C) : (joinC a b).length ≤ a.length + b.length := by
  have := foldl_insC_length (vec b) (vec a)
  have := vec_length a
  have := vec_length b
  unfold joinC
  omega

set_option maxHeartbeats 2000000 in
theorem join_any (w : World) (A A2 : Option Addr) (n c m d : Nat) (a b : List C) (ha : Sl w A n c a) (hb : Sl w A2 m d b) (hn : n ≤ 50) (hm : m ≤ 50) :
    Calls Try.prog 32 #[.slice A n c, .slice A2 m d] w (IsSl w (n + m) (joinC a b)) := by
  have HA := Lib.hid ha
  have HB := Lib.hid hb
  have HLA := Lib.hid ha.1
  have HLB := Lib.hid hb.1
  clear ha hb
  go_enter Try.func32, Try.ntmps32
  go_wp2_with fail
  refine (vector_any _ _ _ _ _ HA.out (by omega)).mono ?_
  rintro e w1 ⟨A1, n1, c1, rfl, hs1, hn1, hb1⟩
  have HS1 := Lib.hid hs1
  have HB1 := Lib.hid hb1
  clear hs1 hb1
  go_wp2_with fail
  refine (vector_any _ _ _ _ _ (HB.out.below HB1.out) (by omega)).mono ?_
  rintro e w2 ⟨A3, n3, c3, rfl, hs3, hn3, hb2⟩
  have HS3 := Lib.hid hs3
  have HS1' := Lib.hid (HS1.out.below hb2)
  have HB2 := Lib.hid (HB1.out.trans (hb2.mono HB1.out.size))
  clear hs3 hb2
  go_wp2_with fail
  refine (with_any _ _ _ _ _ _ _ _ _ HS1'.out HS3.out (by omega) (by omega) (asc_vec a)).mono ?_
  rintro e w3 ⟨A5, c5, rfl, hO, hb3⟩
  have HO := Lib.hid hO
  have HB3 := Lib.hid (HB2.out.trans (hb3.mono HB2.out.size))
  clear hO hb3
  go_wp2
  go_ret
  exact ⟨A5, _, c5, rfl, HO.out.sl.1, by have := joinC_length a b; rw [← HLA.out, ← HLB.out]; exact this, HB3.out⟩

/-- append onto a row of the call's own. -/
theorem wpList_app {w : World} {ops : Array Oper} {rest : List Oper} {o : Oper} {a : Act} {Q : Exit → Act → World → Prop} (hgd : o.guard = none) (s x : Operand)
    (ho : o.op = .call { callee := .builtin .append, args := #[s, x], argTypes := #[39, 39] }) (base c : Nat) (A : Option Addr) (l : List C) (hs : a.eval s = .slice A l.length c) (hown : Own w base (.slice A l.length c) l)
    (B : Option Addr) (m d : Nat) (y : List C) (hx : a.eval x = .slice B m d) (hy : Sl w B m d y) (hB : B ≠ none) (hlen : l.length + m ≤ 1000) (hb : base ≤ w.heap.size)
    (h : ∀ A' c' w', Own w' base (.slice A' (l ++ y).length c') (l ++ y) → w.grownBy w' (Value.slice A l.length c).ownBlock → wpList Try.prog ops Q rest (a.put o.dst (.slice A' (l ++ y).length c')) w') : wpList Try.prog ops Q (o :: rest) a w := by
  obtain ⟨i0, hi, hz0, hz1, hz2⟩ := info_parts csn_info
  cases B with
  | none => exact absurd rfl hB
  | some ad =>
    refine wpList_append_own_at _ hgd s x _ ho base 23 i0 _ 3 24 Try.underlying39 hi hz0 hz1 hz2 rfl (by decide) _ l.length (flat l) hs hown ad m d (flat y) hx (by rw [flat_length, hy.1]) ?_ (flat_one y) (by simp only [maxLen]; omega) (by omega) hb ?_
    · intro j u hu
      rcases Nat.eq_zero_or_pos m with h0 | h0
      · have hl : y = [] := List.eq_nil_of_length_eq_zero (hy.1.trans h0)
        rw [hl] at hu
        exact absurd hu (by simp [flat])
      · obtain ⟨b, off, h, _⟩ := hy.2.2 h0
        injection h with h
        subst h
        exact hy.flat j u hu
    · intro v' w1 hown1 hgrow _ _
      have hO : Own w1 base v' (l ++ y) := by rw [Own, flat_append, List.length_append, hy.1]; exact hown1
      obtain ⟨A', c', rfl⟩ := hO.form
      exact h A' c' w1 hO hgrow
end Go.Proofs.Yteidbomkbddliaa.Csn
