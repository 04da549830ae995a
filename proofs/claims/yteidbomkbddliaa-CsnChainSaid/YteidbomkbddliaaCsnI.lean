/-
  The walks of layer 15: slices.Clone, BinarySearchFunc, Insert at change sequence numbers.
-/
import Derived.Test.YteidbomkbddliaaCsnW
import Derived.Test.YteidbomkbddliaaRowLaw
namespace Go.Proofs.Yteidbomkbddliaa.Csn
open Go.RowKit

theorem csn_info : (Try.prog.info? 23).map (fun i => (i.zero, i.size, i.bytes)) = some (some (.agg #[.int .i64 0, .int .i64 0, .int .i64 0]), 3, 24) := by kernel_rfl
theorem csn_size : (Try.prog.info? 23).map (·.size) = some 3 := by kernel_rfl

/-- The cells of a list. -/
def flat : List C → List Value
  | [] => []
  | x :: r => .int .i64 x.1 :: .int .i64 x.2.1 :: .int .i64 x.2.2 :: flat r
theorem flat_length (l : List C) : (flat l).length = l.length * 3 := by
  induction l with
  | nil => rfl
  | cons x r ih => simp [flat, ih]; omega
theorem flat_append (a b : List C) : flat (a ++ b) = flat a ++ flat b := by
  induction a with
  | nil => rfl
  | cons x r ih => simp [flat, ih]
theorem flat_one (l : List C) : ∀ u ∈ flat l, u.oneCell' = true := by
  induction l with
  | nil => simp [flat]
  | cons x r ih =>
    intro u hu
    simp only [flat, List.mem_cons] at hu
    rcases hu with rfl | rfl | rfl | hu
    · rfl
    · rfl
    · rfl
    · exact ih u hu
theorem flat_get (l : List C) (i : Nat) (h : i < l.length) : (flat l)[i * 3]? = some (.int .i64 (cT l i)) ∧ (flat l)[i * 3 + 1]? = some (.int .i64 (cS l i)) ∧ (flat l)[i * 3 + 2]? = some (.int .i64 (cR l i)) := by
  induction l generalizing i with
  | nil => simp at h
  | cons x r ih =>
    cases i with
    | zero => exact ⟨rfl, rfl, rfl⟩
    | succ i =>
      have := ih i (by simpa using h)
      have e : (i + 1) * 3 = i * 3 + 1 + 1 + 1 := by omega
      rw [e]
      simpa [flat, cT, cS, cR] using this
theorem flat_take (l : List C) (i : Nat) : flat (l.take i) = (flat l).take (i * 3) := by
  induction l generalizing i with
  | nil => simp [flat]
  | cons x r ih =>
    cases i with
    | zero => simp [flat]
    | succ i =>
      have e : (i + 1) * 3 = i * 3 + 1 + 1 + 1 := by omega
      rw [e, List.take_succ_cons]
      simp [flat, ih]
theorem flat_drop (l : List C) (i : Nat) : flat (l.drop i) = (flat l).drop (i * 3) := by
  induction l generalizing i with
  | nil => simp [flat]
  | cons x r ih =>
    cases i with
    | zero => simp
    | succ i =>
      have e : (i + 1) * 3 = i * 3 + 1 + 1 + 1 := by omega
      rw [e, List.drop_succ_cons]
      simp [flat, ih]

/-- Cells read as a flat list. -/
theorem Sl.flat {w : World} {b off n c : Nat} {l : List C} (h : Sl w (some ⟨b, off, none⟩) n c l) : ∀ j u, (Csn.flat l)[j]? = some u → w.cell? ((⟨b, off, none⟩ : Addr).add j) = some u := by
  intro j u hu
  have hj : j < (Csn.flat l).length := by
    rcases Nat.lt_or_ge j (Csn.flat l).length with h | h
    · exact h
    · rw [List.getElem?_eq_none h] at hu; cases hu
  rw [flat_length, h.1] at hj
  obtain ⟨b', off', he, hb, hc⟩ := h.2.2 (by omega)
  injection he with he
  injection he with e1 e2
  subst e1; subst e2
  have hadd : (⟨b, off, none⟩ : Addr).add j = ⟨b, off + j, none⟩ := by unfold Addr.add; split <;> simp_all
  rw [hadd]
  obtain ⟨i, r, hr, rfl⟩ : ∃ i r, r < 3 ∧ j = i * 3 + r := ⟨j / 3, j % 3, by omega, by omega⟩
  obtain ⟨g0, g1, g2⟩ := flat_get l i (by rw [h.1]; omega)
  obtain ⟨c0, c1, c2⟩ := hc i (by omega)
  rcases (by omega : r = 0 ∨ r = 1 ∨ r = 2) with rfl | rfl | rfl
  · rw [Nat.add_zero] at hu ⊢; rw [g0] at hu; rw [← hu]; exact c0
  · rw [g1] at hu; rw [← hu, ← Nat.add_assoc]; exact c1
  · rw [g2] at hu; rw [← hu, ← Nat.add_assoc]; exact c2

/-- An owned row of numbers. -/
def Own (w : World) (base : Nat) (v : Value) (l : List C) : Prop := w.ownsRow base 23 3 v l.length (flat l)
theorem Own.sl {w : World} {base : Nat} {A : Option Addr} {n c : Nat} {l : List C} (h : Own w base (.slice A n c) l) : Sl w A n c l ∧ n = l.length ∧ (A = none → c = 0) := by
  have h2 := h.2
  rcases h2 with ⟨hv, hn⟩ | ⟨g, cap, cur, hv, hg, hh, hnc, hcm, hcs, ht⟩
  · injection hv with e1 e2 e3
    subst e1; subst e2; subst e3
    have : l = [] := List.eq_nil_of_length_eq_zero hn
    subst this
    exact ⟨Sl.nil _ _, rfl, fun _ => rfl⟩
  · injection hv with e1 e2 e3
    subst e1; subst e2; subst e3
    refine ⟨⟨rfl, hnc, fun h0 => ⟨g, 0, rfl, (Array.getElem?_eq_some_iff.1 hh).1, fun i hi => ?_⟩⟩, rfl, fun h => by cases h⟩
    obtain ⟨f0, f1, f2⟩ := flat_get l i hi
    have hcell : ∀ j, j < l.length * 3 → w.cell? ⟨g, j, none⟩ = (Csn.flat l)[j]? := fun j hj => by
      rw [← ht, List.getElem?_take, if_pos hj]
      simp [World.cell?, hh]
    simp only [Nat.zero_add]
    rw [hcell _ (by omega), hcell _ (by omega), hcell _ (by omega)]
    exact ⟨f0, f1, f2⟩

theorem Own.form {w : World} {base : Nat} {v : Value} {l : List C} (h : Own w base v l) : ∃ A c, v = .slice A l.length c := by
  rcases h.2 with ⟨hv, hn⟩ | ⟨g, cap, cur, hv, _⟩
  · exact ⟨none, 0, by rw [hv, hn]⟩
  · exact ⟨_, _, hv⟩
/-- A row of the call's own comes back that reads as l. -/
def IsOwn (w : World) (base : Nat) (l : List C) (e : Ending) (w' : World) : Prop :=
  ∃ A c, e = .returned (.slice A l.length c) ∧ Own w' base (.slice A l.length c) l ∧ Below base w w'

set_option maxHeartbeats 1000000 in
theorem clone_any (w : World) (A : Option Addr) (n c : Nat) (l : List C) (hs : Sl w A n c l) (hn : n ≤ 1000) :
    Calls Try.prog 53 #[.slice A n c] w (IsOwn w w.heap.size l) := by
  have HS := Lib.hid hs
  have HL := Lib.hid hs.1
  cases A with
  | none =>
    have h0 : n = 0 := by
      rcases Nat.eq_zero_or_pos n with h | h
      · exact h
      · obtain ⟨b, off, h, _⟩ := hs.2.2 h; cases h
    subst h0
    have hl : l = [] := List.eq_nil_of_length_eq_zero hs.1
    subst hl
    clear hs
    have he := Lib.run_eql_slice_nil (P := Try.prog) w 39 23 none 0 c 0 0 Try.underlying39
    simp only [Option.isNone_none] at he
    go_enter Try.func53, Try.ntmps53
    go_wp2
    go_ret
    exact ⟨none, 0, rfl, World.ownsRow_nil _ _ _ _, Below.refl _ _⟩
  | some ad =>
    obtain ⟨i0, hi, hz0, hz1, hz2⟩ := info_parts csn_info
    have HF := Lib.hid (show ∀ j u, (flat l)[j]? = some u → w.cell? (ad.add j) = some u by
      intro j u hu
      rcases Nat.eq_zero_or_pos n with h0 | h0
      · have hl : l = [] := List.eq_nil_of_length_eq_zero (hs.1.trans h0)
        rw [hl] at hu
        exact absurd hu (by simp [flat])
      · obtain ⟨b, off, h, _⟩ := hs.2.2 h0
        injection h with h
        subst h
        exact hs.flat j u hu)
    have HNE := Lib.hid (show ∀ (j : Nat) (u : Value), (flat l)[j]? = some u → ad.block < w.heap.size by
      intro j u hu
      rcases Nat.eq_zero_or_pos n with h0 | h0
      · have hl : l = [] := List.eq_nil_of_length_eq_zero (hs.1.trans h0)
        rw [hl] at hu
        exact absurd hu (by simp [flat])
      · obtain ⟨b, off, h, hb, _⟩ := hs.2.2 h0
        injection h with h
        subst h
        exact hb)
    clear hs
    have he := Lib.run_eql_slice_nil (P := Try.prog) w 39 23 (some ad) n c 0 0 Try.underlying39
    simp only [Option.isNone_some] at he
    go_enter Try.func53, Try.ntmps53
    have hown0 : (w.alloc (.cells #[] 23)).ownsRow w.heap.size 23 3 (.slice (some ⟨w.heap.size, 0, none⟩) 0 0) 0 [] :=
      ⟨rfl, .inr ⟨w.heap.size, 0, #[], rfl, Nat.le_refl _, heap_alloc_new w _, Nat.le_refl _, by simp [maxLen], rfl, rfl⟩⟩
    have hsrc0 : ∀ j u, (flat l)[j]? = some u → (w.alloc (.cells #[] 23)).cell? (ad.add j) = some u := fun j u hu => by
      rw [World.cell?_alloc_lt w _ _ (by have := HNE.out j u hu; unfold Addr.add; split <;> exact this)]
      exact HF.out j u hu
    have HO0 := Lib.hid hown0
    have HS0 := Lib.hid hsrc0
    clear hown0 hsrc0
    go_wp2_with (at_builtin; refine wpList_append_own_at _ rfl (.tmp 5) (.tmp 6) _ rfl w.heap.size 23 i0 _ 3 24 Try.underlying39 hi hz0 hz1 hz2 rfl (by decide) (.slice (some ⟨w.heap.size, 0, none⟩) 0 0) 0 [] rfl HO0.out ad n c (flat l) rfl (by rw [flat_length, HL.out]) HS0.out (flat_one l) (by simp only [maxLen]; omega) (by omega) (by simp) ?_; intro v' w1 hown1 hgrow hnil hat)
    have hO : Own w1 w.heap.size v' l := by rw [Own, HL.out]; simpa using hown1
    obtain ⟨A', c', rfl⟩ := hO.form
    go_wp2
    go_ret
    exact ⟨A', c', rfl, hO, ((Below.refl _ _).alloc (Nat.le_refl _) _).grown hgrow (by simp) (fun k hk => by simp [Value.ownBlock] at hk; omega)⟩

theorem withFn_any (t s r t' s' r' : Int) (w : World) :
    Calls Try.prog 55 #[.agg #[.int .i64 t, .int .i64 s, .int .i64 r], .agg #[.int .i64 t', .int .i64 s', .int .i64 r']] w fun e w' => e = .returned (.int .i64 (ord r r')) ∧ Below w.heap.size w w' := by
  go_enter Try.func55, Try.ntmps55
  go_wp2_with (go_at_call 37; refine (compare_int _ _ _).mono ?_; rintro e w1 ⟨rfl, rfl⟩)
  go_ret
  exact ⟨rfl, ((Below.refl _ _).alloc (Nat.le_refl _) _).alloc (by simp) _⟩

/-- How many numbers stand ahead of a replica. -/
def lb : List C → Int → Nat
  | [], _ => 0
  | x :: r, k => if x.2.2 < k then lb r k + 1 else 0
theorem lb_eq (l : List C) (k : Int) (i : Nat) (hi : i ≤ l.length) (h1 : ∀ q, q < i → cR l q < k) (h2 : ∀ q, i ≤ q → q < l.length → k ≤ cR l q) : lb l k = i := by
  induction l generalizing i with
  | nil => simp at hi; simp [lb, hi]
  | cons x r ih =>
    cases i with
    | zero =>
      have := h2 0 (by omega) (by simp)
      simp [cR] at this
      simp [lb]
      omega
    | succ i =>
      have h0 := h1 0 (by omega)
      simp [cR] at h0
      have := ih i (by simpa using hi) (fun q hq => by have := h1 (q + 1) (by omega); simpa [cR] using this) (fun q hq hl => by have := h2 (q + 1) (by omega) (by simpa using hl); simpa [cR] using this)
      simp [lb, h0, this]
def fnd (l : List C) (k : Int) : Bool := decide (lb l k < l.length ∧ cR l (lb l k) = k)
/-- Ascending replicas. -/
def Asc (l : List C) : Prop := ∀ i j, i < j → j < l.length → cR l i < cR l j

theorem asc_lt {l : List C} (ha : Asc l) {x m : Nat} {k : Int} (hm : m < l.length) (hx : x ≤ m) (h : cR l m < k) : cR l x < k := by
  rcases Nat.lt_or_ge x m with h1 | h1
  · have := ha x m h1 hm; omega
  · have : x = m := by omega
    subst this; exact h
theorem asc_ge {l : List C} (ha : Asc l) {x m : Nat} {k : Int} (hx : m ≤ x) (hl : x < l.length) (h : k ≤ cR l m) : k ≤ cR l x := by
  rcases Nat.lt_or_ge m x with h1 | h1
  · have := ha m x h1 hl; omega
  · have : x = m := by omega
    subst this; exact h
/-- What the search's loop holds. -/
def BsRel (l : List C) (k : Int) (i j : Nat) : Prop := i ≤ j ∧ j ≤ l.length ∧ (∀ q, q < i → cR l q < k) ∧ (∀ q, j ≤ q → q < l.length → k ≤ cR l q)

set_option maxHeartbeats 4000000 in
theorem search_any (w : World) (A : Option Addr) (n c : Nat) (l : List C) (T S R : Int) (hs : Sl w A n c l) (hn : n ≤ 1000) (ha : Asc l) :
    Calls Try.prog 54 #[.slice A n c, .agg #[.int .i64 T, .int .i64 S, .int .i64 R], .func (.func 55) #[] #[]] w fun e w' => e = .returned (.tuple #[.int .i64 (lb l R), .bool (fnd l R)]) ∧ Below w.heap.size w w' := by
  have HS := Lib.hid (hs.below ((Below.refl w.heap.size w).alloc (Nat.le_refl _) (.cells #[.int .i64 T, .int .i64 S, .int .i64 R] 23)))
  have HL := Lib.hid hs.1
  have HA := Lib.hid ha
  clear hs ha
  go_enter Try.func54, Try.ntmps54
  go_wp2
  go_loopw [9, 10, 11] (fun i j _ wr => ∃ p q : Nat, i = .int .i64 p ∧ j = .int .i64 q ∧ p ≤ q ∧ q ≤ n ∧ BsRel l R p q ∧ Below (w.heap.size + 1) (w.alloc (.cells #[.int .i64 T, .int .i64 S, .int .i64 R] 23)) wr) (fun i j _ _ => (intOf j).toNat - (intOf i).toNat)
  case atStart => exact ⟨0, n, rfl, rfl, Nat.zero_le _, Nat.le_refl _, ⟨Nat.zero_le _, by rw [HL.out]; exact Nat.le_refl _, fun q hq => absurd hq (by omega), fun q h1 h2 => absurd h2 (by rw [HL.out]; omega)⟩, Below.refl _ _⟩
  case round =>
    obtain ⟨p, q, rfl, rfl, hpq, hqn, hbs, hb⟩ := hrel
    have hsz := hb.size
    simp at hsz
    have hz : w.heap.size < wr.heap.size := by omega
    have z0 : wr.cell? ⟨w.heap.size, 0, none⟩ = some (.int .i64 T) := by rw [hb.cell (p := ⟨w.heap.size, 0, none⟩) (by simp)]; simp [go_sem]
    have z1 : wr.cell? ⟨w.heap.size, 1, none⟩ = some (.int .i64 S) := by rw [hb.cell (p := ⟨w.heap.size, 1, none⟩) (by simp)]; simp [go_sem]
    have z2 : wr.cell? ⟨w.heap.size, 2, none⟩ = some (.int .i64 R) := by rw [hb.cell (p := ⟨w.heap.size, 2, none⟩) (by simp)]; simp [go_sem]
    have HB := Lib.hid hb
    have HBS := Lib.hid hbs
    have hslr := HS.out.below (hb.mono (by simp))
    clear hb hbs
    by_cases hlt : p < q
    · obtain ⟨m, hm⟩ : ∃ m, m = (p + q) / 2 := ⟨_, rfl⟩
      have hm1 : p ≤ m := by omega
      have hm2 : m < q := by omega
      have hmn : m < n := by omega
      have hmi : (((p : Int) + (q : Int)) / 2) = (m : Int) := by omega
      obtain ⟨b, off, rfl, hbl, hc⟩ := hslr.2.2 (by omega)
      obtain ⟨c0, c1, c2⟩ := hc m (by omega)
      clear hc hm
      by_cases hlr : cR l m < R
      · have ho : ord (cR l m) R < 0 := by rw [ord_lt hlr]; decide
        have HN := Lib.hid (show BsRel l R (m + 1) q from ⟨by omega, HBS.out.2.1, fun x hx => if h : x < p then HBS.out.2.2.1 x h else asc_lt HA.out (by rw [HL.out]; omega) (by omega) hlr, HBS.out.2.2.2⟩)
        clear hlr
        go_wp2
        go_region_held3 (fun w' => w'.cell? ⟨b, off + m * 3, none⟩ = some (.int .i64 (cT l m)) ∧ w'.cell? ⟨b, off + m * 3 + 1, none⟩ = some (.int .i64 (cS l m)) ∧ w'.cell? ⟨b, off + m * 3 + 2, none⟩ = some (.int .i64 (cR l m)) ∧ w'.cell? ⟨w.heap.size, 0, none⟩ = some (.int .i64 T) ∧ w'.cell? ⟨w.heap.size, 1, none⟩ = some (.int .i64 S) ∧ w'.cell? ⟨w.heap.size, 2, none⟩ = some (.int .i64 R)) (simp [go_sem, *])
          ((go_at_call 55; refine (withFn_any _ _ _ _ _ _ _).mono ?_; rintro e w3 ⟨rfl, hb3⟩; have q3 := bkeep hb3 hbl; have q4 := bkeep hb3 hz))
        have HB3 := Lib.hid (HB.out.drew.trans (hb3.mono (by simp; omega)))
        clear hb3
        go_wp2
        go_roundw
        case rel => exact ⟨m + 1, q, by go_num, rfl, by omega, hqn, HN.out, HB3.out⟩
        case measure => simp [intOf]; omega
      · have ho : 0 ≤ ord (cR l m) R := by unfold ord; rw [if_neg hlr]; split <;> decide
        have HN := Lib.hid (show BsRel l R p m from ⟨hm1, by have := HBS.out.2.1; omega, HBS.out.2.2.1, fun x h1 h2 => asc_ge HA.out h1 h2 (by omega)⟩)
        clear hlr
        go_wp2
        go_region_held3 (fun w' => w'.cell? ⟨b, off + m * 3, none⟩ = some (.int .i64 (cT l m)) ∧ w'.cell? ⟨b, off + m * 3 + 1, none⟩ = some (.int .i64 (cS l m)) ∧ w'.cell? ⟨b, off + m * 3 + 2, none⟩ = some (.int .i64 (cR l m)) ∧ w'.cell? ⟨w.heap.size, 0, none⟩ = some (.int .i64 T) ∧ w'.cell? ⟨w.heap.size, 1, none⟩ = some (.int .i64 S) ∧ w'.cell? ⟨w.heap.size, 2, none⟩ = some (.int .i64 R)) (simp [go_sem, *])
          ((go_at_call 55; refine (withFn_any _ _ _ _ _ _ _).mono ?_; rintro e w3 ⟨rfl, hb3⟩; have q3 := bkeep hb3 hbl; have q4 := bkeep hb3 hz))
        have HB3 := Lib.hid (HB.out.drew.trans (hb3.mono (by simp; omega)))
        clear hb3
        go_wp2
        go_roundw
        case rel => exact ⟨p, m, rfl, rfl, hm1, by omega, HN.out, HB3.out⟩
        case measure => simp [intOf]; omega
    · have e : p = q := by omega
      subst e
      have HLB := Lib.hid (lb_eq l R p (by rw [HL.out]; exact hqn) HBS.out.2.2.1 HBS.out.2.2.2)
      by_cases hlt2 : p < n
      · obtain ⟨b, off, rfl, hbl, hc⟩ := hslr.2.2 (by omega)
        obtain ⟨c0, c1, c2⟩ := hc p (by omega)
        have hge := HBS.out.2.2.2 p (Nat.le_refl _) (by rw [HL.out]; exact hlt2)
        have hdt : decide (p < n) = true := by simpa using hlt2
        clear hc
        by_cases heq : cR l p = R
        · have ho : ord (cR l p) R = 0 := by rw [heq]; exact ord_eq _
          have HF := Lib.hid (show fnd l R = true by simp [fnd, HLB.out, heq, HL.out, hlt2])
          clear heq hge
          go_wp2
          go_region_held3 (fun w' => w'.cell? ⟨b, off + p * 3, none⟩ = some (.int .i64 (cT l p)) ∧ w'.cell? ⟨b, off + p * 3 + 1, none⟩ = some (.int .i64 (cS l p)) ∧ w'.cell? ⟨b, off + p * 3 + 2, none⟩ = some (.int .i64 (cR l p)) ∧ w'.cell? ⟨w.heap.size, 0, none⟩ = some (.int .i64 T) ∧ w'.cell? ⟨w.heap.size, 1, none⟩ = some (.int .i64 S) ∧ w'.cell? ⟨w.heap.size, 2, none⟩ = some (.int .i64 R)) (simp [go_sem, *])
            ((go_at_call 55; refine (withFn_any _ _ _ _ _ _ _).mono ?_; rintro e w3 ⟨rfl, hb3⟩; have q3 := bkeep hb3 hbl; have q4 := bkeep hb3 hz))
          have HB3 := Lib.hid (HB.out.drew.trans (hb3.mono (by simp; omega)))
          clear hb3
          go_wp2
          go_ret2
          exact ⟨by rw [HLB.out, HF.out]; rfl, ((Below.refl _ _).alloc (Nat.le_refl _) _).trans (HB3.out.mono (by omega))⟩
        · have ho : (ord (cR l p) R == 0) = false := by rw [ord_gt (by omega)]; rfl
          have HF := Lib.hid (show fnd l R = false by simp [fnd, HLB.out, heq])
          clear heq hge
          go_wp2
          go_region_held3 (fun w' => w'.cell? ⟨b, off + p * 3, none⟩ = some (.int .i64 (cT l p)) ∧ w'.cell? ⟨b, off + p * 3 + 1, none⟩ = some (.int .i64 (cS l p)) ∧ w'.cell? ⟨b, off + p * 3 + 2, none⟩ = some (.int .i64 (cR l p)) ∧ w'.cell? ⟨w.heap.size, 0, none⟩ = some (.int .i64 T) ∧ w'.cell? ⟨w.heap.size, 1, none⟩ = some (.int .i64 S) ∧ w'.cell? ⟨w.heap.size, 2, none⟩ = some (.int .i64 R)) (simp [go_sem, *])
            ((go_at_call 55; refine (withFn_any _ _ _ _ _ _ _).mono ?_; rintro e w3 ⟨rfl, hb3⟩; have q3 := bkeep hb3 hbl; have q4 := bkeep hb3 hz))
          have HB3 := Lib.hid (HB.out.drew.trans (hb3.mono (by simp; omega)))
          clear hb3
          go_wp2
          go_ret2
          exact ⟨by rw [HLB.out, HF.out]; rfl, ((Below.refl _ _).alloc (Nat.le_refl _) _).trans (HB3.out.mono (by omega))⟩
      · have HF := Lib.hid (show fnd l R = false by simp [fnd, HLB.out, HL.out]; omega)
        have hdt : decide (p < n) = false := by simpa using hlt2
        go_wp2
        go_quiet (fail)
        go_wp2
        go_ret2
        exact ⟨by rw [HLB.out, HF.out]; rfl, below_drewN (((Below.refl _ _).alloc (Nat.le_refl _) _).trans (HB.out.mono (by omega))) _⟩
end Go.Proofs.Yteidbomkbddliaa.Csn
