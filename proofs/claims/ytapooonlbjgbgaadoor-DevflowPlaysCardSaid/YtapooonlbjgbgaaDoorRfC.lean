/-
  The walks of scopes: the reference's Implies; covered, Within, both; slices of strings.
-/
import Derived.Test.YtapooonlbjgbgaaDoorRfB
namespace Go.Proofs.YtapooonlbjgbgaaDoor.Rf
open Go.RowKit Go.Proofs.YtapooonlbjgbgaaDoor.Fo

set_option maxHeartbeats 1000000 in
theorem rimplies_any (a b : Bs) (w : World) (ha : a.size ≤ 100000) (hb : b.size ≤ 100000) : Calls Tryd.prog 94 #[.string a, .string b] w fun e w' => e = .returned (.bool (implS a b)) ∧ w = w' := by
  have g : IntKind.i64.wrap ((a.size : Int) + 1) = (a.size : Int) + 1 := IntWalk.i64_in _ (by omega)
  have g1 : (0 : Int) ≤ (a.size : Int) + 1 := by omega
  have g2 : ((a.size : Int) + 1).toNat = a.size + 1 := by omega
  cases hx : scp a with
  | false =>
    have HR := Lib.hid (show implS a b = false by unfold implS; rw [hx]; rfl)
    have HX := Lib.hid hx
    clear hx
    go_enter Tryd.func94, Tryd.ntmps94
    go_wp2_with fail
    refine (rscope_is a w ha false HX.out).mono ?_
    rintro e w1 ⟨rfl, rfl⟩
    go_wp2
    go_ret
    exact ⟨ret_bool HR.out.symm, rfl⟩
  | true =>
    cases hy : scp b with
    | false =>
      have HR := Lib.hid (show implS a b = false by unfold implS; rw [hx, hy]; rfl)
      have HX := Lib.hid hx
      have HY := Lib.hid hy
      clear hx hy
      go_enter Tryd.func94, Tryd.ntmps94
      go_wp2_with fail
      refine (rscope_is a w ha true HX.out).mono ?_
      rintro e w1 ⟨rfl, rfl⟩
      go_wp2_with fail
      refine (rscope_is b w hb false HY.out).mono ?_
      rintro e w1 ⟨rfl, rfl⟩
      go_wp2
      go_ret
      exact ⟨ret_bool HR.out.symm, rfl⟩
    | true =>
      have HX := Lib.hid hx
      have HY := Lib.hid hy
      by_cases hab : a = b
      · have HR := Lib.hid (show implS a b = true by unfold implS; rw [hx, hy]; simp [hab])
        have he : (a.toList == b.toList) = true := by rw [eq_toList]; simpa using hab
        clear hx hy hab
        go_enter Tryd.func94, Tryd.ntmps94
        go_wp2_with fail
        refine (rscope_is a w ha true HX.out).mono ?_
        rintro e w1 ⟨rfl, rfl⟩
        go_wp2_with fail
        refine (rscope_is b w hb true HY.out).mono ?_
        rintro e w1 ⟨rfl, rfl⟩
        go_wp2
        go_ret
        exact ⟨ret_bool HR.out.symm, rfl⟩
      · have he : (a.toList == b.toList) = false := by rw [eq_toList]; simpa using hab
        have HR := Lib.hid (show implS a b = preL a.data.toList b.data.toList by unfold implS; rw [hx, hy]; simp [hab])
        clear hx hy hab
        by_cases hl : a.size < b.size
        · have HP := Lib.hid (show ((b.extract 0 (a.size + 1)).toList == (a ++ (⟨#[46]⟩ : ByteArray)).toList) = implS a b by rw [eq_toList, pre_take, HR.out])
          go_enter Tryd.func94, Tryd.ntmps94
          go_wp2_with fail
          refine (rscope_is a w ha true HX.out).mono ?_
          rintro e w1 ⟨rfl, rfl⟩
          go_wp2_with fail
          refine (rscope_is b w hb true HY.out).mono ?_
          rintro e w1 ⟨rfl, rfl⟩
          go_wp2
          go_ret
          exact ⟨ret_bool HP.out, rfl⟩
        · have HP := Lib.hid (show implS a b = false by rw [HR.out, pre_len hl])
          go_enter Tryd.func94, Tryd.ntmps94
          go_wp2_with fail
          refine (rscope_is a w ha true HX.out).mono ?_
          rintro e w1 ⟨rfl, rfl⟩
          go_wp2_with fail
          refine (rscope_is b w hb true HY.out).mono ?_
          rintro e w1 ⟨rfl, rfl⟩
          go_wp2
          go_ret
          exact ⟨ret_bool HP.out.symm, rfl⟩

/-! ### Slices of strings -/
def sAt (l : List Bs) (i : Nat) : Bs := l.getD i ⟨#[]⟩
/-- A slice of strings in memory. -/
def Ss (w : World) (A : Option Addr) (n c : Nat) (l : List Bs) : Prop :=
  l.length = n ∧ n ≤ c ∧ (0 < n → ∃ b off, A = some ⟨b, off, none⟩ ∧ b < w.heap.size ∧ ∀ i, i < n → w.cell? ⟨b, off + i, none⟩ = some (.string (sAt l i)))
theorem Ss.nil (w : World) (c : Nat) (A : Option Addr) : Ss w A 0 c [] := ⟨rfl, Nat.zero_le _, fun h => absurd h (by omega)⟩
theorem Ss.below {w w' : World} {A : Option Addr} {n c : Nat} {l : List Bs} (h : Ss w A n c l) (hb : Below w.heap.size w w') : Ss w' A n c l := by
  refine ⟨h.1, h.2.1, fun hn => ?_⟩
  obtain ⟨b, off, hA, hl, hc⟩ := h.2.2 hn
  refine ⟨b, off, hA, Nat.lt_of_lt_of_le hl hb.size, fun i hi => ?_⟩
  rw [bkeep hb hl]
  exact hc i hi
/-- All strings of a list are short. -/
def Short (l : List Bs) : Prop := ∀ i, i < l.length → (sAt l i).size ≤ 100000
theorem sAt_get (l : List Bs) (i : Nat) (h : i < l.length) : l[i] = sAt l i := by simp [sAt, List.getD, h]
theorem ss_drop (l : List Bs) (i : Nat) (h : i < l.length) : l.drop i = sAt l i :: l.drop (i + 1) := by rw [List.drop_eq_getElem_cons h, sAt_get]
theorem Short.mem {l : List Bs} (h : Short l) {s : Bs} (hs : s ∈ l) : s.size ≤ 100000 := by
  obtain ⟨i, hi, rfl⟩ := List.getElem_of_mem hs
  rw [sAt_get]
  exact h i hi

theorem implies_is (a b : Bs) (w : World) (ha : a.size ≤ 100000) (hb : b.size ≤ 100000) (hm : MX w) (x : Bool) (h : implS a b = x) : Calls Tryd.prog 86 #[.string a, .string b] w fun e w' => e = .returned (.bool x) ∧ w = w' := by rw [← h]; exact implies_any a b w ha hb hm
theorem rimplies_is (a b : Bs) (w : World) (ha : a.size ≤ 100000) (hb : b.size ≤ 100000) (x : Bool) (h : implS a b = x) : Calls Tryd.prog 94 #[.string a, .string b] w fun e w' => e = .returned (.bool x) ∧ w = w' := by rw [← h]; exact rimplies_any a b w ha hb
theorem covered_any (s : Bs) (A : Option Addr) (n c : Nat) (l : List Bs) (w : World) (hz : s.size ≤ 100000) (hl : Ss w A n c l) (hsh : Short l) (hn : n ≤ 100000) (hm : MX w) :
    Calls Tryd.prog 70 #[.string s, .slice A n c] w fun e w' => e = .returned (.bool (covS s l)) ∧ w = w' := by
  have HL := Lib.hid hl
  have HLN := Lib.hid hl.1
  have HSH := Lib.hid hsh
  have HM := Lib.hid hm
  clear hl hsh hm
  go_enter Tryd.func70, Tryd.ntmps70
  go_wp2
  go_loop [9, 6] (fun i _ => ∃ k : Nat, i = .int .i64 k ∧ k ≤ n ∧ Hid (covS s l = covS s (l.drop k))) (fun i _ => n - (intOf i).toNat)
  case atStart => exact ⟨0, rfl, Nat.zero_le _, by rw [List.drop_zero]; trivial⟩
  case round =>
    obtain ⟨k, rfl, hk, HI⟩ := hrel
    by_cases hlt : k < n
    · obtain ⟨b, off, rfl, hbl, hc⟩ := HL.out.2.2 (by omega)
      have hck := hc k hlt
      have HD := Lib.hid (ss_drop l k (by rw [HLN.out]; exact hlt))
      have HZ := Lib.hid (HSH.out k (by rw [HLN.out]; exact hlt))
      obtain ⟨x, hx⟩ : ∃ x, sAt l k = x := ⟨_, rfl⟩
      rw [hx] at hck HD HZ
      clear hx hc
      cases hi : implS x s with
      | true =>
        have HR := Lib.hid (show covS s l = true by rw [HI.out, HD.out]; simp [covS, hi])
        have HX := Lib.hid hi
        clear hi
        go_wp2_with (go_at_call 86; refine (implies_is x s w HZ.out hz HM.out true HX.out).mono ?_; rintro e w1 ⟨rfl, rfl⟩)
        go_ret
        exact ⟨ret_bool HR.out.symm, rfl⟩
      | false =>
        have HR := Lib.hid (show covS s l = covS s (l.drop (k + 1)) by rw [HI.out, HD.out]; simp [covS, hi])
        have HX := Lib.hid hi
        clear hi
        go_wp2_with (go_at_call 86; refine (implies_is x s w HZ.out hz HM.out false HX.out).mono ?_; rintro e w1 ⟨rfl, rfl⟩)
        go_round
        case rel => exact ⟨k + 1, by go_num, by omega, HR.out⟩
        case measure => simp [intOf]; omega
    · have HR := Lib.hid (show covS s l = false by rw [HI.out, List.drop_eq_nil_of_le (by rw [HLN.out]; omega)]; rfl)
      go_wp2
      go_ret
      exact ⟨ret_bool HR.out.symm, rfl⟩
theorem covers_any (s : Bs) (A : Option Addr) (n c : Nat) (l : List Bs) (w : World) (hz : s.size ≤ 100000) (hl : Ss w A n c l) (hsh : Short l) (hn : n ≤ 100000) :
    Calls Tryd.prog 83 #[.slice A n c, .string s] w fun e w' => e = .returned (.bool (covS s l)) ∧ w = w' := by
  have HL := Lib.hid hl
  have HLN := Lib.hid hl.1
  have HSH := Lib.hid hsh
  clear hl hsh
  go_enter Tryd.func83, Tryd.ntmps83
  go_wp2
  go_loop [5] (fun i => ∃ k : Nat, i = .int .i64 k ∧ k ≤ n ∧ Hid (covS s l = covS s (l.drop k))) (fun i => n - (intOf i).toNat)
  case atStart => exact ⟨0, rfl, Nat.zero_le _, by rw [List.drop_zero]; trivial⟩
  case round =>
    obtain ⟨k, rfl, hk, HI⟩ := hrel
    by_cases hlt : k < n
    · obtain ⟨b, off, rfl, hbl, hc⟩ := HL.out.2.2 (by omega)
      have hck := hc k hlt
      have HD := Lib.hid (ss_drop l k (by rw [HLN.out]; exact hlt))
      have HZ := Lib.hid (HSH.out k (by rw [HLN.out]; exact hlt))
      obtain ⟨x, hx⟩ : ∃ x, sAt l k = x := ⟨_, rfl⟩
      rw [hx] at hck HD HZ
      clear hx hc
      cases hi : implS x s with
      | true =>
        have HR := Lib.hid (show covS s l = true by rw [HI.out, HD.out]; simp [covS, hi])
        have HX := Lib.hid hi
        clear hi
        go_wp2_with (go_at_call 94; refine (rimplies_is x s w HZ.out hz true HX.out).mono ?_; rintro e w1 ⟨rfl, rfl⟩)
        go_ret
        exact ⟨ret_bool HR.out.symm, rfl⟩
      | false =>
        have HR := Lib.hid (show covS s l = covS s (l.drop (k + 1)) by rw [HI.out, HD.out]; simp [covS, hi])
        have HX := Lib.hid hi
        clear hi
        go_wp2_with (go_at_call 94; refine (rimplies_is x s w HZ.out hz false HX.out).mono ?_; rintro e w1 ⟨rfl, rfl⟩)
        go_round
        case rel => exact ⟨k + 1, by go_num, by omega, HR.out⟩
        case measure => simp [intOf]; omega
    · have HR := Lib.hid (show covS s l = false by rw [HI.out, List.drop_eq_nil_of_le (by rw [HLN.out]; omega)]; rfl)
      go_wp2
      go_ret
      exact ⟨ret_bool HR.out.symm, rfl⟩
theorem covered_is (s : Bs) (A : Option Addr) (n c : Nat) (l : List Bs) (w : World) (hz : s.size ≤ 100000) (hl : Ss w A n c l) (hsh : Short l) (hn : n ≤ 100000) (hm : MX w) (x : Bool) (h : covS s l = x) :
    Calls Tryd.prog 70 #[.string s, .slice A n c] w fun e w' => e = .returned (.bool x) ∧ w = w' := by rw [← h]; exact covered_any s A n c l w hz hl hsh hn hm
theorem covers_is (s : Bs) (A : Option Addr) (n c : Nat) (l : List Bs) (w : World) (hz : s.size ≤ 100000) (hl : Ss w A n c l) (hsh : Short l) (hn : n ≤ 100000) (x : Bool) (h : covS s l = x) :
    Calls Tryd.prog 83 #[.slice A n c, .string s] w fun e w' => e = .returned (.bool x) ∧ w = w' := by rw [← h]; exact covers_any s A n c l w hz hl hsh hn
theorem within_any (A B : Option Addr) (n c m d : Nat) (l k : List Bs) (w : World) (hl : Ss w A n c l) (hk : Ss w B m d k) (hsl : Short l) (hsk : Short k) (hn : n ≤ 100000) (hmm : m ≤ 100000) (hm : MX w) :
    Calls Tryd.prog 37 #[.slice A n c, .slice B m d] w fun e w' => e = .returned (.bool (withinS l k)) ∧ w = w' := by
  have HL := Lib.hid hl
  have HK := Lib.hid hk
  have HLN := Lib.hid hl.1
  have HSH := Lib.hid hsl
  have HSK := Lib.hid hsk
  have HM := Lib.hid hm
  clear hl hsl hm hk hsk
  go_enter Tryd.func37, Tryd.ntmps37
  go_wp2
  go_loop [9, 6] (fun i _ => ∃ j : Nat, i = .int .i64 j ∧ j ≤ n ∧ Hid (withinS l k = withinS (l.drop j) k)) (fun i _ => n - (intOf i).toNat)
  case atStart => exact ⟨0, rfl, Nat.zero_le _, by rw [List.drop_zero]; trivial⟩
  case round =>
    obtain ⟨j, rfl, hj, HI⟩ := hrel
    by_cases hlt : j < n
    · obtain ⟨b, off, rfl, hbl, hc⟩ := HL.out.2.2 (by omega)
      have hck := hc j hlt
      have HD := Lib.hid (ss_drop l j (by rw [HLN.out]; exact hlt))
      have HZ := Lib.hid (HSH.out j (by rw [HLN.out]; exact hlt))
      obtain ⟨x, hx⟩ : ∃ x, sAt l j = x := ⟨_, rfl⟩
      rw [hx] at hck HD HZ
      clear hx hc
      cases hi : covS x k with
      | false =>
        have HR := Lib.hid (show withinS l k = false by rw [HI.out, HD.out]; simp [withinS, hi])
        have HX := Lib.hid hi
        clear hi
        go_wp2_with (go_at_call 70; refine (covered_is x B m d k w HZ.out HK.out HSK.out hmm HM.out false HX.out).mono ?_; rintro e w1 ⟨rfl, rfl⟩)
        go_ret
        exact ⟨ret_bool HR.out.symm, rfl⟩
      | true =>
        have HR := Lib.hid (show withinS l k = withinS (l.drop (j + 1)) k by rw [HI.out, HD.out]; simp [withinS, hi])
        have HX := Lib.hid hi
        clear hi
        go_wp2_with (go_at_call 70; refine (covered_is x B m d k w HZ.out HK.out HSK.out hmm HM.out true HX.out).mono ?_; rintro e w1 ⟨rfl, rfl⟩)
        go_round
        case rel => exact ⟨j + 1, by go_num, by omega, HR.out⟩
        case measure => simp [intOf]; omega
    · have HR := Lib.hid (show withinS l k = true by rw [HI.out, List.drop_eq_nil_of_le (by rw [HLN.out]; omega)]; rfl)
      go_wp2
      go_ret
      exact ⟨ret_bool HR.out.symm, rfl⟩
theorem rwithin_any (A B : Option Addr) (n c m d : Nat) (l k : List Bs) (w : World) (hl : Ss w A n c l) (hk : Ss w B m d k) (hsl : Short l) (hsk : Short k) (hn : n ≤ 100000) (hmm : m ≤ 100000) :
    Calls Tryd.prog 62 #[.slice A n c, .slice B m d] w fun e w' => e = .returned (.bool (withinS l k)) ∧ w = w' := by
  have HL := Lib.hid hl
  have HK := Lib.hid hk
  have HLN := Lib.hid hl.1
  have HSH := Lib.hid hsl
  have HSK := Lib.hid hsk
  clear hl hsl hk hsk
  go_enter Tryd.func62, Tryd.ntmps62
  go_wp2
  go_loop [5] (fun i => ∃ j : Nat, i = .int .i64 j ∧ j ≤ n ∧ Hid (withinS l k = withinS (l.drop j) k)) (fun i => n - (intOf i).toNat)
  case atStart => exact ⟨0, rfl, Nat.zero_le _, by rw [List.drop_zero]; trivial⟩
  case round =>
    obtain ⟨j, rfl, hj, HI⟩ := hrel
    by_cases hlt : j < n
    · obtain ⟨b, off, rfl, hbl, hc⟩ := HL.out.2.2 (by omega)
      have hck := hc j hlt
      have HD := Lib.hid (ss_drop l j (by rw [HLN.out]; exact hlt))
      have HZ := Lib.hid (HSH.out j (by rw [HLN.out]; exact hlt))
      obtain ⟨x, hx⟩ : ∃ x, sAt l j = x := ⟨_, rfl⟩
      rw [hx] at hck HD HZ
      clear hx hc
      cases hi : covS x k with
      | false =>
        have HR := Lib.hid (show withinS l k = false by rw [HI.out, HD.out]; simp [withinS, hi])
        have HX := Lib.hid hi
        clear hi
        go_wp2_with (go_at_call 83; refine (covers_is x B m d k w HZ.out HK.out HSK.out hmm false HX.out).mono ?_; rintro e w1 ⟨rfl, rfl⟩)
        go_ret
        exact ⟨ret_bool HR.out.symm, rfl⟩
      | true =>
        have HR := Lib.hid (show withinS l k = withinS (l.drop (j + 1)) k by rw [HI.out, HD.out]; simp [withinS, hi])
        have HX := Lib.hid hi
        clear hi
        go_wp2_with (go_at_call 83; refine (covers_is x B m d k w HZ.out HK.out HSK.out hmm true HX.out).mono ?_; rintro e w1 ⟨rfl, rfl⟩)
        go_round
        case rel => exact ⟨j + 1, by go_num, by omega, HR.out⟩
        case measure => simp [intOf]; omega
    · have HR := Lib.hid (show withinS l k = true by rw [HI.out, List.drop_eq_nil_of_le (by rw [HLN.out]; omega)]; rfl)
      go_wp2
      go_ret
      exact ⟨ret_bool HR.out.symm, rfl⟩
end Go.Proofs.YtapooonlbjgbgaaDoor.Rf
