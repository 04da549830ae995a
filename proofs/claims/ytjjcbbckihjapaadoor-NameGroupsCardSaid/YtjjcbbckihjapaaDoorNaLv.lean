/-
  The walks of layer 5: SamePairs, long, many, live.
-/
import Derived.Test.YtjjcbbckihjapaaDoorNaZ
namespace Go.Proofs.YtjjcbbckihjapaaDoor.Na
open Go.RowKit Go.Proofs.YtjjcbbckihjapaaDoor.Fo

theorem ext_call {w w1 w2 : World} (h : Below w.heap.size w w1) (hb : Below w1.heap.size w1 w2) : Below w.heap.size w w2 := h.trans (hb.mono h.size)
theorem ext_new {w w1 w2 : World} {o : Obj} (h : Below w.heap.size w w1) (hb : Below (w1.alloc o).heap.size (w1.alloc o) w2) : Below w.heap.size w w2 := ext_call (h.alloc h.size o) hb
theorem sub_w {P : Program} {k : Nat} {args : Array Value} {w : World} {Q : Ending → Prop} (h : Calls P k args w fun e w' => Q e ∧ w = w') : Calls P k args w fun e w' => Q e ∧ Below w.heap.size w w' :=
  h.mono fun _ _ ⟨h1, h2⟩ => ⟨h1, by rw [← h2]; exact Below.refl _ _⟩
set_option maxHeartbeats 2000000 in
theorem same_any (w : World) (A B : Option Addr) (n c m d : Nat) (l k : List B2) (hl : Ps w A n c l) (hk : Ps w B m d k) (hn : n ≤ 1000) (hm : m ≤ 1000) :
    Calls Tryd.prog 15 #[.slice A n c, .slice B m d] w fun e w' => e = .returned (.bool (decide (prL l = prL k))) ∧ Below w.heap.size w w' := by
  have HL := Lib.hid hl
  have HK := Lib.hid hk
  have HN := Lib.hid hl.1
  have HM := Lib.hid hk.1
  clear hl hk
  by_cases hnm : n = m
  · subst hnm
    go_enter Tryd.func15, Tryd.ntmps15
    go_wp2
    go_loopw [5] (fun i wr => ∃ j : Nat, i = .int .i64 j ∧ j ≤ n ∧ Hid (∀ q, q < j → pX l q = pX k q ∧ pY l q = pY k q) ∧ Below w.heap.size w wr) (fun i _ => n - (intOf i).toNat)
    case atStart => exact ⟨0, rfl, Nat.zero_le _, (fun q hq => absurd hq (by omega)), Below.refl _ _⟩
    case round =>
      obtain ⟨j, rfl, hj, HI, hb⟩ := hrel
      have HB := Lib.hid hb
      have hLw := HL.out.below hb
      have hKw := HK.out.below hb
      by_cases hlt : j < n
      · obtain ⟨b, off, rfl, hbl, hc⟩ := hLw.2.2 (by omega)
        obtain ⟨b', off', rfl, hbl', hc'⟩ := hKw.2.2 (by omega)
        obtain ⟨x0, x1⟩ := hc j hlt
        obtain ⟨y0, y1⟩ := hc' j hlt
        clear hc hc' hb hLw hKw
        have hq := fun w => neq_pair (pX l j) (pY l j) (pX k j) (pY k j) w
        go_wp2_with fail
        go_quiet (fail)
        by_cases h1 : pX l j = pX k j ∧ pY l j = pY k j
        · have HI2 := Lib.hid (show ∀ q, q < j + 1 → pX l q = pX k q ∧ pY l q = pY k q from fun q hq => if e : q = j then by rw [e]; exact h1 else HI.out q (by omega))
          have hq2 : ((!(pX l j).toList == (pX k j).toList) || !(pY l j).toList == (pY k j).toList) = false := by rw [h1.1, h1.2]; simp
          rw [hq2]
          clear h1 hq hq2
          go_wp2
          go_roundw
          case rel => exact ⟨j + 1, by go_num, by omega, HI2.out, below_drewN HB.out _⟩
          case measure => simp [intOf]; omega
        · have HR := Lib.hid (show decide (prL l = prL k) = false by
            rw [decide_eq_false_iff_not]
            intro e
            have := prL_inj e
            subst this
            exact h1 ⟨rfl, rfl⟩)
          have hq2 : ((!(pX l j).toList == (pX k j).toList) || !(pY l j).toList == (pY k j).toList) = true := by
            rw [Lib.toList_data, Lib.toList_data, Lib.toList_data, Lib.toList_data]
            by_cases e1 : (pX l j).data = (pX k j).data
            · by_cases e2 : (pY l j).data = (pY k j).data
              · exact absurd ⟨ByteArray.ext e1, ByteArray.ext e2⟩ h1
              · simp [e2]
            · simp [e1]
          rw [hq2]
          clear h1 hq hq2
          go_wp2
          go_ret
          exact ⟨ret_bool HR.out.symm, below_drewN HB.out _⟩
      · have HR := Lib.hid (show decide (prL l = prL k) = true by
          rw [decide_eq_true_eq]
          congr 1
          refine List.ext_getElem (by rw [HN.out, HM.out]) fun i h1 h2 => ?_
          rw [b2_at l i h1, b2_at k i h2]
          have := HI.out i (by have := HN.out; omega)
          rw [this.1, this.2])
        clear hb hLw hKw
        go_wp2
        go_ret
        exact ⟨ret_bool HR.out.symm, HB.out⟩
  · have HR := Lib.hid (show decide (prL l = prL k) = false by
      rw [decide_eq_false_iff_not]
      intro e
      have := congrArg List.length e
      rw [prL_length, prL_length, HN.out, HM.out] at this
      exact hnm this)
    go_enter Tryd.func15, Tryd.ntmps15
    go_wp2
    go_ret
    exact ⟨ret_bool HR.out.symm, Below.refl _ _⟩

theorem long_is (s : ByteArray) (w : World) (b : Bool) (h : decide (300 < s.size) = b) : Calls Tryd.prog 11 #[.string s] w fun e w' => e = .returned (.bool b) ∧ w = w' := by
  subst h
  by_cases h1 : 300 < s.size
  · have g1 : (300 : Int) < (s.size : Int) := by omega
    have HR := Lib.hid (show decide (300 < s.size) = true by simpa using h1)
    clear h1
    go_enter Tryd.func11, Tryd.ntmps11
    go_wp2
    go_ret
    exact ⟨ret_bool (by rw [HR.out]), rfl⟩
  · have g1 : ¬ (300 : Int) < (s.size : Int) := by omega
    have HR := Lib.hid (show decide (300 < s.size) = false by simpa using h1)
    clear h1
    go_enter Tryd.func11, Tryd.ntmps11
    go_wp2
    go_ret
    exact ⟨ret_bool (by rw [HR.out]), rfl⟩
/-- At most 12 components of strings of at most 300 bytes. -/
def fewP (l : List B2) (n : Nat) : Prop := n ≤ 12 ∧ ∀ i, i < n → (pX l i).size ≤ 300 ∧ (pY l i).size ≤ 300
instance (l : List B2) (n : Nat) : Decidable (fewP l n) := by unfold fewP; infer_instance
def manyB (l : List B2) (n : Nat) : Bool := !decide (fewP l n)
theorem many_yes {l : List B2} {n : Nat} (h : ¬ fewP l n) : manyB l n = true := by simp [manyB, h]
theorem many_no {l : List B2} {n : Nat} (h : fewP l n) : manyB l n = false := by simp [manyB, h]
theorem many_any (A : Option Addr) (n c : Nat) (l : List B2) (w : World) (hl : Ps w A n c l) (hn : n ≤ 9223372036854775807) :
    Calls Tryd.prog 16 #[.slice A n c] w fun e w' => e = .returned (.bool (manyB l n)) ∧ w = w' := by
  have HL := Lib.hid hl
  clear hl
  by_cases h12 : 12 < n
  · have g1 : (12 : Int) < (n : Int) := by omega
    have HR := Lib.hid (show manyB l n = true from many_yes fun h => absurd h.1 (by omega))
    go_enter Tryd.func16, Tryd.ntmps16
    go_wp2
    go_ret
    exact ⟨ret_bool HR.out.symm, rfl⟩
  · have g1 : ¬ (12 : Int) < (n : Int) := by omega
    go_enter Tryd.func16, Tryd.ntmps16
    go_wp2
    go_loop [9] (fun i => ∃ k : Nat, k ≤ n ∧ i = .int .i64 k ∧ Hid (∀ j, j < k → (pX l j).size ≤ 300 ∧ (pY l j).size ≤ 300)) (fun i => n - (intOf i).toNat)
    case atStart => exact ⟨0, Nat.zero_le _, rfl, fun j hj => absurd hj (Nat.not_lt_zero _)⟩
    case round =>
      obtain ⟨k, hk, rfl, HA⟩ := hrel
      by_cases hlt : k < n
      · obtain ⟨b, off, rfl, hbl, hc⟩ := HL.out.2.2 (by omega)
        obtain ⟨c0, c1⟩ := hc k hlt
        clear hc
        by_cases hx : (pX l k).size ≤ 300
        · by_cases hy : (pY l k).size ≤ 300
          · have HA2 := Lib.hid (show ∀ j, j < k + 1 → (pX l j).size ≤ 300 ∧ (pY l j).size ≤ 300 from fun j hj => if e : j = k then by rw [e]; exact ⟨hx, hy⟩ else HA.out j (by omega))
            go_wp2_with (first | (go_at_call_of 11 (Value.string (pX l k)); refine (long_is (pX l k) _ false (by simpa using hx)).mono ?_; rintro e w1 ⟨rfl, rfl⟩) | (go_at_call 11; refine (long_is (pY l k) _ false (by simpa using hy)).mono ?_; rintro e w1 ⟨rfl, rfl⟩))
            go_round
            case rel => exact ⟨k + 1, by omega, by go_num, HA2.out⟩
            case measure => simp [intOf]; omega
          · have HR := Lib.hid (show manyB l n = true from many_yes fun h => hy (h.2 k hlt).2)
            go_wp2_with (first | (go_at_call_of 11 (Value.string (pX l k)); refine (long_is (pX l k) _ false (by simpa using hx)).mono ?_; rintro e w1 ⟨rfl, rfl⟩) | (go_at_call 11; refine (long_is (pY l k) _ true (by simp; omega)).mono ?_; rintro e w1 ⟨rfl, rfl⟩))
            go_ret
            exact ⟨ret_bool HR.out.symm, rfl⟩
        · have HR := Lib.hid (show manyB l n = true from many_yes fun h => hx (h.2 k hlt).1)
          go_wp2_with (go_at_call 11; refine (long_is (pX l k) _ true (by simp; omega)).mono ?_; rintro e w1 ⟨rfl, rfl⟩)
          go_ret
          exact ⟨ret_bool HR.out.symm, rfl⟩
      · have HR := Lib.hid (show manyB l n = false from many_no ⟨by omega, fun i hi => HA.out i (by omega)⟩)
        go_wp2
        go_ret
        exact ⟨ret_bool HR.out.symm, rfl⟩
theorem many_is (A : Option Addr) (n c : Nat) (l : List B2) (w : World) (hl : Ps w A n c l) (hn : n ≤ 9223372036854775807) (b : Bool) (h : manyB l n = b) :
    Calls Tryd.prog 16 #[.slice A n c] w fun e w' => e = .returned (.bool b) ∧ w = w' := by
  have := many_any A n c l w hl hn
  rwa [h] at this
end Go.Proofs.YtjjcbbckihjapaaDoor.Na
