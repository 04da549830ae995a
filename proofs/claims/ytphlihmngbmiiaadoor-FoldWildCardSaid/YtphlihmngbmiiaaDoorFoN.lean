/-
  The walks of the laws FoldLowers, FoldKinds, FoldCompares, FoldMatches.
-/
import Derived.Test.YtphlihmngbmiiaaDoorFoL
namespace Go.Proofs.YtphlihmngbmiiaaDoor.Fo
open Go.RowKit

/-- At most 8 strings of at most 60 bytes. -/
def fewB (l : List ByteArray) (n : Nat) : Bool := decide ((∀ i, i < n → (sAt l i).size ≤ 60) ∧ n ≤ 8)
theorem few_any (A : Option Addr) (n c : Nat) (l : List ByteArray) (w : World) (hl : Ss w A n c l) (hn : n ≤ 9223372036854775807) :
    Calls Tryd.prog 25 #[.slice A n c] w fun e w' => e = .returned (.bool (fewB l n)) ∧ w = w' := by
  have HL := Lib.hid hl
  have hn' : n ≤ 9223372036854775807 := hn
  clear hl hn
  go_enter Tryd.func25, Tryd.ntmps25
  go_wp2
  go_loop [3] (fun i => ∃ k : Nat, k ≤ n ∧ i = .int .i64 k ∧ Hid (∀ j, j < k → (sAt l j).size ≤ 60)) (fun i => n - (intOf i).toNat)
  case atStart => exact ⟨0, Nat.zero_le _, rfl, fun j hj => absurd hj (Nat.not_lt_zero _)⟩
  case round =>
    obtain ⟨k, hk, rfl, HA⟩ := hrel
    by_cases hlt : k < n
    · obtain ⟨b, off, rfl, hbl, hc⟩ := HL.out.2.2 (by omega)
      have hck := hc k hlt
      clear hc
      by_cases h60 : (sAt l k).size ≤ 60
      · have g1 : ¬ (60 : Int) < ((sAt l k).size : Int) := by omega
        go_wp2
        go_round
        case rel => exact ⟨k + 1, by omega, by go_num, fun j hj => if e : j = k then by rw [e]; exact h60 else HA.out j (by omega)⟩
        case measure => simp [intOf]; omega
      · have g1 : (60 : Int) < ((sAt l k).size : Int) := by omega
        have HR := Lib.hid (show fewB l n = false by
          rw [fewB, decide_eq_false_iff_not]
          intro h
          exact h60 (h.1 k hlt))
        clear h60
        go_wp2
        go_ret
        exact ⟨ret_bool HR.out.symm, rfl⟩
    · have HR := Lib.hid (show fewB l n = decide ((n : Int) ≤ 8) by
        rw [fewB, Bool.eq_iff_iff]
        simp only [decide_eq_true_eq]
        constructor
        · intro h; omega
        · intro h; exact ⟨fun i hi => HA.out i (by omega), by omega⟩)
      go_wp2
      go_ret
      exact ⟨ret_bool HR.out.symm, rfl⟩
theorem few_is (A : Option Addr) (n c : Nat) (l : List ByteArray) (w : World) (hl : Ss w A n c l) (hn : n ≤ 9223372036854775807) (x : Bool) (h : fewB l n = x) :
    Calls Tryd.prog 25 #[.slice A n c] w fun e w' => e = .returned (.bool x) ∧ Below w.heap.size w w' := by
  have := sub_w (few_any A n c l w hl hn)
  rwa [h] at this

set_option maxRecDepth 100000 in
set_option maxHeartbeats 4000000 in
theorem lowers_long (s : ByteArray) (w : World) (hm : MX w) (hs : 300 < s.size) :
    Calls Tryd.prog 3 #[.string s] w fun e w' => e = .returned (.bool true) ∧ Below w.heap.size w w' := by
  have HM := Lib.hid hm
  have HB := Lib.hid (Below.refl w.heap.size w)
  clear hm
  have g1 : (300 : Int) < (s.size : Int) := by omega
  go_enter Tryd.func3, Tryd.ntmps3
  go_wp2_with fail
  refine (alive_any _ (HM.out.later HB.out)).mono ?_
  rintro e w1 ⟨rfl, hb⟩
  (first | (have HBn := Lib.hid (ext_call HB.out hb)) | (have HBn := Lib.hid (ext_new HB.out hb))); clear HB hb; have HB := HBn; clear HBn
  go_wp2
  go_ret
  exact ⟨rfl, HB.out⟩

set_option maxRecDepth 100000 in
set_option maxHeartbeats 4000000 in
theorem lowers_short (s : ByteArray) (w : World) (hm : MX w) (hs : s.size ≤ 300) :
    Calls Tryd.prog 3 #[.string s] w fun e w' => e = .returned (.bool true) ∧ Below w.heap.size w w' := by
  have HM := Lib.hid hm
  have HB := Lib.hid (Below.refl w.heap.size w)
  clear hm
  have g1 : ¬ (300 : Int) < (s.size : Int) := by omega
  go_enter Tryd.func3, Tryd.ntmps3
  go_wp2_with fail
  refine (lower_any s _ (by omega)).mono ?_
  rintro e w1 ⟨rfl, hb⟩
  (first | (have HBn := Lib.hid (ext_call HB.out hb)) | (have HBn := Lib.hid (ext_new HB.out hb))); clear HB hb; have HB := HBn; clear HBn
  go_wp2_with fail
  refine (rlower_any s _ (by omega)).mono ?_
  rintro e w1 ⟨rfl, hb⟩
  (first | (have HBn := Lib.hid (ext_call HB.out hb)) | (have HBn := Lib.hid (ext_new HB.out hb))); clear HB hb; have HB := HBn; clear HBn
  go_wp2_with fail
  refine (trim_any s _ (by omega)).mono ?_
  rintro e w1 ⟨rfl, hb⟩
  (first | (have HBn := Lib.hid (ext_call HB.out hb)) | (have HBn := Lib.hid (ext_new HB.out hb))); clear HB hb; have HB := HBn; clear HBn
  go_wp2_with fail
  refine (rtrim_any s _ (by omega)).mono ?_
  rintro e w1 ⟨rfl, hb⟩
  (first | (have HBn := Lib.hid (ext_call HB.out hb)) | (have HBn := Lib.hid (ext_new HB.out hb))); clear HB hb; have HB := HBn; clear HBn
  go_wp2_with fail
  refine (fold_any s _ (by omega)).mono ?_
  rintro e w1 ⟨rfl, hb⟩
  (first | (have HBn := Lib.hid (ext_call HB.out hb)) | (have HBn := Lib.hid (ext_new HB.out hb))); clear HB hb; have HB := HBn; clear HBn
  go_wp2_with fail
  refine (rfold_any s _ (by omega)).mono ?_
  rintro e w1 ⟨rfl, hb⟩
  (first | (have HBn := Lib.hid (ext_call HB.out hb)) | (have HBn := Lib.hid (ext_new HB.out hb))); clear HB hb; have HB := HBn; clear HBn
  go_wp2_with fail
  refine (alive_any _ (HM.out.later HB.out)).mono ?_
  rintro e w1 ⟨rfl, hb⟩
  (first | (have HBn := Lib.hid (ext_call HB.out hb)) | (have HBn := Lib.hid (ext_new HB.out hb))); clear HB hb; have HB := HBn; clear HBn
  go_wp2
  go_ret
  exact ⟨rfl, HB.out⟩

set_option maxRecDepth 100000 in
set_option maxHeartbeats 4000000 in
theorem kinds_long (s : ByteArray) (w : World) (hm : MX w) (hs : 300 < s.size) :
    Calls Tryd.prog 4 #[.string s] w fun e w' => e = .returned (.bool true) ∧ Below w.heap.size w w' := by
  have HM := Lib.hid hm
  have HB := Lib.hid (Below.refl w.heap.size w)
  clear hm
  have g1 : (300 : Int) < (s.size : Int) := by omega
  go_enter Tryd.func4, Tryd.ntmps4
  go_wp2_with fail
  refine (alive_any _ (HM.out.later HB.out)).mono ?_
  rintro e w1 ⟨rfl, hb⟩
  (first | (have HBn := Lib.hid (ext_call HB.out hb)) | (have HBn := Lib.hid (ext_new HB.out hb))); clear HB hb; have HB := HBn; clear HBn
  go_wp2
  go_ret
  exact ⟨rfl, HB.out⟩

set_option maxRecDepth 100000 in
set_option maxHeartbeats 4000000 in
theorem kinds_short (s : ByteArray) (w : World) (hm : MX w) (hs : s.size ≤ 300) :
    Calls Tryd.prog 4 #[.string s] w fun e w' => e = .returned (.bool true) ∧ Below w.heap.size w w' := by
  have HM := Lib.hid hm
  have HB := Lib.hid (Below.refl w.heap.size w)
  clear hm
  have g1 : ¬ (300 : Int) < (s.size : Int) := by omega
  go_enter Tryd.func4, Tryd.ntmps4
  go_wp2_with fail
  refine (clean_any s _ (by omega)).mono ?_
  rintro e w1 ⟨rfl, hb⟩
  (first | (have HBn := Lib.hid (ext_call HB.out hb)) | (have HBn := Lib.hid (ext_new HB.out hb))); clear HB hb; have HB := HBn; clear HBn
  go_wp2_with fail
  refine (rclean_any s _ (by omega)).mono ?_
  rintro e w1 ⟨rfl, hb⟩
  (first | (have HBn := Lib.hid (ext_call HB.out hb)) | (have HBn := Lib.hid (ext_new HB.out hb))); clear HB hb; have HB := HBn; clear HBn
  go_wp2_with fail
  refine (sub_w (name_any s _ (by omega))).mono ?_
  rintro e w1 ⟨rfl, hb⟩
  (first | (have HBn := Lib.hid (ext_call HB.out hb)) | (have HBn := Lib.hid (ext_new HB.out hb))); clear HB hb; have HB := HBn; clear HBn
  go_wp2_with fail
  refine (sub_w (rname_any s _ (by omega))).mono ?_
  rintro e w1 ⟨rfl, hb⟩
  (first | (have HBn := Lib.hid (ext_call HB.out hb)) | (have HBn := Lib.hid (ext_new HB.out hb))); clear HB hb; have HB := HBn; clear HBn
  go_wp2_with fail
  refine (sub_w (word_any s _ (by omega))).mono ?_
  rintro e w1 ⟨rfl, hb⟩
  (first | (have HBn := Lib.hid (ext_call HB.out hb)) | (have HBn := Lib.hid (ext_new HB.out hb))); clear HB hb; have HB := HBn; clear HBn
  go_wp2_with fail
  refine (sub_w (rword_any s _ (by omega))).mono ?_
  rintro e w1 ⟨rfl, hb⟩
  (first | (have HBn := Lib.hid (ext_call HB.out hb)) | (have HBn := Lib.hid (ext_new HB.out hb))); clear HB hb; have HB := HBn; clear HBn
  go_wp2_with fail
  refine (alive_any _ (HM.out.later HB.out)).mono ?_
  rintro e w1 ⟨rfl, hb⟩
  (first | (have HBn := Lib.hid (ext_call HB.out hb)) | (have HBn := Lib.hid (ext_new HB.out hb))); clear HB hb; have HB := HBn; clear HBn
  go_wp2
  go_ret
  exact ⟨rfl, HB.out⟩

set_option maxRecDepth 100000 in
set_option maxHeartbeats 4000000 in
theorem compares_la (a b : ByteArray) (w : World) (hm : MX w) (ha : 300 < a.size) :
    Calls Tryd.prog 5 #[.string a, .string b] w fun e w' => e = .returned (.bool true) ∧ Below w.heap.size w w' := by
  have HM := Lib.hid hm
  have HB := Lib.hid (Below.refl w.heap.size w)
  clear hm
  have g1 : (300 : Int) < (a.size : Int) := by omega
  go_enter Tryd.func5, Tryd.ntmps5
  go_wp2_with fail
  refine (alive_any _ (HM.out.later HB.out)).mono ?_
  rintro e w1 ⟨rfl, hb⟩
  (first | (have HBn := Lib.hid (ext_call HB.out hb)) | (have HBn := Lib.hid (ext_new HB.out hb))); clear HB hb; have HB := HBn; clear HBn
  go_wp2
  go_ret
  exact ⟨rfl, HB.out⟩

set_option maxRecDepth 100000 in
set_option maxHeartbeats 4000000 in
theorem compares_lb (a b : ByteArray) (w : World) (hm : MX w) (ha : a.size ≤ 300) (hb0 : 300 < b.size) :
    Calls Tryd.prog 5 #[.string a, .string b] w fun e w' => e = .returned (.bool true) ∧ Below w.heap.size w w' := by
  have HM := Lib.hid hm
  have HB := Lib.hid (Below.refl w.heap.size w)
  clear hm
  have g1 : ¬ (300 : Int) < (a.size : Int) := by omega
  have g2 : (300 : Int) < (b.size : Int) := by omega
  go_enter Tryd.func5, Tryd.ntmps5
  go_wp2_with fail
  refine (alive_any _ (HM.out.later HB.out)).mono ?_
  rintro e w1 ⟨rfl, hb⟩
  (first | (have HBn := Lib.hid (ext_call HB.out hb)) | (have HBn := Lib.hid (ext_new HB.out hb))); clear HB hb; have HB := HBn; clear HBn
  go_wp2
  go_ret
  exact ⟨rfl, HB.out⟩

set_option maxRecDepth 100000 in
set_option maxHeartbeats 4000000 in
theorem compares_short (a b : ByteArray) (w : World) (hm : MX w) (ha : a.size ≤ 300) (hb0 : b.size ≤ 300) :
    Calls Tryd.prog 5 #[.string a, .string b] w fun e w' => e = .returned (.bool true) ∧ Below w.heap.size w w' := by
  have HM := Lib.hid hm
  have HB := Lib.hid (Below.refl w.heap.size w)
  clear hm
  have g1 : ¬ (300 : Int) < (a.size : Int) := by omega
  have g2 : ¬ (300 : Int) < (b.size : Int) := by omega
  go_enter Tryd.func5, Tryd.ntmps5
  go_wp2_with fail
  refine (compare_any a b _ (by omega) (by omega)).mono ?_
  rintro e w1 ⟨rfl, hb⟩
  (first | (have HBn := Lib.hid (ext_call HB.out hb)) | (have HBn := Lib.hid (ext_new HB.out hb))); clear HB hb; have HB := HBn; clear HBn
  go_wp2_with fail
  refine (rcompare_any a b _ (by omega) (by omega)).mono ?_
  rintro e w1 ⟨rfl, hb⟩
  (first | (have HBn := Lib.hid (ext_call HB.out hb)) | (have HBn := Lib.hid (ext_new HB.out hb))); clear HB hb; have HB := HBn; clear HBn
  go_wp2_with fail
  refine (compare_any b a _ (by omega) (by omega)).mono ?_
  rintro e w1 ⟨rfl, hb⟩
  (first | (have HBn := Lib.hid (ext_call HB.out hb)) | (have HBn := Lib.hid (ext_new HB.out hb))); clear HB hb; have HB := HBn; clear HBn
  go_wp2_with fail
  refine (rcompare_any b a _ (by omega) (by omega)).mono ?_
  rintro e w1 ⟨rfl, hb⟩
  (first | (have HBn := Lib.hid (ext_call HB.out hb)) | (have HBn := Lib.hid (ext_new HB.out hb))); clear HB hb; have HB := HBn; clear HBn
  go_wp2_with fail
  refine (alive_any _ (HM.out.later HB.out)).mono ?_
  rintro e w1 ⟨rfl, hb⟩
  (first | (have HBn := Lib.hid (ext_call HB.out hb)) | (have HBn := Lib.hid (ext_new HB.out hb))); clear HB hb; have HB := HBn; clear HBn
  go_wp2
  go_ret
  exact ⟨rfl, HB.out⟩

set_option maxRecDepth 100000 in
set_option maxHeartbeats 4000000 in
theorem matches_long (s : ByteArray) (A : Option Addr) (n c : Nat) (w : World) (hm : MX w) (hs : 300 < s.size) :
    Calls Tryd.prog 6 #[.string s, .slice A n c] w fun e w' => e = .returned (.bool true) ∧ Below w.heap.size w w' := by
  have HM := Lib.hid hm
  have HB := Lib.hid (Below.refl w.heap.size w)
  clear hm
  have g1 : (300 : Int) < (s.size : Int) := by omega
  go_enter Tryd.func6, Tryd.ntmps6
  go_wp2_with fail
  refine (alive_any _ (HM.out.later HB.out)).mono ?_
  rintro e w1 ⟨rfl, hb⟩
  (first | (have HBn := Lib.hid (ext_call HB.out hb)) | (have HBn := Lib.hid (ext_new HB.out hb))); clear HB hb; have HB := HBn; clear HBn
  go_wp2
  go_ret
  exact ⟨rfl, HB.out⟩

set_option maxRecDepth 100000 in
set_option maxHeartbeats 4000000 in
theorem matches_many (s : ByteArray) (A : Option Addr) (n c : Nat) (l : List ByteArray) (w : World) (hm : MX w) (hl : Ss w A n c l) (hn : n ≤ 9223372036854775807) (hs : s.size ≤ 300) (hf : fewB l n = false) :
    Calls Tryd.prog 6 #[.string s, .slice A n c] w fun e w' => e = .returned (.bool true) ∧ Below w.heap.size w w' := by
  have HM := Lib.hid hm
  have HB := Lib.hid (Below.refl w.heap.size w)
  clear hm
  have HL := Lib.hid hl
  clear hl
  have HF := Lib.hid hf
  clear hf
  have g1 : ¬ (300 : Int) < (s.size : Int) := by omega
  go_enter Tryd.func6, Tryd.ntmps6
  go_wp2_with fail
  refine (few_is A n c l _ (HL.out.below HB.out) hn _ HF.out).mono ?_
  rintro e w1 ⟨rfl, hb⟩
  (first | (have HBn := Lib.hid (ext_call HB.out hb)) | (have HBn := Lib.hid (ext_new HB.out hb))); clear HB hb; have HB := HBn; clear HBn
  go_wp2_with fail
  refine (alive_any _ (HM.out.later HB.out)).mono ?_
  rintro e w1 ⟨rfl, hb⟩
  (first | (have HBn := Lib.hid (ext_call HB.out hb)) | (have HBn := Lib.hid (ext_new HB.out hb))); clear HB hb; have HB := HBn; clear HBn
  go_wp2
  go_ret
  exact ⟨rfl, HB.out⟩

set_option maxRecDepth 100000 in
set_option maxHeartbeats 4000000 in
theorem matches_few (s : ByteArray) (A : Option Addr) (n c : Nat) (l : List ByteArray) (w : World) (hm : MX w) (hl : Ss w A n c l) (hn : n ≤ 9223372036854775807) (hs : s.size ≤ 300) (hf : fewB l n = true) :
    Calls Tryd.prog 6 #[.string s, .slice A n c] w fun e w' => e = .returned (.bool true) ∧ Below w.heap.size w w' := by
  have HM := Lib.hid hm
  have HB := Lib.hid (Below.refl w.heap.size w)
  clear hm
  have HL := Lib.hid hl
  clear hl
  have HF := Lib.hid hf
  have hf2 : (∀ i, i < n → (sAt l i).size ≤ 60) ∧ n ≤ 8 := of_decide_eq_true hf
  have hn8 := hf2.2
  have HSH := Lib.hid (show Short l from fun i hi => Nat.le_trans (hf2.1 i (by rw [HL.out.1] at hi; exact hi)) (by omega))
  clear hf hf2
  have g1 : ¬ (300 : Int) < (s.size : Int) := by omega
  go_enter Tryd.func6, Tryd.ntmps6
  go_wp2_with fail
  refine (few_is A n c l _ (HL.out.below HB.out) hn _ HF.out).mono ?_
  rintro e w1 ⟨rfl, hb⟩
  (first | (have HBn := Lib.hid (ext_call HB.out hb)) | (have HBn := Lib.hid (ext_new HB.out hb))); clear HB hb; have HB := HBn; clear HBn
  go_wp2_with fail
  refine (match_any s A n c l _ (by omega) (HL.out.below HB.out) (by omega) HSH.out (HM.out.later HB.out)).mono ?_
  rintro e w1 ⟨rfl, hb⟩
  (first | (have HBn := Lib.hid (ext_call HB.out hb)) | (have HBn := Lib.hid (ext_new HB.out hb))); clear HB hb; have HB := HBn; clear HBn
  go_wp2_with fail
  refine (rmatch_any s A n c l _ (by omega) (HL.out.below HB.out) (by omega) HSH.out).mono ?_
  rintro e w1 ⟨rfl, hb⟩
  (first | (have HBn := Lib.hid (ext_call HB.out hb)) | (have HBn := Lib.hid (ext_new HB.out hb))); clear HB hb; have HB := HBn; clear HBn
  go_wp2_with fail
  refine (alive_any _ (HM.out.later HB.out)).mono ?_
  rintro e w1 ⟨rfl, hb⟩
  (first | (have HBn := Lib.hid (ext_call HB.out hb)) | (have HBn := Lib.hid (ext_new HB.out hb))); clear HB hb; have HB := HBn; clear HBn
  go_wp2
  go_ret
  exact ⟨rfl, HB.out⟩

theorem lowersLaw_any (s : ByteArray) (w : World) (hm : MX w) : Calls Tryd.prog 3 #[.string s] w fun e w' => e = .returned (.bool true) ∧ Below w.heap.size w w' := by
  rcases Nat.lt_or_ge 300 s.size with h | h
  · exact lowers_long s w hm h
  · exact lowers_short s w hm h
theorem kindsLaw_any (s : ByteArray) (w : World) (hm : MX w) : Calls Tryd.prog 4 #[.string s] w fun e w' => e = .returned (.bool true) ∧ Below w.heap.size w w' := by
  rcases Nat.lt_or_ge 300 s.size with h | h
  · exact kinds_long s w hm h
  · exact kinds_short s w hm h
theorem comparesLaw_any (a b : ByteArray) (w : World) (hm : MX w) : Calls Tryd.prog 5 #[.string a, .string b] w fun e w' => e = .returned (.bool true) ∧ Below w.heap.size w w' := by
  rcases Nat.lt_or_ge 300 a.size with h | h
  · exact compares_la a b w hm h
  · rcases Nat.lt_or_ge 300 b.size with h2 | h2
    · exact compares_lb a b w hm h h2
    · exact compares_short a b w hm h h2
theorem matchesLaw_any (s : ByteArray) (A : Option Addr) (n c : Nat) (l : List ByteArray) (w : World) (hm : MX w) (hl : Ss w A n c l) (hn : n ≤ 9223372036854775807) : Calls Tryd.prog 6 #[.string s, .slice A n c] w fun e w' => e = .returned (.bool true) ∧ Below w.heap.size w w' := by
  rcases Nat.lt_or_ge 300 s.size with h | h
  · exact matches_long s A n c w hm h
  · cases hf : fewB l n with
    | false => exact matches_many s A n c l w hm hl hn h hf
    | true => exact matches_few s A n c l w hm hl hn h hf
end Go.Proofs.YtphlihmngbmiiaaDoor.Fo
