/-
  The walks of the laws FoldIdempotent and FoldOrders.
-/
import Derived.Test.YtphlihmngbmiiaaDoorFoN
import Derived.Test.YtphlihmngbmiiaaDoorFoQ
namespace Go.Proofs.YtphlihmngbmiiaaDoor.Fo
open Go.RowKit

theorem str_eq {a b : ByteArray} (h : a.data.toList = b.data.toList) : a = b := ByteArray.ext (by rw [← Array.toArray_toList (xs := a.data), h, Array.toArray_toList])
theorem lower_is (s r : ByteArray) (w : World) (hs : s.size ≤ 100000) (h : lowL s.data.toList = r.data.toList) : Calls Tryd.prog 11 #[.string s] w fun e w' => e = .returned (.string r) ∧ Below w.heap.size w w' :=
  (lower_t s w hs).mono fun _ _ ⟨t, h1, h2, h3⟩ => ⟨by rw [h1, str_eq (h2.trans h)], h3⟩
theorem trim_is' (s r : ByteArray) (w : World) (hs : s.size ≤ 100000) (h : trimL s.data.toList = r.data.toList) : Calls Tryd.prog 13 #[.string s] w fun e w' => e = .returned (.string r) ∧ Below w.heap.size w w' :=
  (trim_t s w hs).mono fun _ _ ⟨t, h1, h2, h3⟩ => ⟨by rw [h1, str_eq (h2.trans h)], h3⟩
theorem fold_is (s r : ByteArray) (w : World) (hs : s.size ≤ 100000) (h : foldL s.data.toList = r.data.toList) : Calls Tryd.prog 15 #[.string s] w fun e w' => e = .returned (.string r) ∧ Below w.heap.size w w' :=
  (fold_t s w hs).mono fun _ _ ⟨t, h1, h2, h3⟩ => ⟨by rw [h1, str_eq (h2.trans h)], h3⟩
theorem clean_is (s : ByteArray) (w : World) (hs : s.size ≤ 100000) (b : Bool) (h : clnL s.data.toList = b) : Calls Tryd.prog 17 #[.string s] w fun e w' => e = .returned (.bool b) ∧ Below w.heap.size w w' := by
  rw [← h]; exact clean_any s w hs
theorem name_is (s : ByteArray) (w : World) (hs : s.size ≤ 100000) (b : Bool) (h : namL s.data.toList = b) : Calls Tryd.prog 19 #[.string s] w fun e w' => e = .returned (.bool b) ∧ Below w.heap.size w w' := by
  rw [← h]; exact sub_w (name_any s w hs)
theorem word_is (s : ByteArray) (w : World) (hs : s.size ≤ 100000) (b : Bool) (h : wrdL s.data.toList = b) : Calls Tryd.prog 21 #[.string s] w fun e w' => e = .returned (.bool b) ∧ Below w.heap.size w w' := by
  rw [← h]; exact sub_w (word_any s w hs)
theorem cmp_is (a b : ByteArray) (w : World) (ha : a.size ≤ 100000) (hb : b.size ≤ 100000) (z : Int) (h : cmpL a.data.toList b.data.toList = z) : Calls Tryd.prog 23 #[.string a, .string b] w fun e w' => e = .returned (.int .i64 z) ∧ Below w.heap.size w w' := by
  rw [← h]; exact compare_any a b w ha hb

set_option maxRecDepth 100000 in
set_option maxHeartbeats 4000000 in
theorem idem_long (s : ByteArray) (w : World) (hm : MX w) (hs : 300 < s.size) :
    Calls Tryd.prog 7 #[.string s] w fun e w' => e = .returned (.bool true) ∧ Below w.heap.size w w' := by
  have HM := Lib.hid hm
  have HB := Lib.hid (Below.refl w.heap.size w)
  clear hm
  have g1 : (300 : Int) < (s.size : Int) := by omega
  go_enter Tryd.func7, Tryd.ntmps7
  go_wp2_with fail
  refine (alive_any _ (HM.out.later HB.out)).mono ?_
  rintro e w1 ⟨rfl, hb⟩
  (first | (have HBn := Lib.hid (ext_call HB.out hb)) | (have HBn := Lib.hid (ext_new HB.out hb))); clear HB hb; have HB := HBn; clear HBn
  go_wp2
  go_ret
  exact ⟨rfl, HB.out⟩

set_option maxRecDepth 100000 in
set_option maxHeartbeats 4000000 in
theorem idem_true (s : ByteArray) (w : World) (hm : MX w) (hs : s.size ≤ 300) (hc : clnL s.data.toList = true) :
    Calls Tryd.prog 7 #[.string s] w fun e w' => e = .returned (.bool true) ∧ Below w.heap.size w w' := by
  have HM := Lib.hid hm
  have HB := Lib.hid (Below.refl w.heap.size w)
  clear hm
  have HC := Lib.hid hc
  clear hc
  have g1 : ¬ (300 : Int) < (s.size : Int) := by omega
  go_enter Tryd.func7, Tryd.ntmps7
  go_wp2_with fail
  refine (lower_t s _ (by omega)).mono ?_
  rintro e w1 ⟨L, rfl, hl, hb⟩
  (first | (have HBn := Lib.hid (ext_call HB.out hb)) | (have HBn := Lib.hid (ext_new HB.out hb))); clear HB hb; have HB := HBn; clear HBn
  have HL := Lib.hid hl
  have hlz : L.size = s.size := by have := lowL_length s.data.toList; rw [← hl] at this; simpa using this
  clear hl
  go_wp2_with fail
  refine (trim_t s _ (by omega)).mono ?_
  rintro e w1 ⟨T, rfl, ht, hb⟩
  (first | (have HBn := Lib.hid (ext_call HB.out hb)) | (have HBn := Lib.hid (ext_new HB.out hb))); clear HB hb; have HB := HBn; clear HBn
  have HT := Lib.hid ht
  have htz : T.size ≤ s.size := by have := trimL_le s.data.toList; rw [← ht] at this; simpa using this
  clear ht
  go_wp2_with fail
  refine (fold_t s _ (by omega)).mono ?_
  rintro e w1 ⟨F, rfl, hf, hb⟩
  (first | (have HBn := Lib.hid (ext_call HB.out hb)) | (have HBn := Lib.hid (ext_new HB.out hb))); clear HB hb; have HB := HBn; clear HBn
  have HF := Lib.hid hf
  have hfz : F.size ≤ T.size := by
    have := foldL_le T.data.toList
    rw [HT.out, fold_trim, ← hf, ← HT.out] at this
    simpa using this
  have HLZ := Lib.hid hlz
  have hlz' : L.size ≤ 300 := by omega
  have q1 : (F.size : Int) ≤ (T.size : Int) := by omega
  have q2 : (T.size : Int) ≤ (s.size : Int) := by omega
  have q3 : ((L.size : Int) == (s.size : Int)) = true := by rw [beq_iff_eq]; omega
  clear hf hlz
  go_wp2_with fail
  refine (lower_is L L _ (by omega) (by rw [HL.out, lowL_idem])).mono ?_
  rintro e w1 ⟨rfl, hb⟩
  (first | (have HBn := Lib.hid (ext_call HB.out hb)) | (have HBn := Lib.hid (ext_new HB.out hb))); clear HB hb; have HB := HBn; clear HBn
  go_wp2_with fail
  refine (trim_is' T T _ (by omega) (by rw [HT.out, trimL_idem])).mono ?_
  rintro e w1 ⟨rfl, hb⟩
  (first | (have HBn := Lib.hid (ext_call HB.out hb)) | (have HBn := Lib.hid (ext_new HB.out hb))); clear HB hb; have HB := HBn; clear HBn
  go_wp2_with fail
  refine (fold_is F F _ (by omega) (by rw [HF.out, fold_idem])).mono ?_
  rintro e w1 ⟨rfl, hb⟩
  (first | (have HBn := Lib.hid (ext_call HB.out hb)) | (have HBn := Lib.hid (ext_new HB.out hb))); clear HB hb; have HB := HBn; clear HBn
  go_wp2_with fail
  refine (fold_is L F _ (by omega) (by rw [HL.out, HF.out, fold_low])).mono ?_
  rintro e w1 ⟨rfl, hb⟩
  (first | (have HBn := Lib.hid (ext_call HB.out hb)) | (have HBn := Lib.hid (ext_new HB.out hb))); clear HB hb; have HB := HBn; clear HBn
  go_wp2_with fail
  refine (fold_is T F _ (by omega) (by rw [HT.out, HF.out, fold_trim])).mono ?_
  rintro e w1 ⟨rfl, hb⟩
  (first | (have HBn := Lib.hid (ext_call HB.out hb)) | (have HBn := Lib.hid (ext_new HB.out hb))); clear HB hb; have HB := HBn; clear HBn
  go_wp2_with fail
  refine (clean_is s _ (by omega) true HC.out).mono ?_
  rintro e w1 ⟨rfl, hb⟩
  (first | (have HBn := Lib.hid (ext_call HB.out hb)) | (have HBn := Lib.hid (ext_new HB.out hb))); clear HB hb; have HB := HBn; clear HBn
  go_wp2_with fail
  refine (clean_is F _ (by omega) true (by rw [HF.out]; exact clean_fold HC.out)).mono ?_
  rintro e w1 ⟨rfl, hb⟩
  (first | (have HBn := Lib.hid (ext_call HB.out hb)) | (have HBn := Lib.hid (ext_new HB.out hb))); clear HB hb; have HB := HBn; clear HBn
  go_wp2_with fail
  refine (alive_any _ (HM.out.later HB.out)).mono ?_
  rintro e w1 ⟨rfl, hb⟩
  (first | (have HBn := Lib.hid (ext_call HB.out hb)) | (have HBn := Lib.hid (ext_new HB.out hb))); clear HB hb; have HB := HBn; clear HBn
  go_wp2
  go_ret
  exact ⟨rfl, HB.out⟩

set_option maxRecDepth 100000 in
set_option maxHeartbeats 4000000 in
theorem idem_false (s : ByteArray) (w : World) (hm : MX w) (hs : s.size ≤ 300) (hc : clnL s.data.toList = false) :
    Calls Tryd.prog 7 #[.string s] w fun e w' => e = .returned (.bool true) ∧ Below w.heap.size w w' := by
  have HM := Lib.hid hm
  have HB := Lib.hid (Below.refl w.heap.size w)
  clear hm
  have HC := Lib.hid hc
  clear hc
  have g1 : ¬ (300 : Int) < (s.size : Int) := by omega
  go_enter Tryd.func7, Tryd.ntmps7
  go_wp2_with fail
  refine (lower_t s _ (by omega)).mono ?_
  rintro e w1 ⟨L, rfl, hl, hb⟩
  (first | (have HBn := Lib.hid (ext_call HB.out hb)) | (have HBn := Lib.hid (ext_new HB.out hb))); clear HB hb; have HB := HBn; clear HBn
  have HL := Lib.hid hl
  have hlz : L.size = s.size := by have := lowL_length s.data.toList; rw [← hl] at this; simpa using this
  clear hl
  go_wp2_with fail
  refine (trim_t s _ (by omega)).mono ?_
  rintro e w1 ⟨T, rfl, ht, hb⟩
  (first | (have HBn := Lib.hid (ext_call HB.out hb)) | (have HBn := Lib.hid (ext_new HB.out hb))); clear HB hb; have HB := HBn; clear HBn
  have HT := Lib.hid ht
  have htz : T.size ≤ s.size := by have := trimL_le s.data.toList; rw [← ht] at this; simpa using this
  clear ht
  go_wp2_with fail
  refine (fold_t s _ (by omega)).mono ?_
  rintro e w1 ⟨F, rfl, hf, hb⟩
  (first | (have HBn := Lib.hid (ext_call HB.out hb)) | (have HBn := Lib.hid (ext_new HB.out hb))); clear HB hb; have HB := HBn; clear HBn
  have HF := Lib.hid hf
  have hfz : F.size ≤ T.size := by
    have := foldL_le T.data.toList
    rw [HT.out, fold_trim, ← hf, ← HT.out] at this
    simpa using this
  have HLZ := Lib.hid hlz
  have hlz' : L.size ≤ 300 := by omega
  have q1 : (F.size : Int) ≤ (T.size : Int) := by omega
  have q2 : (T.size : Int) ≤ (s.size : Int) := by omega
  have q3 : ((L.size : Int) == (s.size : Int)) = true := by rw [beq_iff_eq]; omega
  clear hf hlz
  go_wp2_with fail
  refine (lower_is L L _ (by omega) (by rw [HL.out, lowL_idem])).mono ?_
  rintro e w1 ⟨rfl, hb⟩
  (first | (have HBn := Lib.hid (ext_call HB.out hb)) | (have HBn := Lib.hid (ext_new HB.out hb))); clear HB hb; have HB := HBn; clear HBn
  go_wp2_with fail
  refine (trim_is' T T _ (by omega) (by rw [HT.out, trimL_idem])).mono ?_
  rintro e w1 ⟨rfl, hb⟩
  (first | (have HBn := Lib.hid (ext_call HB.out hb)) | (have HBn := Lib.hid (ext_new HB.out hb))); clear HB hb; have HB := HBn; clear HBn
  go_wp2_with fail
  refine (fold_is F F _ (by omega) (by rw [HF.out, fold_idem])).mono ?_
  rintro e w1 ⟨rfl, hb⟩
  (first | (have HBn := Lib.hid (ext_call HB.out hb)) | (have HBn := Lib.hid (ext_new HB.out hb))); clear HB hb; have HB := HBn; clear HBn
  go_wp2_with fail
  refine (fold_is L F _ (by omega) (by rw [HL.out, HF.out, fold_low])).mono ?_
  rintro e w1 ⟨rfl, hb⟩
  (first | (have HBn := Lib.hid (ext_call HB.out hb)) | (have HBn := Lib.hid (ext_new HB.out hb))); clear HB hb; have HB := HBn; clear HBn
  go_wp2_with fail
  refine (fold_is T F _ (by omega) (by rw [HT.out, HF.out, fold_trim])).mono ?_
  rintro e w1 ⟨rfl, hb⟩
  (first | (have HBn := Lib.hid (ext_call HB.out hb)) | (have HBn := Lib.hid (ext_new HB.out hb))); clear HB hb; have HB := HBn; clear HBn
  go_wp2_with fail
  refine (clean_is s _ (by omega) false HC.out).mono ?_
  rintro e w1 ⟨rfl, hb⟩
  (first | (have HBn := Lib.hid (ext_call HB.out hb)) | (have HBn := Lib.hid (ext_new HB.out hb))); clear HB hb; have HB := HBn; clear HBn
  go_wp2_with fail
  refine (alive_any _ (HM.out.later HB.out)).mono ?_
  rintro e w1 ⟨rfl, hb⟩
  (first | (have HBn := Lib.hid (ext_call HB.out hb)) | (have HBn := Lib.hid (ext_new HB.out hb))); clear HB hb; have HB := HBn; clear HBn
  go_wp2
  go_ret
  exact ⟨rfl, HB.out⟩

set_option maxRecDepth 100000 in
set_option maxHeartbeats 4000000 in
theorem ord_la (a b c : ByteArray) (w : World) (hm : MX w) (ha : 100 < a.size) :
    Calls Tryd.prog 8 #[.string a, .string b, .string c] w fun e w' => e = .returned (.bool true) ∧ Below w.heap.size w w' := by
  have HM := Lib.hid hm
  have HB := Lib.hid (Below.refl w.heap.size w)
  clear hm
  have g1 : (100 : Int) < (a.size : Int) := by omega
  go_enter Tryd.func8, Tryd.ntmps8
  go_wp2_with fail
  refine (alive_any _ (HM.out.later HB.out)).mono ?_
  rintro e w1 ⟨rfl, hb⟩
  (first | (have HBn := Lib.hid (ext_call HB.out hb)) | (have HBn := Lib.hid (ext_new HB.out hb))); clear HB hb; have HB := HBn; clear HBn
  go_wp2
  go_ret
  exact ⟨rfl, HB.out⟩

set_option maxRecDepth 100000 in
set_option maxHeartbeats 4000000 in
theorem ord_lb (a b c : ByteArray) (w : World) (hm : MX w) (ha : a.size ≤ 100) (hb0 : 100 < b.size) :
    Calls Tryd.prog 8 #[.string a, .string b, .string c] w fun e w' => e = .returned (.bool true) ∧ Below w.heap.size w w' := by
  have HM := Lib.hid hm
  have HB := Lib.hid (Below.refl w.heap.size w)
  clear hm
  have g1 : ¬ (100 : Int) < (a.size : Int) := by omega
  have g2 : (100 : Int) < (b.size : Int) := by omega
  go_enter Tryd.func8, Tryd.ntmps8
  go_wp2_with fail
  refine (alive_any _ (HM.out.later HB.out)).mono ?_
  rintro e w1 ⟨rfl, hb⟩
  (first | (have HBn := Lib.hid (ext_call HB.out hb)) | (have HBn := Lib.hid (ext_new HB.out hb))); clear HB hb; have HB := HBn; clear HBn
  go_wp2
  go_ret
  exact ⟨rfl, HB.out⟩

set_option maxRecDepth 100000 in
set_option maxHeartbeats 4000000 in
theorem ord_lc (a b c : ByteArray) (w : World) (hm : MX w) (ha : a.size ≤ 100) (hb0 : b.size ≤ 100) (hc : 100 < c.size) :
    Calls Tryd.prog 8 #[.string a, .string b, .string c] w fun e w' => e = .returned (.bool true) ∧ Below w.heap.size w w' := by
  have HM := Lib.hid hm
  have HB := Lib.hid (Below.refl w.heap.size w)
  clear hm
  have g1 : ¬ (100 : Int) < (a.size : Int) := by omega
  have g2 : ¬ (100 : Int) < (b.size : Int) := by omega
  have g3 : (100 : Int) < (c.size : Int) := by omega
  go_enter Tryd.func8, Tryd.ntmps8
  go_wp2_with fail
  refine (alive_any _ (HM.out.later HB.out)).mono ?_
  rintro e w1 ⟨rfl, hb⟩
  (first | (have HBn := Lib.hid (ext_call HB.out hb)) | (have HBn := Lib.hid (ext_new HB.out hb))); clear HB hb; have HB := HBn; clear HBn
  go_wp2
  go_ret
  exact ⟨rfl, HB.out⟩

set_option maxRecDepth 100000 in
set_option maxHeartbeats 4000000 in
theorem ord_00tt (a b c : ByteArray) (w : World) (hm : MX w) (x y z : Int) (hx : cmpL a.data.toList b.data.toList = x) (hy : cmpL b.data.toList c.data.toList = y) (hz : cmpL a.data.toList c.data.toList = z) (ha : a.size ≤ 100) (hb0 : b.size ≤ 100) (hc : c.size ≤ 100) (he : ¬ a = b) (h0 : 0 < x) (hnm : namL a.data.toList = true) (hwd : wrdL a.data.toList = true) :
    Calls Tryd.prog 8 #[.string a, .string b, .string c] w fun e w' => e = .returned (.bool true) ∧ Below w.heap.size w w' := by
  have HM := Lib.hid hm
  have HB := Lib.hid (Below.refl w.heap.size w)
  clear hm
  have HX := Lib.hid hx
  have HY := Lib.hid hy
  have HZ := Lib.hid hz
  have hr := cmpL_range a.data.toList b.data.toList
  rw [hx] at hr
  obtain ⟨r1, r2⟩ := hr
  have HN := Lib.hid (show cmpL b.data.toList a.data.toList = -x by rw [cmpL_neg, hx])
  have hwx : IntKind.i64.wrap (-x) = -x := IntWalk.i64_in _ (by omega)
  have hx0 : (x == 0) = false := by
    rw [beq_eq_false_iff_ne]
    intro h
    rw [h] at hx
    exact he (str_eq ((cmpL_zero _ _).1 hx))
  have hab : (a.toList == b.toList) = false := by
    rw [beq_eq_false_iff_ne, Lib.toList_data, Lib.toList_data]
    intro h
    exact he (str_eq h)
  clear he
  have t1 : decide (x ≤ 0) = false := by simp; omega
  clear hx hy hz
  have HNM := Lib.hid hnm
  have HWD := Lib.hid hwd
  clear hnm hwd
  have g1 : ¬ (100 : Int) < (a.size : Int) := by omega
  have g2 : ¬ (100 : Int) < (b.size : Int) := by omega
  have g3 : ¬ (100 : Int) < (c.size : Int) := by omega
  go_enter Tryd.func8, Tryd.ntmps8
  go_wp2_with fail
  refine (cmp_is a b _ (by omega) (by omega) _ HX.out).mono ?_
  rintro e w1 ⟨rfl, hb⟩
  (first | (have HBn := Lib.hid (ext_call HB.out hb)) | (have HBn := Lib.hid (ext_new HB.out hb))); clear HB hb; have HB := HBn; clear HBn
  go_wp2_with fail
  refine (cmp_is b c _ (by omega) (by omega) _ HY.out).mono ?_
  rintro e w1 ⟨rfl, hb⟩
  (first | (have HBn := Lib.hid (ext_call HB.out hb)) | (have HBn := Lib.hid (ext_new HB.out hb))); clear HB hb; have HB := HBn; clear HBn
  go_wp2_with fail
  refine (cmp_is a c _ (by omega) (by omega) _ HZ.out).mono ?_
  rintro e w1 ⟨rfl, hb⟩
  (first | (have HBn := Lib.hid (ext_call HB.out hb)) | (have HBn := Lib.hid (ext_new HB.out hb))); clear HB hb; have HB := HBn; clear HBn
  go_wp2_with fail
  refine (cmp_is b a _ (by omega) (by omega) _ HN.out).mono ?_
  rintro e w1 ⟨rfl, hb⟩
  (first | (have HBn := Lib.hid (ext_call HB.out hb)) | (have HBn := Lib.hid (ext_new HB.out hb))); clear HB hb; have HB := HBn; clear HBn
  go_wp2_with fail
  refine (name_is a _ (by omega) _ HNM.out).mono ?_
  rintro e w1 ⟨rfl, hb⟩
  (first | (have HBn := Lib.hid (ext_call HB.out hb)) | (have HBn := Lib.hid (ext_new HB.out hb))); clear HB hb; have HB := HBn; clear HBn
  go_wp2_with fail
  refine (word_is a _ (by omega) _ HWD.out).mono ?_
  rintro e w1 ⟨rfl, hb⟩
  (first | (have HBn := Lib.hid (ext_call HB.out hb)) | (have HBn := Lib.hid (ext_new HB.out hb))); clear HB hb; have HB := HBn; clear HBn
  go_wp2_with fail
  refine (word_is a _ (by omega) _ HWD.out).mono ?_
  rintro e w1 ⟨rfl, hb⟩
  (first | (have HBn := Lib.hid (ext_call HB.out hb)) | (have HBn := Lib.hid (ext_new HB.out hb))); clear HB hb; have HB := HBn; clear HBn
  go_wp2_with fail
  refine (clean_is a _ (by omega) true (word_clean HWD.out)).mono ?_
  rintro e w1 ⟨rfl, hb⟩
  (first | (have HBn := Lib.hid (ext_call HB.out hb)) | (have HBn := Lib.hid (ext_new HB.out hb))); clear HB hb; have HB := HBn; clear HBn
  go_wp2_with fail
  refine (alive_any _ (HM.out.later HB.out)).mono ?_
  rintro e w1 ⟨rfl, hb⟩
  (first | (have HBn := Lib.hid (ext_call HB.out hb)) | (have HBn := Lib.hid (ext_new HB.out hb))); clear HB hb; have HB := HBn; clear HBn
  go_wp2
  go_ret
  exact ⟨rfl, HB.out⟩

set_option maxRecDepth 100000 in
set_option maxHeartbeats 4000000 in
theorem ord_00ft (a b c : ByteArray) (w : World) (hm : MX w) (x y z : Int) (hx : cmpL a.data.toList b.data.toList = x) (hy : cmpL b.data.toList c.data.toList = y) (hz : cmpL a.data.toList c.data.toList = z) (ha : a.size ≤ 100) (hb0 : b.size ≤ 100) (hc : c.size ≤ 100) (he : ¬ a = b) (h0 : 0 < x) (hnm : namL a.data.toList = false) (hwd : wrdL a.data.toList = true) :
    Calls Tryd.prog 8 #[.string a, .string b, .string c] w fun e w' => e = .returned (.bool true) ∧ Below w.heap.size w w' := by
  have HM := Lib.hid hm
  have HB := Lib.hid (Below.refl w.heap.size w)
  clear hm
  have HX := Lib.hid hx
  have HY := Lib.hid hy
  have HZ := Lib.hid hz
  have hr := cmpL_range a.data.toList b.data.toList
  rw [hx] at hr
  obtain ⟨r1, r2⟩ := hr
  have HN := Lib.hid (show cmpL b.data.toList a.data.toList = -x by rw [cmpL_neg, hx])
  have hwx : IntKind.i64.wrap (-x) = -x := IntWalk.i64_in _ (by omega)
  have hx0 : (x == 0) = false := by
    rw [beq_eq_false_iff_ne]
    intro h
    rw [h] at hx
    exact he (str_eq ((cmpL_zero _ _).1 hx))
  have hab : (a.toList == b.toList) = false := by
    rw [beq_eq_false_iff_ne, Lib.toList_data, Lib.toList_data]
    intro h
    exact he (str_eq h)
  clear he
  have t1 : decide (x ≤ 0) = false := by simp; omega
  clear hx hy hz
  have HNM := Lib.hid hnm
  have HWD := Lib.hid hwd
  clear hnm hwd
  have g1 : ¬ (100 : Int) < (a.size : Int) := by omega
  have g2 : ¬ (100 : Int) < (b.size : Int) := by omega
  have g3 : ¬ (100 : Int) < (c.size : Int) := by omega
  go_enter Tryd.func8, Tryd.ntmps8
  go_wp2_with fail
  refine (cmp_is a b _ (by omega) (by omega) _ HX.out).mono ?_
  rintro e w1 ⟨rfl, hb⟩
  (first | (have HBn := Lib.hid (ext_call HB.out hb)) | (have HBn := Lib.hid (ext_new HB.out hb))); clear HB hb; have HB := HBn; clear HBn
  go_wp2_with fail
  refine (cmp_is b c _ (by omega) (by omega) _ HY.out).mono ?_
  rintro e w1 ⟨rfl, hb⟩
  (first | (have HBn := Lib.hid (ext_call HB.out hb)) | (have HBn := Lib.hid (ext_new HB.out hb))); clear HB hb; have HB := HBn; clear HBn
  go_wp2_with fail
  refine (cmp_is a c _ (by omega) (by omega) _ HZ.out).mono ?_
  rintro e w1 ⟨rfl, hb⟩
  (first | (have HBn := Lib.hid (ext_call HB.out hb)) | (have HBn := Lib.hid (ext_new HB.out hb))); clear HB hb; have HB := HBn; clear HBn
  go_wp2_with fail
  refine (cmp_is b a _ (by omega) (by omega) _ HN.out).mono ?_
  rintro e w1 ⟨rfl, hb⟩
  (first | (have HBn := Lib.hid (ext_call HB.out hb)) | (have HBn := Lib.hid (ext_new HB.out hb))); clear HB hb; have HB := HBn; clear HBn
  go_wp2_with fail
  refine (name_is a _ (by omega) _ HNM.out).mono ?_
  rintro e w1 ⟨rfl, hb⟩
  (first | (have HBn := Lib.hid (ext_call HB.out hb)) | (have HBn := Lib.hid (ext_new HB.out hb))); clear HB hb; have HB := HBn; clear HBn
  go_wp2_with fail
  refine (word_is a _ (by omega) _ HWD.out).mono ?_
  rintro e w1 ⟨rfl, hb⟩
  (first | (have HBn := Lib.hid (ext_call HB.out hb)) | (have HBn := Lib.hid (ext_new HB.out hb))); clear HB hb; have HB := HBn; clear HBn
  go_wp2_with fail
  refine (clean_is a _ (by omega) true (word_clean HWD.out)).mono ?_
  rintro e w1 ⟨rfl, hb⟩
  (first | (have HBn := Lib.hid (ext_call HB.out hb)) | (have HBn := Lib.hid (ext_new HB.out hb))); clear HB hb; have HB := HBn; clear HBn
  go_wp2_with fail
  refine (alive_any _ (HM.out.later HB.out)).mono ?_
  rintro e w1 ⟨rfl, hb⟩
  (first | (have HBn := Lib.hid (ext_call HB.out hb)) | (have HBn := Lib.hid (ext_new HB.out hb))); clear HB hb; have HB := HBn; clear HBn
  go_wp2
  go_ret
  exact ⟨rfl, HB.out⟩

set_option maxRecDepth 100000 in
set_option maxHeartbeats 4000000 in
theorem ord_00ff (a b c : ByteArray) (w : World) (hm : MX w) (x y z : Int) (hx : cmpL a.data.toList b.data.toList = x) (hy : cmpL b.data.toList c.data.toList = y) (hz : cmpL a.data.toList c.data.toList = z) (ha : a.size ≤ 100) (hb0 : b.size ≤ 100) (hc : c.size ≤ 100) (he : ¬ a = b) (h0 : 0 < x) (hnm : namL a.data.toList = false) (hwd : wrdL a.data.toList = false) :
    Calls Tryd.prog 8 #[.string a, .string b, .string c] w fun e w' => e = .returned (.bool true) ∧ Below w.heap.size w w' := by
  have HM := Lib.hid hm
  have HB := Lib.hid (Below.refl w.heap.size w)
  clear hm
  have HX := Lib.hid hx
  have HY := Lib.hid hy
  have HZ := Lib.hid hz
  have hr := cmpL_range a.data.toList b.data.toList
  rw [hx] at hr
  obtain ⟨r1, r2⟩ := hr
  have HN := Lib.hid (show cmpL b.data.toList a.data.toList = -x by rw [cmpL_neg, hx])
  have hwx : IntKind.i64.wrap (-x) = -x := IntWalk.i64_in _ (by omega)
  have hx0 : (x == 0) = false := by
    rw [beq_eq_false_iff_ne]
    intro h
    rw [h] at hx
    exact he (str_eq ((cmpL_zero _ _).1 hx))
  have hab : (a.toList == b.toList) = false := by
    rw [beq_eq_false_iff_ne, Lib.toList_data, Lib.toList_data]
    intro h
    exact he (str_eq h)
  clear he
  have t1 : decide (x ≤ 0) = false := by simp; omega
  clear hx hy hz
  have HNM := Lib.hid hnm
  have HWD := Lib.hid hwd
  clear hnm hwd
  have g1 : ¬ (100 : Int) < (a.size : Int) := by omega
  have g2 : ¬ (100 : Int) < (b.size : Int) := by omega
  have g3 : ¬ (100 : Int) < (c.size : Int) := by omega
  go_enter Tryd.func8, Tryd.ntmps8
  go_wp2_with fail
  refine (cmp_is a b _ (by omega) (by omega) _ HX.out).mono ?_
  rintro e w1 ⟨rfl, hb⟩
  (first | (have HBn := Lib.hid (ext_call HB.out hb)) | (have HBn := Lib.hid (ext_new HB.out hb))); clear HB hb; have HB := HBn; clear HBn
  go_wp2_with fail
  refine (cmp_is b c _ (by omega) (by omega) _ HY.out).mono ?_
  rintro e w1 ⟨rfl, hb⟩
  (first | (have HBn := Lib.hid (ext_call HB.out hb)) | (have HBn := Lib.hid (ext_new HB.out hb))); clear HB hb; have HB := HBn; clear HBn
  go_wp2_with fail
  refine (cmp_is a c _ (by omega) (by omega) _ HZ.out).mono ?_
  rintro e w1 ⟨rfl, hb⟩
  (first | (have HBn := Lib.hid (ext_call HB.out hb)) | (have HBn := Lib.hid (ext_new HB.out hb))); clear HB hb; have HB := HBn; clear HBn
  go_wp2_with fail
  refine (cmp_is b a _ (by omega) (by omega) _ HN.out).mono ?_
  rintro e w1 ⟨rfl, hb⟩
  (first | (have HBn := Lib.hid (ext_call HB.out hb)) | (have HBn := Lib.hid (ext_new HB.out hb))); clear HB hb; have HB := HBn; clear HBn
  go_wp2_with fail
  refine (name_is a _ (by omega) _ HNM.out).mono ?_
  rintro e w1 ⟨rfl, hb⟩
  (first | (have HBn := Lib.hid (ext_call HB.out hb)) | (have HBn := Lib.hid (ext_new HB.out hb))); clear HB hb; have HB := HBn; clear HBn
  go_wp2_with fail
  refine (word_is a _ (by omega) _ HWD.out).mono ?_
  rintro e w1 ⟨rfl, hb⟩
  (first | (have HBn := Lib.hid (ext_call HB.out hb)) | (have HBn := Lib.hid (ext_new HB.out hb))); clear HB hb; have HB := HBn; clear HBn
  go_wp2_with fail
  refine (alive_any _ (HM.out.later HB.out)).mono ?_
  rintro e w1 ⟨rfl, hb⟩
  (first | (have HBn := Lib.hid (ext_call HB.out hb)) | (have HBn := Lib.hid (ext_new HB.out hb))); clear HB hb; have HB := HBn; clear HBn
  go_wp2
  go_ret
  exact ⟨rfl, HB.out⟩

set_option maxRecDepth 100000 in
set_option maxHeartbeats 4000000 in
theorem ord_01tt (a b c : ByteArray) (w : World) (hm : MX w) (x y z : Int) (hx : cmpL a.data.toList b.data.toList = x) (hy : cmpL b.data.toList c.data.toList = y) (hz : cmpL a.data.toList c.data.toList = z) (ha : a.size ≤ 100) (hb0 : b.size ≤ 100) (hc : c.size ≤ 100) (he : ¬ a = b) (h0 : x ≤ 0) (h1 : 0 < y) (hnm : namL a.data.toList = true) (hwd : wrdL a.data.toList = true) :
    Calls Tryd.prog 8 #[.string a, .string b, .string c] w fun e w' => e = .returned (.bool true) ∧ Below w.heap.size w w' := by
  have HM := Lib.hid hm
  have HB := Lib.hid (Below.refl w.heap.size w)
  clear hm
  have HX := Lib.hid hx
  have HY := Lib.hid hy
  have HZ := Lib.hid hz
  have hr := cmpL_range a.data.toList b.data.toList
  rw [hx] at hr
  obtain ⟨r1, r2⟩ := hr
  have HN := Lib.hid (show cmpL b.data.toList a.data.toList = -x by rw [cmpL_neg, hx])
  have hwx : IntKind.i64.wrap (-x) = -x := IntWalk.i64_in _ (by omega)
  have hx0 : (x == 0) = false := by
    rw [beq_eq_false_iff_ne]
    intro h
    rw [h] at hx
    exact he (str_eq ((cmpL_zero _ _).1 hx))
  have hab : (a.toList == b.toList) = false := by
    rw [beq_eq_false_iff_ne, Lib.toList_data, Lib.toList_data]
    intro h
    exact he (str_eq h)
  clear he
  have t1 : decide (x ≤ 0) = true := by simp; omega
  have t2 : decide (y ≤ 0) = false := by simp; omega
  clear hx hy hz
  have HNM := Lib.hid hnm
  have HWD := Lib.hid hwd
  clear hnm hwd
  have g1 : ¬ (100 : Int) < (a.size : Int) := by omega
  have g2 : ¬ (100 : Int) < (b.size : Int) := by omega
  have g3 : ¬ (100 : Int) < (c.size : Int) := by omega
  go_enter Tryd.func8, Tryd.ntmps8
  go_wp2_with fail
  refine (cmp_is a b _ (by omega) (by omega) _ HX.out).mono ?_
  rintro e w1 ⟨rfl, hb⟩
  (first | (have HBn := Lib.hid (ext_call HB.out hb)) | (have HBn := Lib.hid (ext_new HB.out hb))); clear HB hb; have HB := HBn; clear HBn
  go_wp2_with fail
  refine (cmp_is b c _ (by omega) (by omega) _ HY.out).mono ?_
  rintro e w1 ⟨rfl, hb⟩
  (first | (have HBn := Lib.hid (ext_call HB.out hb)) | (have HBn := Lib.hid (ext_new HB.out hb))); clear HB hb; have HB := HBn; clear HBn
  go_wp2_with fail
  refine (cmp_is a c _ (by omega) (by omega) _ HZ.out).mono ?_
  rintro e w1 ⟨rfl, hb⟩
  (first | (have HBn := Lib.hid (ext_call HB.out hb)) | (have HBn := Lib.hid (ext_new HB.out hb))); clear HB hb; have HB := HBn; clear HBn
  go_wp2_with fail
  refine (cmp_is b a _ (by omega) (by omega) _ HN.out).mono ?_
  rintro e w1 ⟨rfl, hb⟩
  (first | (have HBn := Lib.hid (ext_call HB.out hb)) | (have HBn := Lib.hid (ext_new HB.out hb))); clear HB hb; have HB := HBn; clear HBn
  go_wp2_with fail
  refine (name_is a _ (by omega) _ HNM.out).mono ?_
  rintro e w1 ⟨rfl, hb⟩
  (first | (have HBn := Lib.hid (ext_call HB.out hb)) | (have HBn := Lib.hid (ext_new HB.out hb))); clear HB hb; have HB := HBn; clear HBn
  go_wp2_with fail
  refine (word_is a _ (by omega) _ HWD.out).mono ?_
  rintro e w1 ⟨rfl, hb⟩
  (first | (have HBn := Lib.hid (ext_call HB.out hb)) | (have HBn := Lib.hid (ext_new HB.out hb))); clear HB hb; have HB := HBn; clear HBn
  go_wp2_with fail
  refine (word_is a _ (by omega) _ HWD.out).mono ?_
  rintro e w1 ⟨rfl, hb⟩
  (first | (have HBn := Lib.hid (ext_call HB.out hb)) | (have HBn := Lib.hid (ext_new HB.out hb))); clear HB hb; have HB := HBn; clear HBn
  go_wp2_with fail
  refine (clean_is a _ (by omega) true (word_clean HWD.out)).mono ?_
  rintro e w1 ⟨rfl, hb⟩
  (first | (have HBn := Lib.hid (ext_call HB.out hb)) | (have HBn := Lib.hid (ext_new HB.out hb))); clear HB hb; have HB := HBn; clear HBn
  go_wp2_with fail
  refine (alive_any _ (HM.out.later HB.out)).mono ?_
  rintro e w1 ⟨rfl, hb⟩
  (first | (have HBn := Lib.hid (ext_call HB.out hb)) | (have HBn := Lib.hid (ext_new HB.out hb))); clear HB hb; have HB := HBn; clear HBn
  go_wp2
  go_ret
  exact ⟨rfl, HB.out⟩

set_option maxRecDepth 100000 in
set_option maxHeartbeats 4000000 in
theorem ord_01ft (a b c : ByteArray) (w : World) (hm : MX w) (x y z : Int) (hx : cmpL a.data.toList b.data.toList = x) (hy : cmpL b.data.toList c.data.toList = y) (hz : cmpL a.data.toList c.data.toList = z) (ha : a.size ≤ 100) (hb0 : b.size ≤ 100) (hc : c.size ≤ 100) (he : ¬ a = b) (h0 : x ≤ 0) (h1 : 0 < y) (hnm : namL a.data.toList = false) (hwd : wrdL a.data.toList = true) :
    Calls Tryd.prog 8 #[.string a, .string b, .string c] w fun e w' => e = .returned (.bool true) ∧ Below w.heap.size w w' := by
  have HM := Lib.hid hm
  have HB := Lib.hid (Below.refl w.heap.size w)
  clear hm
  have HX := Lib.hid hx
  have HY := Lib.hid hy
  have HZ := Lib.hid hz
  have hr := cmpL_range a.data.toList b.data.toList
  rw [hx] at hr
  obtain ⟨r1, r2⟩ := hr
  have HN := Lib.hid (show cmpL b.data.toList a.data.toList = -x by rw [cmpL_neg, hx])
  have hwx : IntKind.i64.wrap (-x) = -x := IntWalk.i64_in _ (by omega)
  have hx0 : (x == 0) = false := by
    rw [beq_eq_false_iff_ne]
    intro h
    rw [h] at hx
    exact he (str_eq ((cmpL_zero _ _).1 hx))
  have hab : (a.toList == b.toList) = false := by
    rw [beq_eq_false_iff_ne, Lib.toList_data, Lib.toList_data]
    intro h
    exact he (str_eq h)
  clear he
  have t1 : decide (x ≤ 0) = true := by simp; omega
  have t2 : decide (y ≤ 0) = false := by simp; omega
  clear hx hy hz
  have HNM := Lib.hid hnm
  have HWD := Lib.hid hwd
  clear hnm hwd
  have g1 : ¬ (100 : Int) < (a.size : Int) := by omega
  have g2 : ¬ (100 : Int) < (b.size : Int) := by omega
  have g3 : ¬ (100 : Int) < (c.size : Int) := by omega
  go_enter Tryd.func8, Tryd.ntmps8
  go_wp2_with fail
  refine (cmp_is a b _ (by omega) (by omega) _ HX.out).mono ?_
  rintro e w1 ⟨rfl, hb⟩
  (first | (have HBn := Lib.hid (ext_call HB.out hb)) | (have HBn := Lib.hid (ext_new HB.out hb))); clear HB hb; have HB := HBn; clear HBn
  go_wp2_with fail
  refine (cmp_is b c _ (by omega) (by omega) _ HY.out).mono ?_
  rintro e w1 ⟨rfl, hb⟩
  (first | (have HBn := Lib.hid (ext_call HB.out hb)) | (have HBn := Lib.hid (ext_new HB.out hb))); clear HB hb; have HB := HBn; clear HBn
  go_wp2_with fail
  refine (cmp_is a c _ (by omega) (by omega) _ HZ.out).mono ?_
  rintro e w1 ⟨rfl, hb⟩
  (first | (have HBn := Lib.hid (ext_call HB.out hb)) | (have HBn := Lib.hid (ext_new HB.out hb))); clear HB hb; have HB := HBn; clear HBn
  go_wp2_with fail
  refine (cmp_is b a _ (by omega) (by omega) _ HN.out).mono ?_
  rintro e w1 ⟨rfl, hb⟩
  (first | (have HBn := Lib.hid (ext_call HB.out hb)) | (have HBn := Lib.hid (ext_new HB.out hb))); clear HB hb; have HB := HBn; clear HBn
  go_wp2_with fail
  refine (name_is a _ (by omega) _ HNM.out).mono ?_
  rintro e w1 ⟨rfl, hb⟩
  (first | (have HBn := Lib.hid (ext_call HB.out hb)) | (have HBn := Lib.hid (ext_new HB.out hb))); clear HB hb; have HB := HBn; clear HBn
  go_wp2_with fail
  refine (word_is a _ (by omega) _ HWD.out).mono ?_
  rintro e w1 ⟨rfl, hb⟩
  (first | (have HBn := Lib.hid (ext_call HB.out hb)) | (have HBn := Lib.hid (ext_new HB.out hb))); clear HB hb; have HB := HBn; clear HBn
  go_wp2_with fail
  refine (clean_is a _ (by omega) true (word_clean HWD.out)).mono ?_
  rintro e w1 ⟨rfl, hb⟩
  (first | (have HBn := Lib.hid (ext_call HB.out hb)) | (have HBn := Lib.hid (ext_new HB.out hb))); clear HB hb; have HB := HBn; clear HBn
  go_wp2_with fail
  refine (alive_any _ (HM.out.later HB.out)).mono ?_
  rintro e w1 ⟨rfl, hb⟩
  (first | (have HBn := Lib.hid (ext_call HB.out hb)) | (have HBn := Lib.hid (ext_new HB.out hb))); clear HB hb; have HB := HBn; clear HBn
  go_wp2
  go_ret
  exact ⟨rfl, HB.out⟩

set_option maxRecDepth 100000 in
set_option maxHeartbeats 4000000 in
theorem ord_01ff (a b c : ByteArray) (w : World) (hm : MX w) (x y z : Int) (hx : cmpL a.data.toList b.data.toList = x) (hy : cmpL b.data.toList c.data.toList = y) (hz : cmpL a.data.toList c.data.toList = z) (ha : a.size ≤ 100) (hb0 : b.size ≤ 100) (hc : c.size ≤ 100) (he : ¬ a = b) (h0 : x ≤ 0) (h1 : 0 < y) (hnm : namL a.data.toList = false) (hwd : wrdL a.data.toList = false) :
    Calls Tryd.prog 8 #[.string a, .string b, .string c] w fun e w' => e = .returned (.bool true) ∧ Below w.heap.size w w' := by
  have HM := Lib.hid hm
  have HB := Lib.hid (Below.refl w.heap.size w)
  clear hm
  have HX := Lib.hid hx
  have HY := Lib.hid hy
  have HZ := Lib.hid hz
  have hr := cmpL_range a.data.toList b.data.toList
  rw [hx] at hr
  obtain ⟨r1, r2⟩ := hr
  have HN := Lib.hid (show cmpL b.data.toList a.data.toList = -x by rw [cmpL_neg, hx])
  have hwx : IntKind.i64.wrap (-x) = -x := IntWalk.i64_in _ (by omega)
  have hx0 : (x == 0) = false := by
    rw [beq_eq_false_iff_ne]
    intro h
    rw [h] at hx
    exact he (str_eq ((cmpL_zero _ _).1 hx))
  have hab : (a.toList == b.toList) = false := by
    rw [beq_eq_false_iff_ne, Lib.toList_data, Lib.toList_data]
    intro h
    exact he (str_eq h)
  clear he
  have t1 : decide (x ≤ 0) = true := by simp; omega
  have t2 : decide (y ≤ 0) = false := by simp; omega
  clear hx hy hz
  have HNM := Lib.hid hnm
  have HWD := Lib.hid hwd
  clear hnm hwd
  have g1 : ¬ (100 : Int) < (a.size : Int) := by omega
  have g2 : ¬ (100 : Int) < (b.size : Int) := by omega
  have g3 : ¬ (100 : Int) < (c.size : Int) := by omega
  go_enter Tryd.func8, Tryd.ntmps8
  go_wp2_with fail
  refine (cmp_is a b _ (by omega) (by omega) _ HX.out).mono ?_
  rintro e w1 ⟨rfl, hb⟩
  (first | (have HBn := Lib.hid (ext_call HB.out hb)) | (have HBn := Lib.hid (ext_new HB.out hb))); clear HB hb; have HB := HBn; clear HBn
  go_wp2_with fail
  refine (cmp_is b c _ (by omega) (by omega) _ HY.out).mono ?_
  rintro e w1 ⟨rfl, hb⟩
  (first | (have HBn := Lib.hid (ext_call HB.out hb)) | (have HBn := Lib.hid (ext_new HB.out hb))); clear HB hb; have HB := HBn; clear HBn
  go_wp2_with fail
  refine (cmp_is a c _ (by omega) (by omega) _ HZ.out).mono ?_
  rintro e w1 ⟨rfl, hb⟩
  (first | (have HBn := Lib.hid (ext_call HB.out hb)) | (have HBn := Lib.hid (ext_new HB.out hb))); clear HB hb; have HB := HBn; clear HBn
  go_wp2_with fail
  refine (cmp_is b a _ (by omega) (by omega) _ HN.out).mono ?_
  rintro e w1 ⟨rfl, hb⟩
  (first | (have HBn := Lib.hid (ext_call HB.out hb)) | (have HBn := Lib.hid (ext_new HB.out hb))); clear HB hb; have HB := HBn; clear HBn
  go_wp2_with fail
  refine (name_is a _ (by omega) _ HNM.out).mono ?_
  rintro e w1 ⟨rfl, hb⟩
  (first | (have HBn := Lib.hid (ext_call HB.out hb)) | (have HBn := Lib.hid (ext_new HB.out hb))); clear HB hb; have HB := HBn; clear HBn
  go_wp2_with fail
  refine (word_is a _ (by omega) _ HWD.out).mono ?_
  rintro e w1 ⟨rfl, hb⟩
  (first | (have HBn := Lib.hid (ext_call HB.out hb)) | (have HBn := Lib.hid (ext_new HB.out hb))); clear HB hb; have HB := HBn; clear HBn
  go_wp2_with fail
  refine (alive_any _ (HM.out.later HB.out)).mono ?_
  rintro e w1 ⟨rfl, hb⟩
  (first | (have HBn := Lib.hid (ext_call HB.out hb)) | (have HBn := Lib.hid (ext_new HB.out hb))); clear HB hb; have HB := HBn; clear HBn
  go_wp2
  go_ret
  exact ⟨rfl, HB.out⟩

set_option maxRecDepth 100000 in
set_option maxHeartbeats 4000000 in
theorem ord_02tt (a b c : ByteArray) (w : World) (hm : MX w) (x y z : Int) (hx : cmpL a.data.toList b.data.toList = x) (hy : cmpL b.data.toList c.data.toList = y) (hz : cmpL a.data.toList c.data.toList = z) (ha : a.size ≤ 100) (hb0 : b.size ≤ 100) (hc : c.size ≤ 100) (he : ¬ a = b) (h0 : x ≤ 0) (h1 : y ≤ 0) (hnm : namL a.data.toList = true) (hwd : wrdL a.data.toList = true) :
    Calls Tryd.prog 8 #[.string a, .string b, .string c] w fun e w' => e = .returned (.bool true) ∧ Below w.heap.size w w' := by
  have HM := Lib.hid hm
  have HB := Lib.hid (Below.refl w.heap.size w)
  clear hm
  have HX := Lib.hid hx
  have HY := Lib.hid hy
  have HZ := Lib.hid hz
  have hr := cmpL_range a.data.toList b.data.toList
  rw [hx] at hr
  obtain ⟨r1, r2⟩ := hr
  have HN := Lib.hid (show cmpL b.data.toList a.data.toList = -x by rw [cmpL_neg, hx])
  have hwx : IntKind.i64.wrap (-x) = -x := IntWalk.i64_in _ (by omega)
  have hx0 : (x == 0) = false := by
    rw [beq_eq_false_iff_ne]
    intro h
    rw [h] at hx
    exact he (str_eq ((cmpL_zero _ _).1 hx))
  have hab : (a.toList == b.toList) = false := by
    rw [beq_eq_false_iff_ne, Lib.toList_data, Lib.toList_data]
    intro h
    exact he (str_eq h)
  clear he
  have t1 : decide (x ≤ 0) = true := by simp; omega
  have t2 : decide (y ≤ 0) = true := by simp; omega
  have hz0 : z ≤ 0 := by rw [← hz]; exact cmpL_trans _ _ _ (by rw [HX.out]; exact h0) (by rw [hy]; exact h1)
  have t3 : decide (0 < z) = false := by simp; omega
  clear hx hy hz
  have HNM := Lib.hid hnm
  have HWD := Lib.hid hwd
  clear hnm hwd
  have g1 : ¬ (100 : Int) < (a.size : Int) := by omega
  have g2 : ¬ (100 : Int) < (b.size : Int) := by omega
  have g3 : ¬ (100 : Int) < (c.size : Int) := by omega
  go_enter Tryd.func8, Tryd.ntmps8
  go_wp2_with fail
  refine (cmp_is a b _ (by omega) (by omega) _ HX.out).mono ?_
  rintro e w1 ⟨rfl, hb⟩
  (first | (have HBn := Lib.hid (ext_call HB.out hb)) | (have HBn := Lib.hid (ext_new HB.out hb))); clear HB hb; have HB := HBn; clear HBn
  go_wp2_with fail
  refine (cmp_is b c _ (by omega) (by omega) _ HY.out).mono ?_
  rintro e w1 ⟨rfl, hb⟩
  (first | (have HBn := Lib.hid (ext_call HB.out hb)) | (have HBn := Lib.hid (ext_new HB.out hb))); clear HB hb; have HB := HBn; clear HBn
  go_wp2_with fail
  refine (cmp_is a c _ (by omega) (by omega) _ HZ.out).mono ?_
  rintro e w1 ⟨rfl, hb⟩
  (first | (have HBn := Lib.hid (ext_call HB.out hb)) | (have HBn := Lib.hid (ext_new HB.out hb))); clear HB hb; have HB := HBn; clear HBn
  go_wp2_with fail
  refine (cmp_is b a _ (by omega) (by omega) _ HN.out).mono ?_
  rintro e w1 ⟨rfl, hb⟩
  (first | (have HBn := Lib.hid (ext_call HB.out hb)) | (have HBn := Lib.hid (ext_new HB.out hb))); clear HB hb; have HB := HBn; clear HBn
  go_wp2_with fail
  refine (name_is a _ (by omega) _ HNM.out).mono ?_
  rintro e w1 ⟨rfl, hb⟩
  (first | (have HBn := Lib.hid (ext_call HB.out hb)) | (have HBn := Lib.hid (ext_new HB.out hb))); clear HB hb; have HB := HBn; clear HBn
  go_wp2_with fail
  refine (word_is a _ (by omega) _ HWD.out).mono ?_
  rintro e w1 ⟨rfl, hb⟩
  (first | (have HBn := Lib.hid (ext_call HB.out hb)) | (have HBn := Lib.hid (ext_new HB.out hb))); clear HB hb; have HB := HBn; clear HBn
  go_wp2_with fail
  refine (word_is a _ (by omega) _ HWD.out).mono ?_
  rintro e w1 ⟨rfl, hb⟩
  (first | (have HBn := Lib.hid (ext_call HB.out hb)) | (have HBn := Lib.hid (ext_new HB.out hb))); clear HB hb; have HB := HBn; clear HBn
  go_wp2_with fail
  refine (clean_is a _ (by omega) true (word_clean HWD.out)).mono ?_
  rintro e w1 ⟨rfl, hb⟩
  (first | (have HBn := Lib.hid (ext_call HB.out hb)) | (have HBn := Lib.hid (ext_new HB.out hb))); clear HB hb; have HB := HBn; clear HBn
  go_wp2_with fail
  refine (alive_any _ (HM.out.later HB.out)).mono ?_
  rintro e w1 ⟨rfl, hb⟩
  (first | (have HBn := Lib.hid (ext_call HB.out hb)) | (have HBn := Lib.hid (ext_new HB.out hb))); clear HB hb; have HB := HBn; clear HBn
  go_wp2
  go_ret
  exact ⟨rfl, HB.out⟩

set_option maxRecDepth 100000 in
set_option maxHeartbeats 4000000 in
theorem ord_02ft (a b c : ByteArray) (w : World) (hm : MX w) (x y z : Int) (hx : cmpL a.data.toList b.data.toList = x) (hy : cmpL b.data.toList c.data.toList = y) (hz : cmpL a.data.toList c.data.toList = z) (ha : a.size ≤ 100) (hb0 : b.size ≤ 100) (hc : c.size ≤ 100) (he : ¬ a = b) (h0 : x ≤ 0) (h1 : y ≤ 0) (hnm : namL a.data.toList = false) (hwd : wrdL a.data.toList = true) :
    Calls Tryd.prog 8 #[.string a, .string b, .string c] w fun e w' => e = .returned (.bool true) ∧ Below w.heap.size w w' := by
  have HM := Lib.hid hm
  have HB := Lib.hid (Below.refl w.heap.size w)
  clear hm
  have HX := Lib.hid hx
  have HY := Lib.hid hy
  have HZ := Lib.hid hz
  have hr := cmpL_range a.data.toList b.data.toList
  rw [hx] at hr
  obtain ⟨r1, r2⟩ := hr
  have HN := Lib.hid (show cmpL b.data.toList a.data.toList = -x by rw [cmpL_neg, hx])
  have hwx : IntKind.i64.wrap (-x) = -x := IntWalk.i64_in _ (by omega)
  have hx0 : (x == 0) = false := by
    rw [beq_eq_false_iff_ne]
    intro h
    rw [h] at hx
    exact he (str_eq ((cmpL_zero _ _).1 hx))
  have hab : (a.toList == b.toList) = false := by
    rw [beq_eq_false_iff_ne, Lib.toList_data, Lib.toList_data]
    intro h
    exact he (str_eq h)
  clear he
  have t1 : decide (x ≤ 0) = true := by simp; omega
  have t2 : decide (y ≤ 0) = true := by simp; omega
  have hz0 : z ≤ 0 := by rw [← hz]; exact cmpL_trans _ _ _ (by rw [HX.out]; exact h0) (by rw [hy]; exact h1)
  have t3 : decide (0 < z) = false := by simp; omega
  clear hx hy hz
  have HNM := Lib.hid hnm
  have HWD := Lib.hid hwd
  clear hnm hwd
  have g1 : ¬ (100 : Int) < (a.size : Int) := by omega
  have g2 : ¬ (100 : Int) < (b.size : Int) := by omega
  have g3 : ¬ (100 : Int) < (c.size : Int) := by omega
  go_enter Tryd.func8, Tryd.ntmps8
  go_wp2_with fail
  refine (cmp_is a b _ (by omega) (by omega) _ HX.out).mono ?_
  rintro e w1 ⟨rfl, hb⟩
  (first | (have HBn := Lib.hid (ext_call HB.out hb)) | (have HBn := Lib.hid (ext_new HB.out hb))); clear HB hb; have HB := HBn; clear HBn
  go_wp2_with fail
  refine (cmp_is b c _ (by omega) (by omega) _ HY.out).mono ?_
  rintro e w1 ⟨rfl, hb⟩
  (first | (have HBn := Lib.hid (ext_call HB.out hb)) | (have HBn := Lib.hid (ext_new HB.out hb))); clear HB hb; have HB := HBn; clear HBn
  go_wp2_with fail
  refine (cmp_is a c _ (by omega) (by omega) _ HZ.out).mono ?_
  rintro e w1 ⟨rfl, hb⟩
  (first | (have HBn := Lib.hid (ext_call HB.out hb)) | (have HBn := Lib.hid (ext_new HB.out hb))); clear HB hb; have HB := HBn; clear HBn
  go_wp2_with fail
  refine (cmp_is b a _ (by omega) (by omega) _ HN.out).mono ?_
  rintro e w1 ⟨rfl, hb⟩
  (first | (have HBn := Lib.hid (ext_call HB.out hb)) | (have HBn := Lib.hid (ext_new HB.out hb))); clear HB hb; have HB := HBn; clear HBn
  go_wp2_with fail
  refine (name_is a _ (by omega) _ HNM.out).mono ?_
  rintro e w1 ⟨rfl, hb⟩
  (first | (have HBn := Lib.hid (ext_call HB.out hb)) | (have HBn := Lib.hid (ext_new HB.out hb))); clear HB hb; have HB := HBn; clear HBn
  go_wp2_with fail
  refine (word_is a _ (by omega) _ HWD.out).mono ?_
  rintro e w1 ⟨rfl, hb⟩
  (first | (have HBn := Lib.hid (ext_call HB.out hb)) | (have HBn := Lib.hid (ext_new HB.out hb))); clear HB hb; have HB := HBn; clear HBn
  go_wp2_with fail
  refine (clean_is a _ (by omega) true (word_clean HWD.out)).mono ?_
  rintro e w1 ⟨rfl, hb⟩
  (first | (have HBn := Lib.hid (ext_call HB.out hb)) | (have HBn := Lib.hid (ext_new HB.out hb))); clear HB hb; have HB := HBn; clear HBn
  go_wp2_with fail
  refine (alive_any _ (HM.out.later HB.out)).mono ?_
  rintro e w1 ⟨rfl, hb⟩
  (first | (have HBn := Lib.hid (ext_call HB.out hb)) | (have HBn := Lib.hid (ext_new HB.out hb))); clear HB hb; have HB := HBn; clear HBn
  go_wp2
  go_ret
  exact ⟨rfl, HB.out⟩

set_option maxRecDepth 100000 in
set_option maxHeartbeats 4000000 in
theorem ord_02ff (a b c : ByteArray) (w : World) (hm : MX w) (x y z : Int) (hx : cmpL a.data.toList b.data.toList = x) (hy : cmpL b.data.toList c.data.toList = y) (hz : cmpL a.data.toList c.data.toList = z) (ha : a.size ≤ 100) (hb0 : b.size ≤ 100) (hc : c.size ≤ 100) (he : ¬ a = b) (h0 : x ≤ 0) (h1 : y ≤ 0) (hnm : namL a.data.toList = false) (hwd : wrdL a.data.toList = false) :
    Calls Tryd.prog 8 #[.string a, .string b, .string c] w fun e w' => e = .returned (.bool true) ∧ Below w.heap.size w w' := by
  have HM := Lib.hid hm
  have HB := Lib.hid (Below.refl w.heap.size w)
  clear hm
  have HX := Lib.hid hx
  have HY := Lib.hid hy
  have HZ := Lib.hid hz
  have hr := cmpL_range a.data.toList b.data.toList
  rw [hx] at hr
  obtain ⟨r1, r2⟩ := hr
  have HN := Lib.hid (show cmpL b.data.toList a.data.toList = -x by rw [cmpL_neg, hx])
  have hwx : IntKind.i64.wrap (-x) = -x := IntWalk.i64_in _ (by omega)
  have hx0 : (x == 0) = false := by
    rw [beq_eq_false_iff_ne]
    intro h
    rw [h] at hx
    exact he (str_eq ((cmpL_zero _ _).1 hx))
  have hab : (a.toList == b.toList) = false := by
    rw [beq_eq_false_iff_ne, Lib.toList_data, Lib.toList_data]
    intro h
    exact he (str_eq h)
  clear he
  have t1 : decide (x ≤ 0) = true := by simp; omega
  have t2 : decide (y ≤ 0) = true := by simp; omega
  have hz0 : z ≤ 0 := by rw [← hz]; exact cmpL_trans _ _ _ (by rw [HX.out]; exact h0) (by rw [hy]; exact h1)
  have t3 : decide (0 < z) = false := by simp; omega
  clear hx hy hz
  have HNM := Lib.hid hnm
  have HWD := Lib.hid hwd
  clear hnm hwd
  have g1 : ¬ (100 : Int) < (a.size : Int) := by omega
  have g2 : ¬ (100 : Int) < (b.size : Int) := by omega
  have g3 : ¬ (100 : Int) < (c.size : Int) := by omega
  go_enter Tryd.func8, Tryd.ntmps8
  go_wp2_with fail
  refine (cmp_is a b _ (by omega) (by omega) _ HX.out).mono ?_
  rintro e w1 ⟨rfl, hb⟩
  (first | (have HBn := Lib.hid (ext_call HB.out hb)) | (have HBn := Lib.hid (ext_new HB.out hb))); clear HB hb; have HB := HBn; clear HBn
  go_wp2_with fail
  refine (cmp_is b c _ (by omega) (by omega) _ HY.out).mono ?_
  rintro e w1 ⟨rfl, hb⟩
  (first | (have HBn := Lib.hid (ext_call HB.out hb)) | (have HBn := Lib.hid (ext_new HB.out hb))); clear HB hb; have HB := HBn; clear HBn
  go_wp2_with fail
  refine (cmp_is a c _ (by omega) (by omega) _ HZ.out).mono ?_
  rintro e w1 ⟨rfl, hb⟩
  (first | (have HBn := Lib.hid (ext_call HB.out hb)) | (have HBn := Lib.hid (ext_new HB.out hb))); clear HB hb; have HB := HBn; clear HBn
  go_wp2_with fail
  refine (cmp_is b a _ (by omega) (by omega) _ HN.out).mono ?_
  rintro e w1 ⟨rfl, hb⟩
  (first | (have HBn := Lib.hid (ext_call HB.out hb)) | (have HBn := Lib.hid (ext_new HB.out hb))); clear HB hb; have HB := HBn; clear HBn
  go_wp2_with fail
  refine (name_is a _ (by omega) _ HNM.out).mono ?_
  rintro e w1 ⟨rfl, hb⟩
  (first | (have HBn := Lib.hid (ext_call HB.out hb)) | (have HBn := Lib.hid (ext_new HB.out hb))); clear HB hb; have HB := HBn; clear HBn
  go_wp2_with fail
  refine (word_is a _ (by omega) _ HWD.out).mono ?_
  rintro e w1 ⟨rfl, hb⟩
  (first | (have HBn := Lib.hid (ext_call HB.out hb)) | (have HBn := Lib.hid (ext_new HB.out hb))); clear HB hb; have HB := HBn; clear HBn
  go_wp2_with fail
  refine (alive_any _ (HM.out.later HB.out)).mono ?_
  rintro e w1 ⟨rfl, hb⟩
  (first | (have HBn := Lib.hid (ext_call HB.out hb)) | (have HBn := Lib.hid (ext_new HB.out hb))); clear HB hb; have HB := HBn; clear HBn
  go_wp2
  go_ret
  exact ⟨rfl, HB.out⟩

set_option maxRecDepth 100000 in
set_option maxHeartbeats 4000000 in
theorem ord_11tt (a b c : ByteArray) (w : World) (hm : MX w) (x y z : Int) (hx : cmpL a.data.toList b.data.toList = x) (hy : cmpL b.data.toList c.data.toList = y) (hz : cmpL a.data.toList c.data.toList = z) (ha : a.size ≤ 100) (hb0 : b.size ≤ 100) (hc : c.size ≤ 100) (he : a = b) (h0 : x ≤ 0) (h1 : 0 < y) (hnm : namL a.data.toList = true) (hwd : wrdL a.data.toList = true) :
    Calls Tryd.prog 8 #[.string a, .string b, .string c] w fun e w' => e = .returned (.bool true) ∧ Below w.heap.size w w' := by
  have HM := Lib.hid hm
  have HB := Lib.hid (Below.refl w.heap.size w)
  clear hm
  have HX := Lib.hid hx
  have HY := Lib.hid hy
  have HZ := Lib.hid hz
  have hr := cmpL_range a.data.toList b.data.toList
  rw [hx] at hr
  obtain ⟨r1, r2⟩ := hr
  have HN := Lib.hid (show cmpL b.data.toList a.data.toList = -x by rw [cmpL_neg, hx])
  have hwx : IntKind.i64.wrap (-x) = -x := IntWalk.i64_in _ (by omega)
  subst he
  have hx0 : x = 0 := by rw [← hx]; exact (cmpL_zero _ _).2 rfl
  subst hx0
  have t2 : decide (y ≤ 0) = false := by simp; omega
  clear hx hy hz
  have HNM := Lib.hid hnm
  have HWD := Lib.hid hwd
  clear hnm hwd
  have g1 : ¬ (100 : Int) < (a.size : Int) := by omega
  have g3 : ¬ (100 : Int) < (c.size : Int) := by omega
  go_enter Tryd.func8, Tryd.ntmps8
  go_wp2_with fail
  refine (cmp_is a a _ (by omega) (by omega) _ HX.out).mono ?_
  rintro e w1 ⟨rfl, hb⟩
  (first | (have HBn := Lib.hid (ext_call HB.out hb)) | (have HBn := Lib.hid (ext_new HB.out hb))); clear HB hb; have HB := HBn; clear HBn
  go_wp2_with fail
  refine (cmp_is a c _ (by omega) (by omega) _ HY.out).mono ?_
  rintro e w1 ⟨rfl, hb⟩
  (first | (have HBn := Lib.hid (ext_call HB.out hb)) | (have HBn := Lib.hid (ext_new HB.out hb))); clear HB hb; have HB := HBn; clear HBn
  go_wp2_with fail
  refine (cmp_is a c _ (by omega) (by omega) _ HZ.out).mono ?_
  rintro e w1 ⟨rfl, hb⟩
  (first | (have HBn := Lib.hid (ext_call HB.out hb)) | (have HBn := Lib.hid (ext_new HB.out hb))); clear HB hb; have HB := HBn; clear HBn
  go_wp2_with fail
  refine (cmp_is a a _ (by omega) (by omega) _ HN.out).mono ?_
  rintro e w1 ⟨rfl, hb⟩
  (first | (have HBn := Lib.hid (ext_call HB.out hb)) | (have HBn := Lib.hid (ext_new HB.out hb))); clear HB hb; have HB := HBn; clear HBn
  go_wp2_with fail
  refine (name_is a _ (by omega) _ HNM.out).mono ?_
  rintro e w1 ⟨rfl, hb⟩
  (first | (have HBn := Lib.hid (ext_call HB.out hb)) | (have HBn := Lib.hid (ext_new HB.out hb))); clear HB hb; have HB := HBn; clear HBn
  go_wp2_with fail
  refine (word_is a _ (by omega) _ HWD.out).mono ?_
  rintro e w1 ⟨rfl, hb⟩
  (first | (have HBn := Lib.hid (ext_call HB.out hb)) | (have HBn := Lib.hid (ext_new HB.out hb))); clear HB hb; have HB := HBn; clear HBn
  go_wp2_with fail
  refine (word_is a _ (by omega) _ HWD.out).mono ?_
  rintro e w1 ⟨rfl, hb⟩
  (first | (have HBn := Lib.hid (ext_call HB.out hb)) | (have HBn := Lib.hid (ext_new HB.out hb))); clear HB hb; have HB := HBn; clear HBn
  go_wp2_with fail
  refine (clean_is a _ (by omega) true (word_clean HWD.out)).mono ?_
  rintro e w1 ⟨rfl, hb⟩
  (first | (have HBn := Lib.hid (ext_call HB.out hb)) | (have HBn := Lib.hid (ext_new HB.out hb))); clear HB hb; have HB := HBn; clear HBn
  go_wp2_with fail
  refine (alive_any _ (HM.out.later HB.out)).mono ?_
  rintro e w1 ⟨rfl, hb⟩
  (first | (have HBn := Lib.hid (ext_call HB.out hb)) | (have HBn := Lib.hid (ext_new HB.out hb))); clear HB hb; have HB := HBn; clear HBn
  go_wp2
  go_ret
  exact ⟨rfl, HB.out⟩

set_option maxRecDepth 100000 in
set_option maxHeartbeats 4000000 in
theorem ord_11ft (a b c : ByteArray) (w : World) (hm : MX w) (x y z : Int) (hx : cmpL a.data.toList b.data.toList = x) (hy : cmpL b.data.toList c.data.toList = y) (hz : cmpL a.data.toList c.data.toList = z) (ha : a.size ≤ 100) (hb0 : b.size ≤ 100) (hc : c.size ≤ 100) (he : a = b) (h0 : x ≤ 0) (h1 : 0 < y) (hnm : namL a.data.toList = false) (hwd : wrdL a.data.toList = true) :
    Calls Tryd.prog 8 #[.string a, .string b, .string c] w fun e w' => e = .returned (.bool true) ∧ Below w.heap.size w w' := by
  have HM := Lib.hid hm
  have HB := Lib.hid (Below.refl w.heap.size w)
  clear hm
  have HX := Lib.hid hx
  have HY := Lib.hid hy
  have HZ := Lib.hid hz
  have hr := cmpL_range a.data.toList b.data.toList
  rw [hx] at hr
  obtain ⟨r1, r2⟩ := hr
  have HN := Lib.hid (show cmpL b.data.toList a.data.toList = -x by rw [cmpL_neg, hx])
  have hwx : IntKind.i64.wrap (-x) = -x := IntWalk.i64_in _ (by omega)
  subst he
  have hx0 : x = 0 := by rw [← hx]; exact (cmpL_zero _ _).2 rfl
  subst hx0
  have t2 : decide (y ≤ 0) = false := by simp; omega
  clear hx hy hz
  have HNM := Lib.hid hnm
  have HWD := Lib.hid hwd
  clear hnm hwd
  have g1 : ¬ (100 : Int) < (a.size : Int) := by omega
  have g3 : ¬ (100 : Int) < (c.size : Int) := by omega
  go_enter Tryd.func8, Tryd.ntmps8
  go_wp2_with fail
  refine (cmp_is a a _ (by omega) (by omega) _ HX.out).mono ?_
  rintro e w1 ⟨rfl, hb⟩
  (first | (have HBn := Lib.hid (ext_call HB.out hb)) | (have HBn := Lib.hid (ext_new HB.out hb))); clear HB hb; have HB := HBn; clear HBn
  go_wp2_with fail
  refine (cmp_is a c _ (by omega) (by omega) _ HY.out).mono ?_
  rintro e w1 ⟨rfl, hb⟩
  (first | (have HBn := Lib.hid (ext_call HB.out hb)) | (have HBn := Lib.hid (ext_new HB.out hb))); clear HB hb; have HB := HBn; clear HBn
  go_wp2_with fail
  refine (cmp_is a c _ (by omega) (by omega) _ HZ.out).mono ?_
  rintro e w1 ⟨rfl, hb⟩
  (first | (have HBn := Lib.hid (ext_call HB.out hb)) | (have HBn := Lib.hid (ext_new HB.out hb))); clear HB hb; have HB := HBn; clear HBn
  go_wp2_with fail
  refine (cmp_is a a _ (by omega) (by omega) _ HN.out).mono ?_
  rintro e w1 ⟨rfl, hb⟩
  (first | (have HBn := Lib.hid (ext_call HB.out hb)) | (have HBn := Lib.hid (ext_new HB.out hb))); clear HB hb; have HB := HBn; clear HBn
  go_wp2_with fail
  refine (name_is a _ (by omega) _ HNM.out).mono ?_
  rintro e w1 ⟨rfl, hb⟩
  (first | (have HBn := Lib.hid (ext_call HB.out hb)) | (have HBn := Lib.hid (ext_new HB.out hb))); clear HB hb; have HB := HBn; clear HBn
  go_wp2_with fail
  refine (word_is a _ (by omega) _ HWD.out).mono ?_
  rintro e w1 ⟨rfl, hb⟩
  (first | (have HBn := Lib.hid (ext_call HB.out hb)) | (have HBn := Lib.hid (ext_new HB.out hb))); clear HB hb; have HB := HBn; clear HBn
  go_wp2_with fail
  refine (clean_is a _ (by omega) true (word_clean HWD.out)).mono ?_
  rintro e w1 ⟨rfl, hb⟩
  (first | (have HBn := Lib.hid (ext_call HB.out hb)) | (have HBn := Lib.hid (ext_new HB.out hb))); clear HB hb; have HB := HBn; clear HBn
  go_wp2_with fail
  refine (alive_any _ (HM.out.later HB.out)).mono ?_
  rintro e w1 ⟨rfl, hb⟩
  (first | (have HBn := Lib.hid (ext_call HB.out hb)) | (have HBn := Lib.hid (ext_new HB.out hb))); clear HB hb; have HB := HBn; clear HBn
  go_wp2
  go_ret
  exact ⟨rfl, HB.out⟩

set_option maxRecDepth 100000 in
set_option maxHeartbeats 4000000 in
theorem ord_11ff (a b c : ByteArray) (w : World) (hm : MX w) (x y z : Int) (hx : cmpL a.data.toList b.data.toList = x) (hy : cmpL b.data.toList c.data.toList = y) (hz : cmpL a.data.toList c.data.toList = z) (ha : a.size ≤ 100) (hb0 : b.size ≤ 100) (hc : c.size ≤ 100) (he : a = b) (h0 : x ≤ 0) (h1 : 0 < y) (hnm : namL a.data.toList = false) (hwd : wrdL a.data.toList = false) :
    Calls Tryd.prog 8 #[.string a, .string b, .string c] w fun e w' => e = .returned (.bool true) ∧ Below w.heap.size w w' := by
  have HM := Lib.hid hm
  have HB := Lib.hid (Below.refl w.heap.size w)
  clear hm
  have HX := Lib.hid hx
  have HY := Lib.hid hy
  have HZ := Lib.hid hz
  have hr := cmpL_range a.data.toList b.data.toList
  rw [hx] at hr
  obtain ⟨r1, r2⟩ := hr
  have HN := Lib.hid (show cmpL b.data.toList a.data.toList = -x by rw [cmpL_neg, hx])
  have hwx : IntKind.i64.wrap (-x) = -x := IntWalk.i64_in _ (by omega)
  subst he
  have hx0 : x = 0 := by rw [← hx]; exact (cmpL_zero _ _).2 rfl
  subst hx0
  have t2 : decide (y ≤ 0) = false := by simp; omega
  clear hx hy hz
  have HNM := Lib.hid hnm
  have HWD := Lib.hid hwd
  clear hnm hwd
  have g1 : ¬ (100 : Int) < (a.size : Int) := by omega
  have g3 : ¬ (100 : Int) < (c.size : Int) := by omega
  go_enter Tryd.func8, Tryd.ntmps8
  go_wp2_with fail
  refine (cmp_is a a _ (by omega) (by omega) _ HX.out).mono ?_
  rintro e w1 ⟨rfl, hb⟩
  (first | (have HBn := Lib.hid (ext_call HB.out hb)) | (have HBn := Lib.hid (ext_new HB.out hb))); clear HB hb; have HB := HBn; clear HBn
  go_wp2_with fail
  refine (cmp_is a c _ (by omega) (by omega) _ HY.out).mono ?_
  rintro e w1 ⟨rfl, hb⟩
  (first | (have HBn := Lib.hid (ext_call HB.out hb)) | (have HBn := Lib.hid (ext_new HB.out hb))); clear HB hb; have HB := HBn; clear HBn
  go_wp2_with fail
  refine (cmp_is a c _ (by omega) (by omega) _ HZ.out).mono ?_
  rintro e w1 ⟨rfl, hb⟩
  (first | (have HBn := Lib.hid (ext_call HB.out hb)) | (have HBn := Lib.hid (ext_new HB.out hb))); clear HB hb; have HB := HBn; clear HBn
  go_wp2_with fail
  refine (cmp_is a a _ (by omega) (by omega) _ HN.out).mono ?_
  rintro e w1 ⟨rfl, hb⟩
  (first | (have HBn := Lib.hid (ext_call HB.out hb)) | (have HBn := Lib.hid (ext_new HB.out hb))); clear HB hb; have HB := HBn; clear HBn
  go_wp2_with fail
  refine (name_is a _ (by omega) _ HNM.out).mono ?_
  rintro e w1 ⟨rfl, hb⟩
  (first | (have HBn := Lib.hid (ext_call HB.out hb)) | (have HBn := Lib.hid (ext_new HB.out hb))); clear HB hb; have HB := HBn; clear HBn
  go_wp2_with fail
  refine (word_is a _ (by omega) _ HWD.out).mono ?_
  rintro e w1 ⟨rfl, hb⟩
  (first | (have HBn := Lib.hid (ext_call HB.out hb)) | (have HBn := Lib.hid (ext_new HB.out hb))); clear HB hb; have HB := HBn; clear HBn
  go_wp2_with fail
  refine (alive_any _ (HM.out.later HB.out)).mono ?_
  rintro e w1 ⟨rfl, hb⟩
  (first | (have HBn := Lib.hid (ext_call HB.out hb)) | (have HBn := Lib.hid (ext_new HB.out hb))); clear HB hb; have HB := HBn; clear HBn
  go_wp2
  go_ret
  exact ⟨rfl, HB.out⟩

set_option maxRecDepth 100000 in
set_option maxHeartbeats 4000000 in
theorem ord_12tt (a b c : ByteArray) (w : World) (hm : MX w) (x y z : Int) (hx : cmpL a.data.toList b.data.toList = x) (hy : cmpL b.data.toList c.data.toList = y) (hz : cmpL a.data.toList c.data.toList = z) (ha : a.size ≤ 100) (hb0 : b.size ≤ 100) (hc : c.size ≤ 100) (he : a = b) (h0 : x ≤ 0) (h1 : y ≤ 0) (hnm : namL a.data.toList = true) (hwd : wrdL a.data.toList = true) :
    Calls Tryd.prog 8 #[.string a, .string b, .string c] w fun e w' => e = .returned (.bool true) ∧ Below w.heap.size w w' := by
  have HM := Lib.hid hm
  have HB := Lib.hid (Below.refl w.heap.size w)
  clear hm
  have HX := Lib.hid hx
  have HY := Lib.hid hy
  have HZ := Lib.hid hz
  have hr := cmpL_range a.data.toList b.data.toList
  rw [hx] at hr
  obtain ⟨r1, r2⟩ := hr
  have HN := Lib.hid (show cmpL b.data.toList a.data.toList = -x by rw [cmpL_neg, hx])
  have hwx : IntKind.i64.wrap (-x) = -x := IntWalk.i64_in _ (by omega)
  subst he
  have hx0 : x = 0 := by rw [← hx]; exact (cmpL_zero _ _).2 rfl
  subst hx0
  have t2 : decide (y ≤ 0) = true := by simp; omega
  have hz0 : z ≤ 0 := by rw [← hz]; exact cmpL_trans _ _ _ (by rw [HX.out]; exact h0) (by rw [hy]; exact h1)
  have t3 : decide (0 < z) = false := by simp; omega
  clear hx hy hz
  have HNM := Lib.hid hnm
  have HWD := Lib.hid hwd
  clear hnm hwd
  have g1 : ¬ (100 : Int) < (a.size : Int) := by omega
  have g3 : ¬ (100 : Int) < (c.size : Int) := by omega
  go_enter Tryd.func8, Tryd.ntmps8
  go_wp2_with fail
  refine (cmp_is a a _ (by omega) (by omega) _ HX.out).mono ?_
  rintro e w1 ⟨rfl, hb⟩
  (first | (have HBn := Lib.hid (ext_call HB.out hb)) | (have HBn := Lib.hid (ext_new HB.out hb))); clear HB hb; have HB := HBn; clear HBn
  go_wp2_with fail
  refine (cmp_is a c _ (by omega) (by omega) _ HY.out).mono ?_
  rintro e w1 ⟨rfl, hb⟩
  (first | (have HBn := Lib.hid (ext_call HB.out hb)) | (have HBn := Lib.hid (ext_new HB.out hb))); clear HB hb; have HB := HBn; clear HBn
  go_wp2_with fail
  refine (cmp_is a c _ (by omega) (by omega) _ HZ.out).mono ?_
  rintro e w1 ⟨rfl, hb⟩
  (first | (have HBn := Lib.hid (ext_call HB.out hb)) | (have HBn := Lib.hid (ext_new HB.out hb))); clear HB hb; have HB := HBn; clear HBn
  go_wp2_with fail
  refine (cmp_is a a _ (by omega) (by omega) _ HN.out).mono ?_
  rintro e w1 ⟨rfl, hb⟩
  (first | (have HBn := Lib.hid (ext_call HB.out hb)) | (have HBn := Lib.hid (ext_new HB.out hb))); clear HB hb; have HB := HBn; clear HBn
  go_wp2_with fail
  refine (name_is a _ (by omega) _ HNM.out).mono ?_
  rintro e w1 ⟨rfl, hb⟩
  (first | (have HBn := Lib.hid (ext_call HB.out hb)) | (have HBn := Lib.hid (ext_new HB.out hb))); clear HB hb; have HB := HBn; clear HBn
  go_wp2_with fail
  refine (word_is a _ (by omega) _ HWD.out).mono ?_
  rintro e w1 ⟨rfl, hb⟩
  (first | (have HBn := Lib.hid (ext_call HB.out hb)) | (have HBn := Lib.hid (ext_new HB.out hb))); clear HB hb; have HB := HBn; clear HBn
  go_wp2_with fail
  refine (word_is a _ (by omega) _ HWD.out).mono ?_
  rintro e w1 ⟨rfl, hb⟩
  (first | (have HBn := Lib.hid (ext_call HB.out hb)) | (have HBn := Lib.hid (ext_new HB.out hb))); clear HB hb; have HB := HBn; clear HBn
  go_wp2_with fail
  refine (clean_is a _ (by omega) true (word_clean HWD.out)).mono ?_
  rintro e w1 ⟨rfl, hb⟩
  (first | (have HBn := Lib.hid (ext_call HB.out hb)) | (have HBn := Lib.hid (ext_new HB.out hb))); clear HB hb; have HB := HBn; clear HBn
  go_wp2_with fail
  refine (alive_any _ (HM.out.later HB.out)).mono ?_
  rintro e w1 ⟨rfl, hb⟩
  (first | (have HBn := Lib.hid (ext_call HB.out hb)) | (have HBn := Lib.hid (ext_new HB.out hb))); clear HB hb; have HB := HBn; clear HBn
  go_wp2
  go_ret
  exact ⟨rfl, HB.out⟩

set_option maxRecDepth 100000 in
set_option maxHeartbeats 4000000 in
theorem ord_12ft (a b c : ByteArray) (w : World) (hm : MX w) (x y z : Int) (hx : cmpL a.data.toList b.data.toList = x) (hy : cmpL b.data.toList c.data.toList = y) (hz : cmpL a.data.toList c.data.toList = z) (ha : a.size ≤ 100) (hb0 : b.size ≤ 100) (hc : c.size ≤ 100) (he : a = b) (h0 : x ≤ 0) (h1 : y ≤ 0) (hnm : namL a.data.toList = false) (hwd : wrdL a.data.toList = true) :
    Calls Tryd.prog 8 #[.string a, .string b, .string c] w fun e w' => e = .returned (.bool true) ∧ Below w.heap.size w w' := by
  have HM := Lib.hid hm
  have HB := Lib.hid (Below.refl w.heap.size w)
  clear hm
  have HX := Lib.hid hx
  have HY := Lib.hid hy
  have HZ := Lib.hid hz
  have hr := cmpL_range a.data.toList b.data.toList
  rw [hx] at hr
  obtain ⟨r1, r2⟩ := hr
  have HN := Lib.hid (show cmpL b.data.toList a.data.toList = -x by rw [cmpL_neg, hx])
  have hwx : IntKind.i64.wrap (-x) = -x := IntWalk.i64_in _ (by omega)
  subst he
  have hx0 : x = 0 := by rw [← hx]; exact (cmpL_zero _ _).2 rfl
  subst hx0
  have t2 : decide (y ≤ 0) = true := by simp; omega
  have hz0 : z ≤ 0 := by rw [← hz]; exact cmpL_trans _ _ _ (by rw [HX.out]; exact h0) (by rw [hy]; exact h1)
  have t3 : decide (0 < z) = false := by simp; omega
  clear hx hy hz
  have HNM := Lib.hid hnm
  have HWD := Lib.hid hwd
  clear hnm hwd
  have g1 : ¬ (100 : Int) < (a.size : Int) := by omega
  have g3 : ¬ (100 : Int) < (c.size : Int) := by omega
  go_enter Tryd.func8, Tryd.ntmps8
  go_wp2_with fail
  refine (cmp_is a a _ (by omega) (by omega) _ HX.out).mono ?_
  rintro e w1 ⟨rfl, hb⟩
  (first | (have HBn := Lib.hid (ext_call HB.out hb)) | (have HBn := Lib.hid (ext_new HB.out hb))); clear HB hb; have HB := HBn; clear HBn
  go_wp2_with fail
  refine (cmp_is a c _ (by omega) (by omega) _ HY.out).mono ?_
  rintro e w1 ⟨rfl, hb⟩
  (first | (have HBn := Lib.hid (ext_call HB.out hb)) | (have HBn := Lib.hid (ext_new HB.out hb))); clear HB hb; have HB := HBn; clear HBn
  go_wp2_with fail
  refine (cmp_is a c _ (by omega) (by omega) _ HZ.out).mono ?_
  rintro e w1 ⟨rfl, hb⟩
  (first | (have HBn := Lib.hid (ext_call HB.out hb)) | (have HBn := Lib.hid (ext_new HB.out hb))); clear HB hb; have HB := HBn; clear HBn
  go_wp2_with fail
  refine (cmp_is a a _ (by omega) (by omega) _ HN.out).mono ?_
  rintro e w1 ⟨rfl, hb⟩
  (first | (have HBn := Lib.hid (ext_call HB.out hb)) | (have HBn := Lib.hid (ext_new HB.out hb))); clear HB hb; have HB := HBn; clear HBn
  go_wp2_with fail
  refine (name_is a _ (by omega) _ HNM.out).mono ?_
  rintro e w1 ⟨rfl, hb⟩
  (first | (have HBn := Lib.hid (ext_call HB.out hb)) | (have HBn := Lib.hid (ext_new HB.out hb))); clear HB hb; have HB := HBn; clear HBn
  go_wp2_with fail
  refine (word_is a _ (by omega) _ HWD.out).mono ?_
  rintro e w1 ⟨rfl, hb⟩
  (first | (have HBn := Lib.hid (ext_call HB.out hb)) | (have HBn := Lib.hid (ext_new HB.out hb))); clear HB hb; have HB := HBn; clear HBn
  go_wp2_with fail
  refine (clean_is a _ (by omega) true (word_clean HWD.out)).mono ?_
  rintro e w1 ⟨rfl, hb⟩
  (first | (have HBn := Lib.hid (ext_call HB.out hb)) | (have HBn := Lib.hid (ext_new HB.out hb))); clear HB hb; have HB := HBn; clear HBn
  go_wp2_with fail
  refine (alive_any _ (HM.out.later HB.out)).mono ?_
  rintro e w1 ⟨rfl, hb⟩
  (first | (have HBn := Lib.hid (ext_call HB.out hb)) | (have HBn := Lib.hid (ext_new HB.out hb))); clear HB hb; have HB := HBn; clear HBn
  go_wp2
  go_ret
  exact ⟨rfl, HB.out⟩

set_option maxRecDepth 100000 in
set_option maxHeartbeats 4000000 in
theorem ord_12ff (a b c : ByteArray) (w : World) (hm : MX w) (x y z : Int) (hx : cmpL a.data.toList b.data.toList = x) (hy : cmpL b.data.toList c.data.toList = y) (hz : cmpL a.data.toList c.data.toList = z) (ha : a.size ≤ 100) (hb0 : b.size ≤ 100) (hc : c.size ≤ 100) (he : a = b) (h0 : x ≤ 0) (h1 : y ≤ 0) (hnm : namL a.data.toList = false) (hwd : wrdL a.data.toList = false) :
    Calls Tryd.prog 8 #[.string a, .string b, .string c] w fun e w' => e = .returned (.bool true) ∧ Below w.heap.size w w' := by
  have HM := Lib.hid hm
  have HB := Lib.hid (Below.refl w.heap.size w)
  clear hm
  have HX := Lib.hid hx
  have HY := Lib.hid hy
  have HZ := Lib.hid hz
  have hr := cmpL_range a.data.toList b.data.toList
  rw [hx] at hr
  obtain ⟨r1, r2⟩ := hr
  have HN := Lib.hid (show cmpL b.data.toList a.data.toList = -x by rw [cmpL_neg, hx])
  have hwx : IntKind.i64.wrap (-x) = -x := IntWalk.i64_in _ (by omega)
  subst he
  have hx0 : x = 0 := by rw [← hx]; exact (cmpL_zero _ _).2 rfl
  subst hx0
  have t2 : decide (y ≤ 0) = true := by simp; omega
  have hz0 : z ≤ 0 := by rw [← hz]; exact cmpL_trans _ _ _ (by rw [HX.out]; exact h0) (by rw [hy]; exact h1)
  have t3 : decide (0 < z) = false := by simp; omega
  clear hx hy hz
  have HNM := Lib.hid hnm
  have HWD := Lib.hid hwd
  clear hnm hwd
  have g1 : ¬ (100 : Int) < (a.size : Int) := by omega
  have g3 : ¬ (100 : Int) < (c.size : Int) := by omega
  go_enter Tryd.func8, Tryd.ntmps8
  go_wp2_with fail
  refine (cmp_is a a _ (by omega) (by omega) _ HX.out).mono ?_
  rintro e w1 ⟨rfl, hb⟩
  (first | (have HBn := Lib.hid (ext_call HB.out hb)) | (have HBn := Lib.hid (ext_new HB.out hb))); clear HB hb; have HB := HBn; clear HBn
  go_wp2_with fail
  refine (cmp_is a c _ (by omega) (by omega) _ HY.out).mono ?_
  rintro e w1 ⟨rfl, hb⟩
  (first | (have HBn := Lib.hid (ext_call HB.out hb)) | (have HBn := Lib.hid (ext_new HB.out hb))); clear HB hb; have HB := HBn; clear HBn
  go_wp2_with fail
  refine (cmp_is a c _ (by omega) (by omega) _ HZ.out).mono ?_
  rintro e w1 ⟨rfl, hb⟩
  (first | (have HBn := Lib.hid (ext_call HB.out hb)) | (have HBn := Lib.hid (ext_new HB.out hb))); clear HB hb; have HB := HBn; clear HBn
  go_wp2_with fail
  refine (cmp_is a a _ (by omega) (by omega) _ HN.out).mono ?_
  rintro e w1 ⟨rfl, hb⟩
  (first | (have HBn := Lib.hid (ext_call HB.out hb)) | (have HBn := Lib.hid (ext_new HB.out hb))); clear HB hb; have HB := HBn; clear HBn
  go_wp2_with fail
  refine (name_is a _ (by omega) _ HNM.out).mono ?_
  rintro e w1 ⟨rfl, hb⟩
  (first | (have HBn := Lib.hid (ext_call HB.out hb)) | (have HBn := Lib.hid (ext_new HB.out hb))); clear HB hb; have HB := HBn; clear HBn
  go_wp2_with fail
  refine (word_is a _ (by omega) _ HWD.out).mono ?_
  rintro e w1 ⟨rfl, hb⟩
  (first | (have HBn := Lib.hid (ext_call HB.out hb)) | (have HBn := Lib.hid (ext_new HB.out hb))); clear HB hb; have HB := HBn; clear HBn
  go_wp2_with fail
  refine (alive_any _ (HM.out.later HB.out)).mono ?_
  rintro e w1 ⟨rfl, hb⟩
  (first | (have HBn := Lib.hid (ext_call HB.out hb)) | (have HBn := Lib.hid (ext_new HB.out hb))); clear HB hb; have HB := HBn; clear HBn
  go_wp2
  go_ret
  exact ⟨rfl, HB.out⟩

theorem idemLaw_any (s : ByteArray) (w : World) (hm : MX w) : Calls Tryd.prog 7 #[.string s] w fun e w' => e = .returned (.bool true) ∧ Below w.heap.size w w' := by
  rcases Nat.lt_or_ge 300 s.size with h | h
  · exact idem_long s w hm h
  · cases hc : clnL s.data.toList with
    | true => exact idem_true s w hm h hc
    | false => exact idem_false s w hm h hc
theorem ordersLaw_any (a b c : ByteArray) (w : World) (hm : MX w) : Calls Tryd.prog 8 #[.string a, .string b, .string c] w fun e w' => e = .returned (.bool true) ∧ Below w.heap.size w w' := by
  rcases Nat.lt_or_ge 100 a.size with ha | ha
  · exact ord_la a b c w hm ha
  rcases Nat.lt_or_ge 100 b.size with hb | hb
  · exact ord_lb a b c w hm ha hb
  rcases Nat.lt_or_ge 100 c.size with hc | hc
  · exact ord_lc a b c w hm ha hb hc
  by_cases he : a = b
  · have hx0 : cmpL a.data.toList b.data.toList ≤ 0 := by rw [he, (cmpL_zero _ _).2 rfl]; omega
    by_cases hy : cmpL b.data.toList c.data.toList ≤ 0
    · cases hwd : wrdL a.data.toList with
      | true =>
        cases hnm : namL a.data.toList with
        | true => exact ord_12tt a b c w hm _ _ _ rfl rfl rfl ha hb hc he hx0 hy hnm hwd
        | false => exact ord_12ft a b c w hm _ _ _ rfl rfl rfl ha hb hc he hx0 hy hnm hwd
      | false =>
        have hnm : namL a.data.toList = false := by
          cases h : namL a.data.toList with
          | false => rfl
          | true => rw [name_word h] at hwd; cases hwd
        exact ord_12ff a b c w hm _ _ _ rfl rfl rfl ha hb hc he hx0 hy hnm hwd
    · have hy' : 0 < cmpL b.data.toList c.data.toList := by omega
      cases hwd : wrdL a.data.toList with
      | true =>
        cases hnm : namL a.data.toList with
        | true => exact ord_11tt a b c w hm _ _ _ rfl rfl rfl ha hb hc he hx0 hy' hnm hwd
        | false => exact ord_11ft a b c w hm _ _ _ rfl rfl rfl ha hb hc he hx0 hy' hnm hwd
      | false =>
        have hnm : namL a.data.toList = false := by
          cases h : namL a.data.toList with
          | false => rfl
          | true => rw [name_word h] at hwd; cases hwd
        exact ord_11ff a b c w hm _ _ _ rfl rfl rfl ha hb hc he hx0 hy' hnm hwd
  · by_cases hx : cmpL a.data.toList b.data.toList ≤ 0
    · by_cases hy : cmpL b.data.toList c.data.toList ≤ 0
      · cases hwd : wrdL a.data.toList with
        | true =>
          cases hnm : namL a.data.toList with
          | true => exact ord_02tt a b c w hm _ _ _ rfl rfl rfl ha hb hc he hx hy hnm hwd
          | false => exact ord_02ft a b c w hm _ _ _ rfl rfl rfl ha hb hc he hx hy hnm hwd
        | false =>
          have hnm : namL a.data.toList = false := by
            cases h : namL a.data.toList with
            | false => rfl
            | true => rw [name_word h] at hwd; cases hwd
          exact ord_02ff a b c w hm _ _ _ rfl rfl rfl ha hb hc he hx hy hnm hwd
      · have hy' : 0 < cmpL b.data.toList c.data.toList := by omega
        cases hwd : wrdL a.data.toList with
        | true =>
          cases hnm : namL a.data.toList with
          | true => exact ord_01tt a b c w hm _ _ _ rfl rfl rfl ha hb hc he hx hy' hnm hwd
          | false => exact ord_01ft a b c w hm _ _ _ rfl rfl rfl ha hb hc he hx hy' hnm hwd
        | false =>
          have hnm : namL a.data.toList = false := by
            cases h : namL a.data.toList with
            | false => rfl
            | true => rw [name_word h] at hwd; cases hwd
          exact ord_01ff a b c w hm _ _ _ rfl rfl rfl ha hb hc he hx hy' hnm hwd
    · have hx' : 0 < cmpL a.data.toList b.data.toList := by omega
      cases hwd : wrdL a.data.toList with
      | true =>
        cases hnm : namL a.data.toList with
        | true => exact ord_00tt a b c w hm _ _ _ rfl rfl rfl ha hb hc he hx' hnm hwd
        | false => exact ord_00ft a b c w hm _ _ _ rfl rfl rfl ha hb hc he hx' hnm hwd
      | false =>
        have hnm : namL a.data.toList = false := by
          cases h : namL a.data.toList with
          | false => rfl
          | true => rw [name_word h] at hwd; cases hwd
        exact ord_00ff a b c w hm _ _ _ rfl rfl rfl ha hb hc he hx' hnm hwd
end Go.Proofs.YtphlihmngbmiiaaDoor.Fo
