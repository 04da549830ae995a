/-
  The walks of the laws NameFamily, NameUnder, NameRebases, NameOrders, NameGroups.
-/
import Derived.Test.YtjjcbbckihjapaaDoorNaLa
namespace Go.Proofs.YtjjcbbckihjapaaDoor.Na
open Go.RowKit Go.Proofs.YtjjcbbckihjapaaDoor.Fo

theorem eq_of {a b : ByteArray} (h : a = b) : (a.toList == b.toList) = true := by rw [h]; simp

set_option maxRecDepth 100000 in
set_option maxHeartbeats 8000000 in
theorem family_l1 (s x y : ByteArray) (w : World) (hs : 300 < s.size) :
    Calls Tryd.prog 6 #[.string s, .agg #[.string x, .string y]] w fun e w' => e = .returned (.bool true) ∧ Below w.heap.size w w' := by
  have HB := Lib.hid (show Below w.heap.size w (w.alloc (.cells #[.string x, .string y] 36)) from (Below.refl _ w).alloc (Nat.le_refl _) _)
  have HP := Lib.hid (Px.new w x y 36)
  go_enter Tryd.func6, Tryd.ntmps6
  go_wp2_with fail
  refine (long_yes s _ hs).mono ?_
  rintro e w1 ⟨rfl, hb⟩
  first | clear pz p0 p1 pf0 pf1 | skip
  have HPn := Lib.hid (HP.out.later hb)
  clear HP
  have HP := HPn
  clear HPn
  (first | (have HBn := Lib.hid (ext_call HB.out hb)) | (have HBn := Lib.hid (ext_new HB.out hb))); clear HB hb; have HB := HBn; clear HBn
  obtain ⟨pz, p0, p1, pf0, pf1⟩ := HP.out
  go_wp2_with fail
  refine (live_any _).mono ?_
  rintro e w1 ⟨rfl, hb⟩
  first | clear pz p0 p1 pf0 pf1 | skip
  have HPn := Lib.hid (HP.out.later hb)
  clear HP
  have HP := HPn
  clear HPn
  (first | (have HBn := Lib.hid (ext_call HB.out hb)) | (have HBn := Lib.hid (ext_new HB.out hb))); clear HB hb; have HB := HBn; clear HBn
  obtain ⟨pz, p0, p1, pf0, pf1⟩ := HP.out
  go_wp2
  go_ret
  exact ⟨rfl, HB.out⟩

set_option maxRecDepth 100000 in
set_option maxHeartbeats 8000000 in
theorem family_l2 (s x y : ByteArray) (w : World) (hs : s.size ≤ 300) (hx : 300 < x.size) :
    Calls Tryd.prog 6 #[.string s, .agg #[.string x, .string y]] w fun e w' => e = .returned (.bool true) ∧ Below w.heap.size w w' := by
  have HB := Lib.hid (show Below w.heap.size w (w.alloc (.cells #[.string x, .string y] 36)) from (Below.refl _ w).alloc (Nat.le_refl _) _)
  have HP := Lib.hid (Px.new w x y 36)
  go_enter Tryd.func6, Tryd.ntmps6
  go_wp2_with fail
  refine (long_no s _ hs).mono ?_
  rintro e w1 ⟨rfl, hb⟩
  first | clear pz p0 p1 pf0 pf1 | skip
  have HPn := Lib.hid (HP.out.later hb)
  clear HP
  have HP := HPn
  clear HPn
  (first | (have HBn := Lib.hid (ext_call HB.out hb)) | (have HBn := Lib.hid (ext_new HB.out hb))); clear HB hb; have HB := HBn; clear HBn
  obtain ⟨pz, p0, p1, pf0, pf1⟩ := HP.out
  go_wp2_with fail
  refine (long_yes x _ hx).mono ?_
  rintro e w1 ⟨rfl, hb⟩
  first | clear pz p0 p1 pf0 pf1 | skip
  have HPn := Lib.hid (HP.out.later hb)
  clear HP
  have HP := HPn
  clear HPn
  (first | (have HBn := Lib.hid (ext_call HB.out hb)) | (have HBn := Lib.hid (ext_new HB.out hb))); clear HB hb; have HB := HBn; clear HBn
  obtain ⟨pz, p0, p1, pf0, pf1⟩ := HP.out
  go_wp2_with fail
  refine (live_any _).mono ?_
  rintro e w1 ⟨rfl, hb⟩
  first | clear pz p0 p1 pf0 pf1 | skip
  have HPn := Lib.hid (HP.out.later hb)
  clear HP
  have HP := HPn
  clear HPn
  (first | (have HBn := Lib.hid (ext_call HB.out hb)) | (have HBn := Lib.hid (ext_new HB.out hb))); clear HB hb; have HB := HBn; clear HBn
  obtain ⟨pz, p0, p1, pf0, pf1⟩ := HP.out
  go_wp2
  go_ret
  exact ⟨rfl, HB.out⟩

set_option maxRecDepth 100000 in
set_option maxHeartbeats 8000000 in
theorem family_l3 (s x y : ByteArray) (w : World) (hs : s.size ≤ 300) (hx : x.size ≤ 300) (hy : 300 < y.size) :
    Calls Tryd.prog 6 #[.string s, .agg #[.string x, .string y]] w fun e w' => e = .returned (.bool true) ∧ Below w.heap.size w w' := by
  have HB := Lib.hid (show Below w.heap.size w (w.alloc (.cells #[.string x, .string y] 36)) from (Below.refl _ w).alloc (Nat.le_refl _) _)
  have HP := Lib.hid (Px.new w x y 36)
  go_enter Tryd.func6, Tryd.ntmps6
  go_wp2_with fail
  refine (long_no s _ hs).mono ?_
  rintro e w1 ⟨rfl, hb⟩
  first | clear pz p0 p1 pf0 pf1 | skip
  have HPn := Lib.hid (HP.out.later hb)
  clear HP
  have HP := HPn
  clear HPn
  (first | (have HBn := Lib.hid (ext_call HB.out hb)) | (have HBn := Lib.hid (ext_new HB.out hb))); clear HB hb; have HB := HBn; clear HBn
  obtain ⟨pz, p0, p1, pf0, pf1⟩ := HP.out
  go_wp2_with fail
  refine (long_no x _ hx).mono ?_
  rintro e w1 ⟨rfl, hb⟩
  first | clear pz p0 p1 pf0 pf1 | skip
  have HPn := Lib.hid (HP.out.later hb)
  clear HP
  have HP := HPn
  clear HPn
  (first | (have HBn := Lib.hid (ext_call HB.out hb)) | (have HBn := Lib.hid (ext_new HB.out hb))); clear HB hb; have HB := HBn; clear HBn
  obtain ⟨pz, p0, p1, pf0, pf1⟩ := HP.out
  go_wp2_with fail
  refine (long_yes y _ hy).mono ?_
  rintro e w1 ⟨rfl, hb⟩
  first | clear pz p0 p1 pf0 pf1 | skip
  have HPn := Lib.hid (HP.out.later hb)
  clear HP
  have HP := HPn
  clear HPn
  (first | (have HBn := Lib.hid (ext_call HB.out hb)) | (have HBn := Lib.hid (ext_new HB.out hb))); clear HB hb; have HB := HBn; clear HBn
  obtain ⟨pz, p0, p1, pf0, pf1⟩ := HP.out
  go_wp2_with fail
  refine (live_any _).mono ?_
  rintro e w1 ⟨rfl, hb⟩
  first | clear pz p0 p1 pf0 pf1 | skip
  have HPn := Lib.hid (HP.out.later hb)
  clear HP
  have HP := HPn
  clear HPn
  (first | (have HBn := Lib.hid (ext_call HB.out hb)) | (have HBn := Lib.hid (ext_new HB.out hb))); clear HB hb; have HB := HBn; clear HBn
  obtain ⟨pz, p0, p1, pf0, pf1⟩ := HP.out
  go_wp2
  go_ret
  exact ⟨rfl, HB.out⟩

set_option maxRecDepth 100000 in
set_option maxHeartbeats 8000000 in
theorem family_true_1 (s x y : ByteArray) (w : World) (hs : s.size ≤ 300) (hx : x.size ≤ 300) (hy : y.size ≤ 300) (hok : (par s.data.toList).2 = true) (hez : (chi s.data.toList (x.data.toList, y.data.toList)).2 = 0) :
    Calls Tryd.prog 6 #[.string s, .agg #[.string x, .string y]] w fun e w' => e = .returned (.bool true) ∧ Below w.heap.size w w' := by
  have HB := Lib.hid (show Below w.heap.size w (w.alloc (.cells #[.string x, .string y] 36)) from (Below.refl _ w).alloc (Nat.le_refl _) _)
  have HP := Lib.hid (Px.new w x y 36)
  have HOK := Lib.hid hok
  have HEZ := Lib.hid hez
  have hd8 := cps_le s.data.toList
  obtain ⟨dd, hdd⟩ : ∃ d, (cps s.data.toList).length = d := ⟨_, rfl⟩
  rw [hdd] at hd8
  have HDD := Lib.hid (show ((cps s.data.toList).length : Int) = (dd : Int) by rw [hdd])
  have gd : IntKind.i64.wrap ((dd : Int) + 1) = (dd : Int) + 1 := IntWalk.i64_in _ (by omega)
  clear hok hez hdd
  go_enter Tryd.func6, Tryd.ntmps6
  go_wp2_with fail
  refine (long_no s _ hs).mono ?_
  rintro e w1 ⟨rfl, hb⟩
  first | clear pz p0 p1 pf0 pf1 | skip
  have HPn := Lib.hid (HP.out.later hb)
  clear HP
  have HP := HPn
  clear HPn
  (first | (have HBn := Lib.hid (ext_call HB.out hb)) | (have HBn := Lib.hid (ext_new HB.out hb))); clear HB hb; have HB := HBn; clear HBn
  obtain ⟨pz, p0, p1, pf0, pf1⟩ := HP.out
  go_wp2_with fail
  refine (long_no x _ hx).mono ?_
  rintro e w1 ⟨rfl, hb⟩
  first | clear pz p0 p1 pf0 pf1 | skip
  have HPn := Lib.hid (HP.out.later hb)
  clear HP
  have HP := HPn
  clear HPn
  (first | (have HBn := Lib.hid (ext_call HB.out hb)) | (have HBn := Lib.hid (ext_new HB.out hb))); clear HB hb; have HB := HBn; clear HBn
  obtain ⟨pz, p0, p1, pf0, pf1⟩ := HP.out
  go_wp2_with fail
  refine (long_no y _ hy).mono ?_
  rintro e w1 ⟨rfl, hb⟩
  first | clear pz p0 p1 pf0 pf1 | skip
  have HPn := Lib.hid (HP.out.later hb)
  clear HP
  have HP := HPn
  clear HPn
  (first | (have HBn := Lib.hid (ext_call HB.out hb)) | (have HBn := Lib.hid (ext_new HB.out hb))); clear HB hb; have HB := HBn; clear HBn
  obtain ⟨pz, p0, p1, pf0, pf1⟩ := HP.out
  go_wp2_with fail
  refine (par_is (parent_any s _ (by omega))).mono ?_
  rintro e w1 ⟨a, ab, rfl, hr, hb⟩
  have HPA := Lib.hid hr
  have HAZ := Lib.hid (show a.size ≤ 100000 from sz_of (congrArg Prod.fst hr) (par_le _))
  clear hr
  first | clear pz p0 p1 pf0 pf1 | skip
  have HPn := Lib.hid (HP.out.later hb)
  clear HP
  have HP := HPn
  clear HPn
  (first | (have HBn := Lib.hid (ext_call HB.out hb)) | (have HBn := Lib.hid (ext_new HB.out hb))); clear HB hb; have HB := HBn; clear HBn
  obtain rfl : ab = true := by have := HOK.out; rw [HPA.out] at this; exact this
  obtain ⟨pz, p0, p1, pf0, pf1⟩ := HP.out
  go_wp2_with fail
  refine (par_to a true (rparent_any s _ (by omega)) HPA.out).mono ?_
  rintro e w1 ⟨rfl, hb⟩
  first | clear pz p0 p1 pf0 pf1 | skip
  have HPn := Lib.hid (HP.out.later hb)
  clear HP
  have HP := HPn
  clear HPn
  (first | (have HBn := Lib.hid (ext_call HB.out hb)) | (have HBn := Lib.hid (ext_new HB.out hb))); clear HB hb; have HB := HBn; clear HBn
  obtain ⟨pz, p0, p1, pf0, pf1⟩ := HP.out
  go_wp2_with fail
  refine (txt_is (child_any s x y _ (by omega) (by omega) (by omega))).mono ?_
  rintro e w1 ⟨c, ce, rfl, hr, hb⟩
  have HCH := Lib.hid hr
  have HCZ := Lib.hid (show c.size ≤ 100000 from sz_of (congrArg Prod.fst hr) (chi_le _ _))
  clear hr
  first | clear pz p0 p1 pf0 pf1 | skip
  have HPn := Lib.hid (HP.out.later hb)
  clear HP
  have HP := HPn
  clear HPn
  (first | (have HBn := Lib.hid (ext_call HB.out hb)) | (have HBn := Lib.hid (ext_new HB.out hb))); clear HB hb; have HB := HBn; clear HBn
  obtain ⟨pz, p0, p1, pf0, pf1⟩ := HP.out
  go_wp2_with fail
  refine (txt_to c ce (rchild_any s x y _ (by omega) (by omega) (by omega)) HCH.out).mono ?_
  rintro e w1 ⟨rfl, hb⟩
  first | clear pz p0 p1 pf0 pf1 | skip
  have HPn := Lib.hid (HP.out.later hb)
  clear HP
  have HP := HPn
  clear HPn
  (first | (have HBn := Lib.hid (ext_call HB.out hb)) | (have HBn := Lib.hid (ext_new HB.out hb))); clear HB hb; have HB := HBn; clear HBn
  obtain ⟨pz, p0, p1, pf0, pf1⟩ := HP.out
  go_wp2_with fail
  refine (int_is (depth_any s _ (by omega)) HDD.out).mono ?_
  rintro e w1 ⟨rfl, hb⟩
  first | clear pz p0 p1 pf0 pf1 | skip
  have HPn := Lib.hid (HP.out.later hb)
  clear HP
  have HP := HPn
  clear HPn
  (first | (have HBn := Lib.hid (ext_call HB.out hb)) | (have HBn := Lib.hid (ext_new HB.out hb))); clear HB hb; have HB := HBn; clear HBn
  obtain ⟨pz, p0, p1, pf0, pf1⟩ := HP.out
  go_wp2_with fail
  refine (int_is (rdepth_any s _ (by omega)) HDD.out).mono ?_
  rintro e w1 ⟨rfl, hb⟩
  first | clear pz p0 p1 pf0 pf1 | skip
  have HPn := Lib.hid (HP.out.later hb)
  clear HP
  have HP := HPn
  clear HPn
  (first | (have HBn := Lib.hid (ext_call HB.out hb)) | (have HBn := Lib.hid (ext_new HB.out hb))); clear HB hb; have HB := HBn; clear HBn
  obtain ⟨pz, p0, p1, pf0, pf1⟩ := HP.out
  go_wp2_with fail
  refine (live_any _).mono ?_
  rintro e w1 ⟨rfl, hb⟩
  first | clear pz p0 p1 pf0 pf1 | skip
  have HPn := Lib.hid (HP.out.later hb)
  clear HP
  have HP := HPn
  clear HPn
  (first | (have HBn := Lib.hid (ext_call HB.out hb)) | (have HBn := Lib.hid (ext_new HB.out hb))); clear HB hb; have HB := HBn; clear HBn
  have hc0 : ce = 0 := by have := HEZ.out; rw [HCH.out] at this; exact this
  subst hc0
  have HCL := Lib.hid (chi_law HEZ.out)
  rw [HCH.out] at HCL
  have HDC := Lib.hid (show ((cps c.data.toList).length : Int) = (dd : Int) + 1 by have := HCL.out.2.2.2.1; rw [this]; have := HDD.out; omega)
  obtain ⟨pz, p0, p1, pf0, pf1⟩ := HP.out
  go_wp2_with fail
  refine (bool_is (under_any s a _ (by omega) HAZ.out) (show und s.data.toList a.data.toList = true by have := par_und HOK.out; rw [HPA.out] at this; exact this)).mono ?_
  rintro e w1 ⟨rfl, hb⟩
  first | clear pz p0 p1 pf0 pf1 | skip
  have HPn := Lib.hid (HP.out.later hb)
  clear HP
  have HP := HPn
  clear HPn
  (first | (have HBn := Lib.hid (ext_call HB.out hb)) | (have HBn := Lib.hid (ext_new HB.out hb))); clear HB hb; have HB := HBn; clear HBn
  obtain ⟨pz, p0, p1, pf0, pf1⟩ := HP.out
  go_wp2_with fail
  refine (par_to s true (parent_any c _ HCZ.out) HCL.out.2.1).mono ?_
  rintro e w1 ⟨rfl, hb⟩
  first | clear pz p0 p1 pf0 pf1 | skip
  have HPn := Lib.hid (HP.out.later hb)
  clear HP
  have HP := HPn
  clear HPn
  (first | (have HBn := Lib.hid (ext_call HB.out hb)) | (have HBn := Lib.hid (ext_new HB.out hb))); clear HB hb; have HB := HBn; clear HBn
  obtain ⟨pz, p0, p1, pf0, pf1⟩ := HP.out
  go_wp2_with fail
  refine (int_is (depth_any c _ HCZ.out) HDC.out).mono ?_
  rintro e w1 ⟨rfl, hb⟩
  first | clear pz p0 p1 pf0 pf1 | skip
  have HPn := Lib.hid (HP.out.later hb)
  clear HP
  have HP := HPn
  clear HPn
  (first | (have HBn := Lib.hid (ext_call HB.out hb)) | (have HBn := Lib.hid (ext_new HB.out hb))); clear HB hb; have HB := HBn; clear HBn
  obtain ⟨pz, p0, p1, pf0, pf1⟩ := HP.out
  go_wp2_with fail
  refine (int_is (depth_any s _ (by omega)) HDD.out).mono ?_
  rintro e w1 ⟨rfl, hb⟩
  first | clear pz p0 p1 pf0 pf1 | skip
  have HPn := Lib.hid (HP.out.later hb)
  clear HP
  have HP := HPn
  clear HPn
  (first | (have HBn := Lib.hid (ext_call HB.out hb)) | (have HBn := Lib.hid (ext_new HB.out hb))); clear HB hb; have HB := HBn; clear HBn
  obtain ⟨pz, p0, p1, pf0, pf1⟩ := HP.out
  go_wp2_with fail
  refine (bool_is (under_any c s _ HCZ.out (by omega)) HCL.out.2.2.2.2.1).mono ?_
  rintro e w1 ⟨rfl, hb⟩
  first | clear pz p0 p1 pf0 pf1 | skip
  have HPn := Lib.hid (HP.out.later hb)
  clear HP
  have HP := HPn
  clear HPn
  (first | (have HBn := Lib.hid (ext_call HB.out hb)) | (have HBn := Lib.hid (ext_new HB.out hb))); clear HB hb; have HB := HBn; clear HBn
  obtain ⟨pz, p0, p1, pf0, pf1⟩ := HP.out
  go_wp2_with fail
  refine (bool_is (under_any s c _ (by omega) HCZ.out) HCL.out.2.2.2.2.2).mono ?_
  rintro e w1 ⟨rfl, hb⟩
  first | clear pz p0 p1 pf0 pf1 | skip
  have HPn := Lib.hid (HP.out.later hb)
  clear HP
  have HP := HPn
  clear HPn
  (first | (have HBn := Lib.hid (ext_call HB.out hb)) | (have HBn := Lib.hid (ext_new HB.out hb))); clear HB hb; have HB := HBn; clear HBn
  obtain ⟨pz, p0, p1, pf0, pf1⟩ := HP.out
  go_wp2
  go_ret
  exact ⟨rfl, HB.out⟩

set_option maxRecDepth 100000 in
set_option maxHeartbeats 8000000 in
theorem family_true_0 (s x y : ByteArray) (w : World) (hs : s.size ≤ 300) (hx : x.size ≤ 300) (hy : y.size ≤ 300) (hok : (par s.data.toList).2 = true) (hez : (chi s.data.toList (x.data.toList, y.data.toList)).2 ≠ 0) :
    Calls Tryd.prog 6 #[.string s, .agg #[.string x, .string y]] w fun e w' => e = .returned (.bool true) ∧ Below w.heap.size w w' := by
  have HB := Lib.hid (show Below w.heap.size w (w.alloc (.cells #[.string x, .string y] 36)) from (Below.refl _ w).alloc (Nat.le_refl _) _)
  have HP := Lib.hid (Px.new w x y 36)
  have HOK := Lib.hid hok
  have HEZ := Lib.hid hez
  have hd8 := cps_le s.data.toList
  obtain ⟨dd, hdd⟩ : ∃ d, (cps s.data.toList).length = d := ⟨_, rfl⟩
  rw [hdd] at hd8
  have HDD := Lib.hid (show ((cps s.data.toList).length : Int) = (dd : Int) by rw [hdd])
  have gd : IntKind.i64.wrap ((dd : Int) + 1) = (dd : Int) + 1 := IntWalk.i64_in _ (by omega)
  clear hok hez hdd
  go_enter Tryd.func6, Tryd.ntmps6
  go_wp2_with fail
  refine (long_no s _ hs).mono ?_
  rintro e w1 ⟨rfl, hb⟩
  first | clear pz p0 p1 pf0 pf1 | skip
  have HPn := Lib.hid (HP.out.later hb)
  clear HP
  have HP := HPn
  clear HPn
  (first | (have HBn := Lib.hid (ext_call HB.out hb)) | (have HBn := Lib.hid (ext_new HB.out hb))); clear HB hb; have HB := HBn; clear HBn
  obtain ⟨pz, p0, p1, pf0, pf1⟩ := HP.out
  go_wp2_with fail
  refine (long_no x _ hx).mono ?_
  rintro e w1 ⟨rfl, hb⟩
  first | clear pz p0 p1 pf0 pf1 | skip
  have HPn := Lib.hid (HP.out.later hb)
  clear HP
  have HP := HPn
  clear HPn
  (first | (have HBn := Lib.hid (ext_call HB.out hb)) | (have HBn := Lib.hid (ext_new HB.out hb))); clear HB hb; have HB := HBn; clear HBn
  obtain ⟨pz, p0, p1, pf0, pf1⟩ := HP.out
  go_wp2_with fail
  refine (long_no y _ hy).mono ?_
  rintro e w1 ⟨rfl, hb⟩
  first | clear pz p0 p1 pf0 pf1 | skip
  have HPn := Lib.hid (HP.out.later hb)
  clear HP
  have HP := HPn
  clear HPn
  (first | (have HBn := Lib.hid (ext_call HB.out hb)) | (have HBn := Lib.hid (ext_new HB.out hb))); clear HB hb; have HB := HBn; clear HBn
  obtain ⟨pz, p0, p1, pf0, pf1⟩ := HP.out
  go_wp2_with fail
  refine (par_is (parent_any s _ (by omega))).mono ?_
  rintro e w1 ⟨a, ab, rfl, hr, hb⟩
  have HPA := Lib.hid hr
  have HAZ := Lib.hid (show a.size ≤ 100000 from sz_of (congrArg Prod.fst hr) (par_le _))
  clear hr
  first | clear pz p0 p1 pf0 pf1 | skip
  have HPn := Lib.hid (HP.out.later hb)
  clear HP
  have HP := HPn
  clear HPn
  (first | (have HBn := Lib.hid (ext_call HB.out hb)) | (have HBn := Lib.hid (ext_new HB.out hb))); clear HB hb; have HB := HBn; clear HBn
  obtain rfl : ab = true := by have := HOK.out; rw [HPA.out] at this; exact this
  obtain ⟨pz, p0, p1, pf0, pf1⟩ := HP.out
  go_wp2_with fail
  refine (par_to a true (rparent_any s _ (by omega)) HPA.out).mono ?_
  rintro e w1 ⟨rfl, hb⟩
  first | clear pz p0 p1 pf0 pf1 | skip
  have HPn := Lib.hid (HP.out.later hb)
  clear HP
  have HP := HPn
  clear HPn
  (first | (have HBn := Lib.hid (ext_call HB.out hb)) | (have HBn := Lib.hid (ext_new HB.out hb))); clear HB hb; have HB := HBn; clear HBn
  obtain ⟨pz, p0, p1, pf0, pf1⟩ := HP.out
  go_wp2_with fail
  refine (txt_is (child_any s x y _ (by omega) (by omega) (by omega))).mono ?_
  rintro e w1 ⟨c, ce, rfl, hr, hb⟩
  have HCH := Lib.hid hr
  have HCZ := Lib.hid (show c.size ≤ 100000 from sz_of (congrArg Prod.fst hr) (chi_le _ _))
  clear hr
  first | clear pz p0 p1 pf0 pf1 | skip
  have HPn := Lib.hid (HP.out.later hb)
  clear HP
  have HP := HPn
  clear HPn
  (first | (have HBn := Lib.hid (ext_call HB.out hb)) | (have HBn := Lib.hid (ext_new HB.out hb))); clear HB hb; have HB := HBn; clear HBn
  obtain ⟨pz, p0, p1, pf0, pf1⟩ := HP.out
  go_wp2_with fail
  refine (txt_to c ce (rchild_any s x y _ (by omega) (by omega) (by omega)) HCH.out).mono ?_
  rintro e w1 ⟨rfl, hb⟩
  first | clear pz p0 p1 pf0 pf1 | skip
  have HPn := Lib.hid (HP.out.later hb)
  clear HP
  have HP := HPn
  clear HPn
  (first | (have HBn := Lib.hid (ext_call HB.out hb)) | (have HBn := Lib.hid (ext_new HB.out hb))); clear HB hb; have HB := HBn; clear HBn
  obtain ⟨pz, p0, p1, pf0, pf1⟩ := HP.out
  go_wp2_with fail
  refine (int_is (depth_any s _ (by omega)) HDD.out).mono ?_
  rintro e w1 ⟨rfl, hb⟩
  first | clear pz p0 p1 pf0 pf1 | skip
  have HPn := Lib.hid (HP.out.later hb)
  clear HP
  have HP := HPn
  clear HPn
  (first | (have HBn := Lib.hid (ext_call HB.out hb)) | (have HBn := Lib.hid (ext_new HB.out hb))); clear HB hb; have HB := HBn; clear HBn
  obtain ⟨pz, p0, p1, pf0, pf1⟩ := HP.out
  go_wp2_with fail
  refine (int_is (rdepth_any s _ (by omega)) HDD.out).mono ?_
  rintro e w1 ⟨rfl, hb⟩
  first | clear pz p0 p1 pf0 pf1 | skip
  have HPn := Lib.hid (HP.out.later hb)
  clear HP
  have HP := HPn
  clear HPn
  (first | (have HBn := Lib.hid (ext_call HB.out hb)) | (have HBn := Lib.hid (ext_new HB.out hb))); clear HB hb; have HB := HBn; clear HBn
  obtain ⟨pz, p0, p1, pf0, pf1⟩ := HP.out
  go_wp2_with fail
  refine (live_any _).mono ?_
  rintro e w1 ⟨rfl, hb⟩
  first | clear pz p0 p1 pf0 pf1 | skip
  have HPn := Lib.hid (HP.out.later hb)
  clear HP
  have HP := HPn
  clear HPn
  (first | (have HBn := Lib.hid (ext_call HB.out hb)) | (have HBn := Lib.hid (ext_new HB.out hb))); clear HB hb; have HB := HBn; clear HBn
  have h0 : ce ≠ 0 := by have := HEZ.out; rw [HCH.out] at this; exact this
  have h1 : (ce == 0) = false := by simpa using h0
  have h2 : (ce != 0) = true := by simpa using h0
  clear h0
  obtain ⟨pz, p0, p1, pf0, pf1⟩ := HP.out
  go_wp2_with fail
  refine (bool_is (under_any s a _ (by omega) HAZ.out) (show und s.data.toList a.data.toList = true by have := par_und HOK.out; rw [HPA.out] at this; exact this)).mono ?_
  rintro e w1 ⟨rfl, hb⟩
  first | clear pz p0 p1 pf0 pf1 | skip
  have HPn := Lib.hid (HP.out.later hb)
  clear HP
  have HP := HPn
  clear HPn
  (first | (have HBn := Lib.hid (ext_call HB.out hb)) | (have HBn := Lib.hid (ext_new HB.out hb))); clear HB hb; have HB := HBn; clear HBn
  obtain ⟨pz, p0, p1, pf0, pf1⟩ := HP.out
  go_wp2
  go_ret
  exact ⟨rfl, HB.out⟩

set_option maxRecDepth 100000 in
set_option maxHeartbeats 8000000 in
theorem family_false_1 (s x y : ByteArray) (w : World) (hs : s.size ≤ 300) (hx : x.size ≤ 300) (hy : y.size ≤ 300) (hok : (par s.data.toList).2 = false) (hez : (chi s.data.toList (x.data.toList, y.data.toList)).2 = 0) :
    Calls Tryd.prog 6 #[.string s, .agg #[.string x, .string y]] w fun e w' => e = .returned (.bool true) ∧ Below w.heap.size w w' := by
  have HB := Lib.hid (show Below w.heap.size w (w.alloc (.cells #[.string x, .string y] 36)) from (Below.refl _ w).alloc (Nat.le_refl _) _)
  have HP := Lib.hid (Px.new w x y 36)
  have HOK := Lib.hid hok
  have HEZ := Lib.hid hez
  have hd8 := cps_le s.data.toList
  obtain ⟨dd, hdd⟩ : ∃ d, (cps s.data.toList).length = d := ⟨_, rfl⟩
  rw [hdd] at hd8
  have HDD := Lib.hid (show ((cps s.data.toList).length : Int) = (dd : Int) by rw [hdd])
  have gd : IntKind.i64.wrap ((dd : Int) + 1) = (dd : Int) + 1 := IntWalk.i64_in _ (by omega)
  clear hok hez hdd
  go_enter Tryd.func6, Tryd.ntmps6
  go_wp2_with fail
  refine (long_no s _ hs).mono ?_
  rintro e w1 ⟨rfl, hb⟩
  first | clear pz p0 p1 pf0 pf1 | skip
  have HPn := Lib.hid (HP.out.later hb)
  clear HP
  have HP := HPn
  clear HPn
  (first | (have HBn := Lib.hid (ext_call HB.out hb)) | (have HBn := Lib.hid (ext_new HB.out hb))); clear HB hb; have HB := HBn; clear HBn
  obtain ⟨pz, p0, p1, pf0, pf1⟩ := HP.out
  go_wp2_with fail
  refine (long_no x _ hx).mono ?_
  rintro e w1 ⟨rfl, hb⟩
  first | clear pz p0 p1 pf0 pf1 | skip
  have HPn := Lib.hid (HP.out.later hb)
  clear HP
  have HP := HPn
  clear HPn
  (first | (have HBn := Lib.hid (ext_call HB.out hb)) | (have HBn := Lib.hid (ext_new HB.out hb))); clear HB hb; have HB := HBn; clear HBn
  obtain ⟨pz, p0, p1, pf0, pf1⟩ := HP.out
  go_wp2_with fail
  refine (long_no y _ hy).mono ?_
  rintro e w1 ⟨rfl, hb⟩
  first | clear pz p0 p1 pf0 pf1 | skip
  have HPn := Lib.hid (HP.out.later hb)
  clear HP
  have HP := HPn
  clear HPn
  (first | (have HBn := Lib.hid (ext_call HB.out hb)) | (have HBn := Lib.hid (ext_new HB.out hb))); clear HB hb; have HB := HBn; clear HBn
  obtain ⟨pz, p0, p1, pf0, pf1⟩ := HP.out
  go_wp2_with fail
  refine (par_is (parent_any s _ (by omega))).mono ?_
  rintro e w1 ⟨a, ab, rfl, hr, hb⟩
  have HPA := Lib.hid hr
  have HAZ := Lib.hid (show a.size ≤ 100000 from sz_of (congrArg Prod.fst hr) (par_le _))
  clear hr
  first | clear pz p0 p1 pf0 pf1 | skip
  have HPn := Lib.hid (HP.out.later hb)
  clear HP
  have HP := HPn
  clear HPn
  (first | (have HBn := Lib.hid (ext_call HB.out hb)) | (have HBn := Lib.hid (ext_new HB.out hb))); clear HB hb; have HB := HBn; clear HBn
  obtain rfl : ab = false := by have := HOK.out; rw [HPA.out] at this; exact this
  obtain ⟨pz, p0, p1, pf0, pf1⟩ := HP.out
  go_wp2_with fail
  refine (par_to a false (rparent_any s _ (by omega)) HPA.out).mono ?_
  rintro e w1 ⟨rfl, hb⟩
  first | clear pz p0 p1 pf0 pf1 | skip
  have HPn := Lib.hid (HP.out.later hb)
  clear HP
  have HP := HPn
  clear HPn
  (first | (have HBn := Lib.hid (ext_call HB.out hb)) | (have HBn := Lib.hid (ext_new HB.out hb))); clear HB hb; have HB := HBn; clear HBn
  obtain ⟨pz, p0, p1, pf0, pf1⟩ := HP.out
  go_wp2_with fail
  refine (txt_is (child_any s x y _ (by omega) (by omega) (by omega))).mono ?_
  rintro e w1 ⟨c, ce, rfl, hr, hb⟩
  have HCH := Lib.hid hr
  have HCZ := Lib.hid (show c.size ≤ 100000 from sz_of (congrArg Prod.fst hr) (chi_le _ _))
  clear hr
  first | clear pz p0 p1 pf0 pf1 | skip
  have HPn := Lib.hid (HP.out.later hb)
  clear HP
  have HP := HPn
  clear HPn
  (first | (have HBn := Lib.hid (ext_call HB.out hb)) | (have HBn := Lib.hid (ext_new HB.out hb))); clear HB hb; have HB := HBn; clear HBn
  obtain ⟨pz, p0, p1, pf0, pf1⟩ := HP.out
  go_wp2_with fail
  refine (txt_to c ce (rchild_any s x y _ (by omega) (by omega) (by omega)) HCH.out).mono ?_
  rintro e w1 ⟨rfl, hb⟩
  first | clear pz p0 p1 pf0 pf1 | skip
  have HPn := Lib.hid (HP.out.later hb)
  clear HP
  have HP := HPn
  clear HPn
  (first | (have HBn := Lib.hid (ext_call HB.out hb)) | (have HBn := Lib.hid (ext_new HB.out hb))); clear HB hb; have HB := HBn; clear HBn
  obtain ⟨pz, p0, p1, pf0, pf1⟩ := HP.out
  go_wp2_with fail
  refine (int_is (depth_any s _ (by omega)) HDD.out).mono ?_
  rintro e w1 ⟨rfl, hb⟩
  first | clear pz p0 p1 pf0 pf1 | skip
  have HPn := Lib.hid (HP.out.later hb)
  clear HP
  have HP := HPn
  clear HPn
  (first | (have HBn := Lib.hid (ext_call HB.out hb)) | (have HBn := Lib.hid (ext_new HB.out hb))); clear HB hb; have HB := HBn; clear HBn
  obtain ⟨pz, p0, p1, pf0, pf1⟩ := HP.out
  go_wp2_with fail
  refine (int_is (rdepth_any s _ (by omega)) HDD.out).mono ?_
  rintro e w1 ⟨rfl, hb⟩
  first | clear pz p0 p1 pf0 pf1 | skip
  have HPn := Lib.hid (HP.out.later hb)
  clear HP
  have HP := HPn
  clear HPn
  (first | (have HBn := Lib.hid (ext_call HB.out hb)) | (have HBn := Lib.hid (ext_new HB.out hb))); clear HB hb; have HB := HBn; clear HBn
  obtain ⟨pz, p0, p1, pf0, pf1⟩ := HP.out
  go_wp2_with fail
  refine (live_any _).mono ?_
  rintro e w1 ⟨rfl, hb⟩
  first | clear pz p0 p1 pf0 pf1 | skip
  have HPn := Lib.hid (HP.out.later hb)
  clear HP
  have HP := HPn
  clear HPn
  (first | (have HBn := Lib.hid (ext_call HB.out hb)) | (have HBn := Lib.hid (ext_new HB.out hb))); clear HB hb; have HB := HBn; clear HBn
  have hc0 : ce = 0 := by have := HEZ.out; rw [HCH.out] at this; exact this
  subst hc0
  have HCL := Lib.hid (chi_law HEZ.out)
  rw [HCH.out] at HCL
  have HDC := Lib.hid (show ((cps c.data.toList).length : Int) = (dd : Int) + 1 by have := HCL.out.2.2.2.1; rw [this]; have := HDD.out; omega)
  obtain ⟨pz, p0, p1, pf0, pf1⟩ := HP.out
  go_wp2_with fail
  refine (par_to s true (parent_any c _ HCZ.out) HCL.out.2.1).mono ?_
  rintro e w1 ⟨rfl, hb⟩
  first | clear pz p0 p1 pf0 pf1 | skip
  have HPn := Lib.hid (HP.out.later hb)
  clear HP
  have HP := HPn
  clear HPn
  (first | (have HBn := Lib.hid (ext_call HB.out hb)) | (have HBn := Lib.hid (ext_new HB.out hb))); clear HB hb; have HB := HBn; clear HBn
  obtain ⟨pz, p0, p1, pf0, pf1⟩ := HP.out
  go_wp2_with fail
  refine (int_is (depth_any c _ HCZ.out) HDC.out).mono ?_
  rintro e w1 ⟨rfl, hb⟩
  first | clear pz p0 p1 pf0 pf1 | skip
  have HPn := Lib.hid (HP.out.later hb)
  clear HP
  have HP := HPn
  clear HPn
  (first | (have HBn := Lib.hid (ext_call HB.out hb)) | (have HBn := Lib.hid (ext_new HB.out hb))); clear HB hb; have HB := HBn; clear HBn
  obtain ⟨pz, p0, p1, pf0, pf1⟩ := HP.out
  go_wp2_with fail
  refine (int_is (depth_any s _ (by omega)) HDD.out).mono ?_
  rintro e w1 ⟨rfl, hb⟩
  first | clear pz p0 p1 pf0 pf1 | skip
  have HPn := Lib.hid (HP.out.later hb)
  clear HP
  have HP := HPn
  clear HPn
  (first | (have HBn := Lib.hid (ext_call HB.out hb)) | (have HBn := Lib.hid (ext_new HB.out hb))); clear HB hb; have HB := HBn; clear HBn
  obtain ⟨pz, p0, p1, pf0, pf1⟩ := HP.out
  go_wp2_with fail
  refine (bool_is (under_any c s _ HCZ.out (by omega)) HCL.out.2.2.2.2.1).mono ?_
  rintro e w1 ⟨rfl, hb⟩
  first | clear pz p0 p1 pf0 pf1 | skip
  have HPn := Lib.hid (HP.out.later hb)
  clear HP
  have HP := HPn
  clear HPn
  (first | (have HBn := Lib.hid (ext_call HB.out hb)) | (have HBn := Lib.hid (ext_new HB.out hb))); clear HB hb; have HB := HBn; clear HBn
  obtain ⟨pz, p0, p1, pf0, pf1⟩ := HP.out
  go_wp2_with fail
  refine (bool_is (under_any s c _ (by omega) HCZ.out) HCL.out.2.2.2.2.2).mono ?_
  rintro e w1 ⟨rfl, hb⟩
  first | clear pz p0 p1 pf0 pf1 | skip
  have HPn := Lib.hid (HP.out.later hb)
  clear HP
  have HP := HPn
  clear HPn
  (first | (have HBn := Lib.hid (ext_call HB.out hb)) | (have HBn := Lib.hid (ext_new HB.out hb))); clear HB hb; have HB := HBn; clear HBn
  obtain ⟨pz, p0, p1, pf0, pf1⟩ := HP.out
  go_wp2
  go_ret
  exact ⟨rfl, HB.out⟩

set_option maxRecDepth 100000 in
set_option maxHeartbeats 8000000 in
theorem family_false_0 (s x y : ByteArray) (w : World) (hs : s.size ≤ 300) (hx : x.size ≤ 300) (hy : y.size ≤ 300) (hok : (par s.data.toList).2 = false) (hez : (chi s.data.toList (x.data.toList, y.data.toList)).2 ≠ 0) :
    Calls Tryd.prog 6 #[.string s, .agg #[.string x, .string y]] w fun e w' => e = .returned (.bool true) ∧ Below w.heap.size w w' := by
  have HB := Lib.hid (show Below w.heap.size w (w.alloc (.cells #[.string x, .string y] 36)) from (Below.refl _ w).alloc (Nat.le_refl _) _)
  have HP := Lib.hid (Px.new w x y 36)
  have HOK := Lib.hid hok
  have HEZ := Lib.hid hez
  have hd8 := cps_le s.data.toList
  obtain ⟨dd, hdd⟩ : ∃ d, (cps s.data.toList).length = d := ⟨_, rfl⟩
  rw [hdd] at hd8
  have HDD := Lib.hid (show ((cps s.data.toList).length : Int) = (dd : Int) by rw [hdd])
  have gd : IntKind.i64.wrap ((dd : Int) + 1) = (dd : Int) + 1 := IntWalk.i64_in _ (by omega)
  clear hok hez hdd
  go_enter Tryd.func6, Tryd.ntmps6
  go_wp2_with fail
  refine (long_no s _ hs).mono ?_
  rintro e w1 ⟨rfl, hb⟩
  first | clear pz p0 p1 pf0 pf1 | skip
  have HPn := Lib.hid (HP.out.later hb)
  clear HP
  have HP := HPn
  clear HPn
  (first | (have HBn := Lib.hid (ext_call HB.out hb)) | (have HBn := Lib.hid (ext_new HB.out hb))); clear HB hb; have HB := HBn; clear HBn
  obtain ⟨pz, p0, p1, pf0, pf1⟩ := HP.out
  go_wp2_with fail
  refine (long_no x _ hx).mono ?_
  rintro e w1 ⟨rfl, hb⟩
  first | clear pz p0 p1 pf0 pf1 | skip
  have HPn := Lib.hid (HP.out.later hb)
  clear HP
  have HP := HPn
  clear HPn
  (first | (have HBn := Lib.hid (ext_call HB.out hb)) | (have HBn := Lib.hid (ext_new HB.out hb))); clear HB hb; have HB := HBn; clear HBn
  obtain ⟨pz, p0, p1, pf0, pf1⟩ := HP.out
  go_wp2_with fail
  refine (long_no y _ hy).mono ?_
  rintro e w1 ⟨rfl, hb⟩
  first | clear pz p0 p1 pf0 pf1 | skip
  have HPn := Lib.hid (HP.out.later hb)
  clear HP
  have HP := HPn
  clear HPn
  (first | (have HBn := Lib.hid (ext_call HB.out hb)) | (have HBn := Lib.hid (ext_new HB.out hb))); clear HB hb; have HB := HBn; clear HBn
  obtain ⟨pz, p0, p1, pf0, pf1⟩ := HP.out
  go_wp2_with fail
  refine (par_is (parent_any s _ (by omega))).mono ?_
  rintro e w1 ⟨a, ab, rfl, hr, hb⟩
  have HPA := Lib.hid hr
  have HAZ := Lib.hid (show a.size ≤ 100000 from sz_of (congrArg Prod.fst hr) (par_le _))
  clear hr
  first | clear pz p0 p1 pf0 pf1 | skip
  have HPn := Lib.hid (HP.out.later hb)
  clear HP
  have HP := HPn
  clear HPn
  (first | (have HBn := Lib.hid (ext_call HB.out hb)) | (have HBn := Lib.hid (ext_new HB.out hb))); clear HB hb; have HB := HBn; clear HBn
  obtain rfl : ab = false := by have := HOK.out; rw [HPA.out] at this; exact this
  obtain ⟨pz, p0, p1, pf0, pf1⟩ := HP.out
  go_wp2_with fail
  refine (par_to a false (rparent_any s _ (by omega)) HPA.out).mono ?_
  rintro e w1 ⟨rfl, hb⟩
  first | clear pz p0 p1 pf0 pf1 | skip
  have HPn := Lib.hid (HP.out.later hb)
  clear HP
  have HP := HPn
  clear HPn
  (first | (have HBn := Lib.hid (ext_call HB.out hb)) | (have HBn := Lib.hid (ext_new HB.out hb))); clear HB hb; have HB := HBn; clear HBn
  obtain ⟨pz, p0, p1, pf0, pf1⟩ := HP.out
  go_wp2_with fail
  refine (txt_is (child_any s x y _ (by omega) (by omega) (by omega))).mono ?_
  rintro e w1 ⟨c, ce, rfl, hr, hb⟩
  have HCH := Lib.hid hr
  have HCZ := Lib.hid (show c.size ≤ 100000 from sz_of (congrArg Prod.fst hr) (chi_le _ _))
  clear hr
  first | clear pz p0 p1 pf0 pf1 | skip
  have HPn := Lib.hid (HP.out.later hb)
  clear HP
  have HP := HPn
  clear HPn
  (first | (have HBn := Lib.hid (ext_call HB.out hb)) | (have HBn := Lib.hid (ext_new HB.out hb))); clear HB hb; have HB := HBn; clear HBn
  obtain ⟨pz, p0, p1, pf0, pf1⟩ := HP.out
  go_wp2_with fail
  refine (txt_to c ce (rchild_any s x y _ (by omega) (by omega) (by omega)) HCH.out).mono ?_
  rintro e w1 ⟨rfl, hb⟩
  first | clear pz p0 p1 pf0 pf1 | skip
  have HPn := Lib.hid (HP.out.later hb)
  clear HP
  have HP := HPn
  clear HPn
  (first | (have HBn := Lib.hid (ext_call HB.out hb)) | (have HBn := Lib.hid (ext_new HB.out hb))); clear HB hb; have HB := HBn; clear HBn
  obtain ⟨pz, p0, p1, pf0, pf1⟩ := HP.out
  go_wp2_with fail
  refine (int_is (depth_any s _ (by omega)) HDD.out).mono ?_
  rintro e w1 ⟨rfl, hb⟩
  first | clear pz p0 p1 pf0 pf1 | skip
  have HPn := Lib.hid (HP.out.later hb)
  clear HP
  have HP := HPn
  clear HPn
  (first | (have HBn := Lib.hid (ext_call HB.out hb)) | (have HBn := Lib.hid (ext_new HB.out hb))); clear HB hb; have HB := HBn; clear HBn
  obtain ⟨pz, p0, p1, pf0, pf1⟩ := HP.out
  go_wp2_with fail
  refine (int_is (rdepth_any s _ (by omega)) HDD.out).mono ?_
  rintro e w1 ⟨rfl, hb⟩
  first | clear pz p0 p1 pf0 pf1 | skip
  have HPn := Lib.hid (HP.out.later hb)
  clear HP
  have HP := HPn
  clear HPn
  (first | (have HBn := Lib.hid (ext_call HB.out hb)) | (have HBn := Lib.hid (ext_new HB.out hb))); clear HB hb; have HB := HBn; clear HBn
  obtain ⟨pz, p0, p1, pf0, pf1⟩ := HP.out
  go_wp2_with fail
  refine (live_any _).mono ?_
  rintro e w1 ⟨rfl, hb⟩
  first | clear pz p0 p1 pf0 pf1 | skip
  have HPn := Lib.hid (HP.out.later hb)
  clear HP
  have HP := HPn
  clear HPn
  (first | (have HBn := Lib.hid (ext_call HB.out hb)) | (have HBn := Lib.hid (ext_new HB.out hb))); clear HB hb; have HB := HBn; clear HBn
  have h0 : ce ≠ 0 := by have := HEZ.out; rw [HCH.out] at this; exact this
  have h1 : (ce == 0) = false := by simpa using h0
  have h2 : (ce != 0) = true := by simpa using h0
  clear h0
  obtain ⟨pz, p0, p1, pf0, pf1⟩ := HP.out
  go_wp2
  go_ret
  exact ⟨rfl, HB.out⟩

set_option maxRecDepth 100000 in
set_option maxHeartbeats 8000000 in
theorem under_l1 (a b c : ByteArray) (w : World) (h1 : 300 < a.size) :
    Calls Tryd.prog 7 #[.string a, .string b, .string c] w fun e w' => e = .returned (.bool true) ∧ Below w.heap.size w w' := by
  have HB := Lib.hid (Below.refl w.heap.size w)
  go_enter Tryd.func7, Tryd.ntmps7
  go_wp2_with fail
  refine (long_yes a _ h1).mono ?_
  rintro e w1 ⟨rfl, hb⟩
  (first | (have HBn := Lib.hid (ext_call HB.out hb)) | (have HBn := Lib.hid (ext_new HB.out hb))); clear HB hb; have HB := HBn; clear HBn
  go_wp2_with fail
  refine (live_any _).mono ?_
  rintro e w1 ⟨rfl, hb⟩
  (first | (have HBn := Lib.hid (ext_call HB.out hb)) | (have HBn := Lib.hid (ext_new HB.out hb))); clear HB hb; have HB := HBn; clear HBn
  go_wp2
  go_ret
  exact ⟨rfl, HB.out⟩

set_option maxRecDepth 100000 in
set_option maxHeartbeats 8000000 in
theorem under_l2 (a b c : ByteArray) (w : World) (h1 : a.size ≤ 300) (h2 : 300 < b.size) :
    Calls Tryd.prog 7 #[.string a, .string b, .string c] w fun e w' => e = .returned (.bool true) ∧ Below w.heap.size w w' := by
  have HB := Lib.hid (Below.refl w.heap.size w)
  go_enter Tryd.func7, Tryd.ntmps7
  go_wp2_with fail
  refine (long_no a _ h1).mono ?_
  rintro e w1 ⟨rfl, hb⟩
  (first | (have HBn := Lib.hid (ext_call HB.out hb)) | (have HBn := Lib.hid (ext_new HB.out hb))); clear HB hb; have HB := HBn; clear HBn
  go_wp2_with fail
  refine (long_yes b _ h2).mono ?_
  rintro e w1 ⟨rfl, hb⟩
  (first | (have HBn := Lib.hid (ext_call HB.out hb)) | (have HBn := Lib.hid (ext_new HB.out hb))); clear HB hb; have HB := HBn; clear HBn
  go_wp2_with fail
  refine (live_any _).mono ?_
  rintro e w1 ⟨rfl, hb⟩
  (first | (have HBn := Lib.hid (ext_call HB.out hb)) | (have HBn := Lib.hid (ext_new HB.out hb))); clear HB hb; have HB := HBn; clear HBn
  go_wp2
  go_ret
  exact ⟨rfl, HB.out⟩

set_option maxRecDepth 100000 in
set_option maxHeartbeats 8000000 in
theorem under_l3 (a b c : ByteArray) (w : World) (h1 : a.size ≤ 300) (h2 : b.size ≤ 300) (h3 : 300 < c.size) :
    Calls Tryd.prog 7 #[.string a, .string b, .string c] w fun e w' => e = .returned (.bool true) ∧ Below w.heap.size w w' := by
  have HB := Lib.hid (Below.refl w.heap.size w)
  go_enter Tryd.func7, Tryd.ntmps7
  go_wp2_with fail
  refine (long_no a _ h1).mono ?_
  rintro e w1 ⟨rfl, hb⟩
  (first | (have HBn := Lib.hid (ext_call HB.out hb)) | (have HBn := Lib.hid (ext_new HB.out hb))); clear HB hb; have HB := HBn; clear HBn
  go_wp2_with fail
  refine (long_no b _ h2).mono ?_
  rintro e w1 ⟨rfl, hb⟩
  (first | (have HBn := Lib.hid (ext_call HB.out hb)) | (have HBn := Lib.hid (ext_new HB.out hb))); clear HB hb; have HB := HBn; clear HBn
  go_wp2_with fail
  refine (long_yes c _ h3).mono ?_
  rintro e w1 ⟨rfl, hb⟩
  (first | (have HBn := Lib.hid (ext_call HB.out hb)) | (have HBn := Lib.hid (ext_new HB.out hb))); clear HB hb; have HB := HBn; clear HBn
  go_wp2_with fail
  refine (live_any _).mono ?_
  rintro e w1 ⟨rfl, hb⟩
  (first | (have HBn := Lib.hid (ext_call HB.out hb)) | (have HBn := Lib.hid (ext_new HB.out hb))); clear HB hb; have HB := HBn; clear HBn
  go_wp2
  go_ret
  exact ⟨rfl, HB.out⟩

set_option maxRecDepth 100000 in
set_option maxHeartbeats 8000000 in
theorem under_ttt (a b c : ByteArray) (w : World) (h1 : a.size ≤ 300) (h2 : b.size ≤ 300) (h3 : c.size ≤ 300) (hab : und a.data.toList b.data.toList = true) (hbc : und b.data.toList c.data.toList = true) (hba : und b.data.toList a.data.toList = true) :
    Calls Tryd.prog 7 #[.string a, .string b, .string c] w fun e w' => e = .returned (.bool true) ∧ Below w.heap.size w w' := by
  have HB := Lib.hid (Below.refl w.heap.size w)
  have HAB := Lib.hid hab
  have HBC := Lib.hid hbc
  have HBA := Lib.hid hba
  obtain ⟨va, hva⟩ : ∃ v, valid a.data.toList = v := ⟨_, rfl⟩
  have HVA := Lib.hid hva
  clear hab hbc hba hva
  go_enter Tryd.func7, Tryd.ntmps7
  go_wp2_with fail
  refine (long_no a _ h1).mono ?_
  rintro e w1 ⟨rfl, hb⟩
  (first | (have HBn := Lib.hid (ext_call HB.out hb)) | (have HBn := Lib.hid (ext_new HB.out hb))); clear HB hb; have HB := HBn; clear HBn
  go_wp2_with fail
  refine (long_no b _ h2).mono ?_
  rintro e w1 ⟨rfl, hb⟩
  (first | (have HBn := Lib.hid (ext_call HB.out hb)) | (have HBn := Lib.hid (ext_new HB.out hb))); clear HB hb; have HB := HBn; clear HBn
  go_wp2_with fail
  refine (long_no c _ h3).mono ?_
  rintro e w1 ⟨rfl, hb⟩
  (first | (have HBn := Lib.hid (ext_call HB.out hb)) | (have HBn := Lib.hid (ext_new HB.out hb))); clear HB hb; have HB := HBn; clear HBn
  go_wp2_with fail
  refine (bool_is (under_any a b _ (by first | decide | omega) (by first | decide | omega)) HAB.out).mono ?_
  rintro e w1 ⟨rfl, hb⟩
  (first | (have HBn := Lib.hid (ext_call HB.out hb)) | (have HBn := Lib.hid (ext_new HB.out hb))); clear HB hb; have HB := HBn; clear HBn
  go_wp2_with fail
  refine (bool_is (runder_any a b _ (by omega) (by omega)) HAB.out).mono ?_
  rintro e w1 ⟨rfl, hb⟩
  (first | (have HBn := Lib.hid (ext_call HB.out hb)) | (have HBn := Lib.hid (ext_new HB.out hb))); clear HB hb; have HB := HBn; clear HBn
  go_wp2_with fail
  refine (bool_is (under_any a a _ (by first | decide | omega) (by first | decide | omega)) ((und_refl _).trans HVA.out)).mono ?_
  rintro e w1 ⟨rfl, hb⟩
  (first | (have HBn := Lib.hid (ext_call HB.out hb)) | (have HBn := Lib.hid (ext_new HB.out hb))); clear HB hb; have HB := HBn; clear HBn
  go_wp2_with fail
  refine (bool_is (valid_any a _ (by omega)) HVA.out).mono ?_
  rintro e w1 ⟨rfl, hb⟩
  (first | (have HBn := Lib.hid (ext_call HB.out hb)) | (have HBn := Lib.hid (ext_new HB.out hb))); clear HB hb; have HB := HBn; clear HBn
  go_wp2_with fail
  refine (bool_is (under_any a ⟨#[]⟩ _ (by first | decide | omega) (by first | decide | omega)) ((und_nil _).trans HVA.out)).mono ?_
  rintro e w1 ⟨rfl, hb⟩
  (first | (have HBn := Lib.hid (ext_call HB.out hb)) | (have HBn := Lib.hid (ext_new HB.out hb))); clear HB hb; have HB := HBn; clear HBn
  go_wp2_with fail
  refine (bool_is (valid_any a _ (by omega)) HVA.out).mono ?_
  rintro e w1 ⟨rfl, hb⟩
  (first | (have HBn := Lib.hid (ext_call HB.out hb)) | (have HBn := Lib.hid (ext_new HB.out hb))); clear HB hb; have HB := HBn; clear HBn
  go_wp2_with fail
  refine (bool_is (under_any a b _ (by first | decide | omega) (by first | decide | omega)) HAB.out).mono ?_
  rintro e w1 ⟨rfl, hb⟩
  (first | (have HBn := Lib.hid (ext_call HB.out hb)) | (have HBn := Lib.hid (ext_new HB.out hb))); clear HB hb; have HB := HBn; clear HBn
  go_wp2_with fail
  refine (bool_is (under_any b c _ (by first | decide | omega) (by first | decide | omega)) HBC.out).mono ?_
  rintro e w1 ⟨rfl, hb⟩
  (first | (have HBn := Lib.hid (ext_call HB.out hb)) | (have HBn := Lib.hid (ext_new HB.out hb))); clear HB hb; have HB := HBn; clear HBn
  go_wp2_with fail
  refine (bool_is (under_any a c _ (by first | decide | omega) (by first | decide | omega)) (und_trans HAB.out HBC.out)).mono ?_
  rintro e w1 ⟨rfl, hb⟩
  (first | (have HBn := Lib.hid (ext_call HB.out hb)) | (have HBn := Lib.hid (ext_new HB.out hb))); clear HB hb; have HB := HBn; clear HBn
  go_wp2_with fail
  refine (bool_is (under_any a b _ (by first | decide | omega) (by first | decide | omega)) HAB.out).mono ?_
  rintro e w1 ⟨rfl, hb⟩
  (first | (have HBn := Lib.hid (ext_call HB.out hb)) | (have HBn := Lib.hid (ext_new HB.out hb))); clear HB hb; have HB := HBn; clear HBn
  go_wp2_with fail
  refine (bool_is (under_any b a _ (by first | decide | omega) (by first | decide | omega)) HBA.out).mono ?_
  rintro e w1 ⟨rfl, hb⟩
  (first | (have HBn := Lib.hid (ext_call HB.out hb)) | (have HBn := Lib.hid (ext_new HB.out hb))); clear HB hb; have HB := HBn; clear HBn
  have hq : (a.toList == b.toList) = true := eq_of (ba_ext (und_anti HAB.out HBA.out))
  go_wp2_with fail
  refine (live_any _).mono ?_
  rintro e w1 ⟨rfl, hb⟩
  (first | (have HBn := Lib.hid (ext_call HB.out hb)) | (have HBn := Lib.hid (ext_new HB.out hb))); clear HB hb; have HB := HBn; clear HBn
  go_wp2
  go_ret
  exact ⟨rfl, HB.out⟩

set_option maxRecDepth 100000 in
set_option maxHeartbeats 8000000 in
theorem under_ttf (a b c : ByteArray) (w : World) (h1 : a.size ≤ 300) (h2 : b.size ≤ 300) (h3 : c.size ≤ 300) (hab : und a.data.toList b.data.toList = true) (hbc : und b.data.toList c.data.toList = true) (hba : und b.data.toList a.data.toList = false) :
    Calls Tryd.prog 7 #[.string a, .string b, .string c] w fun e w' => e = .returned (.bool true) ∧ Below w.heap.size w w' := by
  have HB := Lib.hid (Below.refl w.heap.size w)
  have HAB := Lib.hid hab
  have HBC := Lib.hid hbc
  have HBA := Lib.hid hba
  obtain ⟨va, hva⟩ : ∃ v, valid a.data.toList = v := ⟨_, rfl⟩
  have HVA := Lib.hid hva
  clear hab hbc hba hva
  go_enter Tryd.func7, Tryd.ntmps7
  go_wp2_with fail
  refine (long_no a _ h1).mono ?_
  rintro e w1 ⟨rfl, hb⟩
  (first | (have HBn := Lib.hid (ext_call HB.out hb)) | (have HBn := Lib.hid (ext_new HB.out hb))); clear HB hb; have HB := HBn; clear HBn
  go_wp2_with fail
  refine (long_no b _ h2).mono ?_
  rintro e w1 ⟨rfl, hb⟩
  (first | (have HBn := Lib.hid (ext_call HB.out hb)) | (have HBn := Lib.hid (ext_new HB.out hb))); clear HB hb; have HB := HBn; clear HBn
  go_wp2_with fail
  refine (long_no c _ h3).mono ?_
  rintro e w1 ⟨rfl, hb⟩
  (first | (have HBn := Lib.hid (ext_call HB.out hb)) | (have HBn := Lib.hid (ext_new HB.out hb))); clear HB hb; have HB := HBn; clear HBn
  go_wp2_with fail
  refine (bool_is (under_any a b _ (by first | decide | omega) (by first | decide | omega)) HAB.out).mono ?_
  rintro e w1 ⟨rfl, hb⟩
  (first | (have HBn := Lib.hid (ext_call HB.out hb)) | (have HBn := Lib.hid (ext_new HB.out hb))); clear HB hb; have HB := HBn; clear HBn
  go_wp2_with fail
  refine (bool_is (runder_any a b _ (by omega) (by omega)) HAB.out).mono ?_
  rintro e w1 ⟨rfl, hb⟩
  (first | (have HBn := Lib.hid (ext_call HB.out hb)) | (have HBn := Lib.hid (ext_new HB.out hb))); clear HB hb; have HB := HBn; clear HBn
  go_wp2_with fail
  refine (bool_is (under_any a a _ (by first | decide | omega) (by first | decide | omega)) ((und_refl _).trans HVA.out)).mono ?_
  rintro e w1 ⟨rfl, hb⟩
  (first | (have HBn := Lib.hid (ext_call HB.out hb)) | (have HBn := Lib.hid (ext_new HB.out hb))); clear HB hb; have HB := HBn; clear HBn
  go_wp2_with fail
  refine (bool_is (valid_any a _ (by omega)) HVA.out).mono ?_
  rintro e w1 ⟨rfl, hb⟩
  (first | (have HBn := Lib.hid (ext_call HB.out hb)) | (have HBn := Lib.hid (ext_new HB.out hb))); clear HB hb; have HB := HBn; clear HBn
  go_wp2_with fail
  refine (bool_is (under_any a ⟨#[]⟩ _ (by first | decide | omega) (by first | decide | omega)) ((und_nil _).trans HVA.out)).mono ?_
  rintro e w1 ⟨rfl, hb⟩
  (first | (have HBn := Lib.hid (ext_call HB.out hb)) | (have HBn := Lib.hid (ext_new HB.out hb))); clear HB hb; have HB := HBn; clear HBn
  go_wp2_with fail
  refine (bool_is (valid_any a _ (by omega)) HVA.out).mono ?_
  rintro e w1 ⟨rfl, hb⟩
  (first | (have HBn := Lib.hid (ext_call HB.out hb)) | (have HBn := Lib.hid (ext_new HB.out hb))); clear HB hb; have HB := HBn; clear HBn
  go_wp2_with fail
  refine (bool_is (under_any a b _ (by first | decide | omega) (by first | decide | omega)) HAB.out).mono ?_
  rintro e w1 ⟨rfl, hb⟩
  (first | (have HBn := Lib.hid (ext_call HB.out hb)) | (have HBn := Lib.hid (ext_new HB.out hb))); clear HB hb; have HB := HBn; clear HBn
  go_wp2_with fail
  refine (bool_is (under_any b c _ (by first | decide | omega) (by first | decide | omega)) HBC.out).mono ?_
  rintro e w1 ⟨rfl, hb⟩
  (first | (have HBn := Lib.hid (ext_call HB.out hb)) | (have HBn := Lib.hid (ext_new HB.out hb))); clear HB hb; have HB := HBn; clear HBn
  go_wp2_with fail
  refine (bool_is (under_any a c _ (by first | decide | omega) (by first | decide | omega)) (und_trans HAB.out HBC.out)).mono ?_
  rintro e w1 ⟨rfl, hb⟩
  (first | (have HBn := Lib.hid (ext_call HB.out hb)) | (have HBn := Lib.hid (ext_new HB.out hb))); clear HB hb; have HB := HBn; clear HBn
  go_wp2_with fail
  refine (bool_is (under_any a b _ (by first | decide | omega) (by first | decide | omega)) HAB.out).mono ?_
  rintro e w1 ⟨rfl, hb⟩
  (first | (have HBn := Lib.hid (ext_call HB.out hb)) | (have HBn := Lib.hid (ext_new HB.out hb))); clear HB hb; have HB := HBn; clear HBn
  go_wp2_with fail
  refine (bool_is (under_any b a _ (by first | decide | omega) (by first | decide | omega)) HBA.out).mono ?_
  rintro e w1 ⟨rfl, hb⟩
  (first | (have HBn := Lib.hid (ext_call HB.out hb)) | (have HBn := Lib.hid (ext_new HB.out hb))); clear HB hb; have HB := HBn; clear HBn
  go_wp2_with fail
  refine (live_any _).mono ?_
  rintro e w1 ⟨rfl, hb⟩
  (first | (have HBn := Lib.hid (ext_call HB.out hb)) | (have HBn := Lib.hid (ext_new HB.out hb))); clear HB hb; have HB := HBn; clear HBn
  go_wp2
  go_ret
  exact ⟨rfl, HB.out⟩

set_option maxRecDepth 100000 in
set_option maxHeartbeats 8000000 in
theorem under_tft (a b c : ByteArray) (w : World) (h1 : a.size ≤ 300) (h2 : b.size ≤ 300) (h3 : c.size ≤ 300) (hab : und a.data.toList b.data.toList = true) (hbc : und b.data.toList c.data.toList = false) (hba : und b.data.toList a.data.toList = true) :
    Calls Tryd.prog 7 #[.string a, .string b, .string c] w fun e w' => e = .returned (.bool true) ∧ Below w.heap.size w w' := by
  have HB := Lib.hid (Below.refl w.heap.size w)
  have HAB := Lib.hid hab
  have HBC := Lib.hid hbc
  have HBA := Lib.hid hba
  obtain ⟨va, hva⟩ : ∃ v, valid a.data.toList = v := ⟨_, rfl⟩
  have HVA := Lib.hid hva
  clear hab hbc hba hva
  go_enter Tryd.func7, Tryd.ntmps7
  go_wp2_with fail
  refine (long_no a _ h1).mono ?_
  rintro e w1 ⟨rfl, hb⟩
  (first | (have HBn := Lib.hid (ext_call HB.out hb)) | (have HBn := Lib.hid (ext_new HB.out hb))); clear HB hb; have HB := HBn; clear HBn
  go_wp2_with fail
  refine (long_no b _ h2).mono ?_
  rintro e w1 ⟨rfl, hb⟩
  (first | (have HBn := Lib.hid (ext_call HB.out hb)) | (have HBn := Lib.hid (ext_new HB.out hb))); clear HB hb; have HB := HBn; clear HBn
  go_wp2_with fail
  refine (long_no c _ h3).mono ?_
  rintro e w1 ⟨rfl, hb⟩
  (first | (have HBn := Lib.hid (ext_call HB.out hb)) | (have HBn := Lib.hid (ext_new HB.out hb))); clear HB hb; have HB := HBn; clear HBn
  go_wp2_with fail
  refine (bool_is (under_any a b _ (by first | decide | omega) (by first | decide | omega)) HAB.out).mono ?_
  rintro e w1 ⟨rfl, hb⟩
  (first | (have HBn := Lib.hid (ext_call HB.out hb)) | (have HBn := Lib.hid (ext_new HB.out hb))); clear HB hb; have HB := HBn; clear HBn
  go_wp2_with fail
  refine (bool_is (runder_any a b _ (by omega) (by omega)) HAB.out).mono ?_
  rintro e w1 ⟨rfl, hb⟩
  (first | (have HBn := Lib.hid (ext_call HB.out hb)) | (have HBn := Lib.hid (ext_new HB.out hb))); clear HB hb; have HB := HBn; clear HBn
  go_wp2_with fail
  refine (bool_is (under_any a a _ (by first | decide | omega) (by first | decide | omega)) ((und_refl _).trans HVA.out)).mono ?_
  rintro e w1 ⟨rfl, hb⟩
  (first | (have HBn := Lib.hid (ext_call HB.out hb)) | (have HBn := Lib.hid (ext_new HB.out hb))); clear HB hb; have HB := HBn; clear HBn
  go_wp2_with fail
  refine (bool_is (valid_any a _ (by omega)) HVA.out).mono ?_
  rintro e w1 ⟨rfl, hb⟩
  (first | (have HBn := Lib.hid (ext_call HB.out hb)) | (have HBn := Lib.hid (ext_new HB.out hb))); clear HB hb; have HB := HBn; clear HBn
  go_wp2_with fail
  refine (bool_is (under_any a ⟨#[]⟩ _ (by first | decide | omega) (by first | decide | omega)) ((und_nil _).trans HVA.out)).mono ?_
  rintro e w1 ⟨rfl, hb⟩
  (first | (have HBn := Lib.hid (ext_call HB.out hb)) | (have HBn := Lib.hid (ext_new HB.out hb))); clear HB hb; have HB := HBn; clear HBn
  go_wp2_with fail
  refine (bool_is (valid_any a _ (by omega)) HVA.out).mono ?_
  rintro e w1 ⟨rfl, hb⟩
  (first | (have HBn := Lib.hid (ext_call HB.out hb)) | (have HBn := Lib.hid (ext_new HB.out hb))); clear HB hb; have HB := HBn; clear HBn
  go_wp2_with fail
  refine (bool_is (under_any a b _ (by first | decide | omega) (by first | decide | omega)) HAB.out).mono ?_
  rintro e w1 ⟨rfl, hb⟩
  (first | (have HBn := Lib.hid (ext_call HB.out hb)) | (have HBn := Lib.hid (ext_new HB.out hb))); clear HB hb; have HB := HBn; clear HBn
  go_wp2_with fail
  refine (bool_is (under_any b c _ (by first | decide | omega) (by first | decide | omega)) HBC.out).mono ?_
  rintro e w1 ⟨rfl, hb⟩
  (first | (have HBn := Lib.hid (ext_call HB.out hb)) | (have HBn := Lib.hid (ext_new HB.out hb))); clear HB hb; have HB := HBn; clear HBn
  go_wp2_with fail
  refine (bool_is (under_any a b _ (by first | decide | omega) (by first | decide | omega)) HAB.out).mono ?_
  rintro e w1 ⟨rfl, hb⟩
  (first | (have HBn := Lib.hid (ext_call HB.out hb)) | (have HBn := Lib.hid (ext_new HB.out hb))); clear HB hb; have HB := HBn; clear HBn
  go_wp2_with fail
  refine (bool_is (under_any b a _ (by first | decide | omega) (by first | decide | omega)) HBA.out).mono ?_
  rintro e w1 ⟨rfl, hb⟩
  (first | (have HBn := Lib.hid (ext_call HB.out hb)) | (have HBn := Lib.hid (ext_new HB.out hb))); clear HB hb; have HB := HBn; clear HBn
  have hq : (a.toList == b.toList) = true := eq_of (ba_ext (und_anti HAB.out HBA.out))
  go_wp2_with fail
  refine (live_any _).mono ?_
  rintro e w1 ⟨rfl, hb⟩
  (first | (have HBn := Lib.hid (ext_call HB.out hb)) | (have HBn := Lib.hid (ext_new HB.out hb))); clear HB hb; have HB := HBn; clear HBn
  go_wp2
  go_ret
  exact ⟨rfl, HB.out⟩

set_option maxRecDepth 100000 in
set_option maxHeartbeats 8000000 in
theorem under_tff (a b c : ByteArray) (w : World) (h1 : a.size ≤ 300) (h2 : b.size ≤ 300) (h3 : c.size ≤ 300) (hab : und a.data.toList b.data.toList = true) (hbc : und b.data.toList c.data.toList = false) (hba : und b.data.toList a.data.toList = false) :
    Calls Tryd.prog 7 #[.string a, .string b, .string c] w fun e w' => e = .returned (.bool true) ∧ Below w.heap.size w w' := by
  have HB := Lib.hid (Below.refl w.heap.size w)
  have HAB := Lib.hid hab
  have HBC := Lib.hid hbc
  have HBA := Lib.hid hba
  obtain ⟨va, hva⟩ : ∃ v, valid a.data.toList = v := ⟨_, rfl⟩
  have HVA := Lib.hid hva
  clear hab hbc hba hva
  go_enter Tryd.func7, Tryd.ntmps7
  go_wp2_with fail
  refine (long_no a _ h1).mono ?_
  rintro e w1 ⟨rfl, hb⟩
  (first | (have HBn := Lib.hid (ext_call HB.out hb)) | (have HBn := Lib.hid (ext_new HB.out hb))); clear HB hb; have HB := HBn; clear HBn
  go_wp2_with fail
  refine (long_no b _ h2).mono ?_
  rintro e w1 ⟨rfl, hb⟩
  (first | (have HBn := Lib.hid (ext_call HB.out hb)) | (have HBn := Lib.hid (ext_new HB.out hb))); clear HB hb; have HB := HBn; clear HBn
  go_wp2_with fail
  refine (long_no c _ h3).mono ?_
  rintro e w1 ⟨rfl, hb⟩
  (first | (have HBn := Lib.hid (ext_call HB.out hb)) | (have HBn := Lib.hid (ext_new HB.out hb))); clear HB hb; have HB := HBn; clear HBn
  go_wp2_with fail
  refine (bool_is (under_any a b _ (by first | decide | omega) (by first | decide | omega)) HAB.out).mono ?_
  rintro e w1 ⟨rfl, hb⟩
  (first | (have HBn := Lib.hid (ext_call HB.out hb)) | (have HBn := Lib.hid (ext_new HB.out hb))); clear HB hb; have HB := HBn; clear HBn
  go_wp2_with fail
  refine (bool_is (runder_any a b _ (by omega) (by omega)) HAB.out).mono ?_
  rintro e w1 ⟨rfl, hb⟩
  (first | (have HBn := Lib.hid (ext_call HB.out hb)) | (have HBn := Lib.hid (ext_new HB.out hb))); clear HB hb; have HB := HBn; clear HBn
  go_wp2_with fail
  refine (bool_is (under_any a a _ (by first | decide | omega) (by first | decide | omega)) ((und_refl _).trans HVA.out)).mono ?_
  rintro e w1 ⟨rfl, hb⟩
  (first | (have HBn := Lib.hid (ext_call HB.out hb)) | (have HBn := Lib.hid (ext_new HB.out hb))); clear HB hb; have HB := HBn; clear HBn
  go_wp2_with fail
  refine (bool_is (valid_any a _ (by omega)) HVA.out).mono ?_
  rintro e w1 ⟨rfl, hb⟩
  (first | (have HBn := Lib.hid (ext_call HB.out hb)) | (have HBn := Lib.hid (ext_new HB.out hb))); clear HB hb; have HB := HBn; clear HBn
  go_wp2_with fail
  refine (bool_is (under_any a ⟨#[]⟩ _ (by first | decide | omega) (by first | decide | omega)) ((und_nil _).trans HVA.out)).mono ?_
  rintro e w1 ⟨rfl, hb⟩
  (first | (have HBn := Lib.hid (ext_call HB.out hb)) | (have HBn := Lib.hid (ext_new HB.out hb))); clear HB hb; have HB := HBn; clear HBn
  go_wp2_with fail
  refine (bool_is (valid_any a _ (by omega)) HVA.out).mono ?_
  rintro e w1 ⟨rfl, hb⟩
  (first | (have HBn := Lib.hid (ext_call HB.out hb)) | (have HBn := Lib.hid (ext_new HB.out hb))); clear HB hb; have HB := HBn; clear HBn
  go_wp2_with fail
  refine (bool_is (under_any a b _ (by first | decide | omega) (by first | decide | omega)) HAB.out).mono ?_
  rintro e w1 ⟨rfl, hb⟩
  (first | (have HBn := Lib.hid (ext_call HB.out hb)) | (have HBn := Lib.hid (ext_new HB.out hb))); clear HB hb; have HB := HBn; clear HBn
  go_wp2_with fail
  refine (bool_is (under_any b c _ (by first | decide | omega) (by first | decide | omega)) HBC.out).mono ?_
  rintro e w1 ⟨rfl, hb⟩
  (first | (have HBn := Lib.hid (ext_call HB.out hb)) | (have HBn := Lib.hid (ext_new HB.out hb))); clear HB hb; have HB := HBn; clear HBn
  go_wp2_with fail
  refine (bool_is (under_any a b _ (by first | decide | omega) (by first | decide | omega)) HAB.out).mono ?_
  rintro e w1 ⟨rfl, hb⟩
  (first | (have HBn := Lib.hid (ext_call HB.out hb)) | (have HBn := Lib.hid (ext_new HB.out hb))); clear HB hb; have HB := HBn; clear HBn
  go_wp2_with fail
  refine (bool_is (under_any b a _ (by first | decide | omega) (by first | decide | omega)) HBA.out).mono ?_
  rintro e w1 ⟨rfl, hb⟩
  (first | (have HBn := Lib.hid (ext_call HB.out hb)) | (have HBn := Lib.hid (ext_new HB.out hb))); clear HB hb; have HB := HBn; clear HBn
  go_wp2_with fail
  refine (live_any _).mono ?_
  rintro e w1 ⟨rfl, hb⟩
  (first | (have HBn := Lib.hid (ext_call HB.out hb)) | (have HBn := Lib.hid (ext_new HB.out hb))); clear HB hb; have HB := HBn; clear HBn
  go_wp2
  go_ret
  exact ⟨rfl, HB.out⟩

set_option maxRecDepth 100000 in
set_option maxHeartbeats 8000000 in
theorem under_ftt (a b c : ByteArray) (w : World) (h1 : a.size ≤ 300) (h2 : b.size ≤ 300) (h3 : c.size ≤ 300) (hab : und a.data.toList b.data.toList = false) (hbc : und b.data.toList c.data.toList = true) (hba : und b.data.toList a.data.toList = true) :
    Calls Tryd.prog 7 #[.string a, .string b, .string c] w fun e w' => e = .returned (.bool true) ∧ Below w.heap.size w w' := by
  have HB := Lib.hid (Below.refl w.heap.size w)
  have HAB := Lib.hid hab
  have HBC := Lib.hid hbc
  have HBA := Lib.hid hba
  obtain ⟨va, hva⟩ : ∃ v, valid a.data.toList = v := ⟨_, rfl⟩
  have HVA := Lib.hid hva
  clear hab hbc hba hva
  go_enter Tryd.func7, Tryd.ntmps7
  go_wp2_with fail
  refine (long_no a _ h1).mono ?_
  rintro e w1 ⟨rfl, hb⟩
  (first | (have HBn := Lib.hid (ext_call HB.out hb)) | (have HBn := Lib.hid (ext_new HB.out hb))); clear HB hb; have HB := HBn; clear HBn
  go_wp2_with fail
  refine (long_no b _ h2).mono ?_
  rintro e w1 ⟨rfl, hb⟩
  (first | (have HBn := Lib.hid (ext_call HB.out hb)) | (have HBn := Lib.hid (ext_new HB.out hb))); clear HB hb; have HB := HBn; clear HBn
  go_wp2_with fail
  refine (long_no c _ h3).mono ?_
  rintro e w1 ⟨rfl, hb⟩
  (first | (have HBn := Lib.hid (ext_call HB.out hb)) | (have HBn := Lib.hid (ext_new HB.out hb))); clear HB hb; have HB := HBn; clear HBn
  go_wp2_with fail
  refine (bool_is (under_any a b _ (by first | decide | omega) (by first | decide | omega)) HAB.out).mono ?_
  rintro e w1 ⟨rfl, hb⟩
  (first | (have HBn := Lib.hid (ext_call HB.out hb)) | (have HBn := Lib.hid (ext_new HB.out hb))); clear HB hb; have HB := HBn; clear HBn
  go_wp2_with fail
  refine (bool_is (runder_any a b _ (by omega) (by omega)) HAB.out).mono ?_
  rintro e w1 ⟨rfl, hb⟩
  (first | (have HBn := Lib.hid (ext_call HB.out hb)) | (have HBn := Lib.hid (ext_new HB.out hb))); clear HB hb; have HB := HBn; clear HBn
  go_wp2_with fail
  refine (bool_is (under_any a a _ (by first | decide | omega) (by first | decide | omega)) ((und_refl _).trans HVA.out)).mono ?_
  rintro e w1 ⟨rfl, hb⟩
  (first | (have HBn := Lib.hid (ext_call HB.out hb)) | (have HBn := Lib.hid (ext_new HB.out hb))); clear HB hb; have HB := HBn; clear HBn
  go_wp2_with fail
  refine (bool_is (valid_any a _ (by omega)) HVA.out).mono ?_
  rintro e w1 ⟨rfl, hb⟩
  (first | (have HBn := Lib.hid (ext_call HB.out hb)) | (have HBn := Lib.hid (ext_new HB.out hb))); clear HB hb; have HB := HBn; clear HBn
  go_wp2_with fail
  refine (bool_is (under_any a ⟨#[]⟩ _ (by first | decide | omega) (by first | decide | omega)) ((und_nil _).trans HVA.out)).mono ?_
  rintro e w1 ⟨rfl, hb⟩
  (first | (have HBn := Lib.hid (ext_call HB.out hb)) | (have HBn := Lib.hid (ext_new HB.out hb))); clear HB hb; have HB := HBn; clear HBn
  go_wp2_with fail
  refine (bool_is (valid_any a _ (by omega)) HVA.out).mono ?_
  rintro e w1 ⟨rfl, hb⟩
  (first | (have HBn := Lib.hid (ext_call HB.out hb)) | (have HBn := Lib.hid (ext_new HB.out hb))); clear HB hb; have HB := HBn; clear HBn
  go_wp2_with fail
  refine (bool_is (under_any a b _ (by first | decide | omega) (by first | decide | omega)) HAB.out).mono ?_
  rintro e w1 ⟨rfl, hb⟩
  (first | (have HBn := Lib.hid (ext_call HB.out hb)) | (have HBn := Lib.hid (ext_new HB.out hb))); clear HB hb; have HB := HBn; clear HBn
  go_wp2_with fail
  refine (bool_is (under_any a b _ (by first | decide | omega) (by first | decide | omega)) HAB.out).mono ?_
  rintro e w1 ⟨rfl, hb⟩
  (first | (have HBn := Lib.hid (ext_call HB.out hb)) | (have HBn := Lib.hid (ext_new HB.out hb))); clear HB hb; have HB := HBn; clear HBn
  go_wp2_with fail
  refine (live_any _).mono ?_
  rintro e w1 ⟨rfl, hb⟩
  (first | (have HBn := Lib.hid (ext_call HB.out hb)) | (have HBn := Lib.hid (ext_new HB.out hb))); clear HB hb; have HB := HBn; clear HBn
  go_wp2
  go_ret
  exact ⟨rfl, HB.out⟩

set_option maxRecDepth 100000 in
set_option maxHeartbeats 8000000 in
theorem under_ftf (a b c : ByteArray) (w : World) (h1 : a.size ≤ 300) (h2 : b.size ≤ 300) (h3 : c.size ≤ 300) (hab : und a.data.toList b.data.toList = false) (hbc : und b.data.toList c.data.toList = true) (hba : und b.data.toList a.data.toList = false) :
    Calls Tryd.prog 7 #[.string a, .string b, .string c] w fun e w' => e = .returned (.bool true) ∧ Below w.heap.size w w' := by
  have HB := Lib.hid (Below.refl w.heap.size w)
  have HAB := Lib.hid hab
  have HBC := Lib.hid hbc
  have HBA := Lib.hid hba
  obtain ⟨va, hva⟩ : ∃ v, valid a.data.toList = v := ⟨_, rfl⟩
  have HVA := Lib.hid hva
  clear hab hbc hba hva
  go_enter Tryd.func7, Tryd.ntmps7
  go_wp2_with fail
  refine (long_no a _ h1).mono ?_
  rintro e w1 ⟨rfl, hb⟩
  (first | (have HBn := Lib.hid (ext_call HB.out hb)) | (have HBn := Lib.hid (ext_new HB.out hb))); clear HB hb; have HB := HBn; clear HBn
  go_wp2_with fail
  refine (long_no b _ h2).mono ?_
  rintro e w1 ⟨rfl, hb⟩
  (first | (have HBn := Lib.hid (ext_call HB.out hb)) | (have HBn := Lib.hid (ext_new HB.out hb))); clear HB hb; have HB := HBn; clear HBn
  go_wp2_with fail
  refine (long_no c _ h3).mono ?_
  rintro e w1 ⟨rfl, hb⟩
  (first | (have HBn := Lib.hid (ext_call HB.out hb)) | (have HBn := Lib.hid (ext_new HB.out hb))); clear HB hb; have HB := HBn; clear HBn
  go_wp2_with fail
  refine (bool_is (under_any a b _ (by first | decide | omega) (by first | decide | omega)) HAB.out).mono ?_
  rintro e w1 ⟨rfl, hb⟩
  (first | (have HBn := Lib.hid (ext_call HB.out hb)) | (have HBn := Lib.hid (ext_new HB.out hb))); clear HB hb; have HB := HBn; clear HBn
  go_wp2_with fail
  refine (bool_is (runder_any a b _ (by omega) (by omega)) HAB.out).mono ?_
  rintro e w1 ⟨rfl, hb⟩
  (first | (have HBn := Lib.hid (ext_call HB.out hb)) | (have HBn := Lib.hid (ext_new HB.out hb))); clear HB hb; have HB := HBn; clear HBn
  go_wp2_with fail
  refine (bool_is (under_any a a _ (by first | decide | omega) (by first | decide | omega)) ((und_refl _).trans HVA.out)).mono ?_
  rintro e w1 ⟨rfl, hb⟩
  (first | (have HBn := Lib.hid (ext_call HB.out hb)) | (have HBn := Lib.hid (ext_new HB.out hb))); clear HB hb; have HB := HBn; clear HBn
  go_wp2_with fail
  refine (bool_is (valid_any a _ (by omega)) HVA.out).mono ?_
  rintro e w1 ⟨rfl, hb⟩
  (first | (have HBn := Lib.hid (ext_call HB.out hb)) | (have HBn := Lib.hid (ext_new HB.out hb))); clear HB hb; have HB := HBn; clear HBn
  go_wp2_with fail
  refine (bool_is (under_any a ⟨#[]⟩ _ (by first | decide | omega) (by first | decide | omega)) ((und_nil _).trans HVA.out)).mono ?_
  rintro e w1 ⟨rfl, hb⟩
  (first | (have HBn := Lib.hid (ext_call HB.out hb)) | (have HBn := Lib.hid (ext_new HB.out hb))); clear HB hb; have HB := HBn; clear HBn
  go_wp2_with fail
  refine (bool_is (valid_any a _ (by omega)) HVA.out).mono ?_
  rintro e w1 ⟨rfl, hb⟩
  (first | (have HBn := Lib.hid (ext_call HB.out hb)) | (have HBn := Lib.hid (ext_new HB.out hb))); clear HB hb; have HB := HBn; clear HBn
  go_wp2_with fail
  refine (bool_is (under_any a b _ (by first | decide | omega) (by first | decide | omega)) HAB.out).mono ?_
  rintro e w1 ⟨rfl, hb⟩
  (first | (have HBn := Lib.hid (ext_call HB.out hb)) | (have HBn := Lib.hid (ext_new HB.out hb))); clear HB hb; have HB := HBn; clear HBn
  go_wp2_with fail
  refine (bool_is (under_any a b _ (by first | decide | omega) (by first | decide | omega)) HAB.out).mono ?_
  rintro e w1 ⟨rfl, hb⟩
  (first | (have HBn := Lib.hid (ext_call HB.out hb)) | (have HBn := Lib.hid (ext_new HB.out hb))); clear HB hb; have HB := HBn; clear HBn
  go_wp2_with fail
  refine (live_any _).mono ?_
  rintro e w1 ⟨rfl, hb⟩
  (first | (have HBn := Lib.hid (ext_call HB.out hb)) | (have HBn := Lib.hid (ext_new HB.out hb))); clear HB hb; have HB := HBn; clear HBn
  go_wp2
  go_ret
  exact ⟨rfl, HB.out⟩

set_option maxRecDepth 100000 in
set_option maxHeartbeats 8000000 in
theorem under_fft (a b c : ByteArray) (w : World) (h1 : a.size ≤ 300) (h2 : b.size ≤ 300) (h3 : c.size ≤ 300) (hab : und a.data.toList b.data.toList = false) (hbc : und b.data.toList c.data.toList = false) (hba : und b.data.toList a.data.toList = true) :
    Calls Tryd.prog 7 #[.string a, .string b, .string c] w fun e w' => e = .returned (.bool true) ∧ Below w.heap.size w w' := by
  have HB := Lib.hid (Below.refl w.heap.size w)
  have HAB := Lib.hid hab
  have HBC := Lib.hid hbc
  have HBA := Lib.hid hba
  obtain ⟨va, hva⟩ : ∃ v, valid a.data.toList = v := ⟨_, rfl⟩
  have HVA := Lib.hid hva
  clear hab hbc hba hva
  go_enter Tryd.func7, Tryd.ntmps7
  go_wp2_with fail
  refine (long_no a _ h1).mono ?_
  rintro e w1 ⟨rfl, hb⟩
  (first | (have HBn := Lib.hid (ext_call HB.out hb)) | (have HBn := Lib.hid (ext_new HB.out hb))); clear HB hb; have HB := HBn; clear HBn
  go_wp2_with fail
  refine (long_no b _ h2).mono ?_
  rintro e w1 ⟨rfl, hb⟩
  (first | (have HBn := Lib.hid (ext_call HB.out hb)) | (have HBn := Lib.hid (ext_new HB.out hb))); clear HB hb; have HB := HBn; clear HBn
  go_wp2_with fail
  refine (long_no c _ h3).mono ?_
  rintro e w1 ⟨rfl, hb⟩
  (first | (have HBn := Lib.hid (ext_call HB.out hb)) | (have HBn := Lib.hid (ext_new HB.out hb))); clear HB hb; have HB := HBn; clear HBn
  go_wp2_with fail
  refine (bool_is (under_any a b _ (by first | decide | omega) (by first | decide | omega)) HAB.out).mono ?_
  rintro e w1 ⟨rfl, hb⟩
  (first | (have HBn := Lib.hid (ext_call HB.out hb)) | (have HBn := Lib.hid (ext_new HB.out hb))); clear HB hb; have HB := HBn; clear HBn
  go_wp2_with fail
  refine (bool_is (runder_any a b _ (by omega) (by omega)) HAB.out).mono ?_
  rintro e w1 ⟨rfl, hb⟩
  (first | (have HBn := Lib.hid (ext_call HB.out hb)) | (have HBn := Lib.hid (ext_new HB.out hb))); clear HB hb; have HB := HBn; clear HBn
  go_wp2_with fail
  refine (bool_is (under_any a a _ (by first | decide | omega) (by first | decide | omega)) ((und_refl _).trans HVA.out)).mono ?_
  rintro e w1 ⟨rfl, hb⟩
  (first | (have HBn := Lib.hid (ext_call HB.out hb)) | (have HBn := Lib.hid (ext_new HB.out hb))); clear HB hb; have HB := HBn; clear HBn
  go_wp2_with fail
  refine (bool_is (valid_any a _ (by omega)) HVA.out).mono ?_
  rintro e w1 ⟨rfl, hb⟩
  (first | (have HBn := Lib.hid (ext_call HB.out hb)) | (have HBn := Lib.hid (ext_new HB.out hb))); clear HB hb; have HB := HBn; clear HBn
  go_wp2_with fail
  refine (bool_is (under_any a ⟨#[]⟩ _ (by first | decide | omega) (by first | decide | omega)) ((und_nil _).trans HVA.out)).mono ?_
  rintro e w1 ⟨rfl, hb⟩
  (first | (have HBn := Lib.hid (ext_call HB.out hb)) | (have HBn := Lib.hid (ext_new HB.out hb))); clear HB hb; have HB := HBn; clear HBn
  go_wp2_with fail
  refine (bool_is (valid_any a _ (by omega)) HVA.out).mono ?_
  rintro e w1 ⟨rfl, hb⟩
  (first | (have HBn := Lib.hid (ext_call HB.out hb)) | (have HBn := Lib.hid (ext_new HB.out hb))); clear HB hb; have HB := HBn; clear HBn
  go_wp2_with fail
  refine (bool_is (under_any a b _ (by first | decide | omega) (by first | decide | omega)) HAB.out).mono ?_
  rintro e w1 ⟨rfl, hb⟩
  (first | (have HBn := Lib.hid (ext_call HB.out hb)) | (have HBn := Lib.hid (ext_new HB.out hb))); clear HB hb; have HB := HBn; clear HBn
  go_wp2_with fail
  refine (bool_is (under_any a b _ (by first | decide | omega) (by first | decide | omega)) HAB.out).mono ?_
  rintro e w1 ⟨rfl, hb⟩
  (first | (have HBn := Lib.hid (ext_call HB.out hb)) | (have HBn := Lib.hid (ext_new HB.out hb))); clear HB hb; have HB := HBn; clear HBn
  go_wp2_with fail
  refine (live_any _).mono ?_
  rintro e w1 ⟨rfl, hb⟩
  (first | (have HBn := Lib.hid (ext_call HB.out hb)) | (have HBn := Lib.hid (ext_new HB.out hb))); clear HB hb; have HB := HBn; clear HBn
  go_wp2
  go_ret
  exact ⟨rfl, HB.out⟩

set_option maxRecDepth 100000 in
set_option maxHeartbeats 8000000 in
theorem under_fff (a b c : ByteArray) (w : World) (h1 : a.size ≤ 300) (h2 : b.size ≤ 300) (h3 : c.size ≤ 300) (hab : und a.data.toList b.data.toList = false) (hbc : und b.data.toList c.data.toList = false) (hba : und b.data.toList a.data.toList = false) :
    Calls Tryd.prog 7 #[.string a, .string b, .string c] w fun e w' => e = .returned (.bool true) ∧ Below w.heap.size w w' := by
  have HB := Lib.hid (Below.refl w.heap.size w)
  have HAB := Lib.hid hab
  have HBC := Lib.hid hbc
  have HBA := Lib.hid hba
  obtain ⟨va, hva⟩ : ∃ v, valid a.data.toList = v := ⟨_, rfl⟩
  have HVA := Lib.hid hva
  clear hab hbc hba hva
  go_enter Tryd.func7, Tryd.ntmps7
  go_wp2_with fail
  refine (long_no a _ h1).mono ?_
  rintro e w1 ⟨rfl, hb⟩
  (first | (have HBn := Lib.hid (ext_call HB.out hb)) | (have HBn := Lib.hid (ext_new HB.out hb))); clear HB hb; have HB := HBn; clear HBn
  go_wp2_with fail
  refine (long_no b _ h2).mono ?_
  rintro e w1 ⟨rfl, hb⟩
  (first | (have HBn := Lib.hid (ext_call HB.out hb)) | (have HBn := Lib.hid (ext_new HB.out hb))); clear HB hb; have HB := HBn; clear HBn
  go_wp2_with fail
  refine (long_no c _ h3).mono ?_
  rintro e w1 ⟨rfl, hb⟩
  (first | (have HBn := Lib.hid (ext_call HB.out hb)) | (have HBn := Lib.hid (ext_new HB.out hb))); clear HB hb; have HB := HBn; clear HBn
  go_wp2_with fail
  refine (bool_is (under_any a b _ (by first | decide | omega) (by first | decide | omega)) HAB.out).mono ?_
  rintro e w1 ⟨rfl, hb⟩
  (first | (have HBn := Lib.hid (ext_call HB.out hb)) | (have HBn := Lib.hid (ext_new HB.out hb))); clear HB hb; have HB := HBn; clear HBn
  go_wp2_with fail
  refine (bool_is (runder_any a b _ (by omega) (by omega)) HAB.out).mono ?_
  rintro e w1 ⟨rfl, hb⟩
  (first | (have HBn := Lib.hid (ext_call HB.out hb)) | (have HBn := Lib.hid (ext_new HB.out hb))); clear HB hb; have HB := HBn; clear HBn
  go_wp2_with fail
  refine (bool_is (under_any a a _ (by first | decide | omega) (by first | decide | omega)) ((und_refl _).trans HVA.out)).mono ?_
  rintro e w1 ⟨rfl, hb⟩
  (first | (have HBn := Lib.hid (ext_call HB.out hb)) | (have HBn := Lib.hid (ext_new HB.out hb))); clear HB hb; have HB := HBn; clear HBn
  go_wp2_with fail
  refine (bool_is (valid_any a _ (by omega)) HVA.out).mono ?_
  rintro e w1 ⟨rfl, hb⟩
  (first | (have HBn := Lib.hid (ext_call HB.out hb)) | (have HBn := Lib.hid (ext_new HB.out hb))); clear HB hb; have HB := HBn; clear HBn
  go_wp2_with fail
  refine (bool_is (under_any a ⟨#[]⟩ _ (by first | decide | omega) (by first | decide | omega)) ((und_nil _).trans HVA.out)).mono ?_
  rintro e w1 ⟨rfl, hb⟩
  (first | (have HBn := Lib.hid (ext_call HB.out hb)) | (have HBn := Lib.hid (ext_new HB.out hb))); clear HB hb; have HB := HBn; clear HBn
  go_wp2_with fail
  refine (bool_is (valid_any a _ (by omega)) HVA.out).mono ?_
  rintro e w1 ⟨rfl, hb⟩
  (first | (have HBn := Lib.hid (ext_call HB.out hb)) | (have HBn := Lib.hid (ext_new HB.out hb))); clear HB hb; have HB := HBn; clear HBn
  go_wp2_with fail
  refine (bool_is (under_any a b _ (by first | decide | omega) (by first | decide | omega)) HAB.out).mono ?_
  rintro e w1 ⟨rfl, hb⟩
  (first | (have HBn := Lib.hid (ext_call HB.out hb)) | (have HBn := Lib.hid (ext_new HB.out hb))); clear HB hb; have HB := HBn; clear HBn
  go_wp2_with fail
  refine (bool_is (under_any a b _ (by first | decide | omega) (by first | decide | omega)) HAB.out).mono ?_
  rintro e w1 ⟨rfl, hb⟩
  (first | (have HBn := Lib.hid (ext_call HB.out hb)) | (have HBn := Lib.hid (ext_new HB.out hb))); clear HB hb; have HB := HBn; clear HBn
  go_wp2_with fail
  refine (live_any _).mono ?_
  rintro e w1 ⟨rfl, hb⟩
  (first | (have HBn := Lib.hid (ext_call HB.out hb)) | (have HBn := Lib.hid (ext_new HB.out hb))); clear HB hb; have HB := HBn; clear HBn
  go_wp2
  go_ret
  exact ⟨rfl, HB.out⟩

set_option maxRecDepth 100000 in
set_option maxHeartbeats 8000000 in
theorem rebases_l1 (s f t : ByteArray) (w : World) (h1 : 300 < s.size) :
    Calls Tryd.prog 8 #[.string s, .string f, .string t] w fun e w' => e = .returned (.bool true) ∧ Below w.heap.size w w' := by
  have HB := Lib.hid (Below.refl w.heap.size w)
  go_enter Tryd.func8, Tryd.ntmps8
  go_wp2_with fail
  refine (long_yes s _ h1).mono ?_
  rintro e w1 ⟨rfl, hb⟩
  (first | (have HBn := Lib.hid (ext_call HB.out hb)) | (have HBn := Lib.hid (ext_new HB.out hb))); clear HB hb; have HB := HBn; clear HBn
  go_wp2_with fail
  refine (live_any _).mono ?_
  rintro e w1 ⟨rfl, hb⟩
  (first | (have HBn := Lib.hid (ext_call HB.out hb)) | (have HBn := Lib.hid (ext_new HB.out hb))); clear HB hb; have HB := HBn; clear HBn
  go_wp2
  go_ret
  exact ⟨rfl, HB.out⟩

set_option maxRecDepth 100000 in
set_option maxHeartbeats 8000000 in
theorem rebases_l2 (s f t : ByteArray) (w : World) (h1 : s.size ≤ 300) (h2 : 300 < f.size) :
    Calls Tryd.prog 8 #[.string s, .string f, .string t] w fun e w' => e = .returned (.bool true) ∧ Below w.heap.size w w' := by
  have HB := Lib.hid (Below.refl w.heap.size w)
  go_enter Tryd.func8, Tryd.ntmps8
  go_wp2_with fail
  refine (long_no s _ h1).mono ?_
  rintro e w1 ⟨rfl, hb⟩
  (first | (have HBn := Lib.hid (ext_call HB.out hb)) | (have HBn := Lib.hid (ext_new HB.out hb))); clear HB hb; have HB := HBn; clear HBn
  go_wp2_with fail
  refine (long_yes f _ h2).mono ?_
  rintro e w1 ⟨rfl, hb⟩
  (first | (have HBn := Lib.hid (ext_call HB.out hb)) | (have HBn := Lib.hid (ext_new HB.out hb))); clear HB hb; have HB := HBn; clear HBn
  go_wp2_with fail
  refine (live_any _).mono ?_
  rintro e w1 ⟨rfl, hb⟩
  (first | (have HBn := Lib.hid (ext_call HB.out hb)) | (have HBn := Lib.hid (ext_new HB.out hb))); clear HB hb; have HB := HBn; clear HBn
  go_wp2
  go_ret
  exact ⟨rfl, HB.out⟩

set_option maxRecDepth 100000 in
set_option maxHeartbeats 8000000 in
theorem rebases_l3 (s f t : ByteArray) (w : World) (h1 : s.size ≤ 300) (h2 : f.size ≤ 300) (h3 : 300 < t.size) :
    Calls Tryd.prog 8 #[.string s, .string f, .string t] w fun e w' => e = .returned (.bool true) ∧ Below w.heap.size w w' := by
  have HB := Lib.hid (Below.refl w.heap.size w)
  go_enter Tryd.func8, Tryd.ntmps8
  go_wp2_with fail
  refine (long_no s _ h1).mono ?_
  rintro e w1 ⟨rfl, hb⟩
  (first | (have HBn := Lib.hid (ext_call HB.out hb)) | (have HBn := Lib.hid (ext_new HB.out hb))); clear HB hb; have HB := HBn; clear HBn
  go_wp2_with fail
  refine (long_no f _ h2).mono ?_
  rintro e w1 ⟨rfl, hb⟩
  (first | (have HBn := Lib.hid (ext_call HB.out hb)) | (have HBn := Lib.hid (ext_new HB.out hb))); clear HB hb; have HB := HBn; clear HBn
  go_wp2_with fail
  refine (long_yes t _ h3).mono ?_
  rintro e w1 ⟨rfl, hb⟩
  (first | (have HBn := Lib.hid (ext_call HB.out hb)) | (have HBn := Lib.hid (ext_new HB.out hb))); clear HB hb; have HB := HBn; clear HBn
  go_wp2_with fail
  refine (live_any _).mono ?_
  rintro e w1 ⟨rfl, hb⟩
  (first | (have HBn := Lib.hid (ext_call HB.out hb)) | (have HBn := Lib.hid (ext_new HB.out hb))); clear HB hb; have HB := HBn; clear HBn
  go_wp2
  go_ret
  exact ⟨rfl, HB.out⟩

set_option maxRecDepth 100000 in
set_option maxHeartbeats 8000000 in
theorem rebases_err (s f t : ByteArray) (w : World) (h1 : s.size ≤ 300) (h2 : f.size ≤ 300) (h3 : t.size ≤ 300) (he : (reb s.data.toList f.data.toList t.data.toList).2 ≠ 0) :
    Calls Tryd.prog 8 #[.string s, .string f, .string t] w fun e w' => e = .returned (.bool true) ∧ Below w.heap.size w w' := by
  have HB := Lib.hid (Below.refl w.heap.size w)
  have HE := Lib.hid he
  clear he
  go_enter Tryd.func8, Tryd.ntmps8
  go_wp2_with fail
  refine (long_no s _ h1).mono ?_
  rintro e w1 ⟨rfl, hb⟩
  (first | (have HBn := Lib.hid (ext_call HB.out hb)) | (have HBn := Lib.hid (ext_new HB.out hb))); clear HB hb; have HB := HBn; clear HBn
  go_wp2_with fail
  refine (long_no f _ h2).mono ?_
  rintro e w1 ⟨rfl, hb⟩
  (first | (have HBn := Lib.hid (ext_call HB.out hb)) | (have HBn := Lib.hid (ext_new HB.out hb))); clear HB hb; have HB := HBn; clear HBn
  go_wp2_with fail
  refine (long_no t _ h3).mono ?_
  rintro e w1 ⟨rfl, hb⟩
  (first | (have HBn := Lib.hid (ext_call HB.out hb)) | (have HBn := Lib.hid (ext_new HB.out hb))); clear HB hb; have HB := HBn; clear HBn
  go_wp2_with fail
  refine (txt_is (rebase_any s f t _ (by omega) (by omega) (by omega))).mono ?_
  rintro e w1 ⟨r, ce, rfl, hr, hb⟩
  have HR := Lib.hid hr
  have HRZ := Lib.hid (show r.size ≤ 100000 from sz_of (congrArg Prod.fst hr) (reb_le _ _ _))
  clear hr
  (first | (have HBn := Lib.hid (ext_call HB.out hb)) | (have HBn := Lib.hid (ext_new HB.out hb))); clear HB hb; have HB := HBn; clear HBn
  go_wp2_with fail
  refine (txt_to r ce (rrebase_any s f t _ (by omega) (by omega) (by omega)) HR.out).mono ?_
  rintro e w1 ⟨rfl, hb⟩
  (first | (have HBn := Lib.hid (ext_call HB.out hb)) | (have HBn := Lib.hid (ext_new HB.out hb))); clear HB hb; have HB := HBn; clear HBn
  go_wp2_with fail
  refine (live_any _).mono ?_
  rintro e w1 ⟨rfl, hb⟩
  (first | (have HBn := Lib.hid (ext_call HB.out hb)) | (have HBn := Lib.hid (ext_new HB.out hb))); clear HB hb; have HB := HBn; clear HBn
  have h0 : ce ≠ 0 := by have := HE.out; rw [HR.out] at this; exact this
  have h1 : (ce == 0) = false := by simpa using h0
  have h2 : (ce != 0) = true := by simpa using h0
  clear h0
  go_wp2
  go_ret
  exact ⟨rfl, HB.out⟩

set_option maxRecDepth 100000 in
set_option maxHeartbeats 8000000 in
theorem rebases_ok (s f t : ByteArray) (w : World) (h1 : s.size ≤ 300) (h2 : f.size ≤ 300) (h3 : t.size ≤ 300) (he : (reb s.data.toList f.data.toList t.data.toList).2 = 0) :
    Calls Tryd.prog 8 #[.string s, .string f, .string t] w fun e w' => e = .returned (.bool true) ∧ Below w.heap.size w w' := by
  have HB := Lib.hid (Below.refl w.heap.size w)
  have HE := Lib.hid he
  clear he
  go_enter Tryd.func8, Tryd.ntmps8
  go_wp2_with fail
  refine (long_no s _ h1).mono ?_
  rintro e w1 ⟨rfl, hb⟩
  (first | (have HBn := Lib.hid (ext_call HB.out hb)) | (have HBn := Lib.hid (ext_new HB.out hb))); clear HB hb; have HB := HBn; clear HBn
  go_wp2_with fail
  refine (long_no f _ h2).mono ?_
  rintro e w1 ⟨rfl, hb⟩
  (first | (have HBn := Lib.hid (ext_call HB.out hb)) | (have HBn := Lib.hid (ext_new HB.out hb))); clear HB hb; have HB := HBn; clear HBn
  go_wp2_with fail
  refine (long_no t _ h3).mono ?_
  rintro e w1 ⟨rfl, hb⟩
  (first | (have HBn := Lib.hid (ext_call HB.out hb)) | (have HBn := Lib.hid (ext_new HB.out hb))); clear HB hb; have HB := HBn; clear HBn
  go_wp2_with fail
  refine (txt_is (rebase_any s f t _ (by omega) (by omega) (by omega))).mono ?_
  rintro e w1 ⟨r, ce, rfl, hr, hb⟩
  have HR := Lib.hid hr
  have HRZ := Lib.hid (show r.size ≤ 100000 from sz_of (congrArg Prod.fst hr) (reb_le _ _ _))
  clear hr
  (first | (have HBn := Lib.hid (ext_call HB.out hb)) | (have HBn := Lib.hid (ext_new HB.out hb))); clear HB hb; have HB := HBn; clear HBn
  go_wp2_with fail
  refine (txt_to r ce (rrebase_any s f t _ (by omega) (by omega) (by omega)) HR.out).mono ?_
  rintro e w1 ⟨rfl, hb⟩
  (first | (have HBn := Lib.hid (ext_call HB.out hb)) | (have HBn := Lib.hid (ext_new HB.out hb))); clear HB hb; have HB := HBn; clear HBn
  go_wp2_with fail
  refine (live_any _).mono ?_
  rintro e w1 ⟨rfl, hb⟩
  (first | (have HBn := Lib.hid (ext_call HB.out hb)) | (have HBn := Lib.hid (ext_new HB.out hb))); clear HB hb; have HB := HBn; clear HBn
  have hc0 : ce = 0 := by have := HE.out; rw [HR.out] at this; exact this
  subst hc0
  have HL := Lib.hid (reb_law HE.out)
  rw [HR.out] at HL
  go_wp2_with fail
  refine (txt_to s 0 (rebase_any r t f _ HRZ.out (by omega) (by omega)) HL.out.1).mono ?_
  rintro e w1 ⟨rfl, hb⟩
  (first | (have HBn := Lib.hid (ext_call HB.out hb)) | (have HBn := Lib.hid (ext_new HB.out hb))); clear HB hb; have HB := HBn; clear HBn
  go_wp2_with fail
  refine (bool_is (under_any r t _ HRZ.out (by omega)) HL.out.2).mono ?_
  rintro e w1 ⟨rfl, hb⟩
  (first | (have HBn := Lib.hid (ext_call HB.out hb)) | (have HBn := Lib.hid (ext_new HB.out hb))); clear HB hb; have HB := HBn; clear HBn
  go_wp2
  go_ret
  exact ⟨rfl, HB.out⟩

set_option maxRecDepth 100000 in
set_option maxHeartbeats 8000000 in
theorem orders_l1 (a b c : ByteArray) (w : World) (h1 : 300 < a.size) :
    Calls Tryd.prog 9 #[.string a, .string b, .string c] w fun e w' => e = .returned (.bool true) ∧ Below w.heap.size w w' := by
  have HB := Lib.hid (Below.refl w.heap.size w)
  go_enter Tryd.func9, Tryd.ntmps9
  go_wp2_with fail
  refine (long_yes a _ h1).mono ?_
  rintro e w1 ⟨rfl, hb⟩
  (first | (have HBn := Lib.hid (ext_call HB.out hb)) | (have HBn := Lib.hid (ext_new HB.out hb))); clear HB hb; have HB := HBn; clear HBn
  go_wp2_with fail
  refine (live_any _).mono ?_
  rintro e w1 ⟨rfl, hb⟩
  (first | (have HBn := Lib.hid (ext_call HB.out hb)) | (have HBn := Lib.hid (ext_new HB.out hb))); clear HB hb; have HB := HBn; clear HBn
  go_wp2
  go_ret
  exact ⟨rfl, HB.out⟩

set_option maxRecDepth 100000 in
set_option maxHeartbeats 8000000 in
theorem orders_l2 (a b c : ByteArray) (w : World) (h1 : a.size ≤ 300) (h2 : 300 < b.size) :
    Calls Tryd.prog 9 #[.string a, .string b, .string c] w fun e w' => e = .returned (.bool true) ∧ Below w.heap.size w w' := by
  have HB := Lib.hid (Below.refl w.heap.size w)
  go_enter Tryd.func9, Tryd.ntmps9
  go_wp2_with fail
  refine (long_no a _ h1).mono ?_
  rintro e w1 ⟨rfl, hb⟩
  (first | (have HBn := Lib.hid (ext_call HB.out hb)) | (have HBn := Lib.hid (ext_new HB.out hb))); clear HB hb; have HB := HBn; clear HBn
  go_wp2_with fail
  refine (long_yes b _ h2).mono ?_
  rintro e w1 ⟨rfl, hb⟩
  (first | (have HBn := Lib.hid (ext_call HB.out hb)) | (have HBn := Lib.hid (ext_new HB.out hb))); clear HB hb; have HB := HBn; clear HBn
  go_wp2_with fail
  refine (live_any _).mono ?_
  rintro e w1 ⟨rfl, hb⟩
  (first | (have HBn := Lib.hid (ext_call HB.out hb)) | (have HBn := Lib.hid (ext_new HB.out hb))); clear HB hb; have HB := HBn; clear HBn
  go_wp2
  go_ret
  exact ⟨rfl, HB.out⟩

set_option maxRecDepth 100000 in
set_option maxHeartbeats 8000000 in
theorem orders_l3 (a b c : ByteArray) (w : World) (h1 : a.size ≤ 300) (h2 : b.size ≤ 300) (h3 : 300 < c.size) :
    Calls Tryd.prog 9 #[.string a, .string b, .string c] w fun e w' => e = .returned (.bool true) ∧ Below w.heap.size w w' := by
  have HB := Lib.hid (Below.refl w.heap.size w)
  go_enter Tryd.func9, Tryd.ntmps9
  go_wp2_with fail
  refine (long_no a _ h1).mono ?_
  rintro e w1 ⟨rfl, hb⟩
  (first | (have HBn := Lib.hid (ext_call HB.out hb)) | (have HBn := Lib.hid (ext_new HB.out hb))); clear HB hb; have HB := HBn; clear HBn
  go_wp2_with fail
  refine (long_no b _ h2).mono ?_
  rintro e w1 ⟨rfl, hb⟩
  (first | (have HBn := Lib.hid (ext_call HB.out hb)) | (have HBn := Lib.hid (ext_new HB.out hb))); clear HB hb; have HB := HBn; clear HBn
  go_wp2_with fail
  refine (long_yes c _ h3).mono ?_
  rintro e w1 ⟨rfl, hb⟩
  (first | (have HBn := Lib.hid (ext_call HB.out hb)) | (have HBn := Lib.hid (ext_new HB.out hb))); clear HB hb; have HB := HBn; clear HBn
  go_wp2_with fail
  refine (live_any _).mono ?_
  rintro e w1 ⟨rfl, hb⟩
  (first | (have HBn := Lib.hid (ext_call HB.out hb)) | (have HBn := Lib.hid (ext_new HB.out hb))); clear HB hb; have HB := HBn; clear HBn
  go_wp2
  go_ret
  exact ⟨rfl, HB.out⟩

set_option maxRecDepth 100000 in
set_option maxHeartbeats 8000000 in
theorem orders_11t (a b c : ByteArray) (w : World) (x y z : Int) (hx : cmpN a.data.toList b.data.toList = x) (hy : cmpN b.data.toList c.data.toList = y) (hz : cmpN a.data.toList c.data.toList = z) (h1 : a.size ≤ 300) (h2 : b.size ≤ 300) (h3 : c.size ≤ 300) (he : a = b) (hub : und b.data.toList a.data.toList = true) (h0 : x ≤ 0) (h4 : 0 < y) :
    Calls Tryd.prog 9 #[.string a, .string b, .string c] w fun e w' => e = .returned (.bool true) ∧ Below w.heap.size w w' := by
  have HB := Lib.hid (Below.refl w.heap.size w)
  have HX := Lib.hid hx
  have HY := Lib.hid hy
  have HZ := Lib.hid hz
  have hr := cmpN_range a.data.toList b.data.toList
  rw [hx] at hr
  obtain ⟨r1, r2⟩ := hr
  have HN := Lib.hid (show cmpN b.data.toList a.data.toList = -x by rw [cmpN_neg, hx])
  have hwx : IntKind.i64.wrap (-x) = -x := IntWalk.i64_in _ (by omega)
  subst he
  have hx0 : x = 0 := by rw [← hx]; exact (cmpN_zero _ _).2 rfl
  subst hx0
  have HUB := Lib.hid hub
  have t2 : decide (y ≤ 0) = false := by simp; omega
  clear hx hy hz hub
  go_enter Tryd.func9, Tryd.ntmps9
  go_wp2_with fail
  refine (long_no a _ h1).mono ?_
  rintro e w1 ⟨rfl, hb⟩
  (first | (have HBn := Lib.hid (ext_call HB.out hb)) | (have HBn := Lib.hid (ext_new HB.out hb))); clear HB hb; have HB := HBn; clear HBn
  go_wp2_with fail
  refine (long_no a _ h2).mono ?_
  rintro e w1 ⟨rfl, hb⟩
  (first | (have HBn := Lib.hid (ext_call HB.out hb)) | (have HBn := Lib.hid (ext_new HB.out hb))); clear HB hb; have HB := HBn; clear HBn
  go_wp2_with fail
  refine (long_no c _ h3).mono ?_
  rintro e w1 ⟨rfl, hb⟩
  (first | (have HBn := Lib.hid (ext_call HB.out hb)) | (have HBn := Lib.hid (ext_new HB.out hb))); clear HB hb; have HB := HBn; clear HBn
  go_wp2_with fail
  refine (int_is (compareN_any a a _ (by omega) (by omega)) HX.out).mono ?_
  rintro e w1 ⟨rfl, hb⟩
  (first | (have HBn := Lib.hid (ext_call HB.out hb)) | (have HBn := Lib.hid (ext_new HB.out hb))); clear HB hb; have HB := HBn; clear HBn
  go_wp2_with fail
  refine (int_is (compareN_any a c _ (by omega) (by omega)) HY.out).mono ?_
  rintro e w1 ⟨rfl, hb⟩
  (first | (have HBn := Lib.hid (ext_call HB.out hb)) | (have HBn := Lib.hid (ext_new HB.out hb))); clear HB hb; have HB := HBn; clear HBn
  go_wp2_with fail
  refine (int_is (rcompareN_any a a _ (by omega) (by omega)) HX.out).mono ?_
  rintro e w1 ⟨rfl, hb⟩
  (first | (have HBn := Lib.hid (ext_call HB.out hb)) | (have HBn := Lib.hid (ext_new HB.out hb))); clear HB hb; have HB := HBn; clear HBn
  go_wp2_with fail
  refine (int_is (compareN_any a a _ (by omega) (by omega)) HN.out).mono ?_
  rintro e w1 ⟨rfl, hb⟩
  (first | (have HBn := Lib.hid (ext_call HB.out hb)) | (have HBn := Lib.hid (ext_new HB.out hb))); clear HB hb; have HB := HBn; clear HBn
  go_wp2_with fail
  refine (live_any _).mono ?_
  rintro e w1 ⟨rfl, hb⟩
  (first | (have HBn := Lib.hid (ext_call HB.out hb)) | (have HBn := Lib.hid (ext_new HB.out hb))); clear HB hb; have HB := HBn; clear HBn
  go_wp2
  go_ret
  exact ⟨rfl, HB.out⟩

set_option maxRecDepth 100000 in
set_option maxHeartbeats 8000000 in
theorem orders_12t (a b c : ByteArray) (w : World) (x y z : Int) (hx : cmpN a.data.toList b.data.toList = x) (hy : cmpN b.data.toList c.data.toList = y) (hz : cmpN a.data.toList c.data.toList = z) (h1 : a.size ≤ 300) (h2 : b.size ≤ 300) (h3 : c.size ≤ 300) (he : a = b) (hub : und b.data.toList a.data.toList = true) (h0 : x ≤ 0) (h4 : y ≤ 0) :
    Calls Tryd.prog 9 #[.string a, .string b, .string c] w fun e w' => e = .returned (.bool true) ∧ Below w.heap.size w w' := by
  have HB := Lib.hid (Below.refl w.heap.size w)
  have HX := Lib.hid hx
  have HY := Lib.hid hy
  have HZ := Lib.hid hz
  have hr := cmpN_range a.data.toList b.data.toList
  rw [hx] at hr
  obtain ⟨r1, r2⟩ := hr
  have HN := Lib.hid (show cmpN b.data.toList a.data.toList = -x by rw [cmpN_neg, hx])
  have hwx : IntKind.i64.wrap (-x) = -x := IntWalk.i64_in _ (by omega)
  subst he
  have hx0 : x = 0 := by rw [← hx]; exact (cmpN_zero _ _).2 rfl
  subst hx0
  have HUB := Lib.hid hub
  have t2 : decide (y ≤ 0) = true := by simp; omega
  have hz0 : z ≤ 0 := by rw [← hz]; exact cmpN_trans _ _ _ (by rw [HX.out]; exact h0) (by rw [hy]; exact h4)
  have t3 : decide (0 < z) = false := by simp; omega
  clear hx hy hz hub
  go_enter Tryd.func9, Tryd.ntmps9
  go_wp2_with fail
  refine (long_no a _ h1).mono ?_
  rintro e w1 ⟨rfl, hb⟩
  (first | (have HBn := Lib.hid (ext_call HB.out hb)) | (have HBn := Lib.hid (ext_new HB.out hb))); clear HB hb; have HB := HBn; clear HBn
  go_wp2_with fail
  refine (long_no a _ h2).mono ?_
  rintro e w1 ⟨rfl, hb⟩
  (first | (have HBn := Lib.hid (ext_call HB.out hb)) | (have HBn := Lib.hid (ext_new HB.out hb))); clear HB hb; have HB := HBn; clear HBn
  go_wp2_with fail
  refine (long_no c _ h3).mono ?_
  rintro e w1 ⟨rfl, hb⟩
  (first | (have HBn := Lib.hid (ext_call HB.out hb)) | (have HBn := Lib.hid (ext_new HB.out hb))); clear HB hb; have HB := HBn; clear HBn
  go_wp2_with fail
  refine (int_is (compareN_any a a _ (by omega) (by omega)) HX.out).mono ?_
  rintro e w1 ⟨rfl, hb⟩
  (first | (have HBn := Lib.hid (ext_call HB.out hb)) | (have HBn := Lib.hid (ext_new HB.out hb))); clear HB hb; have HB := HBn; clear HBn
  go_wp2_with fail
  refine (int_is (compareN_any a c _ (by omega) (by omega)) HY.out).mono ?_
  rintro e w1 ⟨rfl, hb⟩
  (first | (have HBn := Lib.hid (ext_call HB.out hb)) | (have HBn := Lib.hid (ext_new HB.out hb))); clear HB hb; have HB := HBn; clear HBn
  go_wp2_with fail
  refine (int_is (rcompareN_any a a _ (by omega) (by omega)) HX.out).mono ?_
  rintro e w1 ⟨rfl, hb⟩
  (first | (have HBn := Lib.hid (ext_call HB.out hb)) | (have HBn := Lib.hid (ext_new HB.out hb))); clear HB hb; have HB := HBn; clear HBn
  go_wp2_with fail
  refine (int_is (compareN_any a a _ (by omega) (by omega)) HN.out).mono ?_
  rintro e w1 ⟨rfl, hb⟩
  (first | (have HBn := Lib.hid (ext_call HB.out hb)) | (have HBn := Lib.hid (ext_new HB.out hb))); clear HB hb; have HB := HBn; clear HBn
  go_wp2_with fail
  refine (int_is (compareN_any a c _ (by omega) (by omega)) HZ.out).mono ?_
  rintro e w1 ⟨rfl, hb⟩
  (first | (have HBn := Lib.hid (ext_call HB.out hb)) | (have HBn := Lib.hid (ext_new HB.out hb))); clear HB hb; have HB := HBn; clear HBn
  go_wp2_with fail
  refine (live_any _).mono ?_
  rintro e w1 ⟨rfl, hb⟩
  (first | (have HBn := Lib.hid (ext_call HB.out hb)) | (have HBn := Lib.hid (ext_new HB.out hb))); clear HB hb; have HB := HBn; clear HBn
  go_wp2
  go_ret
  exact ⟨rfl, HB.out⟩

set_option maxRecDepth 100000 in
set_option maxHeartbeats 8000000 in
theorem orders_11f (a b c : ByteArray) (w : World) (x y z : Int) (hx : cmpN a.data.toList b.data.toList = x) (hy : cmpN b.data.toList c.data.toList = y) (hz : cmpN a.data.toList c.data.toList = z) (h1 : a.size ≤ 300) (h2 : b.size ≤ 300) (h3 : c.size ≤ 300) (he : a = b) (hub : und b.data.toList a.data.toList = false) (h0 : x ≤ 0) (h4 : 0 < y) :
    Calls Tryd.prog 9 #[.string a, .string b, .string c] w fun e w' => e = .returned (.bool true) ∧ Below w.heap.size w w' := by
  have HB := Lib.hid (Below.refl w.heap.size w)
  have HX := Lib.hid hx
  have HY := Lib.hid hy
  have HZ := Lib.hid hz
  have hr := cmpN_range a.data.toList b.data.toList
  rw [hx] at hr
  obtain ⟨r1, r2⟩ := hr
  have HN := Lib.hid (show cmpN b.data.toList a.data.toList = -x by rw [cmpN_neg, hx])
  have hwx : IntKind.i64.wrap (-x) = -x := IntWalk.i64_in _ (by omega)
  subst he
  have hx0 : x = 0 := by rw [← hx]; exact (cmpN_zero _ _).2 rfl
  subst hx0
  have HUB := Lib.hid hub
  have t2 : decide (y ≤ 0) = false := by simp; omega
  clear hx hy hz hub
  go_enter Tryd.func9, Tryd.ntmps9
  go_wp2_with fail
  refine (long_no a _ h1).mono ?_
  rintro e w1 ⟨rfl, hb⟩
  (first | (have HBn := Lib.hid (ext_call HB.out hb)) | (have HBn := Lib.hid (ext_new HB.out hb))); clear HB hb; have HB := HBn; clear HBn
  go_wp2_with fail
  refine (long_no a _ h2).mono ?_
  rintro e w1 ⟨rfl, hb⟩
  (first | (have HBn := Lib.hid (ext_call HB.out hb)) | (have HBn := Lib.hid (ext_new HB.out hb))); clear HB hb; have HB := HBn; clear HBn
  go_wp2_with fail
  refine (long_no c _ h3).mono ?_
  rintro e w1 ⟨rfl, hb⟩
  (first | (have HBn := Lib.hid (ext_call HB.out hb)) | (have HBn := Lib.hid (ext_new HB.out hb))); clear HB hb; have HB := HBn; clear HBn
  go_wp2_with fail
  refine (int_is (compareN_any a a _ (by omega) (by omega)) HX.out).mono ?_
  rintro e w1 ⟨rfl, hb⟩
  (first | (have HBn := Lib.hid (ext_call HB.out hb)) | (have HBn := Lib.hid (ext_new HB.out hb))); clear HB hb; have HB := HBn; clear HBn
  go_wp2_with fail
  refine (int_is (compareN_any a c _ (by omega) (by omega)) HY.out).mono ?_
  rintro e w1 ⟨rfl, hb⟩
  (first | (have HBn := Lib.hid (ext_call HB.out hb)) | (have HBn := Lib.hid (ext_new HB.out hb))); clear HB hb; have HB := HBn; clear HBn
  go_wp2_with fail
  refine (int_is (rcompareN_any a a _ (by omega) (by omega)) HX.out).mono ?_
  rintro e w1 ⟨rfl, hb⟩
  (first | (have HBn := Lib.hid (ext_call HB.out hb)) | (have HBn := Lib.hid (ext_new HB.out hb))); clear HB hb; have HB := HBn; clear HBn
  go_wp2_with fail
  refine (int_is (compareN_any a a _ (by omega) (by omega)) HN.out).mono ?_
  rintro e w1 ⟨rfl, hb⟩
  (first | (have HBn := Lib.hid (ext_call HB.out hb)) | (have HBn := Lib.hid (ext_new HB.out hb))); clear HB hb; have HB := HBn; clear HBn
  go_wp2_with fail
  refine (live_any _).mono ?_
  rintro e w1 ⟨rfl, hb⟩
  (first | (have HBn := Lib.hid (ext_call HB.out hb)) | (have HBn := Lib.hid (ext_new HB.out hb))); clear HB hb; have HB := HBn; clear HBn
  go_wp2
  go_ret
  exact ⟨rfl, HB.out⟩

set_option maxRecDepth 100000 in
set_option maxHeartbeats 8000000 in
theorem orders_12f (a b c : ByteArray) (w : World) (x y z : Int) (hx : cmpN a.data.toList b.data.toList = x) (hy : cmpN b.data.toList c.data.toList = y) (hz : cmpN a.data.toList c.data.toList = z) (h1 : a.size ≤ 300) (h2 : b.size ≤ 300) (h3 : c.size ≤ 300) (he : a = b) (hub : und b.data.toList a.data.toList = false) (h0 : x ≤ 0) (h4 : y ≤ 0) :
    Calls Tryd.prog 9 #[.string a, .string b, .string c] w fun e w' => e = .returned (.bool true) ∧ Below w.heap.size w w' := by
  have HB := Lib.hid (Below.refl w.heap.size w)
  have HX := Lib.hid hx
  have HY := Lib.hid hy
  have HZ := Lib.hid hz
  have hr := cmpN_range a.data.toList b.data.toList
  rw [hx] at hr
  obtain ⟨r1, r2⟩ := hr
  have HN := Lib.hid (show cmpN b.data.toList a.data.toList = -x by rw [cmpN_neg, hx])
  have hwx : IntKind.i64.wrap (-x) = -x := IntWalk.i64_in _ (by omega)
  subst he
  have hx0 : x = 0 := by rw [← hx]; exact (cmpN_zero _ _).2 rfl
  subst hx0
  have HUB := Lib.hid hub
  have t2 : decide (y ≤ 0) = true := by simp; omega
  have hz0 : z ≤ 0 := by rw [← hz]; exact cmpN_trans _ _ _ (by rw [HX.out]; exact h0) (by rw [hy]; exact h4)
  have t3 : decide (0 < z) = false := by simp; omega
  clear hx hy hz hub
  go_enter Tryd.func9, Tryd.ntmps9
  go_wp2_with fail
  refine (long_no a _ h1).mono ?_
  rintro e w1 ⟨rfl, hb⟩
  (first | (have HBn := Lib.hid (ext_call HB.out hb)) | (have HBn := Lib.hid (ext_new HB.out hb))); clear HB hb; have HB := HBn; clear HBn
  go_wp2_with fail
  refine (long_no a _ h2).mono ?_
  rintro e w1 ⟨rfl, hb⟩
  (first | (have HBn := Lib.hid (ext_call HB.out hb)) | (have HBn := Lib.hid (ext_new HB.out hb))); clear HB hb; have HB := HBn; clear HBn
  go_wp2_with fail
  refine (long_no c _ h3).mono ?_
  rintro e w1 ⟨rfl, hb⟩
  (first | (have HBn := Lib.hid (ext_call HB.out hb)) | (have HBn := Lib.hid (ext_new HB.out hb))); clear HB hb; have HB := HBn; clear HBn
  go_wp2_with fail
  refine (int_is (compareN_any a a _ (by omega) (by omega)) HX.out).mono ?_
  rintro e w1 ⟨rfl, hb⟩
  (first | (have HBn := Lib.hid (ext_call HB.out hb)) | (have HBn := Lib.hid (ext_new HB.out hb))); clear HB hb; have HB := HBn; clear HBn
  go_wp2_with fail
  refine (int_is (compareN_any a c _ (by omega) (by omega)) HY.out).mono ?_
  rintro e w1 ⟨rfl, hb⟩
  (first | (have HBn := Lib.hid (ext_call HB.out hb)) | (have HBn := Lib.hid (ext_new HB.out hb))); clear HB hb; have HB := HBn; clear HBn
  go_wp2_with fail
  refine (int_is (rcompareN_any a a _ (by omega) (by omega)) HX.out).mono ?_
  rintro e w1 ⟨rfl, hb⟩
  (first | (have HBn := Lib.hid (ext_call HB.out hb)) | (have HBn := Lib.hid (ext_new HB.out hb))); clear HB hb; have HB := HBn; clear HBn
  go_wp2_with fail
  refine (int_is (compareN_any a a _ (by omega) (by omega)) HN.out).mono ?_
  rintro e w1 ⟨rfl, hb⟩
  (first | (have HBn := Lib.hid (ext_call HB.out hb)) | (have HBn := Lib.hid (ext_new HB.out hb))); clear HB hb; have HB := HBn; clear HBn
  go_wp2_with fail
  refine (int_is (compareN_any a c _ (by omega) (by omega)) HZ.out).mono ?_
  rintro e w1 ⟨rfl, hb⟩
  (first | (have HBn := Lib.hid (ext_call HB.out hb)) | (have HBn := Lib.hid (ext_new HB.out hb))); clear HB hb; have HB := HBn; clear HBn
  go_wp2_with fail
  refine (live_any _).mono ?_
  rintro e w1 ⟨rfl, hb⟩
  (first | (have HBn := Lib.hid (ext_call HB.out hb)) | (have HBn := Lib.hid (ext_new HB.out hb))); clear HB hb; have HB := HBn; clear HBn
  go_wp2
  go_ret
  exact ⟨rfl, HB.out⟩

set_option maxRecDepth 100000 in
set_option maxHeartbeats 8000000 in
theorem orders_00f (a b c : ByteArray) (w : World) (x y z : Int) (hx : cmpN a.data.toList b.data.toList = x) (hy : cmpN b.data.toList c.data.toList = y) (hz : cmpN a.data.toList c.data.toList = z) (h1 : a.size ≤ 300) (h2 : b.size ≤ 300) (h3 : c.size ≤ 300) (he : ¬ a = b) (hub : und b.data.toList a.data.toList = false) (h0 : 0 < x) :
    Calls Tryd.prog 9 #[.string a, .string b, .string c] w fun e w' => e = .returned (.bool true) ∧ Below w.heap.size w w' := by
  have HB := Lib.hid (Below.refl w.heap.size w)
  have HX := Lib.hid hx
  have HY := Lib.hid hy
  have HZ := Lib.hid hz
  have hr := cmpN_range a.data.toList b.data.toList
  rw [hx] at hr
  obtain ⟨r1, r2⟩ := hr
  have HN := Lib.hid (show cmpN b.data.toList a.data.toList = -x by rw [cmpN_neg, hx])
  have hwx : IntKind.i64.wrap (-x) = -x := IntWalk.i64_in _ (by omega)
  have hx0 : (x == 0) = false := by
    rw [beq_eq_false_iff_ne]
    intro h
    rw [h] at hx
    exact he (ba_ext ((cmpN_zero _ _).1 hx))
  have HAB := Lib.hid he
  have hab : (a.toList == b.toList) = false := neq_of he
  clear he
  have HUB := Lib.hid hub
  have t1 : decide (x ≤ 0) = false := by simp; omega
  clear hx hy hz hub
  go_enter Tryd.func9, Tryd.ntmps9
  go_wp2_with fail
  refine (long_no a _ h1).mono ?_
  rintro e w1 ⟨rfl, hb⟩
  (first | (have HBn := Lib.hid (ext_call HB.out hb)) | (have HBn := Lib.hid (ext_new HB.out hb))); clear HB hb; have HB := HBn; clear HBn
  go_wp2_with fail
  refine (long_no b _ h2).mono ?_
  rintro e w1 ⟨rfl, hb⟩
  (first | (have HBn := Lib.hid (ext_call HB.out hb)) | (have HBn := Lib.hid (ext_new HB.out hb))); clear HB hb; have HB := HBn; clear HBn
  go_wp2_with fail
  refine (long_no c _ h3).mono ?_
  rintro e w1 ⟨rfl, hb⟩
  (first | (have HBn := Lib.hid (ext_call HB.out hb)) | (have HBn := Lib.hid (ext_new HB.out hb))); clear HB hb; have HB := HBn; clear HBn
  go_wp2_with fail
  refine (int_is (compareN_any a b _ (by omega) (by omega)) HX.out).mono ?_
  rintro e w1 ⟨rfl, hb⟩
  (first | (have HBn := Lib.hid (ext_call HB.out hb)) | (have HBn := Lib.hid (ext_new HB.out hb))); clear HB hb; have HB := HBn; clear HBn
  go_wp2_with fail
  refine (int_is (compareN_any b c _ (by omega) (by omega)) HY.out).mono ?_
  rintro e w1 ⟨rfl, hb⟩
  (first | (have HBn := Lib.hid (ext_call HB.out hb)) | (have HBn := Lib.hid (ext_new HB.out hb))); clear HB hb; have HB := HBn; clear HBn
  go_wp2_with fail
  refine (int_is (rcompareN_any a b _ (by omega) (by omega)) HX.out).mono ?_
  rintro e w1 ⟨rfl, hb⟩
  (first | (have HBn := Lib.hid (ext_call HB.out hb)) | (have HBn := Lib.hid (ext_new HB.out hb))); clear HB hb; have HB := HBn; clear HBn
  go_wp2_with fail
  refine (int_is (compareN_any b a _ (by omega) (by omega)) HN.out).mono ?_
  rintro e w1 ⟨rfl, hb⟩
  (first | (have HBn := Lib.hid (ext_call HB.out hb)) | (have HBn := Lib.hid (ext_new HB.out hb))); clear HB hb; have HB := HBn; clear HBn
  go_wp2_with fail
  refine (bool_is (under_any b a _ (by omega) (by omega)) HUB.out).mono ?_
  rintro e w1 ⟨rfl, hb⟩
  (first | (have HBn := Lib.hid (ext_call HB.out hb)) | (have HBn := Lib.hid (ext_new HB.out hb))); clear HB hb; have HB := HBn; clear HBn
  go_wp2_with fail
  refine (live_any _).mono ?_
  rintro e w1 ⟨rfl, hb⟩
  (first | (have HBn := Lib.hid (ext_call HB.out hb)) | (have HBn := Lib.hid (ext_new HB.out hb))); clear HB hb; have HB := HBn; clear HBn
  go_wp2
  go_ret
  exact ⟨rfl, HB.out⟩

set_option maxRecDepth 100000 in
set_option maxHeartbeats 8000000 in
theorem orders_01t (a b c : ByteArray) (w : World) (x y z : Int) (hx : cmpN a.data.toList b.data.toList = x) (hy : cmpN b.data.toList c.data.toList = y) (hz : cmpN a.data.toList c.data.toList = z) (h1 : a.size ≤ 300) (h2 : b.size ≤ 300) (h3 : c.size ≤ 300) (he : ¬ a = b) (hub : und b.data.toList a.data.toList = true) (h0 : x ≤ 0) (h4 : 0 < y) :
    Calls Tryd.prog 9 #[.string a, .string b, .string c] w fun e w' => e = .returned (.bool true) ∧ Below w.heap.size w w' := by
  have HB := Lib.hid (Below.refl w.heap.size w)
  have HX := Lib.hid hx
  have HY := Lib.hid hy
  have HZ := Lib.hid hz
  have hr := cmpN_range a.data.toList b.data.toList
  rw [hx] at hr
  obtain ⟨r1, r2⟩ := hr
  have HN := Lib.hid (show cmpN b.data.toList a.data.toList = -x by rw [cmpN_neg, hx])
  have hwx : IntKind.i64.wrap (-x) = -x := IntWalk.i64_in _ (by omega)
  have hx0 : (x == 0) = false := by
    rw [beq_eq_false_iff_ne]
    intro h
    rw [h] at hx
    exact he (ba_ext ((cmpN_zero _ _).1 hx))
  have HAB := Lib.hid he
  have hab : (a.toList == b.toList) = false := neq_of he
  clear he
  have HUB := Lib.hid hub
  have hx1 : x = -1 := by rw [← hx]; exact cmpN_und hub (fun e => HAB.out (ba_ext e))
  subst hx1
  have t2 : decide (y ≤ 0) = false := by simp; omega
  clear hx hy hz hub
  go_enter Tryd.func9, Tryd.ntmps9
  go_wp2_with fail
  refine (long_no a _ h1).mono ?_
  rintro e w1 ⟨rfl, hb⟩
  (first | (have HBn := Lib.hid (ext_call HB.out hb)) | (have HBn := Lib.hid (ext_new HB.out hb))); clear HB hb; have HB := HBn; clear HBn
  go_wp2_with fail
  refine (long_no b _ h2).mono ?_
  rintro e w1 ⟨rfl, hb⟩
  (first | (have HBn := Lib.hid (ext_call HB.out hb)) | (have HBn := Lib.hid (ext_new HB.out hb))); clear HB hb; have HB := HBn; clear HBn
  go_wp2_with fail
  refine (long_no c _ h3).mono ?_
  rintro e w1 ⟨rfl, hb⟩
  (first | (have HBn := Lib.hid (ext_call HB.out hb)) | (have HBn := Lib.hid (ext_new HB.out hb))); clear HB hb; have HB := HBn; clear HBn
  go_wp2_with fail
  refine (int_is (compareN_any a b _ (by omega) (by omega)) HX.out).mono ?_
  rintro e w1 ⟨rfl, hb⟩
  (first | (have HBn := Lib.hid (ext_call HB.out hb)) | (have HBn := Lib.hid (ext_new HB.out hb))); clear HB hb; have HB := HBn; clear HBn
  go_wp2_with fail
  refine (int_is (compareN_any b c _ (by omega) (by omega)) HY.out).mono ?_
  rintro e w1 ⟨rfl, hb⟩
  (first | (have HBn := Lib.hid (ext_call HB.out hb)) | (have HBn := Lib.hid (ext_new HB.out hb))); clear HB hb; have HB := HBn; clear HBn
  go_wp2_with fail
  refine (int_is (rcompareN_any a b _ (by omega) (by omega)) HX.out).mono ?_
  rintro e w1 ⟨rfl, hb⟩
  (first | (have HBn := Lib.hid (ext_call HB.out hb)) | (have HBn := Lib.hid (ext_new HB.out hb))); clear HB hb; have HB := HBn; clear HBn
  go_wp2_with fail
  refine (int_is (compareN_any b a _ (by omega) (by omega)) HN.out).mono ?_
  rintro e w1 ⟨rfl, hb⟩
  (first | (have HBn := Lib.hid (ext_call HB.out hb)) | (have HBn := Lib.hid (ext_new HB.out hb))); clear HB hb; have HB := HBn; clear HBn
  go_wp2_with fail
  refine (bool_is (under_any b a _ (by omega) (by omega)) HUB.out).mono ?_
  rintro e w1 ⟨rfl, hb⟩
  (first | (have HBn := Lib.hid (ext_call HB.out hb)) | (have HBn := Lib.hid (ext_new HB.out hb))); clear HB hb; have HB := HBn; clear HBn
  go_wp2_with fail
  refine (live_any _).mono ?_
  rintro e w1 ⟨rfl, hb⟩
  (first | (have HBn := Lib.hid (ext_call HB.out hb)) | (have HBn := Lib.hid (ext_new HB.out hb))); clear HB hb; have HB := HBn; clear HBn
  go_wp2
  go_ret
  exact ⟨rfl, HB.out⟩

set_option maxRecDepth 100000 in
set_option maxHeartbeats 8000000 in
theorem orders_02t (a b c : ByteArray) (w : World) (x y z : Int) (hx : cmpN a.data.toList b.data.toList = x) (hy : cmpN b.data.toList c.data.toList = y) (hz : cmpN a.data.toList c.data.toList = z) (h1 : a.size ≤ 300) (h2 : b.size ≤ 300) (h3 : c.size ≤ 300) (he : ¬ a = b) (hub : und b.data.toList a.data.toList = true) (h0 : x ≤ 0) (h4 : y ≤ 0) :
    Calls Tryd.prog 9 #[.string a, .string b, .string c] w fun e w' => e = .returned (.bool true) ∧ Below w.heap.size w w' := by
  have HB := Lib.hid (Below.refl w.heap.size w)
  have HX := Lib.hid hx
  have HY := Lib.hid hy
  have HZ := Lib.hid hz
  have hr := cmpN_range a.data.toList b.data.toList
  rw [hx] at hr
  obtain ⟨r1, r2⟩ := hr
  have HN := Lib.hid (show cmpN b.data.toList a.data.toList = -x by rw [cmpN_neg, hx])
  have hwx : IntKind.i64.wrap (-x) = -x := IntWalk.i64_in _ (by omega)
  have hx0 : (x == 0) = false := by
    rw [beq_eq_false_iff_ne]
    intro h
    rw [h] at hx
    exact he (ba_ext ((cmpN_zero _ _).1 hx))
  have HAB := Lib.hid he
  have hab : (a.toList == b.toList) = false := neq_of he
  clear he
  have HUB := Lib.hid hub
  have hx1 : x = -1 := by rw [← hx]; exact cmpN_und hub (fun e => HAB.out (ba_ext e))
  subst hx1
  have t2 : decide (y ≤ 0) = true := by simp; omega
  have hz0 : z ≤ 0 := by rw [← hz]; exact cmpN_trans _ _ _ (by rw [HX.out]; exact h0) (by rw [hy]; exact h4)
  have t3 : decide (0 < z) = false := by simp; omega
  clear hx hy hz hub
  go_enter Tryd.func9, Tryd.ntmps9
  go_wp2_with fail
  refine (long_no a _ h1).mono ?_
  rintro e w1 ⟨rfl, hb⟩
  (first | (have HBn := Lib.hid (ext_call HB.out hb)) | (have HBn := Lib.hid (ext_new HB.out hb))); clear HB hb; have HB := HBn; clear HBn
  go_wp2_with fail
  refine (long_no b _ h2).mono ?_
  rintro e w1 ⟨rfl, hb⟩
  (first | (have HBn := Lib.hid (ext_call HB.out hb)) | (have HBn := Lib.hid (ext_new HB.out hb))); clear HB hb; have HB := HBn; clear HBn
  go_wp2_with fail
  refine (long_no c _ h3).mono ?_
  rintro e w1 ⟨rfl, hb⟩
  (first | (have HBn := Lib.hid (ext_call HB.out hb)) | (have HBn := Lib.hid (ext_new HB.out hb))); clear HB hb; have HB := HBn; clear HBn
  go_wp2_with fail
  refine (int_is (compareN_any a b _ (by omega) (by omega)) HX.out).mono ?_
  rintro e w1 ⟨rfl, hb⟩
  (first | (have HBn := Lib.hid (ext_call HB.out hb)) | (have HBn := Lib.hid (ext_new HB.out hb))); clear HB hb; have HB := HBn; clear HBn
  go_wp2_with fail
  refine (int_is (compareN_any b c _ (by omega) (by omega)) HY.out).mono ?_
  rintro e w1 ⟨rfl, hb⟩
  (first | (have HBn := Lib.hid (ext_call HB.out hb)) | (have HBn := Lib.hid (ext_new HB.out hb))); clear HB hb; have HB := HBn; clear HBn
  go_wp2_with fail
  refine (int_is (rcompareN_any a b _ (by omega) (by omega)) HX.out).mono ?_
  rintro e w1 ⟨rfl, hb⟩
  (first | (have HBn := Lib.hid (ext_call HB.out hb)) | (have HBn := Lib.hid (ext_new HB.out hb))); clear HB hb; have HB := HBn; clear HBn
  go_wp2_with fail
  refine (int_is (compareN_any b a _ (by omega) (by omega)) HN.out).mono ?_
  rintro e w1 ⟨rfl, hb⟩
  (first | (have HBn := Lib.hid (ext_call HB.out hb)) | (have HBn := Lib.hid (ext_new HB.out hb))); clear HB hb; have HB := HBn; clear HBn
  go_wp2_with fail
  refine (int_is (compareN_any a c _ (by omega) (by omega)) HZ.out).mono ?_
  rintro e w1 ⟨rfl, hb⟩
  (first | (have HBn := Lib.hid (ext_call HB.out hb)) | (have HBn := Lib.hid (ext_new HB.out hb))); clear HB hb; have HB := HBn; clear HBn
  go_wp2_with fail
  refine (bool_is (under_any b a _ (by omega) (by omega)) HUB.out).mono ?_
  rintro e w1 ⟨rfl, hb⟩
  (first | (have HBn := Lib.hid (ext_call HB.out hb)) | (have HBn := Lib.hid (ext_new HB.out hb))); clear HB hb; have HB := HBn; clear HBn
  go_wp2_with fail
  refine (live_any _).mono ?_
  rintro e w1 ⟨rfl, hb⟩
  (first | (have HBn := Lib.hid (ext_call HB.out hb)) | (have HBn := Lib.hid (ext_new HB.out hb))); clear HB hb; have HB := HBn; clear HBn
  go_wp2
  go_ret
  exact ⟨rfl, HB.out⟩

set_option maxRecDepth 100000 in
set_option maxHeartbeats 8000000 in
theorem orders_01f (a b c : ByteArray) (w : World) (x y z : Int) (hx : cmpN a.data.toList b.data.toList = x) (hy : cmpN b.data.toList c.data.toList = y) (hz : cmpN a.data.toList c.data.toList = z) (h1 : a.size ≤ 300) (h2 : b.size ≤ 300) (h3 : c.size ≤ 300) (he : ¬ a = b) (hub : und b.data.toList a.data.toList = false) (h0 : x ≤ 0) (h4 : 0 < y) :
    Calls Tryd.prog 9 #[.string a, .string b, .string c] w fun e w' => e = .returned (.bool true) ∧ Below w.heap.size w w' := by
  have HB := Lib.hid (Below.refl w.heap.size w)
  have HX := Lib.hid hx
  have HY := Lib.hid hy
  have HZ := Lib.hid hz
  have hr := cmpN_range a.data.toList b.data.toList
  rw [hx] at hr
  obtain ⟨r1, r2⟩ := hr
  have HN := Lib.hid (show cmpN b.data.toList a.data.toList = -x by rw [cmpN_neg, hx])
  have hwx : IntKind.i64.wrap (-x) = -x := IntWalk.i64_in _ (by omega)
  have hx0 : (x == 0) = false := by
    rw [beq_eq_false_iff_ne]
    intro h
    rw [h] at hx
    exact he (ba_ext ((cmpN_zero _ _).1 hx))
  have HAB := Lib.hid he
  have hab : (a.toList == b.toList) = false := neq_of he
  clear he
  have HUB := Lib.hid hub
  have t1 : decide (x ≤ 0) = true := by simp; omega
  have t2 : decide (y ≤ 0) = false := by simp; omega
  clear hx hy hz hub
  go_enter Tryd.func9, Tryd.ntmps9
  go_wp2_with fail
  refine (long_no a _ h1).mono ?_
  rintro e w1 ⟨rfl, hb⟩
  (first | (have HBn := Lib.hid (ext_call HB.out hb)) | (have HBn := Lib.hid (ext_new HB.out hb))); clear HB hb; have HB := HBn; clear HBn
  go_wp2_with fail
  refine (long_no b _ h2).mono ?_
  rintro e w1 ⟨rfl, hb⟩
  (first | (have HBn := Lib.hid (ext_call HB.out hb)) | (have HBn := Lib.hid (ext_new HB.out hb))); clear HB hb; have HB := HBn; clear HBn
  go_wp2_with fail
  refine (long_no c _ h3).mono ?_
  rintro e w1 ⟨rfl, hb⟩
  (first | (have HBn := Lib.hid (ext_call HB.out hb)) | (have HBn := Lib.hid (ext_new HB.out hb))); clear HB hb; have HB := HBn; clear HBn
  go_wp2_with fail
  refine (int_is (compareN_any a b _ (by omega) (by omega)) HX.out).mono ?_
  rintro e w1 ⟨rfl, hb⟩
  (first | (have HBn := Lib.hid (ext_call HB.out hb)) | (have HBn := Lib.hid (ext_new HB.out hb))); clear HB hb; have HB := HBn; clear HBn
  go_wp2_with fail
  refine (int_is (compareN_any b c _ (by omega) (by omega)) HY.out).mono ?_
  rintro e w1 ⟨rfl, hb⟩
  (first | (have HBn := Lib.hid (ext_call HB.out hb)) | (have HBn := Lib.hid (ext_new HB.out hb))); clear HB hb; have HB := HBn; clear HBn
  go_wp2_with fail
  refine (int_is (rcompareN_any a b _ (by omega) (by omega)) HX.out).mono ?_
  rintro e w1 ⟨rfl, hb⟩
  (first | (have HBn := Lib.hid (ext_call HB.out hb)) | (have HBn := Lib.hid (ext_new HB.out hb))); clear HB hb; have HB := HBn; clear HBn
  go_wp2_with fail
  refine (int_is (compareN_any b a _ (by omega) (by omega)) HN.out).mono ?_
  rintro e w1 ⟨rfl, hb⟩
  (first | (have HBn := Lib.hid (ext_call HB.out hb)) | (have HBn := Lib.hid (ext_new HB.out hb))); clear HB hb; have HB := HBn; clear HBn
  go_wp2_with fail
  refine (bool_is (under_any b a _ (by omega) (by omega)) HUB.out).mono ?_
  rintro e w1 ⟨rfl, hb⟩
  (first | (have HBn := Lib.hid (ext_call HB.out hb)) | (have HBn := Lib.hid (ext_new HB.out hb))); clear HB hb; have HB := HBn; clear HBn
  go_wp2_with fail
  refine (live_any _).mono ?_
  rintro e w1 ⟨rfl, hb⟩
  (first | (have HBn := Lib.hid (ext_call HB.out hb)) | (have HBn := Lib.hid (ext_new HB.out hb))); clear HB hb; have HB := HBn; clear HBn
  go_wp2
  go_ret
  exact ⟨rfl, HB.out⟩

set_option maxRecDepth 100000 in
set_option maxHeartbeats 8000000 in
theorem orders_02f (a b c : ByteArray) (w : World) (x y z : Int) (hx : cmpN a.data.toList b.data.toList = x) (hy : cmpN b.data.toList c.data.toList = y) (hz : cmpN a.data.toList c.data.toList = z) (h1 : a.size ≤ 300) (h2 : b.size ≤ 300) (h3 : c.size ≤ 300) (he : ¬ a = b) (hub : und b.data.toList a.data.toList = false) (h0 : x ≤ 0) (h4 : y ≤ 0) :
    Calls Tryd.prog 9 #[.string a, .string b, .string c] w fun e w' => e = .returned (.bool true) ∧ Below w.heap.size w w' := by
  have HB := Lib.hid (Below.refl w.heap.size w)
  have HX := Lib.hid hx
  have HY := Lib.hid hy
  have HZ := Lib.hid hz
  have hr := cmpN_range a.data.toList b.data.toList
  rw [hx] at hr
  obtain ⟨r1, r2⟩ := hr
  have HN := Lib.hid (show cmpN b.data.toList a.data.toList = -x by rw [cmpN_neg, hx])
  have hwx : IntKind.i64.wrap (-x) = -x := IntWalk.i64_in _ (by omega)
  have hx0 : (x == 0) = false := by
    rw [beq_eq_false_iff_ne]
    intro h
    rw [h] at hx
    exact he (ba_ext ((cmpN_zero _ _).1 hx))
  have HAB := Lib.hid he
  have hab : (a.toList == b.toList) = false := neq_of he
  clear he
  have HUB := Lib.hid hub
  have t1 : decide (x ≤ 0) = true := by simp; omega
  have t2 : decide (y ≤ 0) = true := by simp; omega
  have hz0 : z ≤ 0 := by rw [← hz]; exact cmpN_trans _ _ _ (by rw [HX.out]; exact h0) (by rw [hy]; exact h4)
  have t3 : decide (0 < z) = false := by simp; omega
  clear hx hy hz hub
  go_enter Tryd.func9, Tryd.ntmps9
  go_wp2_with fail
  refine (long_no a _ h1).mono ?_
  rintro e w1 ⟨rfl, hb⟩
  (first | (have HBn := Lib.hid (ext_call HB.out hb)) | (have HBn := Lib.hid (ext_new HB.out hb))); clear HB hb; have HB := HBn; clear HBn
  go_wp2_with fail
  refine (long_no b _ h2).mono ?_
  rintro e w1 ⟨rfl, hb⟩
  (first | (have HBn := Lib.hid (ext_call HB.out hb)) | (have HBn := Lib.hid (ext_new HB.out hb))); clear HB hb; have HB := HBn; clear HBn
  go_wp2_with fail
  refine (long_no c _ h3).mono ?_
  rintro e w1 ⟨rfl, hb⟩
  (first | (have HBn := Lib.hid (ext_call HB.out hb)) | (have HBn := Lib.hid (ext_new HB.out hb))); clear HB hb; have HB := HBn; clear HBn
  go_wp2_with fail
  refine (int_is (compareN_any a b _ (by omega) (by omega)) HX.out).mono ?_
  rintro e w1 ⟨rfl, hb⟩
  (first | (have HBn := Lib.hid (ext_call HB.out hb)) | (have HBn := Lib.hid (ext_new HB.out hb))); clear HB hb; have HB := HBn; clear HBn
  go_wp2_with fail
  refine (int_is (compareN_any b c _ (by omega) (by omega)) HY.out).mono ?_
  rintro e w1 ⟨rfl, hb⟩
  (first | (have HBn := Lib.hid (ext_call HB.out hb)) | (have HBn := Lib.hid (ext_new HB.out hb))); clear HB hb; have HB := HBn; clear HBn
  go_wp2_with fail
  refine (int_is (rcompareN_any a b _ (by omega) (by omega)) HX.out).mono ?_
  rintro e w1 ⟨rfl, hb⟩
  (first | (have HBn := Lib.hid (ext_call HB.out hb)) | (have HBn := Lib.hid (ext_new HB.out hb))); clear HB hb; have HB := HBn; clear HBn
  go_wp2_with fail
  refine (int_is (compareN_any b a _ (by omega) (by omega)) HN.out).mono ?_
  rintro e w1 ⟨rfl, hb⟩
  (first | (have HBn := Lib.hid (ext_call HB.out hb)) | (have HBn := Lib.hid (ext_new HB.out hb))); clear HB hb; have HB := HBn; clear HBn
  go_wp2_with fail
  refine (int_is (compareN_any a c _ (by omega) (by omega)) HZ.out).mono ?_
  rintro e w1 ⟨rfl, hb⟩
  (first | (have HBn := Lib.hid (ext_call HB.out hb)) | (have HBn := Lib.hid (ext_new HB.out hb))); clear HB hb; have HB := HBn; clear HBn
  go_wp2_with fail
  refine (bool_is (under_any b a _ (by omega) (by omega)) HUB.out).mono ?_
  rintro e w1 ⟨rfl, hb⟩
  (first | (have HBn := Lib.hid (ext_call HB.out hb)) | (have HBn := Lib.hid (ext_new HB.out hb))); clear HB hb; have HB := HBn; clear HBn
  go_wp2_with fail
  refine (live_any _).mono ?_
  rintro e w1 ⟨rfl, hb⟩
  (first | (have HBn := Lib.hid (ext_call HB.out hb)) | (have HBn := Lib.hid (ext_new HB.out hb))); clear HB hb; have HB := HBn; clear HBn
  go_wp2
  go_ret
  exact ⟨rfl, HB.out⟩

set_option maxRecDepth 100000 in
set_option maxHeartbeats 8000000 in
theorem groups_l1 (a b c d : ByteArray) (w : World) (h1 : 300 < a.size) :
    Calls Tryd.prog 10 #[.string a, .string b, .string c, .string d] w fun e w' => e = .returned (.bool true) ∧ Below w.heap.size w w' := by
  have HB := Lib.hid (Below.refl w.heap.size w)
  go_enter Tryd.func10, Tryd.ntmps10
  go_wp2_with fail
  refine (long_yes a _ h1).mono ?_
  rintro e w1 ⟨rfl, hb⟩
  (first | (have HBn := Lib.hid (ext_call HB.out hb)) | (have HBn := Lib.hid (ext_new HB.out hb))); clear HB hb; have HB := HBn; clear HBn
  go_wp2_with fail
  refine (live_any _).mono ?_
  rintro e w1 ⟨rfl, hb⟩
  (first | (have HBn := Lib.hid (ext_call HB.out hb)) | (have HBn := Lib.hid (ext_new HB.out hb))); clear HB hb; have HB := HBn; clear HBn
  go_wp2
  go_ret
  exact ⟨rfl, HB.out⟩

set_option maxRecDepth 100000 in
set_option maxHeartbeats 8000000 in
theorem groups_l2 (a b c d : ByteArray) (w : World) (h1 : a.size ≤ 300) (h2 : 300 < b.size) :
    Calls Tryd.prog 10 #[.string a, .string b, .string c, .string d] w fun e w' => e = .returned (.bool true) ∧ Below w.heap.size w w' := by
  have HB := Lib.hid (Below.refl w.heap.size w)
  go_enter Tryd.func10, Tryd.ntmps10
  go_wp2_with fail
  refine (long_no a _ h1).mono ?_
  rintro e w1 ⟨rfl, hb⟩
  (first | (have HBn := Lib.hid (ext_call HB.out hb)) | (have HBn := Lib.hid (ext_new HB.out hb))); clear HB hb; have HB := HBn; clear HBn
  go_wp2_with fail
  refine (long_yes b _ h2).mono ?_
  rintro e w1 ⟨rfl, hb⟩
  (first | (have HBn := Lib.hid (ext_call HB.out hb)) | (have HBn := Lib.hid (ext_new HB.out hb))); clear HB hb; have HB := HBn; clear HBn
  go_wp2_with fail
  refine (live_any _).mono ?_
  rintro e w1 ⟨rfl, hb⟩
  (first | (have HBn := Lib.hid (ext_call HB.out hb)) | (have HBn := Lib.hid (ext_new HB.out hb))); clear HB hb; have HB := HBn; clear HBn
  go_wp2
  go_ret
  exact ⟨rfl, HB.out⟩

set_option maxRecDepth 100000 in
set_option maxHeartbeats 8000000 in
theorem groups_l3 (a b c d : ByteArray) (w : World) (h1 : a.size ≤ 300) (h2 : b.size ≤ 300) (h3 : 300 < c.size) :
    Calls Tryd.prog 10 #[.string a, .string b, .string c, .string d] w fun e w' => e = .returned (.bool true) ∧ Below w.heap.size w w' := by
  have HB := Lib.hid (Below.refl w.heap.size w)
  go_enter Tryd.func10, Tryd.ntmps10
  go_wp2_with fail
  refine (long_no a _ h1).mono ?_
  rintro e w1 ⟨rfl, hb⟩
  (first | (have HBn := Lib.hid (ext_call HB.out hb)) | (have HBn := Lib.hid (ext_new HB.out hb))); clear HB hb; have HB := HBn; clear HBn
  go_wp2_with fail
  refine (long_no b _ h2).mono ?_
  rintro e w1 ⟨rfl, hb⟩
  (first | (have HBn := Lib.hid (ext_call HB.out hb)) | (have HBn := Lib.hid (ext_new HB.out hb))); clear HB hb; have HB := HBn; clear HBn
  go_wp2_with fail
  refine (long_yes c _ h3).mono ?_
  rintro e w1 ⟨rfl, hb⟩
  (first | (have HBn := Lib.hid (ext_call HB.out hb)) | (have HBn := Lib.hid (ext_new HB.out hb))); clear HB hb; have HB := HBn; clear HBn
  go_wp2_with fail
  refine (live_any _).mono ?_
  rintro e w1 ⟨rfl, hb⟩
  (first | (have HBn := Lib.hid (ext_call HB.out hb)) | (have HBn := Lib.hid (ext_new HB.out hb))); clear HB hb; have HB := HBn; clear HBn
  go_wp2
  go_ret
  exact ⟨rfl, HB.out⟩

set_option maxRecDepth 100000 in
set_option maxHeartbeats 8000000 in
theorem groups_l4 (a b c d : ByteArray) (w : World) (h1 : a.size ≤ 300) (h2 : b.size ≤ 300) (h3 : c.size ≤ 300) (h4 : 300 < d.size) :
    Calls Tryd.prog 10 #[.string a, .string b, .string c, .string d] w fun e w' => e = .returned (.bool true) ∧ Below w.heap.size w w' := by
  have HB := Lib.hid (Below.refl w.heap.size w)
  go_enter Tryd.func10, Tryd.ntmps10
  go_wp2_with fail
  refine (long_no a _ h1).mono ?_
  rintro e w1 ⟨rfl, hb⟩
  (first | (have HBn := Lib.hid (ext_call HB.out hb)) | (have HBn := Lib.hid (ext_new HB.out hb))); clear HB hb; have HB := HBn; clear HBn
  go_wp2_with fail
  refine (long_no b _ h2).mono ?_
  rintro e w1 ⟨rfl, hb⟩
  (first | (have HBn := Lib.hid (ext_call HB.out hb)) | (have HBn := Lib.hid (ext_new HB.out hb))); clear HB hb; have HB := HBn; clear HBn
  go_wp2_with fail
  refine (long_no c _ h3).mono ?_
  rintro e w1 ⟨rfl, hb⟩
  (first | (have HBn := Lib.hid (ext_call HB.out hb)) | (have HBn := Lib.hid (ext_new HB.out hb))); clear HB hb; have HB := HBn; clear HBn
  go_wp2_with fail
  refine (long_yes d _ h4).mono ?_
  rintro e w1 ⟨rfl, hb⟩
  (first | (have HBn := Lib.hid (ext_call HB.out hb)) | (have HBn := Lib.hid (ext_new HB.out hb))); clear HB hb; have HB := HBn; clear HBn
  go_wp2_with fail
  refine (live_any _).mono ?_
  rintro e w1 ⟨rfl, hb⟩
  (first | (have HBn := Lib.hid (ext_call HB.out hb)) | (have HBn := Lib.hid (ext_new HB.out hb))); clear HB hb; have HB := HBn; clear HBn
  go_wp2
  go_ret
  exact ⟨rfl, HB.out⟩

set_option maxRecDepth 100000 in
set_option maxHeartbeats 8000000 in
theorem groups_0 (a b c d : ByteArray) (w : World) (h1 : a.size ≤ 300) (h2 : b.size ≤ 300) (h3 : c.size ≤ 300) (h4 : d.size ≤ 300) (e0 : und a.data.toList d.data.toList = false) :
    Calls Tryd.prog 10 #[.string a, .string b, .string c, .string d] w fun e w' => e = .returned (.bool true) ∧ Below w.heap.size w w' := by
  have HB := Lib.hid (Below.refl w.heap.size w)
  have E0 := Lib.hid e0
  clear e0
  go_enter Tryd.func10, Tryd.ntmps10
  go_wp2_with fail
  refine (long_no a _ h1).mono ?_
  rintro e w1 ⟨rfl, hb⟩
  (first | (have HBn := Lib.hid (ext_call HB.out hb)) | (have HBn := Lib.hid (ext_new HB.out hb))); clear HB hb; have HB := HBn; clear HBn
  go_wp2_with fail
  refine (long_no b _ h2).mono ?_
  rintro e w1 ⟨rfl, hb⟩
  (first | (have HBn := Lib.hid (ext_call HB.out hb)) | (have HBn := Lib.hid (ext_new HB.out hb))); clear HB hb; have HB := HBn; clear HBn
  go_wp2_with fail
  refine (long_no c _ h3).mono ?_
  rintro e w1 ⟨rfl, hb⟩
  (first | (have HBn := Lib.hid (ext_call HB.out hb)) | (have HBn := Lib.hid (ext_new HB.out hb))); clear HB hb; have HB := HBn; clear HBn
  go_wp2_with fail
  refine (long_no d _ h4).mono ?_
  rintro e w1 ⟨rfl, hb⟩
  (first | (have HBn := Lib.hid (ext_call HB.out hb)) | (have HBn := Lib.hid (ext_new HB.out hb))); clear HB hb; have HB := HBn; clear HBn
  go_wp2_with fail
  refine (bool_is (under_any a d _ (by omega) (by omega)) E0.out).mono ?_
  rintro e w1 ⟨rfl, hb⟩
  (first | (have HBn := Lib.hid (ext_call HB.out hb)) | (have HBn := Lib.hid (ext_new HB.out hb))); clear HB hb; have HB := HBn; clear HBn
  go_wp2_with fail
  refine (live_any _).mono ?_
  rintro e w1 ⟨rfl, hb⟩
  (first | (have HBn := Lib.hid (ext_call HB.out hb)) | (have HBn := Lib.hid (ext_new HB.out hb))); clear HB hb; have HB := HBn; clear HBn
  go_wp2
  go_ret
  exact ⟨rfl, HB.out⟩

set_option maxRecDepth 100000 in
set_option maxHeartbeats 8000000 in
theorem groups_1 (a b c d : ByteArray) (w : World) (h1 : a.size ≤ 300) (h2 : b.size ≤ 300) (h3 : c.size ≤ 300) (h4 : d.size ≤ 300) (e0 : und a.data.toList d.data.toList = true) (e1 : und c.data.toList d.data.toList = false) :
    Calls Tryd.prog 10 #[.string a, .string b, .string c, .string d] w fun e w' => e = .returned (.bool true) ∧ Below w.heap.size w w' := by
  have HB := Lib.hid (Below.refl w.heap.size w)
  have E0 := Lib.hid e0
  clear e0
  have E1 := Lib.hid e1
  clear e1
  go_enter Tryd.func10, Tryd.ntmps10
  go_wp2_with fail
  refine (long_no a _ h1).mono ?_
  rintro e w1 ⟨rfl, hb⟩
  (first | (have HBn := Lib.hid (ext_call HB.out hb)) | (have HBn := Lib.hid (ext_new HB.out hb))); clear HB hb; have HB := HBn; clear HBn
  go_wp2_with fail
  refine (long_no b _ h2).mono ?_
  rintro e w1 ⟨rfl, hb⟩
  (first | (have HBn := Lib.hid (ext_call HB.out hb)) | (have HBn := Lib.hid (ext_new HB.out hb))); clear HB hb; have HB := HBn; clear HBn
  go_wp2_with fail
  refine (long_no c _ h3).mono ?_
  rintro e w1 ⟨rfl, hb⟩
  (first | (have HBn := Lib.hid (ext_call HB.out hb)) | (have HBn := Lib.hid (ext_new HB.out hb))); clear HB hb; have HB := HBn; clear HBn
  go_wp2_with fail
  refine (long_no d _ h4).mono ?_
  rintro e w1 ⟨rfl, hb⟩
  (first | (have HBn := Lib.hid (ext_call HB.out hb)) | (have HBn := Lib.hid (ext_new HB.out hb))); clear HB hb; have HB := HBn; clear HBn
  go_wp2_with fail
  refine (bool_is (under_any a d _ (by omega) (by omega)) E0.out).mono ?_
  rintro e w1 ⟨rfl, hb⟩
  (first | (have HBn := Lib.hid (ext_call HB.out hb)) | (have HBn := Lib.hid (ext_new HB.out hb))); clear HB hb; have HB := HBn; clear HBn
  go_wp2_with fail
  refine (bool_is (under_any c d _ (by omega) (by omega)) E1.out).mono ?_
  rintro e w1 ⟨rfl, hb⟩
  (first | (have HBn := Lib.hid (ext_call HB.out hb)) | (have HBn := Lib.hid (ext_new HB.out hb))); clear HB hb; have HB := HBn; clear HBn
  go_wp2_with fail
  refine (live_any _).mono ?_
  rintro e w1 ⟨rfl, hb⟩
  (first | (have HBn := Lib.hid (ext_call HB.out hb)) | (have HBn := Lib.hid (ext_new HB.out hb))); clear HB hb; have HB := HBn; clear HBn
  go_wp2
  go_ret
  exact ⟨rfl, HB.out⟩

set_option maxRecDepth 100000 in
set_option maxHeartbeats 8000000 in
theorem groups_2 (a b c d : ByteArray) (w : World) (h1 : a.size ≤ 300) (h2 : b.size ≤ 300) (h3 : c.size ≤ 300) (h4 : d.size ≤ 300) (e0 : und a.data.toList d.data.toList = true) (e1 : und c.data.toList d.data.toList = true) (e2 : valid b.data.toList = false) :
    Calls Tryd.prog 10 #[.string a, .string b, .string c, .string d] w fun e w' => e = .returned (.bool true) ∧ Below w.heap.size w w' := by
  have HB := Lib.hid (Below.refl w.heap.size w)
  have E0 := Lib.hid e0
  clear e0
  have E1 := Lib.hid e1
  clear e1
  have E2 := Lib.hid e2
  clear e2
  go_enter Tryd.func10, Tryd.ntmps10
  go_wp2_with fail
  refine (long_no a _ h1).mono ?_
  rintro e w1 ⟨rfl, hb⟩
  (first | (have HBn := Lib.hid (ext_call HB.out hb)) | (have HBn := Lib.hid (ext_new HB.out hb))); clear HB hb; have HB := HBn; clear HBn
  go_wp2_with fail
  refine (long_no b _ h2).mono ?_
  rintro e w1 ⟨rfl, hb⟩
  (first | (have HBn := Lib.hid (ext_call HB.out hb)) | (have HBn := Lib.hid (ext_new HB.out hb))); clear HB hb; have HB := HBn; clear HBn
  go_wp2_with fail
  refine (long_no c _ h3).mono ?_
  rintro e w1 ⟨rfl, hb⟩
  (first | (have HBn := Lib.hid (ext_call HB.out hb)) | (have HBn := Lib.hid (ext_new HB.out hb))); clear HB hb; have HB := HBn; clear HBn
  go_wp2_with fail
  refine (long_no d _ h4).mono ?_
  rintro e w1 ⟨rfl, hb⟩
  (first | (have HBn := Lib.hid (ext_call HB.out hb)) | (have HBn := Lib.hid (ext_new HB.out hb))); clear HB hb; have HB := HBn; clear HBn
  go_wp2_with fail
  refine (bool_is (under_any a d _ (by omega) (by omega)) E0.out).mono ?_
  rintro e w1 ⟨rfl, hb⟩
  (first | (have HBn := Lib.hid (ext_call HB.out hb)) | (have HBn := Lib.hid (ext_new HB.out hb))); clear HB hb; have HB := HBn; clear HBn
  go_wp2_with fail
  refine (bool_is (under_any c d _ (by omega) (by omega)) E1.out).mono ?_
  rintro e w1 ⟨rfl, hb⟩
  (first | (have HBn := Lib.hid (ext_call HB.out hb)) | (have HBn := Lib.hid (ext_new HB.out hb))); clear HB hb; have HB := HBn; clear HBn
  go_wp2_with fail
  refine (bool_is (valid_any b _ (by omega)) E2.out).mono ?_
  rintro e w1 ⟨rfl, hb⟩
  (first | (have HBn := Lib.hid (ext_call HB.out hb)) | (have HBn := Lib.hid (ext_new HB.out hb))); clear HB hb; have HB := HBn; clear HBn
  go_wp2_with fail
  refine (live_any _).mono ?_
  rintro e w1 ⟨rfl, hb⟩
  (first | (have HBn := Lib.hid (ext_call HB.out hb)) | (have HBn := Lib.hid (ext_new HB.out hb))); clear HB hb; have HB := HBn; clear HBn
  go_wp2
  go_ret
  exact ⟨rfl, HB.out⟩

set_option maxRecDepth 100000 in
set_option maxHeartbeats 8000000 in
theorem groups_3 (a b c d : ByteArray) (w : World) (h1 : a.size ≤ 300) (h2 : b.size ≤ 300) (h3 : c.size ≤ 300) (h4 : d.size ≤ 300) (e0 : und a.data.toList d.data.toList = true) (e1 : und c.data.toList d.data.toList = true) (e2 : valid b.data.toList = true) (x y : Int) (hx : cmpN a.data.toList b.data.toList = x) (hy : cmpN b.data.toList c.data.toList = y) (h0 : 0 < x) :
    Calls Tryd.prog 10 #[.string a, .string b, .string c, .string d] w fun e w' => e = .returned (.bool true) ∧ Below w.heap.size w w' := by
  have HB := Lib.hid (Below.refl w.heap.size w)
  have E0 := Lib.hid e0
  clear e0
  have E1 := Lib.hid e1
  clear e1
  have E2 := Lib.hid e2
  clear e2
  have HX := Lib.hid hx
  have HY := Lib.hid hy
  clear hx hy
  go_enter Tryd.func10, Tryd.ntmps10
  go_wp2_with fail
  refine (long_no a _ h1).mono ?_
  rintro e w1 ⟨rfl, hb⟩
  (first | (have HBn := Lib.hid (ext_call HB.out hb)) | (have HBn := Lib.hid (ext_new HB.out hb))); clear HB hb; have HB := HBn; clear HBn
  go_wp2_with fail
  refine (long_no b _ h2).mono ?_
  rintro e w1 ⟨rfl, hb⟩
  (first | (have HBn := Lib.hid (ext_call HB.out hb)) | (have HBn := Lib.hid (ext_new HB.out hb))); clear HB hb; have HB := HBn; clear HBn
  go_wp2_with fail
  refine (long_no c _ h3).mono ?_
  rintro e w1 ⟨rfl, hb⟩
  (first | (have HBn := Lib.hid (ext_call HB.out hb)) | (have HBn := Lib.hid (ext_new HB.out hb))); clear HB hb; have HB := HBn; clear HBn
  go_wp2_with fail
  refine (long_no d _ h4).mono ?_
  rintro e w1 ⟨rfl, hb⟩
  (first | (have HBn := Lib.hid (ext_call HB.out hb)) | (have HBn := Lib.hid (ext_new HB.out hb))); clear HB hb; have HB := HBn; clear HBn
  go_wp2_with fail
  refine (bool_is (under_any a d _ (by omega) (by omega)) E0.out).mono ?_
  rintro e w1 ⟨rfl, hb⟩
  (first | (have HBn := Lib.hid (ext_call HB.out hb)) | (have HBn := Lib.hid (ext_new HB.out hb))); clear HB hb; have HB := HBn; clear HBn
  go_wp2_with fail
  refine (bool_is (under_any c d _ (by omega) (by omega)) E1.out).mono ?_
  rintro e w1 ⟨rfl, hb⟩
  (first | (have HBn := Lib.hid (ext_call HB.out hb)) | (have HBn := Lib.hid (ext_new HB.out hb))); clear HB hb; have HB := HBn; clear HBn
  go_wp2_with fail
  refine (bool_is (valid_any b _ (by omega)) E2.out).mono ?_
  rintro e w1 ⟨rfl, hb⟩
  (first | (have HBn := Lib.hid (ext_call HB.out hb)) | (have HBn := Lib.hid (ext_new HB.out hb))); clear HB hb; have HB := HBn; clear HBn
  go_wp2_with fail
  refine (int_is (compareN_any a b _ (by omega) (by omega)) HX.out).mono ?_
  rintro e w1 ⟨rfl, hb⟩
  (first | (have HBn := Lib.hid (ext_call HB.out hb)) | (have HBn := Lib.hid (ext_new HB.out hb))); clear HB hb; have HB := HBn; clear HBn
  go_wp2_with fail
  refine (live_any _).mono ?_
  rintro e w1 ⟨rfl, hb⟩
  (first | (have HBn := Lib.hid (ext_call HB.out hb)) | (have HBn := Lib.hid (ext_new HB.out hb))); clear HB hb; have HB := HBn; clear HBn
  go_wp2
  go_ret
  exact ⟨rfl, HB.out⟩

set_option maxRecDepth 100000 in
set_option maxHeartbeats 8000000 in
theorem groups_4 (a b c d : ByteArray) (w : World) (h1 : a.size ≤ 300) (h2 : b.size ≤ 300) (h3 : c.size ≤ 300) (h4 : d.size ≤ 300) (e0 : und a.data.toList d.data.toList = true) (e1 : und c.data.toList d.data.toList = true) (e2 : valid b.data.toList = true) (x y : Int) (hx : cmpN a.data.toList b.data.toList = x) (hy : cmpN b.data.toList c.data.toList = y) (h0 : x ≤ 0) (h5 : 0 < y) :
    Calls Tryd.prog 10 #[.string a, .string b, .string c, .string d] w fun e w' => e = .returned (.bool true) ∧ Below w.heap.size w w' := by
  have HB := Lib.hid (Below.refl w.heap.size w)
  have E0 := Lib.hid e0
  clear e0
  have E1 := Lib.hid e1
  clear e1
  have E2 := Lib.hid e2
  clear e2
  have HX := Lib.hid hx
  have HY := Lib.hid hy
  clear hx hy
  have t1 : decide (0 < x) = false := by simp; omega
  go_enter Tryd.func10, Tryd.ntmps10
  go_wp2_with fail
  refine (long_no a _ h1).mono ?_
  rintro e w1 ⟨rfl, hb⟩
  (first | (have HBn := Lib.hid (ext_call HB.out hb)) | (have HBn := Lib.hid (ext_new HB.out hb))); clear HB hb; have HB := HBn; clear HBn
  go_wp2_with fail
  refine (long_no b _ h2).mono ?_
  rintro e w1 ⟨rfl, hb⟩
  (first | (have HBn := Lib.hid (ext_call HB.out hb)) | (have HBn := Lib.hid (ext_new HB.out hb))); clear HB hb; have HB := HBn; clear HBn
  go_wp2_with fail
  refine (long_no c _ h3).mono ?_
  rintro e w1 ⟨rfl, hb⟩
  (first | (have HBn := Lib.hid (ext_call HB.out hb)) | (have HBn := Lib.hid (ext_new HB.out hb))); clear HB hb; have HB := HBn; clear HBn
  go_wp2_with fail
  refine (long_no d _ h4).mono ?_
  rintro e w1 ⟨rfl, hb⟩
  (first | (have HBn := Lib.hid (ext_call HB.out hb)) | (have HBn := Lib.hid (ext_new HB.out hb))); clear HB hb; have HB := HBn; clear HBn
  go_wp2_with fail
  refine (bool_is (under_any a d _ (by omega) (by omega)) E0.out).mono ?_
  rintro e w1 ⟨rfl, hb⟩
  (first | (have HBn := Lib.hid (ext_call HB.out hb)) | (have HBn := Lib.hid (ext_new HB.out hb))); clear HB hb; have HB := HBn; clear HBn
  go_wp2_with fail
  refine (bool_is (under_any c d _ (by omega) (by omega)) E1.out).mono ?_
  rintro e w1 ⟨rfl, hb⟩
  (first | (have HBn := Lib.hid (ext_call HB.out hb)) | (have HBn := Lib.hid (ext_new HB.out hb))); clear HB hb; have HB := HBn; clear HBn
  go_wp2_with fail
  refine (bool_is (valid_any b _ (by omega)) E2.out).mono ?_
  rintro e w1 ⟨rfl, hb⟩
  (first | (have HBn := Lib.hid (ext_call HB.out hb)) | (have HBn := Lib.hid (ext_new HB.out hb))); clear HB hb; have HB := HBn; clear HBn
  go_wp2_with fail
  refine (int_is (compareN_any a b _ (by omega) (by omega)) HX.out).mono ?_
  rintro e w1 ⟨rfl, hb⟩
  (first | (have HBn := Lib.hid (ext_call HB.out hb)) | (have HBn := Lib.hid (ext_new HB.out hb))); clear HB hb; have HB := HBn; clear HBn
  go_wp2_with fail
  refine (int_is (compareN_any b c _ (by omega) (by omega)) HY.out).mono ?_
  rintro e w1 ⟨rfl, hb⟩
  (first | (have HBn := Lib.hid (ext_call HB.out hb)) | (have HBn := Lib.hid (ext_new HB.out hb))); clear HB hb; have HB := HBn; clear HBn
  go_wp2_with fail
  refine (live_any _).mono ?_
  rintro e w1 ⟨rfl, hb⟩
  (first | (have HBn := Lib.hid (ext_call HB.out hb)) | (have HBn := Lib.hid (ext_new HB.out hb))); clear HB hb; have HB := HBn; clear HBn
  go_wp2
  go_ret
  exact ⟨rfl, HB.out⟩

set_option maxRecDepth 100000 in
set_option maxHeartbeats 8000000 in
theorem groups_5 (a b c d : ByteArray) (w : World) (h1 : a.size ≤ 300) (h2 : b.size ≤ 300) (h3 : c.size ≤ 300) (h4 : d.size ≤ 300) (e0 : und a.data.toList d.data.toList = true) (e1 : und c.data.toList d.data.toList = true) (e2 : valid b.data.toList = true) (x y : Int) (hx : cmpN a.data.toList b.data.toList = x) (hy : cmpN b.data.toList c.data.toList = y) (h0 : x ≤ 0) (h5 : y ≤ 0) :
    Calls Tryd.prog 10 #[.string a, .string b, .string c, .string d] w fun e w' => e = .returned (.bool true) ∧ Below w.heap.size w w' := by
  have HB := Lib.hid (Below.refl w.heap.size w)
  have E0 := Lib.hid e0
  clear e0
  have E1 := Lib.hid e1
  clear e1
  have E2 := Lib.hid e2
  clear e2
  have HX := Lib.hid hx
  have HY := Lib.hid hy
  clear hx hy
  have t1 : decide (0 < x) = false := by simp; omega
  have t2 : decide (0 < y) = false := by simp; omega
  go_enter Tryd.func10, Tryd.ntmps10
  go_wp2_with fail
  refine (long_no a _ h1).mono ?_
  rintro e w1 ⟨rfl, hb⟩
  (first | (have HBn := Lib.hid (ext_call HB.out hb)) | (have HBn := Lib.hid (ext_new HB.out hb))); clear HB hb; have HB := HBn; clear HBn
  go_wp2_with fail
  refine (long_no b _ h2).mono ?_
  rintro e w1 ⟨rfl, hb⟩
  (first | (have HBn := Lib.hid (ext_call HB.out hb)) | (have HBn := Lib.hid (ext_new HB.out hb))); clear HB hb; have HB := HBn; clear HBn
  go_wp2_with fail
  refine (long_no c _ h3).mono ?_
  rintro e w1 ⟨rfl, hb⟩
  (first | (have HBn := Lib.hid (ext_call HB.out hb)) | (have HBn := Lib.hid (ext_new HB.out hb))); clear HB hb; have HB := HBn; clear HBn
  go_wp2_with fail
  refine (long_no d _ h4).mono ?_
  rintro e w1 ⟨rfl, hb⟩
  (first | (have HBn := Lib.hid (ext_call HB.out hb)) | (have HBn := Lib.hid (ext_new HB.out hb))); clear HB hb; have HB := HBn; clear HBn
  go_wp2_with fail
  refine (bool_is (under_any a d _ (by omega) (by omega)) E0.out).mono ?_
  rintro e w1 ⟨rfl, hb⟩
  (first | (have HBn := Lib.hid (ext_call HB.out hb)) | (have HBn := Lib.hid (ext_new HB.out hb))); clear HB hb; have HB := HBn; clear HBn
  go_wp2_with fail
  refine (bool_is (under_any c d _ (by omega) (by omega)) E1.out).mono ?_
  rintro e w1 ⟨rfl, hb⟩
  (first | (have HBn := Lib.hid (ext_call HB.out hb)) | (have HBn := Lib.hid (ext_new HB.out hb))); clear HB hb; have HB := HBn; clear HBn
  go_wp2_with fail
  refine (bool_is (valid_any b _ (by omega)) E2.out).mono ?_
  rintro e w1 ⟨rfl, hb⟩
  (first | (have HBn := Lib.hid (ext_call HB.out hb)) | (have HBn := Lib.hid (ext_new HB.out hb))); clear HB hb; have HB := HBn; clear HBn
  go_wp2_with fail
  refine (int_is (compareN_any a b _ (by omega) (by omega)) HX.out).mono ?_
  rintro e w1 ⟨rfl, hb⟩
  (first | (have HBn := Lib.hid (ext_call HB.out hb)) | (have HBn := Lib.hid (ext_new HB.out hb))); clear HB hb; have HB := HBn; clear HBn
  go_wp2_with fail
  refine (int_is (compareN_any b c _ (by omega) (by omega)) HY.out).mono ?_
  rintro e w1 ⟨rfl, hb⟩
  (first | (have HBn := Lib.hid (ext_call HB.out hb)) | (have HBn := Lib.hid (ext_new HB.out hb))); clear HB hb; have HB := HBn; clear HBn
  go_wp2_with fail
  refine (bool_is (under_any b d _ (by omega) (by omega)) (cmpN_group E0.out E1.out E2.out (by rw [HX.out]; exact h0) (by rw [HY.out]; exact h5))).mono ?_
  rintro e w1 ⟨rfl, hb⟩
  (first | (have HBn := Lib.hid (ext_call HB.out hb)) | (have HBn := Lib.hid (ext_new HB.out hb))); clear HB hb; have HB := HBn; clear HBn
  go_wp2_with fail
  refine (live_any _).mono ?_
  rintro e w1 ⟨rfl, hb⟩
  (first | (have HBn := Lib.hid (ext_call HB.out hb)) | (have HBn := Lib.hid (ext_new HB.out hb))); clear HB hb; have HB := HBn; clear HBn
  go_wp2
  go_ret
  exact ⟨rfl, HB.out⟩

theorem familyLaw_any (s x y : ByteArray) (w : World) : Calls Tryd.prog 6 #[.string s, .agg #[.string x, .string y]] w fun e w' => e = .returned (.bool true) ∧ Below w.heap.size w w' := by
  rcases Nat.lt_or_ge 300 s.size with h | h
  · exact family_l1 s x y w h
  rcases Nat.lt_or_ge 300 x.size with h1 | h1
  · exact family_l2 s x y w h h1
  rcases Nat.lt_or_ge 300 y.size with h2 | h2
  · exact family_l3 s x y w h h1 h2
  by_cases he : (chi s.data.toList (x.data.toList, y.data.toList)).2 = 0
  · cases hok : (par s.data.toList).2 with
    | true => exact family_true_1 s x y w h h1 h2 hok he
    | false => exact family_false_1 s x y w h h1 h2 hok he
  · cases hok : (par s.data.toList).2 with
    | true => exact family_true_0 s x y w h h1 h2 hok he
    | false => exact family_false_0 s x y w h h1 h2 hok he
theorem underLaw_any (a b c : ByteArray) (w : World) : Calls Tryd.prog 7 #[.string a, .string b, .string c] w fun e w' => e = .returned (.bool true) ∧ Below w.heap.size w w' := by
  rcases Nat.lt_or_ge 300 a.size with h | h
  · exact under_l1 a b c w h
  rcases Nat.lt_or_ge 300 b.size with h1 | h1
  · exact under_l2 a b c w h h1
  rcases Nat.lt_or_ge 300 c.size with h2 | h2
  · exact under_l3 a b c w h h1 h2
  cases hab : und a.data.toList b.data.toList <;> cases hbc : und b.data.toList c.data.toList <;> cases hba : und b.data.toList a.data.toList
  · exact under_fff a b c w h h1 h2 hab hbc hba
  · exact under_fft a b c w h h1 h2 hab hbc hba
  · exact under_ftf a b c w h h1 h2 hab hbc hba
  · exact under_ftt a b c w h h1 h2 hab hbc hba
  · exact under_tff a b c w h h1 h2 hab hbc hba
  · exact under_tft a b c w h h1 h2 hab hbc hba
  · exact under_ttf a b c w h h1 h2 hab hbc hba
  · exact under_ttt a b c w h h1 h2 hab hbc hba
theorem rebasesLaw_any (s f t : ByteArray) (w : World) : Calls Tryd.prog 8 #[.string s, .string f, .string t] w fun e w' => e = .returned (.bool true) ∧ Below w.heap.size w w' := by
  rcases Nat.lt_or_ge 300 s.size with h | h
  · exact rebases_l1 s f t w h
  rcases Nat.lt_or_ge 300 f.size with h1 | h1
  · exact rebases_l2 s f t w h h1
  rcases Nat.lt_or_ge 300 t.size with h2 | h2
  · exact rebases_l3 s f t w h h1 h2
  by_cases he : (reb s.data.toList f.data.toList t.data.toList).2 = 0
  · exact rebases_ok s f t w h h1 h2 he
  · exact rebases_err s f t w h h1 h2 he
theorem ordersLaw_any (a b c : ByteArray) (w : World) : Calls Tryd.prog 9 #[.string a, .string b, .string c] w fun e w' => e = .returned (.bool true) ∧ Below w.heap.size w w' := by
  rcases Nat.lt_or_ge 300 a.size with h | h
  · exact orders_l1 a b c w h
  rcases Nat.lt_or_ge 300 b.size with h1 | h1
  · exact orders_l2 a b c w h h1
  rcases Nat.lt_or_ge 300 c.size with h2 | h2
  · exact orders_l3 a b c w h h1 h2
  by_cases he : a = b
  · have hx : cmpN a.data.toList b.data.toList ≤ 0 := by rw [he, (cmpN_zero _ _).2 rfl]; omega
    by_cases hy : cmpN b.data.toList c.data.toList ≤ 0 <;> cases hub : und b.data.toList a.data.toList
    · exact orders_12f a b c w _ _ _ rfl rfl rfl h h1 h2 he hub hx hy
    · exact orders_12t a b c w _ _ _ rfl rfl rfl h h1 h2 he hub hx hy
    · exact orders_11f a b c w _ _ _ rfl rfl rfl h h1 h2 he hub hx (by omega)
    · exact orders_11t a b c w _ _ _ rfl rfl rfl h h1 h2 he hub hx (by omega)
  · cases hub : und b.data.toList a.data.toList with
    | false =>
      by_cases hx : cmpN a.data.toList b.data.toList ≤ 0
      · by_cases hy : cmpN b.data.toList c.data.toList ≤ 0
        · exact orders_02f a b c w _ _ _ rfl rfl rfl h h1 h2 he hub hx hy
        · exact orders_01f a b c w _ _ _ rfl rfl rfl h h1 h2 he hub hx (by omega)
      · exact orders_00f a b c w _ _ _ rfl rfl rfl h h1 h2 he hub (by omega)
    | true =>
      have hx : cmpN a.data.toList b.data.toList ≤ 0 := by rw [cmpN_und hub (fun e => he (ba_ext e))]; omega
      by_cases hy : cmpN b.data.toList c.data.toList ≤ 0
      · exact orders_02t a b c w _ _ _ rfl rfl rfl h h1 h2 he hub hx hy
      · exact orders_01t a b c w _ _ _ rfl rfl rfl h h1 h2 he hub hx (by omega)
theorem groupsLaw_any (a b c d : ByteArray) (w : World) : Calls Tryd.prog 10 #[.string a, .string b, .string c, .string d] w fun e w' => e = .returned (.bool true) ∧ Below w.heap.size w w' := by
  rcases Nat.lt_or_ge 300 a.size with h | h
  · exact groups_l1 a b c d w h
  rcases Nat.lt_or_ge 300 b.size with h1 | h1
  · exact groups_l2 a b c d w h h1
  rcases Nat.lt_or_ge 300 c.size with h2 | h2
  · exact groups_l3 a b c d w h h1 h2
  rcases Nat.lt_or_ge 300 d.size with h3 | h3
  · exact groups_l4 a b c d w h h1 h2 h3
  cases e0 : und a.data.toList d.data.toList with
  | false => exact groups_0 a b c d w h h1 h2 h3 e0
  | true =>
    cases e1 : und c.data.toList d.data.toList with
    | false => exact groups_1 a b c d w h h1 h2 h3 e0 e1
    | true =>
      cases e2 : valid b.data.toList with
      | false => exact groups_2 a b c d w h h1 h2 h3 e0 e1 e2
      | true =>
        by_cases hx : cmpN a.data.toList b.data.toList ≤ 0
        · by_cases hy : cmpN b.data.toList c.data.toList ≤ 0
          · exact groups_5 a b c d w h h1 h2 h3 e0 e1 e2 _ _ rfl rfl hx hy
          · exact groups_4 a b c d w h h1 h2 h3 e0 e1 e2 _ _ rfl rfl hx (by omega)
        · exact groups_3 a b c d w h h1 h2 h3 e0 e1 e2 _ _ rfl rfl (by omega)
end Go.Proofs.YtjjcbbckihjapaaDoor.Na
