/-
  The walk of layer 1: alive, the chapter's small cases.
-/
import Derived.Test.YtphlihmngbmiiaaDoorFoK
namespace Go.Proofs.YtphlihmngbmiiaaDoor.Fo
open Go.RowKit

theorem sub_w {P : Program} {k : Nat} {args : Array Value} {w : World} {Q : Ending → Prop} (h : Calls P k args w fun e w' => Q e ∧ w = w') : Calls P k args w fun e w' => Q e ∧ Below w.heap.size w w' :=
  h.mono fun _ _ ⟨h1, h2⟩ => ⟨h1, by rw [← h2]; exact Below.refl _ _⟩
theorem l_fold (w : World) : Calls Tryd.prog 15 #[.string ⟨#[32, 32, 65, 110, 110, 32, 32, 32, 76, 69, 69, 32]⟩] w fun e w' => e = .returned (.string ⟨#[97, 110, 110, 32, 108, 101, 101]⟩) ∧ Below w.heap.size w w' := by
  have h := fold_any ⟨#[32, 32, 65, 110, 110, 32, 32, 32, 76, 69, 69, 32]⟩ w (by decide)
  rw [show foldL (⟨#[32, 32, 65, 110, 110, 32, 32, 32, 76, 69, 69, 32]⟩ : ByteArray).data.toList = [97, 110, 110, 32, 108, 101, 101] by decide +kernel] at h
  exact h

theorem l_low (w : World) : Calls Tryd.prog 11 #[.string ⟨#[65, 110, 110]⟩] w fun e w' => e = .returned (.string ⟨#[97, 110, 110]⟩) ∧ Below w.heap.size w w' := by
  have h := lower_any ⟨#[65, 110, 110]⟩ w (by decide)
  rw [show lowL (⟨#[65, 110, 110]⟩ : ByteArray).data.toList = [97, 110, 110] by decide +kernel] at h
  exact h

theorem l_trim (w : World) : Calls Tryd.prog 13 #[.string ⟨#[32, 32, 97, 32, 98, 32]⟩] w fun e w' => e = .returned (.string ⟨#[97, 32, 98]⟩) ∧ Below w.heap.size w w' := by
  have h := trim_any ⟨#[32, 32, 97, 32, 98, 32]⟩ w (by decide)
  rw [show trimL (⟨#[32, 32, 97, 32, 98, 32]⟩ : ByteArray).data.toList = [97, 32, 98] by decide +kernel] at h
  exact h

theorem l_cl1 (w : World) : Calls Tryd.prog 17 #[.string ⟨#[97, 32, 32, 98]⟩] w fun e w' => e = .returned (.bool true) ∧ Below w.heap.size w w' := by
  have h := clean_any ⟨#[97, 32, 32, 98]⟩ w (by decide)
  rw [show clnL (⟨#[97, 32, 32, 98]⟩ : ByteArray).data.toList = true by decide +kernel] at h
  exact h

theorem l_cl2 (w : World) : Calls Tryd.prog 17 #[.string ⟨#[97, 32]⟩] w fun e w' => e = .returned (.bool false) ∧ Below w.heap.size w w' := by
  have h := clean_any ⟨#[97, 32]⟩ w (by decide)
  rw [show clnL (⟨#[97, 32]⟩ : ByteArray).data.toList = false by decide +kernel] at h
  exact h

theorem l_nm1 (w : World) : Calls Tryd.prog 19 #[.string ⟨#[120, 45, 49]⟩] w fun e w' => e = .returned (.bool true) ∧ Below w.heap.size w w' := by
  have h := sub_w (name_any ⟨#[120, 45, 49]⟩ w (by decide))
  rw [show namL (⟨#[120, 45, 49]⟩ : ByteArray).data.toList = true by decide +kernel] at h
  exact h

theorem l_nm2 (w : World) : Calls Tryd.prog 19 #[.string ⟨#[49, 120]⟩] w fun e w' => e = .returned (.bool false) ∧ Below w.heap.size w w' := by
  have h := sub_w (name_any ⟨#[49, 120]⟩ w (by decide))
  rw [show namL (⟨#[49, 120]⟩ : ByteArray).data.toList = false by decide +kernel] at h
  exact h

theorem l_wd1 (w : World) : Calls Tryd.prog 21 #[.string ⟨#[49, 120, 58, 97, 46, 98]⟩] w fun e w' => e = .returned (.bool true) ∧ Below w.heap.size w w' := by
  have h := sub_w (word_any ⟨#[49, 120, 58, 97, 46, 98]⟩ w (by decide))
  rw [show wrdL (⟨#[49, 120, 58, 97, 46, 98]⟩ : ByteArray).data.toList = true by decide +kernel] at h
  exact h

theorem l_cmp1 (w : World) : Calls Tryd.prog 23 #[.string ⟨#[65, 110, 110]⟩, .string ⟨#[98, 111, 98]⟩] w fun e w' => e = .returned (.int .i64 (-1)) ∧ Below w.heap.size w w' := by
  have h := compare_any ⟨#[65, 110, 110]⟩ ⟨#[98, 111, 98]⟩ w (by decide) (by decide)
  rw [show cmpL (⟨#[65, 110, 110]⟩ : ByteArray).data.toList (⟨#[98, 111, 98]⟩ : ByteArray).data.toList = -1 by decide +kernel] at h
  exact h

theorem l_cmp2 (w : World) : Calls Tryd.prog 23 #[.string ⟨#[97, 110, 110]⟩, .string ⟨#[65, 110, 110]⟩] w fun e w' => e = .returned (.int .i64 (1)) ∧ Below w.heap.size w w' := by
  have h := compare_any ⟨#[97, 110, 110]⟩ ⟨#[65, 110, 110]⟩ w (by decide) (by decide)
  rw [show cmpL (⟨#[97, 110, 110]⟩ : ByteArray).data.toList (⟨#[65, 110, 110]⟩ : ByteArray).data.toList = 1 by decide +kernel] at h
  exact h

theorem l_mat1 (w : World) (hm : MX w) : Calls Tryd.prog 26 #[.string ⟨#[65, 110, 110, 32, 76, 101, 101]⟩, .slice (some ⟨w.heap.size, 0, none⟩) 3 3] (w.alloc (.cells #[.string ⟨#[97]⟩, .string ⟨#[110, 32, 108]⟩, .string ⟨#[101]⟩] 9)) fun e w' => e = .returned (.bool true) ∧ Below (w.alloc (.cells #[.string ⟨#[97]⟩, .string ⟨#[110, 32, 108]⟩, .string ⟨#[101]⟩] 9)).heap.size (w.alloc (.cells #[.string ⟨#[97]⟩, .string ⟨#[110, 32, 108]⟩, .string ⟨#[101]⟩] 9)) w' := by
  have hs : Ss (w.alloc (.cells #[.string ⟨#[97]⟩, .string ⟨#[110, 32, 108]⟩, .string ⟨#[101]⟩] 9)) (some ⟨w.heap.size, 0, none⟩) 3 3 [⟨#[97]⟩, ⟨#[110, 32, 108]⟩, ⟨#[101]⟩] := ⟨rfl, Nat.le_refl _, fun _ => ⟨w.heap.size, 0, rfl, by simp, fun i hi => by
    rcases i with _ | _ | _ | i <;> first | (simp [go_sem, sAt]; done) | omega⟩⟩
  have hsh : Short [⟨#[97]⟩, ⟨#[110, 32, 108]⟩, ⟨#[101]⟩] := fun i hi => by
    rcases i with _ | _ | _ | i <;> first | decide | (simp at hi; omega)
  have h := match_any ⟨#[65, 110, 110, 32, 76, 101, 101]⟩ _ 3 3 _ (w.alloc (.cells #[.string ⟨#[97]⟩, .string ⟨#[110, 32, 108]⟩, .string ⟨#[101]⟩] 9)) (by decide) hs (by decide) hsh (hm.later ((Below.refl _ _).alloc (Nat.le_refl _) _))
  rw [show matL (⟨#[65, 110, 110, 32, 76, 101, 101]⟩ : ByteArray).data.toList (strsL [⟨#[97]⟩, ⟨#[110, 32, 108]⟩, ⟨#[101]⟩]) = true by decide +kernel] at h
  exact h

theorem l_mat2 (w : World) (hm : MX w) : Calls Tryd.prog 26 #[.string ⟨#[97, 98]⟩, .slice (some ⟨w.heap.size, 0, none⟩) 2 2] (w.alloc (.cells #[.string ⟨#[97, 98]⟩, .string ⟨#[98]⟩] 9)) fun e w' => e = .returned (.bool false) ∧ Below (w.alloc (.cells #[.string ⟨#[97, 98]⟩, .string ⟨#[98]⟩] 9)).heap.size (w.alloc (.cells #[.string ⟨#[97, 98]⟩, .string ⟨#[98]⟩] 9)) w' := by
  have hs : Ss (w.alloc (.cells #[.string ⟨#[97, 98]⟩, .string ⟨#[98]⟩] 9)) (some ⟨w.heap.size, 0, none⟩) 2 2 [⟨#[97, 98]⟩, ⟨#[98]⟩] := ⟨rfl, Nat.le_refl _, fun _ => ⟨w.heap.size, 0, rfl, by simp, fun i hi => by
    rcases i with _ | _ | i <;> first | (simp [go_sem, sAt]; done) | omega⟩⟩
  have hsh : Short [⟨#[97, 98]⟩, ⟨#[98]⟩] := fun i hi => by
    rcases i with _ | _ | i <;> first | decide | (simp at hi; omega)
  have h := match_any ⟨#[97, 98]⟩ _ 2 2 _ (w.alloc (.cells #[.string ⟨#[97, 98]⟩, .string ⟨#[98]⟩] 9)) (by decide) hs (by decide) hsh (hm.later ((Below.refl _ _).alloc (Nat.le_refl _) _))
  rw [show matL (⟨#[97, 98]⟩ : ByteArray).data.toList (strsL [⟨#[97, 98]⟩, ⟨#[98]⟩]) = false by decide +kernel] at h
  exact h

/-- alive answers true. -/
def AliveOk : Prop := ∀ w, MX w → Calls Tryd.prog 10 #[] w fun e w' => e = .returned (.bool true) ∧ Below w.heap.size w w'
set_option maxRecDepth 100000 in
set_option maxHeartbeats 4000000 in
theorem alive_any : AliveOk := by
  intro w hm
  have HM := Lib.hid hm
  have HB := Lib.hid (Below.refl w.heap.size w)
  clear hm
  go_enter Tryd.func10, Tryd.ntmps10
  go_wp2_with fail
  refine (l_fold _).mono ?_
  rintro e w1 ⟨rfl, hb⟩
  (first | (have HBn := Lib.hid (ext_call HB.out hb)) | (have HBn := Lib.hid (ext_new HB.out hb))); clear HB hb; have HB := HBn; clear HBn
  go_wp2_with fail
  refine (l_low _).mono ?_
  rintro e w1 ⟨rfl, hb⟩
  (first | (have HBn := Lib.hid (ext_call HB.out hb)) | (have HBn := Lib.hid (ext_new HB.out hb))); clear HB hb; have HB := HBn; clear HBn
  go_wp2_with fail
  refine (l_trim _).mono ?_
  rintro e w1 ⟨rfl, hb⟩
  (first | (have HBn := Lib.hid (ext_call HB.out hb)) | (have HBn := Lib.hid (ext_new HB.out hb))); clear HB hb; have HB := HBn; clear HBn
  go_wp2_with fail
  refine (l_cl1 _).mono ?_
  rintro e w1 ⟨rfl, hb⟩
  (first | (have HBn := Lib.hid (ext_call HB.out hb)) | (have HBn := Lib.hid (ext_new HB.out hb))); clear HB hb; have HB := HBn; clear HBn
  go_wp2_with fail
  refine (l_cl2 _).mono ?_
  rintro e w1 ⟨rfl, hb⟩
  (first | (have HBn := Lib.hid (ext_call HB.out hb)) | (have HBn := Lib.hid (ext_new HB.out hb))); clear HB hb; have HB := HBn; clear HBn
  go_wp2_with fail
  refine (l_nm1 _).mono ?_
  rintro e w1 ⟨rfl, hb⟩
  (first | (have HBn := Lib.hid (ext_call HB.out hb)) | (have HBn := Lib.hid (ext_new HB.out hb))); clear HB hb; have HB := HBn; clear HBn
  go_wp2_with fail
  refine (l_nm2 _).mono ?_
  rintro e w1 ⟨rfl, hb⟩
  (first | (have HBn := Lib.hid (ext_call HB.out hb)) | (have HBn := Lib.hid (ext_new HB.out hb))); clear HB hb; have HB := HBn; clear HBn
  go_wp2_with fail
  refine (l_wd1 _).mono ?_
  rintro e w1 ⟨rfl, hb⟩
  (first | (have HBn := Lib.hid (ext_call HB.out hb)) | (have HBn := Lib.hid (ext_new HB.out hb))); clear HB hb; have HB := HBn; clear HBn
  go_wp2_with fail
  refine (l_cmp1 _).mono ?_
  rintro e w1 ⟨rfl, hb⟩
  (first | (have HBn := Lib.hid (ext_call HB.out hb)) | (have HBn := Lib.hid (ext_new HB.out hb))); clear HB hb; have HB := HBn; clear HBn
  go_wp2_with fail
  refine (l_cmp2 _).mono ?_
  rintro e w1 ⟨rfl, hb⟩
  (first | (have HBn := Lib.hid (ext_call HB.out hb)) | (have HBn := Lib.hid (ext_new HB.out hb))); clear HB hb; have HB := HBn; clear HBn
  go_wp2_with fail
  refine (l_mat1 _ (HM.out.later HB.out)).mono ?_
  rintro e w1 ⟨rfl, hb⟩
  (first | (have HBn := Lib.hid (ext_call HB.out hb)) | (have HBn := Lib.hid (ext_new HB.out hb))); clear HB hb; have HB := HBn; clear HBn
  go_wp2_with fail
  refine (l_mat2 _ (HM.out.later HB.out)).mono ?_
  rintro e w1 ⟨rfl, hb⟩
  (first | (have HBn := Lib.hid (ext_call HB.out hb)) | (have HBn := Lib.hid (ext_new HB.out hb))); clear HB hb; have HB := HBn; clear HBn
  go_wp2
  go_ret
  exact ⟨rfl, HB.out⟩
end Go.Proofs.YtphlihmngbmiiaaDoor.Fo
