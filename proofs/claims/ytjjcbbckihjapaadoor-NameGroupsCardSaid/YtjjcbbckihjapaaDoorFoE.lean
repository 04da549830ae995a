/-
  The walks of layer 1: Fold and its reference.
-/
import Derived.Test.YtjjcbbckihjapaaDoorFoD
namespace Go.Proofs.YtjjcbbckihjapaaDoor.Fo
open Go.RowKit

/-- A string comes back that reads as L; what was there is as it was. -/
def StrIs (w : World) (L : List UInt8) (e : Ending) (w' : World) : Prop := ∃ t : ByteArray, e = .returned (.string t) ∧ t.data.toList = L ∧ Below w.heap.size w w'
theorem lower_t (s : ByteArray) (w : World) (hs : s.size ≤ 100000) : Calls Tryd.prog 23 #[.string s] w (StrIs w (lowL s.data.toList)) := (lower_any s w hs).mono fun _ _ ⟨h1, h2⟩ => ⟨_, h1, by simp, h2⟩
theorem rlower_t (s : ByteArray) (w : World) (hs : s.size ≤ 100000) : Calls Tryd.prog 48 #[.string s] w (StrIs w (lowL s.data.toList)) := (rlower_any s w hs).mono fun _ _ ⟨h1, h2⟩ => ⟨_, h1, by simp, h2⟩
theorem trim_t (s : ByteArray) (w : World) (hs : s.size ≤ 100000) : Calls Tryd.prog 63 #[.string s] w (StrIs w (trimL s.data.toList)) := (trim_any s w hs).mono fun _ _ ⟨h1, h2⟩ => ⟨_, h1, by simp, h2⟩
theorem rtrim_t (s : ByteArray) (w : World) (hs : s.size ≤ 100000) : Calls Tryd.prog 67 #[.string s] w (StrIs w (trimL s.data.toList)) := (rtrim_any s w hs).mono fun _ _ ⟨h1, h2⟩ => ⟨_, h1, by simp, h2⟩
theorem dropWhile_le (p : UInt8 → Bool) (l : List UInt8) : (l.dropWhile p).length ≤ l.length := by
  induction l with
  | nil => simp
  | cons x r ih => rw [List.dropWhile_cons]; split <;> simp <;> omega
theorem trimL_le (l : List UInt8) : (trimL l).length ≤ l.length := by
  unfold trimL Lib.trimB Lib.trimLeftB Lib.trimRightB
  have h1 := dropWhile_le (· == 32) l.reverse
  have h2 := dropWhile_le (· == 32) (l.reverse.dropWhile (· == 32)).reverse
  simp only [List.length_reverse] at h1 h2
  omega
theorem dropWhile_head (l : List UInt8) (h : 0 < (l.dropWhile (· == 32)).length) : bAt (l.dropWhile (· == 32)) 0 ≠ 32 := by
  induction l with
  | nil => simp at h
  | cons x r ih =>
    rw [List.dropWhile_cons] at h ⊢
    split
    · rename_i hx
      rw [if_pos hx] at h
      exact ih h
    · rename_i hx
      simpa [bAt] using hx
theorem trimL_head (l : List UInt8) (h : 0 < (trimL l).length) : bAt (trimL l) 0 ≠ 32 := dropWhile_head _ h
theorem lowB_space (c : UInt8) : lowB c = 32 ↔ c = 32 := by
  have h : ∀ c : Fin 256, lowB (UInt8.ofNat c.1) = 32 ↔ UInt8.ofNat c.1 = 32 := by decide +kernel
  have := h ⟨c.toNat, c.toNat_lt⟩
  simpa using this
theorem lowL_at (l : List UInt8) (i : Nat) (h : i < l.length) : bAt (lowL l) i = lowB (bAt l i) := by
  rw [bAt_get _ _ (by rw [lowL_length]; exact h), bAt_get _ _ h]
  simp [lowL]
theorem folded_head (l : List UInt8) (h : 0 < (lowL (trimL l)).length) : bAt (lowL (trimL l)) 0 ≠ 32 := by
  rw [lowL_length] at h
  rw [lowL_at _ _ h]
  intro hc
  exact trimL_head l h ((lowB_space _).1 hc)
theorem keep_a {T : List UInt8} {k : Nat} (h : bAt T k ≠ 32) : keepB T k = true := by
  simp only [keepB, decide_eq_true_eq]
  exact Or.inl fun e => h (UInt8.toNat_inj.1 e)
theorem keep_0 (T : List UInt8) : keepB T 0 = true := by simp [keepB]
theorem keep_b {T : List UInt8} {q : Nat} (h : bAt T q ≠ 32) : keepB T (q + 1) = true := by
  simp only [keepB, decide_eq_true_eq]
  exact Or.inr (Or.inr fun e => h (UInt8.toNat_inj.1 e))
theorem keep_c {T : List UInt8} {q : Nat} (h : bAt T (q + 1) = 32) (h2 : bAt T q = 32) : keepB T (q + 1) = false := by
  simp [keepB, h, h2]
theorem ne_space {c : UInt8} (h : c ≠ 32) : ((c.toNat : Int) != 32) = true := by
  rw [bne_iff_ne]
  intro e
  exact h (UInt8.toNat_inj.1 (by exact_mod_cast e))
theorem eq_space {c : UInt8} (h : c = 32) : ((c.toNat : Int) != 32) = false := by subst h; rfl
set_option maxHeartbeats 4000000 in
theorem fold_any (s : ByteArray) (w : World) (hs : s.size ≤ 100000) :
    Calls Tryd.prog 43 #[.string s] w fun e w' => e = .returned (.string ⟨(foldL s.data.toList).toArray⟩) ∧ Below w.heap.size w w' := by
  obtain ⟨i0, hi, hz0, hz1, hz2⟩ := info_parts byte_info
  have HS := Lib.hid hs
  go_enter Tryd.func43, Tryd.ntmps43
  go_wp2_with fail
  refine (trim_t s w HS.out).mono ?_
  rintro e w1 ⟨t1, rfl, ht1, hb1⟩
  have HT1 := Lib.hid ht1
  have HB1 := Lib.hid hb1
  have hz1' : t1.size ≤ 100000 := by
    have h1 := trimL_le s.data.toList
    rw [← ht1] at h1
    simp at h1
    have := HS.out
    omega
  clear ht1 hb1
  go_wp2_with fail
  refine (lower_t t1 w1 hz1').mono ?_
  rintro e w2 ⟨t, rfl, ht, hb2⟩
  have HTT := Lib.hid ht
  have HB2 := Lib.hid (HB1.out.trans (hb2.mono HB1.out.size))
  clear ht hb2
  obtain ⟨T, hT⟩ : ∃ T, T = lowL (trimL s.data.toList) := ⟨_, rfl⟩
  have HTL := Lib.hid (show t.data.toList = T by rw [HTT.out, HT1.out, hT])
  have HTZ := Lib.hid (show T.length = t.size by rw [← HTL.out]; simp)
  have HF := Lib.hid (show (⟨(foldL s.data.toList).toArray⟩ : ByteArray) = ⟨(sqTo T t.size).toArray⟩ by rw [← HTZ.out, hT]; rfl)
  have HHD := Lib.hid (show 0 < t.size → bAt T 0 ≠ 32 by
    intro h
    rw [hT]
    exact folded_head _ (by rw [← hT, HTZ.out]; exact h))
  have htz : t.size ≤ 100000 := by
    have h1 : T.length = t1.size := by rw [hT, lowL_length, ← HT1.out]; simp
    have := HTZ.out
    omega
  clear hT hs
  go_wp2
  go_loopw [4, 5, 11] (fun v _ i wr => ∃ (k m : Nat) (l : List UInt8) (A : Option Addr) (cc : Nat), k ≤ t.size ∧ i = .int .i64 k ∧ v = .slice A m cc ∧ m ≤ k ∧ Hid (l = sqTo T k) ∧ Hid (OwnS wr w.heap.size A m cc l) ∧ Below w.heap.size w wr) (fun _ _ i _ => t.size - (intOf i).toNat)
  case atStart => exact ⟨0, 0, [], none, 0, Nat.zero_le _, rfl, rfl, Nat.le_refl _, rfl, OwnS.nil _ _, HB2.out⟩
  case round =>
    obtain ⟨k, m, l, A, cc, hk, rfl, rfl, hmk, HL, HO, hb⟩ := hrel
    have HB := Lib.hid hb
    have hbz := hb.size
    clear hb
    by_cases hlt : k < t.size
    · have hbk : bAt T k = t[k] := by rw [← HTL.out, bAt_str t k hlt]
      have HBK := Lib.hid hbk
      cases k with
      | zero =>
        have h32 : t[0] ≠ 32 := by rw [← hbk]; exact HHD.out hlt
        have hn := ne_space h32
        clear hbk h32
        have HK := Lib.hid (sqTo_yes T 0 (keep_0 T))
        go_wp2_with (at_builtin; go_must (refine wpList_append_own_at _ rfl (.tmp 25) (.tmp 29) _ rfl w.heap.size 5 i0 _ 1 1 Tryd.underlying53 hi hz0 hz1 hz2 rfl (by decide) (.slice A m cc) m (bytesV l) rfl (HO.out.row _) ⟨wr.heap.size, 0, none⟩ 1 1 [.int .u8 ((t[0]).toNat : Int)] rfl rfl (one_src _ _ _) (one_one _) (by simp only [maxLen]; omega) (by omega) (by simp; omega) ?_); intro v' w3 hown1 hgrow hnil hat; have HB3 := Lib.hid (OwnS.grow (HO.out.row _) HB.out (Nat.le_refl _) hgrow); obtain ⟨A1, c1, rfl, hO1⟩ := OwnS.snoc HO.out.1 hown1; have HO1 := Lib.hid hO1; clear hown1 hgrow hnil hat hO1)
        go_roundw
        case rel => exact ⟨0 + 1, m + 1, l ++ [t[0]], A1, c1, by omega, by go_num, rfl, by omega, by show _ = _; rw [HK.out, HL.out, HBK.out], HO1.out, HB3.out⟩
        case measure => simp [intOf]; omega
      | succ q =>
        have hqt : q < t.size := by omega
        have hbq : bAt T q = t[q] := by rw [← HTL.out, bAt_str t q hqt]
        have HBQ := Lib.hid hbq
        clear hbk hbq
        by_cases h32 : t[q + 1] = 32
        · have hn := eq_space h32
          have H32 := Lib.hid h32
          clear h32
          by_cases p32 : t[q] = 32
          · have hp := eq_space p32
            have HK := Lib.hid (sqTo_no T (q + 1) (keep_c (by rw [HBK.out]; exact H32.out) (by rw [HBQ.out]; exact p32)))
            clear p32
            go_wp2
            go_roundw
            case rel => exact ⟨q + 1 + 1, m, l, A, cc, by omega, by go_num, rfl, by omega, by show _ = _; rw [HK.out, HL.out], HO.out, HB.out⟩
            case measure => simp [intOf]; omega
          · have hp := ne_space p32
            have HP := Lib.hid p32
            clear p32
            have HK := Lib.hid (sqTo_yes T (q + 1) (keep_b (by rw [HBQ.out]; exact HP.out)))
            go_wp2_with (at_builtin; go_must (refine wpList_append_own_at _ rfl (.tmp 25) (.tmp 29) _ rfl w.heap.size 5 i0 _ 1 1 Tryd.underlying53 hi hz0 hz1 hz2 rfl (by decide) (.slice A m cc) m (bytesV l) rfl (HO.out.row _) ⟨wr.heap.size, 0, none⟩ 1 1 [.int .u8 ((t[(q + 1)]).toNat : Int)] rfl rfl (one_src _ _ _) (one_one _) (by simp only [maxLen]; omega) (by omega) (by simp; omega) ?_); intro v' w3 hown1 hgrow hnil hat; have HB3 := Lib.hid (OwnS.grow (HO.out.row _) HB.out (Nat.le_refl _) hgrow); obtain ⟨A1, c1, rfl, hO1⟩ := OwnS.snoc HO.out.1 hown1; have HO1 := Lib.hid hO1; clear hown1 hgrow hnil hat hO1)
            go_roundw
            case rel => exact ⟨(q + 1) + 1, m + 1, l ++ [t[(q + 1)]], A1, c1, by omega, by go_num, rfl, by omega, by show _ = _; rw [HK.out, HL.out, HBK.out], HO1.out, HB3.out⟩
            case measure => simp [intOf]; omega
        · have hn := ne_space h32
          have HP := Lib.hid h32
          clear h32
          have HK := Lib.hid (sqTo_yes T (q + 1) (keep_a (by rw [HBK.out]; exact HP.out)))
          go_wp2_with (at_builtin; go_must (refine wpList_append_own_at _ rfl (.tmp 25) (.tmp 29) _ rfl w.heap.size 5 i0 _ 1 1 Tryd.underlying53 hi hz0 hz1 hz2 rfl (by decide) (.slice A m cc) m (bytesV l) rfl (HO.out.row _) ⟨wr.heap.size, 0, none⟩ 1 1 [.int .u8 ((t[(q + 1)]).toNat : Int)] rfl rfl (one_src _ _ _) (one_one _) (by simp only [maxLen]; omega) (by omega) (by simp; omega) ?_); intro v' w3 hown1 hgrow hnil hat; have HB3 := Lib.hid (OwnS.grow (HO.out.row _) HB.out (Nat.le_refl _) hgrow); obtain ⟨A1, c1, rfl, hO1⟩ := OwnS.snoc HO.out.1 hown1; have HO1 := Lib.hid hO1; clear hown1 hgrow hnil hat hO1)
          go_roundw
          case rel => exact ⟨(q + 1) + 1, m + 1, l ++ [t[(q + 1)]], A1, c1, by omega, by go_num, rfl, by omega, by show _ = _; rw [HK.out, HL.out, HBK.out], HO1.out, HB3.out⟩
          case measure => simp [intOf]; omega
    · have e : k = t.size := by omega
      subst e
      have hcv := HO.out.str
      go_wp2
      go_ret
      exact ⟨ret_str (by rw [HF.out, HL.out]), HB.out⟩

set_option maxHeartbeats 4000000 in
theorem rfold_any (s : ByteArray) (w : World) (hs : s.size ≤ 100000) :
    Calls Tryd.prog 49 #[.string s] w fun e w' => e = .returned (.string ⟨(foldL s.data.toList).toArray⟩) ∧ Below w.heap.size w w' := by
  obtain ⟨i0, hi, hz0, hz1, hz2⟩ := info_parts byte_info
  have HS := Lib.hid hs
  go_enter Tryd.func49, Tryd.ntmps49
  go_wp2_with fail
  refine (rtrim_t s w HS.out).mono ?_
  rintro e w1 ⟨t1, rfl, ht1, hb1⟩
  have HT1 := Lib.hid ht1
  have HB1 := Lib.hid hb1
  have hz1' : t1.size ≤ 100000 := by
    have h1 := trimL_le s.data.toList
    rw [← ht1] at h1
    simp at h1
    have := HS.out
    omega
  clear ht1 hb1
  go_wp2_with fail
  refine (rlower_t t1 w1 hz1').mono ?_
  rintro e w2 ⟨t, rfl, ht, hb2⟩
  have HTT := Lib.hid ht
  have HB2 := Lib.hid (HB1.out.trans (hb2.mono HB1.out.size))
  clear ht hb2
  obtain ⟨T, hT⟩ : ∃ T, T = lowL (trimL s.data.toList) := ⟨_, rfl⟩
  have HTL := Lib.hid (show t.data.toList = T by rw [HTT.out, HT1.out, hT])
  have HTZ := Lib.hid (show T.length = t.size by rw [← HTL.out]; simp)
  have HF := Lib.hid (show (⟨(foldL s.data.toList).toArray⟩ : ByteArray) = ⟨(sqTo T t.size).toArray⟩ by rw [← HTZ.out, hT]; rfl)
  have HHD := Lib.hid (show 0 < t.size → bAt T 0 ≠ 32 by
    intro h
    rw [hT]
    exact folded_head _ (by rw [← hT, HTZ.out]; exact h))
  have htz : t.size ≤ 100000 := by
    have h1 : T.length = t1.size := by rw [hT, lowL_length, ← HT1.out]; simp
    have := HTZ.out
    omega
  clear hT hs
  go_wp2
  go_loopw [4, 5] (fun v i wr => ∃ (k m : Nat) (l : List UInt8) (A : Option Addr) (cc : Nat), k ≤ t.size ∧ i = .int .i64 k ∧ v = .slice A m cc ∧ m ≤ k ∧ Hid (l = sqTo T k) ∧ Hid (OwnS wr w.heap.size A m cc l) ∧ Below w.heap.size w wr) (fun _ i _ => t.size - (intOf i).toNat)
  case atStart => exact ⟨0, 0, [], none, 0, Nat.zero_le _, rfl, rfl, Nat.le_refl _, rfl, OwnS.nil _ _, HB2.out⟩
  case round =>
    obtain ⟨k, m, l, A, cc, hk, rfl, rfl, hmk, HL, HO, hb⟩ := hrel
    have HB := Lib.hid hb
    have hbz := hb.size
    clear hb
    by_cases hlt : k < t.size
    · have hbk : bAt T k = t[k] := by rw [← HTL.out, bAt_str t k hlt]
      have HBK := Lib.hid hbk
      cases k with
      | zero =>
        clear hbk
        have HK := Lib.hid (sqTo_yes T 0 (keep_0 T))
        go_wp2_with (at_builtin; go_must (refine wpList_append_own_at _ rfl (.tmp 30) (.tmp 34) _ rfl w.heap.size 5 i0 _ 1 1 Tryd.underlying53 hi hz0 hz1 hz2 rfl (by decide) (.slice A m cc) m (bytesV l) rfl (HO.out.row _) ⟨wr.heap.size, 0, none⟩ 1 1 [.int .u8 ((t[0]).toNat : Int)] rfl rfl (one_src _ _ _) (one_one _) (by simp only [maxLen]; omega) (by omega) (by simp; omega) ?_); intro v' w3 hown1 hgrow hnil hat; have HB3 := Lib.hid (OwnS.grow (HO.out.row _) HB.out (Nat.le_refl _) hgrow); obtain ⟨A1, c1, rfl, hO1⟩ := OwnS.snoc HO.out.1 hown1; have HO1 := Lib.hid hO1; clear hown1 hgrow hnil hat hO1)
        go_roundw
        case rel => exact ⟨0 + 1, m + 1, l ++ [t[0]], A1, c1, by omega, by go_num, rfl, by omega, by show _ = _; rw [HK.out, HL.out, HBK.out], HO1.out, HB3.out⟩
        case measure => simp [intOf]; omega
      | succ q =>
        have hqt : q < t.size := by omega
        have hbq : bAt T q = t[q] := by rw [← HTL.out, bAt_str t q hqt]
        have HBQ := Lib.hid hbq
        clear hbk hbq
        by_cases h32 : t[q + 1] = 32
        · have hn := eq_space h32
          have H32 := Lib.hid h32
          clear h32
          by_cases p32 : t[q] = 32
          · have hp := eq_space p32
            have HK := Lib.hid (sqTo_no T (q + 1) (keep_c (by rw [HBK.out]; exact H32.out) (by rw [HBQ.out]; exact p32)))
            clear p32
            go_wp2
            go_roundw
            case rel => exact ⟨q + 1 + 1, m, l, A, cc, by omega, by go_num, rfl, by omega, by show _ = _; rw [HK.out, HL.out], HO.out, HB.out⟩
            case measure => simp [intOf]; omega
          · have hp := ne_space p32
            have HP := Lib.hid p32
            clear p32
            have HK := Lib.hid (sqTo_yes T (q + 1) (keep_b (by rw [HBQ.out]; exact HP.out)))
            go_wp2_with (at_builtin; go_must (refine wpList_append_own_at _ rfl (.tmp 30) (.tmp 34) _ rfl w.heap.size 5 i0 _ 1 1 Tryd.underlying53 hi hz0 hz1 hz2 rfl (by decide) (.slice A m cc) m (bytesV l) rfl (HO.out.row _) ⟨wr.heap.size, 0, none⟩ 1 1 [.int .u8 ((t[(q + 1)]).toNat : Int)] rfl rfl (one_src _ _ _) (one_one _) (by simp only [maxLen]; omega) (by omega) (by simp; omega) ?_); intro v' w3 hown1 hgrow hnil hat; have HB3 := Lib.hid (OwnS.grow (HO.out.row _) HB.out (Nat.le_refl _) hgrow); obtain ⟨A1, c1, rfl, hO1⟩ := OwnS.snoc HO.out.1 hown1; have HO1 := Lib.hid hO1; clear hown1 hgrow hnil hat hO1)
            go_roundw
            case rel => exact ⟨(q + 1) + 1, m + 1, l ++ [t[(q + 1)]], A1, c1, by omega, by go_num, rfl, by omega, by show _ = _; rw [HK.out, HL.out, HBK.out], HO1.out, HB3.out⟩
            case measure => simp [intOf]; omega
        · have hn := ne_space h32
          have HP := Lib.hid h32
          clear h32
          have HK := Lib.hid (sqTo_yes T (q + 1) (keep_a (by rw [HBK.out]; exact HP.out)))
          go_wp2_with (at_builtin; go_must (refine wpList_append_own_at _ rfl (.tmp 30) (.tmp 34) _ rfl w.heap.size 5 i0 _ 1 1 Tryd.underlying53 hi hz0 hz1 hz2 rfl (by decide) (.slice A m cc) m (bytesV l) rfl (HO.out.row _) ⟨wr.heap.size, 0, none⟩ 1 1 [.int .u8 ((t[(q + 1)]).toNat : Int)] rfl rfl (one_src _ _ _) (one_one _) (by simp only [maxLen]; omega) (by omega) (by simp; omega) ?_); intro v' w3 hown1 hgrow hnil hat; have HB3 := Lib.hid (OwnS.grow (HO.out.row _) HB.out (Nat.le_refl _) hgrow); obtain ⟨A1, c1, rfl, hO1⟩ := OwnS.snoc HO.out.1 hown1; have HO1 := Lib.hid hO1; clear hown1 hgrow hnil hat hO1)
          go_roundw
          case rel => exact ⟨(q + 1) + 1, m + 1, l ++ [t[(q + 1)]], A1, c1, by omega, by go_num, rfl, by omega, by show _ = _; rw [HK.out, HL.out, HBK.out], HO1.out, HB3.out⟩
          case measure => simp [intOf]; omega
    · have e : k = t.size := by omega
      subst e
      have hcv := HO.out.str
      go_wp2
      go_ret
      exact ⟨ret_str (by rw [HF.out, HL.out]), HB.out⟩

theorem fold_t (s : ByteArray) (w : World) (hs : s.size ≤ 100000) : Calls Tryd.prog 43 #[.string s] w (StrIs w (foldL s.data.toList)) := (fold_any s w hs).mono fun _ _ ⟨h1, h2⟩ => ⟨_, h1, by simp, h2⟩
theorem rfold_t (s : ByteArray) (w : World) (hs : s.size ≤ 100000) : Calls Tryd.prog 49 #[.string s] w (StrIs w (foldL s.data.toList)) := (rfold_any s w hs).mono fun _ _ ⟨h1, h2⟩ => ⟨_, h1, by simp, h2⟩
end Go.Proofs.YtjjcbbckihjapaaDoor.Fo
