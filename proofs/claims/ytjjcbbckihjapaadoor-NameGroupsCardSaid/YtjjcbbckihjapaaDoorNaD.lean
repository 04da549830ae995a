/-
  The walks of layer 5: the reference's component.
-/
import Derived.Test.YtjjcbbckihjapaaDoorNaC
namespace Go.Proofs.YtjjcbbckihjapaaDoor.Na
open Go.RowKit Go.Proofs.YtjjcbbckihjapaaDoor.Fo

theorem nxt_take (c : UInt8) (s : List UInt8) (k : Nat) (h : k ≤ s.length) : nxt c (s.take k) = min k (nxt c s) := by
  fun_induction nxt c s generalizing k with
  | case1 => simp at h; subst h; rfl
  | case2 => subst_vars; rcases k with _ | k <;> simp_all [nxt]
  | case3 x h1 =>
    rcases k with _ | k
    · simp [nxt]
    · have : k = 0 := by simp at h; exact h
      subst this
      simp [nxt, h1]
  | case4 => rcases k with _ | k <;> simp_all [nxt, nxt_at]
  | case5 y r h1 ih =>
    rcases k with _ | _ | k
    · simp [nxt]
    · simp [nxt, h1]
      omega
    · simp only [List.take_succ_cons]
      rw [nxt_esc c _ _ h1, ih k (by simp at h; exact h)]
      omega
  | case6 x y r h1 h2 ih =>
    rcases k with _ | k
    · simp [nxt]
    · rw [List.take_succ_cons, nxt_plain c _ _ h1 h2, ih k (by simp at h ⊢; exact h)]
      omega
theorem nxt_after {s : List UInt8} (h : nxt 44 s = s.length) (h2 : nxt 61 s < s.length) : nxt 44 (s.drop (nxt 61 s + 1)) = (s.drop (nxt 61 s + 1)).length := by
  fun_induction nxt 61 s with
  | case1 => simp at h2
  | case2 => simp [nxt]
  | case3 x h1 => simp at h2
  | case4 =>
    rw [nxt_plain 44 _ _ (by decide) (by decide)] at h
    simp at h ⊢
    omega
  | case5 y r h1 ih =>
    rw [nxt_esc 44 _ _ (by decide)] at h
    simp at h h2
    have := ih (by omega) (by omega)
    rw [show 2 + nxt 61 r + 1 = nxt 61 r + 1 + 1 + 1 by omega]
    simpa using this
  | case6 x y r h1 h3 ih =>
    by_cases h4 : x = 44
    · subst h4
      rw [nxt_at] at h
      simp at h
    · rw [nxt_plain 44 _ _ h4 h3] at h
      rw [List.length_cons] at h h2
      have := ih (by omega) (by omega)
      rw [show 1 + nxt 61 (y :: r) + 1 = nxt 61 (y :: r) + 1 + 1 by omega]
      simpa using this
theorem nxt_ltrim (s : List UInt8) (h : nxt 44 s = s.length) : nxt 44 (s.dropWhile (· == 32)) = (s.dropWhile (· == 32)).length := by
  induction s with
  | nil => rfl
  | cons x r ih =>
    rw [List.dropWhile_cons]
    split
    · next h1 =>
      have e : x = 32 := by simpa using h1
      subst e
      rw [nxt_plain 44 _ _ (by decide) (by decide), List.length_cons] at h
      exact ih (by omega)
    · exact h
theorem nxt_trim (s : List UInt8) (h : nxt 44 s = s.length) : nxt 44 (trimL s) = (trimL s).length := by
  unfold trimL Lib.trimB Lib.trimLeftB Lib.trimRightB
  have hp : (s.reverse.dropWhile (fun x : UInt8 => x == 32)).reverse <+: s := by
    have := (List.dropWhile_suffix (l := s.reverse) (fun x : UInt8 => x == 32))
    have := List.reverse_prefix.2 this
    simpa using this
  refine nxt_ltrim _ ?_
  obtain ⟨k, hk⟩ : ∃ k, k ≤ s.length ∧ (s.reverse.dropWhile (fun x : UInt8 => x == 32)).reverse = s.take k := ⟨_, hp.length_le, (List.prefix_iff_eq_take.1 hp)⟩
  show nxt 44 (s.reverse.dropWhile (fun x : UInt8 => x == 32)).reverse = (s.reverse.dropWhile (fun x : UInt8 => x == 32)).reverse.length
  rw [hk.2, nxt_take 44 s k hk.1, h, List.length_take]

set_option maxHeartbeats 4000000 in
theorem rcomponent_any (s : ByteArray) (w : World) (hs : s.size ≤ 100000) (hc : nxt 44 s.data.toList = s.data.toList.length) : Calls Tryd.prog 39 #[.string s] w (CompIs w (compC s.data.toList)) := by
  have HLN := Lib.hid (show s.data.toList.length = s.size by simp)
  have HS := Lib.hid hs
  have HC := Lib.hid hc
  clear hc
  obtain ⟨n, hn⟩ : ∃ n, n = nxt 61 s.data.toList := ⟨_, rfl⟩
  have HN := Lib.hid hn.symm
  clear hn
  have HB0 := Lib.hid (show Below w.heap.size w (w.alloc (.cells #[.string ⟨#[]⟩, .string ⟨#[]⟩] 36)) from (Below.refl _ w).alloc (Nat.le_refl _) _)
  have HP0 := Lib.hid (Px.new w ⟨#[]⟩ ⟨#[]⟩ 36)
  by_cases hlt : n < s.size
  · have gk : IntKind.i64.wrap ((n : Int) + 1) = ((n + 1 : Nat) : Int) := IntWalk.i64_in _ (by omega)
    have HL := Lib.hid (show nxt 61 s.data.toList < s.data.toList.length by rw [HN.out, HLN.out]; exact hlt)
    go_enter Tryd.func39, Tryd.ntmps39
    go_wp2_with fail
    refine (next_any s 61 (by decide) _ HS.out).mono ?_
    rintro e w1 ⟨rfl, rfl⟩
    rw [HN.out]
    go_wp2_with fail
    refine (rtrim_t _ _ (by have := HS.out; simp; omega)).mono ?_
    rintro e w1 ⟨t1, rfl, ht1, hb1⟩
    rw [drop_str] at ht1
    have HT1 := Lib.hid ht1
    have hz1 : t1.size ≤ 100000 := by
      have h1 := trimL_le (s.data.toList.drop (n + 1))
      rw [← ht1] at h1
      have := HS.out
      simp at h1
      omega
    have HZ1 := Lib.hid hz1
    have HC1 := Lib.hid (show nxt 44 t1.data.toList = t1.data.toList.length by rw [ht1, ← HN.out]; exact nxt_trim _ (nxt_after HC.out HL.out))
    have HP1 := Lib.hid (HP0.out.later hb1)
    have HB1 := Lib.hid (HB0.out.trans (hb1.mono HB0.out.size))
    clear ht1 hb1 hz1
    go_wp2_with fail
    refine (rvalue_any t1 w1 HZ1.out HC1.out).mono ?_
    rintro e w2 ⟨t2, rfl, ht2, hb2⟩
    rw [HT1.out] at ht2 ⊢
    have HP2 := Lib.hid (HP1.out.later hb2)
    have HB2 := Lib.hid (HB1.out.trans (hb2.mono HB1.out.size))
    have HT2 := Lib.hid ht2
    clear ht2 hb2
    cases hv : valF (trimL (s.data.toList.drop (n + 1))) with
    | none =>
      have HR := Lib.hid (compC_none HL.out (by rw [HN.out]; exact hv))
      clear hv
      obtain ⟨p0, p1, p2, p3, p4⟩ := HP2.out
      go_wp2
      refine bodyPost_ret (v := .tuple #[.agg #[.string ⟨#[]⟩, .string ⟨#[]⟩], .int .i64 4]) (by simp [results, Tryd.results39, go_sem, *]) rfl ?_
      exact ret_comp 4 _ _ _ HR.out (by repeat (first | exact HB2.out | refine Below.setCell ?_ (by simp) _))
    | some v =>
      have HV := Lib.hid hv
      have hz2 : t2.size ≤ 100000 := by
        have h1 := valF_len hv
        have h2 := trimL_le (s.data.toList.drop (n + 1))
        have h3 := HT2.out
        rw [hv] at h3
        have h4 : t2.data.toList = v := h3
        have := HS.out
        simp [← h4] at h1 h2
        omega
      have HTV := Lib.hid (show t2.data.toList = v by have h3 := HT2.out; rw [hv] at h3; exact h3)
      have HZ2 := Lib.hid hz2
      clear hv hz2
      have hsn : (s.extract 0 n).size ≤ 100000 := by have := HS.out; simp; omega
      have HSN := Lib.hid hsn
      clear hsn
      go_wp2_with fail
      refine (rtrim_t _ w2 HSN.out).mono ?_
      rintro e w3 ⟨t3, rfl, ht3, hb3⟩
      rw [take_str] at ht3
      have HP3 := Lib.hid (HP2.out.later hb3)
      have HB3 := Lib.hid (HB2.out.trans (hb3.mono HB2.out.size))
      have HT3 := Lib.hid ht3
      have HZ3 := Lib.hid (show t3.size ≤ 100000 by
        have h1 := trimL_le (s.data.toList.take n)
        rw [← ht3] at h1
        have := HS.out
        simp at h1
        omega)
      clear ht3 hb3
      have HX := Lib.hid (Px.new w3 t3 t2 36)
      have HP4 := Lib.hid (HP3.out.later ((Below.refl _ w3).alloc (Nat.le_refl _) (.cells #[.string t3, .string t2] 36)))
      have HB4 := Lib.hid (HB3.out.trans (((Below.refl _ w3).alloc (Nat.le_refl _) (.cells #[.string t3, .string t2] 36)).mono HB3.out.size))
      obtain ⟨p0, p1, p2, p3, p4⟩ := HP4.out
      have q0 : w3.heap.size ≠ w.heap.size := Nat.ne_of_gt HP3.out.1
      have q1 : w.heap.size ≠ w3.heap.size := Nat.ne_of_lt HP3.out.1
      cases hnm : namL (trimL (s.data.toList.take n)) with
      | false =>
        have HR := Lib.hid (compC_name HL.out (by rw [HN.out]; exact HV.out) (by rw [HN.out]; exact hnm))
        have HNM := Lib.hid (show namL t3.data.toList = false by rw [HT3.out]; exact hnm)
        have HNM' := Lib.hid hnm
        clear hnm
        go_wp2_with (go_at_call 46; refine (rname_is t3 _ _ HZ3.out HNM.out).mono ?_; rintro e w4 ⟨rfl, rfl⟩)
        refine bodyPost_ret (v := .tuple #[.agg #[.string ⟨#[]⟩, .string ⟨#[]⟩], .int .i64 5]) (by simp [results, Tryd.results39, go_sem, *]) rfl ?_
        exact ret_comp 5 _ _ _ HR.out (by repeat (first | exact HB4.out | refine Below.setCell ?_ (by simp) _))
      | true =>
        have HNM := Lib.hid (show namL t3.data.toList = true by rw [HT3.out]; exact hnm)
        have HNM' := Lib.hid hnm
        clear hnm
        go_wp2_with (first | (go_at_call 46; refine (rname_is t3 _ _ HZ3.out HNM.out).mono ?_; rintro e w4 ⟨rfl, rfl⟩) | fail)
        refine (rclean_any t2 _ HZ2.out).mono ?_
        rintro e w4 ⟨rfl, hb4⟩
        rw [HTV.out]
        have HX4 := Lib.hid (HX.out.later hb4)
        have HP5 := Lib.hid (HP4.out.later hb4)
        have HB5 := Lib.hid (HB4.out.trans (hb4.mono HB4.out.size))
        clear hb4 p0 p1 p2 p3 p4
        obtain ⟨p0, p1, p2, p3, p4⟩ := HP5.out
        obtain ⟨x0, x1, x2, x3, x4⟩ := HX4.out
        cases hcl : clnL v with
        | false =>
          have HR := Lib.hid (compC_type HL.out (by rw [HN.out]; exact HV.out) (by rw [HN.out]; exact HNM'.out) hcl)
          clear hcl
          go_wp2
          refine bodyPost_ret (v := .tuple #[.agg #[.string ⟨#[]⟩, .string ⟨#[]⟩], .int .i64 8]) (by simp [results, Tryd.results39, go_sem, *]) rfl ?_
          exact ret_comp 8 _ _ _ HR.out (by repeat (first | exact HB5.out | refine Below.setCell ?_ (by simp) _))
        | true =>
          have HR := Lib.hid (compC_good HL.out (by rw [HN.out]; exact HV.out) (by rw [HN.out]; exact HNM'.out) hcl)
          clear hcl
          go_wp2
          refine bodyPost_ret (v := .tuple #[.agg #[.string t3, .string t2], .int .i64 0]) (by simp [results, Tryd.results39, go_sem, *]) rfl ?_
          exact ⟨t3, t2, by rw [HR.out], by rw [HR.out, HT3.out, HN.out], by rw [HR.out, HTV.out], by repeat (first | exact HB5.out | refine Below.setCell ?_ (by simp) _)⟩
  · have HR := Lib.hid (compC_bad (s := s.data.toList) (by rw [HN.out, HLN.out]; exact hlt))
    obtain ⟨p0, p1, p2, p3, p4⟩ := HP0.out
    go_enter Tryd.func39, Tryd.ntmps39
    go_wp2_with (go_at_call 38; refine (next_any s 61 (by decide) _ HS.out).mono ?_; rintro e w1 ⟨rfl, rfl⟩; rw [HN.out])
    refine bodyPost_ret (v := .tuple #[.agg #[.string ⟨#[]⟩, .string ⟨#[]⟩], .int .i64 4]) (by simp [results, Tryd.results39, go_sem, *]) rfl ?_
    exact ret_comp 4 _ _ _ HR.out (by repeat (first | exact HB0.out | refine Below.setCell ?_ (by simp) _))
end Go.Proofs.YtjjcbbckihjapaaDoor.Na
