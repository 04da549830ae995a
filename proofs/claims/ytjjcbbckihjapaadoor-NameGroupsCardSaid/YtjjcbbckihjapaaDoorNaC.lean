/-
  The walks of layer 5: component.
-/
import Derived.Test.YtjjcbbckihjapaaDoorNaB
namespace Go.Proofs.YtjjcbbckihjapaaDoor.Na
open Go.RowKit Go.Proofs.YtjjcbbckihjapaaDoor.Fo

theorem trimmed_t (s : ByteArray) (w : World) (hs : s.size ≤ 100000) : Calls Tryd.prog 62 #[.string s] w (StrIs w (trimL s.data.toList)) := by
  have HS := Lib.hid hs
  go_enter Tryd.func62, Tryd.ntmps62
  go_wp2_with fail
  refine (trim_t s w HS.out).mono ?_
  rintro e w1 ⟨t, rfl, ht, hb⟩
  go_wp2
  go_ret
  exact ⟨t, rfl, ht, hb⟩

/-- A component's answer. -/
def CompIs (w : World) (r : Pr × Int) (e : Ending) (w' : World) : Prop :=
  ∃ x y : ByteArray, e = .returned (.tuple #[.agg #[.string x, .string y], .int .i64 r.2]) ∧ x.data.toList = r.1.1 ∧ y.data.toList = r.1.2 ∧ Below w.heap.size w w'
theorem ret_comp (c : Int) (r : Pr × Int) (w w' : World) (h : r = (([], []), c)) (hb : Below w.heap.size w w') : CompIs w r (.returned (.tuple #[.agg #[.string ⟨#[]⟩, .string ⟨#[]⟩], .int .i64 c])) w' := by
  subst h
  exact ⟨⟨#[]⟩, ⟨#[]⟩, rfl, rfl, rfl, hb⟩

theorem name_is (s : ByteArray) (w : World) (b : Bool) (hs : s.size ≤ 100000) (h : namL s.data.toList = b) :
    Calls Tryd.prog 64 #[.string s] w fun e w' => e = .returned (.bool b) ∧ w = w' := by rw [← h]; exact name_any s w hs
theorem rname_is (s : ByteArray) (w : World) (b : Bool) (hs : s.size ≤ 100000) (h : namL s.data.toList = b) :
    Calls Tryd.prog 46 #[.string s] w fun e w' => e = .returned (.bool b) ∧ w = w' := by rw [← h]; exact rname_any s w hs
theorem valF_len {l v : List UInt8} (h : valF l = some v) : v.length ≤ l.length := by
  fun_induction valF l generalizing v with
  | case1 => simp at h; subst h; simp
  | case2 => simp at h
  | case3 => simp at h; subst h; simp
  | case4 y r h1 ih =>
    simp at h
    obtain ⟨a, ha, rfl⟩ := h
    have := ih ha
    simp; omega
  | case5 => simp at h
  | case6 => simp at h
  | case7 x y r h1 h2 ih =>
    simp at h
    obtain ⟨a, ha, rfl⟩ := h
    have := ih ha
    simp at this ⊢; omega
/-- A variable that holds a pair. -/
def Px (w : World) (b : Nat) (x y : ByteArray) : Prop :=
  b < w.heap.size ∧ w.cell? ⟨b, 0, none⟩ = some (.string x) ∧ w.cell? ⟨b, 1, none⟩ = some (.string y) ∧ w.frozen? ⟨b, 0, none⟩ = false ∧ w.frozen? ⟨b, 1, none⟩ = false
theorem Px.later {w w' : World} {b : Nat} {x y : ByteArray} (h : Px w b x y) (hb : Below w.heap.size w w') : Px w' b x y := by
  obtain ⟨h0, h1, h2, h3, h4⟩ := h
  exact ⟨Nat.lt_of_lt_of_le h0 hb.size, by rw [bkeep hb h0]; exact h1, by rw [bkeep hb h0]; exact h2, by rw [bkeepf hb h0]; exact h3, by rw [bkeepf hb h0]; exact h4⟩
theorem Px.new (w : World) (x y : ByteArray) (t : TypeId) : Px (w.alloc (.cells #[.string x, .string y] t)) w.heap.size x y :=
  ⟨by simp, by simp [go_sem], by simp [go_sem], by simp [go_sem], by simp [go_sem]⟩
theorem drop_str (s : ByteArray) (n : Nat) : (s.extract n s.size).data.toList = s.data.toList.drop n := Lib.extract_to_end s n
theorem take_str (s : ByteArray) (n : Nat) : (s.extract 0 n).data.toList = s.data.toList.take n := by rw [Lib.extract_data, List.drop_zero, Nat.sub_zero]

theorem compC_bad {s : List UInt8} (h : ¬ nxt 61 s < s.length) : compC s = (([], []), 4) := by unfold compC; rw [if_neg h]
theorem compC_none {s : List UInt8} (h : nxt 61 s < s.length) (h1 : valF (trimL (s.drop (nxt 61 s + 1))) = none) : compC s = (([], []), 4) := by
  unfold compC; rw [if_pos h, h1]
theorem compC_name {s v : List UInt8} (h : nxt 61 s < s.length) (h1 : valF (trimL (s.drop (nxt 61 s + 1))) = some v) (h2 : namL (trimL (s.take (nxt 61 s))) = false) : compC s = (([], []), 5) := by
  unfold compC; rw [if_pos h, h1]; simp [h2]
theorem compC_type {s v : List UInt8} (h : nxt 61 s < s.length) (h1 : valF (trimL (s.drop (nxt 61 s + 1))) = some v) (h2 : namL (trimL (s.take (nxt 61 s))) = true) (h3 : clnL v = false) : compC s = (([], []), 8) := by
  unfold compC; rw [if_pos h, h1]; simp [h2, h3]
theorem compC_good {s v : List UInt8} (h : nxt 61 s < s.length) (h1 : valF (trimL (s.drop (nxt 61 s + 1))) = some v) (h2 : namL (trimL (s.take (nxt 61 s))) = true) (h3 : clnL v = true) : compC s = ((trimL (s.take (nxt 61 s)), v), 0) := by
  unfold compC; rw [if_pos h, h1]; simp [h2, h3]

set_option maxHeartbeats 4000000 in
theorem component_any (s : ByteArray) (w : World) (hs : s.size ≤ 100000) : Calls Tryd.prog 37 #[.string s] w (CompIs w (compC s.data.toList)) := by
  have HLN := Lib.hid (show s.data.toList.length = s.size by simp)
  have HS := Lib.hid hs
  obtain ⟨n, hn⟩ : ∃ n, n = nxt 61 s.data.toList := ⟨_, rfl⟩
  have HN := Lib.hid hn.symm
  clear hn
  have HB0 := Lib.hid (show Below w.heap.size w (w.alloc (.cells #[.string ⟨#[]⟩, .string ⟨#[]⟩] 36)) from (Below.refl _ w).alloc (Nat.le_refl _) _)
  have HP0 := Lib.hid (Px.new w ⟨#[]⟩ ⟨#[]⟩ 36)
  by_cases hlt : n < s.size
  · have HI := Lib.hid (show idx 61 s.data.toList = n by unfold idx; rw [HN.out, HLN.out, if_pos hlt])
    have gk : IntKind.i64.wrap ((n : Int) + 1) = ((n + 1 : Nat) : Int) := IntWalk.i64_in _ (by omega)
    have HL := Lib.hid (show nxt 61 s.data.toList < s.data.toList.length by rw [HN.out, HLN.out]; exact hlt)
    go_enter Tryd.func37, Tryd.ntmps37
    go_wp2_with fail
    refine (index_any s 61 (by decide) _ HS.out).mono ?_
    rintro e w1 ⟨rfl, rfl⟩
    rw [HI.out]
    go_wp2_with fail
    refine (trimmed_t _ _ (by have := HS.out; simp; omega)).mono ?_
    rintro e w1 ⟨t1, rfl, ht1, hb1⟩
    rw [drop_str] at ht1
    have HT1 := Lib.hid ht1
    have hz1 : t1.size ≤ 100000 := by
      have h1 := trimL_le (s.data.toList.drop (n + 1))
      rw [← ht1] at h1
      have := HS.out
      simp at h1
      omega
    have HZ1 := Lib.hid hz1
    have HP1 := Lib.hid (HP0.out.later hb1)
    have HB1 := Lib.hid (HB0.out.trans (hb1.mono HB0.out.size))
    clear ht1 hb1 hz1
    go_wp2_with fail
    refine (value_any t1 w1 HZ1.out).mono ?_
    rintro e w2 ⟨t2, rfl, ht2, hb2⟩
    rw [HT1.out] at ht2 ⊢
    have HP2 := Lib.hid (HP1.out.later hb2)
    have HB2 := Lib.hid (HB1.out.trans (hb2.mono HB1.out.size))
    have HT2 := Lib.hid ht2
    clear ht2 hb2
    have hsn : (s.extract 0 n).size ≤ 100000 := by have := HS.out; simp; omega
    have HSN := Lib.hid hsn
    clear hsn
    go_wp2_with fail
    refine (trim_t _ w2 HSN.out).mono ?_
    rintro e w3 ⟨t3, rfl, ht3, hb3⟩
    rw [take_str] at ht3
    have HP3 := Lib.hid (HP2.out.later hb3)
    have HB3 := Lib.hid (HB2.out.trans (hb3.mono HB2.out.size))
    have HT3 := Lib.hid ht3
    have HZ3 := Lib.hid (show t3.size ≤ 100000 by
      have h1 := trimL_le (s.data.toList.take n)
      rw [← ht3] at h1
      have := HS.out
      simp at h1
      omega)
    clear ht3 hb3
    have HX := Lib.hid (Px.new w3 t3 t2 36)
    have HP4 := Lib.hid (HP3.out.later ((Below.refl _ w3).alloc (Nat.le_refl _) (.cells #[.string t3, .string t2] 36)))
    have HB4 := Lib.hid (HB3.out.trans (((Below.refl _ w3).alloc (Nat.le_refl _) (.cells #[.string t3, .string t2] 36)).mono HB3.out.size))
    obtain ⟨p0, p1, p2, p3, p4⟩ := HP4.out
    have q0 : w3.heap.size ≠ w.heap.size := Nat.ne_of_gt HP3.out.1
    have q1 : w.heap.size ≠ w3.heap.size := Nat.ne_of_lt HP3.out.1
    cases hv : valF (trimL (s.data.toList.drop (n + 1))) with
    | none =>
      have HR := Lib.hid (compC_none HL.out (by rw [HN.out]; exact hv))
      clear hv
      go_wp2
      refine bodyPost_ret (v := .tuple #[.agg #[.string ⟨#[]⟩, .string ⟨#[]⟩], .int .i64 4]) (by simp [results, Tryd.results37, go_sem, *]) rfl ?_
      exact ret_comp 4 _ _ _ HR.out (by repeat (first | exact HB4.out | refine Below.setCell ?_ (by simp) _))
    | some v =>
      have HV := Lib.hid hv
      have hz2 : t2.size ≤ 100000 := by
        have h1 := valF_len hv
        have h2 := trimL_le (s.data.toList.drop (n + 1))
        have h3 := HT2.out
        rw [hv] at h3
        have h4 : t2.data.toList = v := h3
        have := HS.out
        simp [← h4] at h1 h2
        omega
      have HTV := Lib.hid (show t2.data.toList = v by have h3 := HT2.out; rw [hv] at h3; exact h3)
      have HZ2 := Lib.hid hz2
      clear hv hz2
      cases hnm : namL (trimL (s.data.toList.take n)) with
      | false =>
        have HR := Lib.hid (compC_name HL.out (by rw [HN.out]; exact HV.out) (by rw [HN.out]; exact hnm))
        have HNM := Lib.hid (show namL t3.data.toList = false by rw [HT3.out]; exact hnm)
        have HNM' := Lib.hid hnm
        clear hnm
        go_wp2_with (go_at_call 64; refine (name_is t3 _ _ HZ3.out HNM.out).mono ?_; rintro e w4 ⟨rfl, rfl⟩)
        refine bodyPost_ret (v := .tuple #[.agg #[.string ⟨#[]⟩, .string ⟨#[]⟩], .int .i64 5]) (by simp [results, Tryd.results37, go_sem, *]) rfl ?_
        exact ret_comp 5 _ _ _ HR.out (by repeat (first | exact HB4.out | refine Below.setCell ?_ (by simp) _))
      | true =>
        have HNM := Lib.hid (show namL t3.data.toList = true by rw [HT3.out]; exact hnm)
        have HNM' := Lib.hid hnm
        clear hnm
        go_wp2_with (first | (go_at_call 64; refine (name_is t3 _ _ HZ3.out HNM.out).mono ?_; rintro e w4 ⟨rfl, rfl⟩) | fail)
        refine (clean_any t2 _ HZ2.out).mono ?_
        rintro e w4 ⟨rfl, hb4⟩
        rw [HTV.out]
        have HX4 := Lib.hid (HX.out.later hb4)
        have HP5 := Lib.hid (HP4.out.later hb4)
        have HB5 := Lib.hid (HB4.out.trans (hb4.mono HB4.out.size))
        clear hb4 p0 p1 p2 p3 p4
        obtain ⟨p0, p1, p2, p3, p4⟩ := HP5.out
        obtain ⟨x0, x1, x2, x3, x4⟩ := HX4.out
        cases hcl : clnL v with
        | false =>
          have HR := Lib.hid (compC_type HL.out (by rw [HN.out]; exact HV.out) (by rw [HN.out]; exact HNM'.out) hcl)
          clear hcl
          go_wp2
          refine bodyPost_ret (v := .tuple #[.agg #[.string ⟨#[]⟩, .string ⟨#[]⟩], .int .i64 8]) (by simp [results, Tryd.results37, go_sem, *]) rfl ?_
          exact ret_comp 8 _ _ _ HR.out (by repeat (first | exact HB5.out | refine Below.setCell ?_ (by simp) _))
        | true =>
          have HR := Lib.hid (compC_good HL.out (by rw [HN.out]; exact HV.out) (by rw [HN.out]; exact HNM'.out) hcl)
          clear hcl
          go_wp2
          refine bodyPost_ret (v := .tuple #[.agg #[.string t3, .string t2], .int .i64 0]) (by simp [results, Tryd.results37, go_sem, *]) rfl ?_
          exact ⟨t3, t2, by rw [HR.out], by rw [HR.out, HT3.out, HN.out], by rw [HR.out, HTV.out], by repeat (first | exact HB5.out | refine Below.setCell ?_ (by simp) _)⟩
  · have HI := Lib.hid (show idx 61 s.data.toList = -1 by unfold idx; rw [HN.out, HLN.out, if_neg hlt])
    have HR := Lib.hid (compC_bad (s := s.data.toList) (by rw [HN.out, HLN.out]; exact hlt))
    obtain ⟨p0, p1, p2, p3, p4⟩ := HP0.out
    go_enter Tryd.func37, Tryd.ntmps37
    go_wp2_with (go_at_call 60; refine (index_any s 61 (by decide) _ HS.out).mono ?_; rintro e w1 ⟨rfl, rfl⟩; rw [HI.out])
    refine bodyPost_ret (v := .tuple #[.agg #[.string ⟨#[]⟩, .string ⟨#[]⟩], .int .i64 4]) (by simp [results, Tryd.results37, go_sem, *]) rfl ?_
    exact ret_comp 4 _ _ _ HR.out (by repeat (first | exact HB0.out | refine Below.setCell ?_ (by simp) _))
end Go.Proofs.YtjjcbbckihjapaaDoor.Na
