/-
  The walks of layer 5: Clean, normal, Valid, parts, Depth.
-/
import Derived.Test.YtjjcbbckihjapaaDoorNaJ
namespace Go.Proofs.YtjjcbbckihjapaaDoor.Na
open Go.RowKit Go.Proofs.YtjjcbbckihjapaaDoor.Fo

theorem prsL_err {l : List (List UInt8)} {acc : List Pr} (h : (prsL l acc).2 ≠ 0) : (prsL l acc).1 = [] := by
  induction l generalizing acc with
  | nil => unfold prsL at h ⊢; split <;> simp_all
  | cons x r ih =>
    unfold prsL at h ⊢
    split
    · rfl
    · next h1 => rw [if_neg h1] at h; exact ih h
theorem prs_err {s : List UInt8} (h : (prs s).2 ≠ 0) : (prs s).1 = [] := by
  unfold prs at h ⊢
  split
  · rfl
  · next h1 => rw [if_neg h1] at h; exact prsL_err h
theorem pX_mem {l : List B2} {i : Nat} (h : i < l.length) : ((pX l i).data.toList, (pY l i).data.toList) ∈ prL l := by
  rw [← prL_at l i (by simpa [prL] using h)]
  exact List.getElem_mem _
theorem nf_sh {l : List B2} (h : chkF (prL l) = 0) : Sh l := by
  intro i hi
  obtain ⟨a, b⟩ := chkF_mem.1 h _ (pX_mem hi)
  have a := nam_len a
  have b := cln_len b
  simp at a b
  omega
theorem par_sh {l : List B2} {s : List UInt8} (h : prL l = (prs s).1) : Sh l ∧ l.length ≤ 8 := by
  by_cases h0 : (prs s).2 = 0
  · have h1 := chkL_ok.1 (prs_ok h0)
    rw [← h] at h1
    exact ⟨nf_sh h1.1, by simpa [prL] using h1.2⟩
  · rw [prs_err h0] at h
    have : l = [] := List.map_eq_nil_iff.1 h
    subst this
    exact ⟨fun i hi => by simp at hi, by simp⟩

theorem clean5_any (s : ByteArray) (w : World) (hs : s.size ≤ 100000) : Calls Tryd.prog 21 #[.string s] w (FmtIs w (cln s.data.toList)) := by
  have HS := Lib.hid hs
  go_enter Tryd.func21, Tryd.ntmps21
  go_wp2_with fail
  refine (parse_any s w HS.out).mono ?_
  rintro e w1 ⟨A, c, l, rfl, hO, hl, hb⟩
  have HO := Lib.hid hO
  have HL := Lib.hid hl
  have HB := Lib.hid hb
  obtain ⟨hsh, hl8⟩ := par_sh hl
  have HSH := Lib.hid hsh
  clear hO hl hb hsh
  by_cases h0 : (prs s.data.toList).2 = 0
  · have HR := Lib.hid (show cln s.data.toList = fmt (prL l) by unfold cln; rw [if_neg (by simp [h0]), HL.out])
    rw [h0]
    clear h0
    go_wp2_with fail
    refine (format_any w1 A l.length c l HO.out.ps.1 HSH.out (by omega)).mono ?_
    rintro e w2 ⟨t, rfl, ht, hb2⟩
    have HB2 := Lib.hid (HB.out.trans (hb2.mono HB.out.size))
    have HT := Lib.hid ht
    clear ht hb2
    go_wp2
    go_ret2
    exact ⟨t, by rw [HR.out]; rfl, by rw [HR.out]; exact HT.out, HB2.out⟩
  · have HR := Lib.hid (show cln s.data.toList = ([], (prs s.data.toList).2) by unfold cln; rw [if_pos h0])
    obtain ⟨ce, hce⟩ : ∃ ce, (prs s.data.toList).2 = ce := ⟨_, rfl⟩
    rw [hce] at h0 HR
    rw [hce]
    clear hce
    go_wp2
    go_ret2
    exact ret_fmt _ _ _ _ HR.out HB.out
theorem rclean5_any (s : ByteArray) (w : World) (hs : s.size ≤ 100000) : Calls Tryd.prog 22 #[.string s] w (FmtIs w (cln s.data.toList)) := by
  have HS := Lib.hid hs
  go_enter Tryd.func22, Tryd.ntmps22
  go_wp2_with fail
  refine (rparse_any s w HS.out).mono ?_
  rintro e w1 ⟨A, c, l, rfl, hO, hl, hb⟩
  have HO := Lib.hid hO
  have HL := Lib.hid hl
  have HB := Lib.hid hb
  obtain ⟨hsh, hl8⟩ := par_sh hl
  have HSH := Lib.hid hsh
  clear hO hl hb hsh
  by_cases h0 : (prs s.data.toList).2 = 0
  · have HR := Lib.hid (show cln s.data.toList = fmt (prL l) by unfold cln; rw [if_neg (by simp [h0]), HL.out])
    rw [h0]
    clear h0
    go_wp2_with fail
    refine (rformat_any w1 A l.length c l HO.out.ps.1 HSH.out (by omega)).mono ?_
    rintro e w2 ⟨t, rfl, ht, hb2⟩
    have HB2 := Lib.hid (HB.out.trans (hb2.mono HB.out.size))
    have HT := Lib.hid ht
    clear ht hb2
    go_wp2
    go_ret2
    exact ⟨t, by rw [HR.out]; rfl, by rw [HR.out]; exact HT.out, HB2.out⟩
  · have HR := Lib.hid (show cln s.data.toList = ([], (prs s.data.toList).2) by unfold cln; rw [if_pos h0])
    obtain ⟨ce, hce⟩ : ∃ ce, (prs s.data.toList).2 = ce := ⟨_, rfl⟩
    rw [hce] at h0 HR
    rw [hce]
    clear hce
    go_wp2
    go_ret2
    exact ret_fmt _ _ _ _ HR.out HB.out

/-- A name's components and whether it is valid. -/
def NorIs (w : World) (s : List UInt8) (e : Ending) (w' : World) : Prop :=
  ∃ A c l, e = .returned (.tuple #[.slice A (List.length l) c, .bool (valid s)]) ∧ Own2 w' w.heap.size (.slice A l.length c) l ∧ (valid s = true → prL l = cps s) ∧ Sh l ∧ l.length ≤ 8 ∧ Below w.heap.size w w'
theorem valid_no {s : List UInt8} (h : (prs s).2 ≠ 0) : valid s = false := by
  simp only [valid, decide_eq_false_iff_not]
  intro ⟨h1, _⟩
  exact h (cln_ok h1).1
theorem valid_is {s t : ByteArray} (h : (prs s.data.toList).2 = 0) (ht : t.data.toList = joinL (prs s.data.toList).1) : valid s.data.toList = (t.toList == s.toList) := by
  have h1 := prs_ok h
  unfold valid cln fmt
  rw [if_neg (by simp [h]), if_neg (by simp [h1]), Lib.toList_data, Lib.toList_data, ht, Bool.eq_iff_iff]
  simp

theorem normal_any (s : ByteArray) (w : World) (hs : s.size ≤ 100000) : Calls Tryd.prog 51 #[.string s] w (NorIs w s.data.toList) := by
  have HS := Lib.hid hs
  go_enter Tryd.func51, Tryd.ntmps51
  go_wp2_with fail
  refine (parse_any s w HS.out).mono ?_
  rintro e w1 ⟨A, c, l, rfl, hO, hl, hb⟩
  have HO := Lib.hid hO
  have HL := Lib.hid hl
  have HB := Lib.hid hb
  obtain ⟨hsh, hl8⟩ := par_sh hl
  have HSH := Lib.hid hsh
  have HL8 := Lib.hid hl8
  clear hO hl hb hsh hl8
  by_cases h0 : (prs s.data.toList).2 = 0
  · have HR := Lib.hid (show fmt (prL l) = (joinL (prs s.data.toList).1, 0) by rw [HL.out, fmt, if_neg (by simp [prs_ok h0])])
    have H0 := Lib.hid h0
    rw [h0]
    clear h0
    go_wp2_with fail
    refine (format_any w1 A l.length c l HO.out.ps.1 HSH.out (by have := HL8.out; omega)).mono ?_
    rintro e w2 ⟨t, rfl, ht, hb2⟩
    rw [HR.out] at ht ⊢
    have HB2 := Lib.hid (HB.out.trans (hb2.mono HB.out.size))
    have HO2 := Lib.hid (HO.out.below hb2)
    have HV := Lib.hid (valid_is H0.out ht)
    clear ht hb2
    go_wp2
    all_goals
      go_ret2
      exact ⟨A, c, l, by rw [HV.out]; simp [*], HO2.out, (fun h => by rw [HL.out]; exact (cps_of h).1.symm), HSH.out, HL8.out, HB2.out⟩
  · have HV := Lib.hid (valid_no h0)
    obtain ⟨ce, hce⟩ : ∃ ce, (prs s.data.toList).2 = ce := ⟨_, rfl⟩
    rw [hce] at h0
    rw [hce]
    clear hce
    go_wp2
    go_ret2
    exact ⟨none, 0, [], by rw [HV.out]; rfl, Own2.nil _ _, (fun h => by rw [HV.out] at h; cases h), (fun i hi => by simp at hi), by simp, HB.out⟩

theorem valid_any (s : ByteArray) (w : World) (hs : s.size ≤ 100000) : Calls Tryd.prog 19 #[.string s] w fun e w' => e = .returned (.bool (valid s.data.toList)) ∧ Below w.heap.size w w' := by
  have HS := Lib.hid hs
  go_enter Tryd.func19, Tryd.ntmps19
  go_wp2_with fail
  refine (normal_any s w HS.out).mono ?_
  rintro e w1 ⟨A, c, l, rfl, hO, hl, hz, h8, hb⟩
  go_wp2
  go_ret
  exact ⟨rfl, hb⟩
theorem rvalid_is {s : List UInt8} {t u : ByteArray} (h : u.data.toList = s) (ht : t.data.toList = (cln s).1) : valid s = (decide ((cln s).2 = 0) && (t.toList == u.toList)) := by
  unfold valid
  rw [Lib.toList_data, Lib.toList_data, ht, h, Bool.eq_iff_iff]
  simp
theorem rvalid_any (s : ByteArray) (w : World) (hs : s.size ≤ 100000) : Calls Tryd.prog 24 #[.string s] w fun e w' => e = .returned (.bool (valid s.data.toList)) ∧ Below w.heap.size w w' := by
  have HS := Lib.hid hs
  go_enter Tryd.func24, Tryd.ntmps24
  go_wp2_with fail
  refine (rclean5_any s w HS.out).mono ?_
  rintro e w1 ⟨t, rfl, ht, hb⟩
  have HV := Lib.hid (rvalid_is rfl ht)
  have HB := Lib.hid hb
  clear ht hb
  by_cases h0 : (cln s.data.toList).2 = 0
  · rw [h0] at HV ⊢
    go_wp2
    all_goals
      go_ret
      exact ⟨ret_bool (by rw [HV.out]; simp [*]), HB.out⟩
  · obtain ⟨ce, hce⟩ : ∃ ce, (cln s.data.toList).2 = ce := ⟨_, rfl⟩
    rw [hce] at h0 HV
    rw [hce]
    clear hce
    go_wp2
    all_goals
      go_ret
      exact ⟨ret_bool (by rw [HV.out]; simp [*]), HB.out⟩
/-- The reference's parts. -/
def RprIs (w : World) (s : List UInt8) (e : Ending) (w' : World) : Prop :=
  ∃ A c l, e = .returned (.tuple #[.slice A (List.length l) c, .bool (valid s)]) ∧ Own2 w' w.heap.size (.slice A l.length c) l ∧ prL l = cps s ∧ Sh l ∧ l.length ≤ 8 ∧ Below w.heap.size w w'
theorem parts_any (s : ByteArray) (w : World) (hs : s.size ≤ 100000) : Calls Tryd.prog 53 #[.string s] w (RprIs w s.data.toList) := by
  have HS := Lib.hid hs
  go_enter Tryd.func53, Tryd.ntmps53
  go_wp2_with fail
  refine (rvalid_any s w HS.out).mono ?_
  rintro e w1 ⟨rfl, hb1⟩
  have HB1 := Lib.hid hb1
  clear hb1
  cases hv : valid s.data.toList with
  | false =>
    have HV := Lib.hid hv
    clear hv
    go_wp2
    go_ret2
    exact ⟨none, 0, [], by rw [HV.out]; rfl, Own2.nil _ _, (cps_no HV.out).symm, (fun i hi => by simp at hi), by simp, HB1.out⟩
  | true =>
    have HV := Lib.hid hv
    clear hv
    go_wp2_with fail
    refine (rparse_any s w1 HS.out).mono ?_
    rintro e w2 ⟨A, c, l, rfl, hO, hl, hb⟩
    have HO := Lib.hid (hO.base HB1.out.size)
    have HB := Lib.hid (HB1.out.trans (hb.mono HB1.out.size))
    obtain ⟨hsh, hl8⟩ := par_sh hl
    have HSH := Lib.hid hsh
    have HL8 := Lib.hid hl8
    have HC := Lib.hid (show prL l = cps s.data.toList by rw [hl]; exact (cps_of HV.out).1.symm)
    clear hO hl hb hsh hl8
    go_wp2
    go_ret2
    exact ⟨A, c, l, by rw [HV.out]; rfl, HO.out, HC.out, HSH.out, HL8.out, HB.out⟩

theorem depth_any (s : ByteArray) (w : World) (hs : s.size ≤ 100000) : Calls Tryd.prog 20 #[.string s] w fun e w' => e = .returned (.int .i64 ((cps s.data.toList).length : Nat)) ∧ Below w.heap.size w w' := by
  have HS := Lib.hid hs
  go_enter Tryd.func20, Tryd.ntmps20
  go_wp2_with fail
  refine (normal_any s w HS.out).mono ?_
  rintro e w1 ⟨A, c, l, rfl, hO, hl, hz, h8, hb⟩
  have HB := Lib.hid hb
  clear hO hz hb
  cases hv : valid s.data.toList with
  | false =>
    have HR := Lib.hid (show (cps s.data.toList).length = 0 by rw [cps_no hv]; rfl)
    clear hv hl
    go_wp2
    go_ret
    exact ⟨ret_int (by rw [HR.out]; rfl), HB.out⟩
  | true =>
    have HR := Lib.hid (show (cps s.data.toList).length = l.length by rw [← hl hv, prL_length])
    clear hv hl
    go_wp2
    go_ret
    exact ⟨ret_int (by rw [HR.out]), HB.out⟩
theorem rdepth_any (s : ByteArray) (w : World) (hs : s.size ≤ 100000) : Calls Tryd.prog 29 #[.string s] w fun e w' => e = .returned (.int .i64 ((cps s.data.toList).length : Nat)) ∧ Below w.heap.size w w' := by
  have HS := Lib.hid hs
  go_enter Tryd.func29, Tryd.ntmps29
  go_wp2_with fail
  refine (parts_any s w HS.out).mono ?_
  rintro e w1 ⟨A, c, l, rfl, hO, hl, hz, h8, hb⟩
  have HB := Lib.hid hb
  have HR := Lib.hid (show (cps s.data.toList).length = l.length by rw [← hl, prL_length])
  clear hO hz hb hl
  go_wp2
  go_ret
  exact ⟨ret_int (by rw [HR.out]), HB.out⟩
end Go.Proofs.YtjjcbbckihjapaaDoor.Na
