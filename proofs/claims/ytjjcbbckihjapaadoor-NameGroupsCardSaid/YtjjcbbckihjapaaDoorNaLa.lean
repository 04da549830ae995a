/-
  The walks of the eight laws of layer 5.
-/
import Derived.Test.YtjjcbbckihjapaaDoorNaLw
namespace Go.Proofs.YtjjcbbckihjapaaDoor.Na
open Go.RowKit Go.Proofs.YtjjcbbckihjapaaDoor.Fo

theorem long_yes (s : ByteArray) (w : World) (h : 300 < s.size) : Calls Tryd.prog 11 #[.string s] w fun e w' => e = .returned (.bool true) ∧ Below w.heap.size w w' := sub_w (long_is s w true (by simpa using h))
theorem long_no (s : ByteArray) (w : World) (h : s.size ≤ 300) : Calls Tryd.prog 11 #[.string s] w fun e w' => e = .returned (.bool false) ∧ Below w.heap.size w w' := sub_w (long_is s w false (by simpa using h))
theorem lowerN_t (s : ByteArray) (w : World) (hs : s.size ≤ 100000) : Calls Tryd.prog 23 #[.string s] w fun e w' => ∃ t : ByteArray, e = .returned (.string t) ∧ t.data.toList = lowL s.data.toList ∧ Below w.heap.size w w' := lower_t s w hs
/-- Parse, its components bounded. -/
theorem parse_b (s : ByteArray) (w : World) (hs : s.size ≤ 100000) : Calls Tryd.prog 13 #[.string s] w fun e w' => ∃ A c l, e = .returned (.tuple #[.slice A (List.length l) c, .int .i64 (prs s.data.toList).2]) ∧ Ps w' A l.length c l ∧ prL l = (prs s.data.toList).1 ∧ Sh l ∧ l.length ≤ 8 ∧ Below w.heap.size w w' :=
  (parse_any s w hs).mono fun _ _ ⟨A, c, l, h1, h2, h3, h4⟩ => ⟨A, c, l, h1, h2.ps.1, h3, (par_sh h3).1, (par_sh h3).2, h4⟩
theorem rparse_b (s : ByteArray) (w : World) (hs : s.size ≤ 100000) : Calls Tryd.prog 14 #[.string s] w fun e w' => ∃ A c l, e = .returned (.tuple #[.slice A (List.length l) c, .int .i64 (prs s.data.toList).2]) ∧ Ps w' A l.length c l ∧ prL l = (prs s.data.toList).1 ∧ Sh l ∧ l.length ≤ 8 ∧ Below w.heap.size w w' :=
  (rparse_any s w hs).mono fun _ _ ⟨A, c, l, h1, h2, h3, h4⟩ => ⟨A, c, l, h1, h2.ps.1, h3, (par_sh h3).1, (par_sh h3).2, h4⟩
theorem same_yes (w : World) (A B : Option Addr) (n c m d : Nat) (l k : List B2) (hl : Ps w A n c l) (hk : Ps w B m d k) (hn : n ≤ 1000) (hm : m ≤ 1000) (h : prL l = prL k) :
    Calls Tryd.prog 15 #[.slice A n c, .slice B m d] w fun e w' => e = .returned (.bool true) ∧ Below w.heap.size w w' := bool_is (same_any w A B n c m d l k hl hk hn hm) (by simpa using h)
/-- A text and an error, named. -/
theorem txt_is {P : Program} {k : Nat} {args : Array Value} {w : World} {r : List UInt8 × Int} (h : Calls P k args w (FmtIs w r)) : Calls P k args w fun e w' => ∃ t : ByteArray, ∃ c : Int, e = .returned (.tuple #[.string t, .int .i64 c]) ∧ r = (t.data.toList, c) ∧ Below w.heap.size w w' :=
  h.mono fun _ _ ⟨t, h1, h2, h3⟩ => ⟨t, r.2, h1, by rw [h2], h3⟩
theorem txt_to {P : Program} {k : Nat} {args : Array Value} {w : World} {r : List UInt8 × Int} (t : ByteArray) (c : Int) (h : Calls P k args w (FmtIs w r)) (hr : r = (t.data.toList, c)) : Calls P k args w fun e w' => e = .returned (.tuple #[.string t, .int .i64 c]) ∧ Below w.heap.size w w' := txt_of t c h hr
theorem par_is {P : Program} {k : Nat} {args : Array Value} {w : World} {r : List UInt8 × Bool} (h : Calls P k args w (ParnIs w r)) : Calls P k args w fun e w' => ∃ t : ByteArray, ∃ b : Bool, e = .returned (.tuple #[.string t, .bool b]) ∧ r = (t.data.toList, b) ∧ Below w.heap.size w w' :=
  h.mono fun _ _ ⟨t, h1, h2, h3⟩ => ⟨t, r.2, h1, by rw [h2], h3⟩
theorem par_to {P : Program} {k : Nat} {args : Array Value} {w : World} {r : List UInt8 × Bool} (t : ByteArray) (b : Bool) (h : Calls P k args w (ParnIs w r)) (hr : r = (t.data.toList, b)) : Calls P k args w fun e w' => e = .returned (.tuple #[.string t, .bool b]) ∧ Below w.heap.size w w' :=
  h.mono fun _ _ ⟨t', h1, h2, h3⟩ => ⟨by rw [h1, hr, ba_ext (h2.trans (congrArg Prod.fst hr))], h3⟩
theorem joinL_le {l : List Pr} (h : chkL l = 0) : (joinL l).length ≤ 100000 := by
  have h1 := chkL_ok.1 h
  have := join_len h1.1 l.length (Nat.le_refl _)
  rw [List.take_length] at this
  omega
theorem fmt_le (l : List Pr) : (fmt l).1.length ≤ 100000 := by
  unfold fmt
  split
  · simp
  · next h => exact joinL_le (by simpa using h)
theorem cln_le (s : List UInt8) : (cln s).1.length ≤ 100000 := by
  unfold cln
  split
  · simp
  · exact fmt_le _
theorem par_le (s : List UInt8) : (par s).1.length ≤ 100000 := by
  unfold par
  split
  · exact joinL_le (nf_tail (cps_nf s)).1
  · simp
theorem chi_le (s : List UInt8) (p : Pr) : (chi s p).1.length ≤ 100000 := by
  unfold chi
  split
  · simp
  · exact fmt_le _
theorem reb_le (s f t : List UInt8) : (reb s f t).1.length ≤ 100000 := by
  unfold reb
  split
  · simp
  · split
    · simp
    · exact fmt_le _
theorem sz_of {t : ByteArray} {l : List UInt8} (h : l = t.data.toList) (hl : l.length ≤ 100000) : t.size ≤ 100000 := by rw [h] at hl; simpa using hl
theorem cps_le (s : List UInt8) : (cps s).length ≤ 8 := (cps_nf s).len

set_option maxRecDepth 100000 in
set_option maxHeartbeats 8000000 in
theorem parses_long (s : ByteArray) (w : World) (hs : 300 < s.size) :
    Calls Tryd.prog 3 #[.string s] w fun e w' => e = .returned (.bool true) ∧ Below w.heap.size w w' := by
  have HB := Lib.hid (Below.refl w.heap.size w)
  go_enter Tryd.func3, Tryd.ntmps3
  go_wp2_with fail
  refine (long_yes s _ hs).mono ?_
  rintro e w1 ⟨rfl, hb⟩
  (first | (have HBn := Lib.hid (ext_call HB.out hb)) | (have HBn := Lib.hid (ext_new HB.out hb))); clear HB hb; have HB := HBn; clear HBn
  go_wp2_with fail
  refine (live_any _).mono ?_
  rintro e w1 ⟨rfl, hb⟩
  (first | (have HBn := Lib.hid (ext_call HB.out hb)) | (have HBn := Lib.hid (ext_new HB.out hb))); clear HB hb; have HB := HBn; clear HBn
  go_wp2
  go_ret
  exact ⟨rfl, HB.out⟩

set_option maxRecDepth 100000 in
set_option maxHeartbeats 8000000 in
theorem parses_short (s : ByteArray) (w : World) (hs : s.size ≤ 300) :
    Calls Tryd.prog 3 #[.string s] w fun e w' => e = .returned (.bool true) ∧ Below w.heap.size w w' := by
  have HB := Lib.hid (Below.refl w.heap.size w)
  go_enter Tryd.func3, Tryd.ntmps3
  go_wp2_with fail
  refine (long_no s _ hs).mono ?_
  rintro e w1 ⟨rfl, hb⟩
  (first | (have HBn := Lib.hid (ext_call HB.out hb)) | (have HBn := Lib.hid (ext_new HB.out hb))); clear HB hb; have HB := HBn; clear HBn
  go_wp2_with fail
  refine (parse_b s _ (by omega)).mono ?_
  rintro e w1 ⟨A, c, l, rfl, hp, hl, hz, h8, hb⟩
  have HP := Lib.hid hp
  have HL := Lib.hid hl
  clear hp hl hz
  (first | (have HBn := Lib.hid (ext_call HB.out hb)) | (have HBn := Lib.hid (ext_new HB.out hb))); clear HB hb; have HB := HBn; clear HBn
  go_wp2_with fail
  refine (rparse_b s _ (by omega)).mono ?_
  rintro e w1 ⟨A2, c2, l2, rfl, hp2, hl2, hz2, h82, hb⟩
  have HP2 := Lib.hid hp2
  have HL2 := Lib.hid hl2
  have HPn := Lib.hid (HP.out.below hb)
  clear hp2 hl2 hz2
  (first | (have HBn := Lib.hid (ext_call HB.out hb)) | (have HBn := Lib.hid (ext_new HB.out hb))); clear HB hb; have HB := HBn; clear HBn
  go_wp2_with fail
  refine (same_yes _ A A2 _ _ _ _ l l2 HPn.out HP2.out (by omega) (by omega) (by rw [HL.out, HL2.out])).mono ?_
  rintro e w1 ⟨rfl, hb⟩
  (first | (have HBn := Lib.hid (ext_call HB.out hb)) | (have HBn := Lib.hid (ext_new HB.out hb))); clear HB hb; have HB := HBn; clear HBn
  go_wp2_with fail
  refine (live_any _).mono ?_
  rintro e w1 ⟨rfl, hb⟩
  (first | (have HBn := Lib.hid (ext_call HB.out hb)) | (have HBn := Lib.hid (ext_new HB.out hb))); clear HB hb; have HB := HBn; clear HBn
  go_wp2
  go_ret
  exact ⟨rfl, HB.out⟩

set_option maxRecDepth 100000 in
set_option maxHeartbeats 8000000 in
theorem formats_many (A : Option Addr) (n c : Nat) (l : List B2) (w : World) (hl : Ps w A n c l) (hn : n ≤ 9223372036854775807) (hf : manyB l n = true) :
    Calls Tryd.prog 4 #[.slice A n c] w fun e w' => e = .returned (.bool true) ∧ Below w.heap.size w w' := by
  have HB := Lib.hid (Below.refl w.heap.size w)
  have HL := Lib.hid hl
  have HN0 := Lib.hid hl.1
  clear hl
  have HF := Lib.hid hf
  clear hf
  go_enter Tryd.func4, Tryd.ntmps4
  go_wp2_with fail
  refine (sub_w (many_is A n c l _ (HL.out.below HB.out) hn true HF.out)).mono ?_
  rintro e w1 ⟨rfl, hb⟩
  (first | (have HBn := Lib.hid (ext_call HB.out hb)) | (have HBn := Lib.hid (ext_new HB.out hb))); clear HB hb; have HB := HBn; clear HBn
  go_wp2_with fail
  refine (live_any _).mono ?_
  rintro e w1 ⟨rfl, hb⟩
  (first | (have HBn := Lib.hid (ext_call HB.out hb)) | (have HBn := Lib.hid (ext_new HB.out hb))); clear HB hb; have HB := HBn; clear HBn
  go_wp2
  go_ret
  exact ⟨rfl, HB.out⟩

set_option maxRecDepth 100000 in
set_option maxHeartbeats 8000000 in
theorem formats_err (A : Option Addr) (n c : Nat) (l : List B2) (w : World) (hl : Ps w A n c l) (hn : n ≤ 9223372036854775807) (hf : manyB l n = false) (he : (fmt (prL l)).2 ≠ 0) :
    Calls Tryd.prog 4 #[.slice A n c] w fun e w' => e = .returned (.bool true) ∧ Below w.heap.size w w' := by
  have HB := Lib.hid (Below.refl w.heap.size w)
  have HL := Lib.hid hl
  have HN0 := Lib.hid hl.1
  clear hl
  have HF := Lib.hid hf
  have hf2 : fewP l n := by
    unfold manyB at hf
    simpa using hf
  have hn12 := hf2.1
  have HSH := Lib.hid (show Sh l from fun i hi => by have := hf2.2 i (by rw [HN0.out] at hi; exact hi); exact ⟨by omega, by omega⟩)
  clear hf hf2
  have HE := Lib.hid he
  clear he
  go_enter Tryd.func4, Tryd.ntmps4
  go_wp2_with fail
  refine (sub_w (many_is A n c l _ (HL.out.below HB.out) hn false HF.out)).mono ?_
  rintro e w1 ⟨rfl, hb⟩
  (first | (have HBn := Lib.hid (ext_call HB.out hb)) | (have HBn := Lib.hid (ext_new HB.out hb))); clear HB hb; have HB := HBn; clear HBn
  go_wp2_with fail
  refine (txt_is (format_any _ A n c l (HL.out.below HB.out) HSH.out (by omega))).mono ?_
  rintro e w1 ⟨t, ce, rfl, hr, hb⟩
  have HR := Lib.hid hr
  clear hr
  (first | (have HBn := Lib.hid (ext_call HB.out hb)) | (have HBn := Lib.hid (ext_new HB.out hb))); clear HB hb; have HB := HBn; clear HBn
  go_wp2_with fail
  refine (txt_to t ce (rformat_any _ A n c l (HL.out.below HB.out) HSH.out (by omega)) HR.out).mono ?_
  rintro e w1 ⟨rfl, hb⟩
  (first | (have HBn := Lib.hid (ext_call HB.out hb)) | (have HBn := Lib.hid (ext_new HB.out hb))); clear HB hb; have HB := HBn; clear HBn
  go_wp2_with fail
  refine (live_any _).mono ?_
  rintro e w1 ⟨rfl, hb⟩
  (first | (have HBn := Lib.hid (ext_call HB.out hb)) | (have HBn := Lib.hid (ext_new HB.out hb))); clear HB hb; have HB := HBn; clear HBn
  have h0 : ce ≠ 0 := by have := HE.out; rw [HR.out] at this; exact this
  have h1 : (ce == 0) = false := by simpa using h0
  have h2 : (ce != 0) = true := by simpa using h0
  clear h0
  go_wp2
  go_ret
  exact ⟨rfl, HB.out⟩

set_option maxRecDepth 100000 in
set_option maxHeartbeats 8000000 in
theorem formats_ok (A : Option Addr) (n c : Nat) (l : List B2) (w : World) (hl : Ps w A n c l) (hn : n ≤ 9223372036854775807) (hf : manyB l n = false) (he : (fmt (prL l)).2 = 0) :
    Calls Tryd.prog 4 #[.slice A n c] w fun e w' => e = .returned (.bool true) ∧ Below w.heap.size w w' := by
  have HB := Lib.hid (Below.refl w.heap.size w)
  have HL := Lib.hid hl
  have HN0 := Lib.hid hl.1
  clear hl
  have HF := Lib.hid hf
  have hf2 : fewP l n := by
    unfold manyB at hf
    simpa using hf
  have hn12 := hf2.1
  have HSH := Lib.hid (show Sh l from fun i hi => by have := hf2.2 i (by rw [HN0.out] at hi; exact hi); exact ⟨by omega, by omega⟩)
  clear hf hf2
  have HE := Lib.hid he
  clear he
  go_enter Tryd.func4, Tryd.ntmps4
  go_wp2_with fail
  refine (sub_w (many_is A n c l _ (HL.out.below HB.out) hn false HF.out)).mono ?_
  rintro e w1 ⟨rfl, hb⟩
  (first | (have HBn := Lib.hid (ext_call HB.out hb)) | (have HBn := Lib.hid (ext_new HB.out hb))); clear HB hb; have HB := HBn; clear HBn
  go_wp2_with fail
  refine (txt_is (format_any _ A n c l (HL.out.below HB.out) HSH.out (by omega))).mono ?_
  rintro e w1 ⟨t, ce, rfl, hr, hb⟩
  have HR := Lib.hid hr
  clear hr
  (first | (have HBn := Lib.hid (ext_call HB.out hb)) | (have HBn := Lib.hid (ext_new HB.out hb))); clear HB hb; have HB := HBn; clear HBn
  go_wp2_with fail
  refine (txt_to t ce (rformat_any _ A n c l (HL.out.below HB.out) HSH.out (by omega)) HR.out).mono ?_
  rintro e w1 ⟨rfl, hb⟩
  (first | (have HBn := Lib.hid (ext_call HB.out hb)) | (have HBn := Lib.hid (ext_new HB.out hb))); clear HB hb; have HB := HBn; clear HBn
  have hc0 : ce = 0 := by have := HE.out; rw [HR.out] at this; exact this
  subst hc0
  have HT := Lib.hid (fmt_law HE.out)
  have HJ := Lib.hid (show joinL (prL l) = t.data.toList by have := HT.out.2.1; rw [HR.out] at this; exact (congrArg Prod.fst this).symm)
  have HTZ := Lib.hid (sz_of HJ.out.symm.symm (joinL_le HT.out.1))
  go_wp2_with fail
  refine (live_any _).mono ?_
  rintro e w1 ⟨rfl, hb⟩
  (first | (have HBn := Lib.hid (ext_call HB.out hb)) | (have HBn := Lib.hid (ext_new HB.out hb))); clear HB hb; have HB := HBn; clear HBn
  go_wp2_with fail
  refine (parse_b t _ HTZ.out).mono ?_
  rintro e w1 ⟨A2, c2, l2, rfl, hp2, hl2, hz2, h82, hb⟩
  have HP2 := Lib.hid (show Ps w1 A2 l2.length c2 l2 from hp2)
  have HZ2 := Lib.hid hz2
  rw [← HJ.out, HT.out.2.2.1] at hl2 ⊢
  have HL2 := Lib.hid (show prL l2 = (prL l).map nrm from hl2)
  have hll : l2.length = n := by have := congrArg List.length hl2; rw [prL_length] at this; simp only [List.length_map, prL_length] at this; rw [this]; exact HN0.out
  have hq : ((l2.length : Int) == (n : Int)) = true := by rw [hll]; simp
  clear hll
  have HFM := Lib.hid (show fmt (prL l2) = (t.data.toList, 0) by rw [HL2.out, HT.out.2.2.2.1, HJ.out])
  have HDP := Lib.hid (show ((cps t.data.toList).length : Int) = (n : Int) by rw [← HJ.out, (cps_of HT.out.2.2.2.2).1, HT.out.2.2.1]; simp only [List.length_map, prL_length]; rw [HN0.out])
  have HVA := Lib.hid (show valid t.data.toList = true by rw [← HJ.out]; exact HT.out.2.2.2.2)
  clear hp2 hl2 hz2
  (first | (have HBn := Lib.hid (ext_call HB.out hb)) | (have HBn := Lib.hid (ext_new HB.out hb))); clear HB hb; have HB := HBn; clear HBn
  go_wp2_with fail
  refine (txt_to t 0 (format_any _ A2 l2.length c2 l2 HP2.out HZ2.out (by omega)) HFM.out).mono ?_
  rintro e w1 ⟨rfl, hb⟩
  (first | (have HBn := Lib.hid (ext_call HB.out hb)) | (have HBn := Lib.hid (ext_new HB.out hb))); clear HB hb; have HB := HBn; clear HBn
  go_wp2_with fail
  refine (bool_is (valid_any t _ HTZ.out) HVA.out).mono ?_
  rintro e w1 ⟨rfl, hb⟩
  (first | (have HBn := Lib.hid (ext_call HB.out hb)) | (have HBn := Lib.hid (ext_new HB.out hb))); clear HB hb; have HB := HBn; clear HBn
  go_wp2_with fail
  refine (int_is (depth_any t _ HTZ.out) HDP.out).mono ?_
  rintro e w1 ⟨rfl, hb⟩
  (first | (have HBn := Lib.hid (ext_call HB.out hb)) | (have HBn := Lib.hid (ext_new HB.out hb))); clear HB hb; have HB := HBn; clear HBn
  go_wp2
  go_ret
  exact ⟨rfl, HB.out⟩

set_option maxRecDepth 100000 in
set_option maxHeartbeats 8000000 in
theorem cleans_long (s : ByteArray) (w : World) (hs : 300 < s.size) :
    Calls Tryd.prog 5 #[.string s] w fun e w' => e = .returned (.bool true) ∧ Below w.heap.size w w' := by
  have HB := Lib.hid (Below.refl w.heap.size w)
  go_enter Tryd.func5, Tryd.ntmps5
  go_wp2_with fail
  refine (long_yes s _ hs).mono ?_
  rintro e w1 ⟨rfl, hb⟩
  (first | (have HBn := Lib.hid (ext_call HB.out hb)) | (have HBn := Lib.hid (ext_new HB.out hb))); clear HB hb; have HB := HBn; clear HBn
  go_wp2_with fail
  refine (live_any _).mono ?_
  rintro e w1 ⟨rfl, hb⟩
  (first | (have HBn := Lib.hid (ext_call HB.out hb)) | (have HBn := Lib.hid (ext_new HB.out hb))); clear HB hb; have HB := HBn; clear HBn
  go_wp2
  go_ret
  exact ⟨rfl, HB.out⟩

set_option maxRecDepth 100000 in
set_option maxHeartbeats 8000000 in
theorem cleans_err (s : ByteArray) (w : World) (hs : s.size ≤ 300) (he : (cln s.data.toList).2 ≠ 0) :
    Calls Tryd.prog 5 #[.string s] w fun e w' => e = .returned (.bool true) ∧ Below w.heap.size w w' := by
  have HB := Lib.hid (Below.refl w.heap.size w)
  obtain ⟨vb, hvb⟩ : ∃ b, valid s.data.toList = b := ⟨_, rfl⟩
  have HVB := Lib.hid hvb
  clear hvb
  have HE := Lib.hid he
  clear he
  go_enter Tryd.func5, Tryd.ntmps5
  go_wp2_with fail
  refine (long_no s _ hs).mono ?_
  rintro e w1 ⟨rfl, hb⟩
  (first | (have HBn := Lib.hid (ext_call HB.out hb)) | (have HBn := Lib.hid (ext_new HB.out hb))); clear HB hb; have HB := HBn; clear HBn
  go_wp2_with fail
  refine (txt_is (clean5_any s _ (by omega))).mono ?_
  rintro e w1 ⟨t, ce, rfl, hr, hb⟩
  have HR := Lib.hid hr
  have HTZ := Lib.hid (show t.size ≤ 100000 from sz_of (congrArg Prod.fst hr) (cln_le _))
  clear hr
  (first | (have HBn := Lib.hid (ext_call HB.out hb)) | (have HBn := Lib.hid (ext_new HB.out hb))); clear HB hb; have HB := HBn; clear HBn
  go_wp2_with fail
  refine (txt_to t ce (rclean5_any s _ (by omega)) HR.out).mono ?_
  rintro e w1 ⟨rfl, hb⟩
  (first | (have HBn := Lib.hid (ext_call HB.out hb)) | (have HBn := Lib.hid (ext_new HB.out hb))); clear HB hb; have HB := HBn; clear HBn
  go_wp2_with fail
  refine (lowerN_t s _ (by omega)).mono ?_
  rintro e w1 ⟨r, rfl, hr, hb⟩
  have HW := Lib.hid (show cln r.data.toList = (t.data.toList, ce) by rw [hr, cln_low]; exact HR.out)
  have hrz : r.size ≤ 100000 := by have := lowL_len s.data.toList; rw [← hr] at this; simp at this; omega
  clear hr
  (first | (have HBn := Lib.hid (ext_call HB.out hb)) | (have HBn := Lib.hid (ext_new HB.out hb))); clear HB hb; have HB := HBn; clear HBn
  go_wp2_with fail
  refine (txt_to t ce (clean5_any r _ hrz) HW.out).mono ?_
  rintro e w1 ⟨rfl, hb⟩
  (first | (have HBn := Lib.hid (ext_call HB.out hb)) | (have HBn := Lib.hid (ext_new HB.out hb))); clear HB hb; have HB := HBn; clear HBn
  go_wp2_with fail
  refine (bool_is (valid_any s _ (by omega)) HVB.out).mono ?_
  rintro e w1 ⟨rfl, hb⟩
  (first | (have HBn := Lib.hid (ext_call HB.out hb)) | (have HBn := Lib.hid (ext_new HB.out hb))); clear HB hb; have HB := HBn; clear HBn
  go_wp2_with fail
  refine (bool_is (rvalid_any s _ (by omega)) HVB.out).mono ?_
  rintro e w1 ⟨rfl, hb⟩
  (first | (have HBn := Lib.hid (ext_call HB.out hb)) | (have HBn := Lib.hid (ext_new HB.out hb))); clear HB hb; have HB := HBn; clear HBn
  go_wp2_with fail
  refine (live_any _).mono ?_
  rintro e w1 ⟨rfl, hb⟩
  (first | (have HBn := Lib.hid (ext_call HB.out hb)) | (have HBn := Lib.hid (ext_new HB.out hb))); clear HB hb; have HB := HBn; clear HBn
  have h0 : ce ≠ 0 := by have := HE.out; rw [HR.out] at this; exact this
  have h1 : (ce == 0) = false := by simpa using h0
  have h2 : (ce != 0) = true := by simpa using h0
  clear h0
  go_wp2
  go_ret
  exact ⟨rfl, HB.out⟩

set_option maxRecDepth 100000 in
set_option maxHeartbeats 8000000 in
theorem cleans_ok (s : ByteArray) (w : World) (hs : s.size ≤ 300) (he : (cln s.data.toList).2 = 0) :
    Calls Tryd.prog 5 #[.string s] w fun e w' => e = .returned (.bool true) ∧ Below w.heap.size w w' := by
  have HB := Lib.hid (Below.refl w.heap.size w)
  obtain ⟨vb, hvb⟩ : ∃ b, valid s.data.toList = b := ⟨_, rfl⟩
  have HVB := Lib.hid hvb
  clear hvb
  have HE := Lib.hid he
  clear he
  go_enter Tryd.func5, Tryd.ntmps5
  go_wp2_with fail
  refine (long_no s _ hs).mono ?_
  rintro e w1 ⟨rfl, hb⟩
  (first | (have HBn := Lib.hid (ext_call HB.out hb)) | (have HBn := Lib.hid (ext_new HB.out hb))); clear HB hb; have HB := HBn; clear HBn
  go_wp2_with fail
  refine (txt_is (clean5_any s _ (by omega))).mono ?_
  rintro e w1 ⟨t, ce, rfl, hr, hb⟩
  have HR := Lib.hid hr
  have HTZ := Lib.hid (show t.size ≤ 100000 from sz_of (congrArg Prod.fst hr) (cln_le _))
  clear hr
  (first | (have HBn := Lib.hid (ext_call HB.out hb)) | (have HBn := Lib.hid (ext_new HB.out hb))); clear HB hb; have HB := HBn; clear HBn
  go_wp2_with fail
  refine (txt_to t ce (rclean5_any s _ (by omega)) HR.out).mono ?_
  rintro e w1 ⟨rfl, hb⟩
  (first | (have HBn := Lib.hid (ext_call HB.out hb)) | (have HBn := Lib.hid (ext_new HB.out hb))); clear HB hb; have HB := HBn; clear HBn
  go_wp2_with fail
  refine (lowerN_t s _ (by omega)).mono ?_
  rintro e w1 ⟨r, rfl, hr, hb⟩
  have HW := Lib.hid (show cln r.data.toList = (t.data.toList, ce) by rw [hr, cln_low]; exact HR.out)
  have hrz : r.size ≤ 100000 := by have := lowL_len s.data.toList; rw [← hr] at this; simp at this; omega
  clear hr
  (first | (have HBn := Lib.hid (ext_call HB.out hb)) | (have HBn := Lib.hid (ext_new HB.out hb))); clear HB hb; have HB := HBn; clear HBn
  go_wp2_with fail
  refine (txt_to t ce (clean5_any r _ hrz) HW.out).mono ?_
  rintro e w1 ⟨rfl, hb⟩
  (first | (have HBn := Lib.hid (ext_call HB.out hb)) | (have HBn := Lib.hid (ext_new HB.out hb))); clear HB hb; have HB := HBn; clear HBn
  go_wp2_with fail
  refine (bool_is (valid_any s _ (by omega)) HVB.out).mono ?_
  rintro e w1 ⟨rfl, hb⟩
  (first | (have HBn := Lib.hid (ext_call HB.out hb)) | (have HBn := Lib.hid (ext_new HB.out hb))); clear HB hb; have HB := HBn; clear HBn
  go_wp2_with fail
  refine (bool_is (rvalid_any s _ (by omega)) HVB.out).mono ?_
  rintro e w1 ⟨rfl, hb⟩
  (first | (have HBn := Lib.hid (ext_call HB.out hb)) | (have HBn := Lib.hid (ext_new HB.out hb))); clear HB hb; have HB := HBn; clear HBn
  go_wp2_with fail
  refine (live_any _).mono ?_
  rintro e w1 ⟨rfl, hb⟩
  (first | (have HBn := Lib.hid (ext_call HB.out hb)) | (have HBn := Lib.hid (ext_new HB.out hb))); clear HB hb; have HB := HBn; clear HBn
  have hc0 : ce = 0 := by have := HE.out; rw [HR.out] at this; exact this
  subst hc0
  have HI := Lib.hid (cln_idem HE.out)
  rw [HR.out] at HI
  go_wp2_with fail
  refine (txt_to t 0 (clean5_any t _ HTZ.out) HI.out.2).mono ?_
  rintro e w1 ⟨rfl, hb⟩
  (first | (have HBn := Lib.hid (ext_call HB.out hb)) | (have HBn := Lib.hid (ext_new HB.out hb))); clear HB hb; have HB := HBn; clear HBn
  go_wp2_with fail
  refine (bool_is (valid_any t _ HTZ.out) HI.out.1).mono ?_
  rintro e w1 ⟨rfl, hb⟩
  (first | (have HBn := Lib.hid (ext_call HB.out hb)) | (have HBn := Lib.hid (ext_new HB.out hb))); clear HB hb; have HB := HBn; clear HBn
  go_wp2
  go_ret
  exact ⟨rfl, HB.out⟩

theorem parsesLaw_any (s : ByteArray) (w : World) : Calls Tryd.prog 3 #[.string s] w fun e w' => e = .returned (.bool true) ∧ Below w.heap.size w w' := by
  rcases Nat.lt_or_ge 300 s.size with h | h
  · exact parses_long s w h
  · exact parses_short s w h
theorem formatsLaw_any (A : Option Addr) (n c : Nat) (l : List B2) (w : World) (hl : Ps w A n c l) (hn : n ≤ 9223372036854775807) : Calls Tryd.prog 4 #[.slice A n c] w fun e w' => e = .returned (.bool true) ∧ Below w.heap.size w w' := by
  cases hf : manyB l n with
  | true => exact formats_many A n c l w hl hn hf
  | false =>
    by_cases he : (fmt (prL l)).2 = 0
    · exact formats_ok A n c l w hl hn hf he
    · exact formats_err A n c l w hl hn hf he
theorem cleansLaw_any (s : ByteArray) (w : World) : Calls Tryd.prog 5 #[.string s] w fun e w' => e = .returned (.bool true) ∧ Below w.heap.size w w' := by
  rcases Nat.lt_or_ge 300 s.size with h | h
  · exact cleans_long s w h
  · by_cases he : (cln s.data.toList).2 = 0
    · exact cleans_ok s w h he
    · exact cleans_err s w h he
end Go.Proofs.YtjjcbbckihjapaaDoor.Na
