/-
  The walk of layer 5's live: the chapter's examples.
-/
import Derived.Test.YtjjcbbckihjapaaDoorNaLv
namespace Go.Proofs.YtjjcbbckihjapaaDoor.Na
open Go.RowKit Go.Proofs.YtjjcbbckihjapaaDoor.Fo

/-- A text and an error come back. -/
def TxtIs (w : World) (t : ByteArray) (c : Int) (e : Ending) (w' : World) : Prop := e = .returned (.tuple #[.string t, .int .i64 c]) ∧ Below w.heap.size w w'
theorem txt_of {P : Program} {k : Nat} {args : Array Value} {w : World} {r : List UInt8 × Int} (t : ByteArray) (c : Int) (h : Calls P k args w (FmtIs w r)) (hr : r = (t.data.toList, c)) : Calls P k args w (TxtIs w t c) :=
  h.mono fun _ _ ⟨t', h1, h2, h3⟩ => ⟨by rw [h1, hr, ba_ext (h2.trans (congrArg Prod.fst hr))], h3⟩
def ErrIs (w : World) (c : Int) (e : Ending) (w' : World) : Prop := ∃ A n d, e = .returned (.tuple #[.slice A n d, .int .i64 c]) ∧ Below w.heap.size w w'
theorem err_of {P : Program} {k : Nat} {args : Array Value} {w : World} {r : List Pr × Int} (c : Int) (h : Calls P k args w (ParIs w r)) (hr : r.2 = c) : Calls P k args w (ErrIs w c) :=
  h.mono fun _ _ ⟨A, d, l, h1, h2, h3, h4⟩ => ⟨A, l.length, d, by subst hr; exact h1, h4⟩
theorem bool_is {P : Program} {k : Nat} {args : Array Value} {w : World} {b c : Bool} (h : Calls P k args w fun e w' => e = .returned (.bool b) ∧ Below w.heap.size w w') (hb : b = c) : Calls P k args w fun e w' => e = .returned (.bool c) ∧ Below w.heap.size w w' := by rwa [hb] at h
theorem int_is {P : Program} {k : Nat} {args : Array Value} {w : World} {b c : Int} (h : Calls P k args w fun e w' => e = .returned (.int .i64 b) ∧ Below w.heap.size w w') (hb : b = c) : Calls P k args w fun e w' => e = .returned (.int .i64 c) ∧ Below w.heap.size w w' := by rwa [hb] at h
/-- Two components come back. -/
def TwoIs (w : World) (x y u v : ByteArray) (e : Ending) (w' : World) : Prop :=
  ∃ b off c, e = .returned (.tuple #[.slice (some ⟨b, off, none⟩) 2 c, .int .i64 0]) ∧ Ps w' (some ⟨b, off, none⟩) 2 c [(x, y), (u, v)] ∧ Below w.heap.size w w'
theorem two_of {P : Program} {k : Nat} {args : Array Value} {w : World} {r : List Pr × Int} (x y u v : ByteArray) (h : Calls P k args w (ParIs w r)) (hr : r = (prL [(x, y), (u, v)], 0)) : Calls P k args w (TwoIs w x y u v) :=
  h.mono fun _ _ ⟨A, d, l, h1, h2, h3, h4⟩ => by
    subst hr
    have e1 := prL_inj h3
    subst e1
    obtain ⟨b, off, rfl, _⟩ := h2.ps.1.2.2 (by simp)
    exact ⟨b, off, d, h1, h2.ps.1, h4⟩
theorem l1 (w : World) : Calls Tryd.prog 13 #[.string ⟨#[67, 78, 32, 61, 32, 76, 101, 101, 92, 44, 32, 65, 110, 110, 32, 44, 32, 111, 117, 61, 83, 116, 97, 102, 102]⟩] w (TwoIs w ⟨#[67, 78]⟩ ⟨#[76, 101, 101, 44, 32, 65, 110, 110]⟩ ⟨#[111, 117]⟩ ⟨#[83, 116, 97, 102, 102]⟩) :=
  two_of _ _ _ _ (parse_any ⟨#[67, 78, 32, 61, 32, 76, 101, 101, 92, 44, 32, 65, 110, 110, 32, 44, 32, 111, 117, 61, 83, 116, 97, 102, 102]⟩ w (by decide)) (by decide +kernel)

theorem l2 (w : World) : Calls Tryd.prog 21 #[.string ⟨#[67, 78, 61, 65, 110, 110, 32, 76, 101, 101, 44, 79, 85, 61, 83, 116, 97, 102, 102]⟩] w (TxtIs w ⟨#[99, 110, 61, 97, 110, 110, 32, 108, 101, 101, 44, 111, 117, 61, 115, 116, 97, 102, 102]⟩ 0) :=
  txt_of _ _ (clean5_any ⟨#[67, 78, 61, 65, 110, 110, 32, 76, 101, 101, 44, 79, 85, 61, 83, 116, 97, 102, 102]⟩ w (by decide)) (by decide +kernel)

theorem l3 (w : World) : Calls Tryd.prog 13 #[.string ⟨#[99, 110, 61, 97, 61, 98]⟩] w (ErrIs w 4) :=
  err_of _ (parse_any ⟨#[99, 110, 61, 97, 61, 98]⟩ w (by decide)) (by decide +kernel)

theorem l4 (w : World) : Calls Tryd.prog 13 #[.string ⟨#[99, 110, 61, 97, 44]⟩] w (ErrIs w 4) :=
  err_of _ (parse_any ⟨#[99, 110, 61, 97, 44]⟩ w (by decide)) (by decide +kernel)

theorem l5 (w : World) : Calls Tryd.prog 25 #[.string ⟨#[99, 110, 61, 97, 110, 110, 44, 111, 117, 61, 115, 116, 97, 102, 102]⟩] w fun e w' => e = .returned (.tuple #[.string ⟨#[111, 117, 61, 115, 116, 97, 102, 102]⟩, .bool true]) ∧ Below w.heap.size w w' :=
  (parent_any ⟨#[99, 110, 61, 97, 110, 110, 44, 111, 117, 61, 115, 116, 97, 102, 102]⟩ w (by decide)).mono fun _ _ ⟨t, h1, h2, h3⟩ => by
    have hr : par (⟨#[99, 110, 61, 97, 110, 110, 44, 111, 117, 61, 115, 116, 97, 102, 102]⟩ : ByteArray).data.toList = ([111, 117, 61, 115, 116, 97, 102, 102], true) := by decide +kernel
    rw [hr] at h1 h2
    exact ⟨by rw [h1, ba_ext (b := ⟨#[111, 117, 61, 115, 116, 97, 102, 102]⟩) h2], h3⟩

theorem l6 (w : World) : Calls Tryd.prog 27 #[.string ⟨#[111, 117, 61, 115, 116, 97, 102, 102]⟩, .agg #[.string ⟨#[67, 78]⟩, .string ⟨#[65, 110, 110]⟩]] w (TxtIs w ⟨#[99, 110, 61, 97, 110, 110, 44, 111, 117, 61, 115, 116, 97, 102, 102]⟩ 0) :=
  txt_of _ _ (child_any ⟨#[111, 117, 61, 115, 116, 97, 102, 102]⟩ ⟨#[67, 78]⟩ ⟨#[65, 110, 110]⟩ w (by decide) (by decide) (by decide)) (by decide +kernel)

theorem l7 (w : World) : Calls Tryd.prog 32 #[.string ⟨#[99, 110, 61, 97, 110, 110, 44, 111, 117, 61, 115, 116, 97, 102, 102]⟩, .string ⟨#[111, 117, 61, 115, 116, 97, 102, 102]⟩, .string ⟨#[111, 117, 61, 112, 101, 111, 112, 108, 101, 44, 111, 61, 120]⟩] w (TxtIs w ⟨#[99, 110, 61, 97, 110, 110, 44, 111, 117, 61, 112, 101, 111, 112, 108, 101, 44, 111, 61, 120]⟩ 0) :=
  txt_of _ _ (rebase_any ⟨#[99, 110, 61, 97, 110, 110, 44, 111, 117, 61, 115, 116, 97, 102, 102]⟩ ⟨#[111, 117, 61, 115, 116, 97, 102, 102]⟩ ⟨#[111, 117, 61, 112, 101, 111, 112, 108, 101, 44, 111, 61, 120]⟩ w (by decide) (by decide) (by decide)) (by decide +kernel)

theorem l8 (w : World) : Calls Tryd.prog 19 #[.string ⟨#[]⟩] w fun e w' => e = .returned (.bool true) ∧ Below w.heap.size w w' :=
  bool_is (valid_any ⟨#[]⟩ w (by decide)) (by decide +kernel)

theorem l9 (w : World) : Calls Tryd.prog 30 #[.string ⟨#[99, 110, 61, 97, 110, 110, 44, 111, 117, 61, 115, 116, 97, 102, 102]⟩, .string ⟨#[111, 117, 61, 115, 116, 97, 102, 102]⟩] w fun e w' => e = .returned (.bool true) ∧ Below w.heap.size w w' :=
  bool_is (under_any ⟨#[99, 110, 61, 97, 110, 110, 44, 111, 117, 61, 115, 116, 97, 102, 102]⟩ ⟨#[111, 117, 61, 115, 116, 97, 102, 102]⟩ w (by decide) (by decide)) (by decide +kernel)

theorem l10 (w : World) : Calls Tryd.prog 30 #[.string ⟨#[111, 117, 61, 115, 116, 97, 102, 102]⟩, .string ⟨#[99, 110, 61, 97, 110, 110, 44, 111, 117, 61, 115, 116, 97, 102, 102]⟩] w fun e w' => e = .returned (.bool false) ∧ Below w.heap.size w w' :=
  bool_is (under_any ⟨#[111, 117, 61, 115, 116, 97, 102, 102]⟩ ⟨#[99, 110, 61, 97, 110, 110, 44, 111, 117, 61, 115, 116, 97, 102, 102]⟩ w (by decide) (by decide)) (by decide +kernel)

theorem l11 (w : World) : Calls Tryd.prog 20 #[.string ⟨#[99, 110, 61, 97, 110, 110, 44, 111, 117, 61, 115, 116, 97, 102, 102]⟩] w fun e w' => e = .returned (.int .i64 (2)) ∧ Below w.heap.size w w' :=
  int_is (depth_any ⟨#[99, 110, 61, 97, 110, 110, 44, 111, 117, 61, 115, 116, 97, 102, 102]⟩ w (by decide)) (by decide +kernel)

theorem l12 (w : World) : Calls Tryd.prog 34 #[.string ⟨#[111, 117, 61, 115, 116, 97, 102, 102]⟩, .string ⟨#[99, 110, 61, 97, 110, 110, 44, 111, 117, 61, 115, 116, 97, 102, 102]⟩] w fun e w' => e = .returned (.int .i64 (-1)) ∧ Below w.heap.size w w' :=
  int_is (compareN_any ⟨#[111, 117, 61, 115, 116, 97, 102, 102]⟩ ⟨#[99, 110, 61, 97, 110, 110, 44, 111, 117, 61, 115, 116, 97, 102, 102]⟩ w (by decide) (by decide)) (by decide +kernel)

theorem l13 (w : World) : Calls Tryd.prog 34 #[.string ⟨#[99, 110, 61, 97, 110, 110, 44, 111, 117, 61, 115, 116, 97, 102, 102]⟩, .string ⟨#[111, 117, 61, 116, 101, 109, 112]⟩] w fun e w' => e = .returned (.int .i64 (-1)) ∧ Below w.heap.size w w' :=
  int_is (compareN_any ⟨#[99, 110, 61, 97, 110, 110, 44, 111, 117, 61, 115, 116, 97, 102, 102]⟩ ⟨#[111, 117, 61, 116, 101, 109, 112]⟩ w (by decide) (by decide)) (by decide +kernel)

/-- live answers true. -/
def LiveOk : Prop := ∀ w, Calls Tryd.prog 12 #[] w fun e w' => e = .returned (.bool true) ∧ Below w.heap.size w w'
set_option maxRecDepth 100000 in
set_option maxHeartbeats 8000000 in
theorem live_any : LiveOk := by
  intro w
  go_enter Tryd.func12, Tryd.ntmps12
  go_wp2_with fail
  refine (l1 _).mono ?_
  rintro e w1 ⟨b, off, c, rfl, hp, hb⟩
  have HB := Lib.hid hb
  have HP := Lib.hid hp
  clear hp hb
  go_wp2_with fail
  refine (l2 _).mono ?_
  rintro e w2 ⟨rfl, hb⟩
  have HPn := Lib.hid (HP.out.below hb); clear HP; have HP := HPn; clear HPn
  (first | (have HBn := Lib.hid (ext_call HB.out hb)) | (have HBn := Lib.hid (ext_new HB.out hb))); clear HB hb; have HB := HBn; clear HBn
  go_wp2_with fail
  refine (l3 _).mono ?_
  rintro e w2 ⟨A, n, d, rfl, hb⟩
  have HPn := Lib.hid (HP.out.below hb); clear HP; have HP := HPn; clear HPn
  (first | (have HBn := Lib.hid (ext_call HB.out hb)) | (have HBn := Lib.hid (ext_new HB.out hb))); clear HB hb; have HB := HBn; clear HBn
  go_wp2_with fail
  refine (l4 _).mono ?_
  rintro e w2 ⟨A, n, d, rfl, hb⟩
  have HPn := Lib.hid (HP.out.below hb); clear HP; have HP := HPn; clear HPn
  (first | (have HBn := Lib.hid (ext_call HB.out hb)) | (have HBn := Lib.hid (ext_new HB.out hb))); clear HB hb; have HB := HBn; clear HBn
  go_wp2_with fail
  refine (l5 _).mono ?_
  rintro e w2 ⟨rfl, hb⟩
  have HPn := Lib.hid (HP.out.below hb); clear HP; have HP := HPn; clear HPn
  (first | (have HBn := Lib.hid (ext_call HB.out hb)) | (have HBn := Lib.hid (ext_new HB.out hb))); clear HB hb; have HB := HBn; clear HBn
  go_wp2_with fail
  refine (l6 _).mono ?_
  rintro e w2 ⟨rfl, hb⟩
  have HPn := Lib.hid (HP.out.below hb); clear HP; have HP := HPn; clear HPn
  (first | (have HBn := Lib.hid (ext_call HB.out hb)) | (have HBn := Lib.hid (ext_new HB.out hb))); clear HB hb; have HB := HBn; clear HBn
  go_wp2_with fail
  refine (l7 _).mono ?_
  rintro e w2 ⟨rfl, hb⟩
  have HPn := Lib.hid (HP.out.below hb); clear HP; have HP := HPn; clear HPn
  (first | (have HBn := Lib.hid (ext_call HB.out hb)) | (have HBn := Lib.hid (ext_new HB.out hb))); clear HB hb; have HB := HBn; clear HBn
  obtain ⟨b', off', hA, hbl, hc⟩ := HP.out.2.2 (by omega)
  injection hA with hA
  injection hA with e1 e2
  subst e1; subst e2
  obtain ⟨c0, c1⟩ := hc 0 (by omega)
  obtain ⟨c2, c3⟩ := hc 1 (by omega)
  simp only [pX, pY, List.getD_cons_zero, List.getD_cons_succ, Nat.zero_mul, Nat.one_mul, Nat.add_zero] at c0 c1 c2 c3
  clear hc hbl
  go_wp2_with fail
  refine (l8 _).mono ?_
  rintro e w2 ⟨rfl, hb⟩
  (first | (have HBn := Lib.hid (ext_call HB.out hb)) | (have HBn := Lib.hid (ext_new HB.out hb))); clear HB hb; have HB := HBn; clear HBn
  go_wp2_with fail
  refine (l9 _).mono ?_
  rintro e w2 ⟨rfl, hb⟩
  (first | (have HBn := Lib.hid (ext_call HB.out hb)) | (have HBn := Lib.hid (ext_new HB.out hb))); clear HB hb; have HB := HBn; clear HBn
  go_wp2_with fail
  refine (l10 _).mono ?_
  rintro e w2 ⟨rfl, hb⟩
  (first | (have HBn := Lib.hid (ext_call HB.out hb)) | (have HBn := Lib.hid (ext_new HB.out hb))); clear HB hb; have HB := HBn; clear HBn
  go_wp2_with fail
  refine (l11 _).mono ?_
  rintro e w2 ⟨rfl, hb⟩
  (first | (have HBn := Lib.hid (ext_call HB.out hb)) | (have HBn := Lib.hid (ext_new HB.out hb))); clear HB hb; have HB := HBn; clear HBn
  go_wp2_with fail
  refine (l12 _).mono ?_
  rintro e w2 ⟨rfl, hb⟩
  (first | (have HBn := Lib.hid (ext_call HB.out hb)) | (have HBn := Lib.hid (ext_new HB.out hb))); clear HB hb; have HB := HBn; clear HBn
  go_wp2_with fail
  refine (l13 _).mono ?_
  rintro e w2 ⟨rfl, hb⟩
  (first | (have HBn := Lib.hid (ext_call HB.out hb)) | (have HBn := Lib.hid (ext_new HB.out hb))); clear HB hb; have HB := HBn; clear HBn
  go_wp2
  go_ret
  exact ⟨rfl, HB.out⟩
end Go.Proofs.YtjjcbbckihjapaaDoor.Na
