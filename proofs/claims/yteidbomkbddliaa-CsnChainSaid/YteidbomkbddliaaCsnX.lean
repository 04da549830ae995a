/-
  The walk of live.
-/
import Derived.Test.YteidbomkbddliaaCsnU
namespace Go.Proofs.Yteidbomkbddliaa.Csn
open Go.RowKit

/-- The worlds behind the variables of live. -/
def LiveS (w w' : World) (b1 b2 b3 : Nat) : Prop := Below w.heap.size w w' ∧ b1 < w'.heap.size ∧ b2 < w'.heap.size ∧ b3 < w'.heap.size ∧
  (w'.cell? ⟨b1, 0, none⟩ = some (.int .i64 5) ∧ w'.cell? ⟨b1, 1, none⟩ = some (.int .i64 17) ∧ w'.cell? ⟨b1, 2, none⟩ = some (.int .i64 2)) ∧
  (w'.cell? ⟨b2, 0, none⟩ = some (.int .i64 5) ∧ w'.cell? ⟨b2, 1, none⟩ = some (.int .i64 18) ∧ w'.cell? ⟨b2, 2, none⟩ = some (.int .i64 1)) ∧
  (w'.cell? ⟨b3, 0, none⟩ = some (.int .i64 9) ∧ w'.cell? ⟨b3, 1, none⟩ = some (.int .i64 0) ∧ w'.cell? ⟨b3, 2, none⟩ = some (.int .i64 1))

/-- One call more. -/
theorem ext_call {a b c : World} (h : Below a.heap.size a b) (k : Below b.heap.size b c) : Below a.heap.size a c := h.trans (k.mono h.size)
/-- A new block, then a call. -/
theorem ext_new {a b c : World} {o : Obj} (h : Below a.heap.size a b) (k : Below (b.alloc o).heap.size (b.alloc o) c) : Below a.heap.size a c := ext_call (h.alloc h.size o) k
theorem ext_new2 {a b c : World} {o o' : Obj} (h : Below a.heap.size a b) (k : Below ((b.alloc o).alloc o').heap.size ((b.alloc o).alloc o') c) : Below a.heap.size a c := ext_call (ext_call (h.alloc h.size o) ((Below.refl _ _).alloc (Nat.le_refl _) o')) k
/-- A struct's cells in a later world. -/
theorem box_later {w0 w' : World} {t s r : Int} {T : TypeId} (h : Below (w0.alloc (.cells #[.int .i64 t, .int .i64 s, .int .i64 r] T)).heap.size (w0.alloc (.cells #[.int .i64 t, .int .i64 s, .int .i64 r] T)) w') :
    w0.heap.size < w'.heap.size ∧ w'.cell? ⟨w0.heap.size, 0, none⟩ = some (.int .i64 t) ∧ w'.cell? ⟨w0.heap.size, 1, none⟩ = some (.int .i64 s) ∧ w'.cell? ⟨w0.heap.size, 2, none⟩ = some (.int .i64 r) := by
  have hl : w0.heap.size < (w0.alloc (.cells #[.int .i64 t, .int .i64 s, .int .i64 r] T)).heap.size := by simp
  refine ⟨Nat.lt_of_lt_of_le hl h.size, ?_, ?_, ?_⟩ <;> (rw [bkeep h hl]; simp [go_sem])
theorem sl_two (w : World) (a b : C) : Sl (w.alloc (.cells #[.int .i64 a.1, .int .i64 a.2.1, .int .i64 a.2.2, .int .i64 b.1, .int .i64 b.2.1, .int .i64 b.2.2] 23)) (some ⟨w.heap.size, 0, none⟩) 2 2 [a, b] :=
  ⟨rfl, Nat.le_refl _, fun _ => ⟨w.heap.size, 0, rfl, by simp, fun i hi => by
    rcases (by omega : i = 0 ∨ i = 1) with rfl | rfl
    · exact ⟨by simp [go_sem, cT], by simp [go_sem, cS], by simp [go_sem, cR]⟩
    · exact ⟨by simp [go_sem, cT], by simp [go_sem, cS], by simp [go_sem, cR]⟩⟩⟩
theorem sl_three (w : World) (a b c : C) : Sl (w.alloc (.cells #[.int .i64 a.1, .int .i64 a.2.1, .int .i64 a.2.2, .int .i64 b.1, .int .i64 b.2.1, .int .i64 b.2.2, .int .i64 c.1, .int .i64 c.2.1, .int .i64 c.2.2] 23)) (some ⟨w.heap.size, 0, none⟩) 3 3 [a, b, c] :=
  ⟨rfl, Nat.le_refl _, fun _ => ⟨w.heap.size, 0, rfl, by simp, fun i hi => by
    rcases (by omega : i = 0 ∨ i = 1 ∨ i = 2) with rfl | rfl | rfl
    · exact ⟨by simp [go_sem, cT], by simp [go_sem, cS], by simp [go_sem, cR]⟩
    · exact ⟨by simp [go_sem, cT], by simp [go_sem, cS], by simp [go_sem, cR]⟩
    · exact ⟨by simp [go_sem, cT], by simp [go_sem, cS], by simp [go_sem, cR]⟩⟩⟩

theorem same_lit (w : World) (A A2 : Option Addr) (c d : Nat) (ha : Sl w A 3 c vv) (hb : Sl w A2 3 d [(4, 1, 0), (2, 0, 1), (5, 0, 2)]) :
    Calls Try.prog 30 #[.slice A 3 c, .slice A2 3 d] w fun e w' => e = .returned (.bool true) ∧ Below w.heap.size w w' := by
  have h := same_any w A A2 3 c 3 d vv _ ha hb (by decide)
  rw [show decide (vv = [(4, 1, 0), (2, 0, 1), (5, 0, 2)]) = true by decide] at h
  exact h
theorem check_lit1 (w : World) : Calls Try.prog 25 #[.slice (some ⟨w.heap.size, 0, none⟩) 2 2] (w.alloc (.cells #[.int .i64 1, .int .i64 0, .int .i64 2, .int .i64 1, .int .i64 0, .int .i64 0] 23)) fun e w' => e = .returned (.int .i64 4) ∧ Below (w.alloc (.cells #[.int .i64 1, .int .i64 0, .int .i64 2, .int .i64 1, .int .i64 0, .int .i64 0] 23)).heap.size (w.alloc (.cells #[.int .i64 1, .int .i64 0, .int .i64 2, .int .i64 1, .int .i64 0, .int .i64 0] 23)) w' := by
  have h := check_any _ _ 2 2 _ (sl_two w (1, 0, 2) (1, 0, 0)) (by decide)
  rw [chk_lit1] at h
  exact h
theorem check_lit2 (w : World) : Calls Try.prog 25 #[.slice (some ⟨w.heap.size, 0, none⟩) 2 2] (w.alloc (.cells #[.int .i64 1, .int .i64 0, .int .i64 2, .int .i64 3, .int .i64 0, .int .i64 2] 23)) fun e w' => e = .returned (.int .i64 7) ∧ Below (w.alloc (.cells #[.int .i64 1, .int .i64 0, .int .i64 2, .int .i64 3, .int .i64 0, .int .i64 2] 23)).heap.size (w.alloc (.cells #[.int .i64 1, .int .i64 0, .int .i64 2, .int .i64 3, .int .i64 0, .int .i64 2] 23)) w' := by
  have h := check_any _ _ 2 2 _ (sl_two w (1, 0, 2) (3, 0, 2)) (by decide)
  rw [chk_lit2] at h
  exact h
theorem covers_lit1 (w : World) (A : Option Addr) (c : Nat) (ha : Sl w A 3 c vv) : Calls Try.prog 28 #[.slice A 3 c, .agg #[.int .i64 4, .int .i64 0, .int .i64 0]] w fun e w' => e = .returned (.bool true) ∧ Below w.heap.size w w' := by
  have h := covers_any w A 3 c vv 4 0 0 ha (by decide)
  rw [cov_lit1] at h
  exact h
theorem covers_lit2 (w : World) (A : Option Addr) (c : Nat) (ha : Sl w A 3 c vv) : Calls Try.prog 28 #[.slice A 3 c, .agg #[.int .i64 4, .int .i64 2, .int .i64 0]] w fun e w' => e = .returned (.bool false) ∧ Below w.heap.size w w' := by
  have h := covers_any w A 3 c vv 4 2 0 ha (by decide)
  rw [cov_lit2] at h
  exact h
theorem within_any1 (w : World) (A : Option Addr) (c : Nat) (ha : Sl w A 3 c vv) : Calls Try.prog 34 #[.slice none 0 0, .slice A 3 c] w fun e w' => e = .returned (.bool true) ∧ Below w.heap.size w w' := by
  have h := within_any w none A 0 0 3 c [] vv (Sl.nil _ _) ha (by decide) (by decide)
  rw [within_lit1] at h
  exact h
theorem within_any2 (w : World) (A : Option Addr) (c : Nat) (ha : Sl w A 3 c vv) : Calls Try.prog 34 #[.slice A 3 c, .slice none 0 0] w fun e w' => e = .returned (.bool false) ∧ Below w.heap.size w w' := by
  have h := within_any w A none 3 c 0 0 vv [] ha (Sl.nil _ _) (by decide) (by decide)
  rw [within_lit2] at h
  exact h
theorem note_lit_any (w : World) : Calls Try.prog 27 #[.slice none 0 0, .agg #[.int .i64 1, .int .i64 0, .int .i64 3]] w fun e w' => (∃ A c, e = .returned (.slice A 1 c)) ∧ Below w.heap.size w w' := by
  refine (note_any w none 0 0 [] 1 0 3 (Sl.nil _ _) (by decide)).mono ?_
  rintro e w' ⟨A, n, c, rfl, hs, hn, hb⟩
  rw [note_lit] at hs
  have : n = 1 := hs.1.symm
  subst this
  exact ⟨⟨A, c, rfl⟩, hb⟩
theorem ls_mk (w W : World) (b1 b2 b3 : Nat) (h : Below w.heap.size w W) (g1 : b1 < w.heap.size) (g2 : b2 < w.heap.size) (g3 : b3 < w.heap.size)
    (y0 : w.cell? ⟨b1, 0, none⟩ = some (.int .i64 5)) (y1 : w.cell? ⟨b1, 1, none⟩ = some (.int .i64 17)) (y2 : w.cell? ⟨b1, 2, none⟩ = some (.int .i64 2))
    (u0 : w.cell? ⟨b2, 0, none⟩ = some (.int .i64 5)) (u1 : w.cell? ⟨b2, 1, none⟩ = some (.int .i64 18)) (u2 : w.cell? ⟨b2, 2, none⟩ = some (.int .i64 1))
    (v0 : w.cell? ⟨b3, 0, none⟩ = some (.int .i64 9)) (v1 : w.cell? ⟨b3, 1, none⟩ = some (.int .i64 0)) (v2 : w.cell? ⟨b3, 2, none⟩ = some (.int .i64 1)) :
    W.cell? ⟨b1, 0, none⟩ = some (.int .i64 5) ∧ W.cell? ⟨b1, 1, none⟩ = some (.int .i64 17) ∧ W.cell? ⟨b1, 2, none⟩ = some (.int .i64 2) ∧
    W.cell? ⟨b2, 0, none⟩ = some (.int .i64 5) ∧ W.cell? ⟨b2, 1, none⟩ = some (.int .i64 18) ∧ W.cell? ⟨b2, 2, none⟩ = some (.int .i64 1) ∧
    W.cell? ⟨b3, 0, none⟩ = some (.int .i64 9) ∧ W.cell? ⟨b3, 1, none⟩ = some (.int .i64 0) ∧ W.cell? ⟨b3, 2, none⟩ = some (.int .i64 1) := by
  refine ⟨?_, ?_, ?_, ?_, ?_, ?_, ?_, ?_, ?_⟩
  · rw [bkeep h g1]; exact y0
  · rw [bkeep h g1]; exact y1
  · rw [bkeep h g1]; exact y2
  · rw [bkeep h g2]; exact u0
  · rw [bkeep h g2]; exact u1
  · rw [bkeep h g2]; exact u2
  · rw [bkeep h g3]; exact v0
  · rw [bkeep h g3]; exact v1
  · rw [bkeep h g3]; exact v2

set_option maxRecDepth 100000 in
set_option maxHeartbeats 8000000 in
theorem live_any (w : World) : Calls Try.prog 15 #[] w fun e w' => e = .returned (.bool true) ∧ Below w.heap.size w w' := by
  go_enter Try.func15, Try.ntmps15
  go_wp2_with fail
  refine (parse_lit1 _).mono ?_
  rintro e w1 ⟨rfl, hb⟩
  have H0 := Lib.hid hb
  clear hb
  go_wp2_with fail
  refine (parse_lit2 _).mono ?_
  rintro e w2 ⟨rfl, hb⟩
  have H0' := Lib.hid (ext_new H0.out hb)
  clear H0
  have H0 := H0'
  clear H0'
  have HC := Lib.hid hb
  clear hb
  go_wp2_with fail
  refine (at_any 5 17 2 _).mono ?_
  rintro e w3 ⟨rfl, hb⟩
  have H0' := Lib.hid (ext_new H0.out hb)
  clear H0
  have H0 := H0'
  clear H0'
  have HC' := Lib.hid (ext_new HC.out hb)
  clear HC
  have HC := HC'
  clear HC'
  clear hb
  go_wp2_with fail
  refine (next_lit1 _).mono ?_
  rintro e w4 ⟨rfl, hb⟩
  have H0' := Lib.hid (ext_call H0.out hb)
  clear H0
  have H0 := H0'
  clear H0'
  have HC' := Lib.hid (ext_call HC.out hb)
  clear HC
  have HC := HC'
  clear HC'
  clear hb
  go_wp2_with fail
  refine (at_any 5 17 2 _).mono ?_
  rintro e w5 ⟨rfl, hb⟩
  have H0' := Lib.hid (ext_new H0.out hb)
  clear H0
  have H0 := H0'
  clear H0'
  have HC' := Lib.hid (ext_new HC.out hb)
  clear HC
  have HC := HC'
  clear HC'
  have HN := Lib.hid hb
  clear hb
  go_wp2_with fail
  refine (next_lit2 _).mono ?_
  rintro e w6 ⟨rfl, hb⟩
  have H0' := Lib.hid (ext_call H0.out hb)
  clear H0
  have H0 := H0'
  clear H0'
  have HC' := Lib.hid (ext_call HC.out hb)
  clear HC
  have HC := HC'
  clear HC'
  have HN' := Lib.hid (ext_call HN.out hb)
  clear HN
  have HN := HN'
  clear HN'
  clear hb
  go_wp2_with fail
  refine (at_any 1 0 0 _).mono ?_
  rintro e w7 ⟨rfl, hb⟩
  have H0' := Lib.hid (ext_new H0.out hb)
  clear H0
  have H0 := H0'
  clear H0'
  have HC' := Lib.hid (ext_new HC.out hb)
  clear HC
  have HC := HC'
  clear HC'
  have HN' := Lib.hid (ext_new HN.out hb)
  clear HN
  have HN := HN'
  clear HN'
  have HM := Lib.hid hb
  clear hb
  go_wp2_with fail
  refine (at_any 5 0 2 _).mono ?_
  rintro e w8 ⟨rfl, hb⟩
  have H0' := Lib.hid (ext_call H0.out hb)
  clear H0
  have H0 := H0'
  clear H0'
  have HC' := Lib.hid (ext_call HC.out hb)
  clear HC
  have HC := HC'
  clear HC'
  have HN' := Lib.hid (ext_call HN.out hb)
  clear HN
  have HN := HN'
  clear HN'
  have HM' := Lib.hid (ext_call HM.out hb)
  clear HM
  have HM := HM'
  clear HM'
  clear hb
  go_wp2_with fail
  refine (at_any 4 1 0 _).mono ?_
  rintro e w9 ⟨rfl, hb⟩
  have H0' := Lib.hid (ext_new H0.out hb)
  clear H0
  have H0 := H0'
  clear H0'
  have HC' := Lib.hid (ext_new HC.out hb)
  clear HC
  have HC := HC'
  clear HC'
  have HN' := Lib.hid (ext_new HN.out hb)
  clear HN
  have HN := HN'
  clear HN'
  have HM' := Lib.hid (ext_new HM.out hb)
  clear HM
  have HM := HM'
  clear HM'
  have HA := Lib.hid hb
  clear hb
  go_wp2_with fail
  refine (at_any 2 0 1 _).mono ?_
  rintro e w10 ⟨rfl, hb⟩
  have H0' := Lib.hid (ext_call H0.out hb)
  clear H0
  have H0 := H0'
  clear H0'
  have HC' := Lib.hid (ext_call HC.out hb)
  clear HC
  have HC := HC'
  clear HC'
  have HN' := Lib.hid (ext_call HN.out hb)
  clear HN
  have HN := HN'
  clear HN'
  have HM' := Lib.hid (ext_call HM.out hb)
  clear HM
  have HM := HM'
  clear HM'
  have HA' := Lib.hid (ext_call HA.out hb)
  clear HA
  have HA := HA'
  clear HA'
  clear hb
  go_wp2_with fail
  have HSA := Lib.hid (((sl_two w8 (1, 0, 0) (5, 0, 2)).below HA.out).below ((Below.refl _ _).alloc (Nat.le_refl _) (.cells #[.int .i64 4, .int .i64 1, .int .i64 0, .int .i64 2, .int .i64 0, .int .i64 1] 23)))
  refine (join_any _ _ _ _ _ _ _ _ _ HSA.out (sl_two w10 (4, 1, 0) (2, 0, 1)) (by decide) (by decide)).mono ?_
  rintro e w11 ⟨A, n, c, rfl, hs, hn, hb⟩
  have H0' := Lib.hid (ext_new H0.out hb)
  clear H0
  have H0 := H0'
  clear H0'
  have HC' := Lib.hid (ext_new HC.out hb)
  clear HC
  have HC := HC'
  clear HC'
  have HN' := Lib.hid (ext_new HN.out hb)
  clear HN
  have HN := HN'
  clear HN'
  have HM' := Lib.hid (ext_new HM.out hb)
  clear HM
  have HM := HM'
  clear HM'
  have HA' := Lib.hid (ext_new HA.out hb)
  clear HA
  have HA := HA'
  clear HA'
  rw [join_lit] at hs
  have HV := Lib.hid hs
  have hn3 : n = 3 := hs.1.symm
  subst hn3
  clear hs hn
  clear hb
  obtain ⟨g1, y0, y1, y2⟩ := box_later HC.out
  obtain ⟨g2, u0, u1, u2⟩ := box_later HN.out
  obtain ⟨g3, v0, v1, v2⟩ := box_later HM.out
  go_wp2_with fail
  simp only [List.append_eq, List.cons_append, List.nil_append]
  have HB := Lib.hid ((Below.refl w11.heap.size w11).drew)
  go_region_held3 (fun w' => w'.cell? ⟨w1.heap.size, 0, none⟩ = some (.int .i64 5) ∧ w'.cell? ⟨w1.heap.size, 1, none⟩ = some (.int .i64 17) ∧ w'.cell? ⟨w1.heap.size, 2, none⟩ = some (.int .i64 2) ∧ w'.cell? ⟨w4.heap.size, 0, none⟩ = some (.int .i64 5) ∧ w'.cell? ⟨w4.heap.size, 1, none⟩ = some (.int .i64 18) ∧ w'.cell? ⟨w4.heap.size, 2, none⟩ = some (.int .i64 1) ∧ w'.cell? ⟨w6.heap.size, 0, none⟩ = some (.int .i64 9) ∧ w'.cell? ⟨w6.heap.size, 1, none⟩ = some (.int .i64 0) ∧ w'.cell? ⟨w6.heap.size, 2, none⟩ = some (.int .i64 1)) ((refine ls_mk w11 _ _ _ _ ?_ g1 g2 g3 y0 y1 y2 u0 u1 u2 v0 v1 v2; first | exact HB.out | exact HB.out.alloc HB.out.size _))
    (first
      | (go_at_call 39; (with_reducible refine (at_any _ _ _ _).mono ?_); rintro e wn ⟨rfl, hb⟩; (first | (have HBn := Lib.hid (ext_call HB.out hb)) | (have HBn := Lib.hid (ext_new HB.out hb))); clear HB hb; have HB := HBn; clear HBn)
      | (go_at_call 18; (with_reducible refine (format_lit _).mono ?_); rintro e wn ⟨rfl, hb⟩; (first | (have HBn := Lib.hid (ext_call HB.out hb)) | (have HBn := Lib.hid (ext_new HB.out hb))); clear HB hb; have HB := HBn; clear HBn)
      | (go_at_call 30; (with_reducible refine (same_lit _ _ _ _ _ (HV.out.below (by first | exact HB.out | exact HB.out.alloc HB.out.size _)) (sl_three _ (4, 1, 0) (2, 0, 1) (5, 0, 2))).mono ?_); rintro e wn ⟨rfl, hb⟩; (first | (have HBn := Lib.hid (ext_call HB.out hb)) | (have HBn := Lib.hid (ext_new HB.out hb))); clear HB hb; have HB := HBn; clear HBn)
      | (go_at_call 25; (with_reducible refine (check_lit1 _).mono ?_); rintro e wn ⟨rfl, hb⟩; (first | (have HBn := Lib.hid (ext_call HB.out hb)) | (have HBn := Lib.hid (ext_new HB.out hb))); clear HB hb; have HB := HBn; clear HBn)
      | (go_at_call 25; (with_reducible refine (check_lit2 _).mono ?_); rintro e wn ⟨rfl, hb⟩; (first | (have HBn := Lib.hid (ext_call HB.out hb)) | (have HBn := Lib.hid (ext_new HB.out hb))); clear HB hb; have HB := HBn; clear HBn)
      | (go_at_call 28; (with_reducible refine (covers_lit1 _ _ _ (HV.out.below (by first | exact HB.out | exact HB.out.alloc HB.out.size _))).mono ?_); rintro e wn ⟨rfl, hb⟩; (first | (have HBn := Lib.hid (ext_call HB.out hb)) | (have HBn := Lib.hid (ext_new HB.out hb))); clear HB hb; have HB := HBn; clear HBn)
      | (go_at_call 28; (with_reducible refine (covers_lit2 _ _ _ (HV.out.below (by first | exact HB.out | exact HB.out.alloc HB.out.size _))).mono ?_); rintro e wn ⟨rfl, hb⟩; (first | (have HBn := Lib.hid (ext_call HB.out hb)) | (have HBn := Lib.hid (ext_new HB.out hb))); clear HB hb; have HB := HBn; clear HBn)
      | (go_at_call 34; (with_reducible refine (within_any1 _ _ _ (HV.out.below (by first | exact HB.out | exact HB.out.alloc HB.out.size _))).mono ?_); rintro e wn ⟨rfl, hb⟩; (first | (have HBn := Lib.hid (ext_call HB.out hb)) | (have HBn := Lib.hid (ext_new HB.out hb))); clear HB hb; have HB := HBn; clear HBn)
      | (go_at_call 34; (with_reducible refine (within_any2 _ _ _ (HV.out.below (by first | exact HB.out | exact HB.out.alloc HB.out.size _))).mono ?_); rintro e wn ⟨rfl, hb⟩; (first | (have HBn := Lib.hid (ext_call HB.out hb)) | (have HBn := Lib.hid (ext_new HB.out hb))); clear HB hb; have HB := HBn; clear HBn)
      | (go_at_call 27; (with_reducible refine (note_lit_any _).mono ?_); rintro e wn ⟨⟨An, cn, rfl⟩, hb⟩; (first | (have HBn := Lib.hid (ext_call HB.out hb)) | (have HBn := Lib.hid (ext_new HB.out hb))); clear HB hb; have HB := HBn; clear HBn))
  go_wp2
  go_ret
  exact ⟨rfl, ext_call H0.out HB.out⟩
end Go.Proofs.Yteidbomkbddliaa.Csn
