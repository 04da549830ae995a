/-
  The walks of the laws CsnOrders and CsnNext, live taken as a hypothesis.
-/
import Derived.Test.YteidbomkbddliaaCsnPl
import Derived.Test.YteidbomkbddliaaCsnU
import Derived.IntWalk
namespace Go.Proofs.Yteidbomkbddliaa.Csn
open Go.RowKit

/-- live answers true. -/
def LiveOk : Prop := ∀ w, Calls Try.prog 15 #[] w fun e w' => e = .returned (.bool true) ∧ Below w.heap.size w w'
theorem LiveOk.at_ (h : LiveOk) (w : World) : Calls Try.prog 15 #[] w fun e w' => e = .returned (.bool true) ∧ Below w.heap.size w w' := h w

theorem ext_call {a b c : World} (h : Below a.heap.size a b) (k : Below b.heap.size b c) : Below a.heap.size a c := h.trans (k.mono h.size)
theorem ext_new {a b c : World} {o : Obj} (h : Below a.heap.size a b) (k : Below (b.alloc o).heap.size (b.alloc o) c) : Below a.heap.size a c := ext_call (h.alloc h.size o) k

/-- Three structs at three blocks, in a later world. -/
def B3 (w W : World) (t s r t' s' r' t'' s'' r'' : Int) : Prop :=
  W.cell? ⟨w.heap.size, 0, none⟩ = some (.int .i64 t) ∧ W.cell? ⟨w.heap.size, 1, none⟩ = some (.int .i64 s) ∧ W.cell? ⟨w.heap.size, 2, none⟩ = some (.int .i64 r) ∧
  W.cell? ⟨w.heap.size + 1, 0, none⟩ = some (.int .i64 t') ∧ W.cell? ⟨w.heap.size + 1, 1, none⟩ = some (.int .i64 s') ∧ W.cell? ⟨w.heap.size + 1, 2, none⟩ = some (.int .i64 r') ∧
  W.cell? ⟨w.heap.size + 2, 0, none⟩ = some (.int .i64 t'') ∧ W.cell? ⟨w.heap.size + 2, 1, none⟩ = some (.int .i64 s'') ∧ W.cell? ⟨w.heap.size + 2, 2, none⟩ = some (.int .i64 r'')
theorem B3.mk_ {w W : World} {t s r t' s' r' t'' s'' r'' : Int} {T : TypeId}
    (h : Below (((w.alloc (.cells #[.int .i64 t, .int .i64 s, .int .i64 r] T)).alloc (.cells #[.int .i64 t', .int .i64 s', .int .i64 r'] T)).alloc (.cells #[.int .i64 t'', .int .i64 s'', .int .i64 r''] T)).heap.size
      (((w.alloc (.cells #[.int .i64 t, .int .i64 s, .int .i64 r] T)).alloc (.cells #[.int .i64 t', .int .i64 s', .int .i64 r'] T)).alloc (.cells #[.int .i64 t'', .int .i64 s'', .int .i64 r''] T)) W) :
    B3 w W t s r t' s' r' t'' s'' r'' := by
  refine ⟨?_, ?_, ?_, ?_, ?_, ?_, ?_, ?_, ?_⟩ <;> (rw [bkeep h (by simp; try omega)]; simp [go_sem])

theorem B3.later {w w1 W : World} {t s r t' s' r' t'' s'' r'' : Int} (h : Below w1.heap.size w1 W) (hz : w.heap.size + 2 < w1.heap.size) (hb : B3 w w1 t s r t' s' r' t'' s'' r'') : B3 w W t s r t' s' r' t'' s'' r'' := by
  obtain ⟨a, b, c, d, e, f, g, i, j⟩ := hb
  refine ⟨?_, ?_, ?_, ?_, ?_, ?_, ?_, ?_, ?_⟩ <;> (rw [bkeep h (by omega)]; assumption)
set_option maxRecDepth 100000 in
set_option maxHeartbeats 8000000 in
theorem orders_any (hlive0 : LiveOk) (t s r t' s' r' t'' s'' r'' : Int) (w : World) :
    Calls Try.prog 3 #[.agg #[.int .i64 t, .int .i64 s, .int .i64 r], .agg #[.int .i64 t', .int .i64 s', .int .i64 r'], .agg #[.int .i64 t'', .int .i64 s'', .int .i64 r'']] w fun e w' => e = .returned (.bool true) ∧ Below w.heap.size w w' := by
  have hlive := Lib.hid hlive0
  clear hlive0
  go_enter Try.func3, Try.ntmps3
  go_upto_region 1 with fail
  go_cut [7, 8] (fun s7 s8 wx => s7 = .int .i64 (cmpC t s r t' s' r') ∧ s8 = .int .i64 (cmpC t' s' r' t'' s'' r'') ∧ Below w.heap.size w wx ∧ w.heap.size + 2 < wx.heap.size ∧ B3 w wx t s r t' s' r' t'' s'' r'')
  case first =>
    have HB : Hid (Below (((w.alloc (.cells #[.int .i64 t, .int .i64 s, .int .i64 r] 23)).alloc (.cells #[.int .i64 t', .int .i64 s', .int .i64 r'] 23)).alloc (.cells #[.int .i64 t'', .int .i64 s'', .int .i64 r''] 23)).heap.size (((w.alloc (.cells #[.int .i64 t, .int .i64 s, .int .i64 r] 23)).alloc (.cells #[.int .i64 t', .int .i64 s', .int .i64 r'] 23)).alloc (.cells #[.int .i64 t'', .int .i64 s'', .int .i64 r''] 23)) (((w.alloc (.cells #[.int .i64 t, .int .i64 s, .int .i64 r] 23)).alloc (.cells #[.int .i64 t', .int .i64 s', .int .i64 r'] 23)).alloc (.cells #[.int .i64 t'', .int .i64 s'', .int .i64 r''] 23)).drew) := (Below.refl _ _).drew
    go_region_held3 (fun W => W.cell? ⟨w.heap.size, 0, none⟩ = some (.int .i64 t) ∧ W.cell? ⟨w.heap.size, 1, none⟩ = some (.int .i64 s) ∧ W.cell? ⟨w.heap.size, 2, none⟩ = some (.int .i64 r) ∧ W.cell? ⟨w.heap.size + 1, 0, none⟩ = some (.int .i64 t') ∧ W.cell? ⟨w.heap.size + 1, 1, none⟩ = some (.int .i64 s') ∧ W.cell? ⟨w.heap.size + 1, 2, none⟩ = some (.int .i64 r') ∧ W.cell? ⟨w.heap.size + 2, 0, none⟩ = some (.int .i64 t'') ∧ W.cell? ⟨w.heap.size + 2, 1, none⟩ = some (.int .i64 s'') ∧ W.cell? ⟨w.heap.size + 2, 2, none⟩ = some (.int .i64 r'')) (exact B3.mk_ HB.out)
      ((go_at_call 11; refine (compare_any _ _ _ _ _ _ _).mono ?_; rintro e wn ⟨rfl, hb⟩; have HBn := Lib.hid (ext_call HB.out hb); clear HB hb; have HB := HBn; clear HBn))
    go_wp2
    go_meet
    exact ⟨rfl, rfl, ((((Below.refl w.heap.size w).alloc (Nat.le_refl _) _).alloc (by simp) _).alloc (by simp; omega) _).trans (HB.out.mono (by simp; omega)), by have := HB.out.size; simp at this; omega, B3.mk_ HB.out⟩
  case rest =>
    obtain ⟨rfl, rfl, hbw, hzw, hb3⟩ := hcut
    obtain ⟨w1, rfl⟩ : ∃ x : World, x = wc := ⟨_, rfl⟩
    have HB := Lib.hid (Below.refl w1.heap.size w1)
    have HZ := Lib.hid hzw
    have HW := Lib.hid hbw
    have H3 := Lib.hid hb3
    have hx := cmp_range t s r t' s' r'
    have hneg := cmp_neg t s r t' s' r'
    have htr := Lib.hid (fun h1 h2 => cmp_trans (t := t) (s := s) (r := r) (t' := t') (s' := s') (r' := r') (t'' := t'') (s'' := s'') (r'' := r'') h1 h2)
    clear hb3 hbw HB
    go_upto_region 2 with fail
    go_cut [42] (fun s42 wx => s42 = .bool false ∧ Below w1.heap.size w1 wx)
    case first =>
      have HB : Hid (Below w1.heap.size w1 w1.drew) := (Below.refl _ _).drew
      have hw : IntKind.i64.wrap (-(cmpC t s r t' s' r')) = -(cmpC t s r t' s' r') := IntWalk.i64_in _ (by omega)
      by_cases h1 : t = t'
      · subst h1
        by_cases h2 : s = s'
        · subst h2
          by_cases h3 : r = r'
          · subst h3
            have hz : (cmpC t s r t s r == 0) = true := by rw [cmp_self]; rfl
            have hw2 : IntKind.i64.wrap (-(cmpC t s r t s r)) = cmpC t s r t s r := by rw [cmp_self]; rfl
            clear hx hneg hw
            go_wp2_with fail
            go_region_held3 (fun W => W.cell? ⟨w.heap.size, 0, none⟩ = some (.int .i64 t) ∧ W.cell? ⟨w.heap.size, 1, none⟩ = some (.int .i64 s) ∧ W.cell? ⟨w.heap.size, 2, none⟩ = some (.int .i64 r) ∧ W.cell? ⟨w.heap.size + 1, 0, none⟩ = some (.int .i64 t) ∧ W.cell? ⟨w.heap.size + 1, 1, none⟩ = some (.int .i64 s) ∧ W.cell? ⟨w.heap.size + 1, 2, none⟩ = some (.int .i64 r) ∧ W.cell? ⟨w.heap.size + 2, 0, none⟩ = some (.int .i64 t'') ∧ W.cell? ⟨w.heap.size + 2, 1, none⟩ = some (.int .i64 s'') ∧ W.cell? ⟨w.heap.size + 2, 2, none⟩ = some (.int .i64 r'')) ((refine B3.later ?_ HZ.out H3.out; first | exact HB.out | exact HB.out.drew))
              (first | (go_at_call 12; refine (valid_any _ _ _ _).mono ?_; rintro e wn ⟨rfl, hb⟩; have HBn := Lib.hid (ext_call HB.out hb); clear HB hb; have HB := HBn; clear HBn) | (go_at_call 13; refine (rvalid_any _ _ _ _).mono ?_; rintro e wn ⟨rfl, hb⟩; have HBn := Lib.hid (ext_call HB.out hb); clear HB hb; have HB := HBn; clear HBn) | (go_at_call 11; refine (compare_any _ _ _ _ _ _ _).mono ?_; rintro e wn ⟨rfl, hb⟩; have HBn := Lib.hid (ext_call HB.out hb); clear HB hb; have HB := HBn; clear HBn) | (go_at_call 14; refine (rcompare_any _ _ _ _ _ _ _).mono ?_; rintro e wn ⟨rfl, hb⟩; have HBn := Lib.hid (ext_call HB.out hb); clear HB hb; have HB := HBn; clear HBn))
            go_wp2
            go_meet
            exact ⟨rfl, HB.out⟩
          · have hz : (cmpC t s r t s r' == 0) = false := by simp [cmp_zero, h3]
            clear hx
            go_wp2_with fail
            go_region_held3 (fun W => W.cell? ⟨w.heap.size, 0, none⟩ = some (.int .i64 t) ∧ W.cell? ⟨w.heap.size, 1, none⟩ = some (.int .i64 s) ∧ W.cell? ⟨w.heap.size, 2, none⟩ = some (.int .i64 r) ∧ W.cell? ⟨w.heap.size + 1, 0, none⟩ = some (.int .i64 t) ∧ W.cell? ⟨w.heap.size + 1, 1, none⟩ = some (.int .i64 s) ∧ W.cell? ⟨w.heap.size + 1, 2, none⟩ = some (.int .i64 r') ∧ W.cell? ⟨w.heap.size + 2, 0, none⟩ = some (.int .i64 t'') ∧ W.cell? ⟨w.heap.size + 2, 1, none⟩ = some (.int .i64 s'') ∧ W.cell? ⟨w.heap.size + 2, 2, none⟩ = some (.int .i64 r'')) ((refine B3.later ?_ HZ.out H3.out; first | exact HB.out | exact HB.out.drew))
              (first | (go_at_call 12; refine (valid_any _ _ _ _).mono ?_; rintro e wn ⟨rfl, hb⟩; have HBn := Lib.hid (ext_call HB.out hb); clear HB hb; have HB := HBn; clear HBn) | (go_at_call 13; refine (rvalid_any _ _ _ _).mono ?_; rintro e wn ⟨rfl, hb⟩; have HBn := Lib.hid (ext_call HB.out hb); clear HB hb; have HB := HBn; clear HBn) | (go_at_call 11; refine (compare_any _ _ _ _ _ _ _).mono ?_; rintro e wn ⟨rfl, hb⟩; have HBn := Lib.hid (ext_call HB.out hb); clear HB hb; have HB := HBn; clear HBn) | (go_at_call 14; refine (rcompare_any _ _ _ _ _ _ _).mono ?_; rintro e wn ⟨rfl, hb⟩; have HBn := Lib.hid (ext_call HB.out hb); clear HB hb; have HB := HBn; clear HBn))
            go_wp2
            go_meet
            exact ⟨rfl, HB.out⟩
        · have hz : (cmpC t s r t s' r' == 0) = false := by simp [cmp_zero, h2]
          clear hx
          go_wp2_with fail
          go_region_held3 (fun W => W.cell? ⟨w.heap.size, 0, none⟩ = some (.int .i64 t) ∧ W.cell? ⟨w.heap.size, 1, none⟩ = some (.int .i64 s) ∧ W.cell? ⟨w.heap.size, 2, none⟩ = some (.int .i64 r) ∧ W.cell? ⟨w.heap.size + 1, 0, none⟩ = some (.int .i64 t) ∧ W.cell? ⟨w.heap.size + 1, 1, none⟩ = some (.int .i64 s') ∧ W.cell? ⟨w.heap.size + 1, 2, none⟩ = some (.int .i64 r') ∧ W.cell? ⟨w.heap.size + 2, 0, none⟩ = some (.int .i64 t'') ∧ W.cell? ⟨w.heap.size + 2, 1, none⟩ = some (.int .i64 s'') ∧ W.cell? ⟨w.heap.size + 2, 2, none⟩ = some (.int .i64 r'')) ((refine B3.later ?_ HZ.out H3.out; first | exact HB.out | exact HB.out.drew))
            (first | (go_at_call 12; refine (valid_any _ _ _ _).mono ?_; rintro e wn ⟨rfl, hb⟩; have HBn := Lib.hid (ext_call HB.out hb); clear HB hb; have HB := HBn; clear HBn) | (go_at_call 13; refine (rvalid_any _ _ _ _).mono ?_; rintro e wn ⟨rfl, hb⟩; have HBn := Lib.hid (ext_call HB.out hb); clear HB hb; have HB := HBn; clear HBn) | (go_at_call 11; refine (compare_any _ _ _ _ _ _ _).mono ?_; rintro e wn ⟨rfl, hb⟩; have HBn := Lib.hid (ext_call HB.out hb); clear HB hb; have HB := HBn; clear HBn) | (go_at_call 14; refine (rcompare_any _ _ _ _ _ _ _).mono ?_; rintro e wn ⟨rfl, hb⟩; have HBn := Lib.hid (ext_call HB.out hb); clear HB hb; have HB := HBn; clear HBn))
          go_wp2
          go_meet
          exact ⟨rfl, HB.out⟩
      · have hz : (cmpC t s r t' s' r' == 0) = false := by simp [cmp_zero, h1]
        clear hx
        go_wp2_with fail
        go_region_held3 (fun W => W.cell? ⟨w.heap.size, 0, none⟩ = some (.int .i64 t) ∧ W.cell? ⟨w.heap.size, 1, none⟩ = some (.int .i64 s) ∧ W.cell? ⟨w.heap.size, 2, none⟩ = some (.int .i64 r) ∧ W.cell? ⟨w.heap.size + 1, 0, none⟩ = some (.int .i64 t') ∧ W.cell? ⟨w.heap.size + 1, 1, none⟩ = some (.int .i64 s') ∧ W.cell? ⟨w.heap.size + 1, 2, none⟩ = some (.int .i64 r') ∧ W.cell? ⟨w.heap.size + 2, 0, none⟩ = some (.int .i64 t'') ∧ W.cell? ⟨w.heap.size + 2, 1, none⟩ = some (.int .i64 s'') ∧ W.cell? ⟨w.heap.size + 2, 2, none⟩ = some (.int .i64 r'')) ((refine B3.later ?_ HZ.out H3.out; first | exact HB.out | exact HB.out.drew))
          (first | (go_at_call 12; refine (valid_any _ _ _ _).mono ?_; rintro e wn ⟨rfl, hb⟩; have HBn := Lib.hid (ext_call HB.out hb); clear HB hb; have HB := HBn; clear HBn) | (go_at_call 13; refine (rvalid_any _ _ _ _).mono ?_; rintro e wn ⟨rfl, hb⟩; have HBn := Lib.hid (ext_call HB.out hb); clear HB hb; have HB := HBn; clear HBn) | (go_at_call 11; refine (compare_any _ _ _ _ _ _ _).mono ?_; rintro e wn ⟨rfl, hb⟩; have HBn := Lib.hid (ext_call HB.out hb); clear HB hb; have HB := HBn; clear HBn) | (go_at_call 14; refine (rcompare_any _ _ _ _ _ _ _).mono ?_; rintro e wn ⟨rfl, hb⟩; have HBn := Lib.hid (ext_call HB.out hb); clear HB hb; have HB := HBn; clear HBn))
        go_wp2
        go_meet
        exact ⟨rfl, HB.out⟩
    case rest =>
      obtain ⟨rfl, hb2⟩ := hcut
      obtain ⟨w2, rfl⟩ : ∃ x : World, x = wc := ⟨_, rfl⟩
      have HB := Lib.hid hb2
      obtain ⟨z0, z1, z2, z3, z4, z5, z6, z7, z8⟩ := B3.later hb2 HZ.out H3.out
      clear hb2 hneg
      by_cases c1 : 0 < cmpC t s r t' s' r'
      · go_wp2_with (go_at_call 15; refine (hlive.out.at_ _).mono ?_; rintro e wn ⟨rfl, hb⟩; have HBn := Lib.hid (ext_call HB.out hb); clear HB hb; have HB := HBn; clear HBn)
        go_ret
        exact ⟨rfl, HW.out.trans (HB.out.mono HW.out.size)⟩
      · by_cases c2 : 0 < cmpC t' s' r' t'' s'' r''
        · go_wp2_with (go_at_call 15; refine (hlive.out.at_ _).mono ?_; rintro e wn ⟨rfl, hb⟩; have HBn := Lib.hid (ext_call HB.out hb); clear HB hb; have HB := HBn; clear HBn)
          go_ret
          exact ⟨rfl, HW.out.trans (HB.out.mono HW.out.size)⟩
        · have c3 := htr.out (by omega) (by omega)
          go_wp2_with (first | (go_at_call 11; refine (compare_any _ _ _ _ _ _ _).mono ?_; rintro e wn ⟨rfl, hb⟩; have HBn := Lib.hid (ext_call HB.out hb); clear HB hb; have HB := HBn; clear HBn) | (go_at_call 15; refine (hlive.out.at_ _).mono ?_; rintro e wn ⟨rfl, hb⟩; have HBn := Lib.hid (ext_call HB.out hb); clear HB hb; have HB := HBn; clear HBn))
          go_ret
          exact ⟨rfl, HW.out.trans (HB.out.mono HW.out.size)⟩
end Go.Proofs.Yteidbomkbddliaa.Csn
