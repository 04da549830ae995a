/-
  The walk of the law CsnNext, live taken as a hypothesis.
-/
import Derived.Test.YteidbomkbddliaaCsnY
namespace Go.Proofs.Yteidbomkbddliaa.Csn
open Go.RowKit

theorem box_at {w0 w' : World} {t s r : Int} {T : TypeId} (h : Below (w0.alloc (.cells #[.int .i64 t, .int .i64 s, .int .i64 r] T)).heap.size (w0.alloc (.cells #[.int .i64 t, .int .i64 s, .int .i64 r] T)) w') :
    w0.heap.size < w'.heap.size ∧ w'.cell? ⟨w0.heap.size, 0, none⟩ = some (.int .i64 t) ∧ w'.cell? ⟨w0.heap.size, 1, none⟩ = some (.int .i64 s) ∧ w'.cell? ⟨w0.heap.size, 2, none⟩ = some (.int .i64 r) := by
  have hl : w0.heap.size < (w0.alloc (.cells #[.int .i64 t, .int .i64 s, .int .i64 r] T)).heap.size := by simp
  refine ⟨Nat.lt_of_lt_of_le hl h.size, ?_, ?_, ?_⟩ <;> (rw [bkeep h hl]; simp [go_sem])

set_option maxRecDepth 100000 in
set_option maxHeartbeats 8000000 in
theorem nextLaw_any (hlive0 : LiveOk) (t s r now rep : Int) (w : World) :
    Calls Try.prog 5 #[.agg #[.int .i64 t, .int .i64 s, .int .i64 r], .int .i64 now, .int .i64 rep] w fun e w' => e = .returned (.bool true) ∧ Below w.heap.size w w' := by
  have hlive := Lib.hid hlive0
  clear hlive0
  have hlaw := next_law (t := t) (s := s) (r := r) (now := now) (rep := rep)
  have hn1 := next_any t s r now rep
  have hn2 := rnext_any t s r now rep
  generalize nextC t s r now rep = N at *
  obtain ⟨⟨a, b, d⟩, e0⟩ := N
  simp only at hlaw hn1 hn2
  have HLAW := Lib.hid hlaw
  have HN1 := Lib.hid hn1
  have HN2 := Lib.hid hn2
  clear hlaw hn1 hn2
  go_enter Try.func5, Try.ntmps5
  go_wp2_with fail
  refine (HN1.out _).mono ?_
  rintro e w1 ⟨rfl, hb1⟩
  have HL := Lib.hid hb1
  obtain ⟨g0, x0, x1, x2⟩ := box_at HL.out
  have HB := Lib.hid (((Below.refl w.heap.size w).alloc (Nat.le_refl _) (.cells #[.int .i64 t, .int .i64 s, .int .i64 r] 23)).trans (hb1.mono (by simp)))
  clear hb1
  go_wp2_with fail
  refine (HN2.out _).mono ?_
  rintro e w2 ⟨rfl, hb2⟩
  have HC := Lib.hid hb2
  have HLa := Lib.hid (ext_new HL.out hb2)
  have HBa := Lib.hid (ext_new HB.out hb2)
  obtain ⟨g1, y0, y1, y2⟩ := box_at HC.out
  obtain ⟨g2, z0, z1, z2⟩ := box_at HLa.out
  clear hb2 x0 x1 x2
  by_cases h0 : e0 = 0
  · subst h0
    obtain ⟨hv, hc, rfl⟩ := HLAW.out rfl
    go_wp2_with fail
    refine (valid_any _ _ _ _).mono ?_
    rintro e w3 ⟨rfl, hb3⟩
    have HCa := Lib.hid (ext_new HC.out hb3)
    have HBb := Lib.hid (ext_new HBa.out hb3)
    have HLb := Lib.hid (ext_new HLa.out hb3)
    obtain ⟨g3, u0, u1, u2⟩ := box_at HCa.out
    obtain ⟨g4, v0, v1, v2⟩ := box_at HLb.out
    clear hb3 y0 y1 y2 z0 z1 z2
    go_wp2_with fail
    refine (compare_any _ _ _ _ _ _ _).mono ?_
    rintro e w4 ⟨rfl, hb4⟩
    have HBc := Lib.hid (ext_call HBb.out hb4)
    have HCb := Lib.hid (ext_call HCa.out hb4)
    obtain ⟨g5, p0, p1, p2⟩ := box_at HCb.out
    clear hb4 u0 u1 u2 v0 v1 v2
    go_wp2_with fail
    refine (hlive.out _).mono ?_
    rintro e w5 ⟨rfl, hb5⟩
    have HBd := Lib.hid (ext_call HBc.out hb5)
    clear hb5
    go_wp2
    go_ret
    exact ⟨rfl, HBd.out⟩
  · have he : (e0 != 0) = true := by simpa using h0
    have he2 : (e0 == 0) = false := by simpa using h0
    have H0 := Lib.hid h0
    clear h0
    go_wp2_with fail
    refine (hlive.out _).mono ?_
    rintro e w5 ⟨rfl, hb5⟩
    have HBd := Lib.hid (ext_new HBa.out hb5)
    clear hb5
    go_wp2
    go_ret
    exact ⟨rfl, HBd.out⟩
end Go.Proofs.Yteidbomkbddliaa.Csn
