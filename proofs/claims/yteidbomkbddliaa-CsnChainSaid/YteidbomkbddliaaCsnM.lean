/-
  The walks of layer 15: with.
-/
import Derived.Test.YteidbomkbddliaaCsnK
namespace Go.Proofs.Yteidbomkbddliaa.Csn
open Go.RowKit

set_option maxHeartbeats 2000000 in
/-- Insert into nil. -/
theorem insert_nil (w : World) (base gv : Nat) (x : C) (hw : base ≤ w.heap.size) (hv : w.heap[gv]? = some (.cells (ovl x).toArray 23 (0, 0))) :
    Calls Try.prog 56 #[.slice none 0 0, .int .i64 0, .slice (some ⟨gv, 0, none⟩) 1 1] w (IsOwn w base [x]) := by
  obtain ⟨i0, hi, hz0, hz1, hz2⟩ := info_parts csn_info
  have HS := Lib.hid (show ∀ j u, (ovl x)[j]? = some u → w.cell? ((⟨gv, 0, none⟩ : Addr).add j) = some u from fun j u hu => by
    have hadd : (⟨gv, 0, none⟩ : Addr).add j = ⟨gv, j, none⟩ := by unfold Addr.add; split <;> simp_all
    rw [hadd]
    simp [World.cell?, hv]
    exact hu)
  clear hv
  go_enter Try.func56, Try.ntmps56
  go_wp2_with (at_builtin; refine wpList_append_own_at _ rfl (.tmp 23) (.tmp 24) _ rfl base 23 i0 _ 3 24 Try.underlying39 hi hz0 hz1 hz2 rfl (by decide) (.slice none 0 0) 0 [] rfl (World.ownsRow_nil _ _ _ _) ⟨gv, 0, none⟩ 1 1 (ovl x) rfl rfl HS.out (ovl_one x) (by simp only [maxLen]; omega) (by omega) hw ?_; intro v' w1 hown1 hgrow hnil hat)
  have hO : Own w1 base v' [x] := by rw [Own]; exact hown1
  obtain ⟨A', c', rfl⟩ := hO.form
  go_wp2
  go_ret
  exact ⟨A', c', rfl, hO, (Below.refl _ _).grown hgrow hw (fun k hk => by simp [Value.ownBlock] at hk)⟩

theorem insert_any (w : World) (base c gv i : Nat) (A : Option Addr) (l : List C) (x : C) (ho : Own w base (.slice A l.length c) l) (hw : base ≤ w.heap.size) (hn : l.length ≤ 100) (hi : i ≤ l.length)
    (hv : w.heap[gv]? = some (.cells (ovl x).toArray 23 (0, 0))) (hne : A ≠ some ⟨gv, 0, none⟩) :
    Calls Try.prog 56 #[.slice A l.length c, .int .i64 (i : Int), .slice (some ⟨gv, 0, none⟩) 1 1] w (IsOwn w base (insAt l i x)) := by
  rcases ho.2 with ⟨hA, h0⟩ | ⟨g, cap, cur, hA, hg, hh, hnc, hcm, hcs, ht⟩
  · injection hA with e1 e2 e3
    subst e1
    subst e3
    have hl : l = [] := List.eq_nil_of_length_eq_zero h0
    subst hl
    have : i = 0 := by simpa using hi
    subst this
    exact insert_nil w base gv x hw hv
  · injection hA with e1 e2 e3
    subst e1
    subst e3
    have hgv : gv ≠ g := fun e => hne (by rw [e])
    have ia : InsArgs w base g c gv l x cur.toList := ⟨hg, hh, hnc, hcm, by simpa using hcs, ht, hv, hgv⟩
    rcases Nat.lt_or_ge i l.length with h1 | h1
    · rcases Nat.lt_or_ge l.length c with h2 | h2
      · exact insert_room w base g c gv i l x cur.toList ia (Array.getElem?_eq_some_iff.1 hh).1 hn h1 h2
      · exact insert_grow w base g c gv i l x cur.toList ia hw (Array.getElem?_eq_some_iff.1 hh).1 hn h1 (by omega)
    · have : i = l.length := by omega
      subst this
      exact insert_end w base g c gv l x cur.toList ia hw hn

theorem Own.below {w w' : World} {base : Nat} {v : Value} {l : List C} (h : Own w base v l) (hb : Below w.heap.size w w') : Own w' base v l :=
  World.ownsRow.kept (row := none) h ⟨hb.os, hb.tape, hb.output, hb.size, fun k hk _ => hb.block k hk⟩ (by cases v.ownBlock <;> simp)
theorem flat_set (l : List C) (i : Nat) (x : C) : flat (l.set i x) = (((flat l).set (i * 3) (.int .i64 x.1)).set (i * 3 + 1) (.int .i64 x.2.1)).set (i * 3 + 2) (.int .i64 x.2.2) := by
  induction l generalizing i with
  | nil => simp [flat]
  | cons y r ih =>
    cases i with
    | zero => simp [flat]
    | succ i =>
      have e : (i + 1) * 3 = i * 3 + 1 + 1 + 1 := by omega
      rw [e]
      simp [flat, ih]
theorem Own.store3 {w : World} {base g c n i : Nat} {l : List C} (x : C) (hn : l.length = n) (h : Own w base (.slice (some ⟨g, 0, none⟩) n c) l) :
    Own (((w.setCell ⟨g, i * 3, none⟩ (.int .i64 x.1)).setCell ⟨g, i * 3 + 1, none⟩ (.int .i64 x.2.1)).setCell ⟨g, i * 3 + 2, none⟩ (.int .i64 x.2.2)) base (.slice (some ⟨g, 0, none⟩) n c) (l.set i x) := by
  subst hn
  unfold Own at *
  rw [flat_set, List.length_set]
  exact ((((h.stored (i * 3) (.int .i64 x.1)).1).stored (i * 3 + 1) (.int .i64 x.2.1)).1.stored (i * 3 + 2) (.int .i64 x.2.2)).1

/-- One number into a vector. -/
def insC (l : List C) (x : C) : List C :=
  if fnd l x.2.2 then (if cmpC (cT l (lb l x.2.2)) (cS l (lb l x.2.2)) (cR l (lb l x.2.2)) x.1 x.2.1 x.2.2 < 0 then l.set (lb l x.2.2) x else l)
  else insAt l (lb l x.2.2) x
theorem lb_le (l : List C) (k : Int) : lb l k ≤ l.length := by
  induction l with
  | nil => simp [lb]
  | cons x r ih => simp only [lb]; split <;> simp <;> omega
theorem insC_length (l : List C) (x : C) : (insC l x).length ≤ l.length + 1 := by
  unfold insC
  split
  · split <;> simp
  · rw [insAt_length _ _ _ (lb_le _ _)]; exact Nat.le_refl _
theorem foldl_insC_length (b a : List C) : (b.foldl insC a).length ≤ a.length + b.length := by
  induction b generalizing a with
  | nil => simp
  | cons x r ih => have := ih (insC a x); have := insC_length a x; simp only [List.foldl_cons, List.length_cons]; omega
end Go.Proofs.Yteidbomkbddliaa.Csn
