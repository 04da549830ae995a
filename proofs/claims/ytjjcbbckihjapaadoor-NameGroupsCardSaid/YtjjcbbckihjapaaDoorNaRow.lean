/-
  What the laws' rows of layer 5 share: the program's facts.
-/
import Derived.Test.YtjjcbbckihjapaaDoorNaLb
import Derived.Test.YtjjcbbckihjapaaDoorLawRow
import Derived.Test.YtjjcbbckihjapaaDoorCards
import Derived.Test.YtjjcbbckihjapaaDoorTie
import Derived.Deep.DeepHandedRow
import Derived.LaidMore
import Derived.Lay
import Derived.SevenTiedAt
import Derived.Shelf.LaysM
import Derived.ChangeMaps5
import Derived.SliceStrings
import Derived.Lib.SmallJoins
import Derived.Deep.Slices
import Derived.Deep.Strs
namespace Go.Proofs.YtjjcbbckihjapaaDoor.Na
open Go.ChangeShapes Go.WideShapes Go.ChangeAt Go.RowKit

theorem laid : laidOutB Tryd.prog = true := by kernel_rfl
theorem own : ownKnob Tryd.prog.godebug = none := by kernel_rfl
theorem readable (t : TypeId) (h : t = 9 ∨ t = 24 ∨ t = 36) : Tryd.prog.readableRec t = true ∧ t < Tryd.prog.types.size := by
  rcases h with rfl | rfl | rfl
  · exact ⟨by kernel_rfl, of_decide_eq_true (by kernel_rfl)⟩
  · exact ⟨by kernel_rfl, of_decide_eq_true (by kernel_rfl)⟩
  · exact ⟨by kernel_rfl, of_decide_eq_true (by kernel_rfl)⟩
theorem noStand (t : TypeId) (h : t = 9 ∨ t = 24 ∨ t = 36) : Tryd.pinned.checked.prog.wantsStandIn t = false := by
  rcases h with rfl | rfl | rfl
  · exact (show Tryd.prog.wantsStandIn 9 = false by kernel_rfl)
  · exact (show Tryd.prog.wantsStandIn 24 = false by kernel_rfl)
  · exact (show Tryd.prog.wantsStandIn 36 = false by kernel_rfl)
theorem cell_lt {w : World} {a : Addr} {u : Value} (h : w.cell? a = some u) : a.block < w.heap.size ∧ a.spot = none := by
  unfold World.cell? at h
  cases hb : w.heap[a.block]? with
  | none => simp [hb] at h
  | some o =>
    refine ⟨(Array.getElem?_eq_some_iff.1 hb).1, ?_⟩
    rw [hb] at h
    by_cases hs : a.spot.isSome
    · cases o <;> simp [hs] at h
    · simpa using hs
theorem add_plain (b off j : Nat) : (⟨b, off, none⟩ : Addr).add j = ⟨b, off + j, none⟩ := by unfold Addr.add; split <;> simp_all
theorem add_zero (a : Addr) : a.add 0 = a := by unfold Addr.add; simp

section
variable {H : Type} {enc : TypeId × Value → H} {w : World} {base : Nat} {spare : Nat → Bool} {held : Bool}
/-- A pair that came in. -/
theorem open_pair {b0 : Nat} {v : Value} {d : DataW H} {p : List MemPlace} (hv : Value.okWide Tryd.prog w .any b0 36 v) (h : DataW.Trod enc Tryd.prog w base spare held 36 v d p) :
    ∃ x y : ByteArray, v = .agg #[.string x, .string y] := by
  obtain ⟨v0, v1, y0, y1, n, rfl, _, _, h0, h1⟩ := Joins.open_agg2 Tryd.underlying36 (by kernel_rfl) (by kernel_rfl) hv h
  obtain ⟨a, ha, _⟩ := DataW.trod_string Tryd.underlying9 h0
  obtain ⟨b, hb, _⟩ := DataW.trod_string Tryd.underlying9 h1
  injection ha with ha
  injection hb with hb
  subst ha; subst hb
  exact ⟨a, b, rfl⟩
/-- A slice of pairs that came in. -/
theorem open_ps {b0 : Nat} {v : Value} {d : DataW H} {p : List MemPlace} (hv : Value.okWide Tryd.prog w .any b0 24 v) (h : DataW.Trod enc Tryd.prog w 0 (fun _ => true) true 24 v d p) :
    ∃ (A : Option Addr) (n c : Nat) (l : List B2), v = .slice A n c ∧ Ps w A n c l ∧ n ≤ 9223372036854775807 := by
  obtain ⟨A, n, c, rfl⟩ := okWide_slice Tryd.underlying24 hv
  obtain ⟨fuel, hf⟩ := h
  rcases Deep.open_slice Tryd.underlying24 hf with ⟨hcs, _⟩ | ⟨a, len, cap, m, n', D, Pl, hcs, _, hlc, hcm, hm, _, hel⟩
  · simp [Value.cells] at hcs
    obtain ⟨rfl, rfl, rfl⟩ := hcs
    exact ⟨none, 0, 0, [], rfl, Ps.nil _ _, by omega⟩
  · simp [Value.cells] at hcs
    obtain ⟨rfl, rfl, rfl⟩ := hcs
    simp only [if_true] at hm
    unfold maxLen at hcm
    have hC : Tryd.prog.cellsOf 36 = 2 := by kernel_rfl
    have key : ∀ i, ∃ x : B2, i < n → w.cell? (a.add (i * 2)) = some (.string x.1) ∧ w.cell? ((a.add (i * 2)).add 1) = some (.string x.2) := by
      intro i
      by_cases hi : i < n
      · obtain ⟨cs', hc, ht⟩ := hel i (by omega)
        rw [hC] at hc
        obtain ⟨_, hlen, hget⟩ := World.cells?_some hc
        obtain ⟨y0, y1, k, _, _, h0, h1⟩ := ChangeShapes.trod_struct2 Tryd.underlying36 ht
        match cs', hlen with
        | [u0, u1], _ =>
          have e0 : Tryd.prog.cellsOf 9 = 1 := by kernel_rfl
          simp only [e0, List.drop_zero, List.take_succ_cons, List.take_zero, List.drop_succ_cons] at h0 h1
          obtain ⟨x0, hx0, _⟩ := DataW.trod_string Tryd.underlying9 h0
          obtain ⟨x1, hx1, _⟩ := DataW.trod_string Tryd.underlying9 h1
          injection hx0 with hx0
          injection hx1 with hx1
          refine ⟨(x0, x1), fun _ => ⟨?_, ?_⟩⟩
          · have := hget 0 (by decide)
            rw [add_zero] at this
            rw [this, ← hx0]; rfl
          · rw [hget 1 (by decide), ← hx1]; rfl
      · exact ⟨(⟨#[]⟩, ⟨#[]⟩), fun h => absurd h hi⟩
    obtain ⟨f, hf2⟩ := Classical.axiomOfChoice key
    refine ⟨some a, n, c, (List.range n).map f, rfl, ⟨by simp, hlc, fun hn => ?_⟩, by omega⟩
    have h00 := (hf2 0 hn).1
    have hl := cell_lt h00
    rw [Nat.zero_mul, add_zero] at hl
    obtain ⟨b, off, sp⟩ := a
    simp only at hl
    obtain ⟨hl1, rfl⟩ := hl
    refine ⟨b, off, rfl, hl1, fun i hi => ?_⟩
    obtain ⟨k0, k1⟩ := hf2 i hi
    rw [add_plain] at k0
    rw [add_plain, add_plain] at k1
    have e : ((List.range n).map f).getD i (⟨#[]⟩, ⟨#[]⟩) = f i := by simp [List.getD, hi]
    unfold pX pY
    rw [e]
    exact ⟨k0, k1⟩
end
end Go.Proofs.YtjjcbbckihjapaaDoor.Na
