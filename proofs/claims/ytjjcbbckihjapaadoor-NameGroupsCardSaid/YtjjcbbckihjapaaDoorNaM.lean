/-
  The walks of layer 5: slices.Equal, last.
-/
import Derived.Test.YtjjcbbckihjapaaDoorNaL
import Derived.Laws.StructEq
namespace Go.Proofs.YtjjcbbckihjapaaDoor.Na
open Go.RowKit Go.Proofs.YtjjcbbckihjapaaDoor.Fo

theorem neq_pair (a b c d : ByteArray) (w : World) : (binOp .neq 36 (.agg #[.string a, .string b]) (.agg #[.string c, .string d])).run Tryd.prog w = .ok (.bool (!(a.toList == c.toList && b.toList == d.toList))) w := by
  have u9 := Tryd.underlying9
  have a9 := Tryd.isAgg9
  have z9 := Tryd.sizeOf9
  have hS : Tryd.prog.underlying 36 = some (.struct (Tryd.prog.fieldsOf 36)) := by kernel_rfl
  have hp : Tryd.prog.stoodInHeld 36 = false := by kernel_rfl
  rw [run_neq_struct, show (10000 : Nat) = 9999 + 1 from rfl, run_equalIn_agg w 9999 36 _ _ hS hp]
  simp only [Program.fieldsOf, Tryd.underlying36]
  go_simp
  by_cases h1 : a.toList = c.toList <;> by_cases h2 : b.toList = d.toList <;> simp [h1, h2]
set_option maxHeartbeats 2000000 in
theorem equal_any (w : World) (A B : Option Addr) (n c m d : Nat) (l k : List B2) (hl : Ps w A n c l) (hk : Ps w B m d k) (hn : n ≤ 1000) (hm : m ≤ 1000) :
    Calls Tryd.prog 71 #[.slice A n c, .slice B m d] w fun e w' => e = .returned (.bool (decide (prL l = prL k))) ∧ Below w.heap.size w w' := by
  have HL := Lib.hid hl
  have HK := Lib.hid hk
  have HN := Lib.hid hl.1
  have HM := Lib.hid hk.1
  clear hl hk
  by_cases hnm : n = m
  · subst hnm
    go_enter Tryd.func71, Tryd.ntmps71
    go_wp2
    go_loopw [13, 4] (fun i _ wr => ∃ j : Nat, i = .int .i64 j ∧ j ≤ n ∧ Hid (∀ q, q < j → pX l q = pX k q ∧ pY l q = pY k q) ∧ Below w.heap.size w wr) (fun i _ _ => n - (intOf i).toNat)
    case atStart => exact ⟨0, rfl, Nat.zero_le _, (fun q hq => absurd hq (by omega)), Below.refl _ _⟩
    case round =>
      obtain ⟨j, rfl, hj, HI, hb⟩ := hrel
      have HB := Lib.hid hb
      have hLw := HL.out.below hb
      have hKw := HK.out.below hb
      by_cases hlt : j < n
      · obtain ⟨b, off, rfl, hbl, hc⟩ := hLw.2.2 (by omega)
        obtain ⟨b', off', rfl, hbl', hc'⟩ := hKw.2.2 (by omega)
        obtain ⟨x0, x1⟩ := hc j hlt
        obtain ⟨y0, y1⟩ := hc' j hlt
        clear hc hc' hb hLw hKw
        have hq := fun w => neq_pair (pX l j) (pY l j) (pX k j) (pY k j) w
        go_wp2_with fail
        go_quiet (fail)
        by_cases h1 : pX l j = pX k j ∧ pY l j = pY k j
        · have HI2 := Lib.hid (show ∀ q, q < j + 1 → pX l q = pX k q ∧ pY l q = pY k q from fun q hq => if e : q = j then by rw [e]; exact h1 else HI.out q (by omega))
          have hq2 : ((!(pX l j).toList == (pX k j).toList) || !(pY l j).toList == (pY k j).toList) = false := by rw [h1.1, h1.2]; simp
          rw [hq2]
          clear h1 hq hq2
          go_wp2
          go_roundw
          case rel => exact ⟨j + 1, by go_num, by omega, HI2.out, below_drewN HB.out _⟩
          case measure => simp [intOf]; omega
        · have HR := Lib.hid (show decide (prL l = prL k) = false by
            rw [decide_eq_false_iff_not]
            intro e
            have := prL_inj e
            subst this
            exact h1 ⟨rfl, rfl⟩)
          have hq2 : ((!(pX l j).toList == (pX k j).toList) || !(pY l j).toList == (pY k j).toList) = true := by
            rw [Lib.toList_data, Lib.toList_data, Lib.toList_data, Lib.toList_data]
            by_cases e1 : (pX l j).data = (pX k j).data
            · by_cases e2 : (pY l j).data = (pY k j).data
              · exact absurd ⟨ByteArray.ext e1, ByteArray.ext e2⟩ h1
              · simp [e2]
            · simp [e1]
          rw [hq2]
          clear h1 hq hq2
          go_wp2
          go_ret
          exact ⟨ret_bool HR.out.symm, below_drewN HB.out _⟩
      · have HR := Lib.hid (show decide (prL l = prL k) = true by
          rw [decide_eq_true_eq]
          congr 1
          refine List.ext_getElem (by rw [HN.out, HM.out]) fun i h1 h2 => ?_
          rw [b2_at l i h1, b2_at k i h2]
          have := HI.out i (by have := HN.out; omega)
          rw [this.1, this.2])
        clear hb hLw hKw
        go_wp2
        go_ret
        exact ⟨ret_bool HR.out.symm, HB.out⟩
  · have HR := Lib.hid (show decide (prL l = prL k) = false by
      rw [decide_eq_false_iff_not]
      intro e
      have := congrArg List.length e
      rw [prL_length, prL_length, HN.out, HM.out] at this
      exact hnm this)
    go_enter Tryd.func71, Tryd.ntmps71
    go_wp2
    go_ret
    exact ⟨ret_bool HR.out.symm, Below.refl _ _⟩
end Go.Proofs.YtjjcbbckihjapaaDoor.Na
