/-
  lowered; the reference's Clean and UserCode.
-/
import Derived.Test.YtapooonlbjgbgaaDoorDvC2
import Derived.OwnWalk
import Derived.IntWalk
namespace Go.Proofs.YtapooonlbjgbgaaDoor.Dv
open Go.RowKit Go.Proofs.YtapooonlbjgbgaaDoor.Fo Go.Proofs.YtapooonlbjgbgaaDoor.Rf

theorem one_src (w : World) (x : Value) (T : TypeId) : ∀ j u, [x][j]? = some u → (w.alloc (.cells #[x] T)).cell? ((⟨w.heap.size, 0, none⟩ : Addr).add j) = some u := by
  intro j u hu
  cases j with
  | zero =>
    simp at hu
    subst hu
    simp [Addr.add, go_sem]
  | succ j => simp at hu
theorem one_one (c : UInt8) : ∀ u ∈ [Value.int .u8 (c.toNat : Int)], u.oneCell' = true := by
  intro u hu
  simp at hu
  subst hu
  rfl
/-- In lower case, without dashes. -/
def lwL (l : List UInt8) : List UInt8 := (l.map lowB).filter fun c => decide (c ≠ 45)
theorem lwL_step {l : List UInt8} {k : Nat} (h : k < l.length) : lwL (l.take (k + 1)) = if lowB (bAt l k) = 45 then lwL (l.take k) else lwL (l.take k) ++ [lowB (bAt l k)] := by
  unfold lwL
  rw [List.take_succ_eq_append_getElem h, List.map_append, List.filter_append, bAt_get l k h]
  by_cases e : lowB l[k] = 45
  · simp [e]
  · simp [e]
theorem lwL_len (l : List UInt8) : (lwL l).length ≤ l.length := by unfold lwL; exact Nat.le_trans (List.length_filter_le _ _) (by simp)
theorem u8_ne {c d : UInt8} : ((c.toNat : Int) == (d.toNat : Int)) = decide (c = d) := by
  rw [Bool.eq_iff_iff, beq_iff_eq, decide_eq_true_eq]
  exact ⟨fun h => UInt8.toNat_inj.1 (by omega), fun h => by rw [h]⟩
set_option maxRecDepth 100000 in
set_option maxHeartbeats 4000000 in
theorem lowered_any (s : Bs) (w : World) (hs : s.size ≤ 100000) :
    Calls Tryd.prog 33 #[.string s] w fun e w' => e = .returned (.string ⟨(lwL s.data.toList).toArray⟩) ∧ Below w.heap.size w w' := by
  obtain ⟨i0, hi, hz0, hz1, hz2⟩ := info_parts byte_info
  have HSZ := Lib.hid (show s.data.toList.length = s.size by simp)
  go_enter Tryd.func33, Tryd.ntmps33
  go_wp2
  go_loopw [3, 4, 5] (fun v i _ wr => ∃ (k m : Nat) (l : List UInt8) (A : Option Addr) (cc : Nat), k ≤ s.size ∧ i = .int .i64 k ∧ v = .slice A m cc ∧ m ≤ k ∧ Hid (l = lwL (s.data.toList.take k)) ∧ Hid (OwnS wr w.heap.size A m cc l) ∧ Below w.heap.size w wr) (fun _ i _ _ => s.size - (intOf i).toNat)
  case atStart => exact ⟨0, 0, [], none, 0, Nat.zero_le _, rfl, rfl, Nat.le_refl _, Lib.hid rfl, Lib.hid (OwnS.nil _ _), Below.refl _ _⟩
  case round =>
    obtain ⟨k, m, l, A, cc, hk, rfl, rfl, hmk, HL, HO, hb⟩ := hrel
    have HB := Lib.hid hb
    clear hb
    by_cases hlt : k < s.size
    · have hlk : k < s.data.toList.length := by rw [HSZ.out]; exact hlt
      have HT := Lib.hid (lwL_step hlk)
      obtain ⟨c, hc⟩ : ∃ c, c = s[k] := ⟨_, rfl⟩
      have hcc : bAt s.data.toList k = c := by rw [bAt_str s k hlt, hc]
      rw [hcc] at HT
      have HC := Lib.hid hc
      have hcl : c.toNat < 256 := c.toNat_lt
      have hbase : w.heap.size ≤ wr.heap.size := HB.out.size
      clear hcc
      cases hu : Fo.upB c with
      | true =>
        have h2 := lowB_up hu
        have hu2 : 65 ≤ c.toNat ∧ c.toNat ≤ 90 := by simpa [Fo.upB] using hu
        have hw1 : IntKind.u8.wrap ((c.toNat : Int) - 65) = (c.toNat : Int) - 65 := IntWalk.u8_in _ (by omega)
        have hw2 : IntKind.u8.wrap ((c.toNat : Int) - 65 + 97) = ((lowB c).toNat : Int) := by rw [h2, IntWalk.u8_in _ (by omega)]; omega
        have ha : (65 : Int) ≤ (c.toNat : Int) := by omega
        have hb : (c.toNat : Int) ≤ 90 := by omega
        have hne : ¬ ((lowB c).toNat : Int) = 45 := by omega
        have hneb : (((lowB c).toNat : Int) == 45) = false := beq_eq_false_iff_ne.2 hne
        have HN := Lib.hid (show lowB c ≠ 45 from fun e => hne (by rw [e]; rfl))
        rw [hc] at hw1 hw2 ha hb hne hneb
        clear hc h2 hu2 hcl hu
        go_wp2_with (at_builtin; go_must (refine wpList_append_own_at _ rfl (.tmp 26) (.tmp 28) _ rfl w.heap.size 5 i0 _ 1 1 Tryd.underlying61 hi hz0 hz1 hz2 rfl (by decide) (.slice A m cc) m (bytesV l) rfl (HO.out.row _) ⟨wr.heap.size, 0, none⟩ 1 1 [.int .u8 (((lowB s[k]).toNat : Int))] rfl rfl (one_src _ _ _) (one_one _) (by simp only [maxLen]; omega) (by omega) (by simp; omega) ?_); intro v' w1 hown1 hgrow hnil hat; have HB1 := Lib.hid (OwnS.grow (HO.out.row _) HB.out (Nat.le_refl _) hgrow); obtain ⟨A1, c1, rfl, hO1⟩ := OwnS.snoc HO.out.1 hown1; have HO1 := Lib.hid hO1; clear hown1 hgrow hnil hat hO1)
        go_roundw
        case rel => exact ⟨k + 1, m + 1, l ++ [lowB s[k]], A1, c1, by omega, by go_num, rfl, by omega, Lib.hid (by rw [HT.out, if_neg HN.out, HL.out, HC.out]), HO1, HB1.out⟩
        case measure => simp [intOf]; omega
      | false =>
        have hu2 : c.toNat < 65 ∨ 90 < c.toNat := by simp [Fo.upB] at hu; omega
        have hlb := lowB_no hu
        rw [hlb] at HT
        by_cases h45 : c = 45
        · have ha : ¬ (65 : Int) ≤ (c.toNat : Int) := by rw [h45]; decide
          have he : ((c.toNat : Int)) = 45 := by rw [h45]; rfl
          have heb : ((c.toNat : Int) == 45) = true := by rw [he]; rfl
          have HE := Lib.hid h45
          rw [hc] at ha he heb
          clear hc h45 hlb hu hu2 hcl
          go_wp2
          go_roundw
          case rel => exact ⟨k + 1, m, l, A, cc, by omega, by go_num, rfl, by omega, Lib.hid (by rw [HT.out, if_pos HE.out]; exact HL.out), HO, HB.out⟩
          case measure => simp [intOf]; omega
        · have hne : ¬ (c.toNat : Int) = 45 := fun e => h45 (UInt8.toNat_inj.1 (by have : (45 : UInt8).toNat = 45 := rfl; omega))
          have hneb : ((c.toNat : Int) == 45) = false := beq_eq_false_iff_ne.2 hne
          have HN := Lib.hid h45
          rcases hu2 with ha0 | ha0
          · have ha : decide ((65 : Int) ≤ (c.toNat : Int)) = false := by simp; omega
            rw [hc] at ha hne hneb
            clear hc ha0 hcl hu hlb h45
            go_wp2_with (at_builtin; go_must (refine wpList_append_own_at _ rfl (.tmp 26) (.tmp 28) _ rfl w.heap.size 5 i0 _ 1 1 Tryd.underlying61 hi hz0 hz1 hz2 rfl (by decide) (.slice A m cc) m (bytesV l) rfl (HO.out.row _) ⟨wr.heap.size, 0, none⟩ 1 1 [.int .u8 (((s[k]).toNat : Int))] rfl rfl (one_src _ _ _) (one_one _) (by simp only [maxLen]; omega) (by omega) (by simp; omega) ?_); intro v' w1 hown1 hgrow hnil hat; have HB1 := Lib.hid (OwnS.grow (HO.out.row _) HB.out (Nat.le_refl _) hgrow); obtain ⟨A1, c1, rfl, hO1⟩ := OwnS.snoc HO.out.1 hown1; have HO1 := Lib.hid hO1; clear hown1 hgrow hnil hat hO1)
            go_roundw
            case rel => exact ⟨k + 1, m + 1, l ++ [s[k]], A1, c1, by omega, by go_num, rfl, by omega, Lib.hid (by rw [HT.out, if_neg HN.out, HL.out, HC.out]), HO1, HB1.out⟩
            case measure => simp [intOf]; omega
          · have ha : decide ((65 : Int) ≤ (c.toNat : Int)) = true := by simp; omega
            have hb : decide ((c.toNat : Int) ≤ 90) = false := by simp; omega
            rw [hc] at ha hb hne hneb
            clear hc ha0 hcl hu hlb h45
            go_wp2_with (at_builtin; go_must (refine wpList_append_own_at _ rfl (.tmp 26) (.tmp 28) _ rfl w.heap.size 5 i0 _ 1 1 Tryd.underlying61 hi hz0 hz1 hz2 rfl (by decide) (.slice A m cc) m (bytesV l) rfl (HO.out.row _) ⟨wr.heap.size, 0, none⟩ 1 1 [.int .u8 (((s[k]).toNat : Int))] rfl rfl (one_src _ _ _) (one_one _) (by simp only [maxLen]; omega) (by omega) (by simp; omega) ?_); intro v' w1 hown1 hgrow hnil hat; have HB1 := Lib.hid (OwnS.grow (HO.out.row _) HB.out (Nat.le_refl _) hgrow); obtain ⟨A1, c1, rfl, hO1⟩ := OwnS.snoc HO.out.1 hown1; have HO1 := Lib.hid hO1; clear hown1 hgrow hnil hat hO1)
            go_roundw
            case rel => exact ⟨k + 1, m + 1, l ++ [s[k]], A1, c1, by omega, by go_num, rfl, by omega, Lib.hid (by rw [HT.out, if_neg HN.out, HL.out, HC.out]), HO1, HB1.out⟩
            case measure => simp [intOf]; omega
    · have e : k = s.size := by omega
      subst e
      have hcv := HO.out.str
      have HX := Lib.hid (show l = lwL s.data.toList by rw [HL.out, List.take_of_length_le (by rw [HSZ.out]; exact Nat.le_refl _)])
      go_wp2
      go_ret
      exact ⟨ret_str (by rw [HX.out]), HB.out⟩
end Go.Proofs.YtapooonlbjgbgaaDoor.Dv
