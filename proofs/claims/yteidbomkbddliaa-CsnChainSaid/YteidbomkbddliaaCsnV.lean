/-
  The walks of layer 15: Check and what stands on it.
-/
import Derived.Test.YteidbomkbddliaaCsnS
import Derived.Shelf.Abstract
import Derived.IntWalk
namespace Go.Proofs.Yteidbomkbddliaa.Csn
open Go.RowKit

theorem enters45 : ∀ args w, (callFunc 45 args).run Try.prog w = .ok (.enter 45 args) w := enters_of Try.func45 (by kernel_rfl) rfl
theorem enters48 : ∀ args w, (callFunc 48 args).run Try.prog w = .ok (.enter 48 args) w := enters_of Try.func48 (by kernel_rfl) rfl

/-- What Check's loop holds. -/
def ChkRel (w : World) (l : List C) (n k : Nat) (wr : World) : Prop := k ≤ n ∧ chkN l (n - k) = chk l ∧ Below w.heap.size w wr

set_option maxHeartbeats 4000000 in
theorem check_any (w : World) (A : Option Addr) (n c : Nat) (l : List C) (hs : Sl w A n c l) (hn : n ≤ 1000) :
    Calls Try.prog 25 #[.slice A n c] w fun e w' => e = .returned (.int .i64 (chk l)) ∧ Below w.heap.size w w' := by
  have HS := Lib.hid hs
  clear hs
  go_enter Try.func25, Try.ntmps25
  go_wp2
  go_loopw [3, 4, 7] (fun _ _ i wr => ∃ k : Nat, i = .int .i64 k ∧ ChkRel w l n k wr) (fun _ _ i _ => n - (intOf i).toNat)
  case atStart => exact ⟨0, rfl, Nat.zero_le _, by rw [chk, HS.out.1]; rfl, Below.refl _ _⟩
  case round =>
    obtain ⟨k, rfl, hk, hx, hb⟩ := hrel
    have HX := Lib.hid hx
    have HB := Lib.hid hb
    have hsz := hb.size
    clear hb hx
    by_cases hlt : k < n
    · have hslr := HS.out.below HB.out
      obtain ⟨b, off, rfl, hbl, hc⟩ := hslr.2.2 (by omega)
      have HSR := Lib.hid hslr
      have hnc := hslr.2.1
      have HST := Lib.hid (chkN_step l k (by rw [HS.out.1]; exact hlt))
      obtain ⟨c0, c1, c2⟩ := hc k hlt
      have HC := Lib.hid hc
      clear hc hslr
      go_upto_region 4 with fail
      go_cut [12, 4] (fun s12 s4 wx => s4 = .pointer (some ⟨wr.heap.size, 0, none⟩) ∧ s12 = .bool (!(vld (cT l k) (cS l k) (cR l k))) ∧ Below wr.heap.size wr wx ∧ wr.heap.size < wx.heap.size ∧ wx.cell? ⟨wr.heap.size, 2, none⟩ = some (.int .i64 (cR l k)))
      case first =>
        go_wp2_with (go_at_call 12; refine (valid_any _ _ _ _).mono ?_; rintro e w1 ⟨rfl, hb1⟩)
        go_meet
        exact ⟨rfl, rfl, ((Below.refl _ _).alloc (Nat.le_refl _) _).trans (hb1.mono (by simp)), by have := hb1.size; simp at this; omega, by rw [bkeep hb1 (by simp)]; simp [go_sem]⟩
      case rest =>
        obtain ⟨wa, rfl⟩ : ∃ wa : World, wa = wc := ⟨_, rfl⟩
        obtain ⟨rfl, rfl, hb1, hg, h2⟩ := hcut
        have HB1 := Lib.hid (HB.out.trans (hb1.mono hsz))
        cases hv : vld (cT l k) (cS l k) (cR l k) with
        | false =>
          have HF := Lib.hid (show chk l = 2 by rw [← HX.out, ← HS.out.1, HST.out, if_pos hv])
          go_wp2
          go_ret
          exact ⟨ret_int HF.out.symm, HB1.out⟩
        | true =>
          have HV := Lib.hid hv
          have k1 := bkeep hb1 hbl
          have HSW := Lib.hid ((HSR.out.below hb1).take (k := k) (by omega))
          have hgs := hb1.size
          clear hb1
          go_upto_region 6 with fail
          go_cut [16] (fun s16 wx => s16 = .bool ((l.take k).any (fun x => x.2.2 == cR l k)) ∧ Below wa.heap.size wa wx)
          case first =>
            have HCF := Lib.hid (containsFunc_any 45 #[.pointer (some ⟨wr.heap.size, 0, none⟩)] (fun x => x.2.2 == cR l k) wa _ _ _ _ HSW.out (by omega) enters45 (fun t s r w' hb' => checkFn_any t s r (cR l k) wr.heap.size w' (Nat.lt_of_lt_of_le hg hb'.size) (by rw [bkeep hb' hg]; exact h2)))
            go_wp2_with (go_at_call 44; refine HCF.out.mono ?_; rintro e w1 ⟨rfl, hb2⟩)
            go_meet
            exact ⟨rfl, hb2⟩
          case rest =>
            obtain ⟨rfl, hb2⟩ := hcut
            cases hy : (l.take k).any (fun x => x.2.2 == cR l k) with
            | true =>
              have HF := Lib.hid (show chk l = 7 by rw [← HX.out, ← HS.out.1, HST.out, if_neg (by simp [HV.out]), if_pos hy])
              have HB2 := Lib.hid (HB1.out.trans (hb2.mono (by omega)))
              clear hy hb2
              go_wp2
              go_ret
              exact ⟨ret_int HF.out.symm, HB2.out⟩
            | false =>
              have HY := Lib.hid hy
              have HB2 := Lib.hid (HB1.out.trans (hb2.mono (by omega)))
              have h4 := (bkeep hb2 hg 2).trans h2
              have q1 := bkeep hb2 (Nat.lt_of_lt_of_le hbl hgs)
              clear hy hb2
              by_cases hk0 : k = 0
              · have HF := Lib.hid (show chkN l (n - (k + 1)) = chk l by rw [← HX.out, ← HS.out.1, HST.out, if_neg (by simp [HV.out]), if_neg (by simp [HY.out]), if_neg (by omega)])
                subst hk0
                go_wp2
                go_quiet (fail)
                go_wp2
                go_roundw
                case rel => exact ⟨1, by go_num, by omega, HF.out, below_drewN HB2.out _⟩
                case measure => simp [intOf]; omega
              · have hq := (HC.out (k - 1) (by omega)).2.2
                by_cases hl2 : cR l k < cR l (k - 1)
                · have HF := Lib.hid (show chk l = 4 by rw [← HX.out, ← HS.out.1, HST.out, if_neg (by simp [HV.out]), if_neg (by simp [HY.out]), if_pos ⟨by omega, hl2⟩])
                  have hkp : decide (0 < k) = true := by simp; omega
                  have hkp2 : (1 : Int) ≤ (k : Int) := by omega
                  have hkp3 : (0 : Int) ≤ (k : Int) - 1 := by omega
                  have hkp4 : (k : Int) - 1 < (n : Int) := by omega
                  have hkw : IntKind.i64.wrap ((k : Int) - 1) = (k : Int) - 1 := IntWalk.i64_in _ (by omega)
                  have hkn : ((k : Int) - 1).toNat = k - 1 := by omega
                  go_wp2
                  go_quiet (fail)
                  go_wp2
                  go_ret
                  exact ⟨ret_int HF.out.symm, below_drewN HB2.out _⟩
                · have HF := Lib.hid (show chkN l (n - (k + 1)) = chk l by rw [← HX.out, ← HS.out.1, HST.out, if_neg (by simp [HV.out]), if_neg (by simp [HY.out]), if_neg (by omega)])
                  have hkp : decide (0 < k) = true := by simp; omega
                  have hkp2 : (1 : Int) ≤ (k : Int) := by omega
                  have hkp3 : (0 : Int) ≤ (k : Int) - 1 := by omega
                  have hkp4 : (k : Int) - 1 < (n : Int) := by omega
                  have hkw : IntKind.i64.wrap ((k : Int) - 1) = (k : Int) - 1 := IntWalk.i64_in _ (by omega)
                  have hkn : ((k : Int) - 1).toNat = k - 1 := by omega
                  go_wp2
                  go_quiet (fail)
                  go_wp2
                  go_roundw
                  case rel => exact ⟨k + 1, by go_num, by omega, HF.out, below_drewN HB2.out _⟩
                  case measure => simp [intOf]; omega
    · have HE := Lib.hid (show chk l = 0 by rw [← HX.out, show n - k = 0 by omega]; rfl)
      go_wp2
      go_ret
      exact ⟨ret_int HE.out.symm, HB.out⟩

theorem any_take_succ (l : List C) (p : C → Bool) (q : Nat) (hq : q < l.length) : (l.take (q + 1)).any p = ((l.take q).any p || p (cAt l q)) := by
  rw [List.take_succ_eq_append_getElem hq, List.any_append]
  simp [cAt, List.getD, List.getElem?_eq_getElem hq]
theorem any_take_hit (l : List C) (p : C → Bool) (q k : Nat) (hq : q < k) (hk : k ≤ l.length) (h : p (cAt l q) = true) : (l.take k).any p = true := by
  rw [List.any_eq_true]
  have hl : q < l.length := by omega
  refine ⟨l[q], ?_, by simpa [cAt, List.getD, List.getElem?_eq_getElem hl] using h⟩
  rw [List.mem_iff_getElem?]
  exact ⟨q, by rw [List.getElem?_take, if_pos hq, List.getElem?_eq_getElem hl]⟩

set_option maxHeartbeats 4000000 in
theorem rcheck_any (w : World) (A : Option Addr) (n c : Nat) (l : List C) (hs : Sl w A n c l) (hn : n ≤ 1000) :
    Calls Try.prog 26 #[.slice A n c] w fun e w' => e = .returned (.int .i64 (chk l)) ∧ Below w.heap.size w w' := by
  have HS := Lib.hid hs
  clear hs
  go_enter Try.func26, Try.ntmps26
  go_wp2
  go_loopw [3, 4] (fun i _ wr => ∃ k : Nat, i = .int .i64 k ∧ ChkRel w l n k wr) (fun i _ _ => n - (intOf i).toNat)
  case atStart => exact ⟨0, rfl, Nat.zero_le _, by rw [chk, HS.out.1]; rfl, Below.refl _ _⟩
  case round =>
    obtain ⟨k, rfl, hk, hx, hb⟩ := hrel
    obtain ⟨wa, rfl⟩ : ∃ wa : World, wa = wr := ⟨_, rfl⟩
    have HX := Lib.hid hx
    have HB := Lib.hid hb
    have hsz := hb.size
    clear hb hx
    by_cases hlt : k < n
    · have hslr := HS.out.below HB.out
      obtain ⟨b, off, rfl, hbl, hc⟩ := hslr.2.2 (by omega)
      have hnc := hslr.2.1
      have HST := Lib.hid (chkN_step l k (by rw [HS.out.1]; exact hlt))
      obtain ⟨c0, c1, c2⟩ := hc k hlt
      have HC := Lib.hid hc
      clear hc hslr
      cases hv : vld (cT l k) (cS l k) (cR l k) with
      | false =>
        have HF := Lib.hid (show chk l = 2 by rw [← HX.out, ← HS.out.1, HST.out, if_pos hv])
        go_wp2_with (go_at_call 13; refine (rvalid_any _ _ _ _).mono ?_; rintro e w1 ⟨rfl, hb1⟩; have HB1 := Lib.hid (HB.out.trans (hb1.mono hsz)); clear hb1)
        go_ret
        exact ⟨ret_int HF.out.symm, HB1.out⟩
      | true =>
        have HV := Lib.hid hv
        go_wp2_with (go_at_call 13; refine (rvalid_any _ _ _ _).mono ?_; rintro e w1 ⟨rfl, hb1⟩; have HB1 := Lib.hid (HB.out.trans (hb1.mono hsz)); have q1 := bkeep hb1 hbl; clear hb1)
        go_loopw [4] (fun j wx => ∃ q : Nat, j = .int .i64 q ∧ q ≤ k ∧ (∃ nd, wx = w1.drewN nd) ∧ Hid ((l.take q).any (fun x => x.2.2 == cR l k) = false)) (fun j _ => k - (intOf j).toNat)
        case atStart => exact ⟨0, rfl, Nat.zero_le _, ⟨0, rfl⟩, rfl⟩
        case round =>
          obtain ⟨q, rfl, hqk, ⟨nd, rfl⟩, hno⟩ := hrel
          by_cases hlt2 : q < k
          · have d2 := (HC.out q (by omega)).2.2
            by_cases he : cR l q = cR l k
            · have HF := Lib.hid (show chk l = 7 by rw [← HX.out, ← HS.out.1, HST.out, if_neg (by simp [HV.out]), if_pos (any_take_hit l _ q k hlt2 (by rw [HS.out.1]; omega) (by simp [cAt_eq, he]))])
              have he2 : (cR l q == cR l k) = true := by simpa using he
              have HE := Lib.hid he
              clear he
              go_wp2
              go_quiet (fail)
              go_wp2
              go_ret
              exact ⟨ret_int HF.out.symm, below_drewN (below_drewN HB1.out _) _⟩
            · have HN := Lib.hid (show (l.take (q + 1)).any (fun x => x.2.2 == cR l k) = false by rw [any_take_succ _ _ _ (by rw [HS.out.1]; omega), hno.out]; simp [cAt_eq, he])
              have he2 : (cR l q == cR l k) = false := by simpa using he
              go_wp2
              go_quiet (fail)
              go_wp2
              go_roundw
              case rel => exact ⟨q + 1, by go_num, by omega, ⟨_, rfl⟩, HN.out⟩
              case measure => simp [intOf]; omega
          · have e : q = k := by omega
            subst e
            by_cases hk0 : q = 0
            · have HF := Lib.hid (show chkN l (n - (q + 1)) = chk l by rw [← HX.out, ← HS.out.1, HST.out, if_neg (by simp [HV.out]), if_neg (by simp [hno.out]), if_neg (by omega)])
              subst hk0
              go_wp2
              go_quiet (fail)
              go_wp2
              go_roundw
              case rel => exact ⟨1, by go_num, by omega, HF.out, below_drewN HB1.out _⟩
              case measure => simp [intOf]; omega
            · have hq := (HC.out (q - 1) (by omega)).2.2
              have hkp : decide (0 < q) = true := by simp; omega
              have hkp2 : (1 : Int) ≤ (q : Int) := by omega
              have hkp3 : (0 : Int) ≤ (q : Int) - 1 := by omega
              have hkp4 : (q : Int) - 1 < (n : Int) := by omega
              have hkw : IntKind.i64.wrap ((q : Int) - 1) = (q : Int) - 1 := IntWalk.i64_in _ (by omega)
              have hkn : ((q : Int) - 1).toNat = q - 1 := by omega
              by_cases hl2 : cR l q < cR l (q - 1)
              · have HF := Lib.hid (show chk l = 4 by rw [← HX.out, ← HS.out.1, HST.out, if_neg (by simp [HV.out]), if_neg (by simp [hno.out]), if_pos ⟨by omega, hl2⟩])
                go_wp2
                go_quiet (fail)
                go_wp2
                go_ret
                exact ⟨ret_int HF.out.symm, below_drewN (below_drewN HB1.out _) _⟩
              · have HF := Lib.hid (show chkN l (n - (q + 1)) = chk l by rw [← HX.out, ← HS.out.1, HST.out, if_neg (by simp [HV.out]), if_neg (by simp [hno.out]), if_neg (by omega)])
                go_wp2
                go_quiet (fail)
                go_wp2
                go_roundw
                case rel => exact ⟨q + 1, by go_num, by omega, HF.out, below_drewN HB1.out _⟩
                case measure => simp [intOf]; omega
    · have HE := Lib.hid (show chk l = 0 by rw [← HX.out, show n - k = 0 by omega]; rfl)
      go_wp2
      go_ret
      exact ⟨ret_int HE.out.symm, HB.out⟩
end Go.Proofs.Yteidbomkbddliaa.Csn
