/-
  The reference: verifiers, the form of a grant.
-/
import Derived.Test.YtioabjniipkncaaGreatDoorQcE
import Derived.Test.YtioabjniipkncaaGreatDoorQcD
namespace Go.Proofs.YtioabjniipkncaaGreatDoor.Rc
open Go.RowKit Go.Proofs.YtioabjniipkncaaGreatDoor.Fo Go.Proofs.YtioabjniipkncaaGreatDoor.Rf Go.Maps

theorem rlet_any (c : UInt8) (w : World) {b : Bool} (hb : alnB c = b) : Calls Tryz.prog 89 #[.int .u8 (c.toNat : Int)] w fun e w' => e = .returned (.bool b) ∧ w = w' := by
  subst hb
  by_cases h1 : (97 : Int) ≤ (c.toNat : Int) <;> by_cases h2 : (c.toNat : Int) ≤ 122 <;> by_cases h3 : (65 : Int) ≤ (c.toNat : Int) <;> by_cases h4 : (c.toNat : Int) ≤ 90 <;> by_cases h5 : (48 : Int) ≤ (c.toNat : Int) <;> by_cases h6 : (c.toNat : Int) ≤ 57 <;> first | (exfalso; omega) | (
    have HR := Lib.hid (show alnB c = (decide ((97 : Int) ≤ (c.toNat : Int)) && decide ((c.toNat : Int) ≤ 122) || decide ((65 : Int) ≤ (c.toNat : Int)) && decide ((c.toNat : Int) ≤ 90) || decide ((48 : Int) ≤ (c.toNat : Int)) && decide ((c.toNat : Int) ≤ 57)) by
      unfold alnB
      rw [Bool.eq_iff_iff]
      simp only [decide_eq_true_eq, Bool.or_eq_true, Bool.and_eq_true]
      omega)
    go_enter Tryz.func89, Tryz.ntmps89
    go_wp2
    go_ret
    exact ⟨ret_bool (by rw [HR.out]; simp [h1, h2, h3, h4, h5, h6]), rfl⟩)
theorem verB_all (s : Bs) : verB s = (decide (43 ≤ s.size ∧ s.size ≤ 128) && s.data.toList.all vrC) := by
  unfold verB
  rw [show okV = vrC from funext okV_is]
theorem vr_no {c : UInt8} (h : alnB c = false) : vrC c = (decide (c.toNat = 45) || decide (c.toNat = 46) || decide (c.toNat = 95) || decide (c.toNat = 126)) := by unfold vrC; rw [h]; simp
theorem vr_yes {c : UInt8} (h : alnB c = true) : vrC c = true := by unfold vrC; rw [h]; rfl
set_option maxRecDepth 100000 in
set_option maxHeartbeats 4000000 in
theorem rver_any (s : Bs) (w : World) (hs : s.size ≤ 100000) : Calls Tryz.prog 78 #[.string s] w fun e w' => e = .returned (.bool (verB s)) ∧ w = w' := by
  have HLN := Lib.hid (show s.data.toList.length = s.size by simp)
  have HV := Lib.hid (verB_all s)
  go_enter Tryz.func78, Tryz.ntmps78
  go_wp2
  go_loopw [3] (fun i wr => ∃ (k : Nat), i = .int .i64 k ∧ k ≤ s.size ∧ Hid (∀ j, j < k → vrC (bAt s.data.toList j) = true) ∧ w = wr) (fun i _ => s.size - (intOf i).toNat)
  case atStart => exact ⟨0, rfl, Nat.zero_le _, fun j hj => absurd hj (Nat.not_lt_zero _), rfl⟩
  case round =>
    obtain ⟨k, rfl, hk, HA, rfl⟩ := hrel
    by_cases hlt : k < s.size
    · have HBK := Lib.hid (bAt_str s k hlt)
      cases q1 : alnB s[k] with
      | true => as_aux_lemma =>
        have Q1 := Lib.hid q1
        have HO := Lib.hid (show vrC (bAt s.data.toList k) = true by rw [HBK.out]; exact vr_yes q1)
        clear q1
        go_wp2_with fail
        refine (rlet_any _ _ Q1.out).mono ?_
        rintro e w1 ⟨rfl, rfl⟩
        go_wp2
        go_roundw
        case rel => exact ⟨k + 1, by go_num, by omega, (fun j hj => if e : j = k then by rw [e]; exact HO.out else HA.out j (by omega)), trivial⟩
        case measure => simp [intOf]; omega
      | false =>
        have Q1 := Lib.hid q1
        have HW := Lib.hid (show vrC (bAt s.data.toList k) = (decide (s[k].toNat = 45) || decide (s[k].toNat = 46) || decide (s[k].toNat = 95) || decide (s[k].toNat = 126)) by rw [HBK.out]; exact vr_no q1)
        clear q1
        go_wp2_with fail
        refine (rlet_any _ _ Q1.out).mono ?_
        rintro e w1 ⟨rfl, rfl⟩
        by_cases c45 : s[k].toNat = 45
        · as_aux_lemma =>
          have HO := Lib.hid (show vrC (bAt s.data.toList k) = true by rw [HW.out, c45]; rfl)
          have i45 : ((s[k].toNat : Nat) : Int) = 45 := by omega
          have j45 : (((s[k].toNat : Nat) : Int) == 45) = true := by rw [i45]; rfl
          clear c45
          go_wp2
          go_roundw
          case rel => exact ⟨k + 1, by go_num, by omega, (fun j hj => if e : j = k then by rw [e]; exact HO.out else HA.out j (by omega)), trivial⟩
          case measure => simp [intOf]; omega
        · have i45 : ¬ ((s[k].toNat : Nat) : Int) = 45 := by omega
          have j45 : (((s[k].toNat : Nat) : Int) == 45) = false := beq_eq_false_iff_ne.2 i45
          have n45 : (((s[k].toNat : Nat) : Int) != 45) = true := by rw [bne, j45]; rfl
          by_cases c46 : s[k].toNat = 46
          · as_aux_lemma =>
            have HO := Lib.hid (show vrC (bAt s.data.toList k) = true by rw [HW.out, c46]; rfl)
            have i46 : ((s[k].toNat : Nat) : Int) = 46 := by omega
            have j46 : (((s[k].toNat : Nat) : Int) == 46) = true := by rw [i46]; rfl
            clear c46
            go_wp2
            go_roundw
            case rel => exact ⟨k + 1, by go_num, by omega, (fun j hj => if e : j = k then by rw [e]; exact HO.out else HA.out j (by omega)), trivial⟩
            case measure => simp [intOf]; omega
          · have i46 : ¬ ((s[k].toNat : Nat) : Int) = 46 := by omega
            have j46 : (((s[k].toNat : Nat) : Int) == 46) = false := beq_eq_false_iff_ne.2 i46
            have n46 : (((s[k].toNat : Nat) : Int) != 46) = true := by rw [bne, j46]; rfl
            by_cases c95 : s[k].toNat = 95
            · as_aux_lemma =>
              have HO := Lib.hid (show vrC (bAt s.data.toList k) = true by rw [HW.out, c95]; rfl)
              have i95 : ((s[k].toNat : Nat) : Int) = 95 := by omega
              have j95 : (((s[k].toNat : Nat) : Int) == 95) = true := by rw [i95]; rfl
              clear c95
              go_wp2
              go_roundw
              case rel => exact ⟨k + 1, by go_num, by omega, (fun j hj => if e : j = k then by rw [e]; exact HO.out else HA.out j (by omega)), trivial⟩
              case measure => simp [intOf]; omega
            · have i95 : ¬ ((s[k].toNat : Nat) : Int) = 95 := by omega
              have j95 : (((s[k].toNat : Nat) : Int) == 95) = false := beq_eq_false_iff_ne.2 i95
              have n95 : (((s[k].toNat : Nat) : Int) != 95) = true := by rw [bne, j95]; rfl
              by_cases c126 : s[k].toNat = 126
              · as_aux_lemma =>
                have HO := Lib.hid (show vrC (bAt s.data.toList k) = true by rw [HW.out, c126]; rfl)
                have i126 : ((s[k].toNat : Nat) : Int) = 126 := by omega
                have j126 : (((s[k].toNat : Nat) : Int) == 126) = true := by rw [i126]; rfl
                clear c126
                go_wp2
                go_roundw
                case rel => exact ⟨k + 1, by go_num, by omega, (fun j hj => if e : j = k then by rw [e]; exact HO.out else HA.out j (by omega)), trivial⟩
                case measure => simp [intOf]; omega
              · have i126 : ¬ ((s[k].toNat : Nat) : Int) = 126 := by omega
                have j126 : (((s[k].toNat : Nat) : Int) == 126) = false := beq_eq_false_iff_ne.2 i126
                have n126 : (((s[k].toNat : Nat) : Int) != 126) = true := by rw [bne, j126]; rfl
                as_aux_lemma =>
                  have HR := Lib.hid (show verB s = false by rw [HV.out, all_not s.data.toList k (by rw [HLN.out]; exact hlt) (by rw [HW.out]; simp [c45, c46, c95, c126]), Bool.and_false])
                  clear c45 c46 c95 c126
                  go_wp2
                  go_ret
                  exact ⟨ret_bool HR.out.symm, rfl⟩
    · have e : k = s.size := by omega
      have HAL := Lib.hid (show s.data.toList.all vrC = true from all_take (p := vrC) s.data.toList (fun j hj => HA.out j (by rw [e, ← HLN.out]; exact hj)))
      by_cases h1 : s.size < 43
      · have HR := Lib.hid (show verB s = false by unfold verB; rw [decide_eq_false (by omega)]; rfl)
        have d1 : ¬ (43 : Int) ≤ (s.size : Int) := by omega
        go_wp2
        go_ret
        exact ⟨ret_bool HR.out.symm, rfl⟩
      · have d1 : (43 : Int) ≤ (s.size : Int) := by omega
        by_cases h2 : 128 < s.size
        · have HR := Lib.hid (show verB s = false by unfold verB; rw [decide_eq_false (by omega)]; rfl)
          have d2 : ¬ (s.size : Int) ≤ 128 := by omega
          go_wp2
          go_ret
          exact ⟨ret_bool HR.out.symm, rfl⟩
        · have HR := Lib.hid (show verB s = true by rw [HV.out, HAL.out, decide_eq_true (by omega)]; rfl)
          have d2 : (s.size : Int) ≤ 128 := by omega
          go_wp2
          go_ret
          exact ⟨ret_bool HR.out.symm, rfl⟩
theorem b64T_is (v : Bs) : (⟨(r64V (txtV v.data.toList)).toArray⟩ : Bs) = b64T v := by
  have h : (txtV v.data.toList).length = 16 := hexV_length _
  unfold b64T r64V
  rw [b64_groups h, h]
set_option maxRecDepth 100000 in
theorem rchl_any (m : Int) (hm : m = 1 ∨ m = 2) (v : Bs) (w : World) (hv : v.size ≤ 100000) (r : Bs) (k : Int) (hh : (verB v = true ∧ r = chlV m v ∧ k = 0) ∨ (verB v = false ∧ r = eB ∧ k = 4)) : Calls Tryz.prog 71 #[.int .i64 m, .string v] w fun e w' => e = .returned (.tuple #[.string r, .int .i64 k]) ∧ Below w.heap.size w w' := by
  rcases hh with ⟨hvb, hr, hk⟩ | ⟨hvb, hr, hk⟩
  · have HV := Lib.hid hvb
    subst hk
    rcases hm with rfl | rfl
    · have HR := Lib.hid (show r = v by rw [hr]; rfl)
      clear hvb hr
      go_enter Tryz.func71, Tryz.ntmps71
      go_wp2_with (go_at_call 78; refine (rver_any v _ hv).mono ?_; rintro e w6 ⟨rfl, rfl⟩; rw [HV.out])
      go_ret2
      exact ⟨by rw [HR.out]; rfl, Below.refl _ _⟩
    · have HR := Lib.hid (show r = b64T v by rw [hr]; rfl)
      clear hvb hr
      go_enter Tryz.func71, Tryz.ntmps71
      go_wp2_with (go_at_call 78; refine (rver_any v _ hv).mono ?_; rintro e w6 ⟨rfl, rfl⟩; rw [HV.out])
      refine (rtext_any v w hv).mono ?_
      rintro e w3 ⟨rfl, rfl⟩
      go_wp2_with fail
      refine (rb64_any (⟨(txtV v.data.toList).toArray⟩ : Bs) w (by rw [txtV_size]; omega)).mono ?_
      rintro e w4 ⟨rfl, hb4⟩
      have HB4 := Lib.hid hb4
      clear hb4
      obtain ⟨c, hc⟩ : ∃ c, b64T v = c := ⟨_, rfl⟩
      rw [show (⟨(r64V (⟨(txtV v.data.toList).toArray⟩ : Bs).data.toList).toArray⟩ : Bs) = c from (b64T_is v).trans hc]
      have HC := Lib.hid (HR.out.trans hc)
      clear hc
      go_wp2
      go_ret2
      exact ⟨by rw [HC.out]; rfl, HB4.out⟩
  · have HV := Lib.hid hvb
    subst hk
    subst hr
    clear hvb
    rcases hm with rfl | rfl
    · go_enter Tryz.func71, Tryz.ntmps71
      go_wp2_with (go_at_call 78; refine (rver_any v _ hv).mono ?_; rintro e w6 ⟨rfl, rfl⟩; rw [HV.out])
      go_ret2
      exact ⟨rfl, Below.refl _ _⟩
    · go_enter Tryz.func71, Tryz.ntmps71
      go_wp2_with (go_at_call 78; refine (rver_any v _ hv).mono ?_; rintro e w6 ⟨rfl, rfl⟩; rw [HV.out])
      go_ret2
      exact ⟨rfl, Below.refl _ _⟩
theorem rchk_any (m : Int) (hm : m = 1 ∨ m = 2) (ch v : Bs) (w : World) (hv : v.size ≤ 100000) {k : Int} (hk : chkP m ch v = k) : Calls Tryz.prog 65 #[.int .i64 m, .string ch, .string v] w fun e w' => e = .returned (.int .i64 k) ∧ Below w.heap.size w w' := by
  cases hvb : verB v with
  | false =>
    have HC := Lib.hid (fun w => rchl_any m hm v w hv eB 4 (Or.inr ⟨hvb, rfl, rfl⟩))
    have HR := Lib.hid (show k = 4 by rw [← hk]; unfold chkP; rw [if_pos hvb])
    clear hvb hk hm
    go_enter Tryz.func65, Tryz.ntmps65
    go_wp2_with fail
    refine (HC.out w).mono ?_
    rintro e w1 ⟨rfl, hb⟩
    have HB := Lib.hid hb
    clear hb
    go_wp2
    go_ret
    exact ⟨by rw [HR.out]; rfl, HB.out⟩
  | true =>
    have HC := Lib.hid (fun w => rchl_any m hm v w hv (chlV m v) 0 (Or.inl ⟨hvb, rfl, rfl⟩))
    have HK := Lib.hid (show k = if chlV m v = ch then 0 else 20 by rw [← hk]; unfold chkP; rw [if_neg (by rw [hvb]; decide)])
    clear hvb hk hm
    generalize chlV m v = q at *
    by_cases hq : q = ch
    · have HR := Lib.hid (show k = 0 by rw [HK.out, if_pos hq])
      have hqb : (q.toList == ch.toList) = true := by rw [beq_bs]; simpa using hq
      clear hq
      go_enter Tryz.func65, Tryz.ntmps65
      go_wp2_with fail
      refine (HC.out w).mono ?_
      rintro e w1 ⟨rfl, hb⟩
      have HB := Lib.hid hb
      clear hb
      go_wp2
      go_ret
      exact ⟨by rw [HR.out]; rfl, HB.out⟩
    · have HR := Lib.hid (show k = 20 by rw [HK.out, if_neg hq])
      have hqb : (q.toList == ch.toList) = false := by rw [beq_bs]; simpa using hq
      clear hq
      go_enter Tryz.func65, Tryz.ntmps65
      go_wp2_with fail
      refine (HC.out w).mono ?_
      rintro e w1 ⟨rfl, hb⟩
      have HB := Lib.hid hb
      clear hb
      go_wp2
      go_ret
      exact ⟨by rw [HR.out]; rfl, HB.out⟩
set_option maxRecDepth 100000 in
set_option maxHeartbeats 4000000 in
theorem rprv_any (g : Gr) (hg : frmG g = true) (A : Option Addr) (n c : Nat) (v : Bs) (w : World) (hv : v.size ≤ 100000) : Calls Tryz.prog 49 #[.agg #[.string g.user, .string g.client, .string g.tenant, .string g.session, .string g.redirect, .string g.nonce, .string g.challenge, .int .i64 g.method, (.slice A n c), .int .i64 g.auth, .int .i64 g.level], .string v] w fun e w' => e = .returned (.bool (prv v g)) ∧ Below w.heap.size w w' := by
  by_cases hc : g.challenge = eB
  · obtain ⟨e1, e2⟩ := empty_yes hc
    have HR := Lib.hid (show prv v g = decide (v = eB) by unfold prv; rw [if_pos hc])
    by_cases hve : v = eB
    · obtain ⟨e3, e4⟩ := empty_yes hve
      have HR2 := Lib.hid (show prv v g = true by rw [HR.out]; exact decide_eq_true hve)
      clear hc hve
      go_enter Tryz.func49, Tryz.ntmps49
      go_upto_region 1 with fail
      have HX := Lib.hid (heap_alloc_new w (.cells #[.string g.user, .string g.client, .string g.tenant, .string g.session, .string g.redirect, .string g.nonce, .string g.challenge, .int .i64 g.method, (.slice A n c), .int .i64 g.auth, .int .i64 g.level] 36))
      have x6 := cell_block HX.out 6
      simp only [List.getElem?_toArray, List.getElem?_cons_zero, List.getElem?_cons_succ] at x6
      go_wp2
      go_ret
      exact ⟨ret_bool HR2.out.symm, by go_grown⟩
    · obtain ⟨e3, e4⟩ := empty_no hve
      have HR2 := Lib.hid (show prv v g = false by rw [HR.out]; exact decide_eq_false hve)
      clear hc hve
      go_enter Tryz.func49, Tryz.ntmps49
      go_upto_region 1 with fail
      have HX := Lib.hid (heap_alloc_new w (.cells #[.string g.user, .string g.client, .string g.tenant, .string g.session, .string g.redirect, .string g.nonce, .string g.challenge, .int .i64 g.method, (.slice A n c), .int .i64 g.auth, .int .i64 g.level] 36))
      have x6 := cell_block HX.out 6
      simp only [List.getElem?_toArray, List.getElem?_cons_zero, List.getElem?_cons_succ] at x6
      go_wp2
      go_ret
      exact ⟨ret_bool HR2.out.symm, by go_grown⟩
  · obtain ⟨e1, e2⟩ := empty_no hc
    have hm : g.method = 1 ∨ g.method = 2 := by
      rw [frm_is] at hg
      unfold chB at hg
      simp only [Bool.and_eq_true, Bool.or_eq_true, decide_eq_true_eq] at hg
      rcases hg.2 with h | h
      · exact absurd h.1 hc
      · exact h.2
    have HC := Lib.hid (fun w k hk => rchk_any (k := k) g.method hm g.challenge v w hv hk)
    have HR := Lib.hid (show prv v g = decide (chkP g.method g.challenge v = 0) by unfold prv; rw [if_neg hc])
    obtain ⟨k, hk⟩ : ∃ k, chkP g.method g.challenge v = k := ⟨_, rfl⟩
    have HK := Lib.hid hk
    rw [hk] at HR
    clear hc hm hk
    go_enter Tryz.func49, Tryz.ntmps49
    go_upto_region 1 with fail
    have HX := Lib.hid (heap_alloc_new w (.cells #[.string g.user, .string g.client, .string g.tenant, .string g.session, .string g.redirect, .string g.nonce, .string g.challenge, .int .i64 g.method, (.slice A n c), .int .i64 g.auth, .int .i64 g.level] 36))
    have x6 := cell_block HX.out 6
    have x7 := cell_block HX.out 7
    simp only [List.getElem?_toArray, List.getElem?_cons_zero, List.getElem?_cons_succ] at x6 x7
    go_wp2_with fail
    refine (HC.out _ k HK.out).mono ?_
    rintro e w1 ⟨rfl, hb⟩
    have HB := Lib.hid ((show Below w.heap.size w (w.alloc (.cells #[.string g.user, .string g.client, .string g.tenant, .string g.session, .string g.redirect, .string g.nonce, .string g.challenge, .int .i64 g.method, (.slice A n c), .int .i64 g.auth, .int .i64 g.level] 36)) by go_grown).trans (hb.mono (by simp)))
    clear hb
    go_wp2
    go_ret
    exact ⟨ret_bool (by rw [HR.out, Bool.eq_iff_iff, beq_iff_eq, decide_eq_true_eq]), HB.out⟩
end Go.Proofs.YtioabjniipkncaaGreatDoor.Rc
