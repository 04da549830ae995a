/-
  Proof keys: Valid, Challenge, Check; the program's proves.
-/
import Derived.Test.YtioabjniipkncaaGreatDoorRcB
import Derived.Test.YtioabjniipkncaaGreatDoorRcT
import Derived.Maps.OwnSet
namespace Go.Proofs.YtioabjniipkncaaGreatDoor.Rc
open Go.RowKit Go.Proofs.YtioabjniipkncaaGreatDoor.Fo Go.Proofs.YtioabjniipkncaaGreatDoor.Rf Go.Maps Go.WideMaps

def alnB (c : UInt8) : Bool := decide ((97 ≤ c.toNat ∧ c.toNat ≤ 122) ∨ (65 ≤ c.toNat ∧ c.toNat ≤ 90) ∨ (48 ≤ c.toNat ∧ c.toNat ≤ 57))
theorem aln_any (c : UInt8) (w : World) : Calls Tryz.prog 87 #[.int .u8 (c.toNat : Int)] w fun e w' => e = .returned (.bool (alnB c)) ∧ w = w' := by
  by_cases h1 : (97 : Int) ≤ (c.toNat : Int) <;> by_cases h2 : (c.toNat : Int) ≤ 122 <;> by_cases h3 : (65 : Int) ≤ (c.toNat : Int) <;> by_cases h4 : (c.toNat : Int) ≤ 90 <;> by_cases h5 : (48 : Int) ≤ (c.toNat : Int) <;> by_cases h6 : (c.toNat : Int) ≤ 57 <;> first | (exfalso; omega) | (
    have HR := Lib.hid (show alnB c = (decide ((97 : Int) ≤ (c.toNat : Int)) && decide ((c.toNat : Int) ≤ 122) || decide ((65 : Int) ≤ (c.toNat : Int)) && decide ((c.toNat : Int) ≤ 90) || decide ((48 : Int) ≤ (c.toNat : Int)) && decide ((c.toNat : Int) ≤ 57)) by
      unfold alnB
      rw [Bool.eq_iff_iff]
      simp only [decide_eq_true_eq, Bool.or_eq_true, Bool.and_eq_true]
      omega)
    go_enter Tryz.func87, Tryz.ntmps87
    go_wp2
    go_ret
    exact ⟨ret_bool (by rw [HR.out]; simp [h1, h2, h3, h4, h5, h6]), rfl⟩)
def ibV (c : UInt8) : Int := Lib.indexByte [45, 46, 95, 126] (((c.toNat : Int)).toNat.toUInt8)
def okV (c : UInt8) : Bool := alnB c || !decide (ibV c < 0)
def verB (s : Bs) : Bool := decide (43 ≤ s.size ∧ s.size ≤ 128) && s.data.toList.all okV
theorem ver_any (s : Bs) (w : World) (hs : s.size ≤ 100000) : Calls Tryz.prog 77 #[.string s] w fun e w' => e = .returned (.bool (verB s)) ∧ w = w' := by
  have HLN := Lib.hid (show s.data.toList.length = s.size by simp)
  by_cases h1 : s.size < 43
  · have HR := Lib.hid (show verB s = false by unfold verB; rw [decide_eq_false (by omega)]; rfl)
    have d1 : (s.size : Int) < 43 := by omega
    go_enter Tryz.func77, Tryz.ntmps77
    go_wp2
    go_ret
    exact ⟨ret_bool HR.out.symm, rfl⟩
  · have d1 : ¬ (s.size : Int) < 43 := by omega
    by_cases h2 : 128 < s.size
    · have HR := Lib.hid (show verB s = false by unfold verB; rw [decide_eq_false (by omega)]; rfl)
      have d2 : (128 : Int) < (s.size : Int) := by omega
      go_enter Tryz.func77, Tryz.ntmps77
      go_wp2
      go_ret
      exact ⟨ret_bool HR.out.symm, rfl⟩
    · have d2 : ¬ (128 : Int) < (s.size : Int) := by omega
      have HV := Lib.hid (show verB s = s.data.toList.all okV by unfold verB; rw [decide_eq_true (by omega)]; rfl)
      go_enter Tryz.func77, Tryz.ntmps77
      go_wp2
      go_loopw [3, 14] (fun _ i wr => ∃ (k : Nat), i = .int .i64 k ∧ k ≤ s.size ∧ Hid (∀ j, j < k → okV (bAt s.data.toList j) = true) ∧ w = wr) (fun _ i _ => s.size - (intOf i).toNat)
      case atStart => exact ⟨0, rfl, Nat.zero_le _, fun j hj => absurd hj (Nat.not_lt_zero _), rfl⟩
      case round =>
        obtain ⟨k, rfl, hk, HA, rfl⟩ := hrel
        by_cases hlt : k < s.size
        · have HBK := Lib.hid (bAt_str s k hlt)
          cases q1 : alnB s[k] with
          | true =>
            have Q1 := Lib.hid q1
            have HO := Lib.hid (show okV (bAt s.data.toList k) = true by rw [HBK.out]; unfold okV; rw [q1]; rfl)
            clear q1
            go_wp2_with (go_at_call 87; refine (aln_any _ _).mono ?_; rintro e w1 ⟨rfl, rfl⟩; rw [Q1.out])
            go_roundw
            case rel => exact ⟨k + 1, by go_num, by omega, (fun j hj => if e : j = k then by rw [e]; exact HO.out else HA.out j (by omega)), trivial⟩
            case measure => simp [intOf]; omega
          | false =>
            have Q1 := Lib.hid q1
            clear q1
            obtain ⟨v, hv⟩ : ∃ v, ibV s[k] = v := ⟨_, rfl⟩
            by_cases q2 : v < 0
            · have HR := Lib.hid (show verB s = false by rw [HV.out, all_not s.data.toList k (by rw [HLN.out]; exact hlt) (by rw [HBK.out]; unfold okV; rw [Q1.out, hv, decide_eq_true q2]; rfl)])
              have HVV := Lib.hid hv
              clear hv
              go_wp2_with (first | (go_at_call 87; refine (aln_any _ _).mono ?_; rintro e w1 ⟨rfl, rfl⟩; rw [Q1.out]) | (go_at_call 88; refine (Tryz.strings_IndexByte _ _ _).mono ?_; rintro e w1 ⟨rfl, hw⟩; subst hw; rw [show Lib.indexByte _ _ = v from HVV.out]))
              go_ret
              exact ⟨ret_bool HR.out.symm, rfl⟩
            · have HO := Lib.hid (show okV (bAt s.data.toList k) = true by rw [HBK.out]; unfold okV; rw [Q1.out, hv, decide_eq_false q2]; rfl)
              have HVV := Lib.hid hv
              clear hv
              go_wp2_with (first | (go_at_call 87; refine (aln_any _ _).mono ?_; rintro e w1 ⟨rfl, rfl⟩; rw [Q1.out]) | (go_at_call 88; refine (Tryz.strings_IndexByte _ _ _).mono ?_; rintro e w1 ⟨rfl, hw⟩; subst hw; rw [show Lib.indexByte _ _ = v from HVV.out]))
              go_roundw
              case rel => exact ⟨k + 1, by go_num, by omega, (fun j hj => if e : j = k then by rw [e]; exact HO.out else HA.out j (by omega)), (by first | rfl | trivial)⟩
              case measure => simp [intOf]; omega
        · have e : k = s.size := by omega
          have HR := Lib.hid (show verB s = true by rw [HV.out]; exact all_take (p := okV) s.data.toList (fun j hj => HA.out j (by rw [e, ← HLN.out]; exact hj)))
          go_wp2
          go_ret
          exact ⟨ret_bool HR.out.symm, rfl⟩
def b64T (v : Bs) : Bs := ⟨(b64V (txtV v.data.toList)).toArray⟩
def chlV (m : Int) (v : Bs) : Bs := if m = 1 then v else b64T v
/-- The error of a verifier for a challenge. -/
def chkP (m : Int) (ch v : Bs) : Int := if verB v = false then 4 else if chlV m v = ch then 0 else 20
/-- A verifier fits a grant. -/
def prv (v : Bs) (g : Gr) : Bool := if g.challenge = eB then decide (v = eB) else decide (chkP g.method g.challenge v = 0)
theorem metT : Tryz.prog.underlying 33 = some (.int .i64) := Tryz.underlying33
theorem mapIT : Tryz.prog.underlying 85 = some (.map 33 9) := Tryz.underlying85
theorem zeroS (w : World) : (zeroValue 9).run Tryz.prog w = .ok (.string ⟨#[]⟩) w := by kernel_rfl
theorem bs_of (s : Bs) : (⟨s.data.toList.toArray⟩ : Bs) = s := by cases s; simp
theorem plain_str {v : Value} {l : List UInt8} {ps : List MemPlace} (h : plainElem (H := Unit) Tryz.prog 9 v = some (.lit (.string l), ps)) : v = .string ⟨l.toArray⟩ := by
  unfold plainElem at h
  rw [strT] at h
  cases v <;> simp at h
  obtain ⟨_, h2, _⟩ := h
  rw [← h2]
theorem own_below {w w' : World} {b n : Nat} {D : DataW Unit} (h : w.ownsMap Tryz.prog 33 (plainElem (H := Unit) Tryz.prog 9) b n D) (hb : Below w.heap.size w w') : w'.ownsMap Tryz.prog 33 (plainElem (H := Unit) Tryz.prog 9) b n D := by
  obtain ⟨es, clock, h0, r⟩ := h
  exact ⟨es, clock, (hb.block b (blk_lt h0)).trans h0, r⟩
theorem ins_any {w : World} {b n : Nat} {D : DataW Unit} (h : w.ownsMap Tryz.prog 33 (plainElem (H := Unit) Tryz.prog 9) b n D) (hn : n < 10) (m : Int) (hm : (Lit.int .i64 m).wf = true) (c : Bs) (hc : c.size ≤ 100000) :
    ∃ w', (Instr.mapUpdate 85 (.map (some b)) (.int .i64 m) (.string c)).run Tryz.prog w = .ok () w' ∧ w'.ownsMap Tryz.prog 33 (plainElem (H := Unit) Tryz.prog 9) b (n + 1) (D.put (.int .i64 m) (.lit (.string c.data.toList))) ∧ w.mapTurned w' b :=
  h.store (int_keyed metT) mapIT (by unfold maxLen; omega) (keyOf_int_mk metT hm) (plainElem_string strT (mx_le hc))
theorem look_any {w : World} {b n : Nat} {D : DataW Unit} (h : w.ownsMap Tryz.prog 33 (plainElem (H := Unit) Tryz.prog 9) b n D) (m : Int) (hm : (Lit.int .i64 m).wf = true) (s : Bs) (hat : ∀ z, D.atKey (.int .i64 m) z = .lit (.string s.data.toList)) :
    (Instr.lookup 85 (.map (some b)) (.int .i64 m) true).run Tryz.prog w = .ok (.tuple #[.string s, .bool true]) w := by
  obtain ⟨es, clock, hb, F, _, rfl⟩ := h
  rcases Maps.fit_look true (int_keyed metT) mapIT (zeroS w) hb F (keyOf_int_mk metT hm) with ⟨_, _, hz⟩ | ⟨e0, y, _, _, hrun, hRv, hy, _⟩
  · have h1 := hz .nil
    rw [hat] at h1
    cases h1
  · have h1 := hy .nil
    rw [hat] at h1
    have h2 : y = (.lit (.string s.data.toList), y.2) := Prod.ext h1.symm rfl
    rw [h2] at hRv
    rw [plain_str hRv, bs_of] at hrun
    exact hrun
theorem turned_below {B : Nat} {a w w' : World} {b : Nat} (hb : Below B a w) (ht : w.mapTurned w' b) (hB : B ≤ a.heap.size) (h : B ≤ b) : Below B a w' := by
  have g := ht.grown
  exact ⟨g.os.trans hb.os, g.tape.trans hb.tape, g.output.trans hb.output, Nat.le_trans hb.size g.size, fun k hk => (g.block k (by have := hb.size; omega) (fun e => by injection e with e; omega)).trans (hb.block k hk)⟩
theorem txtV_size (v : Bs) : ((⟨(txtV v.data.toList).toArray⟩ : Bs)).size = 16 := by
  show (txtV v.data.toList).toArray.size = 16
  rw [List.size_toArray]
  exact hexV_length _
theorem drain_len (b : Int) : ∀ m out, 6 * (drain b m out).2.length + (drain b m out).1 = 6 * out.length + m := fun m => by
  induction m using Nat.strongRecOn with
  | ind m ih =>
    intro out
    by_cases h : 6 ≤ m
    · rw [← drain_step h, ih (m - 6) (by omega)]
      simp
      omega
    · rw [drain_end h]
theorem st64_len (l : List UInt8) : ∀ k, 6 * (st64 l k).2.2.length + (st64 l k).2.1 = 8 * k
  | 0 => rfl
  | k + 1 => by
    have := st64_len l k
    simp only [st64]
    rw [drain_len]
    omega
theorem b64T_size (v : Bs) : (b64T v).size ≤ 100000 := by
  show (b64V (txtV v.data.toList)).toArray.size ≤ 100000
  rw [List.size_toArray]
  have h1 : (txtV v.data.toList).length = 16 := hexV_length _
  have h2 := st64_len (txtV v.data.toList) 16
  unfold b64V
  rw [h1]
  split
  · simp
    omega
  · omega
set_option maxRecDepth 100000 in
set_option maxHeartbeats 4000000 in
theorem chl_any (m : Int) (hm : m = 1 ∨ m = 2) (v : Bs) (w : World) (hv : v.size ≤ 100000) (hd : DG w) (r : Bs) (k : Int) (hh : (verB v = true ∧ r = chlV m v ∧ k = 0) ∨ (verB v = false ∧ r = eB ∧ k = 4)) : Calls Tryz.prog 70 #[.int .i64 m, .string v] w fun e w' => e = .returned (.tuple #[.string r, .int .i64 k]) ∧ Below w.heap.size w w' := by
  have hwf : (Lit.int .i64 m).wf = true := by rcases hm with rfl | rfl <;> rfl
  obtain ⟨w2, hr1, ho1, ht1⟩ := ins_any (World.ownsMap_made w Tryz.prog 33 (plainElem (H := Unit) Tryz.prog 9)) (by omega) 1 rfl v hv
  have HB2 := Lib.hid (turned_below (B := w.heap.size) (a := w) ((Below.refl _ _).alloc (Nat.le_refl _) _) ht1 (Nat.le_refl _) (Nat.le_refl _))
  have HO1 := Lib.hid ho1
  have HD := Lib.hid hd
  have HH := Lib.hid hh
  clear hh
  have HM := Lib.hid hm
  have HW := Lib.hid hwf
  clear ho1 ht1 hd hm hwf
  have hmm := @run_makeMap Tryz.prog
  go_enter Tryz.func70, Tryz.ntmps70
  go_wp2_with fail
  refine (text_any v w2 hv (HD.out.below HB2.out)).mono ?_
  rintro e w3 ⟨rfl, hb3⟩
  have HB3 := Lib.hid hb3
  clear hb3
  go_wp2_with fail
  refine (b64_any (⟨(txtV v.data.toList).toArray⟩ : Bs) w3 (by rw [txtV_size]; omega)).mono ?_
  rintro e w4 ⟨rfl, hb4⟩
  have HB4 := Lib.hid (HB3.out.trans (hb4.mono HB3.out.size))
  clear hb4
  obtain ⟨c, hc⟩ : ∃ c, b64T v = c := ⟨_, rfl⟩
  rw [show (⟨(b64V (⟨(txtV v.data.toList).toArray⟩ : Bs).data.toList).toArray⟩ : Bs) = c from hc]
  obtain ⟨w5, hr2, ho2, ht2⟩ := ins_any (own_below HO1.out HB4.out) (by omega) 2 rfl c (by rw [← hc]; exact b64T_size v)
  have HO2 := Lib.hid ho2
  have HB5 := Lib.hid (turned_below (B := w.heap.size) (a := w) (HB2.out.trans (HB4.out.mono HB2.out.size)) ht2 (Nat.le_refl _) (Nat.le_refl _))
  have hl := look_any HO2.out m HW.out (chlV m v) (fun z => by
    rcases HM.out with rfl | rfl
    · rw [atKey_put_other (by simp), atKey_put_same (D := .map []) ⟨[], rfl⟩ (k := .int .i64 1) trivial]
      rfl
    · rw [atKey_put_same (own_below HO1.out HB4.out).isMap (k := .int .i64 2) trivial, ← hc]
      rfl)
  clear ho2 ht2 hr1
  obtain ⟨q, hq⟩ : ∃ q, chlV m v = q := ⟨_, rfl⟩
  rw [hq] at hl
  have HQ := Lib.hid hq
  clear hq
  rcases HH.out with ⟨hvb, hr, hk⟩ | ⟨hvb, hr, hk⟩
  · have HV := Lib.hid hvb
    have HR := Lib.hid (And.intro hr hk)
    clear hvb hr hk
    go_wp2_with (go_at_call 77; refine (ver_any v _ hv).mono ?_; rintro e w6 ⟨rfl, rfl⟩; rw [HV.out])
    go_ret2
    exact ⟨by rw [HR.out.1, HR.out.2, HQ.out]; rfl, HB5.out⟩
  · have HV := Lib.hid hvb
    have HR := Lib.hid (And.intro hr hk)
    clear hvb hr hk
    go_wp2_with (go_at_call 77; refine (ver_any v _ hv).mono ?_; rintro e w6 ⟨rfl, rfl⟩; rw [HV.out])
    go_ret2
    exact ⟨by rw [HR.out.1, HR.out.2]; rfl, HB5.out⟩
theorem chk_any (m : Int) (hm : m = 1 ∨ m = 2) (ch v : Bs) (w : World) (hv : v.size ≤ 100000) (hd : DG w) {k : Int} (hk : chkP m ch v = k) : Calls Tryz.prog 59 #[.int .i64 m, .string ch, .string v] w fun e w' => e = .returned (.int .i64 k) ∧ Below w.heap.size w w' := by
  cases hvb : verB v with
  | false =>
    have HC := Lib.hid (fun w hd => chl_any m hm v w hv hd eB 4 (Or.inr ⟨hvb, rfl, rfl⟩))
    have HD := Lib.hid hd
    have HR := Lib.hid (show k = 4 by rw [← hk]; unfold chkP; rw [if_pos hvb])
    clear hvb hk hd hm
    go_enter Tryz.func59, Tryz.ntmps59
    go_wp2_with fail
    refine (HC.out w HD.out).mono ?_
    rintro e w1 ⟨rfl, hb⟩
    have HB := Lib.hid hb
    clear hb
    go_wp2
    go_ret
    exact ⟨by rw [HR.out]; rfl, HB.out⟩
  | true =>
    have HC := Lib.hid (fun w hd => chl_any m hm v w hv hd (chlV m v) 0 (Or.inl ⟨hvb, rfl, rfl⟩))
    have HD := Lib.hid hd
    have HK := Lib.hid (show k = if chlV m v = ch then 0 else 20 by rw [← hk]; unfold chkP; rw [if_neg (by rw [hvb]; decide)])
    clear hvb hk hd hm
    generalize chlV m v = q at *
    by_cases hq : q = ch
    · have HR := Lib.hid (show k = 0 by rw [HK.out, if_pos hq])
      have hqb : (q.toList == ch.toList) = true := by rw [beq_bs]; simpa using hq
      clear hq
      go_enter Tryz.func59, Tryz.ntmps59
      go_wp2_with fail
      refine (HC.out w HD.out).mono ?_
      rintro e w1 ⟨rfl, hb⟩
      have HB := Lib.hid hb
      clear hb
      go_wp2
      go_ret
      exact ⟨by rw [HR.out]; rfl, HB.out⟩
    · have HR := Lib.hid (show k = 20 by rw [HK.out, if_neg hq])
      have hqb : (q.toList == ch.toList) = false := by rw [beq_bs]; simpa using hq
      clear hq
      go_enter Tryz.func59, Tryz.ntmps59
      go_wp2_with fail
      refine (HC.out w HD.out).mono ?_
      rintro e w1 ⟨rfl, hb⟩
      have HB := Lib.hid hb
      clear hb
      go_wp2
      go_ret
      exact ⟨by rw [HR.out]; rfl, HB.out⟩
set_option maxRecDepth 100000 in
set_option maxHeartbeats 4000000 in
theorem prv_any (g : Gr) (hg : frmG g = true) (A : Option Addr) (n c : Nat) (v : Bs) (w : World) (hv : v.size ≤ 100000) (hd : DG w) : Calls Tryz.prog 38 #[.agg #[.string g.user, .string g.client, .string g.tenant, .string g.session, .string g.redirect, .string g.nonce, .string g.challenge, .int .i64 g.method, (.slice A n c), .int .i64 g.auth, .int .i64 g.level], .string v] w fun e w' => e = .returned (.bool (prv v g)) ∧ Below w.heap.size w w' := by
  have HD := Lib.hid hd
  clear hd
  by_cases hc : g.challenge = eB
  · obtain ⟨e1, e2⟩ := empty_yes hc
    have HR := Lib.hid (show prv v g = decide (v = eB) by unfold prv; rw [if_pos hc])
    by_cases hve : v = eB
    · obtain ⟨e3, e4⟩ := empty_yes hve
      have HR2 := Lib.hid (show prv v g = true by rw [HR.out]; exact decide_eq_true hve)
      clear hc hve
      go_enter Tryz.func38, Tryz.ntmps38
      go_upto_region 1 with fail
      have HX := Lib.hid (heap_alloc_new w (.cells #[.string g.user, .string g.client, .string g.tenant, .string g.session, .string g.redirect, .string g.nonce, .string g.challenge, .int .i64 g.method, (.slice A n c), .int .i64 g.auth, .int .i64 g.level] 36))
      have x6 := cell_block HX.out 6
      simp only [List.getElem?_toArray, List.getElem?_cons_zero, List.getElem?_cons_succ] at x6
      go_wp2
      go_ret
      exact ⟨ret_bool HR2.out.symm, by go_grown⟩
    · obtain ⟨e3, e4⟩ := empty_no hve
      have HR2 := Lib.hid (show prv v g = false by rw [HR.out]; exact decide_eq_false hve)
      clear hc hve
      go_enter Tryz.func38, Tryz.ntmps38
      go_upto_region 1 with fail
      have HX := Lib.hid (heap_alloc_new w (.cells #[.string g.user, .string g.client, .string g.tenant, .string g.session, .string g.redirect, .string g.nonce, .string g.challenge, .int .i64 g.method, (.slice A n c), .int .i64 g.auth, .int .i64 g.level] 36))
      have x6 := cell_block HX.out 6
      simp only [List.getElem?_toArray, List.getElem?_cons_zero, List.getElem?_cons_succ] at x6
      go_wp2
      go_ret
      exact ⟨ret_bool HR2.out.symm, by go_grown⟩
  · obtain ⟨e1, e2⟩ := empty_no hc
    have hm : g.method = 1 ∨ g.method = 2 := by
      rw [frm_is] at hg
      unfold chB at hg
      simp only [Bool.and_eq_true, Bool.or_eq_true, decide_eq_true_eq] at hg
      rcases hg.2 with h | h
      · exact absurd h.1 hc
      · exact h.2
    have HC := Lib.hid (fun w hd k hk => chk_any (k := k) g.method hm g.challenge v w hv hd hk)
    have HR := Lib.hid (show prv v g = decide (chkP g.method g.challenge v = 0) by unfold prv; rw [if_neg hc])
    obtain ⟨k, hk⟩ : ∃ k, chkP g.method g.challenge v = k := ⟨_, rfl⟩
    have HK := Lib.hid hk
    rw [hk] at HR
    clear hc hm hk
    go_enter Tryz.func38, Tryz.ntmps38
    go_upto_region 1 with fail
    have HX := Lib.hid (heap_alloc_new w (.cells #[.string g.user, .string g.client, .string g.tenant, .string g.session, .string g.redirect, .string g.nonce, .string g.challenge, .int .i64 g.method, (.slice A n c), .int .i64 g.auth, .int .i64 g.level] 36))
    have x6 := cell_block HX.out 6
    have x7 := cell_block HX.out 7
    simp only [List.getElem?_toArray, List.getElem?_cons_zero, List.getElem?_cons_succ] at x6 x7
    go_wp2_with fail
    refine (HC.out _ (HD.out.below (by go_grown)) k HK.out).mono ?_
    rintro e w1 ⟨rfl, hb⟩
    have HB := Lib.hid ((show Below w.heap.size w (w.alloc (.cells #[.string g.user, .string g.client, .string g.tenant, .string g.session, .string g.redirect, .string g.nonce, .string g.challenge, .int .i64 g.method, (.slice A n c), .int .i64 g.auth, .int .i64 g.level] 36)) by go_grown).trans (hb.mono (by simp)))
    clear hb
    go_wp2
    go_ret
    exact ⟨ret_bool (by rw [HR.out, Bool.eq_iff_iff, beq_iff_eq, decide_eq_true_eq]), HB.out⟩
end Go.Proofs.YtioabjniipkncaaGreatDoor.Rc
