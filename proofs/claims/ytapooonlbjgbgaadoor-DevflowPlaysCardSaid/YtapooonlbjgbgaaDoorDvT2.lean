/-
  The reference's Clean and UserCode.
-/
import Derived.Test.YtapooonlbjgbgaaDoorDvT
namespace Go.Proofs.YtapooonlbjgbgaaDoor.Dv
open Go.RowKit Go.Proofs.YtapooonlbjgbgaaDoor.Fo Go.Proofs.YtapooonlbjgbgaaDoor.Rf

theorem con_any (c : UInt8) (w : World) {b : Bool} (hb : conB c = b) : Calls Tryd.prog 45 #[.int .u8 (c.toNat : Int)] w fun e w' => e = .returned (.bool b) ∧ w = w' := by
  have HB := Lib.hid hb
  clear hb
  go_enter Tryd.func45, Tryd.ntmps45
  go_wp2
  go_loop [3] (fun i => ∃ k : Nat, k ≤ 20 ∧ i = .int .i64 k ∧ Hid (∀ j, j < k → conL.getD j 0 ≠ c)) (fun i => 20 - (intOf i).toNat)
  case atStart => exact ⟨0, Nat.zero_le _, rfl, Lib.hid (fun j hj => absurd hj (Nat.not_lt_zero _))⟩
  case round =>
    obtain ⟨k, hk, rfl, HA⟩ := hrel
    by_cases hlt : k < 20
    · obtain ⟨x, hx⟩ : ∃ x, x = conC[k]'(by rw [show conC.size = 20 from rfl]; exact hlt) := ⟨_, rfl⟩
      have hxx : x = conL.getD k 0 := by rw [hx]; exact con_at k _
      have HX := Lib.hid hxx
      by_cases e : x = c
      · have hcb : ((((⟨#[66, 67, 68, 70, 71, 72, 74, 75, 76, 77, 78, 80, 81, 82, 83, 84, 86, 87, 88, 90]⟩ : ByteArray)[k]'(show k < 20 from hlt)).toNat : Int) == (c.toNat : Int)) = true := by rw [show ((⟨#[66, 67, 68, 70, 71, 72, 74, 75, 76, 77, 78, 80, 81, 82, 83, 84, 86, 87, 88, 90]⟩ : ByteArray)[k]'(show k < 20 from hlt)) = x from hx.symm, u8_ne]; simpa using e
        have HT := Lib.hid (show b = true by
          rw [← HB.out]
          unfold conB
          rw [List.contains_iff_mem, ← e, hxx]
          have hk2 : k < conL.length := hlt
          simp only [List.getD, List.getElem?_eq_getElem hk2, Option.getD_some]
          exact List.getElem_mem _)
        have hci : (((⟨#[66, 67, 68, 70, 71, 72, 74, 75, 76, 77, 78, 80, 81, 82, 83, 84, 86, 87, 88, 90]⟩ : ByteArray)[k]'(show k < 20 from hlt)).toNat : Int) = (c.toNat : Int) := by rw [show ((⟨#[66, 67, 68, 70, 71, 72, 74, 75, 76, 77, 78, 80, 81, 82, 83, 84, 86, 87, 88, 90]⟩ : ByteArray)[k]'(show k < 20 from hlt)) = x from hx.symm, e]
        clear hx hxx e
        go_wp2
        go_ret
        exact ⟨ret_bool HT.out.symm, rfl⟩
      · have hcb : ((((⟨#[66, 67, 68, 70, 71, 72, 74, 75, 76, 77, 78, 80, 81, 82, 83, 84, 86, 87, 88, 90]⟩ : ByteArray)[k]'(show k < 20 from hlt)).toNat : Int) == (c.toNat : Int)) = false := by rw [show ((⟨#[66, 67, 68, 70, 71, 72, 74, 75, 76, 77, 78, 80, 81, 82, 83, 84, 86, 87, 88, 90]⟩ : ByteArray)[k]'(show k < 20 from hlt)) = x from hx.symm, u8_ne]; simpa using e
        have hcn : ¬ (((⟨#[66, 67, 68, 70, 71, 72, 74, 75, 76, 77, 78, 80, 81, 82, 83, 84, 86, 87, 88, 90]⟩ : ByteArray)[k]'(show k < 20 from hlt)).toNat : Int) = (c.toNat : Int) := fun h => e (by rw [hx]; exact UInt8.toNat_inj.1 (by exact_mod_cast h))
        have HE := Lib.hid e
        clear hx hxx e
        go_wp2
        go_round
        case rel => exact ⟨k + 1, by omega, by go_num, Lib.hid (fun j hj => if e : j = k then by rw [e, ← HX.out]; exact HE.out else HA.out j (by omega))⟩
        case measure => simp [intOf]; omega
    · have HF := Lib.hid (show b = false by
        rw [← HB.out]
        cases h : conB c with
        | false => rfl
        | true =>
          unfold conB at h
          rw [List.contains_iff_mem] at h
          obtain ⟨j, hj, e⟩ := List.getElem_of_mem h
          exact absurd (by rw [← e]; simp [List.getD, hj]) (HA.out j (by have : conL.length = 20 := rfl; omega)))
      go_wp2
      go_ret
      exact ⟨ret_bool HF.out.symm, rfl⟩
theorem typ_step {l : List UInt8} {k : Nat} (h : k < l.length) : typL (l.take (k + 1)) = if bAt l k = 32 ∨ bAt l k = 45 then typL (l.take k) else typL (l.take k) ++ [capB (bAt l k)] := by
  unfold typL
  rw [List.take_succ_eq_append_getElem h, List.filter_append, List.map_append, bAt_get l k h]
  by_cases e : l[k] = 32
  · simp [e]
  · by_cases e2 : l[k] = 45
    · simp [e2]
    · simp [e, e2]
theorem typ_sub {l : List UInt8} {k : Nat} : (typL l).take (typL (l.take k)).length = typL (l.take k) := by
  have : typL l = typL (l.take k) ++ typL (l.drop k) := by
    unfold typL
    rw [← List.map_append, ← List.filter_append, List.take_append_drop]
  rw [this]
  simp
theorem typ_bad {l : List UInt8} {k : Nat} (hk : k < l.length) (h1 : bAt l k ≠ 32) (h2 : bAt l k ≠ 45) (hc : conB (capB (bAt l k)) = false) : okL (typL l) = false := by
  have e : typL l = typL (l.take (k + 1)) ++ typL (l.drop (k + 1)) := by
    unfold typL
    rw [← List.map_append, ← List.filter_append, List.take_append_drop]
  rw [typ_step hk, if_neg (by simp [h1, h2])] at e
  unfold okL
  rw [e]
  simp [hc]
theorem cell_block' {w : World} {b : Nat} {cs : Array Value} {t : TypeId} {fr : Nat × Nat} (h : w.heap[b]? = some (.cells cs t fr)) (i : Nat) : w.cell? ⟨b, i, none⟩ = cs[i]? := by simp [World.cell?, h]
theorem blk_lt' {w : World} {k : Nat} {o : Obj} (h : w.heap[k]? = some o) : k < w.heap.size := by
  rcases Nat.lt_or_ge k w.heap.size with h1 | h1
  · exact h1
  · rw [Array.getElem?_eq_none h1] at h; cases h
theorem OwnS.cells {w : World} {base : Nat} {A : Option Addr} {m c : Nat} {l : List UInt8} (h : OwnS w base A m c l) (hm : 0 < m) : ∃ g, A = some ⟨g, 0, none⟩ ∧ g < w.heap.size ∧ ∀ j, j < m → w.cell? ⟨g, j, none⟩ = some (.int .u8 ((bAt l j).toNat : Int)) := by
  obtain ⟨hl, h⟩ := h
  rcases h.2 with ⟨hv, hn⟩ | ⟨g, cap, cur, hv, hb, hg, hnc, hcm, hcs, ht⟩
  · omega
  · injection hv with e1 e2 e3
    refine ⟨g, e1, ?_, fun j hj => ?_⟩
    · exact blk_lt' hg
    · have h1 : cur.toList[j]? = (bytesV l)[j]? := by
        rw [← ht, List.getElem?_take, if_pos (by omega)]
      simp only [World.cell?, hg]
      simp [bytesV] at h1
      simp [h1, hl, hj, bAt, List.getD]
theorem own_cap {w : World} {base : Nat} {A : Option Addr} {m c : Nat} {l : List UInt8} (h : OwnS w base A m c l) : m ≤ c := by
  obtain ⟨hl, h⟩ := h
  rcases h.2 with ⟨hv, hn⟩ | ⟨g, cap, cur, hv, hb, hg, hnc, hcm, hcs, ht⟩
  · omega
  · injection hv with e1 e2 e3
    omega
theorem div_cat (l : List UInt8) : (⟨(l.take 4).toArray⟩ : ByteArray) ++ ⟨#[45]⟩ ++ ⟨(l.drop 4).toArray⟩ = ⟨(divL l).toArray⟩ := by
  rw [show (⟨#[45]⟩ : ByteArray) = ⟨[45].toArray⟩ from rfl, ba_list, ba_list]
  rfl
theorem conv_part {w : World} {g off n cap : Nat} {l : List UInt8} (hl : l.length = n) (h : ∀ j, j < n → w.cell? ⟨g, off + j, none⟩ = some (.int .u8 ((bAt l j).toNat : Int))) : (convert 61 9 (.slice (some ⟨g, off, none⟩) n cap)).run Tryd.prog w = .ok (.string ⟨l.toArray⟩) w := by
  have := run_convert_bytes_arg (P := Tryd.prog) w 61 5 Tryd.underlying61 Tryd.underlying5 g off n cap (l.map fun c => (c.toNat : Int)) (by simpa using hl) (fun i hi => by
    have hi' : i < l.length := by first | (simpa using hi; done) | omega
    rw [h i (by omega)]
    simp [bAt, List.getD, hi']) 9 Tryd.underlying9
  rw [strOf] at this
  exact this
theorem bAt_drop (l : List UInt8) (k j : Nat) : bAt (l.drop k) j = bAt l (k + j) := by simp [bAt, List.getD, List.getElem?_drop]
theorem bAt_take (l : List UInt8) (k j : Nat) (h : j < k) : bAt (l.take k) j = bAt l j := by simp [bAt, List.getD, h]
set_option maxRecDepth 100000 in
set_option maxHeartbeats 8000000 in
theorem rclean_any (s : Bs) (w : World) (hs : s.size ≤ 100000) {rr : Bs × Int} (hr : cuC s = rr) :
    Calls Tryd.prog 11 #[.string s] w fun e w' => e = .returned (.tuple #[.string rr.1, .int .i64 rr.2]) ∧ Below w.heap.size w w' := by
  obtain ⟨i0, hi, hz0, hz1, hz2⟩ := info_parts byte_info
  have HSZ := Lib.hid (show s.data.toList.length = s.size by simp)
  have HR := Lib.hid hr
  clear hr
  go_enter Tryd.func11, Tryd.ntmps11
  go_wp2
  go_loopw [4, 5, 6] (fun v i _ wr => ∃ (k m : Nat) (l : List UInt8) (A : Option Addr) (cc : Nat), k ≤ s.size ∧ i = .int .i64 k ∧ v = .slice A m cc ∧ m ≤ k ∧ Hid (l = typL (s.data.toList.take k) ∧ l.all conB = true) ∧ Hid (OwnS wr w.heap.size A m cc l) ∧ Below w.heap.size w wr) (fun _ i _ _ => s.size - (intOf i).toNat)
  case atStart => exact ⟨0, 0, [], none, 0, Nat.zero_le _, rfl, rfl, Nat.le_refl _, Lib.hid ⟨rfl, rfl⟩, Lib.hid (OwnS.nil _ _), Below.refl _ _⟩
  case round =>
    obtain ⟨k, m, l, A, cc, hk, rfl, rfl, hmk, HL, HO, hb⟩ := hrel
    have HB := Lib.hid hb
    clear hb
    by_cases hlt : k < s.size
    · have hlk : k < s.data.toList.length := by rw [HSZ.out]; exact hlt
      have HT := Lib.hid (typ_step hlk)
      have HBAD := Lib.hid (typ_bad hlk)
      obtain ⟨c, hc⟩ : ∃ c, c = s[k] := ⟨_, rfl⟩
      have hcc : bAt s.data.toList k = c := by rw [bAt_str s k hlt, hc]
      rw [hcc] at HT HBAD
      have HC := Lib.hid hc
      have hcl : c.toNat < 256 := c.toNat_lt
      have hbase : w.heap.size ≤ wr.heap.size := HB.out.size
      clear hcc
      by_cases h32 : c = 32
      · have he : ((s[k]).toNat : Int) = 32 := by rw [← hc, h32]; rfl
        have heb : (((s[k]).toNat : Int) == 32) = true := by rw [he]; rfl
        have HE := Lib.hid h32
        clear hc h32 hcl
        go_wp2
        go_roundw
        case rel => exact ⟨k + 1, m, l, A, cc, by omega, by go_num, rfl, by omega, Lib.hid ⟨by rw [HT.out, if_pos (Or.inl HE.out)]; exact HL.out.1, HL.out.2⟩, HO, HB.out⟩
        case measure => simp [intOf]; omega
      · have hne : ¬ ((s[k]).toNat : Int) = 32 := fun e => h32 (UInt8.toNat_inj.1 (by rw [hc]; have : (32 : UInt8).toNat = 32 := rfl; omega))
        have hneb : (((s[k]).toNat : Int) == 32) = false := beq_eq_false_iff_ne.2 hne
        by_cases h45 : c = 45
        · have he : ((s[k]).toNat : Int) = 45 := by rw [← hc, h45]; rfl
          have heb : (((s[k]).toNat : Int) == 45) = true := by rw [he]; rfl
          have HE := Lib.hid h45
          clear hc h32 h45 hcl
          go_wp2
          go_roundw
          case rel => exact ⟨k + 1, m, l, A, cc, by omega, by go_num, rfl, by omega, Lib.hid ⟨by rw [HT.out, if_pos (Or.inr HE.out)]; exact HL.out.1, HL.out.2⟩, HO, HB.out⟩
          case measure => simp [intOf]; omega
        · have hne2 : ¬ ((s[k]).toNat : Int) = 45 := fun e => h45 (UInt8.toNat_inj.1 (by rw [hc]; have : (45 : UInt8).toNat = 45 := rfl; omega))
          have hneb2 : (((s[k]).toNat : Int) == 45) = false := beq_eq_false_iff_ne.2 hne2
          have HN := Lib.hid (show ¬ (c = 32 ∨ c = 45) from fun e => e.elim h32 h45)
          obtain ⟨d, hd⟩ : ∃ d, capB c = d := ⟨_, rfl⟩
          have HD := Lib.hid hd
          have HRB := Lib.hid (fun (h : conB d = false) => show rr = (eB, 4) by rw [← HR.out, cuC_no (HBAD.out h32 h45 (by rw [hd]; exact h))])
          by_cases hu : 97 ≤ c.toNat ∧ c.toNat ≤ 122
          · have h2 := capB_lo hu
            rw [hd] at h2
            have hw1 : IntKind.u8.wrap (((s[k]).toNat : Int) - 97) = ((s[k]).toNat : Int) - 97 := by rw [← hc]; exact IntWalk.u8_in _ (by omega)
            have hw2 : IntKind.u8.wrap (((s[k]).toNat : Int) - 97 + 65) = (d.toNat : Int) := by rw [← hc, h2, IntWalk.u8_in _ (by omega)]; omega
            have ha : (97 : Int) ≤ ((s[k]).toNat : Int) := by rw [← hc]; omega
            have hb : ((s[k]).toNat : Int) ≤ 122 := by rw [← hc]; omega
            clear hc h2 hu hcl h32 h45 hd
            cases hcon : conB d with
            | true =>
              have HCT := Lib.hid hcon
              clear hcon
              go_wp2_with (first | (go_at_call 45; refine (con_any d _ HCT.out).mono ?_; rintro e wx ⟨rfl, rfl⟩) | (at_builtin; go_must (refine wpList_append_own_at _ rfl (.tmp 34) (.tmp 36) _ rfl w.heap.size 5 i0 _ 1 1 Tryd.underlying61 hi hz0 hz1 hz2 rfl (by decide) (.slice A m cc) m (bytesV l) rfl (HO.out.row _) ⟨wr.heap.size, 0, none⟩ 1 1 [.int .u8 ((d.toNat : Int))] rfl rfl (one_src _ _ _) (one_one _) (by simp only [maxLen]; omega) (by omega) (by simp; omega) ?_); intro v' w1 hown1 hgrow hnil hat; have HB1 := Lib.hid (OwnS.grow (HO.out.row _) HB.out (Nat.le_refl _) hgrow); obtain ⟨A1, c1, rfl, hO1⟩ := OwnS.snoc HO.out.1 hown1; have HO1 := Lib.hid hO1; clear hown1 hgrow hnil hat hO1))
              go_roundw
              case rel => exact ⟨k + 1, m + 1, l ++ [d], A1, c1, by omega, by go_num, rfl, by omega, Lib.hid ⟨by rw [HT.out, if_neg HN.out, HD.out, HL.out.1], by rw [List.all_append, HL.out.2]; simp [HCT.out]⟩, HO1, HB1.out⟩
              case measure => simp [intOf]; omega
            | false =>
              have HCT := Lib.hid hcon
              have HRR := Lib.hid (HRB.out hcon)
              clear hcon
              go_wp2_with (go_at_call 45; refine (con_any d _ HCT.out).mono ?_; rintro e wx ⟨rfl, rfl⟩)
              go_ret2
              rw [HRR.out]
              exact ⟨rfl, HB.out⟩
          · have h2 := capB_no hu
            rw [hd] at h2
            have h2' := h2.symm
            subst h2'
            rcases (show c.toNat < 97 ∨ 122 < c.toNat by omega) with ha0 | ha0
            · have ha : decide ((97 : Int) ≤ ((s[k]).toNat : Int)) = false := by rw [← hc]; simp; omega
              rw [hc] at HD HRB
              clear hu ha0 hcl h32 h45 hd
              subst hc
              cases hcon : conB (s[k]) with
              | true =>
                have HCT := Lib.hid hcon
                clear hcon
                go_wp2_with (first | (go_at_call 45; refine (con_any (s[k]) _ HCT.out).mono ?_; rintro e wx ⟨rfl, rfl⟩) | (at_builtin; go_must (refine wpList_append_own_at _ rfl (.tmp 34) (.tmp 36) _ rfl w.heap.size 5 i0 _ 1 1 Tryd.underlying61 hi hz0 hz1 hz2 rfl (by decide) (.slice A m cc) m (bytesV l) rfl (HO.out.row _) ⟨wr.heap.size, 0, none⟩ 1 1 [.int .u8 (((s[k]).toNat : Int))] rfl rfl (one_src _ _ _) (one_one _) (by simp only [maxLen]; omega) (by omega) (by simp; omega) ?_); intro v' w1 hown1 hgrow hnil hat; have HB1 := Lib.hid (OwnS.grow (HO.out.row _) HB.out (Nat.le_refl _) hgrow); obtain ⟨A1, c1, rfl, hO1⟩ := OwnS.snoc HO.out.1 hown1; have HO1 := Lib.hid hO1; clear hown1 hgrow hnil hat hO1))
                go_roundw
                case rel => exact ⟨k + 1, m + 1, l ++ [(s[k])], A1, c1, by omega, by go_num, rfl, by omega, Lib.hid ⟨by rw [HT.out, if_neg HN.out, HD.out, HL.out.1], by rw [List.all_append, HL.out.2]; simp [HCT.out]⟩, HO1, HB1.out⟩
                case measure => simp [intOf]; omega
              | false =>
                have HCT := Lib.hid hcon
                have HRR := Lib.hid (HRB.out hcon)
                clear hcon
                go_wp2_with (go_at_call 45; refine (con_any (s[k]) _ HCT.out).mono ?_; rintro e wx ⟨rfl, rfl⟩)
                go_ret2
                rw [HRR.out]
                exact ⟨rfl, HB.out⟩
            · have ha : decide ((97 : Int) ≤ ((s[k]).toNat : Int)) = true := by rw [← hc]; simp; omega
              have hb : decide (((s[k]).toNat : Int) ≤ 122) = false := by rw [← hc]; simp; omega
              rw [hc] at HD HRB
              clear hu ha0 hcl h32 h45 hd
              subst hc
              cases hcon : conB (s[k]) with
              | true =>
                have HCT := Lib.hid hcon
                clear hcon
                go_wp2_with (first | (go_at_call 45; refine (con_any (s[k]) _ HCT.out).mono ?_; rintro e wx ⟨rfl, rfl⟩) | (at_builtin; go_must (refine wpList_append_own_at _ rfl (.tmp 34) (.tmp 36) _ rfl w.heap.size 5 i0 _ 1 1 Tryd.underlying61 hi hz0 hz1 hz2 rfl (by decide) (.slice A m cc) m (bytesV l) rfl (HO.out.row _) ⟨wr.heap.size, 0, none⟩ 1 1 [.int .u8 (((s[k]).toNat : Int))] rfl rfl (one_src _ _ _) (one_one _) (by simp only [maxLen]; omega) (by omega) (by simp; omega) ?_); intro v' w1 hown1 hgrow hnil hat; have HB1 := Lib.hid (OwnS.grow (HO.out.row _) HB.out (Nat.le_refl _) hgrow); obtain ⟨A1, c1, rfl, hO1⟩ := OwnS.snoc HO.out.1 hown1; have HO1 := Lib.hid hO1; clear hown1 hgrow hnil hat hO1))
                go_roundw
                case rel => exact ⟨k + 1, m + 1, l ++ [(s[k])], A1, c1, by omega, by go_num, rfl, by omega, Lib.hid ⟨by rw [HT.out, if_neg HN.out, HD.out, HL.out.1], by rw [List.all_append, HL.out.2]; simp [HCT.out]⟩, HO1, HB1.out⟩
                case measure => simp [intOf]; omega
              | false =>
                have HCT := Lib.hid hcon
                have HRR := Lib.hid (HRB.out hcon)
                clear hcon
                go_wp2_with (go_at_call 45; refine (con_any (s[k]) _ HCT.out).mono ?_; rintro e wx ⟨rfl, rfl⟩)
                go_ret2
                rw [HRR.out]
                exact ⟨rfl, HB.out⟩
    · have e : k = s.size := by omega
      subst e
      have HX := Lib.hid (show l = typL s.data.toList by rw [HL.out.1, List.take_of_length_le (by rw [HSZ.out]; exact Nat.le_refl _)])
      by_cases h8 : m = 8
      · have h8b : ((m : Int) == 8) = true := by rw [h8]; rfl
        have h8c : (m : Int) = 8 := by omega
        have hlen : l.length = 8 := by rw [HO.out.1, h8]
        have HRY := Lib.hid (show rr = (⟨(divL l).toArray⟩, 0) by rw [← HR.out, cuC_yes (by unfold okL; rw [← HX.out, hlen, HL.out.2]; rfl), ← HX.out])
        obtain ⟨g, rfl, hg, hcell⟩ := OwnS.cells HO.out (by omega)
        subst h8
        have hcc : 8 ≤ cc := own_cap HO.out
        have HS := Lib.hid (fun (w' : World) (hb : Below wr.heap.size wr w') => show (convert 61 9 (.slice (some ⟨g, 0, none⟩) 4 cc)).run Tryd.prog w' = .ok (.string ⟨(l.take 4).toArray⟩) w' ∧ (convert 61 9 (.slice (some ⟨g, 4, none⟩) 4 (cc - 4))).run Tryd.prog w' = .ok (.string ⟨(l.drop 4).toArray⟩) w' from ⟨conv_part (by simp [hlen]) (fun j hj => by rw [Nat.zero_add, bAt_take _ _ _ hj]; exact (bkeep hb hg _).trans (hcell j (by omega))), conv_part (by simp [hlen]) (fun j hj => by rw [bAt_drop]; exact (bkeep hb hg _).trans (hcell (4 + j) (by omega)))⟩)
        have hc4 : (4 : Int) ≤ (cc : Int) := by omega
        have hc8 : ¬ cc = 4 := by omega
        clear hcell
        go_wp2_with fail
        refine wp_region_held_drew (S := (fun w' => (convert 61 9 (.slice (some ⟨g, 0, none⟩) 4 cc)).run Tryd.prog w' = .ok (.string ⟨(l.take 4).toArray⟩) w' ∧ (convert 61 9 (.slice (some ⟨g, 4, none⟩) 4 (cc - 4))).run Tryd.prog w' = .ok (.string ⟨(l.drop 4).toArray⟩) w')) (by kernel_rfl) ?_ (fun hHeld => ?_)
        focus ((try dsimp only); (first | exact HS.out _ (Below.refl _ _) | exact HS.out _ ((Below.refl _ _).drew)); done)
        refine wpAnyH_take (i := 0) (oi := ⟨_, _, _, _, _, _⟩) (v := ?_) rfl (by kernel_rfl) (by kernel_rfl) (by kernel_rfl) (fun _ _ _ h => h) (Or.inl ⟨by rfl, ?_⟩) (by assumption) ?_; rotate_left; (focus (intro w hSw; (try dsimp only at hSw); go_simp; (try with_reducible rfl); done)); simp only [Act.put, List.setIfInBounds_toArray, List.set_cons_zero, List.set_cons_succ]
        refine wpAnyH_take (i := 1) (oi := ⟨_, _, _, _, _, _⟩) (v := ?_) rfl (by kernel_rfl) (by kernel_rfl) (by kernel_rfl) (fun _ _ _ h => h) (Or.inl ⟨by rfl, ?_⟩) (by assumption) ?_; rotate_left; (focus (intro w hSw; (try dsimp only at hSw); go_simp; (try with_reducible rfl); done)); simp only [Act.put, List.setIfInBounds_toArray, List.set_cons_zero, List.set_cons_succ]
        refine wpAnyH_take (i := 2) (oi := ⟨_, _, _, _, _, _⟩) (v := ?_) rfl (by kernel_rfl) (by kernel_rfl) (by kernel_rfl) (fun _ _ _ h => h) (Or.inl ⟨by rfl, ?_⟩) (by assumption) ?_; rotate_left; (focus (intro w hSw; (try dsimp only at hSw); go_simp; (try with_reducible rfl); done)); simp only [Act.put, List.setIfInBounds_toArray, List.set_cons_zero, List.set_cons_succ]
        refine wpAnyH_take (i := 3) (oi := ⟨_, _, _, _, _, _⟩) (v := ?_) rfl (by kernel_rfl) (by kernel_rfl) (by kernel_rfl) (fun _ _ _ h => h) (Or.inl ⟨by rfl, ?_⟩) (by assumption) ?_; rotate_left; (focus (intro w hSw; (try dsimp only at hSw); go_simp; (try with_reducible rfl); done)); simp only [Act.put, List.setIfInBounds_toArray, List.set_cons_zero, List.set_cons_succ]
        refine wpAnyH_take (i := 4) (oi := ⟨_, _, _, _, _, _⟩) (v := ?_) rfl (by kernel_rfl) (by kernel_rfl) (by kernel_rfl) (fun _ _ _ h => h) (Or.inl ⟨by rfl, ?_⟩) (by assumption) ?_; rotate_left; (focus (intro w hSw; (try dsimp only at hSw); go_simp; (try with_reducible rfl); done)); simp only [Act.put, List.setIfInBounds_toArray, List.set_cons_zero, List.set_cons_succ]
        refine wpAnyH_take (i := 5) (oi := ⟨_, _, _, _, _, _⟩) (v := ?_) rfl (by kernel_rfl) (by kernel_rfl) (by kernel_rfl) (fun _ _ _ h => h) (Or.inl ⟨by rfl, ?_⟩) (by assumption) ?_; rotate_left; (focus (intro w hSw; (try dsimp only at hSw); go_simp; (try with_reducible rfl); done)); simp only [Act.put, List.setIfInBounds_toArray, List.set_cons_zero, List.set_cons_succ]
        refine wpAnyH_take (i := 6) (oi := ⟨_, _, _, _, _, _⟩) (v := ?_) rfl (by kernel_rfl) (by kernel_rfl) (by kernel_rfl) (fun _ _ _ h => h) (Or.inl ⟨by rfl, ?_⟩) (by assumption) ?_; rotate_left; (focus (intro w hSw; (try dsimp only at hSw); go_simp; (try with_reducible rfl); done)); simp only [Act.put, List.setIfInBounds_toArray, List.set_cons_zero, List.set_cons_succ]
        refine wpAnyH_take (i := 7) (oi := ⟨_, _, _, _, _, _⟩) (v := ?_) rfl (by kernel_rfl) (by kernel_rfl) (by kernel_rfl) (fun _ _ _ h => h) (Or.inl ⟨by rfl, ?_⟩) (by assumption) ?_; rotate_left; (focus (intro w hSw; (try dsimp only at hSw); go_simp; (try with_reducible rfl); done)); simp only [Act.put, List.setIfInBounds_toArray, List.set_cons_zero, List.set_cons_succ]
        refine wpAnyH_take (i := 8) (oi := ⟨_, _, _, _, _, _⟩) (v := ?_) rfl (by kernel_rfl) (by kernel_rfl) (by kernel_rfl) (fun _ _ _ h => h) (Or.inl ⟨by rfl, ?_⟩) (by assumption) ?_; rotate_left; (focus (intro w hSw; (try dsimp only at hSw); go_simp; (try with_reducible rfl); done)); simp only [Act.put, List.setIfInBounds_toArray, List.set_cons_zero, List.set_cons_succ]
        refine wpAnyH_take (i := 9) (oi := ⟨_, _, _, _, _, _⟩) (v := ?_) rfl (by kernel_rfl) (by kernel_rfl) (by kernel_rfl) (fun _ _ _ h => h) (Or.inl ⟨by rfl, ?_⟩) (by assumption) ?_; rotate_left; (focus (intro w hSw; (try dsimp only at hSw); go_simp; (try with_reducible rfl); done)); simp only [Act.put, List.setIfInBounds_toArray, List.set_cons_zero, List.set_cons_succ]
        refine wpAnyH_done (by kernel_rfl) ?_ _
        go_wp2
        go_ret2
        rw [HRY.out]
        exact ⟨(by first | (congr 3; done) | (congr 3; exact div_cat l)), HB.out.drew⟩
      · have h8b : ((m : Int) == 8) = false := beq_eq_false_iff_ne.2 (by omega)
        have h8c : ¬ (m : Int) = 8 := by omega
        have HRN := Lib.hid (show rr = (eB, 4) by rw [← HR.out, cuC_no (by unfold okL; rw [← HX.out, HO.out.1]; simp [h8])])
        clear h8
        go_wp2
        go_ret2
        rw [HRN.out]
        exact ⟨rfl, HB.out⟩
/-- The reference's user code, some digits done. -/
def rsL (m : Nat) : Nat → List UInt8
  | 0 => []
  | k + 1 => if k = 3 then 45 :: conL.getD (m / 20 ^ k % 20) 0 :: rsL m k else conL.getD (m / 20 ^ k % 20) 0 :: rsL m k
theorem rsL_len (m k : Nat) : (rsL m k).length ≤ 2 * k := by
  induction k with
  | zero => simp [rsL]
  | succ k ih =>
    rw [rsL]
    split <;> simp <;> omega
theorem rsL_all (m : Nat) : rsL m 8 = divL (ucD m) := rfl
theorem cons_bs (c : UInt8) (l : List UInt8) : (⟨#[c]⟩ : ByteArray) ++ ⟨l.toArray⟩ = ⟨(c :: l).toArray⟩ := by
  rw [show (⟨#[c]⟩ : ByteArray) = ⟨[c].toArray⟩ from rfl, ba_list]
  rfl
theorem emod_of (n : Int) : ((n.tmod 25600000000 < 0) → n.tmod 25600000000 + 25600000000 = (ucN n : Int)) ∧ (¬ (n.tmod 25600000000 < 0) → n.tmod 25600000000 = (ucN n : Int)) := by
  have h := ucN_is n
  have h1 := Int.tmod_lt_of_pos n (b := 25600000000) (by decide)
  have h2 : -25600000000 < n.tmod 25600000000 := by
    rcases Int.le_total 0 n with h | h
    · have := Int.tmod_nonneg 25600000000 h; omega
    · have h3 := Int.tmod_lt_of_pos (-n) (b := 25600000000) (by decide)
      rw [Int.neg_tmod] at h3
      omega
  rw [Int.tmod_eq_emod_of_nonneg (by omega)] at h
  exact ⟨fun h3 => by rw [← h, Int.emod_eq_of_lt (by omega) (by omega)], fun h3 => by omega⟩
set_option maxRecDepth 100000 in
set_option maxHeartbeats 4000000 in
theorem rucode_any (n : Int) (w : World) {x : Bs} (hx : ucC n = x) :
    Calls Tryd.prog 13 #[.int .i64 n] w fun e w' => e = .returned (.string x) ∧ Below w.heap.size w w' := by
  obtain ⟨m, hmm⟩ : ∃ m, ucN n = m := ⟨_, rfl⟩
  have hml := ucN_lt n
  have hem := emod_of n
  rw [hmm] at hml hem
  have HX := Lib.hid (show (⟨(divL (ucD m)).toArray⟩ : Bs) = x by rw [← hx, ← hmm]; rfl)
  clear hx hmm
  have h1 := Int.tmod_lt_of_pos n (b := 25600000000) (by decide)
  obtain ⟨r, hr⟩ : ∃ r, n.tmod 25600000000 = r := ⟨_, rfl⟩
  rw [hr] at hem h1
  have HEM := Lib.hid hem
  clear hem
  go_enter Tryd.func13, Tryd.ntmps13
  by_cases h0 : r < 0
  · have e := HEM.out.1 h0
    go_wp2
    go_loopw [3, 4, 5] (fun rest sv i wr => ∃ (k d : Nat), rest = .int .i64 d ∧ sv = .string ⟨(rsL m k).toArray⟩ ∧ i = .int .i64 k ∧ k ≤ 8 ∧ d < 25600000000 ∧ Hid (d = m / 20 ^ k) ∧ Below w.heap.size w wr) (fun _ _ i _ => 8 - (intOf i).toNat)
    case atStart => exact ⟨0, m, (by rw [← e]), rfl, rfl, Nat.zero_le _, hml, Lib.hid (by simp), Below.refl _ _⟩
    case round =>
      obtain ⟨k, d, rfl, rfl, rfl, hk, hd, HDD, hb⟩ := hrel
      have HB := Lib.hid hb
      clear hb h0 e h1 hr
      by_cases hlt : k < 8
      · have hrl : (rsL m k).length ≤ 16 := by have := rsL_len m k; omega
        have hrs : (⟨(rsL m k).toArray⟩ : ByteArray).size ≤ 16 := hrl
        obtain ⟨q, hq⟩ : ∃ q, d % 20 = q := ⟨_, rfl⟩
        have hq20 : q < 20 := by omega
        have eq1 : (d : Int).tmod 20 = (q : Int) := by rw [Int.tmod_eq_emod_of_nonneg (by omega)]; omega
        have eq2 : (d : Int).tdiv 20 = ((d / 20 : Nat) : Int) := by rw [Int.tdiv_eq_ediv_of_nonneg (by omega)]; omega
        have HQ := Lib.hid (show conC[q]'(by rw [show conC.size = 20 from rfl]; exact hq20) = conL.getD (m / 20 ^ k % 20) 0 by rw [con_at, ← hq, HDD.out])
        obtain ⟨dg, hdg⟩ : ∃ dg, dg = ((⟨#[66, 67, 68, 70, 71, 72, 74, 75, 76, 77, 78, 80, 81, 82, 83, 84, 86, 87, 88, 90]⟩ : ByteArray)[q]'(show q < 20 from hq20)) := ⟨_, rfl⟩
        have HDG := Lib.hid hdg
        have hcv := conv_part (w := wr.alloc (.cells #[.int .u8 (dg.toNat : Int)] 5)) (g := wr.heap.size) (off := 0) (n := 1) (cap := 1) (l := [dg]) rfl (fun j hj => by
          have : j = 0 := by omega
          subst this
          exact cell_block' (heap_alloc_new wr (.cells #[.int .u8 (dg.toNat : Int)] 5)) 0)
        rw [hdg] at hcv
        have HCB := Lib.hid (cons_bs dg (rsL m k))
        have HB2 := Lib.hid (show Below w.heap.size w (wr.alloc (.cells #[.int .u8 (dg.toNat : Int)] 5)) from HB.out.alloc HB.out.size _)
        rw [hdg] at HB2
        clear hq hdg
        by_cases h3 : k = 3
        · subst h3
          go_wp2
          go_roundw
          case rel => exact ⟨4, d / 20, rfl, by rw [show rsL m 4 = 45 :: conL.getD (m / 20 ^ 3 % 20) 0 :: rsL m 3 from rfl, ← HQ.out]; exact congrArg Value.string ((congrArg (fun x => (⟨#[45]⟩ : ByteArray) ++ x) (cons_bs _ _)).trans (cons_bs _ _)), by go_num, by omega, by omega, Lib.hid (by rw [HDD.out, Nat.div_div_eq_div_mul, Nat.pow_succ]), HB2.out⟩
          case measure => simp [intOf]
        · have h3b : ((k : Int) == 3) = false := beq_eq_false_iff_ne.2 (by omega)
          have h3c : ¬ (k : Int) = 3 := by omega
          have H3 := Lib.hid h3
          go_wp2
          go_roundw
          case rel => exact ⟨k + 1, d / 20, rfl, by rw [rsL, if_neg H3.out, ← HQ.out]; exact congrArg Value.string (cons_bs _ _), by go_num, by omega, by omega, Lib.hid (by rw [HDD.out, Nat.div_div_eq_div_mul, Nat.pow_succ]), HB2.out⟩
          case measure => simp [intOf]; omega
      · have e : k = 8 := by omega
        subst e
        go_wp2
        go_ret
        exact ⟨ret_str (by rw [← HX.out, rsL_all]), HB.out⟩
  · have e := HEM.out.2 h0
    go_wp2
    go_loopw [3, 4, 5] (fun rest sv i wr => ∃ (k d : Nat), rest = .int .i64 d ∧ sv = .string ⟨(rsL m k).toArray⟩ ∧ i = .int .i64 k ∧ k ≤ 8 ∧ d < 25600000000 ∧ Hid (d = m / 20 ^ k) ∧ Below w.heap.size w wr) (fun _ _ i _ => 8 - (intOf i).toNat)
    case atStart => exact ⟨0, m, (by rw [← e]), rfl, rfl, Nat.zero_le _, hml, Lib.hid (by simp), Below.refl _ _⟩
    case round =>
      obtain ⟨k, d, rfl, rfl, rfl, hk, hd, HDD, hb⟩ := hrel
      have HB := Lib.hid hb
      clear hb h0 e h1 hr
      by_cases hlt : k < 8
      · have hrl : (rsL m k).length ≤ 16 := by have := rsL_len m k; omega
        have hrs : (⟨(rsL m k).toArray⟩ : ByteArray).size ≤ 16 := hrl
        obtain ⟨q, hq⟩ : ∃ q, d % 20 = q := ⟨_, rfl⟩
        have hq20 : q < 20 := by omega
        have eq1 : (d : Int).tmod 20 = (q : Int) := by rw [Int.tmod_eq_emod_of_nonneg (by omega)]; omega
        have eq2 : (d : Int).tdiv 20 = ((d / 20 : Nat) : Int) := by rw [Int.tdiv_eq_ediv_of_nonneg (by omega)]; omega
        have HQ := Lib.hid (show conC[q]'(by rw [show conC.size = 20 from rfl]; exact hq20) = conL.getD (m / 20 ^ k % 20) 0 by rw [con_at, ← hq, HDD.out])
        obtain ⟨dg, hdg⟩ : ∃ dg, dg = ((⟨#[66, 67, 68, 70, 71, 72, 74, 75, 76, 77, 78, 80, 81, 82, 83, 84, 86, 87, 88, 90]⟩ : ByteArray)[q]'(show q < 20 from hq20)) := ⟨_, rfl⟩
        have HDG := Lib.hid hdg
        have hcv := conv_part (w := wr.alloc (.cells #[.int .u8 (dg.toNat : Int)] 5)) (g := wr.heap.size) (off := 0) (n := 1) (cap := 1) (l := [dg]) rfl (fun j hj => by
          have : j = 0 := by omega
          subst this
          exact cell_block' (heap_alloc_new wr (.cells #[.int .u8 (dg.toNat : Int)] 5)) 0)
        rw [hdg] at hcv
        have HCB := Lib.hid (cons_bs dg (rsL m k))
        have HB2 := Lib.hid (show Below w.heap.size w (wr.alloc (.cells #[.int .u8 (dg.toNat : Int)] 5)) from HB.out.alloc HB.out.size _)
        rw [hdg] at HB2
        clear hq hdg
        by_cases h3 : k = 3
        · subst h3
          go_wp2
          go_roundw
          case rel => exact ⟨4, d / 20, rfl, by rw [show rsL m 4 = 45 :: conL.getD (m / 20 ^ 3 % 20) 0 :: rsL m 3 from rfl, ← HQ.out]; exact congrArg Value.string ((congrArg (fun x => (⟨#[45]⟩ : ByteArray) ++ x) (cons_bs _ _)).trans (cons_bs _ _)), by go_num, by omega, by omega, Lib.hid (by rw [HDD.out, Nat.div_div_eq_div_mul, Nat.pow_succ]), HB2.out⟩
          case measure => simp [intOf]
        · have h3b : ((k : Int) == 3) = false := beq_eq_false_iff_ne.2 (by omega)
          have h3c : ¬ (k : Int) = 3 := by omega
          have H3 := Lib.hid h3
          go_wp2
          go_roundw
          case rel => exact ⟨k + 1, d / 20, rfl, by rw [rsL, if_neg H3.out, ← HQ.out]; exact congrArg Value.string (cons_bs _ _), by go_num, by omega, by omega, Lib.hid (by rw [HDD.out, Nat.div_div_eq_div_mul, Nat.pow_succ]), HB2.out⟩
          case measure => simp [intOf]; omega
      · have e : k = 8 := by omega
        subst e
        go_wp2
        go_ret
        exact ⟨ret_str (by rw [← HX.out, rsL_all]), HB.out⟩
end Go.Proofs.YtapooonlbjgbgaaDoor.Dv
