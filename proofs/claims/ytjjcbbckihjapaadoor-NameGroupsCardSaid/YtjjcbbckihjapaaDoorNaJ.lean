/-
  The walks of layer 5: the reference's Format. (Printed by gen_rfmt.py.)
-/
import Derived.Test.YtjjcbbckihjapaaDoorNaI
namespace Go.Proofs.YtjjcbbckihjapaaDoor.Na
open Go.RowKit Go.Proofs.YtjjcbbckihjapaaDoor.Fo

/-- A row of bytes of the call's own. -/
def Ob (w : World) (base : Nat) (A : Option Addr) (c : Nat) (out : List UInt8) : Prop := OwnS w base A out.length c out
theorem Ob.nil (w : World) (base : Nat) : Ob w base none 0 [] := OwnS.nil _ _
theorem Ob.below {w w' : World} {base c : Nat} {A : Option Addr} {out : List UInt8} (h : Ob w base A c out) (hb : Below w.heap.size w w') : Ob w' base A c out :=
  ⟨rfl, World.ownsRow.kept (row := none) h.2 ⟨hb.os, hb.tape, hb.output, hb.size, fun k hk _ => hb.block k hk⟩ (by cases (Value.slice A out.length c).ownBlock <;> simp)⟩
/-- append of one byte. -/
theorem wpList_b1 {w : World} {ops : Array Oper} {rest : List Oper} {o : Oper} {a : Act} {Q : Exit → Act → World → Prop} (hgd : o.guard = none) (s x : Operand)
    (ho : o.op = .call { callee := .builtin .append, args := #[s, x], argTypes := #[53, 53] }) (base c : Nat) (A : Option Addr) (l : List UInt8) (hs : a.eval s = .slice A l.length c) (w0 : World) (y : UInt8) (t : TypeId) (hw : w = w0.alloc (.cells #[.int .u8 (y.toNat : Int)] t)) (hown : Ob w0 base A c l)
    (hx : a.eval x = .slice (some ⟨w0.heap.size, 0, none⟩) 1 1) (hlen : l.length + 1 ≤ 10000000) (hb : base ≤ w0.heap.size)
    (h : ∀ A' c' out w', out = l ++ [y] → Ob w' base A' c' out → Below base w0 w' → wpList Tryd.prog ops Q rest (a.put o.dst (.slice A' out.length c')) w') : wpList Tryd.prog ops Q (o :: rest) a w := by
  obtain ⟨i0, hi, hz0, hz1, hz2⟩ := info_parts byte_info
  subst hw
  refine wpList_append_own_at _ hgd s x _ ho base 5 i0 _ 1 1 Tryd.underlying53 hi hz0 hz1 hz2 rfl (by decide) _ l.length (bytesV l) hs (OwnS.row hown _) ⟨w0.heap.size, 0, none⟩ 1 1 [.int .u8 (y.toNat : Int)] hx rfl (cell_one_new _ _ _) (by simp [Value.oneCell']) (by simp only [maxLen]; omega) (by omega) (by simp; omega) ?_
  intro v' w1 hown1 hgrow _ _
  obtain ⟨A1, c1, rfl, hO1⟩ := OwnS.snoc hown.1 hown1
  have e : (l ++ [y]).length = l.length + 1 := by simp
  have hO : Ob w1 base A1 c1 (l ++ [y]) := by unfold Ob; rw [e]; exact hO1
  have hf := h A1 c1 _ w1 rfl hO (((Below.refl _ _).alloc hb _).grown hgrow (by simp; omega) (fun k hk => (World.ownsRow.lt hown.2 k hk).1))
  rw [e] at hf
  exact hf
/-- append of a string's bytes. -/
theorem wpList_bs {w : World} {ops : Array Oper} {rest : List Oper} {o : Oper} {a : Act} {Q : Exit → Act → World → Prop} (hgd : o.guard = none) (s x : Operand)
    (ho : o.op = .call { callee := .builtin .append, args := #[s, x], argTypes := #[53, 9] }) (base c : Nat) (A : Option Addr) (l : List UInt8) (hs : a.eval s = .slice A l.length c) (y : ByteArray) (hown : Ob w base A c l)
    (hx : a.eval x = .string y) (hlen : l.length + y.size ≤ 10000000) (hb : base ≤ w.heap.size)
    (h : ∀ A' c' out w', out = l ++ y.data.toList → Ob w' base A' c' out → Below base w w' → wpList Tryd.prog ops Q rest (a.put o.dst (.slice A' out.length c')) w') : wpList Tryd.prog ops Q (o :: rest) a w := by
  obtain ⟨i0, hi, hz0, hz1, hz2⟩ := info_parts byte_info
  refine Lib.wpList_append_own_string w hgd s x _ _ ho base 5 i0 Tryd.underlying53 Tryd.underlying9 hi hz0 hz1 hz2 _ l.length (bytesV l) hs hown.2 y hx (by simp only [maxLen]; omega) (by omega) hb ?_
  intro v' w1 hown1 hgrow _
  have e : (l ++ y.data.toList).length = l.length + y.size := by simp
  have hv : bytesV (l ++ y.data.toList) = bytesV l ++ Lib.strCells y := by simp [bytesV, Lib.strCells]
  have hf : ∃ A1 c1, v' = .slice A1 (l.length + y.size) c1 := by
    rcases hown1.2 with ⟨h1, hn⟩ | ⟨g, cap, cur, h1, _⟩
    · exact ⟨none, 0, by rw [h1, hn]⟩
    · exact ⟨_, _, h1⟩
  obtain ⟨A1, c1, rfl⟩ := hf
  have hO : Ob w1 base A1 c1 (l ++ y.data.toList) := ⟨rfl, by rw [e, hv]; exact hown1⟩
  have hf := h A1 c1 _ w1 rfl hO ((Below.refl _ _).grown hgrow hb (fun k hk => (World.ownsRow.lt hown.2 k hk).1))
  rw [e] at hf
  exact hf
theorem take_chk {l : List Pr} {k : Nat} (h : chkF (l.take k) = 0) (hk : k < l.length) (h1 : namL l[k].1 = true) (h2 : clnL l[k].2 = true) : chkF (l.take (k + 1)) = 0 := by
  rw [chkF_mem] at *
  intro p hp
  rw [List.take_succ_eq_append_getElem hk] at hp
  rcases List.mem_append.1 hp with hp | hp
  · exact h p hp
  · simp at hp; subst hp; exact ⟨h1, h2⟩
theorem join_len' {l : List Pr} {k : Nat} (h : chkF (l.take k) = 0) (hk : k ≤ l.length) : (joinL (l.take k)).length ≤ k * 578 := by
  have h1 := join_len h k (by simp; omega)
  rw [List.take_take, Nat.min_self] at h1
  exact h1

set_option maxHeartbeats 8000000 in
theorem rformat_any (w : World) (A : Option Addr) (n c : Nat) (l : List B2) (hs : Ps w A n c l) (hz : Sh l) (hn : n ≤ 1000) :
    Calls Tryd.prog 18 #[.slice A n c] w (FmtIs w (fmt (prL l))) := by
  have HS := Lib.hid hs
  have HL := Lib.hid hs.1
  have HZ := Lib.hid hz
  clear hs hz
  go_enter Tryd.func18, Tryd.ntmps18
  go_wp2
  go_loopw [5, 2, 4, 6] (fun i _ v _ wr => ∃ (k c' : Nat) (A' : Option Addr), i = .int .i64 k ∧ k ≤ n ∧ v = .slice A' (joinL ((prL l).take k)).length c' ∧ Hid (chkF ((prL l).take k) = 0) ∧ Hid (chkF (prL l) = chkF ((prL l).drop k)) ∧ Hid (Ob wr w.heap.size A' c' (joinL ((prL l).take k))) ∧ Below w.heap.size w wr) (fun i _ _ _ _ => n - (intOf i).toNat)
  case atStart => exact ⟨0, 0, none, rfl, Nat.zero_le _, rfl, rfl, (by rw [List.drop_zero]; trivial), Ob.nil _ _, Below.refl _ _⟩
  case round =>
    obtain ⟨k, c', A', rfl, hk, rfl, HT, HI, HO, hb⟩ := hrel
    have HB := Lib.hid hb
    have hbz := hb.size
    clear hb
    by_cases hlt : k < n
    · obtain ⟨b, off, rfl, hbl, hc⟩ := HS.out.2.2 (by omega)
      obtain ⟨c0, c1⟩ := hc k hlt
      obtain ⟨z0, z1⟩ := HZ.out k (by rw [HL.out]; exact hlt)
      have hkl : k < (prL l).length := by rw [prL_length, HL.out]; exact hlt
      have HD := Lib.hid (prL_drop l k (by rw [HL.out]; exact hlt))
      have HJ := Lib.hid (join_take (prL l) k hkl)
      rw [prL_at] at HJ
      have HTS := Lib.hid (fun h1 h2 => take_chk HT.out hkl h1 h2)
      rw [prL_at] at HTS
      have HLO := Lib.hid (show (joinL ((prL l).take k)).length ≤ 578000 by have h1 := join_len' HT.out (Nat.le_of_lt hkl); omega)
      obtain ⟨x, hx⟩ : ∃ x, pX l k = x := ⟨_, rfl⟩
      obtain ⟨y, hy⟩ : ∃ y, pY l k = y := ⟨_, rfl⟩
      rw [hx] at c0 z0 HD HJ HTS
      rw [hy] at c1 z1 HD HJ HTS
      have HZX := Lib.hid z0
      have HZY := Lib.hid z1
      clear hx hy hc z0 z1 hkl
      have d0 := (bkeep HB.out hbl _).trans c0
      have d1 := (bkeep HB.out hbl _).trans c1
      cases hnm : namL x.data.toList with
      | false =>
        have HR := Lib.hid (show fmt (prL l) = ([], 5) by have e : chkL (prL l) = 5 := (by unfold chkL; rw [HI.out, HD.out, chkF_a hnm]; rfl); rw [fmt, e]; rfl)
        have HNM := Lib.hid hnm
        clear hnm
        go_wp2_with (go_at_call 46; refine (rname_is x _ _ HZX.out HNM.out).mono ?_; rintro e w4 ⟨rfl, rfl⟩)
        go_ret2
        exact ret_fmt _ _ _ _ HR.out HB.out
      | true =>
        have HNM := Lib.hid hnm
        clear hnm
        go_wp2_with (first | (go_at_call 46; refine (rname_is x _ _ HZX.out HNM.out).mono ?_; rintro e w4 ⟨rfl, rfl⟩) | fail)
        refine (rclean_any y _ HZY.out).mono ?_
        rintro e w2 ⟨rfl, hb2⟩
        have HO2 := Lib.hid (HO.out.below hb2)
        have HB2 := Lib.hid (HB.out.trans (hb2.mono HB.out.size))
        have hbz2 := HB2.out.size
        clear hb2 d0 d1
        cases hcl : clnL y.data.toList with
        | false =>
          have HR := Lib.hid (show fmt (prL l) = ([], 8) by have e : chkL (prL l) = 8 := (by unfold chkL; rw [HI.out, HD.out, chkF_b HNM.out hcl]; rfl); rw [fmt, e]; rfl)
          clear hcl
          go_wp2
          go_ret2
          exact ret_fmt _ _ _ _ HR.out HB2.out
        | true =>
          have HCL := Lib.hid hcl
          have HXL := Lib.hid (nam_len HNM.out)
          have HYL := Lib.hid (cln_len hcl)
          have HT2 := Lib.hid (HTS.out HNM.out hcl)
          have HI2 := Lib.hid (show chkF (prL l) = chkF ((prL l).drop (k + 1)) by rw [HI.out, HD.out, chkF_mk HNM.out hcl])
          clear hcl
          have d0 := (bkeep HB2.out hbl _).trans c0
          have d1 := (bkeep HB2.out hbl _).trans c1
          go_upto_if 29 with fail
          go_cut [4] (fun v wc => ∃ (A1 : Option Addr) (c5 : Nat) (out : List UInt8), v = .slice A1 out.length c5 ∧ Hid (out = joinL ((prL l).take k) ++ (if k = 0 then [] else [44])) ∧ Hid (Ob wc w.heap.size A1 c5 out) ∧ Below w.heap.size w wc)
          case first =>
            by_cases hk0 : k = 0
            · subst hk0
              go_wp2
              go_meet
              exact ⟨A', c', _, rfl, (show (_ : List UInt8) = _ by simp [joinL]), HO2.out, HB2.out⟩
            · have hk1 : (0 : Int) < (k : Int) := by omega
              go_wp2_with ((with_reducible refine at_dst 32 ?_); refine wpList_b1 rfl (.tmp 30) (.tmp 31) rfl w.heap.size c' A' _ rfl _ 44 _ rfl HO2.out rfl (by have := HLO.out; omega) hbz2 ?_; intro A1 c5 out1 w1 he1 hO1 hb1; have HE1 := Lib.hid he1; have HO1 := Lib.hid hO1; have HB1 := Lib.hid (HB2.out.trans hb1); clear hO1 hb1 he1)
              go_meet
              exact ⟨A1, c5, out1, rfl, (show (_ : List UInt8) = _ by rw [if_neg hk0]; exact HE1.out), HO1.out, HB1.out⟩
          case rest =>
            obtain ⟨A1, c5, out1, rfl, HE, HO1, hb1⟩ := hcut
            have HB1 := Lib.hid hb1
            have hbz1 := hb1.size
            have HJ1 := Lib.hid (show joinL ((prL l).take (k + 1)) = out1 ++ comL (x.data.toList, y.data.toList) by rw [HJ.out, HE.out, List.append_assoc])
            have HL1 := Lib.hid (show out1.length ≤ 578001 by have h1 := congrArg List.length HE.out; rw [List.length_append] at h1; have := HLO.out; split at h1 <;> simp at h1 <;> omega)
            clear hb1 HO2 HB2 hbz2 d0 d1 HE HO HB hbz
            have d0 := (bkeep HB1.out hbl _).trans c0
            have d1 := (bkeep HB1.out hbl _).trans c1
            go_wp2_with fail
            refine (rlower_t x wc HZX.out).mono ?_
            rintro e w3 ⟨t2, rfl, ht2, hb3⟩
            have HTX := Lib.hid ht2
            have HO3 := Lib.hid (HO1.out.below hb3)
            have HB3 := Lib.hid (HB1.out.trans (hb3.mono HB1.out.size))
            have ht2z : t2.size ≤ 64 := by have h1 := congrArg List.length ht2; have h2 := HXL.out; simp [lowL_len] at h1 h2; omega
            have HT2Z := Lib.hid ht2z
            have hbz3 := HB3.out.size
            clear ht2 hb3 ht2z d0 d1 HO1 HB1 hbz1
            have d0 := (bkeep HB3.out hbl _).trans c0
            have d1 := (bkeep HB3.out hbl _).trans c1
            go_wp2_with (first
              | ((with_reducible refine at_dst 40 ?_); refine wpList_bs rfl (.tmp 33) (.tmp 39) rfl w.heap.size c5 A1 out1 rfl t2 HO3.out rfl (by have := HL1.out; have := HT2Z.out; omega) hbz3 ?_; intro A4 c4 out4 w4 he4 hO4 hb4; rw [HTX.out] at he4; have HE4 := Lib.hid he4; have HO4 := Lib.hid hO4; have HB4 := Lib.hid (HB3.out.trans hb4); have HL4 := Lib.hid (show out4.length ≤ 578100 by rw [he4, List.length_append, lowL_len]; have := HL1.out; have := HXL.out; omega); clear hO4 hb4 he4)
              | ((with_reducible refine at_dst 43 ?_); refine wpList_b1 rfl (.tmp 41) (.tmp 42) rfl w.heap.size c4 A4 out4 rfl _ 61 _ rfl HO4.out rfl (by have := HL4.out; omega) (by have := HB4.out.size; omega) ?_; intro A5 c6 out5 w5 he5 hO5 hb5; have HE5 := Lib.hid he5; have HO5 := Lib.hid hO5; have HB5 := Lib.hid (HB4.out.trans hb5); have d2 := (bkeep HB5.out hbl _).trans c0; have d3 := (bkeep HB5.out hbl _).trans c1; clear hO5 hb5 he5))
            refine (rfold_t y w5 HZY.out).mono ?_
            rintro e w6 ⟨v, rfl, hv, hb6⟩
            have HO6 := Lib.hid (HO5.out.below hb6)
            have HB6 := Lib.hid (HB5.out.trans (hb6.mono HB5.out.size))
            have hvz : v.size ≤ 256 := by have h1 := congrArg List.length hv; have h2 := foldL_le y.data.toList; have h3 := HYL.out; simp at h1 h2 h3; omega
            have HJ6 := Lib.hid (show joinL ((prL l).take (k + 1)) = out5 ++ escL v.data.toList by rw [HJ1.out, HE5.out, HE4.out, hv]; simp [comL])
            have HL6 := Lib.hid (show out5.length ≤ 578200 by rw [HE5.out, List.length_append]; have := HL4.out; simp; omega)
            clear hv hb6 d0 d1 d2 d3 HO5 HB5 HO4 HB4 HO3 HB3 hbz3 HE4 HE5 HL4 HJ1 HJ HL1 HTX HT2Z
            go_wp2
            go_loopw [7, 4] (fun i u wq => ∃ (j c7 : Nat) (A7 : Option Addr) (out7 : List UInt8), i = .int .i64 j ∧ j ≤ v.size ∧ u = .slice A7 out7.length c7 ∧ Hid (out7 = out5 ++ escL (v.data.toList.take j)) ∧ Hid (Ob wq w.heap.size A7 c7 out7) ∧ Below w.heap.size w wq) (fun i _ _ => v.size - (intOf i).toNat)
            case atStart => exact ⟨0, c6, A5, out5, rfl, Nat.zero_le _, rfl, (show (_ : List UInt8) = _ by simp [escL]), HO6.out, HB6.out⟩
            case round =>
              obtain ⟨j, c7, A7, out7, rfl, hj, rfl, HE7, HO7, hb7⟩ := hrel
              have HB7 := Lib.hid hb7
              have hbz7 := hb7.size
              clear hb7
              by_cases hlj : j < v.size
              · have hle := escL_le (v.data.toList.take j)
                have hlo : out7.length ≤ 578800 := by rw [HE7.out, List.length_append]; have := HL6.out; rw [List.length_take] at hle; simp at hle; omega
                have HLQ := Lib.hid hlo
                have HTK := Lib.hid (show out5 ++ escL (v.data.toList.take (j + 1)) = out7 ++ (if spB (v[j]'hlj) then [92, (v[j]'hlj)] else [(v[j]'hlj)]) by rw [take_snoc v j hlj, escL_snoc, HE7.out, List.append_assoc])
                clear hle hlo
                cases hsp : spB (v[j]'hlj) with
                | true =>
                  have HS2 := Lib.hid hsp
                  rw [hsp] at HTK
                  clear hsp
                  go_wp2_with (first
                    | (go_at_call 50; refine (rspecial_is _ _ _ HS2.out).mono ?_; rintro e w8 ⟨rfl, rfl⟩)
                    | ((with_reducible refine at_dst 62 ?_); refine wpList_b1 rfl (.tmp 60) (.tmp 61) rfl w.heap.size c7 A7 out7 rfl _ 92 _ rfl HO7.out rfl (by have := HLQ.out; omega) hbz7 ?_; intro A8 c8 out8 w8 he8 hO8 hb8; have HE8 := Lib.hid he8; have HO8 := Lib.hid hO8; have HB8 := Lib.hid (HB7.out.trans hb8); clear hO8 hb8 he8)
                    | ((with_reducible refine at_dst 68 ?_); refine wpList_b1 rfl (.tmp 63) (.tmp 67) rfl w.heap.size c8 A8 out8 rfl _ (v[j]'hlj) _ rfl HO8.out rfl (by rw [HE8.out, List.length_append]; have := HLQ.out; simp; omega) (by have := HB8.out.size; omega) ?_; intro A9 c9 out9 w9 he9 hO9 hb9; have HE9 := Lib.hid he9; have HO9 := Lib.hid hO9; have HB9 := Lib.hid (HB8.out.trans hb9); clear hO9 hb9 he9))
                  go_roundw
                  case rel => exact ⟨j + 1, c9, A9, out9, by go_num, by omega, rfl, (show (_ : List UInt8) = _ by rw [HTK.out, HE9.out, HE8.out]; simp), HO9.out, HB9.out⟩
                  case measure => simp [intOf]; omega
                | false =>
                  have HS2 := Lib.hid hsp
                  rw [hsp] at HTK
                  clear hsp
                  go_wp2_with (first
                    | (go_at_call 50; refine (rspecial_is _ _ _ HS2.out).mono ?_; rintro e w8 ⟨rfl, rfl⟩)
                    | ((with_reducible refine at_dst 68 ?_); refine wpList_b1 rfl (.tmp 63) (.tmp 67) rfl w.heap.size c7 A7 out7 rfl _ (v[j]'hlj) _ rfl HO7.out rfl (by have := HLQ.out; omega) hbz7 ?_; intro A9 c9 out9 w9 he9 hO9 hb9; have HE9 := Lib.hid he9; have HO9 := Lib.hid hO9; have HB9 := Lib.hid (HB7.out.trans hb9); clear hO9 hb9 he9))
                  go_roundw
                  case rel => exact ⟨j + 1, c9, A9, out9, by go_num, by omega, rfl, (show (_ : List UInt8) = _ by rw [HTK.out, HE9.out]; simp), HO9.out, HB9.out⟩
                  case measure => simp [intOf]; omega
              · have HE := Lib.hid (show v.data.toList.take j = v.data.toList from List.take_of_length_le (by simp; omega))
                have HQ := Lib.hid (show out7 = joinL ((prL l).take (k + 1)) by rw [HJ6.out, HE7.out, HE.out])
                go_wp2
                go_roundw
                case rel => exact ⟨k + 1, c7, A7, by go_num, by omega, by rw [HQ.out], HT2.out, HI2.out, (by rw [← HQ.out]; exact HO7), HB7.out⟩
                case measure => simp [intOf]; omega
    · have e : k = n := by omega
      subst e
      have HTA := Lib.hid (show (prL l).take k = prL l from List.take_of_length_le (by rw [prL_length, HL.out]; exact Nat.le_refl _))
      rw [HTA.out] at HT HO
      rw [HTA.out]
      have HCF := Lib.hid HT.out
      by_cases h8 : 8 < k
      · have HR := Lib.hid (show fmt (prL l) = ([], 3) by have e : chkL (prL l) = 3 := (by unfold chkL; rw [HCF.out, prL_length, HL.out, if_neg (by simp), if_pos h8]); rw [fmt, e]; rfl)
        go_wp2
        go_ret2
        exact ret_fmt _ _ _ _ HR.out HB.out
      · have HR := Lib.hid (show fmt (prL l) = (joinL (prL l), 0) by have e : chkL (prL l) = 0 := (by unfold chkL; rw [HCF.out, prL_length, HL.out, if_neg (by simp), if_neg h8]); rw [fmt, e]; rfl)
        have hcv := OwnS.str HO.out
        go_wp2
        go_ret2
        exact ⟨⟨(joinL (prL l)).toArray⟩, by rw [HR.out]; rfl, by rw [HR.out], HB.out⟩
end Go.Proofs.YtjjcbbckihjapaaDoor.Na
