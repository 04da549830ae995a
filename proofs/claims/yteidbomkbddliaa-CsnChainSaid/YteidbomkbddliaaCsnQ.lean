/-
  The walks of layer 15: the references' Note and Join.
-/
import Derived.Test.YteidbomkbddliaaCsnO
namespace Go.Proofs.Yteidbomkbddliaa.Csn
open Go.RowKit

/-- The reference's Note on a vector. -/
def rn (l : List C) (x : C) : List C := l.filter (fun y => decide (y.2.2 < x.2.2)) ++ [x] ++ l.filter (fun y => decide (x.2.2 < y.2.2))
def rnoteC (l : List C) (x : C) : List C := if vld x.1 x.2.1 x.2.2 = false ∨ cov (vec l) x.1 x.2.1 x.2.2 = true then vec l else rn (vec l) x
theorem filter_take_succ (l : List C) (p : C → Bool) (q : Nat) (hq : q < l.length) : (l.take (q + 1)).filter p = (l.take q).filter p ++ (if p (cAt l q) then [cAt l q] else []) := by
  rw [List.take_succ_eq_append_getElem hq, List.filter_append]
  simp only [List.filter_cons, List.filter_nil]
  simp [cAt, List.getD, List.getElem?_eq_getElem hq]
theorem own_empty (w : World) (base : Nat) (hb : base ≤ w.heap.size) : Own (w.alloc (.cells #[] 23)) base (.slice (some ⟨w.heap.size, 0, none⟩) 0 0) [] :=
  ⟨rfl, .inr ⟨w.heap.size, 0, #[], rfl, hb, heap_alloc_new w _, Nat.le_refl _, by simp [maxLen], rfl, rfl⟩⟩
/-- Sl at an address that is not nil. -/
theorem Sl.or_nil {w : World} {A : Option Addr} {n c : Nat} {l : List C} (h : Sl w A n c l) : A = none → n = 0 ∧ l = [] := by
  intro e
  subst e
  have h0 : n = 0 := by
    rcases Nat.eq_zero_or_pos n with h1 | h1
    · exact h1
    · obtain ⟨b, off, h2, _⟩ := h.2.2 h1; cases h2
  exact ⟨h0, List.eq_nil_of_length_eq_zero (h.1.trans h0)⟩

/-- append of whatever slice onto a row of the call's own. -/
theorem wpList_app' {w : World} {ops : Array Oper} {rest : List Oper} {o : Oper} {a : Act} {Q : Exit → Act → World → Prop} (hgd : o.guard = none) (s x : Operand)
    (ho : o.op = .call { callee := .builtin .append, args := #[s, x], argTypes := #[39, 39] }) (base c : Nat) (A : Option Addr) (l : List C) (hs : a.eval s = .slice A l.length c) (hown : Own w base (.slice A l.length c) l)
    (B : Option Addr) (m d : Nat) (y : List C) (hx : a.eval x = .slice B m d) (hy : Sl w B m d y) (hlen : l.length + m ≤ 1000) (hb : base ≤ w.heap.size)
    (h : ∀ A' c' w', Own w' base (.slice A' (l ++ y).length c') (l ++ y) → w.grownBy w' (Value.slice A l.length c).ownBlock → wpList Try.prog ops Q rest (a.put o.dst (.slice A' (l ++ y).length c')) w') : wpList Try.prog ops Q (o :: rest) a w := by
  cases B with
  | some ad => exact wpList_app hgd s x ho base c A l hs hown (some ad) m d y hx hy (by simp) hlen hb h
  | none =>
    obtain ⟨rfl, rfl⟩ := hy.or_nil rfl
    obtain ⟨i0, hi, hz0, hz1, hz2⟩ := info_parts csn_info
    have hf := h A c w (by rw [List.append_nil]; exact hown) ⟨rfl, rfl, rfl, Nat.le_refl _, fun _ _ _ => rfl⟩
    rw [List.append_nil] at hf
    refine wpList_plain hgd fun K hK => ?_
    have hrun : (Builtin.append_ #[39, 39] o.type #[.slice A l.length c, .slice none 0 d]).run Try.prog w = .ok (.slice A l.length c) w := by
      rcases hown.2 with ⟨hv, h0⟩ | ⟨g, cap, cur, hv, _, _, hnc, _⟩
      · injection hv with e1 e2 e3
        subst e1; subst e3
        rw [e2]
        simp [Builtin.append_, run_underlying Try.underlying39, sizeOf, typeInfo, hi, Builtin.lenOf, Builtin.firstCells]
      · injection hv with e1 e2 e3
        subst e1; subst e3
        simp [Builtin.append_, run_underlying Try.underlying39, sizeOf, typeInfo, hi, Builtin.lenOf, Builtin.firstCells, hnc, storeCells]
    unfold Oper.wp execOp
    simp only [ho, resolve, invoke, builtin, Sem.run_bind, Sem.run_pure, Result.andThen_ok, List.map_toArray, List.map_cons, List.map_nil, hs, hx, hrun]
    exact hK _ _ hf

/-- The reference's Note refuses or has the number. -/
def rbad (l : List C) (T S R : Int) : Bool := !(vld T S R) || cov (vec l) T S R
theorem rnote_bad {l : List C} {T S R : Int} (h : rbad l T S R = true) : rnoteC l (T, S, R) = vec l := by
  simp [rbad] at h
  unfold rnoteC
  rw [if_pos h]
theorem rnote_new {l : List C} {T S R : Int} (h : rbad l T S R = false) : rnoteC l (T, S, R) = rn (vec l) (T, S, R) := by
  simp [rbad] at h
  unfold rnoteC
  rw [if_neg (by simp [h])]

set_option maxRecDepth 100000 in
set_option maxHeartbeats 8000000 in
theorem rnote_any (w : World) (A : Option Addr) (n c : Nat) (l : List C) (T S R : Int) (hs : Sl w A n c l) (hn : n ≤ 49) :
    Calls Try.prog 31 #[.slice A n c, .agg #[.int .i64 T, .int .i64 S, .int .i64 R]] w (IsSl w 200 (rnoteC l (T, S, R))) := by
  have HS := Lib.hid hs
  have HL := Lib.hid hs.1
  clear hs
  go_enter Try.func31, Try.ntmps31
  go_wp2_with fail
  refine (rvector_any _ _ _ _ _ (HS.out.below ((Below.refl _ _).alloc (Nat.le_refl _) _)) (by omega)).mono ?_
  rintro e w1 ⟨A1, n1, c1, rfl, hs1, hn1, hb1⟩
  have hzb1 : w.heap.size < w1.heap.size := by have := hb1.size; simp at this; omega
  have x0 : w1.cell? ⟨w.heap.size, 0, none⟩ = some (.int .i64 T) := by rw [bkeep hb1 (by simp)]; simp [go_sem]
  have x1 : w1.cell? ⟨w.heap.size, 1, none⟩ = some (.int .i64 S) := by rw [bkeep hb1 (by simp)]; simp [go_sem]
  have x2 : w1.cell? ⟨w.heap.size, 2, none⟩ = some (.int .i64 R) := by rw [bkeep hb1 (by simp)]; simp [go_sem]
  have HB1 := Lib.hid (((Below.refl w.heap.size w).alloc (Nat.le_refl _) (.cells #[.int .i64 T, .int .i64 S, .int .i64 R] 23)).trans (hb1.mono (by simp)))
  have HS1 := Lib.hid hs1
  have HLV := Lib.hid hs1.1
  clear hs1 hb1
  go_upto_region 2 with fail
  go_cut [18] (fun s18 wx => s18 = .bool (rbad l T S R) ∧ Below w1.heap.size w1 wx)
  case first =>
    cases h : vld T S R with
    | false =>
      have HR := Lib.hid (show rbad l T S R = true by simp [rbad, h])
      go_wp2_with (go_at_call 13; refine (rvalid_any _ _ _ _).mono ?_; rintro e w3 ⟨rfl, hb3⟩)
      go_meet
      exact ⟨by rw [HR.out], hb3⟩
    | true =>
      have HR := Lib.hid (show rbad l T S R = cov (vec l) T S R by simp [rbad, h])
      go_wp2_with fail
      refine (rvalid_any _ _ _ _).mono ?_
      rintro e w3 ⟨rfl, hb3⟩
      have q3 := bkeep hb3 hzb1
      have HB3 := Lib.hid hb3
      have HS3 := Lib.hid (HS1.out.below hb3)
      clear hb3
      go_wp2_with (go_at_call 29; refine (rcovers_any _ _ _ _ _ _ _ _ HS3.out (by omega)).mono ?_; rintro e w4 ⟨rfl, hb4⟩)
      go_meet
      exact ⟨by rw [HR.out], HB3.out.trans (hb4.mono HB3.out.size)⟩
  case rest =>
    obtain ⟨rfl, hb2⟩ := hcut
    obtain ⟨w2, rfl⟩ : ∃ x : World, x = wc := ⟨_, rfl⟩
    have hzb : w.heap.size < w2.heap.size := Nat.lt_of_lt_of_le hzb1 hb2.size
    have z0 := (bkeep hb2 hzb1 0).trans x0
    have z1 := (bkeep hb2 hzb1 1).trans x1
    have z2 := (bkeep hb2 hzb1 2).trans x2
    have HB2 := Lib.hid (HB1.out.trans (hb2.mono HB1.out.size))
    have HS2 := Lib.hid (HS1.out.below hb2)
    have HVL := Lib.hid (vec_length l)
    clear hb2 x0 x1 x2
    cases hbad : rbad l T S R with
    | true =>
      have HN := Lib.hid (rnote_bad hbad)
      clear hbad
      go_wp2_with ((with_reducible refine at_dst 21 ?_); refine wpList_app' rfl (.tmp 19) (.tmp 20) rfl w2.heap.size 0 (some ⟨w2.heap.size, 0, none⟩) [] rfl (own_empty w2 w2.heap.size (Nat.le_refl _)) A1 n1 c1 (vec l) rfl (HS2.out.below ((Below.refl _ _).alloc (Nat.le_refl _) _)) (by simp; omega) (by simp) ?_; intro A6 c6 w6 hO6 hg6; have HO6 := Lib.hid hO6; have HG6 := Lib.hid hg6; clear hO6 hg6)
      go_ret
      exact ⟨A6, _, c6, rfl, by rw [HN.out]; exact HO6.out.sl.1, by show (vec l).length ≤ 200; have := HVL.out; have := HL.out; omega, (HB2.out.alloc HB2.out.size _).grown HG6.out (by have := HB2.out.size; simp; omega) (fun q hq => by simp [Value.ownBlock] at hq; have := HB2.out.size; omega)⟩
    | false =>
      have HN := Lib.hid (rnote_new hbad)
      clear hbad
      go_wp2
      go_loopw [6, 7] (fun v i wr => ∃ (k c' : Nat) (A' : Option Addr), i = .int .i64 k ∧ k ≤ n1 ∧ v = .slice A' (((vec l).take k).filter (fun y => decide (y.2.2 < R))).length c' ∧ Own wr w2.heap.size (.slice A' (((vec l).take k).filter (fun y => decide (y.2.2 < R))).length c') (((vec l).take k).filter (fun y => decide (y.2.2 < R))) ∧ Below w2.heap.size w2 wr) (fun _ i _ => n1 - (intOf i).toNat)
      case atStart => exact ⟨0, 0, none, rfl, Nat.zero_le _, rfl, World.ownsRow_nil _ _ _ _, Below.refl _ _⟩
      case round =>
        obtain ⟨k, c5, A5, rfl, hk, rfl, hO, hb⟩ := hrel
        have HO := Lib.hid hO
        have HBB := Lib.hid hb
        have hsz := hb.size
        have y2 := (bkeep hb hzb 2).trans z2
        have HSL := Lib.hid (HS2.out.below hb)
        clear hO hb
        by_cases hlt : k < n1
        · obtain ⟨b0, off, rfl, hbl, hc⟩ := HSL.out.2.2 (by omega)
          obtain ⟨e0, e1, e2⟩ := hc k hlt
          have hkl : k < (vec l).length := by rw [HLV.out]; exact hlt
          have HTS := Lib.hid (filter_take_succ (vec l) (fun y => decide (y.2.2 < R)) k hkl)
          have HLF := Lib.hid (List.length_filter_le (fun y => decide (y.2.2 < R)) ((vec l).take k))
          have HLT := Lib.hid (show ((vec l).take k).length ≤ 49 by rw [List.length_take, HLV.out]; omega)
          clear hc hkl
          by_cases hr : cR (vec l) k < R
          · have HF := Lib.hid (show ((vec l).take (k + 1)).filter (fun y => decide (y.2.2 < R)) = (((vec l).take k).filter (fun y => decide (y.2.2 < R))) ++ [(cT (vec l) k, cS (vec l) k, cR (vec l) k)] by rw [HTS.out, cAt_eq, if_pos (by simpa using hr)])
            go_wp2
            go_quiet (fail)
            go_wp2_with ((with_reducible refine at_dst 42 ?_); refine wpList_app rfl (.tmp 36) (.tmp 41) rfl w2.heap.size c5 A5 _ rfl (World.ownsRow.alloc HO.out _) _ 1 1 [(cT (vec l) k, cS (vec l) k, cR (vec l) k)] rfl (sl_one _ _ _ _) (by simp) (by have := HLF.out; have := HLT.out; omega) (by simp; omega) ?_; intro A6 c6 w6 hO6 hg6; have HO6 := Lib.hid hO6; have HG6 := Lib.hid hg6; clear hO6 hg6)
            go_roundw
            case rel => exact ⟨k + 1, c6, A6, by go_num, by omega, by rw [HF.out]; try simp, by rw [HF.out]; exact HO6.out, ((below_drewN HBB.out _).alloc hsz _).grown HG6.out (by simp; omega) (fun q hq => (World.ownsRow.lt HO.out q hq).1)⟩
            case measure => simp [intOf]; omega
          · have HF := Lib.hid (show ((vec l).take (k + 1)).filter (fun y => decide (y.2.2 < R)) = (((vec l).take k).filter (fun y => decide (y.2.2 < R))) by rw [HTS.out, cAt_eq, if_neg (by simpa using hr), List.append_nil])
            go_wp2
            go_quiet (fail)
            go_wp2
            go_roundw
            case rel => exact ⟨k + 1, c5, A5, by go_num, by omega, by rw [HF.out]; try simp, by rw [HF.out]; exact HO.out, below_drewN HBB.out _⟩
            case measure => simp [intOf]; omega
        · have e : n1 = k := by omega
          subst e
          obtain ⟨F1, hF1⟩ : ∃ F1, F1 = ((vec l).take n1).filter (fun y => decide (y.2.2 < R)) := ⟨_, rfl⟩
          have HF1 := Lib.hid hF1
          have HTK := Lib.hid (show (vec l).take n1 = vec l from List.take_of_length_le (by rw [HLV.out]; exact Nat.le_refl _))
          have HLF1 := Lib.hid (show F1.length ≤ 49 by rw [hF1]; have h1 := List.length_filter_le (fun y : C => decide (y.2.2 < R)) ((vec l).take n1); rw [HTK.out] at h1 ⊢; have := HVL.out; have := HL.out; omega)
          rw [← hF1] at HO
          rw [← hF1]
          clear hF1 hsz y2
          have y0 := (bkeep HBB.out hzb 0).trans z0
          have y1 := (bkeep HBB.out hzb 1).trans z1
          have y2 := (bkeep HBB.out hzb 2).trans z2
          have hsz := HBB.out.size
          obtain ⟨wq, rfl⟩ : ∃ x : World, x = wr := ⟨_, rfl⟩
          go_wp2_with ((with_reducible refine at_dst 46 ?_); refine wpList_app rfl (.tmp 43) (.tmp 45) rfl w2.heap.size c5 A5 F1 rfl (World.ownsRow.alloc HO.out _) _ 1 1 [(T, S, R)] rfl (sl_one _ _ _ _) (by simp) (by have := HLF1.out; omega) (by simp; omega) ?_; intro A6 c6 w6 hO6 hg6; have HO6 := Lib.hid hO6; have HG6 := Lib.hid hg6; clear hO6 hg6)
          have HB6 := Lib.hid ((HBB.out.alloc hsz _).grown HG6.out (by simp; omega) (fun q hq => (World.ownsRow.lt HO.out q hq).1))
          clear y0 y1 y2 HO HBB
          go_loopw [6, 8] (fun v i wr => ∃ (k c' : Nat) (A' : Option Addr), i = .int .i64 k ∧ k ≤ n1 ∧ v = .slice A' ((F1 ++ [(T, S, R)]) ++ ((vec l).take k).filter (fun y => decide (R < y.2.2))).length c' ∧ Own wr w2.heap.size (.slice A' ((F1 ++ [(T, S, R)]) ++ ((vec l).take k).filter (fun y => decide (R < y.2.2))).length c') ((F1 ++ [(T, S, R)]) ++ ((vec l).take k).filter (fun y => decide (R < y.2.2))) ∧ Below w2.heap.size w2 wr) (fun _ i _ => n1 - (intOf i).toNat)
          case atStart => exact ⟨0, c6, A6, rfl, Nat.zero_le _, by simp, by simpa using HO6.out, HB6.out⟩
          case round =>
            obtain ⟨k, c5, A5, rfl, hk, rfl, hO, hb⟩ := hrel
            have HO := Lib.hid hO
            have HBB := Lib.hid hb
            have hsz := hb.size
            have y2 := (bkeep hb hzb 2).trans z2
            have HSL := Lib.hid (HS2.out.below hb)
            clear hO hb
            by_cases hlt : k < n1
            · obtain ⟨b0, off, rfl, hbl, hc⟩ := HSL.out.2.2 (by omega)
              obtain ⟨e0, e1, e2⟩ := hc k hlt
              have hkl : k < (vec l).length := by rw [HLV.out]; exact hlt
              have HTS := Lib.hid (filter_take_succ (vec l) (fun y => decide (R < y.2.2)) k hkl)
              have HLF := Lib.hid (List.length_filter_le (fun y => decide (R < y.2.2)) ((vec l).take k))
              have HLT := Lib.hid (show ((vec l).take k).length ≤ 49 by rw [List.length_take, HLV.out]; omega)
              clear hc hkl
              by_cases hr : R < cR (vec l) k
              · have HF := Lib.hid (show (F1 ++ [(T, S, R)]) ++ ((vec l).take (k + 1)).filter (fun y => decide (R < y.2.2)) = ((F1 ++ [(T, S, R)]) ++ ((vec l).take k).filter (fun y => decide (R < y.2.2))) ++ [(cT (vec l) k, cS (vec l) k, cR (vec l) k)] by rw [HTS.out, cAt_eq, if_pos (by simpa using hr)]; simp)
                go_wp2
                go_quiet (fail)
                go_wp2_with ((with_reducible refine at_dst 67 ?_); refine wpList_app rfl (.tmp 61) (.tmp 66) rfl w2.heap.size c5 A5 _ rfl (World.ownsRow.alloc HO.out _) _ 1 1 [(cT (vec l) k, cS (vec l) k, cR (vec l) k)] rfl (sl_one _ _ _ _) (by simp) (by have := HLF.out; have := HLT.out; have := HLF1.out; simp only [List.length_append, List.length_singleton]; omega) (by simp; omega) ?_; intro A6 c6 w6 hO6 hg6; have HO6 := Lib.hid hO6; have HG6 := Lib.hid hg6; clear hO6 hg6)
                go_roundw
                case rel => exact ⟨k + 1, c6, A6, by go_num, by omega, by rw [HF.out]; try simp, by rw [HF.out]; exact HO6.out, ((below_drewN HBB.out _).alloc hsz _).grown HG6.out (by simp; omega) (fun q hq => (World.ownsRow.lt HO.out q hq).1)⟩
                case measure => simp [intOf]; omega
              · have HF := Lib.hid (show (F1 ++ [(T, S, R)]) ++ ((vec l).take (k + 1)).filter (fun y => decide (R < y.2.2)) = ((F1 ++ [(T, S, R)]) ++ ((vec l).take k).filter (fun y => decide (R < y.2.2))) by rw [HTS.out, cAt_eq, if_neg (by simpa using hr), List.append_nil])
                go_wp2
                go_quiet (fail)
                go_wp2
                go_roundw
                case rel => exact ⟨k + 1, c5, A5, by go_num, by omega, by rw [HF.out]; try simp, by rw [HF.out]; exact HO.out, below_drewN HBB.out _⟩
                case measure => simp [intOf]; omega
            · have e : n1 = k := by omega
              subst e
              have HFIN := Lib.hid (show rnoteC l (T, S, R) = (F1 ++ [(T, S, R)]) ++ ((vec l).take n1).filter (fun y => decide (R < y.2.2)) by rw [HN.out, rn, HF1.out, HTK.out])
              have HLF2 := Lib.hid (show ((vec l).take n1).length ≤ 49 by rw [HTK.out]; have := HVL.out; have := HL.out; omega)
              have HLE2 := Lib.hid (List.length_filter_le (fun y : C => decide (R < y.2.2)) ((vec l).take n1))
              go_wp2
              go_ret
              exact ⟨A5, _, c5, rfl, by rw [HFIN.out]; exact HO.out.sl.1, by have h1 := HLF1.out; have h2 := HLF2.out; have h3 := HLE2.out; simp only [List.length_append, List.length_singleton]; omega, HB2.out.trans (HBB.out.mono HB2.out.size)⟩
end Go.Proofs.Yteidbomkbddliaa.Csn
