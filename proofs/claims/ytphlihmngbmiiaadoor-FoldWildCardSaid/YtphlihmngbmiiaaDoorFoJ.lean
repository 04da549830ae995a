/-
  The walk of layer 1: Match.
-/
import Derived.Test.YtphlihmngbmiiaaDoorFoI
namespace Go.Proofs.YtphlihmngbmiiaaDoor.Fo
open Go.RowKit

theorem ext_call {a b c : World} (h : Below a.heap.size a b) (k : Below b.heap.size b c) : Below a.heap.size a c := h.trans (k.mono h.size)
theorem ext_new {a b c : World} {o : Obj} (h : Below a.heap.size a b) (k : Below (b.alloc o).heap.size (b.alloc o) c) : Below a.heap.size a c := ext_call (h.alloc h.size o) k
/-- What is left, if all went well. -/
def stM (ok : Bool) (t : List UInt8) (ps : List (List UInt8)) (k : Nat) : Option (List UInt8) := if ok then midF t ((midsL ps).drop k) else none
theorem stM_step {t p : List UInt8} {ps : List (List UInt8)} {k : Nat} (h : k < ps.length - 2) (hp : pAt ps (k + 1) = p) : stM true t ps k = stM (Lib.cut t (lowL p)).2.2 (Lib.cut t (lowL p)).2.1 ps (k + 1) := by
  unfold stM
  rw [if_pos rfl, midsL_at ps k h, midF_step, hp]
theorem stM_end {t : List UInt8} {ps : List (List UInt8)} (h : 2 ≤ ps.length) : stM true t ps (ps.length - 2) = some t := by
  unfold stM
  rw [if_pos rfl, List.drop_of_length_le (by rw [midsL_length _ h]; exact Nat.le_refl _)]
  rfl
theorem matL_eq {l : List UInt8} {ps : List (List UInt8)} (h : 2 ≤ ps.length) : matL l ps = finB (lowL (pAt ps (ps.length - 1))) (stM (Lib.hasPrefix (foldL l) (lowL (pAt ps 0))) (Lib.trimPrefix (foldL l) (lowL (pAt ps 0))) ps 0) := by
  rw [matL, decide_eq_true h, Bool.true_and]
  cases Lib.hasPrefix (foldL l) (lowL (pAt ps 0)) with
  | false => rfl
  | true => simp [stM]
theorem matL_short {l : List UInt8} {ps : List (List UInt8)} (h : ps.length < 2) : matL l ps = false := by
  rw [matL, decide_eq_false (by omega)]; rfl

set_option maxRecDepth 100000 in
set_option maxHeartbeats 4000000 in
theorem match_any (s : ByteArray) (A : Option Addr) (n c : Nat) (l : List ByteArray) (w : World) (hs : s.size ≤ 100000) (hl : Ss w A n c l) (hn : n ≤ 1000) (hsh : Short l) (hm : MX w) :
    Calls Tryd.prog 26 #[.string s, .slice A n c] w fun e w' => e = .returned (.bool (matL s.data.toList (strsL l))) ∧ Below w.heap.size w w' := by
  have HS := Lib.hid hs
  have HM := Lib.hid hm
  have HLN := Lib.hid (show (strsL l).length = n by rw [strsL, List.length_map, hl.1])
  rcases Nat.lt_or_ge n 2 with h2 | h2
  · have HR := Lib.hid (show matL s.data.toList (strsL l) = false from matL_short (by rw [HLN.out]; exact h2))
    have hw : IntKind.i64.wrap ((n : Int) - 1) = (n : Int) - 1 := IntWalk.i64_in _ (by omega)
    have hlt : (n : Int) - 1 < 1 := by omega
    clear hl hsh hm
    go_enter Tryd.func26, Tryd.ntmps26
    go_wp2
    go_ret
    exact ⟨ret_bool HR.out.symm, Below.refl _ _⟩
  · obtain ⟨m, rfl⟩ : ∃ m, n = m + 2 := ⟨n - 2, by omega⟩
    obtain ⟨b, off, rfl, hbl, hc⟩ := hl.2.2 (by omega)
    have hnc := hl.2.1
    have HLL := Lib.hid hl.1
    have hc0 := hc 0 (by omega)
    rw [Nat.add_zero] at hc0
    have HC0 := Lib.hid hc0
    have HC := Lib.hid hc
    have HP0 := Lib.hid (hsh 0 (by rw [hl.1]; omega))
    have HSH := Lib.hid hsh
    have HR := Lib.hid (matL_eq (l := s.data.toList) (ps := strsL l) (by rw [HLN.out]; omega))
    have HPA := Lib.hid (show pAt (strsL l) 0 = (sAt l 0).data.toList from strsL_at l 0 (by rw [hl.1]; omega))
    clear hs hl hsh hm hc hc0 h2
    go_enter Tryd.func26, Tryd.ntmps26
    go_upto_region 1 with fail
    go_cut [5] (fun s5 wx => s5 = .int .i64 ((m : Int) + 1) ∧ wx = w)
    case first =>
      have hw : IntKind.i64.wrap (((m + 2 : Nat) : Int) - 1) = (m : Int) + 1 := by rw [IntWalk.i64_in _ (by omega)]; omega
      have hw2 : IntKind.i64.wrap ((m : Int) + 2 - 1) = (m : Int) + 1 := by rw [IntWalk.i64_in _ (by omega)]; omega
      go_wp2
      go_meet
      exact ⟨by first | rfl | (congr 1; omega), rfl⟩
    case rest =>
    obtain ⟨rfl, rfl⟩ := hcut
    have g1 : ¬ (m : Int) + 1 < 1 := by omega
    have g2 : (0 : Int) < (m : Int) + 2 := by omega
    obtain ⟨w, rfl⟩ : ∃ x : World, x = wc := ⟨_, rfl⟩
    go_upto_region 4 with fail
    go_cut [6, 7] (fun s6 s7 wx => ∃ t : ByteArray, s6 = .string t ∧ s7 = .bool (Lib.hasPrefix (foldL s.data.toList) (lowL (pAt (strsL l) 0))) ∧ t.data.toList = Lib.trimPrefix (foldL s.data.toList) (lowL (pAt (strsL l) 0)) ∧ Below w.heap.size w wx)
    case first =>
      go_wp2_with fail
      have HB := Lib.hid ((Below.refl w.heap.size w).drew)
      refine wp_region_held_drew (S := (fun w' => w'.cell? ⟨b, off, none⟩ = some (.string (sAt l 0)))) (by kernel_rfl) ?_ (fun hHeld => ?_)
      focus ((try dsimp only); (exact (bkeep HB.out hbl off).trans HC0.out); done)
      refine wpAnyH_take (i := 0) (oi := ⟨_, _, _, _, _, _⟩) (v := ?_) rfl (by kernel_rfl) (by kernel_rfl) (by kernel_rfl) (fun _ _ _ h => h) (Or.inl ⟨by rfl, ?_⟩) (by assumption) ?_; rotate_left; (focus (intro w hSw; (try dsimp only at hSw); go_simp; (try with_reducible rfl); done)); simp only [Act.put, List.setIfInBounds_toArray, List.set_cons_zero, List.set_cons_succ]
      refine wpAnyH_take (i := 2) (oi := ⟨_, _, _, _, _, _⟩) (v := ?_) rfl (by kernel_rfl) (by kernel_rfl) (by kernel_rfl) (fun _ _ _ h => h) (Or.inl ⟨by rfl, ?_⟩) (by assumption) ?_; rotate_left; (focus (intro w hSw; (try dsimp only at hSw); go_simp; (try with_reducible rfl); done)); simp only [Act.put, List.setIfInBounds_toArray, List.set_cons_zero, List.set_cons_succ]
      refine wpAnyH_take (i := 3) (oi := ⟨_, _, _, _, _, _⟩) (v := ?_) rfl (by kernel_rfl) (by kernel_rfl) (by kernel_rfl) (fun _ _ _ h => h) (Or.inl ⟨by rfl, ?_⟩) (by assumption) ?_; rotate_left; (focus (intro w hSw; (try dsimp only at hSw); go_simp; (try with_reducible rfl); done)); simp only [Act.put, List.setIfInBounds_toArray, List.set_cons_zero, List.set_cons_succ]
      refine wpAnyH_take (i := 4) (oi := ⟨_, _, _, _, _, _⟩) (v := ?_) rfl (by kernel_rfl) (by kernel_rfl) (by kernel_rfl) (fun _ _ _ h => h) (Or.inl ⟨by rfl, ?_⟩) (by assumption) ?_; rotate_left; (focus (intro w hSw; (try dsimp only at hSw); go_simp; (try with_reducible rfl); done)); simp only [Act.put, List.setIfInBounds_toArray, List.set_cons_zero, List.set_cons_succ]
      refine wpAnyH_ready (rs := [1]) (by kernel_rfl) (by simp) ?_
      refine AllReadyH.cons (o := ⟨_, _, _, _, _, _⟩) rfl (fun K hK => ?_) AllReadyH.nil
      go_simp
      ((with_reducible refine (fold_t s _ HS.out).mono ?_); rintro e wn ⟨x, rfl, hx, hb⟩; have HX := Lib.hid hx; clear hx; (first | (have HBn := Lib.hid (ext_call HB.out hb)) | (have HBn := Lib.hid (ext_new HB.out hb))); clear HB hb; have HB := HBn; clear HBn)
      (try go_wp2_with fail)
      refine hK.out _ _ ?_ (fun hHeld => ?_)
      focus ((try dsimp only); (exact (bkeep HB.out hbl off).trans HC0.out); done)
      clear hK K
      (try simp only [Act.put, List.setIfInBounds_toArray, List.set_cons_zero, List.set_cons_succ])
      refine wpAnyH_ready (rs := [5]) (by kernel_rfl) (by simp) ?_
      refine AllReadyH.cons (o := ⟨_, _, _, _, _, _⟩) rfl (fun K hK => ?_) AllReadyH.nil
      go_simp
      ((with_reducible refine (lower_t _ _ HP0.out).mono ?_); rintro e wn ⟨y, rfl, hy, hb⟩; have HY := Lib.hid hy; clear hy; (first | (have HBn := Lib.hid (ext_call HB.out hb)) | (have HBn := Lib.hid (ext_new HB.out hb))); clear HB hb; have HB := HBn; clear HBn)
      (try go_wp2_with fail)
      refine hK.out _ _ ?_ (fun hHeld => ?_)
      focus ((try dsimp only); (exact (bkeep HB.out hbl off).trans HC0.out); done)
      clear hK K
      (try simp only [Act.put, List.setIfInBounds_toArray, List.set_cons_zero, List.set_cons_succ])
      refine wpAnyH_ready (rs := [6]) (by kernel_rfl) (by simp) ?_
      refine AllReadyH.cons (o := ⟨_, _, _, _, _, _⟩) rfl (fun K hK => ?_) AllReadyH.nil
      go_simp
      ((refine (Tryd.strings_CutPrefix _ _ _).mono ?_); rintro e wn ⟨rfl, rfl⟩)
      (try go_wp2_with fail)
      refine hK.out _ _ ?_ (fun hHeld => ?_)
      focus ((try dsimp only); (exact (bkeep HB.out hbl off).trans HC0.out); done)
      clear hK K
      (try simp only [Act.put, List.setIfInBounds_toArray, List.set_cons_zero, List.set_cons_succ])
      refine wpAnyH_take (i := 7) (oi := ⟨_, _, _, _, _, _⟩) (v := ?_) rfl (by kernel_rfl) (by kernel_rfl) (by kernel_rfl) (fun _ _ _ h => h) (Or.inl ⟨by rfl, ?_⟩) (by assumption) ?_; rotate_left; (focus (intro w hSw; (try dsimp only at hSw); go_simp; (try with_reducible rfl); done)); simp only [Act.put, List.setIfInBounds_toArray, List.set_cons_zero, List.set_cons_succ]
      refine wpAnyH_take (i := 8) (oi := ⟨_, _, _, _, _, _⟩) (v := ?_) rfl (by kernel_rfl) (by kernel_rfl) (by kernel_rfl) (fun _ _ _ h => h) (Or.inl ⟨by rfl, ?_⟩) (by assumption) ?_; rotate_left; (focus (intro w hSw; (try dsimp only at hSw); go_simp; (try with_reducible rfl); done)); simp only [Act.put, List.setIfInBounds_toArray, List.set_cons_zero, List.set_cons_succ]
      refine wpAnyH_take (i := 10) (oi := ⟨_, _, _, _, _, _⟩) (v := ?_) rfl (by kernel_rfl) (by kernel_rfl) (by kernel_rfl) (fun _ _ _ h => h) (Or.inl ⟨by rfl, ?_⟩) (by assumption) ?_; rotate_left; (focus (intro w hSw; (try dsimp only at hSw); go_simp; (try with_reducible rfl); done)); simp only [Act.put, List.setIfInBounds_toArray, List.set_cons_zero, List.set_cons_succ]
      refine wpAnyH_take (i := 9) (oi := ⟨_, _, _, _, _, _⟩) (v := ?_) rfl (by kernel_rfl) (by kernel_rfl) (by kernel_rfl) (fun _ _ _ h => h) (Or.inl ⟨by rfl, ?_⟩) (by assumption) ?_; rotate_left; (focus (intro w hSw; (try dsimp only at hSw); go_simp; (try with_reducible rfl); done)); simp only [Act.put, List.setIfInBounds_toArray, List.set_cons_zero, List.set_cons_succ]
      refine wpAnyH_take (i := 11) (oi := ⟨_, _, _, _, _, _⟩) (v := ?_) rfl (by kernel_rfl) (by kernel_rfl) (by kernel_rfl) (fun _ _ _ h => h) (Or.inl ⟨by rfl, ?_⟩) (by assumption) ?_; rotate_left; (focus (intro w hSw; (try dsimp only at hSw); go_simp; (try with_reducible rfl); done)); simp only [Act.put, List.setIfInBounds_toArray, List.set_cons_zero, List.set_cons_succ]
      refine wpAnyH_done (by kernel_rfl) ?_ _
      go_wp2
      go_meet
      exact ⟨_, rfl, by rw [HX.out, HY.out, HPA.out], by rw [HX.out, HY.out, HPA.out], HB.out⟩
    case rest =>
    obtain ⟨t0, rfl, rfl, ht0, hb0⟩ := hcut
    have HT0 := Lib.hid ht0
    have HB0 := Lib.hid hb0
    have HZ0 := Lib.hid (show t0.size ≤ 100000 by
      have h1 := trimPrefix_le (foldL s.data.toList) (lowL (pAt (strsL l) 0))
      have h2 := foldL_le s.data.toList
      rw [← ht0] at h1
      simp at h1 h2
      have := HS.out
      omega)
    obtain ⟨ok0, hok0⟩ : ∃ ok, ok = Lib.hasPrefix (foldL s.data.toList) (lowL (pAt (strsL l) 0)) := ⟨_, rfl⟩
    rw [← hok0]
    obtain ⟨V, hV⟩ : ∃ V, V = stM ok0 t0.data.toList (strsL l) 0 := ⟨_, rfl⟩
    have HV := Lib.hid (show matL s.data.toList (strsL l) = finB (lowL (pAt (strsL l) (m + 1))) V by rw [HR.out, hV, hok0, ht0, HLN.out]; rfl)
    have HV0 := Lib.hid hV.symm
    clear ht0 hb0 hok0 hV
    have k1 : (1 : Int) ≤ (m : Int) + 1 := by omega
    have k2 : (m : Int) + 1 ≤ (c : Int) := by omega
    have k3 : ((m : Int) + 1).toNat = m + 1 := by omega
    have k4 : ¬ c = 1 := by omega
    have k5 : 1 ≤ c := by omega
    go_wp2_with fail
    go_loopw [6, 7, 9, 29] (fun r ok _ i wr => ∃ (k : Nat) (t : ByteArray) (okb : Bool), k ≤ m ∧ i = .int .i64 k ∧ r = .string t ∧ ok = .bool okb ∧ t.size ≤ 100000 ∧ Hid (stM okb t.data.toList (strsL l) k = V) ∧ Below w.heap.size w wr) (fun _ _ _ i _ => m - (intOf i).toNat)
    case atStart => exact ⟨0, t0, ok0, Nat.zero_le _, rfl, rfl, rfl, HZ0.out, HV0.out, HB0.out⟩
    case round =>
      obtain ⟨k, t, okb, hk, rfl, rfl, rfl, htz, HST, hb⟩ := hrel
      have HB := Lib.hid hb
      clear hb
      by_cases hlt : k < m
      · have hck := (bkeep HB.out hbl (off + (k + 1))).trans (HC.out (k + 1) (by omega))
        rw [show off + (k + 1) = off + 1 + k by omega] at hck
        have HSZ := Lib.hid (HSH.out (k + 1) (by rw [HLL.out]; omega))
        have HPK := Lib.hid (show pAt (strsL l) (k + 1) = (sAt l (k + 1)).data.toList from strsL_at l (k + 1) (by rw [HLL.out]; omega))
        cases okb with
        | false =>
          have HF := Lib.hid (show matL s.data.toList (strsL l) = false by rw [HV.out, ← HST.out]; rfl)
          go_wp2
          go_ret
          exact ⟨ret_bool HF.out.symm, HB.out⟩
        | true =>
          go_wp2_with fail
          refine (lower_t _ _ HSZ.out).mono ?_
          rintro e w3 ⟨y, rfl, hy, hb⟩
          have HY := Lib.hid hy
          (first | (have HBn := Lib.hid (ext_call HB.out hb)) | (have HBn := Lib.hid (ext_new HB.out hb))); clear HB hb; have HB := HBn; clear HBn
          clear hy
          go_wp2_with fail
          refine (cut_t t y _ htz (HM.out.later HB.out)).mono ?_
          rintro e w4 ⟨x1, x2, rfl, hx2, hb⟩
          have HX2 := Lib.hid hx2
          (first | (have HBn := Lib.hid (ext_call HB.out hb)) | (have HBn := Lib.hid (ext_new HB.out hb))); clear HB hb; have HB := HBn; clear HBn
          have HZ2 := Lib.hid (show x2.size ≤ 100000 by
            have h1 := cut_le t.data.toList y.data.toList
            rw [← hx2] at h1
            simp at h1
            omega)
          have HNX := Lib.hid (show stM (Lib.cut t.data.toList y.data.toList).2.2 x2.data.toList (strsL l) (k + 1) = V by
            rw [← HST.out, stM_step (by rw [HLN.out]; omega) HPK.out, HX2.out, HY.out])
          obtain ⟨ob, hob⟩ : ∃ ob, ob = (Lib.cut t.data.toList y.data.toList).2.2 := ⟨_, rfl⟩
          rw [← hob] at HNX ⊢
          clear hx2 hob
          go_wp2
          go_roundw
          case rel => exact ⟨k + 1, x2, ob, by omega, by go_num, rfl, rfl, HZ2.out, HNX.out, HB.out⟩
          case measure => simp [intOf]; omega
      · have e : k = m := by omega
        subst e
        have hck := (bkeep HB.out hbl (off + (k + 1))).trans (HC.out (k + 1) (by omega))
        have HSZ := Lib.hid (HSH.out (k + 1) (by rw [HLL.out]; omega))
        have HPK := Lib.hid (show pAt (strsL l) (k + 1) = (sAt l (k + 1)).data.toList from strsL_at l (k + 1) (by rw [HLL.out]; omega))
        have HEE := Lib.hid (show stM true t.data.toList (strsL l) k = some t.data.toList by
          have := stM_end (t := t.data.toList) (ps := strsL l) (by rw [HLN.out]; omega)
          rw [HLN.out] at this
          exact this)
        cases okb with
        | false =>
          have HF := Lib.hid (show matL s.data.toList (strsL l) = false by rw [HV.out, ← HST.out]; rfl)
          go_wp2
          go_ret
          exact ⟨ret_bool HF.out.symm, HB.out⟩
        | true =>
          go_wp2_with fail
          refine (lower_t _ _ HSZ.out).mono ?_
          rintro e w3 ⟨y, rfl, hy, hb⟩
          have HY := Lib.hid hy
          (first | (have HBn := Lib.hid (ext_call HB.out hb)) | (have HBn := Lib.hid (ext_new HB.out hb))); clear HB hb; have HB := HBn; clear HBn
          clear hy
          go_wp2_with fail
          refine (Tryd.strings_HasSuffix t y _ (by omega)).mono ?_
          rintro e w4 ⟨rfl, rfl⟩
          have HF := Lib.hid (show matL s.data.toList (strsL l) = Lib.hasSuffix t.data.toList y.data.toList by rw [HV.out, ← HST.out, HEE.out, HY.out, HPK.out]; rfl)
          go_wp2
          go_ret
          exact ⟨ret_bool HF.out.symm, HB.out⟩
end Go.Proofs.YtphlihmngbmiiaaDoor.Fo
