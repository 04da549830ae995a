/-
  The walk of layer 1: the reference's Match.
-/
import Derived.Test.YtphlihmngbmiiaaDoorFoJ
namespace Go.Proofs.YtphlihmngbmiiaaDoor.Fo
open Go.RowKit

theorem matL_no1 {l : List UInt8} {ps : List (List UInt8)} (h : Lib.hasPrefix (foldL l) (lowL (pAt ps 0)) = false) : matL l ps = false := by
  rw [matL, h]; simp
theorem matL_eq2 {l : List UInt8} {ps : List (List UInt8)} (h : 2 ≤ ps.length) (hp : Lib.hasPrefix (foldL l) (lowL (pAt ps 0)) = true) : matL l ps = finB (lowL (pAt ps (ps.length - 1))) (midF ((foldL l).drop (lowL (pAt ps 0)).length) (midsL ps)) := by
  rw [matL, decide_eq_true h, hp, Lib.trimPrefix, if_pos hp]; rfl
theorem hasPrefix_le {l p : List UInt8} (h : Lib.hasPrefix l p = true) : p.length ≤ l.length := (List.isPrefixOf_iff_prefix.1 h).length_le
theorem occL_in {t p : List UInt8} {i : Nat} (h : i + p.length ≤ t.length) : occL t p i = Lib.occAt t p i := by rw [occL, decide_eq_true h]; rfl
theorem occurs_is (a b : ByteArray) (i : Nat) (w : World) (ha : a.size ≤ 100000) (hb : b.size ≤ 100000) (hi : i ≤ 100000) (x : Bool) (h : occL a.data.toList b.data.toList i = x) :
    Calls Tryd.prog 43 #[.string a, .string b, .int .i64 (i : Int)] w fun e w' => e = .returned (.bool x) ∧ w = w' := by
  rw [← h]; exact occurs_any a b i w ha hb hi

set_option maxRecDepth 100000 in
set_option maxHeartbeats 8000000 in
theorem rmatch_any (s : ByteArray) (A : Option Addr) (n c : Nat) (l : List ByteArray) (w : World) (hs : s.size ≤ 100000) (hl : Ss w A n c l) (hn : n ≤ 1000) (hsh : Short l) :
    Calls Tryd.prog 27 #[.string s, .slice A n c] w fun e w' => e = .returned (.bool (matL s.data.toList (strsL l))) ∧ Below w.heap.size w w' := by
  have HS := Lib.hid hs
  have HLN := Lib.hid (show (strsL l).length = n by rw [strsL, List.length_map, hl.1])
  rcases Nat.lt_or_ge n 2 with h2 | h2
  · have HR := Lib.hid (show matL s.data.toList (strsL l) = false from matL_short (by rw [HLN.out]; exact h2))
    have hlt : (n : Int) < 2 := by omega
    clear hl hsh
    go_enter Tryd.func27, Tryd.ntmps27
    go_wp2
    go_ret
    exact ⟨ret_bool HR.out.symm, Below.refl _ _⟩
  · obtain ⟨m, rfl⟩ : ∃ m, n = m + 2 := ⟨n - 2, by omega⟩
    obtain ⟨b, off, rfl, hbl, hc⟩ := hl.2.2 (by omega)
    have hnc := hl.2.1
    have HLL := Lib.hid hl.1
    have hc0 := hc 0 (by omega)
    rw [Nat.add_zero] at hc0
    have HC00 := Lib.hid hc0
    have HC := Lib.hid hc
    have HP0 := Lib.hid (hsh 0 (by rw [hl.1]; omega))
    have HPL := Lib.hid (hsh (m + 1) (by rw [hl.1]; omega))
    have HSH := Lib.hid hsh
    have HPA := Lib.hid (show pAt (strsL l) 0 = (sAt l 0).data.toList from strsL_at l 0 (by rw [hl.1]; omega))
    have HPB := Lib.hid (show pAt (strsL l) (m + 1) = (sAt l (m + 1)).data.toList from strsL_at l (m + 1) (by rw [hl.1]; omega))
    have HL1 := Lib.hid (show (strsL l).length - 1 = m + 1 by rw [HLN.out]; omega)
    have n2 : ¬ ((m + 2 : Nat) : Int) < 2 := by omega
    have n2' : ¬ (m : Int) + 2 < 2 := by omega
    clear hs hl hsh hc hc0 h2
    go_enter Tryd.func27, Tryd.ntmps27
    go_upto_region 3 with fail
    go_cut [5] (fun s5 wx => ∃ t : ByteArray, s5 = .string t ∧ t.data.toList = foldL s.data.toList ∧ Below w.heap.size w wx)
    case first =>
      go_wp2_with fail
      refine (rfold_t s _ HS.out).mono ?_
      rintro e w1 ⟨t, rfl, ht, hb1⟩
      have HT := Lib.hid ht
      have HB1 := Lib.hid hb1
      clear ht hb1
      go_wp2
      go_meet
      exact ⟨t, rfl, HT.out, HB1.out⟩
    case rest =>
    obtain ⟨t, rfl, ht, hb1⟩ := hcut
    obtain ⟨w1, rfl⟩ : ∃ x : World, x = wc := ⟨_, rfl⟩
    have HT := Lib.hid ht
    have HW1 := Lib.hid hb1
    have HC0 := Lib.hid ((bkeep hb1 hbl off).trans HC00.out)
    have HCL := Lib.hid ((bkeep hb1 hbl (off + (m + 1))).trans (HC.out (m + 1) (by omega)))
    have hbl0 := hbl
    have hbl : b < w1.heap.size := Nat.lt_of_lt_of_le hbl0 hb1.size
    have htz : t.size ≤ 100000 := by
      have h1 := foldL_le s.data.toList
      rw [← ht] at h1
      simp at h1
      have := HS.out
      omega
    clear ht hb1
    go_upto_region 4 with fail
    go_cut [6, 7] (fun s6 s7 wx => ∃ x y : ByteArray, s6 = .string x ∧ s7 = .string y ∧ x.data.toList = lowL (pAt (strsL l) 0) ∧ y.data.toList = lowL (pAt (strsL l) (m + 1)) ∧ Below w1.heap.size w1 wx)
    case first =>
      have g1 : (0 : Int) < (m : Int) + 2 := by omega
      have g2 : (0 : Int) ≤ (m : Int) + 1 := by omega
      have g3 : (m : Int) + 1 < (m : Int) + 2 := by omega
      have g4 : ((m : Int) + 1).toNat = m + 1 := by omega
      have g5 : IntKind.i64.wrap ((m : Int) + 2 - 1) = (m : Int) + 1 := by rw [IntWalk.i64_in _ (by omega)]; omega
      go_wp2_with fail
      have HB := Lib.hid ((Below.refl w1.heap.size w1).drew)
      refine wp_region_held_drew (S := (fun w' => w'.cell? ⟨b, off, none⟩ = some (.string (sAt l 0)) ∧ w'.cell? ⟨b, off + (m + 1), none⟩ = some (.string (sAt l (m + 1))))) (by kernel_rfl) ?_ (fun hHeld => ?_)
      focus ((try dsimp only); (exact ⟨(bkeep HB.out hbl off).trans HC0.out, (bkeep HB.out hbl (off + (m + 1))).trans HCL.out⟩); done)
      refine wpAnyH_take (i := 0) (oi := ⟨_, _, _, _, _, _⟩) (v := ?_) rfl (by kernel_rfl) (by kernel_rfl) (by kernel_rfl) (fun _ _ _ h => h) (Or.inl ⟨by rfl, ?_⟩) (by assumption) ?_; rotate_left; (focus (intro w hSw; (try dsimp only at hSw); go_simp; (try with_reducible rfl); done)); simp only [Act.put, List.setIfInBounds_toArray, List.set_cons_zero, List.set_cons_succ]
      refine wpAnyH_take (i := 1) (oi := ⟨_, _, _, _, _, _⟩) (v := ?_) rfl (by kernel_rfl) (by kernel_rfl) (by kernel_rfl) (fun _ _ _ h => h) (Or.inl ⟨by rfl, ?_⟩) (by assumption) ?_; rotate_left; (focus (intro w hSw; (try dsimp only at hSw); go_simp; (try with_reducible rfl); done)); simp only [Act.put, List.setIfInBounds_toArray, List.set_cons_zero, List.set_cons_succ]
      refine wpAnyH_take (i := 2) (oi := ⟨_, _, _, _, _, _⟩) (v := ?_) rfl (by kernel_rfl) (by kernel_rfl) (by kernel_rfl) (fun _ _ _ h => h) (Or.inl ⟨by rfl, ?_⟩) (by assumption) ?_; rotate_left; (focus (intro w hSw; (try dsimp only at hSw); go_simp; (try with_reducible rfl); done)); simp only [Act.put, List.setIfInBounds_toArray, List.set_cons_zero, List.set_cons_succ]
      refine wpAnyH_take (i := 4) (oi := ⟨_, _, _, _, _, _⟩) (v := ?_) rfl (by kernel_rfl) (by kernel_rfl) (by kernel_rfl) (fun _ _ _ h => h) (Or.inl ⟨by rfl, ?_⟩) (by assumption) ?_; rotate_left; (focus (intro w hSw; (try dsimp only at hSw); go_simp; (try with_reducible rfl); done)); simp only [Act.put, List.setIfInBounds_toArray, List.set_cons_zero, List.set_cons_succ]
      refine wpAnyH_take (i := 5) (oi := ⟨_, _, _, _, _, _⟩) (v := ?_) rfl (by kernel_rfl) (by kernel_rfl) (by kernel_rfl) (fun _ _ _ h => h) (Or.inl ⟨by rfl, ?_⟩) (by assumption) ?_; rotate_left; (focus (intro w hSw; (try dsimp only at hSw); go_simp; (try with_reducible rfl); done)); simp only [Act.put, List.setIfInBounds_toArray, List.set_cons_zero, List.set_cons_succ]
      refine wpAnyH_take (i := 6) (oi := ⟨_, _, _, _, _, _⟩) (v := ?_) rfl (by kernel_rfl) (by kernel_rfl) (by kernel_rfl) (fun _ _ _ h => h) (Or.inl ⟨by rfl, ?_⟩) (by assumption) ?_; rotate_left; (focus (intro w hSw; (try dsimp only at hSw); go_simp; (try with_reducible rfl); done)); simp only [Act.put, List.setIfInBounds_toArray, List.set_cons_zero, List.set_cons_succ]
      refine wpAnyH_take (i := 7) (oi := ⟨_, _, _, _, _, _⟩) (v := ?_) rfl (by kernel_rfl) (by kernel_rfl) (by kernel_rfl) (fun _ _ _ h => h) (Or.inl ⟨by rfl, ?_⟩) (by assumption) ?_; rotate_left; (focus (intro w hSw; (try dsimp only at hSw); go_simp; (try with_reducible rfl); done)); simp only [Act.put, List.setIfInBounds_toArray, List.set_cons_zero, List.set_cons_succ]
      refine wpAnyH_take (i := 8) (oi := ⟨_, _, _, _, _, _⟩) (v := ?_) rfl (by kernel_rfl) (by kernel_rfl) (by kernel_rfl) (fun _ _ _ h => h) (Or.inl ⟨by rfl, ?_⟩) (by assumption) ?_; rotate_left; (focus (intro w hSw; (try dsimp only at hSw); go_simp; (try with_reducible rfl); done)); simp only [Act.put, List.setIfInBounds_toArray, List.set_cons_zero, List.set_cons_succ]
      refine wpAnyH_take (i := 9) (oi := ⟨_, _, _, _, _, _⟩) (v := ?_) rfl (by kernel_rfl) (by kernel_rfl) (by kernel_rfl) (fun _ _ _ h => h) (Or.inl ⟨by rfl, ?_⟩) (by assumption) ?_; rotate_left; (focus (intro w hSw; (try dsimp only at hSw); go_simp; (try with_reducible rfl); done)); simp only [Act.put, List.setIfInBounds_toArray, List.set_cons_zero, List.set_cons_succ]
      refine wpAnyH_ready (rs := [3]) (by kernel_rfl) (by simp) ?_
      refine AllReadyH.cons (o := ⟨_, _, _, _, _, _⟩) rfl (fun K hK => ?_) AllReadyH.nil
      go_simp
      ((with_reducible refine (rlower_t _ _ HP0.out).mono ?_); rintro e wn ⟨x, rfl, hx, hb⟩; have HX := Lib.hid hx; clear hx; (first | (have HBn := Lib.hid (ext_call HB.out hb)) | (have HBn := Lib.hid (ext_new HB.out hb))); clear HB hb; have HB := HBn; clear HBn)
      (try go_wp2_with fail)
      refine hK.out _ _ ?_ (fun hHeld => ?_)
      focus ((try dsimp only); (exact ⟨(bkeep HB.out hbl off).trans HC0.out, (bkeep HB.out hbl (off + (m + 1))).trans HCL.out⟩); done)
      clear hK K
      (try simp only [Act.put, List.setIfInBounds_toArray, List.set_cons_zero, List.set_cons_succ])
      refine wpAnyH_ready (rs := [10]) (by kernel_rfl) (by simp) ?_
      refine AllReadyH.cons (o := ⟨_, _, _, _, _, _⟩) rfl (fun K hK => ?_) AllReadyH.nil
      go_simp
      ((with_reducible refine (rlower_t _ _ HPL.out).mono ?_); rintro e wn ⟨y, rfl, hy, hb⟩; have HY := Lib.hid hy; clear hy; (first | (have HBn := Lib.hid (ext_call HB.out hb)) | (have HBn := Lib.hid (ext_new HB.out hb))); clear HB hb; have HB := HBn; clear HBn)
      (try go_wp2_with fail)
      refine hK.out _ _ ?_ (fun hHeld => ?_)
      focus ((try dsimp only); (exact ⟨(bkeep HB.out hbl off).trans HC0.out, (bkeep HB.out hbl (off + (m + 1))).trans HCL.out⟩); done)
      clear hK K
      (try simp only [Act.put, List.setIfInBounds_toArray, List.set_cons_zero, List.set_cons_succ])
      refine wpAnyH_take (i := 11) (oi := ⟨_, _, _, _, _, _⟩) (v := ?_) rfl (by kernel_rfl) (by kernel_rfl) (by kernel_rfl) (fun _ _ _ h => h) (Or.inl ⟨by rfl, ?_⟩) (by assumption) ?_; rotate_left; (focus (intro w hSw; (try dsimp only at hSw); go_simp; (try with_reducible rfl); done)); simp only [Act.put, List.setIfInBounds_toArray, List.set_cons_zero, List.set_cons_succ]
      refine wpAnyH_take (i := 12) (oi := ⟨_, _, _, _, _, _⟩) (v := ?_) rfl (by kernel_rfl) (by kernel_rfl) (by kernel_rfl) (fun _ _ _ h => h) (Or.inl ⟨by rfl, ?_⟩) (by assumption) ?_; rotate_left; (focus (intro w hSw; (try dsimp only at hSw); go_simp; (try with_reducible rfl); done)); simp only [Act.put, List.setIfInBounds_toArray, List.set_cons_zero, List.set_cons_succ]
      refine wpAnyH_done (by kernel_rfl) ?_ _
      go_wp2
      go_meet
      exact ⟨x, y, rfl, rfl, by rw [HX.out, HPA.out], by rw [HY.out, HPB.out], HB.out⟩
    case rest =>
    obtain ⟨x, y, rfl, rfl, hx, hy, hb2⟩ := hcut
    obtain ⟨w2, rfl⟩ : ∃ x : World, x = wc := ⟨_, rfl⟩
    have HX := Lib.hid hx
    have HY := Lib.hid hy
    have HW2 := Lib.hid (ext_call HW1.out hb2)
    have HBL := Lib.hid (Nat.lt_of_lt_of_le hbl hb2.size)
    have HCK := Lib.hid (fun i hi => (bkeep (ext_call HW1.out hb2) hbl0 (off + i)).trans (HC.out i hi))
    have hxz : x.size ≤ 100000 := by
      have h1 : x.data.toList.length = (lowL (pAt (strsL l) 0)).length := by rw [hx]
      rw [lowL_length, HPA.out] at h1
      simp at h1
      have := HP0.out
      omega
    have hyz : y.size ≤ 100000 := by
      have h1 : y.data.toList.length = (lowL (pAt (strsL l) (m + 1))).length := by rw [hy]
      rw [lowL_length, HPB.out] at h1
      simp at h1
      have := HPL.out
      omega
    have HTL := Lib.hid (show t.data.toList.length = t.size by simp)
    have HXL := Lib.hid (show x.data.toList.length = x.size by simp)
    have HYL := Lib.hid (show y.data.toList.length = y.size by simp)
    clear hx hy hb2 HC0 HCL HC00 hbl hbl0
    obtain ⟨z, hz⟩ : ∃ z : Int, z = (t.size : Int) - (y.size : Int) := ⟨_, rfl⟩
    have hwz : IntKind.i64.wrap ((t.size : Int) - (y.size : Int)) = z := by rw [IntWalk.i64_in _ (by omega)]; exact hz.symm
    have HZ := Lib.hid hz
    clear hz
    cases hpre : Lib.hasPrefix (foldL s.data.toList) (lowL (pAt (strsL l) 0)) with
    | false =>
      have HR := Lib.hid (matL_no1 hpre)
      have HO := Lib.hid (show occL t.data.toList x.data.toList 0 = false by rw [occL_prefix, HT.out, HX.out]; exact hpre)
      clear hpre
      go_wp2_with fail
      refine (occurs_is t x 0 _ htz hxz (by omega) _ HO.out).mono ?_
      rintro e w3 ⟨rfl, rfl⟩
      go_wp2
      go_ret
      exact ⟨ret_bool HR.out.symm, HW2.out⟩
    | true =>
      have HPRE := Lib.hid hpre
      have hxt : x.size ≤ t.size := by
        have := hasPrefix_le hpre
        rw [← HT.out, ← HX.out, HTL.out, HXL.out] at this
        exact this
      have HO := Lib.hid (show occL t.data.toList x.data.toList 0 = true by rw [occL_prefix, HT.out, HX.out]; exact hpre)
      have HEQ := Lib.hid (show matL s.data.toList (strsL l) = finB y.data.toList (midF (t.data.toList.drop x.size) (midsL (strsL l))) by
        rw [matL_eq2 (by rw [HLN.out]; omega) hpre, HL1.out, ← HX.out, HXL.out, HY.out, HT.out])
      clear hpre
      by_cases hzx : z < (x.size : Int)
      · have HR := Lib.hid (show matL s.data.toList (strsL l) = false by
          rw [HEQ.out]
          have := HZ.out
          exact past_end _ _ _ _ (by rw [HTL.out, HYL.out]; omega) (by rw [HYL.out]; omega))
        go_wp2_with fail
        refine (occurs_is t x 0 _ htz hxz (by omega) _ HO.out).mono ?_
        rintro e w3 ⟨rfl, rfl⟩
        go_wp2
        go_ret
        exact ⟨ret_bool HR.out.symm, HW2.out⟩
      · obtain ⟨e, rfl⟩ : ∃ e : Nat, z = (e : Int) := ⟨z.toNat, by omega⟩
        have hze : e + y.size = t.size := by have := HZ.out; omega
        have hxe : x.size ≤ e := by omega
        have HSE := Lib.hid hze
        have d1 : decide (e < x.size) = false := by simp; omega
        have het : e ≤ t.size := by omega
        clear hze
        cases hsuf : Lib.hasSuffix t.data.toList y.data.toList with
        | false =>
          have HR := Lib.hid (show matL s.data.toList (strsL l) = false by rw [HEQ.out]; exact no_suffix _ _ _ _ hsuf)
          have HO2 := Lib.hid (show occL t.data.toList y.data.toList e = false by rw [occL_suffix _ _ _ (by rw [HYL.out, HTL.out]; exact HSE.out)]; exact hsuf)
          clear hsuf
          go_wp2_with fail
          refine (occurs_is t x 0 _ htz hxz (by omega) _ HO.out).mono ?_
          rintro e w3 ⟨rfl, rfl⟩
          go_wp2_with fail
          refine (occurs_is t y _ _ htz hyz (by omega) _ HO2.out).mono ?_
          rintro e w3 ⟨rfl, rfl⟩
          go_wp2
          go_ret
          exact ⟨ret_bool HR.out.symm, HW2.out⟩
        | true =>
          have HSUF := Lib.hid hsuf
          have HO2 := Lib.hid (show occL t.data.toList y.data.toList e = true by rw [occL_suffix _ _ _ (by rw [HYL.out, HTL.out]; exact HSE.out)]; exact hsuf)
          clear hsuf
          go_wp2_with fail
          refine (occurs_is t x 0 _ htz hxz (by omega) _ HO.out).mono ?_
          rintro e' w3 ⟨rfl, rfl⟩
          go_wp2_with fail
          refine (occurs_is t y _ _ htz hyz (by omega) _ HO2.out).mono ?_
          rintro e' w3 ⟨rfl, rfl⟩
          go_wp2_with fail
          clear hwz n2 n2'
          go_loopw [9, 10, 11] (fun at_ i _ wr => ∃ k a : Nat, k ≤ m ∧ i = .int .i64 ((k : Int) + 1) ∧ at_ = .int .i64 a ∧ a ≤ e ∧ Hid (finB y.data.toList (midF (t.data.toList.drop a) ((midsL (strsL l)).drop k)) = matL s.data.toList (strsL l)) ∧ Below w2.heap.size w2 wr) (fun _ i _ _ => m + 1 - (intOf i).toNat)
          case atStart => exact ⟨0, x.size, Nat.zero_le _, rfl, rfl, hxe, by show _ = _; rw [HEQ.out]; rfl, Below.refl _ _⟩
          case round =>
            obtain ⟨k, a, hk, rfl, rfl, hae, HRE, hb⟩ := hrel
            obtain ⟨wa, rfl⟩ : ∃ wa : World, wa = wr := ⟨_, rfl⟩
            have HB := Lib.hid hb
            clear hb
            have hw1 : IntKind.i64.wrap ((k : Int) + 1 + 1) = (k : Int) + 2 := by rw [IntWalk.i64_in _ (by omega)]; omega
            by_cases hlt : k < m
            · have t1 : (k : Int) + 2 < (m : Int) + 2 := by omega
              have hck := (bkeep HB.out HBL.out (off + (k + 1))).trans (HCK.out (k + 1) (by omega))
              have HSZ := Lib.hid (HSH.out (k + 1) (by rw [HLL.out]; omega))
              have HPK := Lib.hid (show pAt (strsL l) (k + 1) = (sAt l (k + 1)).data.toList from strsL_at l (k + 1) (by rw [HLL.out]; omega))
              have HMID := Lib.hid (midsL_at (strsL l) k (by rw [HLN.out]; omega))
              have i1 : (0 : Int) ≤ (k : Int) + 1 := by omega
              have i2 : (k : Int) + 1 < (m : Int) + 2 := by omega
              have i3 : ((k : Int) + 1).toNat = k + 1 := by omega
              go_wp2_with fail
              refine (rlower_t _ _ HSZ.out).mono ?_
              rintro e' w4 ⟨p, rfl, hp, hb⟩
              have HP := Lib.hid hp
              (first | (have HBn := Lib.hid (ext_call HB.out hb)) | (have HBn := Lib.hid (ext_new HB.out hb))); clear HB hb; have HB := HBn; clear HBn
              have hpz : p.size ≤ 100000 := by
                have h1 : p.data.toList.length = (lowL (sAt l (k + 1)).data.toList).length := by rw [hp]
                rw [lowL_length] at h1
                simp at h1
                have := HSZ.out
                omega
              have HPLN := Lib.hid (show p.data.toList.length = p.size by simp)
              clear hp i1 i2 i3 hck
              go_wp2_with fail
              go_loop [9] (fun at_ => ∃ a' : Nat, a ≤ a' ∧ at_ = .int .i64 a' ∧ a' ≤ e + 1 ∧ Hid (∀ j, a ≤ j → j < a' → Lib.occAt t.data.toList p.data.toList j = false)) (fun at_ => e + 1 - (intOf at_).toNat)
              case atStart => exact ⟨a, Nat.le_refl _, rfl, by omega, fun j h1 h2 => absurd h2 (by omega)⟩
              case round =>
                obtain ⟨a', ha1, rfl, ha2, HNO⟩ := hrel
                have hw2 : IntKind.i64.wrap ((a' : Int) + (p.size : Int)) = (a' : Int) + (p.size : Int) := IntWalk.i64_in _ (by omega)
                by_cases hfit : a' + p.size ≤ e
                · have f1 : (a' : Int) + (p.size : Int) ≤ (e : Int) := by omega
                  cases hocc : Lib.occAt t.data.toList p.data.toList a' with
                  | true =>
                    have HO3 := Lib.hid (show occL t.data.toList p.data.toList a' = true by rw [occL_in (by rw [HPLN.out, HTL.out]; omega)]; exact hocc)
                    have HFD := Lib.hid (found t.data.toList p.data.toList a a' ((midsL (strsL l)).drop (k + 1)) ha1 (by rw [HTL.out]; omega) HNO.out hocc)
                    clear hocc
                    go_wp2_with fail
                    refine (occurs_is t p _ _ htz hpz (by omega) _ HO3.out).mono ?_
                    rintro e' w5 ⟨rfl, rfl⟩
                    go_wp2
                    go_roundw
                    case rel => exact ⟨k + 1, a' + p.size, by omega, by go_num, by go_num, by omega, by show _ = _; rw [← HRE.out, HMID.out, HPK.out, ← HP.out, HFD.out, HPLN.out], HB.out⟩
                    case measure => simp [intOf]; omega
                  | false =>
                    have HO3 := Lib.hid (show occL t.data.toList p.data.toList a' = false by rw [occL_in (by rw [HPLN.out, HTL.out]; omega)]; exact hocc)
                    have HOC := Lib.hid hocc
                    clear hocc
                    go_wp2_with fail
                    refine (occurs_is t p _ _ htz hpz (by omega) _ HO3.out).mono ?_
                    rintro e' w5 ⟨rfl, rfl⟩
                    go_wp2
                    go_round
                    case rel => exact ⟨a' + 1, by omega, by go_num, by omega, fun j h1 h2 => if h : j = a' then by rw [h]; exact HOC.out else HNO.out j h1 (by omega)⟩
                    case measure => simp [intOf]; omega
                · have f1 : ¬ (a' : Int) + (p.size : Int) ≤ (e : Int) := by omega
                  have f2 : (e : Int) < (a' : Int) + (p.size : Int) := by omega
                  have HR := Lib.hid (show matL s.data.toList (strsL l) = false by
                    rw [← HRE.out, HMID.out, HPK.out, ← HP.out]
                    exact not_found _ _ _ a a' _ (by rw [HTL.out]; omega) HNO.out (by rw [HTL.out, HPLN.out, HYL.out]; have := HSE.out; omega))
                  go_wp2
                  go_ret
                  exact ⟨ret_bool HR.out.symm, ext_call HW2.out HB.out⟩
            · have ek : k = m := by omega
              subst ek
              have t1 : ¬ (k : Int) + 2 < (k : Int) + 2 := by omega
              have HR := Lib.hid (show matL s.data.toList (strsL l) = true by
                rw [← HRE.out, List.drop_of_length_le (l := midsL (strsL l)) (by rw [midsL_length _ (by rw [HLN.out]; omega), HLN.out]; omega)]
                exact last_fits _ _ _ (by rw [HYL.out, HTL.out]; have := HSE.out; omega) HSUF.out)
              go_wp2
              go_ret
              exact ⟨ret_bool HR.out.symm, ext_call HW2.out HB.out⟩
end Go.Proofs.YtphlihmngbmiiaaDoor.Fo
