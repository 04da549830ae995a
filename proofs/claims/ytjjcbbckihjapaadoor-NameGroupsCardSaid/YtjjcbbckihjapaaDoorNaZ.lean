/-
  The walks of layer 5: the reference's Compare.
-/
import Derived.Test.YtjjcbbckihjapaaDoorNaY
namespace Go.Proofs.YtjjcbbckihjapaaDoor.Na
open Go.RowKit Go.Proofs.YtjjcbbckihjapaaDoor.Fo

theorem bytes_any (a b : ByteArray) (w : World) : Calls Tryd.prog 59 #[.string a, .string b] w fun e w' => e = .returned (.int .i64 (ordS a.data.toList b.data.toList)) ∧ w = w' := by
  have e1 : a.toList = a.data.toList := Lib.toList_data _
  have e2 : b.toList = b.data.toList := Lib.toList_data _
  have E1 := Lib.hid e1
  have E2 := Lib.hid e2
  clear e1 e2
  cases h : Op.bytesLess a.toList b.toList with
  | true =>
    have HF := Lib.hid (show ordS a.data.toList b.data.toList = -1 by rw [← E1.out, ← E2.out]; simp [ordS, h])
    go_enter Tryd.func59, Tryd.ntmps59
    go_wp2
    go_ret
    exact ⟨ret_int HF.out.symm, rfl⟩
  | false =>
    cases h2 : (a.toList == b.toList) with
    | true =>
      have HF := Lib.hid (show ordS a.data.toList b.data.toList = 0 by rw [← E1.out, ← E2.out]; simp at h2; simp [ordS, h2]; rw [h2] at h; exact h)
      go_enter Tryd.func59, Tryd.ntmps59
      go_wp2
      go_ret
      exact ⟨ret_int HF.out.symm, rfl⟩
    | false =>
      have HF := Lib.hid (show ordS a.data.toList b.data.toList = 1 by rw [← E1.out, ← E2.out]; simp at h2; simp [ordS, h, h2])
      go_enter Tryd.func59, Tryd.ntmps59
      go_wp2
      go_ret
      exact ⟨ret_int HF.out.symm, rfl⟩
theorem d4_mk {w w' : World} (hb : Below w.heap.size w w') {bl bk o1 o2 : Nat} {x y u v : Value} (h3 : bl < w.heap.size) (h4 : bk < w.heap.size)
    (cx : w.cell? ⟨bl, o1, none⟩ = some x) (cy : w.cell? ⟨bl, o1 + 1, none⟩ = some y) (cu : w.cell? ⟨bk, o2, none⟩ = some u) (cv : w.cell? ⟨bk, o2 + 1, none⟩ = some v) :
    w'.cell? ⟨bl, o1, none⟩ = some x ∧ w'.cell? ⟨bl, o1 + 1, none⟩ = some y ∧ w'.cell? ⟨bk, o2, none⟩ = some u ∧ w'.cell? ⟨bk, o2 + 1, none⟩ = some v :=
  ⟨by rw [bkeep hb h3]; exact cx, by rw [bkeep hb h3]; exact cy, by rw [bkeep hb h4]; exact cu, by rw [bkeep hb h4]; exact cv⟩
theorem cmpP_key {x y u v : ByteArray} (h : x ≠ u) : cmpP (x.data.toList, y.data.toList) (u.data.toList, v.data.toList) = ordS x.data.toList u.data.toList ∧ ordS x.data.toList u.data.toList ≠ 0 := by
  have h1 : ordS x.data.toList u.data.toList ≠ 0 := fun e => h (ba_ext ((ordS_zero _ _).1 e))
  exact ⟨by unfold cmpP; rw [if_pos h1], h1⟩
theorem cmpP_val {x y v : ByteArray} (h : y ≠ v) : cmpP (x.data.toList, y.data.toList) (x.data.toList, v.data.toList) = ordS y.data.toList v.data.toList ∧ ordS y.data.toList v.data.toList ≠ 0 := by
  have h1 : ordS y.data.toList v.data.toList ≠ 0 := fun e => h (ba_ext ((ordS_zero _ _).1 e))
  exact ⟨by unfold cmpP; rw [if_neg (by simp [(ordS_zero x.data.toList x.data.toList).2 rfl])], h1⟩
theorem key_ne {x y u v : ByteArray} (h : x ≠ u) : cmpP (x.data.toList, y.data.toList) (u.data.toList, v.data.toList) ≠ 0 := by rw [(cmpP_key (y := y) (v := v) h).1]; exact (cmpP_key (y := y) (v := v) h).2
theorem val_ne {x y v : ByteArray} (h : y ≠ v) : cmpP (x.data.toList, y.data.toList) (x.data.toList, v.data.toList) ≠ 0 := by rw [(cmpP_val (x := x) h).1]; exact (cmpP_val (x := x) h).2
theorem neq_of {x y : ByteArray} (h : x ≠ y) : (x.toList == y.toList) = false := by
  rw [beq_eq_false_iff_ne, Lib.toList_data, Lib.toList_data]
  intro e
  exact h (ba_ext e)

set_option maxRecDepth 100000 in
set_option maxHeartbeats 8000000 in
theorem rcompareN_any (s t : ByteArray) (w : World) (hs : s.size ≤ 100000) (ht : t.size ≤ 100000) :
    Calls Tryd.prog 35 #[.string s, .string t] w fun e w' => e = .returned (.int .i64 (cmpN s.data.toList t.data.toList)) ∧ Below w.heap.size w w' := by
  have HS := Lib.hid hs
  have HT := Lib.hid ht
  clear hs ht
  go_enter Tryd.func35, Tryd.ntmps35
  go_wp2_with fail
  refine (parts_any s _ HS.out).mono ?_
  rintro e w1 ⟨A, c, l, rfl, hO, hl, hz, h8, hb⟩
  have HO := Lib.hid hO.ps.1
  have HL := Lib.hid hl
  have HB := Lib.hid hb
  clear hO hl hz hb
  go_wp2_with fail
  refine (parts_any t _ HT.out).mono ?_
  rintro e w3 ⟨A2, c2, m, rfl, hO2, hl2, hz2, h82, hb2⟩
  have HP1 := Lib.hid (HO.out.below hb2)
  have HP2 := Lib.hid hO2.ps.1
  have HL2 := Lib.hid hl2
  have HB3 := Lib.hid (HB.out.trans (hb2.mono HB.out.size))
  clear hO2 hl2 hz2 hb2
  cases h1 : valid s.data.toList with
  | false =>
    cases h2 : valid t.data.toList with
    | false =>
      have HR := Lib.hid (cmpN_nn h1 h2)
      clear h1 h2
      go_wp2_with (go_at_call 59; refine (bytes_any s t _).mono ?_; rintro e w3 ⟨rfl, rfl⟩)
      go_ret
      exact ⟨ret_int HR.out.symm, HB3.out⟩
    | true =>
      have HR := Lib.hid (cmpN_ny h1 h2)
      clear h1 h2
      go_wp2
      go_ret
      exact ⟨ret_int HR.out.symm, HB3.out⟩
  | true =>
    cases h2 : valid t.data.toList with
    | false =>
      have HR := Lib.hid (cmpN_yn h1 h2)
      clear h1 h2
      go_wp2
      go_ret
      exact ⟨ret_int HR.out.symm, HB3.out⟩
    | true =>
      have HR := Lib.hid (show cmpN s.data.toList t.data.toList = cmpR (prL l).reverse (prL m).reverse by rw [cmpN_yy h1 h2, HL.out, HL2.out])
      clear h1 h2
      go_wp2_with fail
      go_loopw [9] (fun i wr => ∃ k : Nat, i = .int .i64 ((k + 1 : Nat) : Int) ∧ k ≤ l.length ∧ k ≤ m.length ∧ Hid (cmpN s.data.toList t.data.toList = cmpR ((prL l).reverse.drop k) ((prL m).reverse.drop k)) ∧ Below w3.heap.size w3 wr) (fun i _ => l.length + 1 - (intOf i).toNat)
      case atStart => exact ⟨0, rfl, Nat.zero_le _, Nat.zero_le _, by rw [List.drop_zero, List.drop_zero]; exact HR.out, Below.refl _ _⟩
      case round =>
        obtain ⟨k, rfl, hk1, hk2, HI, hb⟩ := hrel
        have HBk := Lib.hid hb
        have HQ1 := Lib.hid (HP1.out.below hb)
        have HQ2 := Lib.hid (HP2.out.below hb)
        clear hb
        by_cases hlt : k < l.length ∧ k < m.length
        · obtain ⟨hlt1, hlt2⟩ := hlt
          obtain ⟨bl, ol, rfl, hbl, hcl⟩ := HQ1.out.2.2 (by omega)
          obtain ⟨bm, om, rfl, hbm, hcm⟩ := HQ2.out.2.2 (by omega)
          have hcl' := hcl (l.length - (k + 1)) (by omega)
          have hcm' := hcm (m.length - (k + 1)) (by omega)
          have hr1 := rev_drop l k hlt1
          have hr2 := rev_drop m k hlt2
          rw [show l.length - 1 - k = l.length - (k + 1) by omega] at hr1
          rw [show m.length - 1 - k = m.length - (k + 1) by omega] at hr2
          obtain ⟨x, hx⟩ : ∃ x, pX l (l.length - (k + 1)) = x := ⟨_, rfl⟩
          obtain ⟨y, hy⟩ : ∃ y, pY l (l.length - (k + 1)) = y := ⟨_, rfl⟩
          obtain ⟨u, hu⟩ : ∃ u, pX m (m.length - (k + 1)) = u := ⟨_, rfl⟩
          obtain ⟨v, hv⟩ : ∃ v, pY m (m.length - (k + 1)) = v := ⟨_, rfl⟩
          rw [hx, hy] at hcl' hr1
          rw [hu, hv] at hcm' hr2
          have CX := Lib.hid hcl'.1
          have CY := Lib.hid hcl'.2
          have CU := Lib.hid hcm'.1
          have CV := Lib.hid hcm'.2
          have HI1 := Lib.hid (show cmpN s.data.toList t.data.toList = cmpR ((x.data.toList, y.data.toList) :: (prL l).reverse.drop (k + 1)) ((u.data.toList, v.data.toList) :: (prL m).reverse.drop (k + 1)) by rw [HI.out, hr1, hr2])
          clear hcl hcm hcl' hcm' hr1 hr2 hx hy hu hv
          have t1 : ((k + 1 : Nat) : Int) ≤ (l.length : Int) := by omega
          have t2 : ((k + 1 : Nat) : Int) ≤ (m.length : Int) := by omega
          have g1 : IntKind.i64.wrap ((l.length : Int) - ((k : Int) + 1)) = ((l.length - (k + 1) : Nat) : Int) := by rw [show (l.length : Int) - ((k : Int) + 1) = ((l.length - (k + 1) : Nat) : Int) by omega]; exact IntWalk.i64_in _ (by omega)
          have g2 : IntKind.i64.wrap ((m.length : Int) - ((k : Int) + 1)) = ((m.length - (k + 1) : Nat) : Int) := by rw [show (m.length : Int) - ((k : Int) + 1) = ((m.length - (k + 1) : Nat) : Int) by omega]; exact IntWalk.i64_in _ (by omega)
          have q1 : l.length - (k + 1) < l.length := by omega
          have q2 : m.length - (k + 1) < m.length := by omega
          go_upto_region 12 with fail
          go_cut [10, 11] (fun s5 s6 wx => ∃ p q : Nat, s5 = .pointer (some ⟨p, 0, none⟩) ∧ s6 = .pointer (some ⟨q, 0, none⟩) ∧ Px wx p x y ∧ Px wx q u v ∧ Below wr.heap.size wr wx)
          case first =>
            refine wp_region_held_drew (S := (fun w' => w'.cell? ⟨bl, ol + (l.length - (k + 1)) * 2, none⟩ = some (.string x) ∧ w'.cell? ⟨bl, ol + (l.length - (k + 1)) * 2 + 1, none⟩ = some (.string y) ∧ w'.cell? ⟨bm, om + (m.length - (k + 1)) * 2, none⟩ = some (.string u) ∧ w'.cell? ⟨bm, om + (m.length - (k + 1)) * 2 + 1, none⟩ = some (.string v))) (by kernel_rfl) ?_ (fun hHeld => ?_)
            focus ((try dsimp only); (exact d4_mk (show Below wr.heap.size wr _ by go_grown) hbl hbm CX.out CY.out CU.out CV.out); done)
            refine wpAnyH_take (i := 0) (oi := ⟨_, _, _, _, _, _⟩) (v := ?_) rfl (by kernel_rfl) (by kernel_rfl) (by kernel_rfl) (fun _ _ _ h => h) (Or.inl ⟨by rfl, ?_⟩) (by assumption) ?_; rotate_left; (focus (intro w hSw; (try dsimp only at hSw); go_simp; (try with_reducible rfl); done)); simp only [Act.put, List.setIfInBounds_toArray, List.set_cons_zero, List.set_cons_succ]
            refine wpAnyH_take (i := 1) (oi := ⟨_, _, _, _, _, _⟩) (v := ?_) rfl (by kernel_rfl) (by kernel_rfl) (by kernel_rfl) (fun _ _ _ h => h) (Or.inl ⟨by rfl, ?_⟩) (by assumption) ?_; rotate_left; (focus (intro w hSw; (try dsimp only at hSw); go_simp; (try with_reducible rfl); done)); simp only [Act.put, List.setIfInBounds_toArray, List.set_cons_zero, List.set_cons_succ]
            refine wpAnyH_take (i := 2) (oi := ⟨_, _, _, _, _, _⟩) (v := ?_) rfl (by kernel_rfl) (by kernel_rfl) (by kernel_rfl) (fun _ _ _ h => h) (Or.inl ⟨by rfl, ?_⟩) (by assumption) ?_; rotate_left; (focus (intro w hSw; (try dsimp only at hSw); go_simp; (try with_reducible rfl); done)); simp only [Act.put, List.setIfInBounds_toArray, List.set_cons_zero, List.set_cons_succ]
            refine wpAnyH_take (i := 3) (oi := ⟨_, _, _, _, _, _⟩) (v := ?_) rfl (by kernel_rfl) (by kernel_rfl) (by kernel_rfl) (fun _ _ _ h => h) (Or.inl ⟨by rfl, ?_⟩) (by assumption) ?_; rotate_left; (focus (intro w hSw; (try dsimp only at hSw); go_simp; (try with_reducible rfl); done)); simp only [Act.put, List.setIfInBounds_toArray, List.set_cons_zero, List.set_cons_succ]
            refine wpAnyH_take (i := 4) (oi := ⟨_, _, _, _, _, _⟩) (v := ?_) rfl (by kernel_rfl) (by kernel_rfl) (by kernel_rfl) (fun _ _ _ h => h) (Or.inl ⟨by rfl, ?_⟩) (by assumption) ?_; rotate_left; (focus (intro w hSw; (try dsimp only at hSw); go_simp; (try with_reducible rfl); done)); simp only [Act.put, List.setIfInBounds_toArray, List.set_cons_zero, List.set_cons_succ]
            refine wpAnyH_take (i := 5) (oi := ⟨_, _, _, _, _, _⟩) (v := ?_) rfl (by kernel_rfl) (by kernel_rfl) (by kernel_rfl) (fun _ _ _ h => h) (Or.inl ⟨by rfl, ?_⟩) (by assumption) ?_; rotate_left; (focus (intro w hSw; (try dsimp only at hSw); go_simp; (try with_reducible rfl); done)); simp only [Act.put, List.setIfInBounds_toArray, List.set_cons_zero, List.set_cons_succ]
            refine wpAnyH_take (i := 6) (oi := ⟨_, _, _, _, _, _⟩) (v := ?_) rfl (by kernel_rfl) (by kernel_rfl) (by kernel_rfl) (fun _ _ _ h => h) (Or.inl ⟨by rfl, ?_⟩) (by assumption) ?_; rotate_left; (focus (intro w hSw; (try dsimp only at hSw); go_simp; (try with_reducible rfl); done)); simp only [Act.put, List.setIfInBounds_toArray, List.set_cons_zero, List.set_cons_succ]
            refine wpAnyH_take (i := 7) (oi := ⟨_, _, _, _, _, _⟩) (v := ?_) rfl (by kernel_rfl) (by kernel_rfl) (by kernel_rfl) (fun _ _ _ h => h) (Or.inl ⟨by rfl, ?_⟩) (by assumption) ?_; rotate_left; (focus (intro w hSw; (try dsimp only at hSw); go_simp; (try with_reducible rfl); done)); simp only [Act.put, List.setIfInBounds_toArray, List.set_cons_zero, List.set_cons_succ]
            refine wpAnyH_take (i := 8) (oi := ⟨_, _, _, _, _, _⟩) (v := ?_) rfl (by kernel_rfl) (by kernel_rfl) (by kernel_rfl) (fun _ _ _ h => h) (Or.inl ⟨by rfl, ?_⟩) (by assumption) ?_; rotate_left; (focus (intro w hSw; (try dsimp only at hSw); go_simp; (try with_reducible rfl); done)); simp only [Act.put, List.setIfInBounds_toArray, List.set_cons_zero, List.set_cons_succ]
            refine wpAnyH_take (i := 9) (oi := ⟨_, _, _, _, _, _⟩) (v := ?_) rfl (by kernel_rfl) (by kernel_rfl) (by kernel_rfl) (fun _ _ _ h => h) (Or.inl ⟨by rfl, ?_⟩) (by assumption) ?_; rotate_left; (focus (intro w hSw; (try dsimp only at hSw); go_simp; (try with_reducible rfl); done)); simp only [Act.put, List.setIfInBounds_toArray, List.set_cons_zero, List.set_cons_succ]
            refine wpAnyH_take (i := 10) (oi := ⟨_, _, _, _, _, _⟩) (v := ?_) rfl (by kernel_rfl) (by kernel_rfl) (by kernel_rfl) (fun _ _ _ h => h) (Or.inl ⟨by rfl, ?_⟩) (by assumption) ?_; rotate_left; (focus (intro w hSw; (try dsimp only at hSw); go_simp; (try with_reducible rfl); done)); simp only [Act.put, List.setIfInBounds_toArray, List.set_cons_zero, List.set_cons_succ]
            refine wpAnyH_take (i := 11) (oi := ⟨_, _, _, _, _, _⟩) (v := ?_) rfl (by kernel_rfl) (by kernel_rfl) (by kernel_rfl) (fun _ _ _ h => h) (Or.inl ⟨by rfl, ?_⟩) (by assumption) ?_; rotate_left; (focus (intro w hSw; (try dsimp only at hSw); go_simp; (try with_reducible rfl); done)); simp only [Act.put, List.setIfInBounds_toArray, List.set_cons_zero, List.set_cons_succ]
            refine wpAnyH_take (i := 12) (oi := ⟨_, _, _, _, _, _⟩) (v := ?_) rfl (by kernel_rfl) (by kernel_rfl) (by kernel_rfl) (fun _ _ _ h => h) (Or.inl ⟨by rfl, ?_⟩) (by assumption) ?_; rotate_left; (focus (intro w hSw; (try dsimp only at hSw); go_simp; (try with_reducible rfl); done)); simp only [Act.put, List.setIfInBounds_toArray, List.set_cons_zero, List.set_cons_succ]
            refine wpAnyH_take (i := 13) (oi := ⟨_, _, _, _, _, _⟩) (v := ?_) rfl (by kernel_rfl) (by kernel_rfl) (by kernel_rfl) (fun _ _ _ h => h) (Or.inl ⟨by rfl, ?_⟩) (by assumption) ?_; rotate_left; (focus (intro w hSw; (try dsimp only at hSw); go_simp; (try with_reducible rfl); done)); simp only [Act.put, List.setIfInBounds_toArray, List.set_cons_zero, List.set_cons_succ]
            refine wpAnyH_ready (rs := [14, 15]) (by kernel_rfl) (by simp) ?_
            refine AllReadyH.cons (o := ⟨_, _, _, _, _, _⟩) rfl (fun K hK => ?_) (AllReadyH.cons (o := ⟨_, _, _, _, _, _⟩) rfl (fun K hK => ?_) AllReadyH.nil)
            · go_simp
              (try go_wp2_with fail)
              refine hK.out _ _ ?_ (fun hHeld => ?_)
              focus ((try dsimp only); (exact d4_mk (show Below wr.heap.size wr _ by go_grown) hbl hbm CX.out CY.out CU.out CV.out); done)
              clear hK K
              (try simp only [Act.put, List.setIfInBounds_toArray, List.set_cons_zero, List.set_cons_succ])
              refine wpAnyH_ready (rs := [15]) (by kernel_rfl) (by simp) ?_
              refine AllReadyH.cons (o := ⟨_, _, _, _, _, _⟩) rfl (fun K hK => ?_) AllReadyH.nil
              go_simp
              (try go_wp2_with fail)
              refine hK.out _ _ ?_ (fun hHeld => ?_)
              focus ((try dsimp only); (exact d4_mk (show Below wr.heap.size wr _ by go_grown) hbl hbm CX.out CY.out CU.out CV.out); done)
              clear hK K
              (try simp only [Act.put, List.setIfInBounds_toArray, List.set_cons_zero, List.set_cons_succ])
              refine wpAnyH_ready (rs := [16]) (by kernel_rfl) (by simp) ?_
              refine AllReadyH.cons (o := ⟨_, _, _, _, _, _⟩) rfl (fun K hK => ?_) AllReadyH.nil
              go_simp
              (try go_wp2_with fail)
              refine hK.out _ _ ?_ (fun hHeld => ?_)
              focus ((try dsimp only); (exact d4_mk (show Below wr.heap.size wr _ by go_grown) hbl hbm CX.out CY.out CU.out CV.out); done)
              clear hK K
              (try simp only [Act.put, List.setIfInBounds_toArray, List.set_cons_zero, List.set_cons_succ])
              refine wpAnyH_ready (rs := [17]) (by kernel_rfl) (by simp) ?_
              refine AllReadyH.cons (o := ⟨_, _, _, _, _, _⟩) rfl (fun K hK => ?_) AllReadyH.nil
              go_simp
              (try go_wp2_with fail)
              refine hK.out _ _ ?_ (fun hHeld => ?_)
              focus ((try dsimp only); (exact d4_mk (show Below wr.heap.size wr _ by go_grown) hbl hbm CX.out CY.out CU.out CV.out); done)
              clear hK K
              (try simp only [Act.put, List.setIfInBounds_toArray, List.set_cons_zero, List.set_cons_succ])
              refine wpAnyH_done (by kernel_rfl) ?_ _
              go_wp2
              go_meet
              exact ⟨_, _, rfl, rfl, ⟨by first | (simp; done) | (simp; omega), by simp [go_sem], by simp [go_sem], by simp [go_sem], by simp [go_sem]⟩, ⟨by first | (simp; done) | (simp; omega), by simp [go_sem], by simp [go_sem], by simp [go_sem], by simp [go_sem]⟩, by go_grown⟩
            · go_simp
              (try go_wp2_with fail)
              refine hK.out _ _ ?_ (fun hHeld => ?_)
              focus ((try dsimp only); (exact d4_mk (show Below wr.heap.size wr _ by go_grown) hbl hbm CX.out CY.out CU.out CV.out); done)
              clear hK K
              (try simp only [Act.put, List.setIfInBounds_toArray, List.set_cons_zero, List.set_cons_succ])
              refine wpAnyH_ready (rs := [14]) (by kernel_rfl) (by simp) ?_
              refine AllReadyH.cons (o := ⟨_, _, _, _, _, _⟩) rfl (fun K hK => ?_) AllReadyH.nil
              go_simp
              (try go_wp2_with fail)
              refine hK.out _ _ ?_ (fun hHeld => ?_)
              focus ((try dsimp only); (exact d4_mk (show Below wr.heap.size wr _ by go_grown) hbl hbm CX.out CY.out CU.out CV.out); done)
              clear hK K
              (try simp only [Act.put, List.setIfInBounds_toArray, List.set_cons_zero, List.set_cons_succ])
              refine wpAnyH_ready (rs := [16]) (by kernel_rfl) (by simp) ?_
              refine AllReadyH.cons (o := ⟨_, _, _, _, _, _⟩) rfl (fun K hK => ?_) AllReadyH.nil
              go_simp
              (try go_wp2_with fail)
              refine hK.out _ _ ?_ (fun hHeld => ?_)
              focus ((try dsimp only); (exact d4_mk (show Below wr.heap.size wr _ by go_grown) hbl hbm CX.out CY.out CU.out CV.out); done)
              clear hK K
              (try simp only [Act.put, List.setIfInBounds_toArray, List.set_cons_zero, List.set_cons_succ])
              refine wpAnyH_ready (rs := [17]) (by kernel_rfl) (by simp) ?_
              refine AllReadyH.cons (o := ⟨_, _, _, _, _, _⟩) rfl (fun K hK => ?_) AllReadyH.nil
              go_simp
              (try go_wp2_with fail)
              refine hK.out _ _ ?_ (fun hHeld => ?_)
              focus ((try dsimp only); (exact d4_mk (show Below wr.heap.size wr _ by go_grown) hbl hbm CX.out CY.out CU.out CV.out); done)
              clear hK K
              (try simp only [Act.put, List.setIfInBounds_toArray, List.set_cons_zero, List.set_cons_succ])
              refine wpAnyH_done (by kernel_rfl) ?_ _
              go_wp2
              go_meet
              exact ⟨_, _, rfl, rfl, ⟨by first | (simp; done) | (simp; omega), by simp [go_sem], by simp [go_sem], by simp [go_sem], by simp [go_sem]⟩, ⟨by first | (simp; done) | (simp; omega), by simp [go_sem], by simp [go_sem], by simp [go_sem], by simp [go_sem]⟩, by go_grown⟩
          case rest =>
            obtain ⟨p, q, rfl, rfl, ⟨hp, px, py, pf, pg⟩, ⟨hq, qu, qv, qf, qg⟩, hb⟩ := hcut
            obtain ⟨w4, rfl⟩ : ∃ z : World, z = wc := ⟨_, rfl⟩
            have HB4 := Lib.hid (HBk.out.trans (hb.mono HBk.out.size))
            clear pf pg qf qg hb g1 g2
            by_cases hxu : x = u
            · subst hxu
              by_cases hyv : y = v
              · subst hyv
                have HI2 := Lib.hid (show cmpN s.data.toList t.data.toList = cmpR ((prL l).reverse.drop (k + 1)) ((prL m).reverse.drop (k + 1)) by rw [HI1.out, cmpR_zero1 ((cmpP_zero _ _).2 rfl)])
                go_wp2
                go_roundw
                case rel => exact ⟨k + 1, by go_num, by omega, by omega, HI2.out, by exact HB4.out⟩
                case measure => simp [intOf]; omega
              · have HF := Lib.hid (show cmpN s.data.toList t.data.toList = ordS y.data.toList v.data.toList by rw [HI1.out, cmpR_ne (val_ne hyv), (cmpP_val hyv).1])
                have hn := neq_of hyv
                clear hyv
                go_wp2_with (go_at_call 59; refine (bytes_any _ _ _).mono ?_; rintro e w5 ⟨rfl, rfl⟩)
                go_ret
                exact ⟨ret_int HF.out.symm, HB3.out.trans (HB4.out.mono HB3.out.size)⟩
            · have HF := Lib.hid (show cmpN s.data.toList t.data.toList = ordS x.data.toList u.data.toList by rw [HI1.out, cmpR_ne (key_ne hxu), (cmpP_key hxu).1])
              have hn := neq_of hxu
              clear hxu
              go_wp2_with (go_at_call 59; refine (bytes_any _ _ _).mono ?_; rintro e w5 ⟨rfl, rfl⟩)
              go_ret
              exact ⟨ret_int HF.out.symm, HB3.out.trans (HB4.out.mono HB3.out.size)⟩
        · have HF := Lib.hid (show cmpN s.data.toList t.data.toList = cmpI l.length m.length by
            rw [HI.out, cmpR_end _ _ k (by simp only [List.length_reverse, prL_length]; omega) (by simp only [List.length_reverse, prL_length]; omega) (by simp only [List.length_reverse, prL_length]; omega)]
            simp only [List.length_reverse, prL_length])
          have HBW := Lib.hid (HB3.out.trans (HBk.out.mono HB3.out.size))
          have H3 : (l.length < m.length ∧ cmpI l.length m.length = -1) ∨ (¬ l.length < m.length ∧ m.length < l.length ∧ cmpI l.length m.length = 1) ∨ (¬ l.length < m.length ∧ ¬ m.length < l.length ∧ cmpI l.length m.length = 0) := by
            unfold cmpI
            rcases Nat.lt_trichotomy l.length m.length with h1 | h1 | h1
            · left; exact ⟨h1, by rw [if_pos (by omega)]⟩
            · right; right; exact ⟨by omega, by omega, by rw [if_neg (by omega), if_neg (by omega)]⟩
            · right; left; exact ⟨by omega, by omega, by rw [if_neg (by omega), if_pos (by omega)]⟩
          by_cases hl0 : k < l.length
          · have t1 : ((k + 1 : Nat) : Int) ≤ (l.length : Int) := by omega
            have t2 : ¬ ((k + 1 : Nat) : Int) ≤ (m.length : Int) := by omega
            rcases H3 with ⟨a1, a2⟩ | ⟨a1, a2, a3⟩ | ⟨a1, a2, a3⟩
            · exact absurd a1 (by omega)
            · have HG := Lib.hid (HF.out.trans a3)
              clear a3 hlt
              go_wp2
              go_ret
              exact ⟨ret_int HG.out.symm, HBW.out⟩
            · exact absurd hl0 (by omega)
          · have t1 : ¬ ((k + 1 : Nat) : Int) ≤ (l.length : Int) := by omega
            rcases H3 with ⟨a1, a2⟩ | ⟨a1, a2, a3⟩ | ⟨a1, a2, a3⟩
            · have HG := Lib.hid (HF.out.trans a2)
              clear a2 hlt
              go_wp2
              go_ret
              exact ⟨ret_int HG.out.symm, HBW.out⟩
            · exact absurd a2 (by omega)
            · have HG := Lib.hid (HF.out.trans a3)
              clear a3 hlt
              go_wp2
              go_ret
              exact ⟨ret_int HG.out.symm, HBW.out⟩
end Go.Proofs.YtjjcbbckihjapaaDoor.Na
