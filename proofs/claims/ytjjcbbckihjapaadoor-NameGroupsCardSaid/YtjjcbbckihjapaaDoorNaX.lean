/-
  The walks of layer 5: cmp.Compare, Compare's closure.
-/
import Derived.Test.YtjjcbbckihjapaaDoorNaW
import Derived.Handy
namespace Go.Proofs.YtjjcbbckihjapaaDoor.Na
open Go.RowKit Go.Proofs.YtjjcbbckihjapaaDoor.Fo

theorem cmpS_any (a b : ByteArray) (w : World) : Calls Tryd.prog 55 #[.string a, .string b] w fun e w' => e = .returned (.int .i64 (ordS a.data.toList b.data.toList)) ∧ w = w' := by
  have e1 : a.toList = a.data.toList := Lib.toList_data _
  have e2 : b.toList = b.data.toList := Lib.toList_data _
  have E1 := Lib.hid e1
  have E2 := Lib.hid e2
  clear e1 e2
  cases h : Op.bytesLess a.toList b.toList with
  | true =>
    have HF := Lib.hid (show ordS a.data.toList b.data.toList = -1 by rw [← E1.out, ← E2.out]; simp [ordS, h])
    go_enter Tryd.func55, Tryd.ntmps55
    go_wp2
    go_ret
    exact ⟨ret_int HF.out.symm, rfl⟩
  | false =>
    by_cases h2 : a.toList = b.toList
    · have HF := Lib.hid (show ordS a.data.toList b.data.toList = 0 by rw [← E1.out, ← E2.out]; simp [ordS, h2]; rw [h2] at h; exact h)
      have h3 : (a.toList == b.toList) = true := by simpa using h2
      clear h2
      go_enter Tryd.func55, Tryd.ntmps55
      go_wp2
      go_ret
      exact ⟨ret_int HF.out.symm, rfl⟩
    · have HF := Lib.hid (show ordS a.data.toList b.data.toList = 1 by rw [← E1.out, ← E2.out]; simp [ordS, h, h2])
      have h3 : (a.toList == b.toList) = false := by simpa using h2
      clear h2
      go_enter Tryd.func55, Tryd.ntmps55
      go_wp2
      go_ret
      exact ⟨ret_int HF.out.symm, rfl⟩
/-- The order of two numbers. -/
def cmpI (a b : Int) : Int := if a < b then -1 else if b < a then 1 else 0
theorem cmpI_any (a b : Int) (w : World) : Calls Tryd.prog 58 #[.int .i64 a, .int .i64 b] w fun e w' => e = .returned (.int .i64 (cmpI a b)) ∧ w = w' := by
  by_cases h1 : a < b
  · have HF := Lib.hid (show cmpI a b = -1 by unfold cmpI; rw [if_pos h1])
    go_enter Tryd.func58, Tryd.ntmps58
    go_wp2
    go_ret
    exact ⟨ret_int HF.out.symm, rfl⟩
  · by_cases h2 : b < a
    · have HF := Lib.hid (show cmpI a b = 1 by unfold cmpI; rw [if_neg h1, if_pos h2])
      go_enter Tryd.func58, Tryd.ntmps58
      go_wp2
      go_ret
      exact ⟨ret_int HF.out.symm, rfl⟩
    · have HF := Lib.hid (show cmpI a b = 0 by unfold cmpI; rw [if_neg h1, if_neg h2])
      go_enter Tryd.func58, Tryd.ntmps58
      go_wp2
      go_ret
      exact ⟨ret_int HF.out.symm, rfl⟩
theorem s4_mk {w w' : World} (hb : Below w.heap.size w w') {b1 b2 bl bk o1 o2 : Nat} {v1 v2 x y u v : Value} (h1 : b1 < w.heap.size) (h2 : b2 < w.heap.size) (h3 : bl < w.heap.size) (h4 : bk < w.heap.size)
    (c1 : w.cell? ⟨b1, 0, none⟩ = some v1) (c2 : w.cell? ⟨b2, 0, none⟩ = some v2) (cx : w.cell? ⟨bl, o1, none⟩ = some x) (cy : w.cell? ⟨bl, o1 + 1, none⟩ = some y) (cu : w.cell? ⟨bk, o2, none⟩ = some u) (cv : w.cell? ⟨bk, o2 + 1, none⟩ = some v) :
    w'.cell? ⟨b1, 0, none⟩ = some v1 ∧ w'.cell? ⟨b2, 0, none⟩ = some v2 ∧ w'.cell? ⟨bl, o1, none⟩ = some x ∧ w'.cell? ⟨bl, o1 + 1, none⟩ = some y ∧ w'.cell? ⟨bk, o2, none⟩ = some u ∧ w'.cell? ⟨bk, o2 + 1, none⟩ = some v :=
  ⟨by rw [bkeep hb h1]; exact c1, by rw [bkeep hb h2]; exact c2, by rw [bkeep hb h3]; exact cx, by rw [bkeep hb h3]; exact cy, by rw [bkeep hb h4]; exact cu, by rw [bkeep hb h4]; exact cv⟩
theorem c4_mk {w w' : World} (hb : Below w.heap.size w w') {p q : Nat} {x y u v : Value} (hp : p < w.heap.size) (hq : q < w.heap.size) (px : w.cell? ⟨p, 0, none⟩ = some x) (py : w.cell? ⟨p, 1, none⟩ = some y) (qu : w.cell? ⟨q, 0, none⟩ = some u) (qv : w.cell? ⟨q, 1, none⟩ = some v) :
    w'.cell? ⟨p, 0, none⟩ = some x ∧ w'.cell? ⟨p, 1, none⟩ = some y ∧ w'.cell? ⟨q, 0, none⟩ = some u ∧ w'.cell? ⟨q, 1, none⟩ = some v :=
  ⟨by rw [bkeep hb hp]; exact px, by rw [bkeep hb hp]; exact py, by rw [bkeep hb hq]; exact qu, by rw [bkeep hb hq]; exact qv⟩
theorem cmp_or2 (p q : Pr) : orL [ordS p.1 q.1, ordS p.2 q.2] = cmpP p q := by
  have h2 : (if ordS p.2 q.2 ≠ 0 then ordS p.2 q.2 else 0) = ordS p.2 q.2 := by by_cases e : ordS p.2 q.2 = 0 <;> simp [e]
  simp only [orL, cmpP, h2]
set_option maxRecDepth 100000 in
set_option maxHeartbeats 8000000 in
theorem clos_any (w : World) (b1 b2 bl ol bk ok n c m d i : Nat) (x y u v : ByteArray) (hi1 : i < n) (hi2 : i < m) (hn : n ≤ 1000) (hm : m ≤ 1000)
    (hb1 : b1 < w.heap.size) (hb2 : b2 < w.heap.size) (hbl : bl < w.heap.size) (hbk : bk < w.heap.size)
    (c1 : w.cell? ⟨b1, 0, none⟩ = some (.slice (some ⟨bl, ol, none⟩) n c)) (c2 : w.cell? ⟨b2, 0, none⟩ = some (.slice (some ⟨bk, ok, none⟩) m d))
    (cx : w.cell? ⟨bl, ol + (n - 1 - i) * 2, none⟩ = some (.string x)) (cy : w.cell? ⟨bl, ol + (n - 1 - i) * 2 + 1, none⟩ = some (.string y)) (cu : w.cell? ⟨bk, ok + (m - 1 - i) * 2, none⟩ = some (.string u)) (cv : w.cell? ⟨bk, ok + (m - 1 - i) * 2 + 1, none⟩ = some (.string v)) :
    Calls Tryd.prog 56 #[.int .i64 i, .pointer (some ⟨b1, 0, none⟩), .pointer (some ⟨b2, 0, none⟩)] w fun e w' => e = .returned (.int .i64 (cmpP (x.data.toList, y.data.toList) (u.data.toList, v.data.toList))) ∧ Below w.heap.size w w' := by
  have C1 := Lib.hid c1
  have C2 := Lib.hid c2
  have CX := Lib.hid cx
  have CY := Lib.hid cy
  have CU := Lib.hid cu
  have CV := Lib.hid cv
  clear c1 c2 cx cy cu cv
  have g1 : IntKind.i64.wrap ((n : Int) - 1) = ((n - 1 : Nat) : Int) := by rw [show (n : Int) - 1 = ((n - 1 : Nat) : Int) by omega]; exact IntWalk.i64_in _ (by omega)
  have g2 : IntKind.i64.wrap (((n - 1 : Nat) : Int) - (i : Int)) = ((n - 1 - i : Nat) : Int) := by rw [show ((n - 1 : Nat) : Int) - (i : Int) = ((n - 1 - i : Nat) : Int) by omega]; exact IntWalk.i64_in _ (by omega)
  have g3 : IntKind.i64.wrap ((m : Int) - 1) = ((m - 1 : Nat) : Int) := by rw [show (m : Int) - 1 = ((m - 1 : Nat) : Int) by omega]; exact IntWalk.i64_in _ (by omega)
  have g4 : IntKind.i64.wrap (((m - 1 : Nat) : Int) - (i : Int)) = ((m - 1 - i : Nat) : Int) := by rw [show ((m - 1 : Nat) : Int) - (i : Int) = ((m - 1 - i : Nat) : Int) by omega]; exact IntWalk.i64_in _ (by omega)
  have q1 : (n - 1 - i : Nat) < n := by omega
  have q2 : (m - 1 - i : Nat) < m := by omega
  go_enter Tryd.func56, Tryd.ntmps56
  go_upto_region 1 with fail
  go_cut [5, 6] (fun s5 s6 wx => ∃ p q : Nat, s5 = .pointer (some ⟨p, 0, none⟩) ∧ s6 = .pointer (some ⟨q, 0, none⟩) ∧ Px wx p x y ∧ Px wx q u v ∧ Below w.heap.size w wx)
  case first =>
    refine wp_region_held_drew (S := (fun w' => w'.cell? ⟨b1, 0, none⟩ = some (.slice (some ⟨bl, ol, none⟩) n c) ∧ w'.cell? ⟨b2, 0, none⟩ = some (.slice (some ⟨bk, ok, none⟩) m d) ∧ w'.cell? ⟨bl, ol + (n - 1 - i) * 2, none⟩ = some (.string x) ∧ w'.cell? ⟨bl, ol + (n - 1 - i) * 2 + 1, none⟩ = some (.string y) ∧ w'.cell? ⟨bk, ok + (m - 1 - i) * 2, none⟩ = some (.string u) ∧ w'.cell? ⟨bk, ok + (m - 1 - i) * 2 + 1, none⟩ = some (.string v))) (by kernel_rfl) ?_ (fun hHeld => ?_)
    focus ((try dsimp only); (exact s4_mk (show Below w.heap.size w _ by go_grown) hb1 hb2 hbl hbk C1.out C2.out CX.out CY.out CU.out CV.out); done)
    refine wpAnyH_take (i := 0) (oi := ⟨_, _, _, _, _, _⟩) (v := ?_) rfl (by kernel_rfl) (by kernel_rfl) (by kernel_rfl) (fun _ _ _ h => h) (Or.inl ⟨by rfl, ?_⟩) (by assumption) ?_; rotate_left; (focus (intro w hSw; (try dsimp only at hSw); go_simp; (try with_reducible rfl); done)); simp only [Act.put, List.setIfInBounds_toArray, List.set_cons_zero, List.set_cons_succ]
    refine wpAnyH_take (i := 1) (oi := ⟨_, _, _, _, _, _⟩) (v := ?_) rfl (by kernel_rfl) (by kernel_rfl) (by kernel_rfl) (fun _ _ _ h => h) (Or.inl ⟨by rfl, ?_⟩) (by assumption) ?_; rotate_left; (focus (intro w hSw; (try dsimp only at hSw); go_simp; (try with_reducible rfl); done)); simp only [Act.put, List.setIfInBounds_toArray, List.set_cons_zero, List.set_cons_succ]
    refine wpAnyH_take (i := 2) (oi := ⟨_, _, _, _, _, _⟩) (v := ?_) rfl (by kernel_rfl) (by kernel_rfl) (by kernel_rfl) (fun _ _ _ h => h) (Or.inl ⟨by rfl, ?_⟩) (by assumption) ?_; rotate_left; (focus (intro w hSw; (try dsimp only at hSw); go_simp; (try with_reducible rfl); done)); simp only [Act.put, List.setIfInBounds_toArray, List.set_cons_zero, List.set_cons_succ]
    refine wpAnyH_take (i := 3) (oi := ⟨_, _, _, _, _, _⟩) (v := ?_) rfl (by kernel_rfl) (by kernel_rfl) (by kernel_rfl) (fun _ _ _ h => h) (Or.inl ⟨by rfl, ?_⟩) (by assumption) ?_; rotate_left; (focus (intro w hSw; (try dsimp only at hSw); go_simp; (try with_reducible rfl); done)); simp only [Act.put, List.setIfInBounds_toArray, List.set_cons_zero, List.set_cons_succ]
    refine wpAnyH_take (i := 4) (oi := ⟨_, _, _, _, _, _⟩) (v := ?_) rfl (by kernel_rfl) (by kernel_rfl) (by kernel_rfl) (fun _ _ _ h => h) (Or.inl ⟨by rfl, ?_⟩) (by assumption) ?_; rotate_left; (focus (intro w hSw; (try dsimp only at hSw); go_simp; (try with_reducible rfl); done)); simp only [Act.put, List.setIfInBounds_toArray, List.set_cons_zero, List.set_cons_succ]
    refine wpAnyH_take (i := 5) (oi := ⟨_, _, _, _, _, _⟩) (v := ?_) rfl (by kernel_rfl) (by kernel_rfl) (by kernel_rfl) (fun _ _ _ h => h) (Or.inl ⟨by rfl, ?_⟩) (by assumption) ?_; rotate_left; (focus (intro w hSw; (try dsimp only at hSw); go_simp; (try with_reducible rfl); done)); simp only [Act.put, List.setIfInBounds_toArray, List.set_cons_zero, List.set_cons_succ]
    refine wpAnyH_take (i := 6) (oi := ⟨_, _, _, _, _, _⟩) (v := ?_) rfl (by kernel_rfl) (by kernel_rfl) (by kernel_rfl) (fun _ _ _ h => h) (Or.inl ⟨by rfl, ?_⟩) (by assumption) ?_; rotate_left; (focus (intro w hSw; (try dsimp only at hSw); go_simp; (try with_reducible rfl); done)); simp only [Act.put, List.setIfInBounds_toArray, List.set_cons_zero, List.set_cons_succ]
    refine wpAnyH_take (i := 7) (oi := ⟨_, _, _, _, _, _⟩) (v := ?_) rfl (by kernel_rfl) (by kernel_rfl) (by kernel_rfl) (fun _ _ _ h => h) (Or.inl ⟨by rfl, ?_⟩) (by assumption) ?_; rotate_left; (focus (intro w hSw; (try dsimp only at hSw); go_simp; (try with_reducible rfl); done)); simp only [Act.put, List.setIfInBounds_toArray, List.set_cons_zero, List.set_cons_succ]
    refine wpAnyH_take (i := 8) (oi := ⟨_, _, _, _, _, _⟩) (v := ?_) rfl (by kernel_rfl) (by kernel_rfl) (by kernel_rfl) (fun _ _ _ h => h) (Or.inl ⟨by rfl, ?_⟩) (by assumption) ?_; rotate_left; (focus (intro w hSw; (try dsimp only at hSw); go_simp; (try with_reducible rfl); done)); simp only [Act.put, List.setIfInBounds_toArray, List.set_cons_zero, List.set_cons_succ]
    refine wpAnyH_take (i := 9) (oi := ⟨_, _, _, _, _, _⟩) (v := ?_) rfl (by kernel_rfl) (by kernel_rfl) (by kernel_rfl) (fun _ _ _ h => h) (Or.inl ⟨by rfl, ?_⟩) (by assumption) ?_; rotate_left; (focus (intro w hSw; (try dsimp only at hSw); go_simp; (try with_reducible rfl); done)); simp only [Act.put, List.setIfInBounds_toArray, List.set_cons_zero, List.set_cons_succ]
    refine wpAnyH_take (i := 10) (oi := ⟨_, _, _, _, _, _⟩) (v := ?_) rfl (by kernel_rfl) (by kernel_rfl) (by kernel_rfl) (fun _ _ _ h => h) (Or.inl ⟨by rfl, ?_⟩) (by assumption) ?_; rotate_left; (focus (intro w hSw; (try dsimp only at hSw); go_simp; (try with_reducible rfl); done)); simp only [Act.put, List.setIfInBounds_toArray, List.set_cons_zero, List.set_cons_succ]
    refine wpAnyH_take (i := 11) (oi := ⟨_, _, _, _, _, _⟩) (v := ?_) rfl (by kernel_rfl) (by kernel_rfl) (by kernel_rfl) (fun _ _ _ h => h) (Or.inl ⟨by rfl, ?_⟩) (by assumption) ?_; rotate_left; (focus (intro w hSw; (try dsimp only at hSw); go_simp; (try with_reducible rfl); done)); simp only [Act.put, List.setIfInBounds_toArray, List.set_cons_zero, List.set_cons_succ]
    refine wpAnyH_take (i := 12) (oi := ⟨_, _, _, _, _, _⟩) (v := ?_) rfl (by kernel_rfl) (by kernel_rfl) (by kernel_rfl) (fun _ _ _ h => h) (Or.inl ⟨by rfl, ?_⟩) (by assumption) ?_; rotate_left; (focus (intro w hSw; (try dsimp only at hSw); go_simp; (try with_reducible rfl); done)); simp only [Act.put, List.setIfInBounds_toArray, List.set_cons_zero, List.set_cons_succ]
    refine wpAnyH_take (i := 13) (oi := ⟨_, _, _, _, _, _⟩) (v := ?_) rfl (by kernel_rfl) (by kernel_rfl) (by kernel_rfl) (fun _ _ _ h => h) (Or.inl ⟨by rfl, ?_⟩) (by assumption) ?_; rotate_left; (focus (intro w hSw; (try dsimp only at hSw); go_simp; (try with_reducible rfl); done)); simp only [Act.put, List.setIfInBounds_toArray, List.set_cons_zero, List.set_cons_succ]
    refine wpAnyH_take (i := 14) (oi := ⟨_, _, _, _, _, _⟩) (v := ?_) rfl (by kernel_rfl) (by kernel_rfl) (by kernel_rfl) (fun _ _ _ h => h) (Or.inl ⟨by rfl, ?_⟩) (by assumption) ?_; rotate_left; (focus (intro w hSw; (try dsimp only at hSw); go_simp; (try with_reducible rfl); done)); simp only [Act.put, List.setIfInBounds_toArray, List.set_cons_zero, List.set_cons_succ]
    refine wpAnyH_take (i := 15) (oi := ⟨_, _, _, _, _, _⟩) (v := ?_) rfl (by kernel_rfl) (by kernel_rfl) (by kernel_rfl) (fun _ _ _ h => h) (Or.inl ⟨by rfl, ?_⟩) (by assumption) ?_; rotate_left; (focus (intro w hSw; (try dsimp only at hSw); go_simp; (try with_reducible rfl); done)); simp only [Act.put, List.setIfInBounds_toArray, List.set_cons_zero, List.set_cons_succ]
    refine wpAnyH_ready (rs := [16, 17]) (by kernel_rfl) (by simp) ?_
    refine AllReadyH.cons (o := ⟨_, _, _, _, _, _⟩) rfl (fun K hK => ?_) (AllReadyH.cons (o := ⟨_, _, _, _, _, _⟩) rfl (fun K hK => ?_) AllReadyH.nil)
    · go_simp
      (try go_wp2_with fail)
      refine hK.out _ _ ?_ (fun hHeld => ?_)
      focus ((try dsimp only); (exact s4_mk (show Below w.heap.size w _ by go_grown) hb1 hb2 hbl hbk C1.out C2.out CX.out CY.out CU.out CV.out); done)
      clear hK K
      (try simp only [Act.put, List.setIfInBounds_toArray, List.set_cons_zero, List.set_cons_succ])
      refine wpAnyH_ready (rs := [17]) (by kernel_rfl) (by simp) ?_
      refine AllReadyH.cons (o := ⟨_, _, _, _, _, _⟩) rfl (fun K hK => ?_) AllReadyH.nil
      go_simp
      (try go_wp2_with fail)
      refine hK.out _ _ ?_ (fun hHeld => ?_)
      focus ((try dsimp only); (exact s4_mk (show Below w.heap.size w _ by go_grown) hb1 hb2 hbl hbk C1.out C2.out CX.out CY.out CU.out CV.out); done)
      clear hK K
      (try simp only [Act.put, List.setIfInBounds_toArray, List.set_cons_zero, List.set_cons_succ])
      refine wpAnyH_ready (rs := [18]) (by kernel_rfl) (by simp) ?_
      refine AllReadyH.cons (o := ⟨_, _, _, _, _, _⟩) rfl (fun K hK => ?_) AllReadyH.nil
      go_simp
      (try go_wp2_with fail)
      refine hK.out _ _ ?_ (fun hHeld => ?_)
      focus ((try dsimp only); (exact s4_mk (show Below w.heap.size w _ by go_grown) hb1 hb2 hbl hbk C1.out C2.out CX.out CY.out CU.out CV.out); done)
      clear hK K
      (try simp only [Act.put, List.setIfInBounds_toArray, List.set_cons_zero, List.set_cons_succ])
      refine wpAnyH_ready (rs := [19]) (by kernel_rfl) (by simp) ?_
      refine AllReadyH.cons (o := ⟨_, _, _, _, _, _⟩) rfl (fun K hK => ?_) AllReadyH.nil
      go_simp
      (try go_wp2_with fail)
      refine hK.out _ _ ?_ (fun hHeld => ?_)
      focus ((try dsimp only); (exact s4_mk (show Below w.heap.size w _ by go_grown) hb1 hb2 hbl hbk C1.out C2.out CX.out CY.out CU.out CV.out); done)
      clear hK K
      (try simp only [Act.put, List.setIfInBounds_toArray, List.set_cons_zero, List.set_cons_succ])
      refine wpAnyH_done (by kernel_rfl) ?_ _
      go_wp2
      go_meet
      exact ⟨_, _, rfl, rfl, ⟨by first | (simp; done) | (simp; omega), by simp [go_sem], by simp [go_sem], by simp [go_sem], by simp [go_sem]⟩, ⟨by first | (simp; done) | (simp; omega), by simp [go_sem], by simp [go_sem], by simp [go_sem], by simp [go_sem]⟩, by go_grown⟩
    · go_simp
      (try go_wp2_with fail)
      refine hK.out _ _ ?_ (fun hHeld => ?_)
      focus ((try dsimp only); (exact s4_mk (show Below w.heap.size w _ by go_grown) hb1 hb2 hbl hbk C1.out C2.out CX.out CY.out CU.out CV.out); done)
      clear hK K
      (try simp only [Act.put, List.setIfInBounds_toArray, List.set_cons_zero, List.set_cons_succ])
      refine wpAnyH_ready (rs := [16]) (by kernel_rfl) (by simp) ?_
      refine AllReadyH.cons (o := ⟨_, _, _, _, _, _⟩) rfl (fun K hK => ?_) AllReadyH.nil
      go_simp
      (try go_wp2_with fail)
      refine hK.out _ _ ?_ (fun hHeld => ?_)
      focus ((try dsimp only); (exact s4_mk (show Below w.heap.size w _ by go_grown) hb1 hb2 hbl hbk C1.out C2.out CX.out CY.out CU.out CV.out); done)
      clear hK K
      (try simp only [Act.put, List.setIfInBounds_toArray, List.set_cons_zero, List.set_cons_succ])
      refine wpAnyH_ready (rs := [18]) (by kernel_rfl) (by simp) ?_
      refine AllReadyH.cons (o := ⟨_, _, _, _, _, _⟩) rfl (fun K hK => ?_) AllReadyH.nil
      go_simp
      (try go_wp2_with fail)
      refine hK.out _ _ ?_ (fun hHeld => ?_)
      focus ((try dsimp only); (exact s4_mk (show Below w.heap.size w _ by go_grown) hb1 hb2 hbl hbk C1.out C2.out CX.out CY.out CU.out CV.out); done)
      clear hK K
      (try simp only [Act.put, List.setIfInBounds_toArray, List.set_cons_zero, List.set_cons_succ])
      refine wpAnyH_ready (rs := [19]) (by kernel_rfl) (by simp) ?_
      refine AllReadyH.cons (o := ⟨_, _, _, _, _, _⟩) rfl (fun K hK => ?_) AllReadyH.nil
      go_simp
      (try go_wp2_with fail)
      refine hK.out _ _ ?_ (fun hHeld => ?_)
      focus ((try dsimp only); (exact s4_mk (show Below w.heap.size w _ by go_grown) hb1 hb2 hbl hbk C1.out C2.out CX.out CY.out CU.out CV.out); done)
      clear hK K
      (try simp only [Act.put, List.setIfInBounds_toArray, List.set_cons_zero, List.set_cons_succ])
      refine wpAnyH_done (by kernel_rfl) ?_ _
      go_wp2
      go_meet
      exact ⟨_, _, rfl, rfl, ⟨by first | (simp; done) | (simp; omega), by simp [go_sem], by simp [go_sem], by simp [go_sem], by simp [go_sem]⟩, ⟨by first | (simp; done) | (simp; omega), by simp [go_sem], by simp [go_sem], by simp [go_sem], by simp [go_sem]⟩, by go_grown⟩
  case rest =>
    obtain ⟨p, q, rfl, rfl, ⟨hp, px, py, pf, pg⟩, ⟨hq, qu, qv, qf, qg⟩, hb⟩ := hcut
    obtain ⟨w1, rfl⟩ : ∃ z : World, z = wc := ⟨_, rfl⟩
    have HB1 := Lib.hid hb
    clear pf pg qf qg hb
    obtain ⟨P, hP⟩ : ∃ P, P = ordS x.data.toList u.data.toList := ⟨_, rfl⟩
    obtain ⟨Q, hQ⟩ : ∃ Q, Q = ordS y.data.toList v.data.toList := ⟨_, rfl⟩
    have HP := Lib.hid hP
    have HQ := Lib.hid hQ
    have HR := Lib.hid (show orL [P, Q] = cmpP (x.data.toList, y.data.toList) (u.data.toList, v.data.toList) by rw [hP, hQ]; exact cmp_or2 (x.data.toList, y.data.toList) (u.data.toList, v.data.toList))
    clear hP hQ
    go_wp2_with fail
    refine wp_region_held_drew (S := (fun w' => w'.cell? ⟨p, 0, none⟩ = some (.string x) ∧ w'.cell? ⟨p, 1, none⟩ = some (.string y) ∧ w'.cell? ⟨q, 0, none⟩ = some (.string u) ∧ w'.cell? ⟨q, 1, none⟩ = some (.string v))) (by kernel_rfl) ?_ (fun hHeld => ?_)
    focus ((try dsimp only); (exact c4_mk (show Below w1.heap.size w1 _ by go_grown) hp hq px py qu qv); done)
    refine wpAnyH_take (i := 0) (oi := ⟨_, _, _, _, _, _⟩) (v := ?_) rfl (by kernel_rfl) (by kernel_rfl) (by kernel_rfl) (fun _ _ _ h => h) (Or.inl ⟨by rfl, ?_⟩) (by assumption) ?_; rotate_left; (focus (intro w hSw; (try dsimp only at hSw); go_simp; (try with_reducible rfl); done)); simp only [Act.put, List.setIfInBounds_toArray, List.set_cons_zero, List.set_cons_succ]
    refine wpAnyH_take (i := 1) (oi := ⟨_, _, _, _, _, _⟩) (v := ?_) rfl (by kernel_rfl) (by kernel_rfl) (by kernel_rfl) (fun _ _ _ h => h) (Or.inl ⟨by rfl, ?_⟩) (by assumption) ?_; rotate_left; (focus (intro w hSw; (try dsimp only at hSw); go_simp; (try with_reducible rfl); done)); simp only [Act.put, List.setIfInBounds_toArray, List.set_cons_zero, List.set_cons_succ]
    refine wpAnyH_take (i := 2) (oi := ⟨_, _, _, _, _, _⟩) (v := ?_) rfl (by kernel_rfl) (by kernel_rfl) (by kernel_rfl) (fun _ _ _ h => h) (Or.inl ⟨by rfl, ?_⟩) (by assumption) ?_; rotate_left; (focus (intro w hSw; (try dsimp only at hSw); go_simp; (try with_reducible rfl); done)); simp only [Act.put, List.setIfInBounds_toArray, List.set_cons_zero, List.set_cons_succ]
    refine wpAnyH_take (i := 3) (oi := ⟨_, _, _, _, _, _⟩) (v := ?_) rfl (by kernel_rfl) (by kernel_rfl) (by kernel_rfl) (fun _ _ _ h => h) (Or.inl ⟨by rfl, ?_⟩) (by assumption) ?_; rotate_left; (focus (intro w hSw; (try dsimp only at hSw); go_simp; (try with_reducible rfl); done)); simp only [Act.put, List.setIfInBounds_toArray, List.set_cons_zero, List.set_cons_succ]
    refine wpAnyH_take (i := 5) (oi := ⟨_, _, _, _, _, _⟩) (v := ?_) rfl (by kernel_rfl) (by kernel_rfl) (by kernel_rfl) (fun _ _ _ h => h) (Or.inl ⟨by rfl, ?_⟩) (by assumption) ?_; rotate_left; (focus (intro w hSw; (try dsimp only at hSw); go_simp; (try with_reducible rfl); done)); simp only [Act.put, List.setIfInBounds_toArray, List.set_cons_zero, List.set_cons_succ]
    refine wpAnyH_take (i := 6) (oi := ⟨_, _, _, _, _, _⟩) (v := ?_) rfl (by kernel_rfl) (by kernel_rfl) (by kernel_rfl) (fun _ _ _ h => h) (Or.inl ⟨by rfl, ?_⟩) (by assumption) ?_; rotate_left; (focus (intro w hSw; (try dsimp only at hSw); go_simp; (try with_reducible rfl); done)); simp only [Act.put, List.setIfInBounds_toArray, List.set_cons_zero, List.set_cons_succ]
    refine wpAnyH_take (i := 7) (oi := ⟨_, _, _, _, _, _⟩) (v := ?_) rfl (by kernel_rfl) (by kernel_rfl) (by kernel_rfl) (fun _ _ _ h => h) (Or.inl ⟨by rfl, ?_⟩) (by assumption) ?_; rotate_left; (focus (intro w hSw; (try dsimp only at hSw); go_simp; (try with_reducible rfl); done)); simp only [Act.put, List.setIfInBounds_toArray, List.set_cons_zero, List.set_cons_succ]
    refine wpAnyH_take (i := 8) (oi := ⟨_, _, _, _, _, _⟩) (v := ?_) rfl (by kernel_rfl) (by kernel_rfl) (by kernel_rfl) (fun _ _ _ h => h) (Or.inl ⟨by rfl, ?_⟩) (by assumption) ?_; rotate_left; (focus (intro w hSw; (try dsimp only at hSw); go_simp; (try with_reducible rfl); done)); simp only [Act.put, List.setIfInBounds_toArray, List.set_cons_zero, List.set_cons_succ]
    refine wpAnyH_ready (rs := [4]) (by kernel_rfl) (by simp) ?_
    refine AllReadyH.cons (o := ⟨_, _, _, _, _, _⟩) rfl (fun K hK => ?_) AllReadyH.nil
    go_simp
    go_wp2_with fail
    refine (cmpS_any _ _ _).mono ?_
    rintro e wn ⟨rfl, rfl⟩
    rw [← HP.out]
    (try go_wp2_with fail)
    refine hK.out _ _ ?_ (fun hHeld => ?_)
    focus ((try dsimp only); (exact c4_mk (show Below w1.heap.size w1 _ by go_grown) hp hq px py qu qv); done)
    clear hK K
    (try simp only [Act.put, List.setIfInBounds_toArray, List.set_cons_zero, List.set_cons_succ])
    refine wpAnyH_ready (rs := [9]) (by kernel_rfl) (by simp) ?_
    refine AllReadyH.cons (o := ⟨_, _, _, _, _, _⟩) rfl (fun K hK => ?_) AllReadyH.nil
    go_simp
    go_wp2_with fail
    refine (cmpS_any _ _ _).mono ?_
    rintro e wn ⟨rfl, rfl⟩
    rw [← HQ.out]
    (try go_wp2_with fail)
    refine hK.out _ _ ?_ (fun hHeld => ?_)
    focus ((try dsimp only); (exact c4_mk (show Below w1.heap.size w1 _ by go_grown) hp hq px py qu qv); done)
    clear hK K
    (try simp only [Act.put, List.setIfInBounds_toArray, List.set_cons_zero, List.set_cons_succ])
    refine wpAnyH_ready (rs := [10]) (by kernel_rfl) (by simp) ?_
    refine AllReadyH.cons (o := ⟨_, _, _, _, _, _⟩) rfl (fun K hK => ?_) AllReadyH.nil
    go_simp
    (try go_wp2_with fail)
    refine hK.out _ _ ?_ (fun hHeld => ?_)
    focus ((try dsimp only); (exact c4_mk (show Below w1.heap.size w1 _ by go_grown) hp hq px py qu qv); done)
    clear hK K
    (try simp only [Act.put, List.setIfInBounds_toArray, List.set_cons_zero, List.set_cons_succ])
    refine wpAnyH_ready (rs := [11]) (by kernel_rfl) (by simp) ?_
    refine AllReadyH.cons (o := ⟨_, _, _, _, _, _⟩) rfl (fun K hK => ?_) AllReadyH.nil
    go_simp
    go_wp2_with fail
    refine (or_any _ _ 2 [P, Q] (by simp) (fun k hk => by rcases k with _ | _ | k <;> first | (simp [go_sem, ie]; done) | (simp only [List.length_cons, List.length_nil] at hk; omega))).mono ?_
    rintro e wn ⟨rfl, rfl⟩
    rw [HR.out]
    (try go_wp2_with fail)
    refine hK.out _ _ ?_ (fun hHeld => ?_)
    focus ((try dsimp only); (exact c4_mk (show Below w1.heap.size w1 _ by go_grown) hp hq px py qu qv); done)
    clear hK K
    (try simp only [Act.put, List.setIfInBounds_toArray, List.set_cons_zero, List.set_cons_succ])
    refine wpAnyH_take (i := 12) (oi := ⟨_, _, _, _, _, _⟩) (v := ?_) rfl (by kernel_rfl) (by kernel_rfl) (by kernel_rfl) (fun _ _ _ h => h) (Or.inl ⟨by rfl, ?_⟩) (by assumption) ?_; rotate_left; (focus (intro w hSw; (try dsimp only at hSw); go_simp; (try with_reducible rfl); done)); simp only [Act.put, List.setIfInBounds_toArray, List.set_cons_zero, List.set_cons_succ]
    refine wpAnyH_done (by kernel_rfl) ?_ _
    go_wp2
    go_ret
    exact ⟨rfl, HB1.out.trans ((show Below w1.heap.size w1 _ by go_grown).mono HB1.out.size)⟩
end Go.Proofs.YtjjcbbckihjapaaDoor.Na
