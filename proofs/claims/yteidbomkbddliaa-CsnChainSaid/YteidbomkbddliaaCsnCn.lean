/-
  The walk of the law CsnChain, live taken as a hypothesis.
-/
import Derived.Test.YteidbomkbddliaaCsnCp
namespace Go.Proofs.Yteidbomkbddliaa.Csn
open Go.RowKit

set_option maxRecDepth 100000 in
set_option maxHeartbeats 8000000 in
theorem chain_long (hlive0 : LiveOk) (w : World) (t s r : Int) (A : Option Addr) (n c : Nat) (rep : Int) (hn : 20 < n) :
    Calls Try.prog 6 #[.agg #[.int .i64 t, .int .i64 s, .int .i64 r], .slice A n c, .int .i64 rep] w fun e w' => e = .returned (.bool true) ∧ Below w.heap.size w w' := by
  have hlive := Lib.hid hlive0
  clear hlive0
  go_enter Try.func6, Try.ntmps6
  go_wp2_with fail
  refine (hlive.out _).mono ?_
  rintro e w1 ⟨rfl, hb⟩
  have HB := Lib.hid (ext_call ((Below.refl w.heap.size w).alloc (Nat.le_refl _) (.cells #[.int .i64 t, .int .i64 s, .int .i64 r] 23)) hb)
  clear hb
  go_wp2
  go_ret
  exact ⟨rfl, HB.out⟩
set_option maxRecDepth 100000 in
set_option maxHeartbeats 8000000 in
theorem chain_inv (hlive0 : LiveOk) (w : World) (t s r : Int) (A : Option Addr) (n c : Nat) (rep : Int) (hn : n ≤ 20) (hv : vld t s r = false) :
    Calls Try.prog 6 #[.agg #[.int .i64 t, .int .i64 s, .int .i64 r], .slice A n c, .int .i64 rep] w fun e w' => e = .returned (.bool true) ∧ Below w.heap.size w w' := by
  have hlive := Lib.hid hlive0
  have HV := Lib.hid hv
  clear hlive0 hv
  have hd1 : decide (20 < n) = false := by simpa using hn
  go_enter Try.func6, Try.ntmps6
  go_wp2_with fail
  refine (valid_is _ _ _ _ _ HV.out).mono ?_
  rintro e w1 ⟨rfl, hb⟩
  have HB := Lib.hid (ext_call ((Below.refl w.heap.size w).alloc (Nat.le_refl _) (.cells #[.int .i64 t, .int .i64 s, .int .i64 r] 23)) hb)
  clear hb
  go_wp2_with fail
  refine (hlive.out _).mono ?_
  rintro e w2 ⟨rfl, hb⟩
  (first | (have HBn := Lib.hid (ext_call HB.out hb)) | (have HBn := Lib.hid (ext_new HB.out hb))); clear HB hb; have HB := HBn; clear HBn
  go_wp2
  go_ret
  exact ⟨rfl, HB.out⟩
/-- What CsnChain's loop holds. -/
def ChRel (w : World) (g0 : Nat) (wr : World) : Prop := ∃ t s r, vld t s r = true ∧ Bx wr g0 t s r ∧ Fz wr g0 ∧ Below w.heap.size w wr
set_option maxRecDepth 100000 in
set_option maxHeartbeats 8000000 in
theorem chain_main (hlive0 : LiveOk) (w : World) (t s r : Int) (A : Option Addr) (n c : Nat) (l : List Int) (rep : Int) (hn : n ≤ 20) (hv : vld t s r = true) (hs : Si w A n c l) :
    Calls Try.prog 6 #[.agg #[.int .i64 t, .int .i64 s, .int .i64 r], .slice A n c, .int .i64 rep] w fun e w' => e = .returned (.bool true) ∧ Below w.heap.size w w' := by
  have hlive := Lib.hid hlive0
  have HV := Lib.hid hv
  have HS := Lib.hid hs
  clear hlive0 hv hs
  have hd1 : decide (20 < n) = false := by simpa using hn
  go_enter Try.func6, Try.ntmps6
  go_wp2_with fail
  refine (valid_is _ _ _ _ _ HV.out).mono ?_
  rintro e w1 ⟨rfl, hb⟩
  have HB1 := Lib.hid (ext_call ((Below.refl w.heap.size w).alloc (Nat.le_refl _) (.cells #[.int .i64 t, .int .i64 s, .int .i64 r] 23)) hb)
  obtain ⟨ga, x0, x1, x2⟩ := (Bx.mk_ w t s r 23).later hb
  clear hb
  go_wp2_with fail
  clear x0 x1 x2
  obtain ⟨g0, hg0⟩ : ∃ g : Nat, g = w1.heap.size := ⟨_, rfl⟩
  have hg1 : w.heap.size ≤ g0 := by rw [hg0]; exact HB1.out.size
  have HST := Lib.hid (show ChRel w g0 (w1.alloc (.cells #[.int .i64 t, .int .i64 s, .int .i64 r] 23)) from ⟨t, s, r, HV.out, hg0 ▸ Bx.mk_ w1 t s r 23, hg0 ▸ Fz.mk_ w1 t s r 23, HB1.out.alloc HB1.out.size _⟩)
  rw [← hg0]
  clear hg0
  go_loopw [23] (fun i wr => ∃ k : Nat, k ≤ n ∧ i = .int .i64 k ∧ ChRel w g0 wr) (fun i _ => n - (intOf i).toNat)
  case atStart => exact ⟨0, Nat.zero_le _, rfl, HST.out⟩
  case round =>
    obtain ⟨k, hk, rfl, t, s, r, hv, hbx, hfz, hb⟩ := hrel
    obtain ⟨wa, rfl⟩ : ∃ wa : World, wa = wr := ⟨_, rfl⟩
    have HV := Lib.hid hv
    have BC0 := Lib.hid hbx
    have FZ0 := Lib.hid hfz
    have HW := Lib.hid hb
    have hwz := hb.size
    clear hv hfz hb HST
    by_cases hlt : k < n
    · obtain ⟨b, off, rfl, hbl0, hc⟩ := (HS.out.below HW.out).2.2 (by omega)
      have hnc := HS.out.2.1
      have hck := hc k hlt
      have HCK0 := Lib.hid hck
      clear hc
      have hn1 := next_any t s r (iAt l k) rep
      have hok := chain_ok (now := iAt l k) (rep := rep) HV.out
      have hbad := chain_bad (now := iAt l k) (rep := rep) HV.out
      generalize nextC t s r (iAt l k) rep = N at *
      obtain ⟨⟨a, b', d⟩, e0⟩ := N
      simp only at hn1 hok hbad
      have HN1 := Lib.hid hn1
      have HOK := Lib.hid hok
      have HBAD := Lib.hid hbad
      clear hn1 hok hbad
      obtain ⟨gg, x0, x1, x2⟩ := hbx
      go_upto_region 8 with fail
      go_cut [8, 9, 10] (fun s8 s9 s10 wx => s8 = .int .i64 k ∧ s10 = .int .i64 e0 ∧ Below wa.heap.size wa wx ∧ ∃ g, s9 = .pointer (some ⟨g, 0, none⟩) ∧ Bx wx g a b' d)
      case first =>
        go_wp2_with fail
        have HB := Lib.hid ((Below.refl wa.heap.size wa).drew)
        go_region_held3 (fun w' => w'.cell? ⟨g0, 0, none⟩ = some (.int .i64 t) ∧ w'.cell? ⟨g0, 1, none⟩ = some (.int .i64 s) ∧ w'.cell? ⟨g0, 2, none⟩ = some (.int .i64 r) ∧ w'.cell? ⟨b, off + k, none⟩ = some (.int .i64 (iAt l k))) ((first | exact c4_mk BC0.out hbl0 HCK0.out HB.out | exact c4_mk BC0.out hbl0 HCK0.out (HB.out.alloc HB.out.size _) | (refine c4_mk BC0.out hbl0 HCK0.out ?_; refine Below.setCell ?_ ?_ _; refine Below.setCell ?_ ?_ _; refine Below.setCell ?_ ?_ _; exact HB.out; all_goals (have := HB.out.size; simp; try omega))))
          ((go_at_call 21; refine (HN1.out _).mono ?_; rintro e wn ⟨rfl, hb⟩; obtain ⟨hcB, hfB⟩ := bcell hb; (first | have BD0 := Lib.hid (Bx.later (w := (wa.alloc (.cells #[.int .i64 0, .int .i64 0, .int .i64 0] 23)).drew) (Bx.mk_ wa 0 0 0 23) hb) | skip); (first | (have HBn := Lib.hid (ext_call HB.out hb)) | (have HBn := Lib.hid (ext_new HB.out hb))); clear HB hb; have HB := HBn; clear HBn))
        all_goals go_wp2
        all_goals go_meet
        · exact ⟨rfl, rfl, HB.out.alloc HB.out.size _, wn.heap.size, rfl, Bx.mk_ wn a b' d _⟩
        · exact ⟨rfl, rfl, ((HB.out.setCell (Nat.le_refl _) _).setCell (Nat.le_refl _) _).setCell (Nat.le_refl _) _, wa.heap.size, rfl, BD0.out.stored a b' d⟩
      case rest =>
        obtain ⟨rfl, rfl, hbx2, g, rfl, hbd⟩ := hcut
        obtain ⟨wx, rfl⟩ : ∃ x : World, x = wc := ⟨_, rfl⟩
        have BD := Lib.hid hbd
        have BC := Lib.hid (BC0.out.later hbx2)
        have hck2 : wx.cell? ⟨b, off + k, none⟩ = some (.int .i64 (iAt l k)) := by rw [bkeep hbx2 hbl0]; exact HCK0.out
        have HCK := Lib.hid hck2
        have hbl : b < wx.heap.size := Nat.lt_of_lt_of_le hbl0 hbx2.size
        have hgc : g0 < wx.heap.size := Nat.lt_of_lt_of_le gg hbx2.size
        have FZ := Lib.hid (FZ0.out.later gg hbx2)
        have HWx := Lib.hid (ext_call HW.out hbx2)
        clear hbd hck2 hbx2 BC0 FZ0 HCK0 x0 x1 x2 hck
        by_cases he : e0 = 0
        · subst he
          obtain ⟨ok1, ok2, ok3, ok4⟩ := HOK.out rfl
          have HVD := Lib.hid ok1
          have HCM := Lib.hid ok2
          clear ok1 ok2 HBAD
          go_wp2_with fail
          have HB := Lib.hid ((Below.refl wx.heap.size wx).drew)
          refine wp_region_held_drew (S := (fun w' => w'.cell? ⟨g0, 0, none⟩ = some (.int .i64 t) ∧ w'.cell? ⟨g0, 1, none⟩ = some (.int .i64 s) ∧ w'.cell? ⟨g0, 2, none⟩ = some (.int .i64 r) ∧ w'.cell? ⟨g, 0, none⟩ = some (.int .i64 a) ∧ w'.cell? ⟨g, 1, none⟩ = some (.int .i64 b') ∧ w'.cell? ⟨g, 2, none⟩ = some (.int .i64 d) ∧ w'.cell? ⟨b, off + k, none⟩ = some (.int .i64 (iAt l k)))) (by kernel_rfl) ?_ (fun hHeld => ?_)
          focus ((try dsimp only); (exact c7_mk BC.out BD.out hbl HCK.out HB.out); done)
          refine wpAnyH_take (i := 0) (oi := ⟨_, _, _, _, _, _⟩) (v := ?_) rfl (by kernel_rfl) (by kernel_rfl) (by kernel_rfl) (fun _ _ _ h => h) (Or.inl ⟨by rfl, ?_⟩) (by assumption) ?_; rotate_left; (focus (intro w hSw; (try dsimp only at hSw); go_simp; (try with_reducible rfl); done)); simp only [Act.put, List.setIfInBounds_toArray, List.set_cons_zero, List.set_cons_succ]
          refine wpAnyH_take (i := 1) (oi := ⟨_, _, _, _, _, _⟩) (v := ?_) rfl (by kernel_rfl) (by kernel_rfl) (by kernel_rfl) (fun _ _ _ h => h) (Or.inl ⟨by rfl, ?_⟩) (by assumption) ?_; rotate_left; (focus (intro w hSw; (try dsimp only at hSw); go_simp; (try with_reducible rfl); done)); simp only [Act.put, List.setIfInBounds_toArray, List.set_cons_zero, List.set_cons_succ]
          refine wpAnyH_ready (rs := [2]) (by kernel_rfl) (by simp) ?_
          refine AllReadyH.cons (o := ⟨_, _, _, _, _, _⟩) rfl (fun K hK => ?_) AllReadyH.nil
          go_simp
          ((with_reducible refine (compare_is _ _ _ _ _ _ _ _ HCM.out).mono ?_); rintro e wn ⟨rfl, hb⟩; (first | (have HBn := Lib.hid (ext_call HB.out hb)) | (have HBn := Lib.hid (ext_new HB.out hb))); clear HB hb; have HB := HBn; clear HBn)
          (try go_wp2_with fail)
          refine hK.out _ _ ?_ (fun hHeld => ?_)
          focus ((try dsimp only); (exact c7_mk BC.out BD.out hbl HCK.out HB.out); done)
          clear hK K
          (try simp only [Act.put, List.setIfInBounds_toArray, List.set_cons_zero, List.set_cons_succ])
          refine wpAnyH_take (i := 3) (oi := ⟨_, _, _, _, _, _⟩) (v := ?_) rfl (by kernel_rfl) (by kernel_rfl) (by kernel_rfl) (fun _ _ _ h => h) (Or.inl ⟨by rfl, ?_⟩) (by assumption) ?_; rotate_left; (focus (intro w hSw; (try dsimp only at hSw); go_simp; (try with_reducible rfl); done)); simp only [Act.put, List.setIfInBounds_toArray, List.set_cons_zero, List.set_cons_succ]
          refine wpAnyH_take (i := 4) (oi := ⟨_, _, _, _, _, _⟩) (v := ?_) rfl (by kernel_rfl) (by kernel_rfl) (by kernel_rfl) (fun _ _ _ h => h) (Or.inl ⟨by rfl, ?_⟩) (by assumption) ?_; rotate_left; (focus (intro w hSw; (try dsimp only at hSw); go_simp; (try with_reducible rfl); done)); simp only [Act.put, List.setIfInBounds_toArray, List.set_cons_zero, List.set_cons_succ]
          refine wpAnyH_take (i := 5) (oi := ⟨_, _, _, _, _, _⟩) (v := ?_) rfl (by kernel_rfl) (by kernel_rfl) (by kernel_rfl) (fun _ _ _ h => h) (Or.inl ⟨by rfl, ?_⟩) (by assumption) ?_; rotate_left; (focus (intro w hSw; (try dsimp only at hSw); go_simp; (try with_reducible rfl); done)); simp only [Act.put, List.setIfInBounds_toArray, List.set_cons_zero, List.set_cons_succ]
          refine wpAnyH_take (i := 7) (oi := ⟨_, _, _, _, _, _⟩) (v := ?_) rfl (by kernel_rfl) (by kernel_rfl) (by kernel_rfl) (fun _ _ _ h => h) (Or.inl ⟨by rfl, ?_⟩) (by assumption) ?_; rotate_left; (focus (intro w hSw; (try dsimp only at hSw); go_simp; (try with_reducible rfl); done)); simp only [Act.put, List.setIfInBounds_toArray, List.set_cons_zero, List.set_cons_succ]
          refine wpAnyH_ready (rs := [6]) (by kernel_rfl) (by simp) ?_
          refine AllReadyH.cons (o := ⟨_, _, _, _, _, _⟩) rfl (fun K hK => ?_) AllReadyH.nil
          go_simp
          ((with_reducible refine (format_any _ _ _ _).mono ?_); rintro e wn ⟨rfl, hb⟩; (first | (have HBn := Lib.hid (ext_call HB.out hb)) | (have HBn := Lib.hid (ext_new HB.out hb))); clear HB hb; have HB := HBn; clear HBn)
          (try go_wp2_with fail)
          refine hK.out _ _ ?_ (fun hHeld => ?_)
          focus ((try dsimp only); (exact c7_mk BC.out BD.out hbl HCK.out HB.out); done)
          clear hK K
          (try simp only [Act.put, List.setIfInBounds_toArray, List.set_cons_zero, List.set_cons_succ])
          refine wpAnyH_ready (rs := [8]) (by kernel_rfl) (by simp) ?_
          refine AllReadyH.cons (o := ⟨_, _, _, _, _, _⟩) rfl (fun K hK => ?_) AllReadyH.nil
          go_simp
          ((with_reducible refine (format_any _ _ _ _).mono ?_); rintro e wn ⟨rfl, hb⟩; (first | (have HBn := Lib.hid (ext_call HB.out hb)) | (have HBn := Lib.hid (ext_new HB.out hb))); clear HB hb; have HB := HBn; clear HBn)
          (try go_wp2_with fail)
          refine hK.out _ _ ?_ (fun hHeld => ?_)
          focus ((try dsimp only); (exact c7_mk BC.out BD.out hbl HCK.out HB.out); done)
          clear hK K
          (try simp only [Act.put, List.setIfInBounds_toArray, List.set_cons_zero, List.set_cons_succ])
          refine wpAnyH_take (i := 9) (oi := ⟨_, _, _, _, _, _⟩) (v := ?_) rfl (by kernel_rfl) (by kernel_rfl) (by kernel_rfl) (fun _ _ _ h => h) (Or.inl ⟨by rfl, ?_⟩) (by assumption) ?_; rotate_left; (focus (intro w hSw; (try dsimp only at hSw); go_simp; (try with_reducible rfl); done)); simp only [Act.put, List.setIfInBounds_toArray, List.set_cons_zero, List.set_cons_succ]
          refine wpAnyH_take (i := 10) (oi := ⟨_, _, _, _, _, _⟩) (v := ?_) rfl (by kernel_rfl) (by kernel_rfl) (by kernel_rfl) (fun _ _ _ h => h) (Or.inl ⟨by rfl, ?_⟩) (by assumption) ?_; rotate_left; (focus (intro w hSw; (try dsimp only at hSw); go_simp; (try with_reducible rfl); done)); simp only [Act.put, List.setIfInBounds_toArray, List.set_cons_zero, List.set_cons_succ]
          refine wpAnyH_take (i := 11) (oi := ⟨_, _, _, _, _, _⟩) (v := ?_) rfl (by kernel_rfl) (by kernel_rfl) (by kernel_rfl) (fun _ _ _ h => h) (Or.inl ⟨by rfl, ?_⟩) (by assumption) ?_; rotate_left; (focus (intro w hSw; (try dsimp only at hSw); go_simp; (try with_reducible rfl); done)); simp only [Act.put, List.setIfInBounds_toArray, List.set_cons_zero, List.set_cons_succ]
          refine wpAnyH_take (i := 12) (oi := ⟨_, _, _, _, _, _⟩) (v := ?_) rfl (by kernel_rfl) (by kernel_rfl) (by kernel_rfl) (fun _ _ _ h => h) (Or.inl ⟨by rfl, ?_⟩) (by assumption) ?_; rotate_left; (focus (intro w hSw; (try dsimp only at hSw); go_simp; (try with_reducible rfl); done)); simp only [Act.put, List.setIfInBounds_toArray, List.set_cons_zero, List.set_cons_succ]
          refine wpAnyH_take (i := 13) (oi := ⟨_, _, _, _, _, _⟩) (v := ?_) rfl (by kernel_rfl) (by kernel_rfl) (by kernel_rfl) (fun _ _ _ h => h) (Or.inl ⟨by rfl, ?_⟩) (by assumption) ?_; rotate_left; (focus (intro w hSw; (try dsimp only at hSw); go_simp; (try with_reducible rfl); done)); simp only [Act.put, List.setIfInBounds_toArray, List.set_cons_zero, List.set_cons_succ]
          refine wpAnyH_take (i := 14) (oi := ⟨_, _, _, _, _, _⟩) (v := ?_) rfl (by kernel_rfl) (by kernel_rfl) (by kernel_rfl) (fun _ _ _ h => h) (Or.inl ⟨by rfl, ?_⟩) (by assumption) ?_; rotate_left; (focus (intro w hSw; (try dsimp only at hSw); go_simp; (try with_reducible rfl); done)); simp only [Act.put, List.setIfInBounds_toArray, List.set_cons_zero, List.set_cons_succ]
          refine wpAnyH_take (i := 15) (oi := ⟨_, _, _, _, _, _⟩) (v := ?_) rfl (by kernel_rfl) (by kernel_rfl) (by kernel_rfl) (fun _ _ _ h => h) (Or.inl ⟨by rfl, ?_⟩) (by assumption) ?_; rotate_left; (focus (intro w hSw; (try dsimp only at hSw); go_simp; (try with_reducible rfl); done)); simp only [Act.put, List.setIfInBounds_toArray, List.set_cons_zero, List.set_cons_succ]
          refine wpAnyH_take (i := 16) (oi := ⟨_, _, _, _, _, _⟩) (v := ?_) rfl (by kernel_rfl) (by kernel_rfl) (by kernel_rfl) (fun _ _ _ h => h) (Or.inl ⟨by rfl, ?_⟩) (by assumption) ?_; rotate_left; (focus (intro w hSw; (try dsimp only at hSw); go_simp; (try with_reducible rfl); done)); simp only [Act.put, List.setIfInBounds_toArray, List.set_cons_zero, List.set_cons_succ]
          refine wpAnyH_take (i := 17) (oi := ⟨_, _, _, _, _, _⟩) (v := ?_) rfl (by kernel_rfl) (by kernel_rfl) (by kernel_rfl) (fun _ _ _ h => h) (Or.inl ⟨by rfl, ?_⟩) (by assumption) ?_; rotate_left; (focus (intro w hSw; (try dsimp only at hSw); go_simp; (try with_reducible rfl); done)); simp only [Act.put, List.setIfInBounds_toArray, List.set_cons_zero, List.set_cons_succ]
          refine wpAnyH_ready (rs := [18]) (by kernel_rfl) (by simp) ?_
          refine AllReadyH.cons (o := ⟨_, _, _, _, _, _⟩) rfl (fun K hK => ?_) AllReadyH.nil
          go_simp
          ((with_reducible refine (instant_b _ _).mono ?_); rintro e wn ⟨rfl, hb⟩; (first | (have HBn := Lib.hid (ext_call HB.out hb)) | (have HBn := Lib.hid (ext_new HB.out hb))); clear HB hb; have HB := HBn; clear HBn)
          (try go_wp2_with fail)
          refine hK.out _ _ ?_ (fun hHeld => ?_)
          focus ((try dsimp only); (exact c7_mk BC.out BD.out hbl HCK.out HB.out); done)
          clear hK K
          (try simp only [Act.put, List.setIfInBounds_toArray, List.set_cons_zero, List.set_cons_succ])
          refine wpAnyH_take (i := 19) (oi := ⟨_, _, _, _, _, _⟩) (v := ?_) rfl (by kernel_rfl) (by kernel_rfl) (by kernel_rfl) (fun _ _ _ h => h) (Or.inl ⟨by rfl, ?_⟩) (by assumption) ?_; rotate_left; (focus (intro w hSw; (try dsimp only at hSw); go_simp; (try with_reducible rfl); done)); simp only [Act.put, List.setIfInBounds_toArray, List.set_cons_zero, List.set_cons_succ]
          refine wpAnyH_take (i := 20) (oi := ⟨_, _, _, _, _, _⟩) (v := ?_) rfl (by kernel_rfl) (by kernel_rfl) (by kernel_rfl) (fun _ _ _ h => h) (Or.inl ⟨by rfl, ?_⟩) (by assumption) ?_; rotate_left; (focus (intro w hSw; (try dsimp only at hSw); go_simp; (try with_reducible rfl); done)); simp only [Act.put, List.setIfInBounds_toArray, List.set_cons_zero, List.set_cons_succ]
          refine wpAnyH_done (by kernel_rfl) ?_ _
          obtain ⟨gd, y0, y1, y2⟩ := BD.out.later HB.out
          obtain ⟨gc, x0, x1, x2⟩ := BC.out.later HB.out
          obtain ⟨f0, f1, f2⟩ := FZ.out.later hgc HB.out
          go_wp2
          go_roundw
          case rel => exact ⟨k + 1, by omega, by go_num, a, b', d, HVD.out, (BC.out.later HB.out).stored a b' d, (((FZ.out.later hgc HB.out).set _ _).set _ _).set _ _, (((ext_call HWx.out HB.out).setCell hg1 _).setCell hg1 _).setCell hg1 _⟩
          case measure => simp [intOf]; omega
        · have hq := HBAD.out he
          clear he HBAD HOK
          rcases hq with ⟨h1, h2⟩ | ⟨h1, h2, h3⟩
          · subst h1
            rcases h2 with h2 | h2
            · have hd2 : decide (rep < 0) = true := by simpa using h2
              go_wp2_with fail
              refine (hlive.out _).mono ?_
              rintro e w5 ⟨rfl, hb⟩
              have HB2 := Lib.hid (ext_call HWx.out hb)
              clear hb
              go_wp2
              go_ret
              exact ⟨rfl, HB2.out⟩
            · have hd2 : decide (rep < 0) = false := by simp; omega
              have hd3 : decide (8 ≤ rep) = true := by simpa using h2
              go_wp2_with fail
              refine (hlive.out _).mono ?_
              rintro e w5 ⟨rfl, hb⟩
              have HB2 := Lib.hid (ext_call HWx.out hb)
              clear hb
              go_wp2
              go_ret
              exact ⟨rfl, HB2.out⟩
          · subst h1
            have hd2 : decide (rep < 0) = false := by simp; omega
            have hd3 : decide (8 ≤ rep) = false := by simp; omega
            go_wp2_with fail
            refine (hlive.out _).mono ?_
            rintro e w5 ⟨rfl, hb⟩
            have HB2 := Lib.hid (ext_call HWx.out hb)
            clear hb
            go_wp2
            go_ret
            exact ⟨rfl, HB2.out⟩
    · go_wp2_with fail
      refine (hlive.out _).mono ?_
      rintro e w5 ⟨rfl, hb⟩
      have HB2 := Lib.hid (ext_call HW.out hb)
      clear hb
      go_wp2
      go_ret
      exact ⟨rfl, HB2.out⟩
theorem chainLaw_any (hlive0 : LiveOk) (w : World) (t s r : Int) (A : Option Addr) (n c : Nat) (l : List Int) (rep : Int) (hs : Si w A n c l) :
    Calls Try.prog 6 #[.agg #[.int .i64 t, .int .i64 s, .int .i64 r], .slice A n c, .int .i64 rep] w fun e w' => e = .returned (.bool true) ∧ Below w.heap.size w w' := by
  rcases Nat.lt_or_ge 20 n with hn | hn
  · exact chain_long hlive0 w t s r A n c rep hn
  · cases hv : vld t s r with
    | false => exact chain_inv hlive0 w t s r A n c rep hn hv
    | true => exact chain_main hlive0 w t s r A n c l rep hn hv hs
end Go.Proofs.Yteidbomkbddliaa.Csn
