/-
  The closures of Start and Purge; count.
-/
import Derived.Test.YtapooonlbjgbgaaDoorDvO4
import Derived.Laws.ByValue
namespace Go.Proofs.YtapooonlbjgbgaaDoor.Dv
open Go.RowKit Go.Proofs.YtapooonlbjgbgaaDoor.Fo Go.Proofs.YtapooonlbjgbgaaDoor.Rf Go.Maps Go.WideMaps

theorem ent1 : ∀ args w, (callFunc 49 args).run Tryd.prog w = .ok (.enter 49 args) w := enters_of Tryd.func49 (by kernel_rfl) rfl
theorem ent2 : ∀ args w, (callFunc 51 args).run Tryd.prog w = .ok (.enter 51 args) w := enters_of Tryd.func51 (by kernel_rfl) rfl
theorem entp : ∀ args w, (callFunc 67 args).run Tryd.prog w = .ok (.enter 67 args) w := enters_of Tryd.func67 (by kernel_rfl) rfl
theorem open_any {w : World} {b pn : Nat} {x : Fw} {now : Int} (d : Bs) (h : w.cell? ⟨b, 3, none⟩ = some (.int .i64 x.fin)) (hn : w.cell? ⟨pn, 0, none⟩ = some (.int .i64 now)) {v : Bool} (hv : opn now x = v) :
    Calls Tryd.prog 49 #[.string d, .pointer (some ⟨b, 0, none⟩), .pointer (some ⟨pn, 0, none⟩)] w fun e w' => e = .returned (.bool v) ∧ Below w.heap.size w w' := by
  subst hv
  go_enter Tryd.func49, Tryd.ntmps49
  go_wp2_with fail
  refine (expired_any h now rfl).mono ?_
  rintro e w1 ⟨rfl, hb⟩
  have HB := Lib.hid hb
  clear hb
  go_wp2
  go_ret
  exact ⟨rfl, HB.out⟩
theorem purge1_any {w : World} {b pn : Nat} {x : Fw} {now : Int} (d : Bs) (h : w.cell? ⟨b, 3, none⟩ = some (.int .i64 x.fin)) (hn : w.cell? ⟨pn, 0, none⟩ = some (.int .i64 now)) {v : Bool} (hv : expd now x = v) :
    Calls Tryd.prog 67 #[.string d, .pointer (some ⟨b, 0, none⟩), .pointer (some ⟨pn, 0, none⟩)] w fun e w' => e = .returned (.bool v) ∧ Below w.heap.size w w' := by
  subst hv
  go_enter Tryd.func67, Tryd.ntmps67
  go_wp2_with fail
  refine (expired_any h now rfl).mono ?_
  rintro e w1 ⟨rfl, hb⟩
  have HB := Lib.hid hb
  clear hb
  go_wp2
  go_ret
  exact ⟨rfl, HB.out⟩
set_option maxRecDepth 100000 in
set_option maxHeartbeats 4000000 in
theorem same_any {w : World} {b pn po pd pc : Nat} {x : Fw} {now : Int} (d dev code : Bs) (ho : w.cell? ⟨po, 0, none⟩ = some (.func (.func 49) #[] #[.pointer (some ⟨pn, 0, none⟩)])) (hd : w.cell? ⟨pd, 0, none⟩ = some (.string dev)) (hc : w.cell? ⟨pc, 0, none⟩ = some (.string code)) (h0 : w.cell? ⟨b, 0, none⟩ = some (.string x.code)) (h3 : w.cell? ⟨b, 3, none⟩ = some (.int .i64 x.fin)) (hn : w.cell? ⟨pn, 0, none⟩ = some (.int .i64 now)) (hw : x.w = d) {v : Bool} (hv : isSame now dev code x = v) :
    Calls Tryd.prog 51 #[.string d, .pointer (some ⟨b, 0, none⟩), .pointer (some ⟨po, 0, none⟩), .pointer (some ⟨pd, 0, none⟩), .pointer (some ⟨pc, 0, none⟩)] w fun e w' => e = .returned (.bool v) ∧ Below w.heap.size w w' := by
  subst hv
  have hE := ent1
  cases hop : opn now x with
  | false =>
    have HO := Lib.hid hop
    have HR := Lib.hid (show false = isSame now dev code x by unfold isSame; rw [hop]; rfl)
    clear hop
    go_enter Tryd.func51, Tryd.ntmps51
    go_wp2_with fail
    refine wp_region_held_drew (S := (fun w' => w'.cell? ⟨po, 0, none⟩ = some (.func (.func 49) #[] #[.pointer (some ⟨pn, 0, none⟩)]) ∧ w'.cell? ⟨pd, 0, none⟩ = some (.string dev) ∧ w'.cell? ⟨pc, 0, none⟩ = some (.string code) ∧ w'.cell? ⟨b, 0, none⟩ = some (.string x.code) ∧ w'.cell? ⟨b, 3, none⟩ = some (.int .i64 x.fin) ∧ w'.cell? ⟨pn, 0, none⟩ = some (.int .i64 now))) (by kernel_rfl) ?_ (fun hHeld => ?_)
    focus ((try dsimp only); (first | exact ⟨ho, hd, hc, h0, h3, hn⟩ | exact (let hb := (Below.refl w.heap.size w).drew; ⟨cell_below hb ho, cell_below hb hd, cell_below hb hc, cell_below hb h0, cell_below hb h3, cell_below hb hn⟩) | exact (let hb := HV.out; ⟨cell_below hb ho, cell_below hb hd, cell_below hb hc, cell_below hb h0, cell_below hb h3, cell_below hb hn⟩)); done)
    refine wpAnyH_take (i := 0) (oi := ⟨_, _, _, _, _, _⟩) (v := ?_) rfl (by kernel_rfl) (by kernel_rfl) (by kernel_rfl) (fun _ _ _ h => h) (Or.inl ⟨by rfl, ?_⟩) (by assumption) ?_; rotate_left; (focus (intro w hSw; (try dsimp only at hSw); go_simp; (try with_reducible rfl); done)); simp only [Act.put, List.setIfInBounds_toArray, List.set_cons_zero, List.set_cons_succ]
    refine wpAnyH_take (i := 1) (oi := ⟨_, _, _, _, _, _⟩) (v := ?_) rfl (by kernel_rfl) (by kernel_rfl) (by kernel_rfl) (fun _ _ _ h => h) (Or.inl ⟨by rfl, ?_⟩) (by assumption) ?_; rotate_left; (focus (intro w hSw; (try dsimp only at hSw); go_simp; (try with_reducible rfl); done)); simp only [Act.put, List.setIfInBounds_toArray, List.set_cons_zero, List.set_cons_succ]
    refine wpAnyH_take (i := 2) (oi := ⟨_, _, _, _, _, _⟩) (v := ?_) rfl (by kernel_rfl) (by kernel_rfl) (by kernel_rfl) (fun _ _ _ h => h) (Or.inl ⟨by rfl, ?_⟩) (by assumption) ?_; rotate_left; (focus (intro w hSw; (try dsimp only at hSw); go_simp; (try with_reducible rfl); done)); simp only [Act.put, List.setIfInBounds_toArray, List.set_cons_zero, List.set_cons_succ]
    refine wpAnyH_ready (rs := [3]) (by kernel_rfl) (by simp) ?_
    refine AllReadyH.cons (o := ⟨_, _, _, _, _, _⟩) rfl (fun K hK => ?_) AllReadyH.nil
    go_simp
    go_wp2_with fail
    refine (open_any d (cell_below ((Below.refl w.heap.size w).drew) h3) (cell_below ((Below.refl w.heap.size w).drew) hn) HO.out).mono ?_
    rintro e v1 ⟨rfl, hv⟩
    have HV := Lib.hid (show Below w.heap.size w v1 from ((Below.refl _ _).drew).trans hv)
    clear hv
    (try go_wp2_with fail)
    refine hK.out _ _ ?_ (fun hHeld => ?_)
    focus ((try dsimp only); (first | exact ⟨ho, hd, hc, h0, h3, hn⟩ | exact (let hb := (Below.refl w.heap.size w).drew; ⟨cell_below hb ho, cell_below hb hd, cell_below hb hc, cell_below hb h0, cell_below hb h3, cell_below hb hn⟩) | exact (let hb := HV.out; ⟨cell_below hb ho, cell_below hb hd, cell_below hb hc, cell_below hb h0, cell_below hb h3, cell_below hb hn⟩)); done)
    clear hK K
    (try simp only [Act.put, List.setIfInBounds_toArray, List.set_cons_zero, List.set_cons_succ])
    refine wpAnyH_take (i := 4) (oi := ⟨_, _, _, _, _, _⟩) (v := ?_) rfl (by kernel_rfl) (by kernel_rfl) (by kernel_rfl) (fun _ _ _ h => h) (Or.inl ⟨by rfl, ?_⟩) (by assumption) ?_; rotate_left; (focus (intro w hSw; (try dsimp only at hSw); go_simp; (try with_reducible rfl); done)); simp only [Act.put, List.setIfInBounds_toArray, List.set_cons_zero, List.set_cons_succ]
    refine wpAnyH_take (i := 5) (oi := ⟨_, _, _, _, _, _⟩) rfl (by kernel_rfl) (by kernel_rfl) (by kernel_rfl) (fun _ _ _ h => h) (Or.inr ⟨by rfl, rfl⟩) (by assumption) ?_; simp only [Act.put, List.setIfInBounds_toArray, List.set_cons_zero, List.set_cons_succ]
    refine wpAnyH_take (i := 6) (oi := ⟨_, _, _, _, _, _⟩) rfl (by kernel_rfl) (by kernel_rfl) (by kernel_rfl) (fun _ _ _ h => h) (Or.inr ⟨by rfl, rfl⟩) (by assumption) ?_; simp only [Act.put, List.setIfInBounds_toArray, List.set_cons_zero, List.set_cons_succ]
    refine wpAnyH_take (i := 7) (oi := ⟨_, _, _, _, _, _⟩) rfl (by kernel_rfl) (by kernel_rfl) (by kernel_rfl) (fun _ _ _ h => h) (Or.inr ⟨by rfl, rfl⟩) (by assumption) ?_; simp only [Act.put, List.setIfInBounds_toArray, List.set_cons_zero, List.set_cons_succ]
    refine wpAnyH_take (i := 8) (oi := ⟨_, _, _, _, _, _⟩) rfl (by kernel_rfl) (by kernel_rfl) (by kernel_rfl) (fun _ _ _ h => h) (Or.inr ⟨by rfl, rfl⟩) (by assumption) ?_; simp only [Act.put, List.setIfInBounds_toArray, List.set_cons_zero, List.set_cons_succ]
    refine wpAnyH_take (i := 9) (oi := ⟨_, _, _, _, _, _⟩) rfl (by kernel_rfl) (by kernel_rfl) (by kernel_rfl) (fun _ _ _ h => h) (Or.inr ⟨by rfl, rfl⟩) (by assumption) ?_; simp only [Act.put, List.setIfInBounds_toArray, List.set_cons_zero, List.set_cons_succ]
    refine wpAnyH_take (i := 10) (oi := ⟨_, _, _, _, _, _⟩) rfl (by kernel_rfl) (by kernel_rfl) (by kernel_rfl) (fun _ _ _ h => h) (Or.inr ⟨by rfl, rfl⟩) (by assumption) ?_; simp only [Act.put, List.setIfInBounds_toArray, List.set_cons_zero, List.set_cons_succ]
    refine wpAnyH_take (i := 11) (oi := ⟨_, _, _, _, _, _⟩) rfl (by kernel_rfl) (by kernel_rfl) (by kernel_rfl) (fun _ _ _ h => h) (Or.inr ⟨by rfl, rfl⟩) (by assumption) ?_; simp only [Act.put, List.setIfInBounds_toArray, List.set_cons_zero, List.set_cons_succ]
    refine wpAnyH_take (i := 12) (oi := ⟨_, _, _, _, _, _⟩) rfl (by kernel_rfl) (by kernel_rfl) (by kernel_rfl) (fun _ _ _ h => h) (Or.inr ⟨by rfl, rfl⟩) (by assumption) ?_; simp only [Act.put, List.setIfInBounds_toArray, List.set_cons_zero, List.set_cons_succ]
    refine wpAnyH_take (i := 13) (oi := ⟨_, _, _, _, _, _⟩) rfl (by kernel_rfl) (by kernel_rfl) (by kernel_rfl) (fun _ _ _ h => h) (Or.inr ⟨by rfl, rfl⟩) (by assumption) ?_; simp only [Act.put, List.setIfInBounds_toArray, List.set_cons_zero, List.set_cons_succ]
    refine wpAnyH_take (i := 14) (oi := ⟨_, _, _, _, _, _⟩) rfl (by kernel_rfl) (by kernel_rfl) (by kernel_rfl) (fun _ _ _ h => h) (Or.inr ⟨by rfl, rfl⟩) (by assumption) ?_; simp only [Act.put, List.setIfInBounds_toArray, List.set_cons_zero, List.set_cons_succ]
    refine wpAnyH_take (i := 15) (oi := ⟨_, _, _, _, _, _⟩) rfl (by kernel_rfl) (by kernel_rfl) (by kernel_rfl) (fun _ _ _ h => h) (Or.inr ⟨by rfl, rfl⟩) (by assumption) ?_; simp only [Act.put, List.setIfInBounds_toArray, List.set_cons_zero, List.set_cons_succ]
    refine wpAnyH_take (i := 16) (oi := ⟨_, _, _, _, _, _⟩) (v := ?_) rfl (by kernel_rfl) (by kernel_rfl) (by kernel_rfl) (fun _ _ _ h => h) (Or.inl ⟨by rfl, ?_⟩) (by assumption) ?_; rotate_left; (focus (intro w hSw; (try dsimp only at hSw); go_simp; (try with_reducible rfl); done)); simp only [Act.put, List.setIfInBounds_toArray, List.set_cons_zero, List.set_cons_succ]
    refine wpAnyH_take (i := 17) (oi := ⟨_, _, _, _, _, _⟩) (v := ?_) rfl (by kernel_rfl) (by kernel_rfl) (by kernel_rfl) (fun _ _ _ h => h) (Or.inl ⟨by rfl, ?_⟩) (by assumption) ?_; rotate_left; (focus (intro w hSw; (try dsimp only at hSw); go_simp; (try with_reducible rfl); done)); simp only [Act.put, List.setIfInBounds_toArray, List.set_cons_zero, List.set_cons_succ]
    refine wpAnyH_done (by kernel_rfl) ?_ _
    go_wp2
    go_ret
    exact ⟨ret_bool HR.out, HV.out⟩
  | true =>
    have HO := Lib.hid hop
    by_cases hdd : d = dev
    · have hdb : (d.toList == dev.toList) = true := by rw [beq_bs]; simpa using hdd
      have HR := Lib.hid (show true = isSame now dev code x by unfold isSame; rw [hop, hw, decide_eq_true hdd]; rfl)
      clear hop hdd
      go_enter Tryd.func51, Tryd.ntmps51
      go_wp2_with fail
      refine wp_region_held_drew (S := (fun w' => w'.cell? ⟨po, 0, none⟩ = some (.func (.func 49) #[] #[.pointer (some ⟨pn, 0, none⟩)]) ∧ w'.cell? ⟨pd, 0, none⟩ = some (.string dev) ∧ w'.cell? ⟨pc, 0, none⟩ = some (.string code) ∧ w'.cell? ⟨b, 0, none⟩ = some (.string x.code) ∧ w'.cell? ⟨b, 3, none⟩ = some (.int .i64 x.fin) ∧ w'.cell? ⟨pn, 0, none⟩ = some (.int .i64 now))) (by kernel_rfl) ?_ (fun hHeld => ?_)
      focus ((try dsimp only); (first | exact ⟨ho, hd, hc, h0, h3, hn⟩ | exact (let hb := (Below.refl w.heap.size w).drew; ⟨cell_below hb ho, cell_below hb hd, cell_below hb hc, cell_below hb h0, cell_below hb h3, cell_below hb hn⟩) | exact (let hb := HV.out; ⟨cell_below hb ho, cell_below hb hd, cell_below hb hc, cell_below hb h0, cell_below hb h3, cell_below hb hn⟩)); done)
      refine wpAnyH_take (i := 0) (oi := ⟨_, _, _, _, _, _⟩) (v := ?_) rfl (by kernel_rfl) (by kernel_rfl) (by kernel_rfl) (fun _ _ _ h => h) (Or.inl ⟨by rfl, ?_⟩) (by assumption) ?_; rotate_left; (focus (intro w hSw; (try dsimp only at hSw); go_simp; (try with_reducible rfl); done)); simp only [Act.put, List.setIfInBounds_toArray, List.set_cons_zero, List.set_cons_succ]
      refine wpAnyH_take (i := 1) (oi := ⟨_, _, _, _, _, _⟩) (v := ?_) rfl (by kernel_rfl) (by kernel_rfl) (by kernel_rfl) (fun _ _ _ h => h) (Or.inl ⟨by rfl, ?_⟩) (by assumption) ?_; rotate_left; (focus (intro w hSw; (try dsimp only at hSw); go_simp; (try with_reducible rfl); done)); simp only [Act.put, List.setIfInBounds_toArray, List.set_cons_zero, List.set_cons_succ]
      refine wpAnyH_take (i := 2) (oi := ⟨_, _, _, _, _, _⟩) (v := ?_) rfl (by kernel_rfl) (by kernel_rfl) (by kernel_rfl) (fun _ _ _ h => h) (Or.inl ⟨by rfl, ?_⟩) (by assumption) ?_; rotate_left; (focus (intro w hSw; (try dsimp only at hSw); go_simp; (try with_reducible rfl); done)); simp only [Act.put, List.setIfInBounds_toArray, List.set_cons_zero, List.set_cons_succ]
      refine wpAnyH_ready (rs := [3]) (by kernel_rfl) (by simp) ?_
      refine AllReadyH.cons (o := ⟨_, _, _, _, _, _⟩) rfl (fun K hK => ?_) AllReadyH.nil
      go_simp
      go_wp2_with fail
      refine (open_any d (cell_below ((Below.refl w.heap.size w).drew) h3) (cell_below ((Below.refl w.heap.size w).drew) hn) HO.out).mono ?_
      rintro e v1 ⟨rfl, hv⟩
      have HV := Lib.hid (show Below w.heap.size w v1 from ((Below.refl _ _).drew).trans hv)
      clear hv
      (try go_wp2_with fail)
      refine hK.out _ _ ?_ (fun hHeld => ?_)
      focus ((try dsimp only); (first | exact ⟨ho, hd, hc, h0, h3, hn⟩ | exact (let hb := (Below.refl w.heap.size w).drew; ⟨cell_below hb ho, cell_below hb hd, cell_below hb hc, cell_below hb h0, cell_below hb h3, cell_below hb hn⟩) | exact (let hb := HV.out; ⟨cell_below hb ho, cell_below hb hd, cell_below hb hc, cell_below hb h0, cell_below hb h3, cell_below hb hn⟩)); done)
      clear hK K
      (try simp only [Act.put, List.setIfInBounds_toArray, List.set_cons_zero, List.set_cons_succ])
      refine wpAnyH_take (i := 4) (oi := ⟨_, _, _, _, _, _⟩) (v := ?_) rfl (by kernel_rfl) (by kernel_rfl) (by kernel_rfl) (fun _ _ _ h => h) (Or.inl ⟨by rfl, ?_⟩) (by assumption) ?_; rotate_left; (focus (intro w hSw; (try dsimp only at hSw); go_simp; (try with_reducible rfl); done)); simp only [Act.put, List.setIfInBounds_toArray, List.set_cons_zero, List.set_cons_succ]
      refine wpAnyH_take (i := 5) (oi := ⟨_, _, _, _, _, _⟩) (v := ?_) rfl (by kernel_rfl) (by kernel_rfl) (by kernel_rfl) (fun _ _ _ h => h) (Or.inl ⟨by rfl, ?_⟩) (by assumption) ?_; rotate_left; (focus (intro w hSw; (try dsimp only at hSw); go_simp; (try with_reducible rfl); done)); simp only [Act.put, List.setIfInBounds_toArray, List.set_cons_zero, List.set_cons_succ]
      refine wpAnyH_take (i := 6) (oi := ⟨_, _, _, _, _, _⟩) (v := ?_) rfl (by kernel_rfl) (by kernel_rfl) (by kernel_rfl) (fun _ _ _ h => h) (Or.inl ⟨by rfl, ?_⟩) (by assumption) ?_; rotate_left; (focus (intro w hSw; (try dsimp only at hSw); go_simp; (try with_reducible rfl); done)); simp only [Act.put, List.setIfInBounds_toArray, List.set_cons_zero, List.set_cons_succ]
      refine wpAnyH_take (i := 7) (oi := ⟨_, _, _, _, _, _⟩) (v := ?_) rfl (by kernel_rfl) (by kernel_rfl) (by kernel_rfl) (fun _ _ _ h => h) (Or.inl ⟨by rfl, ?_⟩) (by assumption) ?_; rotate_left; (focus (intro w hSw; (try dsimp only at hSw); go_simp; (try with_reducible rfl); done)); simp only [Act.put, List.setIfInBounds_toArray, List.set_cons_zero, List.set_cons_succ]
      refine wpAnyH_take (i := 8) (oi := ⟨_, _, _, _, _, _⟩) (v := ?_) rfl (by kernel_rfl) (by kernel_rfl) (by kernel_rfl) (fun _ _ _ h => h) (Or.inl ⟨by rfl, ?_⟩) (by assumption) ?_; rotate_left; (focus (intro w hSw; (try dsimp only at hSw); go_simp; (try with_reducible rfl); done)); simp only [Act.put, List.setIfInBounds_toArray, List.set_cons_zero, List.set_cons_succ]
      refine wpAnyH_take (i := 9) (oi := ⟨_, _, _, _, _, _⟩) rfl (by kernel_rfl) (by kernel_rfl) (by kernel_rfl) (fun _ _ _ h => h) (Or.inr ⟨by rfl, rfl⟩) (by assumption) ?_; simp only [Act.put, List.setIfInBounds_toArray, List.set_cons_zero, List.set_cons_succ]
      refine wpAnyH_take (i := 10) (oi := ⟨_, _, _, _, _, _⟩) rfl (by kernel_rfl) (by kernel_rfl) (by kernel_rfl) (fun _ _ _ h => h) (Or.inr ⟨by rfl, rfl⟩) (by assumption) ?_; simp only [Act.put, List.setIfInBounds_toArray, List.set_cons_zero, List.set_cons_succ]
      refine wpAnyH_take (i := 11) (oi := ⟨_, _, _, _, _, _⟩) rfl (by kernel_rfl) (by kernel_rfl) (by kernel_rfl) (fun _ _ _ h => h) (Or.inr ⟨by rfl, rfl⟩) (by assumption) ?_; simp only [Act.put, List.setIfInBounds_toArray, List.set_cons_zero, List.set_cons_succ]
      refine wpAnyH_take (i := 12) (oi := ⟨_, _, _, _, _, _⟩) rfl (by kernel_rfl) (by kernel_rfl) (by kernel_rfl) (fun _ _ _ h => h) (Or.inr ⟨by rfl, rfl⟩) (by assumption) ?_; simp only [Act.put, List.setIfInBounds_toArray, List.set_cons_zero, List.set_cons_succ]
      refine wpAnyH_take (i := 13) (oi := ⟨_, _, _, _, _, _⟩) rfl (by kernel_rfl) (by kernel_rfl) (by kernel_rfl) (fun _ _ _ h => h) (Or.inr ⟨by rfl, rfl⟩) (by assumption) ?_; simp only [Act.put, List.setIfInBounds_toArray, List.set_cons_zero, List.set_cons_succ]
      refine wpAnyH_take (i := 14) (oi := ⟨_, _, _, _, _, _⟩) rfl (by kernel_rfl) (by kernel_rfl) (by kernel_rfl) (fun _ _ _ h => h) (Or.inr ⟨by rfl, rfl⟩) (by assumption) ?_; simp only [Act.put, List.setIfInBounds_toArray, List.set_cons_zero, List.set_cons_succ]
      refine wpAnyH_take (i := 15) (oi := ⟨_, _, _, _, _, _⟩) (v := ?_) rfl (by kernel_rfl) (by kernel_rfl) (by kernel_rfl) (fun _ _ _ h => h) (Or.inl ⟨by rfl, ?_⟩) (by assumption) ?_; rotate_left; (focus (intro w hSw; (try dsimp only at hSw); go_simp; (try with_reducible rfl); done)); simp only [Act.put, List.setIfInBounds_toArray, List.set_cons_zero, List.set_cons_succ]
      refine wpAnyH_take (i := 16) (oi := ⟨_, _, _, _, _, _⟩) (v := ?_) rfl (by kernel_rfl) (by kernel_rfl) (by kernel_rfl) (fun _ _ _ h => h) (Or.inl ⟨by rfl, ?_⟩) (by assumption) ?_; rotate_left; (focus (intro w hSw; (try dsimp only at hSw); go_simp; (try with_reducible rfl); done)); simp only [Act.put, List.setIfInBounds_toArray, List.set_cons_zero, List.set_cons_succ]
      refine wpAnyH_take (i := 17) (oi := ⟨_, _, _, _, _, _⟩) (v := ?_) rfl (by kernel_rfl) (by kernel_rfl) (by kernel_rfl) (fun _ _ _ h => h) (Or.inl ⟨by rfl, ?_⟩) (by assumption) ?_; rotate_left; (focus (intro w hSw; (try dsimp only at hSw); go_simp; (try with_reducible rfl); done)); simp only [Act.put, List.setIfInBounds_toArray, List.set_cons_zero, List.set_cons_succ]
      refine wpAnyH_done (by kernel_rfl) ?_ _
      go_wp2
      go_ret
      exact ⟨ret_bool HR.out, HV.out⟩
    · have hdb : (d.toList == dev.toList) = false := by rw [beq_bs]; simpa using hdd
      have HR := Lib.hid (show (x.code.toList == code.toList) = isSame now dev code x by unfold isSame; rw [hop, hw, decide_eq_false hdd, beq_bs]; simp)
      clear hop hdd
      go_enter Tryd.func51, Tryd.ntmps51
      go_wp2_with fail
      refine wp_region_held_drew (S := (fun w' => w'.cell? ⟨po, 0, none⟩ = some (.func (.func 49) #[] #[.pointer (some ⟨pn, 0, none⟩)]) ∧ w'.cell? ⟨pd, 0, none⟩ = some (.string dev) ∧ w'.cell? ⟨pc, 0, none⟩ = some (.string code) ∧ w'.cell? ⟨b, 0, none⟩ = some (.string x.code) ∧ w'.cell? ⟨b, 3, none⟩ = some (.int .i64 x.fin) ∧ w'.cell? ⟨pn, 0, none⟩ = some (.int .i64 now))) (by kernel_rfl) ?_ (fun hHeld => ?_)
      focus ((try dsimp only); (first | exact ⟨ho, hd, hc, h0, h3, hn⟩ | exact (let hb := (Below.refl w.heap.size w).drew; ⟨cell_below hb ho, cell_below hb hd, cell_below hb hc, cell_below hb h0, cell_below hb h3, cell_below hb hn⟩) | exact (let hb := HV.out; ⟨cell_below hb ho, cell_below hb hd, cell_below hb hc, cell_below hb h0, cell_below hb h3, cell_below hb hn⟩)); done)
      refine wpAnyH_take (i := 0) (oi := ⟨_, _, _, _, _, _⟩) (v := ?_) rfl (by kernel_rfl) (by kernel_rfl) (by kernel_rfl) (fun _ _ _ h => h) (Or.inl ⟨by rfl, ?_⟩) (by assumption) ?_; rotate_left; (focus (intro w hSw; (try dsimp only at hSw); go_simp; (try with_reducible rfl); done)); simp only [Act.put, List.setIfInBounds_toArray, List.set_cons_zero, List.set_cons_succ]
      refine wpAnyH_take (i := 1) (oi := ⟨_, _, _, _, _, _⟩) (v := ?_) rfl (by kernel_rfl) (by kernel_rfl) (by kernel_rfl) (fun _ _ _ h => h) (Or.inl ⟨by rfl, ?_⟩) (by assumption) ?_; rotate_left; (focus (intro w hSw; (try dsimp only at hSw); go_simp; (try with_reducible rfl); done)); simp only [Act.put, List.setIfInBounds_toArray, List.set_cons_zero, List.set_cons_succ]
      refine wpAnyH_take (i := 2) (oi := ⟨_, _, _, _, _, _⟩) (v := ?_) rfl (by kernel_rfl) (by kernel_rfl) (by kernel_rfl) (fun _ _ _ h => h) (Or.inl ⟨by rfl, ?_⟩) (by assumption) ?_; rotate_left; (focus (intro w hSw; (try dsimp only at hSw); go_simp; (try with_reducible rfl); done)); simp only [Act.put, List.setIfInBounds_toArray, List.set_cons_zero, List.set_cons_succ]
      refine wpAnyH_ready (rs := [3]) (by kernel_rfl) (by simp) ?_
      refine AllReadyH.cons (o := ⟨_, _, _, _, _, _⟩) rfl (fun K hK => ?_) AllReadyH.nil
      go_simp
      go_wp2_with fail
      refine (open_any d (cell_below ((Below.refl w.heap.size w).drew) h3) (cell_below ((Below.refl w.heap.size w).drew) hn) HO.out).mono ?_
      rintro e v1 ⟨rfl, hv⟩
      have HV := Lib.hid (show Below w.heap.size w v1 from ((Below.refl _ _).drew).trans hv)
      clear hv
      (try go_wp2_with fail)
      refine hK.out _ _ ?_ (fun hHeld => ?_)
      focus ((try dsimp only); (first | exact ⟨ho, hd, hc, h0, h3, hn⟩ | exact (let hb := (Below.refl w.heap.size w).drew; ⟨cell_below hb ho, cell_below hb hd, cell_below hb hc, cell_below hb h0, cell_below hb h3, cell_below hb hn⟩) | exact (let hb := HV.out; ⟨cell_below hb ho, cell_below hb hd, cell_below hb hc, cell_below hb h0, cell_below hb h3, cell_below hb hn⟩)); done)
      clear hK K
      (try simp only [Act.put, List.setIfInBounds_toArray, List.set_cons_zero, List.set_cons_succ])
      refine wpAnyH_take (i := 4) (oi := ⟨_, _, _, _, _, _⟩) (v := ?_) rfl (by kernel_rfl) (by kernel_rfl) (by kernel_rfl) (fun _ _ _ h => h) (Or.inl ⟨by rfl, ?_⟩) (by assumption) ?_; rotate_left; (focus (intro w hSw; (try dsimp only at hSw); go_simp; (try with_reducible rfl); done)); simp only [Act.put, List.setIfInBounds_toArray, List.set_cons_zero, List.set_cons_succ]
      refine wpAnyH_take (i := 5) (oi := ⟨_, _, _, _, _, _⟩) (v := ?_) rfl (by kernel_rfl) (by kernel_rfl) (by kernel_rfl) (fun _ _ _ h => h) (Or.inl ⟨by rfl, ?_⟩) (by assumption) ?_; rotate_left; (focus (intro w hSw; (try dsimp only at hSw); go_simp; (try with_reducible rfl); done)); simp only [Act.put, List.setIfInBounds_toArray, List.set_cons_zero, List.set_cons_succ]
      refine wpAnyH_take (i := 6) (oi := ⟨_, _, _, _, _, _⟩) (v := ?_) rfl (by kernel_rfl) (by kernel_rfl) (by kernel_rfl) (fun _ _ _ h => h) (Or.inl ⟨by rfl, ?_⟩) (by assumption) ?_; rotate_left; (focus (intro w hSw; (try dsimp only at hSw); go_simp; (try with_reducible rfl); done)); simp only [Act.put, List.setIfInBounds_toArray, List.set_cons_zero, List.set_cons_succ]
      refine wpAnyH_take (i := 7) (oi := ⟨_, _, _, _, _, _⟩) (v := ?_) rfl (by kernel_rfl) (by kernel_rfl) (by kernel_rfl) (fun _ _ _ h => h) (Or.inl ⟨by rfl, ?_⟩) (by assumption) ?_; rotate_left; (focus (intro w hSw; (try dsimp only at hSw); go_simp; (try with_reducible rfl); done)); simp only [Act.put, List.setIfInBounds_toArray, List.set_cons_zero, List.set_cons_succ]
      refine wpAnyH_take (i := 8) (oi := ⟨_, _, _, _, _, _⟩) (v := ?_) rfl (by kernel_rfl) (by kernel_rfl) (by kernel_rfl) (fun _ _ _ h => h) (Or.inl ⟨by rfl, ?_⟩) (by assumption) ?_; rotate_left; (focus (intro w hSw; (try dsimp only at hSw); go_simp; (try with_reducible rfl); done)); simp only [Act.put, List.setIfInBounds_toArray, List.set_cons_zero, List.set_cons_succ]
      refine wpAnyH_take (i := 9) (oi := ⟨_, _, _, _, _, _⟩) (v := ?_) rfl (by kernel_rfl) (by kernel_rfl) (by kernel_rfl) (fun _ _ _ h => h) (Or.inl ⟨by rfl, ?_⟩) (by assumption) ?_; rotate_left; (focus (intro w hSw; (try dsimp only at hSw); go_simp; (try with_reducible rfl); done)); simp only [Act.put, List.setIfInBounds_toArray, List.set_cons_zero, List.set_cons_succ]
      refine wpAnyH_take (i := 10) (oi := ⟨_, _, _, _, _, _⟩) (v := ?_) rfl (by kernel_rfl) (by kernel_rfl) (by kernel_rfl) (fun _ _ _ h => h) (Or.inl ⟨by rfl, ?_⟩) (by assumption) ?_; rotate_left; (focus (intro w hSw; (try dsimp only at hSw); go_simp; (try with_reducible rfl); done)); simp only [Act.put, List.setIfInBounds_toArray, List.set_cons_zero, List.set_cons_succ]
      refine wpAnyH_take (i := 11) (oi := ⟨_, _, _, _, _, _⟩) (v := ?_) rfl (by kernel_rfl) (by kernel_rfl) (by kernel_rfl) (fun _ _ _ h => h) (Or.inl ⟨by rfl, ?_⟩) (by assumption) ?_; rotate_left; (focus (intro w hSw; (try dsimp only at hSw); go_simp; (try with_reducible rfl); done)); simp only [Act.put, List.setIfInBounds_toArray, List.set_cons_zero, List.set_cons_succ]
      refine wpAnyH_take (i := 12) (oi := ⟨_, _, _, _, _, _⟩) (v := ?_) rfl (by kernel_rfl) (by kernel_rfl) (by kernel_rfl) (fun _ _ _ h => h) (Or.inl ⟨by rfl, ?_⟩) (by assumption) ?_; rotate_left; (focus (intro w hSw; (try dsimp only at hSw); go_simp; (try with_reducible rfl); done)); simp only [Act.put, List.setIfInBounds_toArray, List.set_cons_zero, List.set_cons_succ]
      refine wpAnyH_take (i := 13) (oi := ⟨_, _, _, _, _, _⟩) (v := ?_) rfl (by kernel_rfl) (by kernel_rfl) (by kernel_rfl) (fun _ _ _ h => h) (Or.inl ⟨by rfl, ?_⟩) (by assumption) ?_; rotate_left; (focus (intro w hSw; (try dsimp only at hSw); go_simp; (try with_reducible rfl); done)); simp only [Act.put, List.setIfInBounds_toArray, List.set_cons_zero, List.set_cons_succ]
      refine wpAnyH_take (i := 14) (oi := ⟨_, _, _, _, _, _⟩) (v := ?_) rfl (by kernel_rfl) (by kernel_rfl) (by kernel_rfl) (fun _ _ _ h => h) (Or.inl ⟨by rfl, ?_⟩) (by assumption) ?_; rotate_left; (focus (intro w hSw; (try dsimp only at hSw); go_simp; (try with_reducible rfl); done)); simp only [Act.put, List.setIfInBounds_toArray, List.set_cons_zero, List.set_cons_succ]
      refine wpAnyH_take (i := 15) (oi := ⟨_, _, _, _, _, _⟩) (v := ?_) rfl (by kernel_rfl) (by kernel_rfl) (by kernel_rfl) (fun _ _ _ h => h) (Or.inl ⟨by rfl, ?_⟩) (by assumption) ?_; rotate_left; (focus (intro w hSw; (try dsimp only at hSw); go_simp; (try with_reducible rfl); done)); simp only [Act.put, List.setIfInBounds_toArray, List.set_cons_zero, List.set_cons_succ]
      refine wpAnyH_take (i := 16) (oi := ⟨_, _, _, _, _, _⟩) (v := ?_) rfl (by kernel_rfl) (by kernel_rfl) (by kernel_rfl) (fun _ _ _ h => h) (Or.inl ⟨by rfl, ?_⟩) (by assumption) ?_; rotate_left; (focus (intro w hSw; (try dsimp only at hSw); go_simp; (try with_reducible rfl); done)); simp only [Act.put, List.setIfInBounds_toArray, List.set_cons_zero, List.set_cons_succ]
      refine wpAnyH_take (i := 17) (oi := ⟨_, _, _, _, _, _⟩) (v := ?_) rfl (by kernel_rfl) (by kernel_rfl) (by kernel_rfl) (fun _ _ _ h => h) (Or.inl ⟨by rfl, ?_⟩) (by assumption) ?_; rotate_left; (focus (intro w hSw; (try dsimp only at hSw); go_simp; (try with_reducible rfl); done)); simp only [Act.put, List.setIfInBounds_toArray, List.set_cons_zero, List.set_cons_succ]
      refine wpAnyH_done (by kernel_rfl) ?_ _
      go_wp2
      go_ret
      exact ⟨ret_bool HR.out, HV.out⟩
set_option maxRecDepth 100000 in
set_option maxHeartbeats 4000000 in
theorem count1_any {w : World} {S I : Nat → Prop} {F M : Nat} {st : Fs} {pl : List (Nat × Fw)} (h : RepP w S I F st M pl) (pn : Nat) (p : Fw → Bool)
    (hc : ∀ (r : Nat × Fw) (w1 : World), r ∈ pl → Below w.heap.size w w1 → Calls Tryd.prog 49 #[.string r.2.w, .pointer (some ⟨r.1, 0, none⟩), .pointer (some ⟨pn, 0, none⟩)] w1 fun e w' => e = .returned (.bool (p r.2)) ∧ Below w1.heap.size w1 w') :
    Calls Tryd.prog 52 #[.pointer (some ⟨F, 0, none⟩), .func (.func 49) #[] #[.pointer (some ⟨pn, 0, none⟩)]] w fun e w' => e = .returned (.int .i64 (st.l.countP p : Nat)) ∧ Below w.heap.size w w' := by
  have c2 := h.c2
  have HNd := Lib.hid h.inv.ids
  have hl256 := h.inv.len
  obtain ⟨f1, ⟨D, ho, hsz, hv⟩, v1⟩ := h.h1
  have HL := Lib.hid h.hl
  have HV := Lib.hid hv
  have HV1 := Lib.hid v1
  have HO := Lib.hid ho
  have HP := Lib.hid (show ∀ x d, f1 x = some d → ∃ q : Nat, d = .lit (.int .i64 (q : Nat)) from fun x d hx => by obtain ⟨p, _, _, e⟩ := (v1 x d).1 hx; exact ⟨p.1, e⟩)
  have HH := Lib.hid (has_all hv v1 h.hl)
  have HC := Lib.hid hc
  have hE := ent1
  clear h hv v1 hsz ho hc
  go_enter Tryd.func52, Tryd.ntmps52
  go_wp2_with (at_range; refine wpList_range_own _ rfl _ 64 rfl 9 77 (Go.Maps.string_keyed strT) map1 ptrR M pl.length D rfl HO.out ?_; intro w0 hrg0 hg0 hs0)
  go_frame
  have HR0 := Lib.hid hrg0
  have HB0 := Lib.hid (show Below w.heap.size w w0 from (Below.refl _ _).grown hg0 (Nat.le_refl _) (fun k e => by cases e))
  clear hrg0 hg0
  go_loopw [5, 6, 7] (fun n _ _ wr => ∃ (left : Lit → Bool) (cnt m : Nat), n = .int .i64 m ∧ wr.ranges Tryd.prog 9 ptrR M w.heap.size pl.length D left cnt ∧ Hid (m = cntL left p st.l) ∧ Below w.heap.size w wr) (fun _ _ _ wr => wr.rangeLeft M w.heap.size)
  case atStart => exact ⟨Maps.has D, Maps.size D, 0, rfl, HR0.out, Lib.hid (cntL_start HH.out).symm, HB0.out⟩
  case round =>
    obtain ⟨left, cnt, m, rfl, hrg, HM, hb⟩ := hrel
    have HRG := Lib.hid hrg
    have HB := Lib.hid hb
    have hm256 : m ≤ st.l.length := by rw [HM.out]; exact cntL_le _ _ _
    clear hrg hb
    go_wp2_with (at_next; refine wpList_next_view rfl _ rfl 9 strT M w.heap.size _ D f1 HV.out HP.out left cnt rfl HRG.out ?_ ?_)
    · intro hl
      have HF := Lib.hid (show m = st.l.countP p by rw [HM.out, cntL_end hl])
      clear hl
      go_wp2
      go_ret
      exact ⟨ret_int (by rw [HF.out]), HB.out⟩
    · intro s q w2 cnt2 hf hlk hrg2 hlt hg2 hs2 hen
      obtain ⟨r, hp, hps, hpq⟩ := (HV1.out _ _).1 hf
      simp only [DataW.lit.injEq, Lit.int.injEq, true_and] at hpq
      have hq : q = r.1 := by omega
      subst hq
      have hs : s = r.2.w := (bs_ext hps).symm
      subst hs
      have HRG2 := Lib.hid hrg2
      have HB2 := Lib.hid (HB.out.grown hg2 HB.out.size (fun b e => by injection e with e; omega))
      have HST := Lib.hid (cntL_step (c := p) HNd.out (snd_mem HL.out hp) (show left (kyC r.2) = true from hlk))
      have HLT2 := Lib.hid hlt
      have HPP := Lib.hid hp
      clear hf hlk hrg2 hlt hg2 hps hpq hp
      cases hpr : p r.2 with
      | true =>
        have HPR := Lib.hid hpr
        have HI := Lib.hid (show m + 1 = cntL (fun z => left z && !z.sameKey (kyC r.2)) p st.l by rw [HST.out, HM.out, hpr]; simp)
        clear hpr
        go_wp2_with (refine (HC.out r w2 HPP.out HB2.out).mono ?_; rintro e w3 ⟨rfl, hb3⟩; rw [HPR.out]; have HB3 := Lib.hid (HB2.out.trans (hb3.mono HB2.out.size)); have HRG3 := Lib.hid (ranges_below HRG2.out hb3); clear hb3)
        go_roundw
        case rel => exact ⟨_, cnt2, m + 1, by go_num, HRG3.out, HI, HB3.out⟩
        case measure => rw [HRG3.out.left_eq, HRG.out.left_eq]; exact HLT2.out
      | false =>
        have HPR := Lib.hid hpr
        have HI := Lib.hid (show m = cntL (fun z => left z && !z.sameKey (kyC r.2)) p st.l by rw [HST.out, HM.out, hpr]; simp)
        clear hpr
        go_wp2_with (refine (HC.out r w2 HPP.out HB2.out).mono ?_; rintro e w3 ⟨rfl, hb3⟩; rw [HPR.out]; have HB3 := Lib.hid (HB2.out.trans (hb3.mono HB2.out.size)); have HRG3 := Lib.hid (ranges_below HRG2.out hb3); clear hb3)
        go_roundw
        case rel => exact ⟨_, cnt2, m, rfl, HRG3.out, HI, HB3.out⟩
        case measure => rw [HRG3.out.left_eq, HRG.out.left_eq]; exact HLT2.out
set_option maxRecDepth 100000 in
set_option maxHeartbeats 4000000 in
theorem count3_any {w : World} {S I : Nat → Prop} {F M : Nat} {st : Fs} {pl : List (Nat × Fw)} (h : RepP w S I F st M pl) (po pd pc : Nat) (p : Fw → Bool)
    (hc : ∀ (r : Nat × Fw) (w1 : World), r ∈ pl → Below w.heap.size w w1 → Calls Tryd.prog 51 #[.string r.2.w, .pointer (some ⟨r.1, 0, none⟩), .pointer (some ⟨po, 0, none⟩), .pointer (some ⟨pd, 0, none⟩), .pointer (some ⟨pc, 0, none⟩)] w1 fun e w' => e = .returned (.bool (p r.2)) ∧ Below w1.heap.size w1 w') :
    Calls Tryd.prog 52 #[.pointer (some ⟨F, 0, none⟩), .func (.func 51) #[] #[.pointer (some ⟨po, 0, none⟩), .pointer (some ⟨pd, 0, none⟩), .pointer (some ⟨pc, 0, none⟩)]] w fun e w' => e = .returned (.int .i64 (st.l.countP p : Nat)) ∧ Below w.heap.size w w' := by
  have c2 := h.c2
  have HNd := Lib.hid h.inv.ids
  have hl256 := h.inv.len
  obtain ⟨f1, ⟨D, ho, hsz, hv⟩, v1⟩ := h.h1
  have HL := Lib.hid h.hl
  have HV := Lib.hid hv
  have HV1 := Lib.hid v1
  have HO := Lib.hid ho
  have HP := Lib.hid (show ∀ x d, f1 x = some d → ∃ q : Nat, d = .lit (.int .i64 (q : Nat)) from fun x d hx => by obtain ⟨p, _, _, e⟩ := (v1 x d).1 hx; exact ⟨p.1, e⟩)
  have HH := Lib.hid (has_all hv v1 h.hl)
  have HC := Lib.hid hc
  have hE := ent2
  clear h hv v1 hsz ho hc
  go_enter Tryd.func52, Tryd.ntmps52
  go_wp2_with (at_range; refine wpList_range_own _ rfl _ 64 rfl 9 77 (Go.Maps.string_keyed strT) map1 ptrR M pl.length D rfl HO.out ?_; intro w0 hrg0 hg0 hs0)
  go_frame
  have HR0 := Lib.hid hrg0
  have HB0 := Lib.hid (show Below w.heap.size w w0 from (Below.refl _ _).grown hg0 (Nat.le_refl _) (fun k e => by cases e))
  clear hrg0 hg0
  go_loopw [5, 6, 7] (fun n _ _ wr => ∃ (left : Lit → Bool) (cnt m : Nat), n = .int .i64 m ∧ wr.ranges Tryd.prog 9 ptrR M w.heap.size pl.length D left cnt ∧ Hid (m = cntL left p st.l) ∧ Below w.heap.size w wr) (fun _ _ _ wr => wr.rangeLeft M w.heap.size)
  case atStart => exact ⟨Maps.has D, Maps.size D, 0, rfl, HR0.out, Lib.hid (cntL_start HH.out).symm, HB0.out⟩
  case round =>
    obtain ⟨left, cnt, m, rfl, hrg, HM, hb⟩ := hrel
    have HRG := Lib.hid hrg
    have HB := Lib.hid hb
    have hm256 : m ≤ st.l.length := by rw [HM.out]; exact cntL_le _ _ _
    clear hrg hb
    go_wp2_with (at_next; refine wpList_next_view rfl _ rfl 9 strT M w.heap.size _ D f1 HV.out HP.out left cnt rfl HRG.out ?_ ?_)
    · intro hl
      have HF := Lib.hid (show m = st.l.countP p by rw [HM.out, cntL_end hl])
      clear hl
      go_wp2
      go_ret
      exact ⟨ret_int (by rw [HF.out]), HB.out⟩
    · intro s q w2 cnt2 hf hlk hrg2 hlt hg2 hs2 hen
      obtain ⟨r, hp, hps, hpq⟩ := (HV1.out _ _).1 hf
      simp only [DataW.lit.injEq, Lit.int.injEq, true_and] at hpq
      have hq : q = r.1 := by omega
      subst hq
      have hs : s = r.2.w := (bs_ext hps).symm
      subst hs
      have HRG2 := Lib.hid hrg2
      have HB2 := Lib.hid (HB.out.grown hg2 HB.out.size (fun b e => by injection e with e; omega))
      have HST := Lib.hid (cntL_step (c := p) HNd.out (snd_mem HL.out hp) (show left (kyC r.2) = true from hlk))
      have HLT2 := Lib.hid hlt
      have HPP := Lib.hid hp
      clear hf hlk hrg2 hlt hg2 hps hpq hp
      cases hpr : p r.2 with
      | true =>
        have HPR := Lib.hid hpr
        have HI := Lib.hid (show m + 1 = cntL (fun z => left z && !z.sameKey (kyC r.2)) p st.l by rw [HST.out, HM.out, hpr]; simp)
        clear hpr
        go_wp2_with (refine (HC.out r w2 HPP.out HB2.out).mono ?_; rintro e w3 ⟨rfl, hb3⟩; rw [HPR.out]; have HB3 := Lib.hid (HB2.out.trans (hb3.mono HB2.out.size)); have HRG3 := Lib.hid (ranges_below HRG2.out hb3); clear hb3)
        go_roundw
        case rel => exact ⟨_, cnt2, m + 1, by go_num, HRG3.out, HI, HB3.out⟩
        case measure => rw [HRG3.out.left_eq, HRG.out.left_eq]; exact HLT2.out
      | false =>
        have HPR := Lib.hid hpr
        have HI := Lib.hid (show m = cntL (fun z => left z && !z.sameKey (kyC r.2)) p st.l by rw [HST.out, HM.out, hpr]; simp)
        clear hpr
        go_wp2_with (refine (HC.out r w2 HPP.out HB2.out).mono ?_; rintro e w3 ⟨rfl, hb3⟩; rw [HPR.out]; have HB3 := Lib.hid (HB2.out.trans (hb3.mono HB2.out.size)); have HRG3 := Lib.hid (ranges_below HRG2.out hb3); clear hb3)
        go_roundw
        case rel => exact ⟨_, cnt2, m, rfl, HRG3.out, HI, HB3.out⟩
        case measure => rw [HRG3.out.left_eq, HRG.out.left_eq]; exact HLT2.out
end Go.Proofs.YtapooonlbjgbgaaDoor.Dv
