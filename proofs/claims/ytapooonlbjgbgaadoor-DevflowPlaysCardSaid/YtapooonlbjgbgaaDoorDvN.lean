/-
  expired, slow, Interval.
-/
import Derived.Test.YtapooonlbjgbgaaDoorDvM
import Derived.Deep.MidRow
namespace Go.Proofs.YtapooonlbjgbgaaDoor.Dv
open Go.RowKit Go.Proofs.YtapooonlbjgbgaaDoor.Fo Go.Proofs.YtapooonlbjgbgaaDoor.Rf Go.Maps

theorem add_q (t d : Int) (w : World) : Calls Tryd.prog 38 #[.int .i64 t, .int .i64 d] w fun e w' => e = .returned (.int .i64 (addC t d)) ∧ w' = w := (add_any t d w).mono fun _ _ ⟨h1, h2⟩ => ⟨h1, h2.symm⟩
theorem addl_any (t : Int) (w : World) : Calls Tryd.prog 38 #[.int .i64 t, .int .i64 0] w fun e w' => e = .returned (.int .i64 (limI t)) ∧ w = w' := by rw [← addC_zero]; exact add_any t 0 w
theorem addl_q (t : Int) (w : World) : Calls Tryd.prog 38 #[.int .i64 t, .int .i64 0] w fun e w' => e = .returned (.int .i64 (limI t)) ∧ w' = w := (addl_any t w).mono fun _ _ ⟨h1, h2⟩ => ⟨h1, h2.symm⟩
theorem expired_any {w : World} {b : Nat} {fin : Int} (h : w.cell? ⟨b, 3, none⟩ = some (.int .i64 fin)) (now : Int) {v : Bool} (hv : decide (fin ≤ limI now) = v) :
    Calls Tryd.prog 50 #[.pointer (some ⟨b, 0, none⟩), .int .i64 now] w fun e w' => e = .returned (.bool v) ∧ Below w.heap.size w w' := by
  have HV := Lib.hid hv
  clear hv
  go_enter Tryd.func50, Tryd.ntmps50
  go_wp2_with fail
  go_quiet ((go_at_call 38; exact Calls.quiet_of_same (addl_q _ _)))
  go_wp2
  go_ret
  exact ⟨ret_bool HV.out, below_drewN (Below.refl _ _) _⟩
theorem ear_no {x : Fw} {now : Int} (h : x.polled = false) : ear x now = false := by unfold ear; rw [h]; rfl
theorem ear_yes {x : Fw} {now : Int} (h : x.polled = true) : ear x now = decide (limI now < x.last + x.iv) := by unfold ear; rw [h]; rfl
theorem slo_no {x : Fw} {now : Int} (h : ear x now = false) : slo x now = { x with polled := true, last := limI now } := by unfold slo; rw [h]; rfl
theorem slo_yes {x : Fw} {now : Int} (h : ear x now = true) : slo x now = { x with polled := true, last := limI now, iv := x.iv + 5 } := by unfold slo; rw [h]; rfl
theorem mods_set {w w1 w2 : World} {b : Nat} (hb : Below w.heap.size w w1) (hk : ∀ k, k ≠ b → w2.heap[k]? = w1.heap[k]?) (hz : w2.heap.size = w1.heap.size ∧ w2.os = w1.os ∧ w2.tape = w1.tape ∧ w2.output = w1.output) : Mods (fun k => k = b) w w2 :=
  ⟨hz.2.1.trans hb.os, hz.2.2.1.trans hb.tape, hz.2.2.2.trans hb.output, by rw [hz.1]; exact hb.size, fun k hk1 hn => (hk k hn).trans (hb.block k hk1)⟩
theorem sc_size (w : World) (p : Addr) (v : Value) : (w.setCell p v).heap.size = w.heap.size := by simp [World.setCell]
set_option maxRecDepth 100000 in
set_option maxHeartbeats 4000000 in
theorem slow_any {w : World} {b : Nat} {x : Fw} {A A2 : Option Addr} {c c2 : Nat} (h : w.heap[b]? = some (.cells #[.string x.code, .string x.client, .slice A x.scopes.length c, .int .i64 x.fin, .int .i64 x.iv, .int .i64 x.state, .string x.g.user, .string x.g.client, .string x.g.tenant, .string x.g.session, .string x.g.redirect, .string x.g.nonce, .string x.g.challenge, .int .i64 x.g.method, .slice A2 x.g.scopes.length c2, .int .i64 x.g.auth, .int .i64 x.g.level, .bool x.polled, .int .i64 x.last] 81 (0, 0))) (hls : 0 ≤ x.last ∧ x.last ≤ 1099511627776) (hiv : 1 ≤ x.iv ∧ x.iv ≤ 1152921504606846976) (now : Int) :
    Calls Tryd.prog 64 #[.pointer (some ⟨b, 0, none⟩), .int .i64 now] w (fun e w' => e = .returned (.bool (ear x now)) ∧ w'.heap[b]? = some (.cells #[.string (slo x now).code, .string (slo x now).client, .slice A (slo x now).scopes.length c, .int .i64 (slo x now).fin, .int .i64 (slo x now).iv, .int .i64 (slo x now).state, .string (slo x now).g.user, .string (slo x now).g.client, .string (slo x now).g.tenant, .string (slo x now).g.session, .string (slo x now).g.redirect, .string (slo x now).g.nonce, .string (slo x now).g.challenge, .int .i64 (slo x now).g.method, .slice A2 (slo x now).g.scopes.length c2, .int .i64 (slo x now).g.auth, .int .i64 (slo x now).g.level, .bool (slo x now).polled, .int .i64 (slo x now).last] 81 (0, 0)) ∧ Mods (fun k => k = b) w w') := by
  have HX := Lib.hid h
  clear h
  have k4 := cell_block HX.out 4
  have k17 := cell_block HX.out 17
  have k18 := cell_block HX.out 18
  simp only [List.getElem?_toArray, List.getElem?_cons_zero, List.getElem?_cons_succ] at k4 k17 k18
  cases hp : x.polled with
  | false =>
    have HE := Lib.hid (show ear x now = false by rw [ear_no hp])
    rw [hp] at k17
    clear hp
    go_enter Tryd.func64, Tryd.ntmps64
    go_wp2_with fail
    refine (addl_any now w).mono ?_
    rintro e wx ⟨rfl, rfl⟩
    go_wp2_with fail
    go_quiet (fail)
    obtain ⟨w1, hw1⟩ : ∃ w1, w1 = w.drewN nq := ⟨_, rfl⟩
    rw [← hw1]
    have HB1 := Lib.hid (show Below w.heap.size w w1 by rw [hw1]; exact below_drewN (Below.refl _ _) _)
    have HX1 := Lib.hid (blk_below HB1.out HX.out)
    clear hw1 k4 k17 k18
    have k4 := cell_block HX1.out 4
    have k17 := cell_block HX1.out 17
    have k18 := cell_block HX1.out 18
    simp only [List.getElem?_toArray, List.getElem?_cons_zero, List.getElem?_cons_succ] at k4 k17 k18
    have f17 : w1.frozen? ⟨b, 17, none⟩ = false := by have := HX1.out; simp only [World.frozen?, this]; rfl
    have f18 : w1.frozen? ⟨b, 18, none⟩ = false := by have := HX1.out; simp only [World.frozen?, this]; rfl
    go_upto_region 4 with fail
    obtain ⟨w2, hw2⟩ : ∃ w2, w2 = (w1.setCell ⟨b, 17, none⟩ (.bool true)).setCell ⟨b, 18, none⟩ (.int .i64 (limI now)) := ⟨_, rfl⟩
    rw [← hw2]
    have HX2 := Lib.hid (show w2.heap[b]? = some (.cells #[.string x.code, .string x.client, .slice A x.scopes.length c, .int .i64 x.fin, .int .i64 x.iv, .int .i64 x.state, .string x.g.user, .string x.g.client, .string x.g.tenant, .string x.g.session, .string x.g.redirect, .string x.g.nonce, .string x.g.challenge, .int .i64 x.g.method, .slice A2 x.g.scopes.length c2, .int .i64 x.g.auth, .int .i64 x.g.level, .bool true, .int .i64 (limI now)] 81 (0, 0)) by rw [hw2]; exact heap_setCell_same _ _ 18 _ _ _ (show (w1.setCell ⟨b, 17, none⟩ (.bool true)).heap[b]? = some (.cells #[.string x.code, .string x.client, .slice A x.scopes.length c, .int .i64 x.fin, .int .i64 x.iv, .int .i64 x.state, .string x.g.user, .string x.g.client, .string x.g.tenant, .string x.g.session, .string x.g.redirect, .string x.g.nonce, .string x.g.challenge, .int .i64 x.g.method, .slice A2 x.g.scopes.length c2, .int .i64 x.g.auth, .int .i64 x.g.level, .bool true, .int .i64 x.last] 81 (0, 0)) from heap_setCell_same _ _ 17 _ _ _ HX1.out))
    have HK2 := Lib.hid (show ∀ k, k ≠ b → w2.heap[k]? = w1.heap[k]? from fun k hk => by rw [hw2]; exact (Below.heap_setCell _ _ _ _ hk).trans (Below.heap_setCell _ _ _ _ hk))
    have HZ2 := Lib.hid (show w2.heap.size = w1.heap.size ∧ w2.os = w1.os ∧ w2.tape = w1.tape ∧ w2.output = w1.output by rw [hw2]; exact ⟨by simp only [sc_size], rfl, rfl, rfl⟩)
    clear hw2 k4 k17 k18 f17 f18
    have HM2 := Lib.hid (mods_set HB1.out HK2.out HZ2.out)
    go_wp2
    go_ret
    exact ⟨ret_bool HE.out.symm, by rw [slo_no HE.out]; exact HX2.out, HM2.out⟩
  | true =>
    by_cases he : limI now < x.last + x.iv
    · have HE := Lib.hid (show ear x now = true by rw [ear_yes hp]; exact decide_eq_true he)
      rw [hp] at k17
      clear hp
      go_enter Tryd.func64, Tryd.ntmps64
      go_wp2_with fail
      refine (addl_any now w).mono ?_
      rintro e wx ⟨rfl, rfl⟩
      go_wp2_with fail
      go_quiet (fail)
      obtain ⟨w1, hw1⟩ : ∃ w1, w1 = w.drewN nq := ⟨_, rfl⟩
      rw [← hw1]
      have HB1 := Lib.hid (show Below w.heap.size w w1 by rw [hw1]; exact below_drewN (Below.refl _ _) _)
      have HX1 := Lib.hid (blk_below HB1.out HX.out)
      clear hw1 k4 k17 k18
      have k4 := cell_block HX1.out 4
      have k17 := cell_block HX1.out 17
      have k18 := cell_block HX1.out 18
      simp only [List.getElem?_toArray, List.getElem?_cons_zero, List.getElem?_cons_succ] at k4 k17 k18
      have f17 : w1.frozen? ⟨b, 17, none⟩ = false := by have := HX1.out; simp only [World.frozen?, this]; rfl
      have f18 : w1.frozen? ⟨b, 18, none⟩ = false := by have := HX1.out; simp only [World.frozen?, this]; rfl
      go_upto_region 4 with fail
      obtain ⟨w2, hw2⟩ : ∃ w2, w2 = (w1.setCell ⟨b, 17, none⟩ (.bool true)).setCell ⟨b, 18, none⟩ (.int .i64 (limI now)) := ⟨_, rfl⟩
      rw [← hw2]
      have HX2 := Lib.hid (show w2.heap[b]? = some (.cells #[.string x.code, .string x.client, .slice A x.scopes.length c, .int .i64 x.fin, .int .i64 x.iv, .int .i64 x.state, .string x.g.user, .string x.g.client, .string x.g.tenant, .string x.g.session, .string x.g.redirect, .string x.g.nonce, .string x.g.challenge, .int .i64 x.g.method, .slice A2 x.g.scopes.length c2, .int .i64 x.g.auth, .int .i64 x.g.level, .bool true, .int .i64 (limI now)] 81 (0, 0)) by rw [hw2]; exact heap_setCell_same _ _ 18 _ _ _ (show (w1.setCell ⟨b, 17, none⟩ (.bool true)).heap[b]? = some (.cells #[.string x.code, .string x.client, .slice A x.scopes.length c, .int .i64 x.fin, .int .i64 x.iv, .int .i64 x.state, .string x.g.user, .string x.g.client, .string x.g.tenant, .string x.g.session, .string x.g.redirect, .string x.g.nonce, .string x.g.challenge, .int .i64 x.g.method, .slice A2 x.g.scopes.length c2, .int .i64 x.g.auth, .int .i64 x.g.level, .bool true, .int .i64 x.last] 81 (0, 0)) from heap_setCell_same _ _ 17 _ _ _ HX1.out))
      have HK2 := Lib.hid (show ∀ k, k ≠ b → w2.heap[k]? = w1.heap[k]? from fun k hk => by rw [hw2]; exact (Below.heap_setCell _ _ _ _ hk).trans (Below.heap_setCell _ _ _ _ hk))
      have HZ2 := Lib.hid (show w2.heap.size = w1.heap.size ∧ w2.os = w1.os ∧ w2.tape = w1.tape ∧ w2.output = w1.output by rw [hw2]; exact ⟨by simp only [sc_size], rfl, rfl, rfl⟩)
      clear hw2 k4 k17 k18 f17 f18
      have k4 := cell_block HX2.out 4
      simp only [List.getElem?_toArray, List.getElem?_cons_zero, List.getElem?_cons_succ] at k4
      have f4 : w2.frozen? ⟨b, 4, none⟩ = false := by have := HX2.out; simp only [World.frozen?, this]; rfl
      go_upto_region 6 with fail
      obtain ⟨w3, hw3⟩ : ∃ w3, w3 = w2.setCell ⟨b, 4, none⟩ (.int .i64 (x.iv + 5)) := ⟨_, rfl⟩
      rw [← hw3]
      have HX3 := Lib.hid (show w3.heap[b]? = some (.cells #[.string x.code, .string x.client, .slice A x.scopes.length c, .int .i64 x.fin, .int .i64 (x.iv + 5), .int .i64 x.state, .string x.g.user, .string x.g.client, .string x.g.tenant, .string x.g.session, .string x.g.redirect, .string x.g.nonce, .string x.g.challenge, .int .i64 x.g.method, .slice A2 x.g.scopes.length c2, .int .i64 x.g.auth, .int .i64 x.g.level, .bool true, .int .i64 (limI now)] 81 (0, 0)) by rw [hw3]; exact heap_setCell_same _ _ 4 _ _ _ HX2.out)
      have HM3 := Lib.hid (mods_set HB1.out (w2 := w3) (fun k hk => by rw [hw3]; exact (Below.heap_setCell _ _ _ _ hk).trans (HK2.out k hk)) (by rw [hw3]; exact ⟨by simp only [sc_size, HZ2.out.1], HZ2.out.2.1, HZ2.out.2.2.1, HZ2.out.2.2.2⟩))
      clear hw3 k4 f4
      go_wp2
      go_ret
      exact ⟨ret_bool HE.out.symm, by rw [slo_yes HE.out]; exact HX3.out, HM3.out⟩
    · have HE := Lib.hid (show ear x now = false by rw [ear_yes hp]; exact decide_eq_false he)
      rw [hp] at k17
      clear hp
      go_enter Tryd.func64, Tryd.ntmps64
      go_wp2_with fail
      refine (addl_any now w).mono ?_
      rintro e wx ⟨rfl, rfl⟩
      go_wp2_with fail
      go_quiet (fail)
      obtain ⟨w1, hw1⟩ : ∃ w1, w1 = w.drewN nq := ⟨_, rfl⟩
      rw [← hw1]
      have HB1 := Lib.hid (show Below w.heap.size w w1 by rw [hw1]; exact below_drewN (Below.refl _ _) _)
      have HX1 := Lib.hid (blk_below HB1.out HX.out)
      clear hw1 k4 k17 k18
      have k4 := cell_block HX1.out 4
      have k17 := cell_block HX1.out 17
      have k18 := cell_block HX1.out 18
      simp only [List.getElem?_toArray, List.getElem?_cons_zero, List.getElem?_cons_succ] at k4 k17 k18
      have f17 : w1.frozen? ⟨b, 17, none⟩ = false := by have := HX1.out; simp only [World.frozen?, this]; rfl
      have f18 : w1.frozen? ⟨b, 18, none⟩ = false := by have := HX1.out; simp only [World.frozen?, this]; rfl
      go_upto_region 4 with fail
      obtain ⟨w2, hw2⟩ : ∃ w2, w2 = (w1.setCell ⟨b, 17, none⟩ (.bool true)).setCell ⟨b, 18, none⟩ (.int .i64 (limI now)) := ⟨_, rfl⟩
      rw [← hw2]
      have HX2 := Lib.hid (show w2.heap[b]? = some (.cells #[.string x.code, .string x.client, .slice A x.scopes.length c, .int .i64 x.fin, .int .i64 x.iv, .int .i64 x.state, .string x.g.user, .string x.g.client, .string x.g.tenant, .string x.g.session, .string x.g.redirect, .string x.g.nonce, .string x.g.challenge, .int .i64 x.g.method, .slice A2 x.g.scopes.length c2, .int .i64 x.g.auth, .int .i64 x.g.level, .bool true, .int .i64 (limI now)] 81 (0, 0)) by rw [hw2]; exact heap_setCell_same _ _ 18 _ _ _ (show (w1.setCell ⟨b, 17, none⟩ (.bool true)).heap[b]? = some (.cells #[.string x.code, .string x.client, .slice A x.scopes.length c, .int .i64 x.fin, .int .i64 x.iv, .int .i64 x.state, .string x.g.user, .string x.g.client, .string x.g.tenant, .string x.g.session, .string x.g.redirect, .string x.g.nonce, .string x.g.challenge, .int .i64 x.g.method, .slice A2 x.g.scopes.length c2, .int .i64 x.g.auth, .int .i64 x.g.level, .bool true, .int .i64 x.last] 81 (0, 0)) from heap_setCell_same _ _ 17 _ _ _ HX1.out))
      have HK2 := Lib.hid (show ∀ k, k ≠ b → w2.heap[k]? = w1.heap[k]? from fun k hk => by rw [hw2]; exact (Below.heap_setCell _ _ _ _ hk).trans (Below.heap_setCell _ _ _ _ hk))
      have HZ2 := Lib.hid (show w2.heap.size = w1.heap.size ∧ w2.os = w1.os ∧ w2.tape = w1.tape ∧ w2.output = w1.output by rw [hw2]; exact ⟨by simp only [sc_size], rfl, rfl, rfl⟩)
      clear hw2 k4 k17 k18 f17 f18
      have HM2 := Lib.hid (mods_set HB1.out HK2.out HZ2.out)
      go_wp2
      go_ret
      exact ⟨ret_bool ((decide_eq_false (by omega)).trans HE.out.symm), by rw [slo_no HE.out]; exact HX2.out, HM2.out⟩
theorem itv_any {w : World} {S : Nat → Prop} {F : Nat} {st : Fs} (h : RepE w S F st) (d : Bs) (hd : d.size ≤ 100000) {v : Int} (hv : itv st d = v) :
    Calls Tryd.prog 29 #[.pointer (some ⟨F, 0, none⟩), .string d] w fun e w' => e = .returned (.int .i64 v) ∧ w = w' := by
  subst hv
  obtain ⟨I, M, pl, h⟩ := h
  have H := Lib.hid h
  have c2 := h.c2
  cases hi : cdI st.l d with
  | none =>
    have HR := Lib.hid (show itv st d = 0 by unfold itv; rw [fnd_none hi])
    have hr := look_no h d hd hi
    clear h hi
    go_enter Tryd.func29, Tryd.ntmps29
    go_wp2_with (go_at_call 47; refine (ready_yes H.out).mono ?_; rintro e w1 ⟨rfl, rfl⟩)
    go_ret
    exact ⟨ret_int HR.out.symm, rfl⟩
  | some i =>
    obtain ⟨x, hx, hxt⟩ := cdI_some hi
    have HR := Lib.hid (show itv st d = x.iv by unfold itv; rw [fnd_some hi hx])
    obtain ⟨b, hb⟩ := pl_at h.hl hx
    have hr := look_at h hb hxt
    obtain ⟨A, c, A2, c2', hblk, _⟩ := h.hb _ (List.mem_of_getElem? hb)
    simp only at hblk
    have k4 := cell_block hblk 4
    simp only [List.getElem?_toArray, List.getElem?_cons_zero, List.getElem?_cons_succ] at k4
    clear h hi hx hxt hb hblk
    go_enter Tryd.func29, Tryd.ntmps29
    go_wp2_with (go_at_call 47; refine (ready_yes H.out).mono ?_; rintro e w1 ⟨rfl, rfl⟩)
    go_ret
    exact ⟨ret_int HR.out.symm, rfl⟩
end Go.Proofs.YtapooonlbjgbgaaDoor.Dv
