/-
  The statements' do: Redeemed, Attacked; any operation.
-/
import Derived.Test.YtioabjniipkncaaGreatDoorRcY2
import Derived.Test.YtioabjniipkncaaGreatDoorRcY3
namespace Go.Proofs.YtioabjniipkncaaGreatDoor.Rc
open Go.RowKit Go.Proofs.YtioabjniipkncaaGreatDoor.Fo Go.Proofs.YtioabjniipkncaaGreatDoor.Rf Go.Maps

set_option maxRecDepth 100000 in
set_option maxHeartbeats 4000000 in
theorem do_4 {w : World} {S : Nat → Prop} {F : Nat} {st : Ct} (h : RepE w S F st) (x : Opc) (A : Option Addr) (d : Nat) (hs : Ss w A x.g.scopes.length d x.g.scopes) (hok : greatO x = false) (hm : MX w) (hd : DG w) (hS0 : ∀ k, S k → 2 ≤ k) (q1 : (x.kind == 1) = false) (q2 : (x.kind == 2) = false) (q3 : (x.kind == 3) = false) (q4 : (x.kind == 4) = true) (hr : doC st x = (st, ⟨noG, 0, usedS st x.code, attS st x.code, 0⟩)) :
    Calls Tryz.prog 9 #[.pointer (some ⟨F, 0, none⟩), .agg #[.int .i64 x.kind, .string x.code, .string x.cl, .string x.rd, .string x.ver, .string x.g.user, .string x.g.client, .string x.g.tenant, .string x.g.session, .string x.g.redirect, .string x.g.nonce, .string x.g.challenge, .int .i64 x.g.method, .slice A x.g.scopes.length d, .int .i64 x.g.auth, .int .i64 x.g.level, .int .i64 x.now]] w (DoIs w S F (doC st x)) := by
  obtain ⟨z1, z2, z3, z4, z5, z6, z7⟩ := great_parts hok
  have HH := Lib.hid h
  have HS := Lib.hid hs
  have HM := Lib.hid hm
  have HD := Lib.hid hd
  have HR := Lib.hid hr
  have HZ7 := Lib.hid z7
  have HZ5 := Lib.hid z5
  have HS0 := Lib.hid hS0
  clear h hs hm hr z7 hok hd z5 hS0
  go_enter Tryz.func9, Tryz.ntmps9
  go_upto_region 2 with fail
  obtain ⟨wx, hwx⟩ : ∃ wx, wx = ((w.alloc (.cells #[.int .i64 x.kind, .string x.code, .string x.cl, .string x.rd, .string x.ver, .string x.g.user, .string x.g.client, .string x.g.tenant, .string x.g.session, .string x.g.redirect, .string x.g.nonce, .string x.g.challenge, .int .i64 x.g.method, .slice A x.g.scopes.length d, .int .i64 x.g.auth, .int .i64 x.g.level, .int .i64 x.now] 41)).alloc (.cells #[.string ⟨#[]⟩, .string ⟨#[]⟩, .string ⟨#[]⟩, .string ⟨#[]⟩, .string ⟨#[]⟩, .string ⟨#[]⟩, .string ⟨#[]⟩, .int .i64 0, .slice none 0 0, .int .i64 0, .int .i64 0, .int .i64 0, .bool false, .bool false, .int .i64 0] 38)).alloc (.cells #[.string ⟨#[]⟩, .string ⟨#[]⟩, .string ⟨#[]⟩, .string ⟨#[]⟩, .string ⟨#[]⟩, .string ⟨#[]⟩, .string ⟨#[]⟩, .int .i64 0, .slice none 0 0, .int .i64 0, .int .i64 0, .int .i64 0, .bool false, .bool false, .int .i64 0] 38) := ⟨_, rfl⟩
  rw [← hwx]
  have HBX := Lib.hid (show Below w.heap.size w wx by rw [hwx]; go_grown)
  have HX3 := Lib.hid (show wx.heap[w.heap.size]? = some (.cells #[.int .i64 x.kind, .string x.code, .string x.cl, .string x.rd, .string x.ver, .string x.g.user, .string x.g.client, .string x.g.tenant, .string x.g.session, .string x.g.redirect, .string x.g.nonce, .string x.g.challenge, .int .i64 x.g.method, .slice A x.g.scopes.length d, .int .i64 x.g.auth, .int .i64 x.g.level, .int .i64 x.now] 41 (0, 0)) by rw [hwx]; rw [Below.heap_alloc _ _ _ (by simp; omega), Below.heap_alloc _ _ _ (by simp)]; exact heap_alloc_new _ _)
  have HX4 := Lib.hid (show wx.heap[w.heap.size + 1]? = some (.cells #[.string ⟨#[]⟩, .string ⟨#[]⟩, .string ⟨#[]⟩, .string ⟨#[]⟩, .string ⟨#[]⟩, .string ⟨#[]⟩, .string ⟨#[]⟩, .int .i64 0, .slice none 0 0, .int .i64 0, .int .i64 0, .int .i64 0, .bool false, .bool false, .int .i64 0] 38 (0, 0)) by
    rw [hwx, Below.heap_alloc _ _ _ (by simp)]
    have e : w.heap.size + 1 = (w.alloc (.cells #[.int .i64 x.kind, .string x.code, .string x.cl, .string x.rd, .string x.ver, .string x.g.user, .string x.g.client, .string x.g.tenant, .string x.g.session, .string x.g.redirect, .string x.g.nonce, .string x.g.challenge, .int .i64 x.g.method, .slice A x.g.scopes.length d, .int .i64 x.g.auth, .int .i64 x.g.level, .int .i64 x.now] 41)).heap.size := by simp
    rw [e]; exact heap_alloc_new _ _)
  have HX5 := Lib.hid (show wx.heap[w.heap.size + 2]? = some (.cells #[.string ⟨#[]⟩, .string ⟨#[]⟩, .string ⟨#[]⟩, .string ⟨#[]⟩, .string ⟨#[]⟩, .string ⟨#[]⟩, .string ⟨#[]⟩, .int .i64 0, .slice none 0 0, .int .i64 0, .int .i64 0, .int .i64 0, .bool false, .bool false, .int .i64 0] 38 (0, 0)) by
    rw [hwx]
    have e : w.heap.size + 2 = ((w.alloc (.cells #[.int .i64 x.kind, .string x.code, .string x.cl, .string x.rd, .string x.ver, .string x.g.user, .string x.g.client, .string x.g.tenant, .string x.g.session, .string x.g.redirect, .string x.g.nonce, .string x.g.challenge, .int .i64 x.g.method, .slice A x.g.scopes.length d, .int .i64 x.g.auth, .int .i64 x.g.level, .int .i64 x.now] 41)).alloc (.cells #[.string ⟨#[]⟩, .string ⟨#[]⟩, .string ⟨#[]⟩, .string ⟨#[]⟩, .string ⟨#[]⟩, .string ⟨#[]⟩, .string ⟨#[]⟩, .int .i64 0, .slice none 0 0, .int .i64 0, .int .i64 0, .int .i64 0, .bool false, .bool false, .int .i64 0] 38)).heap.size := by simp
    rw [e]; exact heap_alloc_new _ _)
  have HHX := Lib.hid (HH.out.below HBX.out)
  have HLT := Lib.hid HH.out.lt
  clear hwx
  have x0 := cell_block HX3.out 0
  have x1 := cell_block HX3.out 1
  simp only [List.getElem?_toArray, List.getElem?_cons_zero, List.getElem?_cons_succ] at x0 x1
  obtain ⟨b1, hb1⟩ : ∃ b, usedS st x.code = b := ⟨_, rfl⟩
  obtain ⟨b2, hb2⟩ : ∃ b, attS st x.code = b := ⟨_, rfl⟩
  have HB1 := Lib.hid hb1
  have HB2 := Lib.hid hb2
  clear hb1 hb2
  go_wp2_with fail
  refine wp_region_held_drew (S := (fun w' => w'.cell? ⟨w.heap.size, 1, none⟩ = some (.string x.code))) (by kernel_rfl) ?_ (fun hHeld => ?_)
  focus ((try dsimp only); (first | exact x1 | exact cell_below HV1.out x1 | exact cell_below HV2.out x1 | exact XK1.out | exact XK2.out); done)
  refine wpAnyH_take (i := 0) (oi := ⟨_, _, _, _, _, _⟩) (v := ?_) rfl (by kernel_rfl) (by kernel_rfl) (by kernel_rfl) (fun _ _ _ h => h) (Or.inl ⟨by rfl, ?_⟩) (by assumption) ?_; rotate_left; (focus (intro w hSw; (try dsimp only at hSw); go_simp; (try with_reducible rfl); done)); simp only [Act.put, List.setIfInBounds_toArray, List.set_cons_zero, List.set_cons_succ]
  refine wpAnyH_take (i := 1) (oi := ⟨_, _, _, _, _, _⟩) (v := ?_) rfl (by kernel_rfl) (by kernel_rfl) (by kernel_rfl) (fun _ _ _ h => h) (Or.inl ⟨by rfl, ?_⟩) (by assumption) ?_; rotate_left; (focus (intro w hSw; (try dsimp only at hSw); go_simp; (try with_reducible rfl); done)); simp only [Act.put, List.setIfInBounds_toArray, List.set_cons_zero, List.set_cons_succ]
  refine wpAnyH_take (i := 2) (oi := ⟨_, _, _, _, _, _⟩) (v := ?_) rfl (by kernel_rfl) (by kernel_rfl) (by kernel_rfl) (fun _ _ _ h => h) (Or.inl ⟨by rfl, ?_⟩) (by assumption) ?_; rotate_left; (focus (intro w hSw; (try dsimp only at hSw); go_simp; (try with_reducible rfl); done)); simp only [Act.put, List.setIfInBounds_toArray, List.set_cons_zero, List.set_cons_succ]
  refine wpAnyH_take (i := 4) (oi := ⟨_, _, _, _, _, _⟩) (v := ?_) rfl (by kernel_rfl) (by kernel_rfl) (by kernel_rfl) (fun _ _ _ h => h) (Or.inl ⟨by rfl, ?_⟩) (by assumption) ?_; rotate_left; (focus (intro w hSw; (try dsimp only at hSw); go_simp; (try with_reducible rfl); done)); simp only [Act.put, List.setIfInBounds_toArray, List.set_cons_zero, List.set_cons_succ]
  refine wpAnyH_take (i := 5) (oi := ⟨_, _, _, _, _, _⟩) (v := ?_) rfl (by kernel_rfl) (by kernel_rfl) (by kernel_rfl) (fun _ _ _ h => h) (Or.inl ⟨by rfl, ?_⟩) (by assumption) ?_; rotate_left; (focus (intro w hSw; (try dsimp only at hSw); go_simp; (try with_reducible rfl); done)); simp only [Act.put, List.setIfInBounds_toArray, List.set_cons_zero, List.set_cons_succ]
  refine wpAnyH_take (i := 6) (oi := ⟨_, _, _, _, _, _⟩) (v := ?_) rfl (by kernel_rfl) (by kernel_rfl) (by kernel_rfl) (fun _ _ _ h => h) (Or.inl ⟨by rfl, ?_⟩) (by assumption) ?_; rotate_left; (focus (intro w hSw; (try dsimp only at hSw); go_simp; (try with_reducible rfl); done)); simp only [Act.put, List.setIfInBounds_toArray, List.set_cons_zero, List.set_cons_succ]
  refine wpAnyH_ready (rs := [3]) (by kernel_rfl) (by simp) ?_
  refine AllReadyH.cons (o := ⟨_, _, _, _, _, _⟩) rfl (fun K hK => ?_) AllReadyH.nil
  go_simp
  go_wp2_with fail
  refine (used_any (HHX.out.below ((Below.refl _ _).drew)) x.code (by omega) HB1.out).mono ?_
  rintro e v1 ⟨rfl, hv⟩
  have HV1 := Lib.hid (show Below wx.heap.size wx v1 from ((Below.refl _ _).drew).trans hv)
  clear hv
  (try go_wp2_with fail)
  refine hK.out _ _ ?_ (fun hHeld => ?_)
  focus ((try dsimp only); (first | exact x1 | exact cell_below HV1.out x1 | exact cell_below HV2.out x1 | exact XK1.out | exact XK2.out); done)
  clear hK K
  (try simp only [Act.put, List.setIfInBounds_toArray, List.set_cons_zero, List.set_cons_succ])
  refine wpAnyH_take (i := 8) (oi := ⟨_, _, _, _, _, _⟩) (v := ?_) rfl (by kernel_rfl) (by kernel_rfl) (by kernel_rfl) (fun _ _ _ h => h) (Or.inl ⟨by rfl, ?_⟩) (by assumption) ?_; rotate_left; (focus (intro w hSw; (try dsimp only at hSw); go_simp; (try with_reducible rfl); done)); simp only [Act.put, List.setIfInBounds_toArray, List.set_cons_zero, List.set_cons_succ]
  refine wpAnyH_ready (rs := [7]) (by kernel_rfl) (by simp) ?_
  refine AllReadyH.cons (o := ⟨_, _, _, _, _, _⟩) rfl (fun K hK => ?_) AllReadyH.nil
  go_simp
  go_wp2_with fail
  refine (att_any (HHX.out.below HV1.out) x.code (by omega) HB2.out).mono ?_
  rintro e v2 ⟨rfl, hv⟩
  have HV2 := Lib.hid (HV1.out.trans (hv.mono HV1.out.size))
  clear hv
  have HX52 := Lib.hid (show v2.heap[w.heap.size + 1 + 1]? = some (.cells #[.string ⟨#[]⟩, .string ⟨#[]⟩, .string ⟨#[]⟩, .string ⟨#[]⟩, .string ⟨#[]⟩, .string ⟨#[]⟩, .string ⟨#[]⟩, .int .i64 0, .slice none 0 0, .int .i64 0, .int .i64 0, .int .i64 0, .bool false, .bool false, .int .i64 0] 38 (0, 0)) from (HV2.out.block _ (blk_lt HX5.out)).trans HX5.out)
  have HX42 := Lib.hid ((HV2.out.block _ (blk_lt HX4.out)).trans HX4.out)
  have y12 := cell_block HX52.out 12
  have y13 := cell_block HX52.out 13
  simp only [List.getElem?_toArray, List.getElem?_cons_zero, List.getElem?_cons_succ] at y12 y13
  have g12 : v2.frozen? ⟨w.heap.size + 1 + 1, 12, none⟩ = false := by have := HX52.out; simp only [World.frozen?, this]; rfl
  have g13 : v2.frozen? ⟨w.heap.size + 1 + 1, 13, none⟩ = false := by have := HX52.out; simp only [World.frozen?, this]; rfl
  have XK1 := Lib.hid ((World.cell?_of_block (Below.heap_setCell v2 ⟨w.heap.size + 1 + 1, 12, none⟩ (.bool b1) w.heap.size (by simp; omega))).trans (cell_below HV2.out x1))
  have XK2 := Lib.hid ((World.cell?_of_block ((Below.heap_setCell (v2.setCell ⟨w.heap.size + 1 + 1, 12, none⟩ (.bool b1)) ⟨w.heap.size + 1 + 1, 13, none⟩ (.bool b2) w.heap.size (by simp; omega)).trans (Below.heap_setCell v2 ⟨w.heap.size + 1 + 1, 12, none⟩ (.bool b1) w.heap.size (by simp; omega)))).trans (cell_below HV2.out x1))
  (try go_wp2_with fail)
  refine hK.out _ _ ?_ (fun hHeld => ?_)
  focus ((try dsimp only); (first | exact x1 | exact cell_below HV1.out x1 | exact cell_below HV2.out x1 | exact XK1.out | exact XK2.out); done)
  clear hK K
  (try simp only [Act.put, List.setIfInBounds_toArray, List.set_cons_zero, List.set_cons_succ])
  refine wpAnyH_ready (rs := [9]) (by kernel_rfl) (by simp) ?_
  refine AllReadyH.cons (o := ⟨_, _, _, _, _, _⟩) rfl (fun K hK => ?_) AllReadyH.nil
  go_simp
  (try go_wp2_with fail)
  refine hK.out _ _ ?_ (fun hHeld => ?_)
  focus ((try dsimp only); (first | exact x1 | exact cell_below HV1.out x1 | exact cell_below HV2.out x1 | exact XK1.out | exact XK2.out); done)
  clear hK K
  (try simp only [Act.put, List.setIfInBounds_toArray, List.set_cons_zero, List.set_cons_succ])
  refine wpAnyH_take (i := 10) (oi := ⟨_, _, _, _, _, _⟩) (v := ?_) rfl (by kernel_rfl) (by kernel_rfl) (by kernel_rfl) (fun _ _ _ h => h) (Or.inl ⟨by rfl, ?_⟩) (by assumption) ?_; rotate_left; (focus (intro w hSw; (try dsimp only at hSw); go_simp; (try with_reducible rfl); done)); simp only [Act.put, List.setIfInBounds_toArray, List.set_cons_zero, List.set_cons_succ]
  refine wpAnyH_ready (rs := [11]) (by kernel_rfl) (by simp) ?_
  refine AllReadyH.cons (o := ⟨_, _, _, _, _, _⟩) rfl (fun K hK => ?_) AllReadyH.nil
  go_simp
  (try go_wp2_with fail)
  refine hK.out _ _ ?_ (fun hHeld => ?_)
  focus ((try dsimp only); (first | exact x1 | exact cell_below HV1.out x1 | exact cell_below HV2.out x1 | exact XK1.out | exact XK2.out); done)
  clear hK K
  (try simp only [Act.put, List.setIfInBounds_toArray, List.set_cons_zero, List.set_cons_succ])
  refine wpAnyH_done (by kernel_rfl) ?_ _
  go_upto_region 17 with fail
  obtain ⟨wz, hwz⟩ : ∃ wz, wz = (v2.setCell ⟨w.heap.size + 1 + 1, 12, none⟩ (.bool b1)).setCell ⟨w.heap.size + 1 + 1, 13, none⟩ (.bool b2) := ⟨_, rfl⟩
  rw [← hwz]
  have HT5 := Lib.hid (show wz.heap[w.heap.size + 1 + 1]? = some (.cells #[.string ⟨#[]⟩, .string ⟨#[]⟩, .string ⟨#[]⟩, .string ⟨#[]⟩, .string ⟨#[]⟩, .string ⟨#[]⟩, .string ⟨#[]⟩, .int .i64 0, .slice none 0 0, .int .i64 0, .int .i64 0, .int .i64 0, .bool b1, .bool b2, .int .i64 0] 38 (0, 0)) by rw [hwz]; exact heap_setCell_same _ _ 13 _ _ _ (heap_setCell_same _ _ 12 _ _ (.bool b1) HX52.out))
  have HKZ := Lib.hid (show ∀ k, k ≠ w.heap.size + 1 + 1 → wz.heap[k]? = v2.heap[k]? from fun k hk => by rw [hwz]; exact (Below.heap_setCell _ _ _ _ hk).trans (Below.heap_setCell _ _ _ _ hk))
  have HT4 := Lib.hid ((HKZ.out (w.heap.size + 1) (by omega)).trans HX42.out)
  have HZZ := Lib.hid (show wz.heap.size = v2.heap.size ∧ wz.os = v2.os ∧ wz.tape = v2.tape ∧ wz.output = v2.output by rw [hwz]; exact ⟨by simp only [sc_size], rfl, rfl, rfl⟩)
  clear hwz y12 y13 g12 g13
  have u0 := cell_block HT5.out 0
  have u1 := cell_block HT5.out 1
  have u2 := cell_block HT5.out 2
  have u3 := cell_block HT5.out 3
  have u4 := cell_block HT5.out 4
  have u5 := cell_block HT5.out 5
  have u6 := cell_block HT5.out 6
  have u7 := cell_block HT5.out 7
  have u8 := cell_block HT5.out 8
  have u9 := cell_block HT5.out 9
  have u10 := cell_block HT5.out 10
  have u11 := cell_block HT5.out 11
  have u12 := cell_block HT5.out 12
  have u13 := cell_block HT5.out 13
  have u14 := cell_block HT5.out 14
  simp only [List.getElem?_toArray, List.getElem?_cons_zero, List.getElem?_cons_succ] at u0 u1 u2 u3 u4 u5 u6 u7 u8 u9 u10 u11 u12 u13 u14
  go_wp2_with (refine wpList_store_row rfl 38 (.tmp 4) (.tmp 92) rfl (w.heap.size + 1) #[.string ⟨#[]⟩, .string ⟨#[]⟩, .string ⟨#[]⟩, .string ⟨#[]⟩, .string ⟨#[]⟩, .string ⟨#[]⟩, .string ⟨#[]⟩, .int .i64 0, .slice none 0 0, .int .i64 0, .int .i64 0, .int .i64 0, .bool b1, .bool b2, .int .i64 0] rfl rfl 38 _ HT4.out (by kernel_rfl) rfl (by simp [Value.oneCell']) ?_)
  obtain ⟨y0, y1, y2, y3, y4, y5, y6, y7, y8, y9, y10, y11, y12, y13, y14⟩ := cells15 (setRow_heap wz (w.heap.size + 1) _ #[.string ⟨#[]⟩, .string ⟨#[]⟩, .string ⟨#[]⟩, .string ⟨#[]⟩, .string ⟨#[]⟩, .string ⟨#[]⟩, .string ⟨#[]⟩, .int .i64 0, .slice none 0 0, .int .i64 0, .int .i64 0, .int .i64 0, .bool b1, .bool b2, .int .i64 0] _ _ HT4.out)
  refine bodyPost_ret (v := .agg #[.string ⟨#[]⟩, .string ⟨#[]⟩, .string ⟨#[]⟩, .string ⟨#[]⟩, .string ⟨#[]⟩, .string ⟨#[]⟩, .string ⟨#[]⟩, .int .i64 0, .slice none 0 0, .int .i64 0, .int .i64 0, .int .i64 0, .bool b1, .bool b2, .int .i64 0]) (by simp [results, Tryz.results9, go_sem, y0, y1, y2, y3, y4, y5, y6, y7, y8, y9, y10, y11, y12, y13, y14]) rfl ?_
  rw [HR.out, HB1.out, HB2.out]
  exact do_pass (r := (st, ⟨noG, 0, b1, b2, 0⟩)) HBX.out (Ss.nil _ _ _) (fun a h => by cases h) (ref_grow wx (HHX.out.below HV2.out)) (Mods.of_below S HV2.out) HLT.out (blk_lt HX5.out) (fun k _ hn1 hn2 => (setRow_other _ _ _ _ hn1).trans (HKZ.out k hn2)) (by rw [setRow_size, HZZ.out.1]; exact Nat.le_refl _) HZZ.out.2.1 HZZ.out.2.2.1 HZZ.out.2.2.2
set_option maxRecDepth 100000 in
set_option maxHeartbeats 4000000 in
theorem do_0 {w : World} {S : Nat → Prop} {F : Nat} {st : Ct} (h : RepE w S F st) (x : Opc) (A : Option Addr) (d : Nat) (hs : Ss w A x.g.scopes.length d x.g.scopes) (hok : greatO x = false) (hm : MX w) (hd : DG w) (hS0 : ∀ k, S k → 2 ≤ k) (q1 : (x.kind == 1) = false) (q2 : (x.kind == 2) = false) (q3 : (x.kind == 3) = false) (q4 : (x.kind == 4) = false) (q5 : (x.kind == 5) = false) (q6 : (x.kind == 6) = false) (q7 : (x.kind == 7) = false) (hr : doC st x = (st, ⟨noG, 0, false, false, 0⟩)) :
    Calls Tryz.prog 9 #[.pointer (some ⟨F, 0, none⟩), .agg #[.int .i64 x.kind, .string x.code, .string x.cl, .string x.rd, .string x.ver, .string x.g.user, .string x.g.client, .string x.g.tenant, .string x.g.session, .string x.g.redirect, .string x.g.nonce, .string x.g.challenge, .int .i64 x.g.method, .slice A x.g.scopes.length d, .int .i64 x.g.auth, .int .i64 x.g.level, .int .i64 x.now]] w (DoIs w S F (doC st x)) := by
  obtain ⟨z1, z2, z3, z4, z5, z6, z7⟩ := great_parts hok
  have HH := Lib.hid h
  have HS := Lib.hid hs
  have HM := Lib.hid hm
  have HD := Lib.hid hd
  have HR := Lib.hid hr
  have HZ7 := Lib.hid z7
  have HZ5 := Lib.hid z5
  have HS0 := Lib.hid hS0
  clear h hs hm hr z7 hok hd z5 hS0
  go_enter Tryz.func9, Tryz.ntmps9
  go_upto_region 2 with fail
  obtain ⟨wx, hwx⟩ : ∃ wx, wx = ((w.alloc (.cells #[.int .i64 x.kind, .string x.code, .string x.cl, .string x.rd, .string x.ver, .string x.g.user, .string x.g.client, .string x.g.tenant, .string x.g.session, .string x.g.redirect, .string x.g.nonce, .string x.g.challenge, .int .i64 x.g.method, .slice A x.g.scopes.length d, .int .i64 x.g.auth, .int .i64 x.g.level, .int .i64 x.now] 41)).alloc (.cells #[.string ⟨#[]⟩, .string ⟨#[]⟩, .string ⟨#[]⟩, .string ⟨#[]⟩, .string ⟨#[]⟩, .string ⟨#[]⟩, .string ⟨#[]⟩, .int .i64 0, .slice none 0 0, .int .i64 0, .int .i64 0, .int .i64 0, .bool false, .bool false, .int .i64 0] 38)).alloc (.cells #[.string ⟨#[]⟩, .string ⟨#[]⟩, .string ⟨#[]⟩, .string ⟨#[]⟩, .string ⟨#[]⟩, .string ⟨#[]⟩, .string ⟨#[]⟩, .int .i64 0, .slice none 0 0, .int .i64 0, .int .i64 0, .int .i64 0, .bool false, .bool false, .int .i64 0] 38) := ⟨_, rfl⟩
  rw [← hwx]
  have HBX := Lib.hid (show Below w.heap.size w wx by rw [hwx]; go_grown)
  have HX3 := Lib.hid (show wx.heap[w.heap.size]? = some (.cells #[.int .i64 x.kind, .string x.code, .string x.cl, .string x.rd, .string x.ver, .string x.g.user, .string x.g.client, .string x.g.tenant, .string x.g.session, .string x.g.redirect, .string x.g.nonce, .string x.g.challenge, .int .i64 x.g.method, .slice A x.g.scopes.length d, .int .i64 x.g.auth, .int .i64 x.g.level, .int .i64 x.now] 41 (0, 0)) by rw [hwx]; rw [Below.heap_alloc _ _ _ (by simp; omega), Below.heap_alloc _ _ _ (by simp)]; exact heap_alloc_new _ _)
  have HX4 := Lib.hid (show wx.heap[w.heap.size + 1]? = some (.cells #[.string ⟨#[]⟩, .string ⟨#[]⟩, .string ⟨#[]⟩, .string ⟨#[]⟩, .string ⟨#[]⟩, .string ⟨#[]⟩, .string ⟨#[]⟩, .int .i64 0, .slice none 0 0, .int .i64 0, .int .i64 0, .int .i64 0, .bool false, .bool false, .int .i64 0] 38 (0, 0)) by
    rw [hwx, Below.heap_alloc _ _ _ (by simp)]
    have e : w.heap.size + 1 = (w.alloc (.cells #[.int .i64 x.kind, .string x.code, .string x.cl, .string x.rd, .string x.ver, .string x.g.user, .string x.g.client, .string x.g.tenant, .string x.g.session, .string x.g.redirect, .string x.g.nonce, .string x.g.challenge, .int .i64 x.g.method, .slice A x.g.scopes.length d, .int .i64 x.g.auth, .int .i64 x.g.level, .int .i64 x.now] 41)).heap.size := by simp
    rw [e]; exact heap_alloc_new _ _)
  have HX5 := Lib.hid (show wx.heap[w.heap.size + 2]? = some (.cells #[.string ⟨#[]⟩, .string ⟨#[]⟩, .string ⟨#[]⟩, .string ⟨#[]⟩, .string ⟨#[]⟩, .string ⟨#[]⟩, .string ⟨#[]⟩, .int .i64 0, .slice none 0 0, .int .i64 0, .int .i64 0, .int .i64 0, .bool false, .bool false, .int .i64 0] 38 (0, 0)) by
    rw [hwx]
    have e : w.heap.size + 2 = ((w.alloc (.cells #[.int .i64 x.kind, .string x.code, .string x.cl, .string x.rd, .string x.ver, .string x.g.user, .string x.g.client, .string x.g.tenant, .string x.g.session, .string x.g.redirect, .string x.g.nonce, .string x.g.challenge, .int .i64 x.g.method, .slice A x.g.scopes.length d, .int .i64 x.g.auth, .int .i64 x.g.level, .int .i64 x.now] 41)).alloc (.cells #[.string ⟨#[]⟩, .string ⟨#[]⟩, .string ⟨#[]⟩, .string ⟨#[]⟩, .string ⟨#[]⟩, .string ⟨#[]⟩, .string ⟨#[]⟩, .int .i64 0, .slice none 0 0, .int .i64 0, .int .i64 0, .int .i64 0, .bool false, .bool false, .int .i64 0] 38)).heap.size := by simp
    rw [e]; exact heap_alloc_new _ _)
  have HHX := Lib.hid (HH.out.below HBX.out)
  have HLT := Lib.hid HH.out.lt
  clear hwx
  have x0 := cell_block HX3.out 0
  have x1 := cell_block HX3.out 1
  simp only [List.getElem?_toArray, List.getElem?_cons_zero, List.getElem?_cons_succ] at x0 x1
  go_upto_region 17 with fail
  have HT5 := Lib.hid (show wx.heap[w.heap.size + 1 + 1]? = some (.cells #[.string ⟨#[]⟩, .string ⟨#[]⟩, .string ⟨#[]⟩, .string ⟨#[]⟩, .string ⟨#[]⟩, .string ⟨#[]⟩, .string ⟨#[]⟩, .int .i64 0, .slice none 0 0, .int .i64 0, .int .i64 0, .int .i64 0, .bool false, .bool false, .int .i64 0] 38 (0, 0)) from HX5.out)
  have HT4 := Lib.hid HX4.out
  have u0 := cell_block HT5.out 0
  have u1 := cell_block HT5.out 1
  have u2 := cell_block HT5.out 2
  have u3 := cell_block HT5.out 3
  have u4 := cell_block HT5.out 4
  have u5 := cell_block HT5.out 5
  have u6 := cell_block HT5.out 6
  have u7 := cell_block HT5.out 7
  have u8 := cell_block HT5.out 8
  have u9 := cell_block HT5.out 9
  have u10 := cell_block HT5.out 10
  have u11 := cell_block HT5.out 11
  have u12 := cell_block HT5.out 12
  have u13 := cell_block HT5.out 13
  have u14 := cell_block HT5.out 14
  simp only [List.getElem?_toArray, List.getElem?_cons_zero, List.getElem?_cons_succ] at u0 u1 u2 u3 u4 u5 u6 u7 u8 u9 u10 u11 u12 u13 u14
  go_wp2_with (refine wpList_store_row rfl 38 (.tmp 4) (.tmp 92) rfl (w.heap.size + 1) #[.string ⟨#[]⟩, .string ⟨#[]⟩, .string ⟨#[]⟩, .string ⟨#[]⟩, .string ⟨#[]⟩, .string ⟨#[]⟩, .string ⟨#[]⟩, .int .i64 0, .slice none 0 0, .int .i64 0, .int .i64 0, .int .i64 0, .bool false, .bool false, .int .i64 0] rfl rfl 38 _ HT4.out (by kernel_rfl) rfl (by simp [Value.oneCell']) ?_)
  obtain ⟨y0, y1, y2, y3, y4, y5, y6, y7, y8, y9, y10, y11, y12, y13, y14⟩ := cells15 (setRow_heap wx (w.heap.size + 1) _ #[.string ⟨#[]⟩, .string ⟨#[]⟩, .string ⟨#[]⟩, .string ⟨#[]⟩, .string ⟨#[]⟩, .string ⟨#[]⟩, .string ⟨#[]⟩, .int .i64 0, .slice none 0 0, .int .i64 0, .int .i64 0, .int .i64 0, .bool false, .bool false, .int .i64 0] _ _ HT4.out)
  refine bodyPost_ret (v := .agg #[.string ⟨#[]⟩, .string ⟨#[]⟩, .string ⟨#[]⟩, .string ⟨#[]⟩, .string ⟨#[]⟩, .string ⟨#[]⟩, .string ⟨#[]⟩, .int .i64 0, .slice none 0 0, .int .i64 0, .int .i64 0, .int .i64 0, .bool false, .bool false, .int .i64 0]) (by simp [results, Tryz.results9, go_sem, y0, y1, y2, y3, y4, y5, y6, y7, y8, y9, y10, y11, y12, y13, y14]) rfl ?_
  rw [HR.out]
  exact do_pass (r := (st, ⟨noG, 0, false, false, 0⟩)) HBX.out (Ss.nil _ _ _) (fun a h => by cases h) (ref_grow wx HHX.out) (Mods.of_below S (Below.refl _ _)) HLT.out (blk_lt HX5.out) (fun k _ hn1 hn2 => setRow_other _ _ _ _ hn1) (by rw [setRow_size]; exact Nat.le_refl _) rfl rfl rfl
/-- Any operation. -/
theorem do_any {w : World} {S : Nat → Prop} {F : Nat} {st : Ct} (h : RepE w S F st) (x : Opc) (A : Option Addr) (d : Nat) (hs : Ss w A x.g.scopes.length d x.g.scopes) (hok : greatO x = false) (hm : MX w) (hd : DG w) (hS0 : ∀ k, S k → 2 ≤ k) :
    Calls Tryz.prog 9 #[.pointer (some ⟨F, 0, none⟩), .agg #[.int .i64 x.kind, .string x.code, .string x.cl, .string x.rd, .string x.ver, .string x.g.user, .string x.g.client, .string x.g.tenant, .string x.g.session, .string x.g.redirect, .string x.g.nonce, .string x.g.challenge, .int .i64 x.g.method, .slice A x.g.scopes.length d, .int .i64 x.g.auth, .int .i64 x.g.level, .int .i64 x.now]] w (DoIs w S F (doC st x)) := by
  have f : ∀ n : Int, x.kind ≠ n → (x.kind == n) = false := fun n h => beq_eq_false_iff_ne.2 h
  by_cases h1 : x.kind = 1
  · exact do_1 h x A d hs hok hm hd hS0 (by rw [h1]; rfl) (by unfold doC; rw [if_pos h1])
  · by_cases h2 : x.kind = 2
    · exact do_2 h x A d hs hok hm hd hS0 (f _ h1) (by rw [h2]; rfl) (by unfold doC; rw [if_neg h1, if_pos h2])
    · by_cases h3 : x.kind = 3
      · exact do_3 h x A d hs hok hm hd hS0 (f _ h1) (f _ h2) (by rw [h3]; rfl) (by unfold doC; rw [if_neg h1, if_neg h2, if_pos h3])
      · by_cases h4 : x.kind = 4
        · exact do_4 h x A d hs hok hm hd hS0 (f _ h1) (f _ h2) (f _ h3) (by rw [h4]; rfl) (by unfold doC; rw [if_neg h1, if_neg h2, if_neg h3, if_pos h4])
        · by_cases h5 : x.kind = 5
          · exact do_5 h x A d hs hok hm hd hS0 (f _ h1) (f _ h2) (f _ h3) (f _ h4) (by rw [h5]; rfl) (by unfold doC; rw [if_neg h1, if_neg h2, if_neg h3, if_neg h4, if_pos h5])
          · by_cases h6 : x.kind = 6
            · exact do_6 h x A d hs hok hm hd hS0 (f _ h1) (f _ h2) (f _ h3) (f _ h4) (f _ h5) (by rw [h6]; rfl) (by unfold doC; rw [if_neg h1, if_neg h2, if_neg h3, if_neg h4, if_neg h5, if_pos h6])
            · by_cases h7 : x.kind = 7
              · exact do_7 h x A d hs hok hm hd hS0 (f _ h1) (f _ h2) (f _ h3) (f _ h4) (f _ h5) (f _ h6) (by rw [h7]; rfl) (by unfold doC; rw [if_neg h1, if_neg h2, if_neg h3, if_neg h4, if_neg h5, if_neg h6, if_pos h7])
              · exact do_0 h x A d hs hok hm hd hS0 (f _ h1) (f _ h2) (f _ h3) (f _ h4) (f _ h5) (f _ h6) (f _ h7) (by unfold doC; rw [if_neg h1, if_neg h2, if_neg h3, if_neg h4, if_neg h5, if_neg h6, if_neg h7])
end Go.Proofs.YtioabjniipkncaaGreatDoor.Rc
