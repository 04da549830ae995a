/-
  The statements' do: Drop, DropUser, Purge.
-/
import Derived.Test.YtioabjniipkncaaGreatDoorRcY
namespace Go.Proofs.YtioabjniipkncaaGreatDoor.Rc
open Go.RowKit Go.Proofs.YtioabjniipkncaaGreatDoor.Fo Go.Proofs.YtioabjniipkncaaGreatDoor.Rf Go.Maps

set_option maxRecDepth 100000 in
set_option maxHeartbeats 4000000 in
theorem do_5 {w : World} {S : Nat → Prop} {F : Nat} {st : Ct} (h : RepE w S F st) (x : Opc) (A : Option Addr) (d : Nat) (hs : Ss w A x.g.scopes.length d x.g.scopes) (hok : greatO x = false) (hm : MX w) (hd : DG w) (hS0 : ∀ k, S k → 2 ≤ k) (q1 : (x.kind == 1) = false) (q2 : (x.kind == 2) = false) (q3 : (x.kind == 3) = false) (q4 : (x.kind == 4) = false) (q5 : (x.kind == 5) = true) (hr : doC st x = (drS (isSes x.cl) st, ⟨noG, (drN (isSes x.cl) st : Nat), false, false, 0⟩)) :
    Calls Tryz.prog 9 #[.pointer (some ⟨F, 0, none⟩), .agg #[.int .i64 x.kind, .string x.code, .string x.cl, .string x.rd, .string x.ver, .string x.g.user, .string x.g.client, .string x.g.tenant, .string x.g.session, .string x.g.redirect, .string x.g.nonce, .string x.g.challenge, .int .i64 x.g.method, .slice A x.g.scopes.length d, .int .i64 x.g.auth, .int .i64 x.g.level, .int .i64 x.now]] w (DoIs w S F (doC st x)) := by
  obtain ⟨z1, z2, z3, z4, z5, z6, z7⟩ := great_parts hok
  have HH := Lib.hid h
  have HS := Lib.hid hs
  have HM := Lib.hid hm
  have HD := Lib.hid hd
  have HR := Lib.hid hr
  have HZ7 := Lib.hid z7
  have HZ5 := Lib.hid z5
  have HS0 := Lib.hid hS0
  clear h hs hm hr z7 hok hd z5 hS0
  go_enter Tryz.func9, Tryz.ntmps9
  go_upto_region 2 with fail
  obtain ⟨wx, hwx⟩ : ∃ wx, wx = ((w.alloc (.cells #[.int .i64 x.kind, .string x.code, .string x.cl, .string x.rd, .string x.ver, .string x.g.user, .string x.g.client, .string x.g.tenant, .string x.g.session, .string x.g.redirect, .string x.g.nonce, .string x.g.challenge, .int .i64 x.g.method, .slice A x.g.scopes.length d, .int .i64 x.g.auth, .int .i64 x.g.level, .int .i64 x.now] 41)).alloc (.cells #[.string ⟨#[]⟩, .string ⟨#[]⟩, .string ⟨#[]⟩, .string ⟨#[]⟩, .string ⟨#[]⟩, .string ⟨#[]⟩, .string ⟨#[]⟩, .int .i64 0, .slice none 0 0, .int .i64 0, .int .i64 0, .int .i64 0, .bool false, .bool false, .int .i64 0] 38)).alloc (.cells #[.string ⟨#[]⟩, .string ⟨#[]⟩, .string ⟨#[]⟩, .string ⟨#[]⟩, .string ⟨#[]⟩, .string ⟨#[]⟩, .string ⟨#[]⟩, .int .i64 0, .slice none 0 0, .int .i64 0, .int .i64 0, .int .i64 0, .bool false, .bool false, .int .i64 0] 38) := ⟨_, rfl⟩
  rw [← hwx]
  have HBX := Lib.hid (show Below w.heap.size w wx by rw [hwx]; go_grown)
  have HX3 := Lib.hid (show wx.heap[w.heap.size]? = some (.cells #[.int .i64 x.kind, .string x.code, .string x.cl, .string x.rd, .string x.ver, .string x.g.user, .string x.g.client, .string x.g.tenant, .string x.g.session, .string x.g.redirect, .string x.g.nonce, .string x.g.challenge, .int .i64 x.g.method, .slice A x.g.scopes.length d, .int .i64 x.g.auth, .int .i64 x.g.level, .int .i64 x.now] 41 (0, 0)) by rw [hwx]; rw [Below.heap_alloc _ _ _ (by simp; omega), Below.heap_alloc _ _ _ (by simp)]; exact heap_alloc_new _ _)
  have HX4 := Lib.hid (show wx.heap[w.heap.size + 1]? = some (.cells #[.string ⟨#[]⟩, .string ⟨#[]⟩, .string ⟨#[]⟩, .string ⟨#[]⟩, .string ⟨#[]⟩, .string ⟨#[]⟩, .string ⟨#[]⟩, .int .i64 0, .slice none 0 0, .int .i64 0, .int .i64 0, .int .i64 0, .bool false, .bool false, .int .i64 0] 38 (0, 0)) by
    rw [hwx, Below.heap_alloc _ _ _ (by simp)]
    have e : w.heap.size + 1 = (w.alloc (.cells #[.int .i64 x.kind, .string x.code, .string x.cl, .string x.rd, .string x.ver, .string x.g.user, .string x.g.client, .string x.g.tenant, .string x.g.session, .string x.g.redirect, .string x.g.nonce, .string x.g.challenge, .int .i64 x.g.method, .slice A x.g.scopes.length d, .int .i64 x.g.auth, .int .i64 x.g.level, .int .i64 x.now] 41)).heap.size := by simp
    rw [e]; exact heap_alloc_new _ _)
  have HX5 := Lib.hid (show wx.heap[w.heap.size + 2]? = some (.cells #[.string ⟨#[]⟩, .string ⟨#[]⟩, .string ⟨#[]⟩, .string ⟨#[]⟩, .string ⟨#[]⟩, .string ⟨#[]⟩, .string ⟨#[]⟩, .int .i64 0, .slice none 0 0, .int .i64 0, .int .i64 0, .int .i64 0, .bool false, .bool false, .int .i64 0] 38 (0, 0)) by
    rw [hwx]
    have e : w.heap.size + 2 = ((w.alloc (.cells #[.int .i64 x.kind, .string x.code, .string x.cl, .string x.rd, .string x.ver, .string x.g.user, .string x.g.client, .string x.g.tenant, .string x.g.session, .string x.g.redirect, .string x.g.nonce, .string x.g.challenge, .int .i64 x.g.method, .slice A x.g.scopes.length d, .int .i64 x.g.auth, .int .i64 x.g.level, .int .i64 x.now] 41)).alloc (.cells #[.string ⟨#[]⟩, .string ⟨#[]⟩, .string ⟨#[]⟩, .string ⟨#[]⟩, .string ⟨#[]⟩, .string ⟨#[]⟩, .string ⟨#[]⟩, .int .i64 0, .slice none 0 0, .int .i64 0, .int .i64 0, .int .i64 0, .bool false, .bool false, .int .i64 0] 38)).heap.size := by simp
    rw [e]; exact heap_alloc_new _ _)
  have HHX := Lib.hid (HH.out.below HBX.out)
  have HLT := Lib.hid HH.out.lt
  clear hwx
  have x0 := cell_block HX3.out 0
  have x2 := cell_block HX3.out 2
  simp only [List.getElem?_toArray, List.getElem?_cons_zero, List.getElem?_cons_succ] at x0 x2
  go_wp2_with fail
  refine (dropSes_any HHX.out x.cl).mono ?_
  rintro e w1 ⟨rfl, hr1, hm1⟩
  have HR1 := Lib.hid hr1
  have HM1 := Lib.hid hm1
  clear hr1 hm1
  obtain ⟨kk, hkk⟩ : ∃ kk : Int, kk = ((drN (isSes x.cl) st : Nat) : Int) := ⟨_, rfl⟩
  have HK := Lib.hid hkk
  rw [← hkk]
  clear hkk
  have HX41 := Lib.hid ((HM1.out.block (w.heap.size + 1) (blk_lt HX4.out) (fun e => by have := HLT.out _ e; omega)).trans HX4.out)
  have HX51 := Lib.hid ((HM1.out.block (w.heap.size + 2) (blk_lt HX5.out) (fun e => by have := HLT.out _ e; omega)).trans HX5.out)
  have x11z := cell_block HX51.out 11
  simp only [List.getElem?_toArray, List.getElem?_cons_zero, List.getElem?_cons_succ] at x11z
  have fz : w1.frozen? ⟨w.heap.size + 2, 11, none⟩ = false := by have := HX51.out; simp only [World.frozen?, this]; rfl
  go_upto_region 17 with fail
  obtain ⟨wz, hwz⟩ : ∃ wz, wz = w1.setCell ⟨w.heap.size + 2, 11, none⟩ (.int .i64 kk) := ⟨_, rfl⟩
  rw [← hwz]
  have HT5 := Lib.hid (show wz.heap[w.heap.size + 2]? = some (.cells #[.string ⟨#[]⟩, .string ⟨#[]⟩, .string ⟨#[]⟩, .string ⟨#[]⟩, .string ⟨#[]⟩, .string ⟨#[]⟩, .string ⟨#[]⟩, .int .i64 0, .slice none 0 0, .int .i64 0, .int .i64 0, .int .i64 kk, .bool false, .bool false, .int .i64 0] 38 (0, 0)) by rw [hwz]; exact heap_setCell_same _ _ 11 _ _ _ HX51.out)
  have HT4 := Lib.hid (show wz.heap[w.heap.size + 1]? = some (.cells #[.string ⟨#[]⟩, .string ⟨#[]⟩, .string ⟨#[]⟩, .string ⟨#[]⟩, .string ⟨#[]⟩, .string ⟨#[]⟩, .string ⟨#[]⟩, .int .i64 0, .slice none 0 0, .int .i64 0, .int .i64 0, .int .i64 0, .bool false, .bool false, .int .i64 0] 38 (0, 0)) by rw [hwz]; exact (Below.heap_setCell _ _ _ _ (by simp)).trans HX41.out)
  have HKZ := Lib.hid (show ∀ k, k ≠ w.heap.size + 2 → wz.heap[k]? = w1.heap[k]? from fun k hk => by rw [hwz]; exact Below.heap_setCell _ _ _ _ hk)
  have HZZ := Lib.hid (show wz.heap.size = w1.heap.size ∧ wz.os = w1.os ∧ wz.tape = w1.tape ∧ wz.output = w1.output by rw [hwz]; exact ⟨by simp [World.setCell], rfl, rfl, rfl⟩)
  clear hwz x11z fz
  have u0 := cell_block HT5.out 0
  have u1 := cell_block HT5.out 1
  have u2 := cell_block HT5.out 2
  have u3 := cell_block HT5.out 3
  have u4 := cell_block HT5.out 4
  have u5 := cell_block HT5.out 5
  have u6 := cell_block HT5.out 6
  have u7 := cell_block HT5.out 7
  have u8 := cell_block HT5.out 8
  have u9 := cell_block HT5.out 9
  have u10 := cell_block HT5.out 10
  have u11 := cell_block HT5.out 11
  have u12 := cell_block HT5.out 12
  have u13 := cell_block HT5.out 13
  have u14 := cell_block HT5.out 14
  simp only [List.getElem?_toArray, List.getElem?_cons_zero, List.getElem?_cons_succ] at u0 u1 u2 u3 u4 u5 u6 u7 u8 u9 u10 u11 u12 u13 u14
  go_wp2_with (refine wpList_store_row rfl 38 (.tmp 4) (.tmp 92) rfl (w.heap.size + 1) #[.string ⟨#[]⟩, .string ⟨#[]⟩, .string ⟨#[]⟩, .string ⟨#[]⟩, .string ⟨#[]⟩, .string ⟨#[]⟩, .string ⟨#[]⟩, .int .i64 0, .slice none 0 0, .int .i64 0, .int .i64 0, .int .i64 kk, .bool false, .bool false, .int .i64 0] rfl rfl 38 _ HT4.out (by kernel_rfl) rfl (by simp [Value.oneCell']) ?_)
  obtain ⟨y0, y1, y2, y3, y4, y5, y6, y7, y8, y9, y10, y11, y12, y13, y14⟩ := cells15 (setRow_heap wz (w.heap.size + 1) _ #[.string ⟨#[]⟩, .string ⟨#[]⟩, .string ⟨#[]⟩, .string ⟨#[]⟩, .string ⟨#[]⟩, .string ⟨#[]⟩, .string ⟨#[]⟩, .int .i64 0, .slice none 0 0, .int .i64 0, .int .i64 0, .int .i64 kk, .bool false, .bool false, .int .i64 0] _ _ HT4.out)
  refine bodyPost_ret (v := .agg #[.string ⟨#[]⟩, .string ⟨#[]⟩, .string ⟨#[]⟩, .string ⟨#[]⟩, .string ⟨#[]⟩, .string ⟨#[]⟩, .string ⟨#[]⟩, .int .i64 0, .slice none 0 0, .int .i64 0, .int .i64 0, .int .i64 kk, .bool false, .bool false, .int .i64 0]) (by simp [results, Tryz.results9, go_sem, y0, y1, y2, y3, y4, y5, y6, y7, y8, y9, y10, y11, y12, y13, y14]) rfl ?_
  rw [HR.out, ← HK.out]
  exact do_pass (r := (drS (isSes x.cl) st, ⟨noG, kk, false, false, 0⟩)) HBX.out (Ss.nil _ _ _) (fun a h => by cases h) HR1.out HM1.out HLT.out (blk_lt HX5.out) (fun k _ hn1 hn2 => (setRow_other _ _ _ _ hn1).trans (HKZ.out k hn2)) (by rw [setRow_size, HZZ.out.1]; exact Nat.le_refl _) HZZ.out.2.1 HZZ.out.2.2.1 HZZ.out.2.2.2
set_option maxRecDepth 100000 in
set_option maxHeartbeats 4000000 in
theorem do_6 {w : World} {S : Nat → Prop} {F : Nat} {st : Ct} (h : RepE w S F st) (x : Opc) (A : Option Addr) (d : Nat) (hs : Ss w A x.g.scopes.length d x.g.scopes) (hok : greatO x = false) (hm : MX w) (hd : DG w) (hS0 : ∀ k, S k → 2 ≤ k) (q1 : (x.kind == 1) = false) (q2 : (x.kind == 2) = false) (q3 : (x.kind == 3) = false) (q4 : (x.kind == 4) = false) (q5 : (x.kind == 5) = false) (q6 : (x.kind == 6) = true) (hr : doC st x = (drS (isUsr x.cl) st, ⟨noG, (drN (isUsr x.cl) st : Nat), false, false, 0⟩)) :
    Calls Tryz.prog 9 #[.pointer (some ⟨F, 0, none⟩), .agg #[.int .i64 x.kind, .string x.code, .string x.cl, .string x.rd, .string x.ver, .string x.g.user, .string x.g.client, .string x.g.tenant, .string x.g.session, .string x.g.redirect, .string x.g.nonce, .string x.g.challenge, .int .i64 x.g.method, .slice A x.g.scopes.length d, .int .i64 x.g.auth, .int .i64 x.g.level, .int .i64 x.now]] w (DoIs w S F (doC st x)) := by
  obtain ⟨z1, z2, z3, z4, z5, z6, z7⟩ := great_parts hok
  have HH := Lib.hid h
  have HS := Lib.hid hs
  have HM := Lib.hid hm
  have HD := Lib.hid hd
  have HR := Lib.hid hr
  have HZ7 := Lib.hid z7
  have HZ5 := Lib.hid z5
  have HS0 := Lib.hid hS0
  clear h hs hm hr z7 hok hd z5 hS0
  go_enter Tryz.func9, Tryz.ntmps9
  go_upto_region 2 with fail
  obtain ⟨wx, hwx⟩ : ∃ wx, wx = ((w.alloc (.cells #[.int .i64 x.kind, .string x.code, .string x.cl, .string x.rd, .string x.ver, .string x.g.user, .string x.g.client, .string x.g.tenant, .string x.g.session, .string x.g.redirect, .string x.g.nonce, .string x.g.challenge, .int .i64 x.g.method, .slice A x.g.scopes.length d, .int .i64 x.g.auth, .int .i64 x.g.level, .int .i64 x.now] 41)).alloc (.cells #[.string ⟨#[]⟩, .string ⟨#[]⟩, .string ⟨#[]⟩, .string ⟨#[]⟩, .string ⟨#[]⟩, .string ⟨#[]⟩, .string ⟨#[]⟩, .int .i64 0, .slice none 0 0, .int .i64 0, .int .i64 0, .int .i64 0, .bool false, .bool false, .int .i64 0] 38)).alloc (.cells #[.string ⟨#[]⟩, .string ⟨#[]⟩, .string ⟨#[]⟩, .string ⟨#[]⟩, .string ⟨#[]⟩, .string ⟨#[]⟩, .string ⟨#[]⟩, .int .i64 0, .slice none 0 0, .int .i64 0, .int .i64 0, .int .i64 0, .bool false, .bool false, .int .i64 0] 38) := ⟨_, rfl⟩
  rw [← hwx]
  have HBX := Lib.hid (show Below w.heap.size w wx by rw [hwx]; go_grown)
  have HX3 := Lib.hid (show wx.heap[w.heap.size]? = some (.cells #[.int .i64 x.kind, .string x.code, .string x.cl, .string x.rd, .string x.ver, .string x.g.user, .string x.g.client, .string x.g.tenant, .string x.g.session, .string x.g.redirect, .string x.g.nonce, .string x.g.challenge, .int .i64 x.g.method, .slice A x.g.scopes.length d, .int .i64 x.g.auth, .int .i64 x.g.level, .int .i64 x.now] 41 (0, 0)) by rw [hwx]; rw [Below.heap_alloc _ _ _ (by simp; omega), Below.heap_alloc _ _ _ (by simp)]; exact heap_alloc_new _ _)
  have HX4 := Lib.hid (show wx.heap[w.heap.size + 1]? = some (.cells #[.string ⟨#[]⟩, .string ⟨#[]⟩, .string ⟨#[]⟩, .string ⟨#[]⟩, .string ⟨#[]⟩, .string ⟨#[]⟩, .string ⟨#[]⟩, .int .i64 0, .slice none 0 0, .int .i64 0, .int .i64 0, .int .i64 0, .bool false, .bool false, .int .i64 0] 38 (0, 0)) by
    rw [hwx, Below.heap_alloc _ _ _ (by simp)]
    have e : w.heap.size + 1 = (w.alloc (.cells #[.int .i64 x.kind, .string x.code, .string x.cl, .string x.rd, .string x.ver, .string x.g.user, .string x.g.client, .string x.g.tenant, .string x.g.session, .string x.g.redirect, .string x.g.nonce, .string x.g.challenge, .int .i64 x.g.method, .slice A x.g.scopes.length d, .int .i64 x.g.auth, .int .i64 x.g.level, .int .i64 x.now] 41)).heap.size := by simp
    rw [e]; exact heap_alloc_new _ _)
  have HX5 := Lib.hid (show wx.heap[w.heap.size + 2]? = some (.cells #[.string ⟨#[]⟩, .string ⟨#[]⟩, .string ⟨#[]⟩, .string ⟨#[]⟩, .string ⟨#[]⟩, .string ⟨#[]⟩, .string ⟨#[]⟩, .int .i64 0, .slice none 0 0, .int .i64 0, .int .i64 0, .int .i64 0, .bool false, .bool false, .int .i64 0] 38 (0, 0)) by
    rw [hwx]
    have e : w.heap.size + 2 = ((w.alloc (.cells #[.int .i64 x.kind, .string x.code, .string x.cl, .string x.rd, .string x.ver, .string x.g.user, .string x.g.client, .string x.g.tenant, .string x.g.session, .string x.g.redirect, .string x.g.nonce, .string x.g.challenge, .int .i64 x.g.method, .slice A x.g.scopes.length d, .int .i64 x.g.auth, .int .i64 x.g.level, .int .i64 x.now] 41)).alloc (.cells #[.string ⟨#[]⟩, .string ⟨#[]⟩, .string ⟨#[]⟩, .string ⟨#[]⟩, .string ⟨#[]⟩, .string ⟨#[]⟩, .string ⟨#[]⟩, .int .i64 0, .slice none 0 0, .int .i64 0, .int .i64 0, .int .i64 0, .bool false, .bool false, .int .i64 0] 38)).heap.size := by simp
    rw [e]; exact heap_alloc_new _ _)
  have HHX := Lib.hid (HH.out.below HBX.out)
  have HLT := Lib.hid HH.out.lt
  clear hwx
  have x0 := cell_block HX3.out 0
  have x2 := cell_block HX3.out 2
  simp only [List.getElem?_toArray, List.getElem?_cons_zero, List.getElem?_cons_succ] at x0 x2
  go_wp2_with fail
  refine (dropUsr_any HHX.out x.cl).mono ?_
  rintro e w1 ⟨rfl, hr1, hm1⟩
  have HR1 := Lib.hid hr1
  have HM1 := Lib.hid hm1
  clear hr1 hm1
  obtain ⟨kk, hkk⟩ : ∃ kk : Int, kk = ((drN (isUsr x.cl) st : Nat) : Int) := ⟨_, rfl⟩
  have HK := Lib.hid hkk
  rw [← hkk]
  clear hkk
  have HX41 := Lib.hid ((HM1.out.block (w.heap.size + 1) (blk_lt HX4.out) (fun e => by have := HLT.out _ e; omega)).trans HX4.out)
  have HX51 := Lib.hid ((HM1.out.block (w.heap.size + 2) (blk_lt HX5.out) (fun e => by have := HLT.out _ e; omega)).trans HX5.out)
  have x11z := cell_block HX51.out 11
  simp only [List.getElem?_toArray, List.getElem?_cons_zero, List.getElem?_cons_succ] at x11z
  have fz : w1.frozen? ⟨w.heap.size + 2, 11, none⟩ = false := by have := HX51.out; simp only [World.frozen?, this]; rfl
  go_upto_region 17 with fail
  obtain ⟨wz, hwz⟩ : ∃ wz, wz = w1.setCell ⟨w.heap.size + 2, 11, none⟩ (.int .i64 kk) := ⟨_, rfl⟩
  rw [← hwz]
  have HT5 := Lib.hid (show wz.heap[w.heap.size + 2]? = some (.cells #[.string ⟨#[]⟩, .string ⟨#[]⟩, .string ⟨#[]⟩, .string ⟨#[]⟩, .string ⟨#[]⟩, .string ⟨#[]⟩, .string ⟨#[]⟩, .int .i64 0, .slice none 0 0, .int .i64 0, .int .i64 0, .int .i64 kk, .bool false, .bool false, .int .i64 0] 38 (0, 0)) by rw [hwz]; exact heap_setCell_same _ _ 11 _ _ _ HX51.out)
  have HT4 := Lib.hid (show wz.heap[w.heap.size + 1]? = some (.cells #[.string ⟨#[]⟩, .string ⟨#[]⟩, .string ⟨#[]⟩, .string ⟨#[]⟩, .string ⟨#[]⟩, .string ⟨#[]⟩, .string ⟨#[]⟩, .int .i64 0, .slice none 0 0, .int .i64 0, .int .i64 0, .int .i64 0, .bool false, .bool false, .int .i64 0] 38 (0, 0)) by rw [hwz]; exact (Below.heap_setCell _ _ _ _ (by simp)).trans HX41.out)
  have HKZ := Lib.hid (show ∀ k, k ≠ w.heap.size + 2 → wz.heap[k]? = w1.heap[k]? from fun k hk => by rw [hwz]; exact Below.heap_setCell _ _ _ _ hk)
  have HZZ := Lib.hid (show wz.heap.size = w1.heap.size ∧ wz.os = w1.os ∧ wz.tape = w1.tape ∧ wz.output = w1.output by rw [hwz]; exact ⟨by simp [World.setCell], rfl, rfl, rfl⟩)
  clear hwz x11z fz
  have u0 := cell_block HT5.out 0
  have u1 := cell_block HT5.out 1
  have u2 := cell_block HT5.out 2
  have u3 := cell_block HT5.out 3
  have u4 := cell_block HT5.out 4
  have u5 := cell_block HT5.out 5
  have u6 := cell_block HT5.out 6
  have u7 := cell_block HT5.out 7
  have u8 := cell_block HT5.out 8
  have u9 := cell_block HT5.out 9
  have u10 := cell_block HT5.out 10
  have u11 := cell_block HT5.out 11
  have u12 := cell_block HT5.out 12
  have u13 := cell_block HT5.out 13
  have u14 := cell_block HT5.out 14
  simp only [List.getElem?_toArray, List.getElem?_cons_zero, List.getElem?_cons_succ] at u0 u1 u2 u3 u4 u5 u6 u7 u8 u9 u10 u11 u12 u13 u14
  go_wp2_with (refine wpList_store_row rfl 38 (.tmp 4) (.tmp 92) rfl (w.heap.size + 1) #[.string ⟨#[]⟩, .string ⟨#[]⟩, .string ⟨#[]⟩, .string ⟨#[]⟩, .string ⟨#[]⟩, .string ⟨#[]⟩, .string ⟨#[]⟩, .int .i64 0, .slice none 0 0, .int .i64 0, .int .i64 0, .int .i64 kk, .bool false, .bool false, .int .i64 0] rfl rfl 38 _ HT4.out (by kernel_rfl) rfl (by simp [Value.oneCell']) ?_)
  obtain ⟨y0, y1, y2, y3, y4, y5, y6, y7, y8, y9, y10, y11, y12, y13, y14⟩ := cells15 (setRow_heap wz (w.heap.size + 1) _ #[.string ⟨#[]⟩, .string ⟨#[]⟩, .string ⟨#[]⟩, .string ⟨#[]⟩, .string ⟨#[]⟩, .string ⟨#[]⟩, .string ⟨#[]⟩, .int .i64 0, .slice none 0 0, .int .i64 0, .int .i64 0, .int .i64 kk, .bool false, .bool false, .int .i64 0] _ _ HT4.out)
  refine bodyPost_ret (v := .agg #[.string ⟨#[]⟩, .string ⟨#[]⟩, .string ⟨#[]⟩, .string ⟨#[]⟩, .string ⟨#[]⟩, .string ⟨#[]⟩, .string ⟨#[]⟩, .int .i64 0, .slice none 0 0, .int .i64 0, .int .i64 0, .int .i64 kk, .bool false, .bool false, .int .i64 0]) (by simp [results, Tryz.results9, go_sem, y0, y1, y2, y3, y4, y5, y6, y7, y8, y9, y10, y11, y12, y13, y14]) rfl ?_
  rw [HR.out, ← HK.out]
  exact do_pass (r := (drS (isUsr x.cl) st, ⟨noG, kk, false, false, 0⟩)) HBX.out (Ss.nil _ _ _) (fun a h => by cases h) HR1.out HM1.out HLT.out (blk_lt HX5.out) (fun k _ hn1 hn2 => (setRow_other _ _ _ _ hn1).trans (HKZ.out k hn2)) (by rw [setRow_size, HZZ.out.1]; exact Nat.le_refl _) HZZ.out.2.1 HZZ.out.2.2.1 HZZ.out.2.2.2
set_option maxRecDepth 100000 in
set_option maxHeartbeats 4000000 in
theorem do_7 {w : World} {S : Nat → Prop} {F : Nat} {st : Ct} (h : RepE w S F st) (x : Opc) (A : Option Addr) (d : Nat) (hs : Ss w A x.g.scopes.length d x.g.scopes) (hok : greatO x = false) (hm : MX w) (hd : DG w) (hS0 : ∀ k, S k → 2 ≤ k) (q1 : (x.kind == 1) = false) (q2 : (x.kind == 2) = false) (q3 : (x.kind == 3) = false) (q4 : (x.kind == 4) = false) (q5 : (x.kind == 5) = false) (q6 : (x.kind == 6) = false) (q7 : (x.kind == 7) = true) (hr : doC st x = (puS st x.now, ⟨noG, (st.l.length : Int) - ((puS st x.now).l.length : Int), false, false, 0⟩)) :
    Calls Tryz.prog 9 #[.pointer (some ⟨F, 0, none⟩), .agg #[.int .i64 x.kind, .string x.code, .string x.cl, .string x.rd, .string x.ver, .string x.g.user, .string x.g.client, .string x.g.tenant, .string x.g.session, .string x.g.redirect, .string x.g.nonce, .string x.g.challenge, .int .i64 x.g.method, .slice A x.g.scopes.length d, .int .i64 x.g.auth, .int .i64 x.g.level, .int .i64 x.now]] w (DoIs w S F (doC st x)) := by
  obtain ⟨z1, z2, z3, z4, z5, z6, z7⟩ := great_parts hok
  have HH := Lib.hid h
  have HS := Lib.hid hs
  have HM := Lib.hid hm
  have HD := Lib.hid hd
  have HR := Lib.hid hr
  have HZ7 := Lib.hid z7
  have HZ5 := Lib.hid z5
  have HS0 := Lib.hid hS0
  clear h hs hm hr z7 hok hd z5 hS0
  go_enter Tryz.func9, Tryz.ntmps9
  go_upto_region 2 with fail
  obtain ⟨wx, hwx⟩ : ∃ wx, wx = ((w.alloc (.cells #[.int .i64 x.kind, .string x.code, .string x.cl, .string x.rd, .string x.ver, .string x.g.user, .string x.g.client, .string x.g.tenant, .string x.g.session, .string x.g.redirect, .string x.g.nonce, .string x.g.challenge, .int .i64 x.g.method, .slice A x.g.scopes.length d, .int .i64 x.g.auth, .int .i64 x.g.level, .int .i64 x.now] 41)).alloc (.cells #[.string ⟨#[]⟩, .string ⟨#[]⟩, .string ⟨#[]⟩, .string ⟨#[]⟩, .string ⟨#[]⟩, .string ⟨#[]⟩, .string ⟨#[]⟩, .int .i64 0, .slice none 0 0, .int .i64 0, .int .i64 0, .int .i64 0, .bool false, .bool false, .int .i64 0] 38)).alloc (.cells #[.string ⟨#[]⟩, .string ⟨#[]⟩, .string ⟨#[]⟩, .string ⟨#[]⟩, .string ⟨#[]⟩, .string ⟨#[]⟩, .string ⟨#[]⟩, .int .i64 0, .slice none 0 0, .int .i64 0, .int .i64 0, .int .i64 0, .bool false, .bool false, .int .i64 0] 38) := ⟨_, rfl⟩
  rw [← hwx]
  have HBX := Lib.hid (show Below w.heap.size w wx by rw [hwx]; go_grown)
  have HX3 := Lib.hid (show wx.heap[w.heap.size]? = some (.cells #[.int .i64 x.kind, .string x.code, .string x.cl, .string x.rd, .string x.ver, .string x.g.user, .string x.g.client, .string x.g.tenant, .string x.g.session, .string x.g.redirect, .string x.g.nonce, .string x.g.challenge, .int .i64 x.g.method, .slice A x.g.scopes.length d, .int .i64 x.g.auth, .int .i64 x.g.level, .int .i64 x.now] 41 (0, 0)) by rw [hwx]; rw [Below.heap_alloc _ _ _ (by simp; omega), Below.heap_alloc _ _ _ (by simp)]; exact heap_alloc_new _ _)
  have HX4 := Lib.hid (show wx.heap[w.heap.size + 1]? = some (.cells #[.string ⟨#[]⟩, .string ⟨#[]⟩, .string ⟨#[]⟩, .string ⟨#[]⟩, .string ⟨#[]⟩, .string ⟨#[]⟩, .string ⟨#[]⟩, .int .i64 0, .slice none 0 0, .int .i64 0, .int .i64 0, .int .i64 0, .bool false, .bool false, .int .i64 0] 38 (0, 0)) by
    rw [hwx, Below.heap_alloc _ _ _ (by simp)]
    have e : w.heap.size + 1 = (w.alloc (.cells #[.int .i64 x.kind, .string x.code, .string x.cl, .string x.rd, .string x.ver, .string x.g.user, .string x.g.client, .string x.g.tenant, .string x.g.session, .string x.g.redirect, .string x.g.nonce, .string x.g.challenge, .int .i64 x.g.method, .slice A x.g.scopes.length d, .int .i64 x.g.auth, .int .i64 x.g.level, .int .i64 x.now] 41)).heap.size := by simp
    rw [e]; exact heap_alloc_new _ _)
  have HX5 := Lib.hid (show wx.heap[w.heap.size + 2]? = some (.cells #[.string ⟨#[]⟩, .string ⟨#[]⟩, .string ⟨#[]⟩, .string ⟨#[]⟩, .string ⟨#[]⟩, .string ⟨#[]⟩, .string ⟨#[]⟩, .int .i64 0, .slice none 0 0, .int .i64 0, .int .i64 0, .int .i64 0, .bool false, .bool false, .int .i64 0] 38 (0, 0)) by
    rw [hwx]
    have e : w.heap.size + 2 = ((w.alloc (.cells #[.int .i64 x.kind, .string x.code, .string x.cl, .string x.rd, .string x.ver, .string x.g.user, .string x.g.client, .string x.g.tenant, .string x.g.session, .string x.g.redirect, .string x.g.nonce, .string x.g.challenge, .int .i64 x.g.method, .slice A x.g.scopes.length d, .int .i64 x.g.auth, .int .i64 x.g.level, .int .i64 x.now] 41)).alloc (.cells #[.string ⟨#[]⟩, .string ⟨#[]⟩, .string ⟨#[]⟩, .string ⟨#[]⟩, .string ⟨#[]⟩, .string ⟨#[]⟩, .string ⟨#[]⟩, .int .i64 0, .slice none 0 0, .int .i64 0, .int .i64 0, .int .i64 0, .bool false, .bool false, .int .i64 0] 38)).heap.size := by simp
    rw [e]; exact heap_alloc_new _ _)
  have HHX := Lib.hid (HH.out.below HBX.out)
  have HLT := Lib.hid HH.out.lt
  clear hwx
  have x0 := cell_block HX3.out 0
  have x16 := cell_block HX3.out 16
  simp only [List.getElem?_toArray, List.getElem?_cons_zero, List.getElem?_cons_succ] at x0 x16
  go_wp2_with fail
  refine (purge_any HHX.out x.now).mono ?_
  rintro e w1 ⟨rfl, hr1, hm1⟩
  have HR1 := Lib.hid hr1
  have HM1 := Lib.hid hm1
  clear hr1 hm1
  obtain ⟨kk, hkk⟩ : ∃ kk : Int, kk = ((st.l.length : Int) - ((puS st x.now).l.length : Int)) := ⟨_, rfl⟩
  have HK := Lib.hid hkk
  rw [← hkk]
  clear hkk
  have HX41 := Lib.hid ((HM1.out.block (w.heap.size + 1) (blk_lt HX4.out) (fun e => by have := HLT.out _ e; omega)).trans HX4.out)
  have HX51 := Lib.hid ((HM1.out.block (w.heap.size + 2) (blk_lt HX5.out) (fun e => by have := HLT.out _ e; omega)).trans HX5.out)
  have x11z := cell_block HX51.out 11
  simp only [List.getElem?_toArray, List.getElem?_cons_zero, List.getElem?_cons_succ] at x11z
  have fz : w1.frozen? ⟨w.heap.size + 2, 11, none⟩ = false := by have := HX51.out; simp only [World.frozen?, this]; rfl
  go_upto_region 17 with fail
  obtain ⟨wz, hwz⟩ : ∃ wz, wz = w1.setCell ⟨w.heap.size + 2, 11, none⟩ (.int .i64 kk) := ⟨_, rfl⟩
  rw [← hwz]
  have HT5 := Lib.hid (show wz.heap[w.heap.size + 2]? = some (.cells #[.string ⟨#[]⟩, .string ⟨#[]⟩, .string ⟨#[]⟩, .string ⟨#[]⟩, .string ⟨#[]⟩, .string ⟨#[]⟩, .string ⟨#[]⟩, .int .i64 0, .slice none 0 0, .int .i64 0, .int .i64 0, .int .i64 kk, .bool false, .bool false, .int .i64 0] 38 (0, 0)) by rw [hwz]; exact heap_setCell_same _ _ 11 _ _ _ HX51.out)
  have HT4 := Lib.hid (show wz.heap[w.heap.size + 1]? = some (.cells #[.string ⟨#[]⟩, .string ⟨#[]⟩, .string ⟨#[]⟩, .string ⟨#[]⟩, .string ⟨#[]⟩, .string ⟨#[]⟩, .string ⟨#[]⟩, .int .i64 0, .slice none 0 0, .int .i64 0, .int .i64 0, .int .i64 0, .bool false, .bool false, .int .i64 0] 38 (0, 0)) by rw [hwz]; exact (Below.heap_setCell _ _ _ _ (by simp)).trans HX41.out)
  have HKZ := Lib.hid (show ∀ k, k ≠ w.heap.size + 2 → wz.heap[k]? = w1.heap[k]? from fun k hk => by rw [hwz]; exact Below.heap_setCell _ _ _ _ hk)
  have HZZ := Lib.hid (show wz.heap.size = w1.heap.size ∧ wz.os = w1.os ∧ wz.tape = w1.tape ∧ wz.output = w1.output by rw [hwz]; exact ⟨by simp [World.setCell], rfl, rfl, rfl⟩)
  clear hwz x11z fz
  have u0 := cell_block HT5.out 0
  have u1 := cell_block HT5.out 1
  have u2 := cell_block HT5.out 2
  have u3 := cell_block HT5.out 3
  have u4 := cell_block HT5.out 4
  have u5 := cell_block HT5.out 5
  have u6 := cell_block HT5.out 6
  have u7 := cell_block HT5.out 7
  have u8 := cell_block HT5.out 8
  have u9 := cell_block HT5.out 9
  have u10 := cell_block HT5.out 10
  have u11 := cell_block HT5.out 11
  have u12 := cell_block HT5.out 12
  have u13 := cell_block HT5.out 13
  have u14 := cell_block HT5.out 14
  simp only [List.getElem?_toArray, List.getElem?_cons_zero, List.getElem?_cons_succ] at u0 u1 u2 u3 u4 u5 u6 u7 u8 u9 u10 u11 u12 u13 u14
  go_wp2_with (refine wpList_store_row rfl 38 (.tmp 4) (.tmp 92) rfl (w.heap.size + 1) #[.string ⟨#[]⟩, .string ⟨#[]⟩, .string ⟨#[]⟩, .string ⟨#[]⟩, .string ⟨#[]⟩, .string ⟨#[]⟩, .string ⟨#[]⟩, .int .i64 0, .slice none 0 0, .int .i64 0, .int .i64 0, .int .i64 kk, .bool false, .bool false, .int .i64 0] rfl rfl 38 _ HT4.out (by kernel_rfl) rfl (by simp [Value.oneCell']) ?_)
  obtain ⟨y0, y1, y2, y3, y4, y5, y6, y7, y8, y9, y10, y11, y12, y13, y14⟩ := cells15 (setRow_heap wz (w.heap.size + 1) _ #[.string ⟨#[]⟩, .string ⟨#[]⟩, .string ⟨#[]⟩, .string ⟨#[]⟩, .string ⟨#[]⟩, .string ⟨#[]⟩, .string ⟨#[]⟩, .int .i64 0, .slice none 0 0, .int .i64 0, .int .i64 0, .int .i64 kk, .bool false, .bool false, .int .i64 0] _ _ HT4.out)
  refine bodyPost_ret (v := .agg #[.string ⟨#[]⟩, .string ⟨#[]⟩, .string ⟨#[]⟩, .string ⟨#[]⟩, .string ⟨#[]⟩, .string ⟨#[]⟩, .string ⟨#[]⟩, .int .i64 0, .slice none 0 0, .int .i64 0, .int .i64 0, .int .i64 kk, .bool false, .bool false, .int .i64 0]) (by simp [results, Tryz.results9, go_sem, y0, y1, y2, y3, y4, y5, y6, y7, y8, y9, y10, y11, y12, y13, y14]) rfl ?_
  rw [HR.out, ← HK.out]
  exact do_pass (r := (puS st x.now, ⟨noG, kk, false, false, 0⟩)) HBX.out (Ss.nil _ _ _) (fun a h => by cases h) HR1.out HM1.out HLT.out (blk_lt HX5.out) (fun k _ hn1 hn2 => (setRow_other _ _ _ _ hn1).trans (HKZ.out k hn2)) (by rw [setRow_size, HZZ.out.1]; exact Nat.le_refl _) HZZ.out.2.1 HZZ.out.2.2.1 HZZ.out.2.2.2
end Go.Proofs.YtioabjniipkncaaGreatDoor.Rc
