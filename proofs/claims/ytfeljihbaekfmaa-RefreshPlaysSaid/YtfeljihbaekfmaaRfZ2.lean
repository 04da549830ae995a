/-
  The statements' do: Start and Rotate; any call.
-/
import Derived.Test.YtfeljihbaekfmaaRfZ
import Derived.Test.YtfeljihbaekfmaaRfSb
namespace Go.Proofs.Ytfeljihbaekfmaa.Rf
open Go.RowKit Go.Proofs.Ytfeljihbaekfmaa.Fo
set_option maxRecDepth 100000 in
set_option maxHeartbeats 4000000 in
theorem do_0 {w : World} {S : Nat → Prop} {F : Nat} {st : St} (h : RepE w S F st) (x : Opx) (A : Option Addr) (d : Nat) (hs : Ss w A x.sc.length d x.sc) (hok : opOk x = true) (hm : MX w) (hBS : ∀ a, A = some a → 0 < x.sc.length → ¬ S a.block) (q0 : (x.call == 0) = true) (hr : doS st x = ((start st x.id x.tok (mkG x.user x.cl x.ses x.sc) x.now).1, (noG, (start st x.id x.tok (mkG x.user x.cl x.ses x.sc) x.now).2))) :
    Calls Try.prog 13 #[.pointer (some ⟨F, 0, none⟩), .agg #[.int .i64 x.call, .int .i64 x.now, .string x.id, .string x.tok, .string x.nxt, .string x.user, .string x.cl, .string x.ses, .slice A x.sc.length d]] w (DoIs w S F (doS st x)) := by
  obtain ⟨z1, z2, z3, z4, z5, z6, z7, z8⟩ := ok_parts hok
  have HH := Lib.hid h
  have HS := Lib.hid hs
  have HM := Lib.hid hm
  have HBS := Lib.hid hBS
  have HR := Lib.hid hr
  have HZ8 := Lib.hid z8
  clear h hs hm hBS hr z8 hok
  go_enter Try.func13, Try.ntmps13
  go_upto_region 1 with fail
  obtain ⟨wx, hwx⟩ : ∃ wx, wx = (w.alloc (.cells #[.int .i64 x.call, .int .i64 x.now, .string x.id, .string x.tok, .string x.nxt, .string x.user, .string x.cl, .string x.ses, .slice A x.sc.length d] 39)).alloc (.cells #[.string ⟨#[]⟩, .string ⟨#[]⟩, .string ⟨#[]⟩, .string ⟨#[]⟩, .string ⟨#[]⟩, .string ⟨#[]⟩, .string ⟨#[]⟩, .int .i64 0, .slice none 0 0, .int .i64 0, .int .i64 0] 35) := ⟨_, rfl⟩
  rw [← hwx]
  have HBX := Lib.hid (show Below w.heap.size w wx by rw [hwx]; go_grown)
  have HX3 := Lib.hid (show wx.heap[w.heap.size]? = some (.cells #[.int .i64 x.call, .int .i64 x.now, .string x.id, .string x.tok, .string x.nxt, .string x.user, .string x.cl, .string x.ses, .slice A x.sc.length d] 39 (0, 0)) by rw [hwx]; rw [Below.heap_alloc _ _ _ (by simp)]; exact heap_alloc_new _ _)
  have HZX := Lib.hid (show wx.heap[w.heap.size + 1]? = some (.cells #[.string ⟨#[]⟩, .string ⟨#[]⟩, .string ⟨#[]⟩, .string ⟨#[]⟩, .string ⟨#[]⟩, .string ⟨#[]⟩, .string ⟨#[]⟩, .int .i64 0, .slice none 0 0, .int .i64 0, .int .i64 0] 35 (0, 0)) by
    rw [hwx]
    have e : w.heap.size + 1 = (w.alloc (.cells #[.int .i64 x.call, .int .i64 x.now, .string x.id, .string x.tok, .string x.nxt, .string x.user, .string x.cl, .string x.ses, .slice A x.sc.length d] 39)).heap.size := by simp
    rw [e]; exact heap_alloc_new _ _)
  have HHX := Lib.hid (HH.out.below HBX.out)
  have HLT := Lib.hid HH.out.lt
  clear hwx
  have x0 := cell_block HX3.out 0
  have x1 := cell_block HX3.out 1
  have x2 := cell_block HX3.out 2
  have x3 := cell_block HX3.out 3
  have x5 := cell_block HX3.out 5
  have x6 := cell_block HX3.out 6
  have x7 := cell_block HX3.out 7
  have x8 := cell_block HX3.out 8
  simp only [List.getElem?_toArray, List.getElem?_cons_zero, List.getElem?_cons_succ] at x0 x1 x2 x3 x5 x6 x7 x8
  go_wp2_with fail
  refine wp_region_held_drew (S := (fun w' => w'.cell? ⟨w.heap.size, 1, none⟩ = some (.int .i64 x.now) ∧ w'.cell? ⟨w.heap.size, 2, none⟩ = some (.string x.id) ∧ w'.cell? ⟨w.heap.size, 3, none⟩ = some (.string x.tok) ∧ w'.cell? ⟨w.heap.size, 5, none⟩ = some (.string x.user) ∧ w'.cell? ⟨w.heap.size, 6, none⟩ = some (.string x.cl) ∧ w'.cell? ⟨w.heap.size, 7, none⟩ = some (.string x.ses) ∧ w'.cell? ⟨w.heap.size, 8, none⟩ = some (.slice A x.sc.length d))) (by kernel_rfl) ?_ (fun hHeld => ?_)
  focus ((try dsimp only); (first | exact ⟨x1, x2, x3, x5, x6, x7, x8⟩ | exact ⟨t1, t2, t3, t5, t6, t7, t8⟩ | exact ⟨v1, v2, v3, v5, v6, v7, v8⟩); done)
  refine wpAnyH_take (i := 0) (oi := ⟨_, _, _, _, _, _⟩) (v := ?_) rfl (by kernel_rfl) (by kernel_rfl) (by kernel_rfl) (fun _ _ _ h => h) (Or.inl ⟨by rfl, ?_⟩) (by assumption) ?_; rotate_left; (focus (intro w hSw; (try dsimp only at hSw); go_simp; (try with_reducible rfl); done)); simp only [Act.put, List.setIfInBounds_toArray, List.set_cons_zero, List.set_cons_succ]
  refine wpAnyH_take (i := 1) (oi := ⟨_, _, _, _, _, _⟩) (v := ?_) rfl (by kernel_rfl) (by kernel_rfl) (by kernel_rfl) (fun _ _ _ h => h) (Or.inl ⟨by rfl, ?_⟩) (by assumption) ?_; rotate_left; (focus (intro w hSw; (try dsimp only at hSw); go_simp; (try with_reducible rfl); done)); simp only [Act.put, List.setIfInBounds_toArray, List.set_cons_zero, List.set_cons_succ]
  refine wpAnyH_take (i := 2) (oi := ⟨_, _, _, _, _, _⟩) (v := ?_) rfl (by kernel_rfl) (by kernel_rfl) (by kernel_rfl) (fun _ _ _ h => h) (Or.inl ⟨by rfl, ?_⟩) (by assumption) ?_; rotate_left; (focus (intro w hSw; (try dsimp only at hSw); go_simp; (try with_reducible rfl); done)); simp only [Act.put, List.setIfInBounds_toArray, List.set_cons_zero, List.set_cons_succ]
  refine wpAnyH_take (i := 3) (oi := ⟨_, _, _, _, _, _⟩) (v := ?_) rfl (by kernel_rfl) (by kernel_rfl) (by kernel_rfl) (fun _ _ _ h => h) (Or.inl ⟨by rfl, ?_⟩) (by assumption) ?_; rotate_left; (focus (intro w hSw; (try dsimp only at hSw); go_simp; (try with_reducible rfl); done)); simp only [Act.put, List.setIfInBounds_toArray, List.set_cons_zero, List.set_cons_succ]
  refine wpAnyH_take (i := 4) (oi := ⟨_, _, _, _, _, _⟩) (v := ?_) rfl (by kernel_rfl) (by kernel_rfl) (by kernel_rfl) (fun _ _ _ h => h) (Or.inl ⟨by rfl, ?_⟩) (by assumption) ?_; rotate_left; (focus (intro w hSw; (try dsimp only at hSw); go_simp; (try with_reducible rfl); done)); simp only [Act.put, List.setIfInBounds_toArray, List.set_cons_zero, List.set_cons_succ]
  refine wpAnyH_take (i := 5) (oi := ⟨_, _, _, _, _, _⟩) (v := ?_) rfl (by kernel_rfl) (by kernel_rfl) (by kernel_rfl) (fun _ _ _ h => h) (Or.inl ⟨by rfl, ?_⟩) (by assumption) ?_; rotate_left; (focus (intro w hSw; (try dsimp only at hSw); go_simp; (try with_reducible rfl); done)); simp only [Act.put, List.setIfInBounds_toArray, List.set_cons_zero, List.set_cons_succ]
  refine wpAnyH_take (i := 6) (oi := ⟨_, _, _, _, _, _⟩) (v := ?_) rfl (by kernel_rfl) (by kernel_rfl) (by kernel_rfl) (fun _ _ _ h => h) (Or.inl ⟨by rfl, ?_⟩) (by assumption) ?_; rotate_left; (focus (intro w hSw; (try dsimp only at hSw); go_simp; (try with_reducible rfl); done)); simp only [Act.put, List.setIfInBounds_toArray, List.set_cons_zero, List.set_cons_succ]
  refine wpAnyH_take (i := 7) (oi := ⟨_, _, _, _, _, _⟩) (v := ?_) rfl (by kernel_rfl) (by kernel_rfl) (by kernel_rfl) (fun _ _ _ h => h) (Or.inl ⟨by rfl, ?_⟩) (by assumption) ?_; rotate_left; (focus (intro w hSw; (try dsimp only at hSw); go_simp; (try with_reducible rfl); done)); simp only [Act.put, List.setIfInBounds_toArray, List.set_cons_zero, List.set_cons_succ]
  refine wpAnyH_take (i := 8) (oi := ⟨_, _, _, _, _, _⟩) (v := ?_) rfl (by kernel_rfl) (by kernel_rfl) (by kernel_rfl) (fun _ _ _ h => h) (Or.inl ⟨by rfl, ?_⟩) (by assumption) ?_; rotate_left; (focus (intro w hSw; (try dsimp only at hSw); go_simp; (try with_reducible rfl); done)); simp only [Act.put, List.setIfInBounds_toArray, List.set_cons_zero, List.set_cons_succ]
  refine wpAnyH_take (i := 9) (oi := ⟨_, _, _, _, _, _⟩) (v := ?_) rfl (by kernel_rfl) (by kernel_rfl) (by kernel_rfl) (fun _ _ _ h => h) (Or.inl ⟨by rfl, ?_⟩) (by assumption) ?_; rotate_left; (focus (intro w hSw; (try dsimp only at hSw); go_simp; (try with_reducible rfl); done)); simp only [Act.put, List.setIfInBounds_toArray, List.set_cons_zero, List.set_cons_succ]
  refine wpAnyH_take (i := 10) (oi := ⟨_, _, _, _, _, _⟩) (v := ?_) rfl (by kernel_rfl) (by kernel_rfl) (by kernel_rfl) (fun _ _ _ h => h) (Or.inl ⟨by rfl, ?_⟩) (by assumption) ?_; rotate_left; (focus (intro w hSw; (try dsimp only at hSw); go_simp; (try with_reducible rfl); done)); simp only [Act.put, List.setIfInBounds_toArray, List.set_cons_zero, List.set_cons_succ]
  refine wpAnyH_take (i := 11) (oi := ⟨_, _, _, _, _, _⟩) (v := ?_) rfl (by kernel_rfl) (by kernel_rfl) (by kernel_rfl) (fun _ _ _ h => h) (Or.inl ⟨by rfl, ?_⟩) (by assumption) ?_; rotate_left; (focus (intro w hSw; (try dsimp only at hSw); go_simp; (try with_reducible rfl); done)); simp only [Act.put, List.setIfInBounds_toArray, List.set_cons_zero, List.set_cons_succ]
  refine wpAnyH_take (i := 12) (oi := ⟨_, _, _, _, _, _⟩) (v := ?_) rfl (by kernel_rfl) (by kernel_rfl) (by kernel_rfl) (fun _ _ _ h => h) (Or.inl ⟨by rfl, ?_⟩) (by assumption) ?_; rotate_left; (focus (intro w hSw; (try dsimp only at hSw); go_simp; (try with_reducible rfl); done)); simp only [Act.put, List.setIfInBounds_toArray, List.set_cons_zero, List.set_cons_succ]
  refine wpAnyH_take (i := 13) (oi := ⟨_, _, _, _, _, _⟩) (v := ?_) rfl (by kernel_rfl) (by kernel_rfl) (by kernel_rfl) (fun _ _ _ h => h) (Or.inl ⟨by rfl, ?_⟩) (by assumption) ?_; rotate_left; (focus (intro w hSw; (try dsimp only at hSw); go_simp; (try with_reducible rfl); done)); simp only [Act.put, List.setIfInBounds_toArray, List.set_cons_zero, List.set_cons_succ]
  refine wpAnyH_take (i := 15) (oi := ⟨_, _, _, _, _, _⟩) (v := ?_) rfl (by kernel_rfl) (by kernel_rfl) (by kernel_rfl) (fun _ _ _ h => h) (Or.inl ⟨by rfl, ?_⟩) (by assumption) ?_; rotate_left; (focus (intro w hSw; (try dsimp only at hSw); go_simp; (try with_reducible rfl); done)); simp only [Act.put, List.setIfInBounds_toArray, List.set_cons_zero, List.set_cons_succ]
  refine wpAnyH_take (i := 16) (oi := ⟨_, _, _, _, _, _⟩) (v := ?_) rfl (by kernel_rfl) (by kernel_rfl) (by kernel_rfl) (fun _ _ _ h => h) (Or.inl ⟨by rfl, ?_⟩) (by assumption) ?_; rotate_left; (focus (intro w hSw; (try dsimp only at hSw); go_simp; (try with_reducible rfl); done)); simp only [Act.put, List.setIfInBounds_toArray, List.set_cons_zero, List.set_cons_succ]
  refine wpAnyH_ready (rs := [14]) (by kernel_rfl) (by simp) ?_
  refine AllReadyH.cons (o := ⟨_, _, _, _, _, _⟩) rfl (fun K hK => ?_) AllReadyH.nil
  go_simp
  go_wp2_with fail
  refine (grant_any x.user x.cl x.ses A x.sc.length d _).mono ?_
  rintro e w1 ⟨rfl, hb1⟩
  have HBD := Lib.hid ((Below.refl wx.heap.size wx).drew)
  have HB1 := Lib.hid (HBD.out.trans hb1)
  clear hb1
  have t1 := cell_block ((HB1.out.block _ (blk_lt HX3.out)).trans HX3.out) 1
  have t2 := cell_block ((HB1.out.block _ (blk_lt HX3.out)).trans HX3.out) 2
  have t3 := cell_block ((HB1.out.block _ (blk_lt HX3.out)).trans HX3.out) 3
  have t5 := cell_block ((HB1.out.block _ (blk_lt HX3.out)).trans HX3.out) 5
  have t6 := cell_block ((HB1.out.block _ (blk_lt HX3.out)).trans HX3.out) 6
  have t7 := cell_block ((HB1.out.block _ (blk_lt HX3.out)).trans HX3.out) 7
  have t8 := cell_block ((HB1.out.block _ (blk_lt HX3.out)).trans HX3.out) 8
  simp only [List.getElem?_toArray, List.getElem?_cons_zero, List.getElem?_cons_succ] at t1 t2 t3 t5 t6 t7 t8
  (try go_wp2_with fail)
  refine hK.out _ _ ?_ (fun hHeld => ?_)
  focus ((try dsimp only); (first | exact ⟨x1, x2, x3, x5, x6, x7, x8⟩ | exact ⟨t1, t2, t3, t5, t6, t7, t8⟩ | exact ⟨v1, v2, v3, v5, v6, v7, v8⟩); done)
  clear hK K
  (try simp only [Act.put, List.setIfInBounds_toArray, List.set_cons_zero, List.set_cons_succ])
  refine wpAnyH_ready (rs := [17]) (by kernel_rfl) (by simp) ?_
  refine AllReadyH.cons (o := ⟨_, _, _, _, _, _⟩) rfl (fun K hK => ?_) AllReadyH.nil
  go_simp
  go_wp2_with fail
  refine (start_any (HHX.out.below HB1.out) x.id x.tok (mkG x.user x.cl x.ses x.sc) A x.sc.length d x.now (by omega) (by omega) (show x.user.size ≤ 100000 by omega) (show x.cl.size ≤ 100000 by omega) (show x.ses.size ≤ 100000 by omega) ((HS.out.below HBX.out).below HB1.out) HZ8.out (by omega) ((HM.out.below HBX.out).below HB1.out)).mono ?_
  rintro e w2 ⟨rfl, hr1, hm1⟩
  have HR1 := Lib.hid hr1
  have HM1 := Lib.hid hm1
  have HX2 := Lib.hid ((HM1.out.block w.heap.size (Nat.lt_of_lt_of_le (blk_lt HX3.out) HB1.out.size) (fun e => by have := HLT.out _ e; omega)).trans ((HB1.out.block _ (blk_lt HX3.out)).trans HX3.out))
  have HZ2 := Lib.hid ((HM1.out.block (w.heap.size + 1) (Nat.lt_of_lt_of_le (blk_lt HZX.out) HB1.out.size) (fun e => by have := HLT.out _ e; omega)).trans ((HB1.out.block _ (blk_lt HZX.out)).trans HZX.out))
  clear hr1 hm1
  obtain ⟨k, hk⟩ : ∃ k : Int, k = (start st x.id x.tok (mkG x.user x.cl x.ses x.sc) x.now).2 := ⟨_, rfl⟩
  have HK := Lib.hid hk
  rw [← hk]
  clear hk
  have v1 := cell_block HX2.out 1
  have v2 := cell_block HX2.out 2
  have v3 := cell_block HX2.out 3
  have v5 := cell_block HX2.out 5
  have v6 := cell_block HX2.out 6
  have v7 := cell_block HX2.out 7
  have v8 := cell_block HX2.out 8
  simp only [List.getElem?_toArray, List.getElem?_cons_zero, List.getElem?_cons_succ] at v1 v2 v3 v5 v6 v7 v8
  (try go_wp2_with fail)
  refine hK.out _ _ ?_ (fun hHeld => ?_)
  focus ((try dsimp only); (first | exact ⟨x1, x2, x3, x5, x6, x7, x8⟩ | exact ⟨t1, t2, t3, t5, t6, t7, t8⟩ | exact ⟨v1, v2, v3, v5, v6, v7, v8⟩); done)
  clear hK K
  (try simp only [Act.put, List.setIfInBounds_toArray, List.set_cons_zero, List.set_cons_succ])
  refine wpAnyH_ready (rs := [18]) (by kernel_rfl) (by simp) ?_
  refine AllReadyH.cons (o := ⟨_, _, _, _, _, _⟩) rfl (fun K hK => ?_) AllReadyH.nil
  refine store_noneO (.tmp 4) (.tmp 12) rfl (w.heap.size + 1) rfl rfl HZ2.out ?_
  (try go_wp2_with fail)
  refine hK.out _ _ ?_ (fun hHeld => ?_)
  focus ((try dsimp only); (first | exact ⟨x1, x2, x3, x5, x6, x7, x8⟩ | exact ⟨t1, t2, t3, t5, t6, t7, t8⟩ | exact ⟨v1, v2, v3, v5, v6, v7, v8⟩); done)
  clear hK K
  (try simp only [Act.put, List.setIfInBounds_toArray, List.set_cons_zero, List.set_cons_succ])
  refine wpAnyH_take (i := 19) (oi := ⟨_, _, _, _, _, _⟩) (v := ?_) rfl (by kernel_rfl) (by kernel_rfl) (by kernel_rfl) (fun _ _ _ h => h) (Or.inl ⟨by rfl, ?_⟩) (by assumption) ?_; rotate_left; (focus (intro w hSw; (try dsimp only at hSw); go_simp; (try with_reducible rfl); done)); simp only [Act.put, List.setIfInBounds_toArray, List.set_cons_zero, List.set_cons_succ]
  refine wpAnyH_done (by kernel_rfl) ?_ _
  go_wp2
  obtain ⟨y0, y1, y2, y3, y4, y5, y6, y7, y8, y9, y10⟩ := cells11 HZ2.out
  refine bodyPost_ret (v := .tuple #[.agg #[.string ⟨#[]⟩, .string ⟨#[]⟩, .string ⟨#[]⟩, .string ⟨#[]⟩, .string ⟨#[]⟩, .string ⟨#[]⟩, .string ⟨#[]⟩, .int .i64 0, .slice none 0 0, .int .i64 0, .int .i64 0], .int .i64 k]) (by simp [results, Try.results13, go_sem, y0, y1, y2, y3, y4, y5, y6, y7, y8, y9, y10]) rfl ?_
  exact num_rot (by rw [HR.out, HK.out]) (HBX.out.trans (HB1.out.mono HBX.out.size)) (show RepE w2 (grow S w1 w2) F _ from HR1.out) HM1.out
theorem rot_pass {w wx w1 wz : World} {S : Nat → Prop} {F : Nat} {r : St × (Gr × Int)} {B' : Option Addr} {d' : Nat} (hb : Below w.heap.size w wx) (hss : Ss w1 B' r.2.1.scopes.length d' r.2.1.scopes) (hfr : ∀ a, B' = some a → 0 < r.2.1.scopes.length → wx.heap.size ≤ a.block) (h : RepE w1 S F r.1) (hm : Mods S wx w1) (hlt : ∀ k, S k → k < w.heap.size) (hx : w.heap.size + 1 < wx.heap.size) (_ : w1.heap[w.heap.size + 1]? = some (.cells #[.string ⟨#[]⟩, .string ⟨#[]⟩, .string ⟨#[]⟩, .string ⟨#[]⟩, .string ⟨#[]⟩, .string ⟨#[]⟩, .string ⟨#[]⟩, .int .i64 0, .slice none 0 0, .int .i64 0, .int .i64 0] 35 (0, 0)))
    (hk : ∀ k, k < w1.heap.size → k ≠ w.heap.size + 1 → wz.heap[k]? = w1.heap[k]?) (hsz : w1.heap.size ≤ wz.heap.size) (ho : wz.os = w1.os) (ht : wz.tape = w1.tape) (hout : wz.output = w1.output) : DoIs w S F r (.returned (.tuple #[.agg #[.string r.2.1.user, .string r.2.1.client, .string r.2.1.tenant, .string r.2.1.session, .string r.2.1.redirect, .string r.2.1.nonce, .string r.2.1.challenge, .int .i64 r.2.1.method, (.slice B' r.2.1.scopes.length d'), .int .i64 r.2.1.auth, .int .i64 r.2.1.level], .int .i64 r.2.2])) wz := by
  have h2 : Mods S w w1 := ⟨hm.os.trans hb.os, hm.tape.trans hb.tape, hm.output.trans hb.output, Nat.le_trans hb.size hm.size, fun k hk hn => (hm.block k (Nat.lt_of_lt_of_le hk hb.size) hn).trans (hb.block k hk)⟩
  refine ⟨B', d', rfl, ?_, (fun a ha hn => by have := hfr a ha hn; have := hb.size; omega), h.keep (fun _ e => Or.inl e) (fun k e => hk k (h.lt k e) (by have := hlt k e; omega)) hsz (fun k e => ?_), ⟨ho.trans h2.os, ht.trans h2.tape, hout.trans h2.output, Nat.le_trans h2.size hsz, fun k hk1 hn => (hk k (Nat.lt_of_lt_of_le hk1 h2.size) (by omega)).trans (h2.block k hk1 hn)⟩⟩
  · refine ⟨hss.1, hss.2.1, fun hn => ?_⟩
    obtain ⟨b, off, e, hl, hc⟩ := hss.2.2 hn
    refine ⟨b, off, e, Nat.lt_of_lt_of_le hl hsz, fun i hi => ?_⟩
    have hc0 := hc i hi
    have hbne : b ≠ w.heap.size + 1 := fun e2 => by have := hfr _ e hn; simp only at this; omega
    rw [World.cell?_of_block (w := w1) (hk b hl hbne)]
    exact hc0
  · rcases e with e | e
    · have := hlt k e; have := h2.size; omega
    · exact e.2
set_option maxRecDepth 100000 in
set_option maxHeartbeats 4000000 in
theorem do_1 {w : World} {S : Nat → Prop} {F : Nat} {st : St} (h : RepE w S F st) (x : Opx) (A : Option Addr) (d : Nat) (hs : Ss w A x.sc.length d x.sc) (hok : opOk x = true) (hm : MX w) (hBS : ∀ a, A = some a → 0 < x.sc.length → ¬ S a.block) (q0 : (x.call == 0) = false) (q1 : (x.call == 1) = true) (hr : doS st x = rot st x.tok x.nxt x.cl x.sc x.now) :
    Calls Try.prog 13 #[.pointer (some ⟨F, 0, none⟩), .agg #[.int .i64 x.call, .int .i64 x.now, .string x.id, .string x.tok, .string x.nxt, .string x.user, .string x.cl, .string x.ses, .slice A x.sc.length d]] w (DoIs w S F (doS st x)) := by
  obtain ⟨z1, z2, z3, z4, z5, z6, z7, z8⟩ := ok_parts hok
  have HH := Lib.hid h
  have HS := Lib.hid hs
  have HM := Lib.hid hm
  have HBS := Lib.hid hBS
  have HR := Lib.hid hr
  have HZ8 := Lib.hid z8
  clear h hs hm hBS hr z8 hok
  go_enter Try.func13, Try.ntmps13
  go_upto_region 1 with fail
  obtain ⟨wx, hwx⟩ : ∃ wx, wx = (w.alloc (.cells #[.int .i64 x.call, .int .i64 x.now, .string x.id, .string x.tok, .string x.nxt, .string x.user, .string x.cl, .string x.ses, .slice A x.sc.length d] 39)).alloc (.cells #[.string ⟨#[]⟩, .string ⟨#[]⟩, .string ⟨#[]⟩, .string ⟨#[]⟩, .string ⟨#[]⟩, .string ⟨#[]⟩, .string ⟨#[]⟩, .int .i64 0, .slice none 0 0, .int .i64 0, .int .i64 0] 35) := ⟨_, rfl⟩
  rw [← hwx]
  have HBX := Lib.hid (show Below w.heap.size w wx by rw [hwx]; go_grown)
  have HX3 := Lib.hid (show wx.heap[w.heap.size]? = some (.cells #[.int .i64 x.call, .int .i64 x.now, .string x.id, .string x.tok, .string x.nxt, .string x.user, .string x.cl, .string x.ses, .slice A x.sc.length d] 39 (0, 0)) by rw [hwx]; rw [Below.heap_alloc _ _ _ (by simp)]; exact heap_alloc_new _ _)
  have HZX := Lib.hid (show wx.heap[w.heap.size + 1]? = some (.cells #[.string ⟨#[]⟩, .string ⟨#[]⟩, .string ⟨#[]⟩, .string ⟨#[]⟩, .string ⟨#[]⟩, .string ⟨#[]⟩, .string ⟨#[]⟩, .int .i64 0, .slice none 0 0, .int .i64 0, .int .i64 0] 35 (0, 0)) by
    rw [hwx]
    have e : w.heap.size + 1 = (w.alloc (.cells #[.int .i64 x.call, .int .i64 x.now, .string x.id, .string x.tok, .string x.nxt, .string x.user, .string x.cl, .string x.ses, .slice A x.sc.length d] 39)).heap.size := by simp
    rw [e]; exact heap_alloc_new _ _)
  have HHX := Lib.hid (HH.out.below HBX.out)
  have HLT := Lib.hid HH.out.lt
  clear hwx
  have x0 := cell_block HX3.out 0
  have x1 := cell_block HX3.out 1
  have x3 := cell_block HX3.out 3
  have x4 := cell_block HX3.out 4
  have x6 := cell_block HX3.out 6
  have x8 := cell_block HX3.out 8
  simp only [List.getElem?_toArray, List.getElem?_cons_zero, List.getElem?_cons_succ] at x0 x1 x3 x4 x6 x8
  go_wp2_with fail
  refine (rotate_any HHX.out x.tok x.nxt x.cl x.sc A x.sc.length d x.now (by omega) (by omega) (HS.out.below HBX.out) HZ8.out (by omega) (HM.out.below HBX.out) HBS.out).mono ?_
  have HDO := HR.out
  generalize hrv : rot st x.tok x.nxt x.cl x.sc x.now = r at *
  rintro e w1 ⟨B', d', rfl, hss, hfr, hr1, hm1⟩
  have HFR := Lib.hid hfr
  have HSS := Lib.hid hss
  have HR1 := Lib.hid hr1
  have HM1 := Lib.hid hm1
  have HZ1 := Lib.hid ((HM1.out.block (w.heap.size + 1) (blk_lt HZX.out) (fun e => by have := HLT.out _ e; omega)).trans HZX.out)
  clear hss hfr hr1 hm1 hrv
  go_upto_region 6 with fail
  obtain ⟨wy, hwy⟩ : ∃ wy, wy = w1.alloc (.cells #[.string r.2.1.user, .string r.2.1.client, .string r.2.1.tenant, .string r.2.1.session, .string r.2.1.redirect, .string r.2.1.nonce, .string r.2.1.challenge, .int .i64 r.2.1.method, (.slice B' r.2.1.scopes.length d'), .int .i64 r.2.1.auth, .int .i64 r.2.1.level] 35) := ⟨_, rfl⟩
  rw [← hwy]
  have HBY := Lib.hid (show Below w1.heap.size w1 wy by rw [hwy]; go_grown)
  have HXY := Lib.hid (show wy.heap[w1.heap.size]? = some (.cells #[.string r.2.1.user, .string r.2.1.client, .string r.2.1.tenant, .string r.2.1.session, .string r.2.1.redirect, .string r.2.1.nonce, .string r.2.1.challenge, .int .i64 r.2.1.method, (.slice B' r.2.1.scopes.length d'), .int .i64 r.2.1.auth, .int .i64 r.2.1.level] 35 (0, 0)) by rw [hwy]; exact heap_alloc_new _ _)
  have HZY := Lib.hid ((HBY.out.block _ (blk_lt HZ1.out)).trans HZ1.out)
  clear hwy
  have u0 := cell_block HXY.out 0
  have u1 := cell_block HXY.out 1
  have u2 := cell_block HXY.out 2
  have u3 := cell_block HXY.out 3
  have u4 := cell_block HXY.out 4
  have u5 := cell_block HXY.out 5
  have u6 := cell_block HXY.out 6
  have u7 := cell_block HXY.out 7
  have u8 := cell_block HXY.out 8
  have u9 := cell_block HXY.out 9
  have u10 := cell_block HXY.out 10
  simp only [List.getElem?_toArray, List.getElem?_cons_zero, List.getElem?_cons_succ] at u0 u1 u2 u3 u4 u5 u6 u7 u8 u9 u10
  go_wp2_with (refine wpList_store_row rfl 35 (.tmp 4) (.tmp 47) rfl (w.heap.size + 1) #[.string r.2.1.user, .string r.2.1.client, .string r.2.1.tenant, .string r.2.1.session, .string r.2.1.redirect, .string r.2.1.nonce, .string r.2.1.challenge, .int .i64 r.2.1.method, (.slice B' r.2.1.scopes.length d'), .int .i64 r.2.1.auth, .int .i64 r.2.1.level] rfl rfl 35 _ HZY.out (by kernel_rfl) rfl (by simp [Value.oneCell']) ?_)
  obtain ⟨y0, y1, y2, y3, y4, y5, y6, y7, y8, y9, y10⟩ := cells11 (setRow_heap wy (w.heap.size + 1) _ #[.string r.2.1.user, .string r.2.1.client, .string r.2.1.tenant, .string r.2.1.session, .string r.2.1.redirect, .string r.2.1.nonce, .string r.2.1.challenge, .int .i64 r.2.1.method, (.slice B' r.2.1.scopes.length d'), .int .i64 r.2.1.auth, .int .i64 r.2.1.level] _ _ HZY.out)
  refine bodyPost_ret (v := .tuple #[.agg #[.string r.2.1.user, .string r.2.1.client, .string r.2.1.tenant, .string r.2.1.session, .string r.2.1.redirect, .string r.2.1.nonce, .string r.2.1.challenge, .int .i64 r.2.1.method, (.slice B' r.2.1.scopes.length d'), .int .i64 r.2.1.auth, .int .i64 r.2.1.level], .int .i64 r.2.2]) (by simp [results, Try.results13, go_sem, y0, y1, y2, y3, y4, y5, y6, y7, y8, y9, y10]) rfl ?_
  rw [HDO]
  exact rot_pass HBX.out HSS.out HFR.out HR1.out HM1.out HLT.out (blk_lt HZX.out) HZ1.out (fun k hk hne => (setRow_other _ _ _ _ hne).trans (HBY.out.block k hk)) (by rw [setRow_size]; exact HBY.out.size) HBY.out.os HBY.out.tape HBY.out.output
/-- Any call. -/
theorem do_any {w : World} {S : Nat → Prop} {F : Nat} {st : St} (h : RepE w S F st) (x : Opx) (A : Option Addr) (d : Nat) (hs : Ss w A x.sc.length d x.sc) (hok : opOk x = true) (hm : MX w) (hBS : ∀ a, A = some a → 0 < x.sc.length → ¬ S a.block) :
    Calls Try.prog 13 #[.pointer (some ⟨F, 0, none⟩), .agg #[.int .i64 x.call, .int .i64 x.now, .string x.id, .string x.tok, .string x.nxt, .string x.user, .string x.cl, .string x.ses, .slice A x.sc.length d]] w (DoIs w S F (doS st x)) := by
  have f : ∀ n : Int, x.call ≠ n → (x.call == n) = false := fun n h => beq_eq_false_iff_ne.2 h
  by_cases h0 : x.call = 0
  · exact do_0 h x A d hs hok hm hBS (by rw [h0]; rfl) (by unfold doS; rw [if_pos h0])
  · by_cases h1 : x.call = 1
    · exact do_1 h x A d hs hok hm hBS (f _ h0) (by rw [h1]; rfl) (by unfold doS; rw [if_neg h0, if_pos h1])
    · by_cases h2 : x.call = 2
      · exact do_2 h x A d hs hok hm hBS (f _ h0) (f _ h1) (by rw [h2]; rfl) (by unfold doS; rw [if_neg h0, if_neg h1, if_pos h2])
      · by_cases h3 : x.call = 3
        · exact do_3 h x A d hs hok hm hBS (f _ h0) (f _ h1) (f _ h2) (by rw [h3]; rfl) (by unfold doS; rw [if_neg h0, if_neg h1, if_neg h2, if_pos h3])
        · by_cases h4 : x.call = 4
          · exact do_4 h x A d hs hok hm hBS (f _ h0) (f _ h1) (f _ h2) (f _ h3) (by rw [h4]; rfl) (by unfold doS; rw [if_neg h0, if_neg h1, if_neg h2, if_neg h3, if_pos h4])
          · by_cases h5 : x.call = 5
            · exact do_5 h x A d hs hok hm hBS (f _ h0) (f _ h1) (f _ h2) (f _ h3) (f _ h4) (by rw [h5]; rfl) (by unfold doS; rw [if_neg h0, if_neg h1, if_neg h2, if_neg h3, if_neg h4, if_pos h5])
            · exact do_6 h x A d hs hok hm hBS (f _ h0) (f _ h1) (f _ h2) (f _ h3) (f _ h4) (f _ h5) (by unfold doS; rw [if_neg h0, if_neg h1, if_neg h2, if_neg h3, if_neg h4, if_neg h5])
theorem do_b {w : World} {T : Nat → Prop} {F : Nat} {st : St} (h : RepB w T F st) (hT : ∀ k, w.heap.size ≤ k → T k) (x : Opx) (A : Option Addr) (d : Nat) (hs : Ss w A x.sc.length d x.sc) (hok : opOk x = true) (hm : MX w) (hBS : ∀ a, A = some a → 0 < x.sc.length → ¬ T a.block) {r : St × (Gr × Int)} (hq : doS st x = r) :
    Calls Try.prog 13 #[.pointer (some ⟨F, 0, none⟩), .agg #[.int .i64 x.call, .int .i64 x.now, .string x.id, .string x.tok, .string x.nxt, .string x.user, .string x.cl, .string x.ses, .slice A x.sc.length d]] w fun e w' => ∃ A d, e = .returned (.tuple #[.agg #[.string r.2.1.user, .string r.2.1.client, .string r.2.1.tenant, .string r.2.1.session, .string r.2.1.redirect, .string r.2.1.nonce, .string r.2.1.challenge, .int .i64 r.2.1.method, (.slice A r.2.1.scopes.length d), .int .i64 r.2.1.auth, .int .i64 r.2.1.level], .int .i64 r.2.2]) ∧ Ss w' A r.2.1.scopes.length d r.2.1.scopes ∧ (∀ a, A = some a → 0 < r.2.1.scopes.length → w.heap.size ≤ a.block) ∧ RepB w' T F r.1 ∧ Mods T w w' := by
  obtain ⟨S, h, hS⟩ := h
  subst hq
  refine (do_any h x A d hs hok hm (fun a h1 h2 h3 => hBS a h1 h2 (hS _ h3))).mono ?_
  rintro e w' ⟨A, d', h1, h2, h3, h4, h5⟩
  exact ⟨A, d', h1, h2, h3, ⟨_, h4, grow_T hS hT⟩, h5.mono hS⟩
end Go.Proofs.Ytfeljihbaekfmaa.Rf
