/-
  play, for calls that neither start a flow nor approve one.
-/
import Derived.Test.YtapooonlbjgbgaaDoorDvL2
namespace Go.Proofs.YtapooonlbjgbgaaDoor.Dv
open Go.RowKit Go.Proofs.YtapooonlbjgbgaaDoor.Fo Go.Proofs.YtapooonlbjgbgaaDoor.Rf

/-- What play answers. -/
def plD (st : Fs) (x : Opd) : Fs × (Gr × Bool) :=
  if x.kind = 3 then ((den st x.user x.now).1, (noG, false))
  else if x.kind = 4 then ((pol st x.dev x.cl x.now).1, ((pol st x.dev x.cl x.now).2.1, decide ((pol st x.dev x.cl x.now).2.2 = 0)))
  else (st, (noG, false))
def PlIs (w : World) (T : Nat → Prop) (F : Nat) (r : Fs × (Gr × Bool)) (e : Ending) (w' : World) : Prop :=
  ∃ A d, e = .returned (.tuple #[.agg #[.string r.2.1.user, .string r.2.1.client, .string r.2.1.tenant, .string r.2.1.session, .string r.2.1.redirect, .string r.2.1.nonce, .string r.2.1.challenge, .int .i64 r.2.1.method, .slice A r.2.1.scopes.length d, .int .i64 r.2.1.auth, .int .i64 r.2.1.level], .bool r.2.2]) ∧ Fresh w' w.heap.size A d r.2.1.scopes ∧ RepB w' T F r.1 ∧ Mods T w w'
theorem pl_no {w w' : World} {T : Nat → Prop} {F : Nat} {st' : Fs} {r : Fs × (Gr × Bool)} (hr : r = (st', (noG, false))) (h : RepB w' T F st') (hm : Mods T w w') : PlIs w T F r (.returned (.tuple #[.agg #[.string ⟨#[]⟩, .string ⟨#[]⟩, .string ⟨#[]⟩, .string ⟨#[]⟩, .string ⟨#[]⟩, .string ⟨#[]⟩, .string ⟨#[]⟩, .int .i64 0, .slice none 0 0, .int .i64 0, .int .i64 0], .bool false])) w' := by
  subst hr
  exact ⟨none, 0, rfl, fresh_nil _ _, h, hm⟩
theorem pl_row {w wa : World} {T : Nat → Prop} {F q : Nat} {st' : Fs} {g : Gr} {b : Bool} {r : Fs × (Gr × Bool)} {B : Option Addr} {d : Nat} (hr : r = (st', (g, b))) (hq : w.heap.size ≤ q) (h : RepB wa (fun k => T k ∧ ¬ k = q) F st') (hm : Mods T w wa) (hf : Fresh wa (q + 1) B d g.scopes) (cs : Array Value) :
    PlIs w T F r (.returned (.tuple #[.agg #[.string g.user, .string g.client, .string g.tenant, .string g.session, .string g.redirect, .string g.nonce, .string g.challenge, .int .i64 g.method, .slice B g.scopes.length d, .int .i64 g.auth, .int .i64 g.level], .bool b])) (wa.setRow q cs) := by
  subst hr
  refine ⟨B, d, rfl, ⟨ss_keep (S := fun k => q + 1 ≤ k) hf.1 (fun a ha hn => hf.2 a ha hn) (fun k hk => setRow_other wa q k cs (by omega)) (by rw [setRow_size]; exact Nat.le_refl _), fun a ha hn => by have := hf.2 a ha hn; omega⟩, (h.keep (fun k hk ht => setRow_other wa q k cs ht.2) (by rw [setRow_size]; exact Nat.le_refl _)).mono (fun k _ e => e.1), ⟨hm.os, hm.tape, hm.output, by rw [setRow_size]; exact hm.size, fun k hk hn => (setRow_other wa q k cs (by omega)).trans (hm.block k hk hn)⟩⟩
set_option maxRecDepth 100000 in
set_option maxHeartbeats 8000000 in
theorem play_any {w : World} {T : Nat → Prop} {F : Nat} {st : Fs} (h : RepB w T F st) (hT : ∀ k, w.heap.size ≤ k → T k) (x : Opd) (A : Option Addr) (c : Nat) (B : Option Addr) (d : Nat) (hm : MX w) (hcap : st.cap ≤ 576460752303423488) (hu : x.user.size ≤ 100000) (hd : x.dev.size ≤ 100000) (h0 : x.kind ≠ 0) (h2 : x.kind ≠ 2) {r : Fs × (Gr × Bool)} (hp : plD st x = r) :
    Calls Tryd.prog 36 #[.pointer (some ⟨F, 0, none⟩), .agg #[.int .i64 x.kind, .string x.dev, .string x.user, .string x.cl, .slice B x.sc.length d, .string x.g.user, .string x.g.client, .string x.g.tenant, .string x.g.session, .string x.g.redirect, .string x.g.nonce, .string x.g.challenge, .int .i64 x.g.method, .slice A x.g.scopes.length c, .int .i64 x.g.auth, .int .i64 x.g.level, .int .i64 x.now]] w (PlIs w T F r) := by
  have h0b : (x.kind == 0) = false := beq_eq_false_iff_ne.2 h0
  have h2b : (x.kind == 2) = false := beq_eq_false_iff_ne.2 h2
  by_cases k1 : x.kind = 1
  · have K1 := Lib.hid k1
    have hr : r = (st, (noG, false)) := by rw [← hp]; unfold plD; rw [if_neg (by omega), if_neg (by omega)]
    have HRR := Lib.hid hr
    clear hr k1
    obtain ⟨w1, hw1⟩ : ∃ w', w' = (w.alloc (.cells #[.int .i64 x.kind, .string x.dev, .string x.user, .string x.cl, .slice B x.sc.length d, .string x.g.user, .string x.g.client, .string x.g.tenant, .string x.g.session, .string x.g.redirect, .string x.g.nonce, .string x.g.challenge, .int .i64 x.g.method, .slice A x.g.scopes.length c, .int .i64 x.g.auth, .int .i64 x.g.level, .int .i64 x.now] 41)).alloc (.cells #[.string ⟨#[]⟩, .string ⟨#[]⟩, .string ⟨#[]⟩, .string ⟨#[]⟩, .string ⟨#[]⟩, .string ⟨#[]⟩, .string ⟨#[]⟩, .int .i64 0, .slice none 0 0, .int .i64 0, .int .i64 0] 39) := ⟨_, rfl⟩
    have hb1 : Below w.heap.size w w1 := by rw [hw1]; go_grown
    have hz1 : w1.heap[w.heap.size + 1]? = some (.cells #[.string ⟨#[]⟩, .string ⟨#[]⟩, .string ⟨#[]⟩, .string ⟨#[]⟩, .string ⟨#[]⟩, .string ⟨#[]⟩, .string ⟨#[]⟩, .int .i64 0, .slice none 0 0, .int .i64 0, .int .i64 0] 39 (0, 0)) := by
      rw [hw1, show w.heap.size + 1 = (w.alloc (.cells #[.int .i64 x.kind, .string x.dev, .string x.user, .string x.cl, .slice B x.sc.length d, .string x.g.user, .string x.g.client, .string x.g.tenant, .string x.g.session, .string x.g.redirect, .string x.g.nonce, .string x.g.challenge, .int .i64 x.g.method, .slice A x.g.scopes.length c, .int .i64 x.g.auth, .int .i64 x.g.level, .int .i64 x.now] 41)).heap.size from (Array.size_push ..).symm]
      exact heap_alloc_new _ _
    have hx1 : w1.heap[w.heap.size]? = some (.cells #[.int .i64 x.kind, .string x.dev, .string x.user, .string x.cl, .slice B x.sc.length d, .string x.g.user, .string x.g.client, .string x.g.tenant, .string x.g.session, .string x.g.redirect, .string x.g.nonce, .string x.g.challenge, .int .i64 x.g.method, .slice A x.g.scopes.length c, .int .i64 x.g.auth, .int .i64 x.g.level, .int .i64 x.now] 41 (0, 0)) := by
      rw [hw1]
      exact blk_below (show Below (w.alloc (.cells #[.int .i64 x.kind, .string x.dev, .string x.user, .string x.cl, .slice B x.sc.length d, .string x.g.user, .string x.g.client, .string x.g.tenant, .string x.g.session, .string x.g.redirect, .string x.g.nonce, .string x.g.challenge, .int .i64 x.g.method, .slice A x.g.scopes.length c, .int .i64 x.g.auth, .int .i64 x.g.level, .int .i64 x.now] 41)).heap.size _ _ by go_grown) (heap_alloc_new _ _)
    have HB1 := Lib.hid hb1
    have HZ1 := Lib.hid hz1
    have HX1 := Lib.hid hx1
    have HR1 := Lib.hid ((h.mono (T' := fun k => T k ∧ k < w.heap.size) (fun k hk e => ⟨e, hk⟩)).below hb1)
    have HT := Lib.hid hT
    have HM := Lib.hid (hm.below hb1)
    have HP := Lib.hid hp
    clear hb1 hz1 hx1 h hT hm hp
    go_enter Tryd.func36, Tryd.ntmps36
    go_upto_region 1 with fail
    rw [← hw1]
    clear hw1
    obtain ⟨z0, z1, z2, z3, z4, z5, z6, z7, z8, z9, z10, z11, z12, z13, z14, z15, z16⟩ := cells17 HX1.out
    have k1 := K1.out
    have k1b : (x.kind == 1) = true := by rw [k1]; rfl
    go_wp2_with fail
    refine (pen_b HR1.out x.user hu x.now HM.out rfl).mono ?_
    rintro e w2 ⟨A2, d2, rfl, _, hb⟩
    have HB2 := Lib.hid (HB1.out.trans (hb.mono HB1.out.size))
    have HR2 := Lib.hid (HR1.out.below hb)
    have HZ2 := Lib.hid (blk_below hb HZ1.out)
    clear hb z0 z1 z2 z3 z4 z5 z6 z7 z8 z9 z10 z11 z12 z13 z14 z15 z16
    go_wp2_with (refine wpList_store_row rfl 39 (.tmp 4) (.tmp 66) rfl (w.heap.size + 1) #[.string ⟨#[]⟩, .string ⟨#[]⟩, .string ⟨#[]⟩, .string ⟨#[]⟩, .string ⟨#[]⟩, .string ⟨#[]⟩, .string ⟨#[]⟩, .int .i64 0, .slice none 0 0, .int .i64 0, .int .i64 0] rfl rfl 39 _ HZ2.out (by kernel_rfl) rfl (by kernel_rfl) ?_)
    obtain ⟨y0, y1, y2, y3, y4, y5, y6, y7, y8, y9, y10⟩ := cells11 (setRow_heap w2 (w.heap.size + 1) _ #[.string ⟨#[]⟩, .string ⟨#[]⟩, .string ⟨#[]⟩, .string ⟨#[]⟩, .string ⟨#[]⟩, .string ⟨#[]⟩, .string ⟨#[]⟩, .int .i64 0, .slice none 0 0, .int .i64 0, .int .i64 0] _ _ HZ2.out)
    refine bodyPost_ret (v := .tuple #[.agg #[.string ⟨#[]⟩, .string ⟨#[]⟩, .string ⟨#[]⟩, .string ⟨#[]⟩, .string ⟨#[]⟩, .string ⟨#[]⟩, .string ⟨#[]⟩, .int .i64 0, .slice none 0 0, .int .i64 0, .int .i64 0], .bool false]) (by simp [results, Tryd.results36, go_sem, y0, y1, y2, y3, y4, y5, y6, y7, y8, y9, y10]) rfl ?_
    rw [setRow_self _ _ _ _ _ HZ2.out]
    exact pl_no HRR.out (HR2.out.mono (fun k _ e => e.1)) (Mods.of_below T HB2.out)
  · have k1b : (x.kind == 1) = false := beq_eq_false_iff_ne.2 k1
    by_cases k3 : x.kind = 3
    · have K3 := Lib.hid k3
      obtain ⟨⟨st', er⟩, hq⟩ : ∃ q, den st x.user x.now = q := ⟨_, rfl⟩
      have hr : r = (st', (noG, false)) := by rw [← hp]; unfold plD; rw [if_pos k3, hq]
      have HRR := Lib.hid hr
      have HQ := Lib.hid hq
      clear hr hq k3
      obtain ⟨w1, hw1⟩ : ∃ w', w' = (w.alloc (.cells #[.int .i64 x.kind, .string x.dev, .string x.user, .string x.cl, .slice B x.sc.length d, .string x.g.user, .string x.g.client, .string x.g.tenant, .string x.g.session, .string x.g.redirect, .string x.g.nonce, .string x.g.challenge, .int .i64 x.g.method, .slice A x.g.scopes.length c, .int .i64 x.g.auth, .int .i64 x.g.level, .int .i64 x.now] 41)).alloc (.cells #[.string ⟨#[]⟩, .string ⟨#[]⟩, .string ⟨#[]⟩, .string ⟨#[]⟩, .string ⟨#[]⟩, .string ⟨#[]⟩, .string ⟨#[]⟩, .int .i64 0, .slice none 0 0, .int .i64 0, .int .i64 0] 39) := ⟨_, rfl⟩
      have hb1 : Below w.heap.size w w1 := by rw [hw1]; go_grown
      have hz1 : w1.heap[w.heap.size + 1]? = some (.cells #[.string ⟨#[]⟩, .string ⟨#[]⟩, .string ⟨#[]⟩, .string ⟨#[]⟩, .string ⟨#[]⟩, .string ⟨#[]⟩, .string ⟨#[]⟩, .int .i64 0, .slice none 0 0, .int .i64 0, .int .i64 0] 39 (0, 0)) := by
        rw [hw1, show w.heap.size + 1 = (w.alloc (.cells #[.int .i64 x.kind, .string x.dev, .string x.user, .string x.cl, .slice B x.sc.length d, .string x.g.user, .string x.g.client, .string x.g.tenant, .string x.g.session, .string x.g.redirect, .string x.g.nonce, .string x.g.challenge, .int .i64 x.g.method, .slice A x.g.scopes.length c, .int .i64 x.g.auth, .int .i64 x.g.level, .int .i64 x.now] 41)).heap.size from (Array.size_push ..).symm]
        exact heap_alloc_new _ _
      have hx1 : w1.heap[w.heap.size]? = some (.cells #[.int .i64 x.kind, .string x.dev, .string x.user, .string x.cl, .slice B x.sc.length d, .string x.g.user, .string x.g.client, .string x.g.tenant, .string x.g.session, .string x.g.redirect, .string x.g.nonce, .string x.g.challenge, .int .i64 x.g.method, .slice A x.g.scopes.length c, .int .i64 x.g.auth, .int .i64 x.g.level, .int .i64 x.now] 41 (0, 0)) := by
        rw [hw1]
        exact blk_below (show Below (w.alloc (.cells #[.int .i64 x.kind, .string x.dev, .string x.user, .string x.cl, .slice B x.sc.length d, .string x.g.user, .string x.g.client, .string x.g.tenant, .string x.g.session, .string x.g.redirect, .string x.g.nonce, .string x.g.challenge, .int .i64 x.g.method, .slice A x.g.scopes.length c, .int .i64 x.g.auth, .int .i64 x.g.level, .int .i64 x.now] 41)).heap.size _ _ by go_grown) (heap_alloc_new _ _)
      have HB1 := Lib.hid hb1
      have HZ1 := Lib.hid hz1
      have HX1 := Lib.hid hx1
      have HR1 := Lib.hid ((h.mono (T' := fun k => T k ∧ k < w.heap.size) (fun k hk e => ⟨e, hk⟩)).below hb1)
      have HT := Lib.hid hT
      have HM := Lib.hid (hm.below hb1)
      have HP := Lib.hid hp
      clear hb1 hz1 hx1 h hT hm hp
      go_enter Tryd.func36, Tryd.ntmps36
      go_upto_region 1 with fail
      rw [← hw1]
      clear hw1
      obtain ⟨z0, z1, z2, z3, z4, z5, z6, z7, z8, z9, z10, z11, z12, z13, z14, z15, z16⟩ := cells17 HX1.out
      have k3 := K3.out
      have k3b : (x.kind == 3) = true := by rw [k3]; rfl
      go_wp2_with fail
      refine (den_b (T := fun k => T k ∧ ¬ k = w.heap.size + 1) (HR1.out.mono (fun k _ e => ⟨e.1, by omega⟩)) (fun k e => ⟨HT.out k (Nat.le_trans HB1.out.size e), by have := blk_lt HZ1.out; omega⟩) x.user hu x.now HQ.out HM.out).mono ?_
      rintro e w2 ⟨rfl, hr, hmd⟩
      have HR2 := Lib.hid hr
      have HZ2 := Lib.hid (blk_mods hmd HZ1.out (fun e => e.2 rfl))
      have HM2 := Lib.hid (mods_pre HB1.out (Mods.mono' hmd (fun k e => e.1)))
      clear hr hmd z0 z1 z2 z3 z4 z5 z6 z7 z8 z9 z10 z11 z12 z13 z14 z15 z16
      go_wp2_with (refine wpList_store_row rfl 39 (.tmp 4) (.tmp 66) rfl (w.heap.size + 1) #[.string ⟨#[]⟩, .string ⟨#[]⟩, .string ⟨#[]⟩, .string ⟨#[]⟩, .string ⟨#[]⟩, .string ⟨#[]⟩, .string ⟨#[]⟩, .int .i64 0, .slice none 0 0, .int .i64 0, .int .i64 0] rfl rfl 39 _ HZ2.out (by kernel_rfl) rfl (by kernel_rfl) ?_)
      obtain ⟨y0, y1, y2, y3, y4, y5, y6, y7, y8, y9, y10⟩ := cells11 (setRow_heap w2 (w.heap.size + 1) _ #[.string ⟨#[]⟩, .string ⟨#[]⟩, .string ⟨#[]⟩, .string ⟨#[]⟩, .string ⟨#[]⟩, .string ⟨#[]⟩, .string ⟨#[]⟩, .int .i64 0, .slice none 0 0, .int .i64 0, .int .i64 0] _ _ HZ2.out)
      refine bodyPost_ret (v := .tuple #[.agg #[.string ⟨#[]⟩, .string ⟨#[]⟩, .string ⟨#[]⟩, .string ⟨#[]⟩, .string ⟨#[]⟩, .string ⟨#[]⟩, .string ⟨#[]⟩, .int .i64 0, .slice none 0 0, .int .i64 0, .int .i64 0], .bool false]) (by simp [results, Tryd.results36, go_sem, y0, y1, y2, y3, y4, y5, y6, y7, y8, y9, y10]) rfl ?_
      rw [setRow_self _ _ _ _ _ HZ2.out]
      exact pl_no HRR.out (HR2.out.mono (fun k _ e => e.1)) HM2.out
    · have k3b : (x.kind == 3) = false := beq_eq_false_iff_ne.2 k3
      by_cases k4 : x.kind = 4
      · have K4 := Lib.hid k4
        obtain ⟨⟨st', g, er⟩, hq⟩ : ∃ q, pol st x.dev x.cl x.now = q := ⟨_, rfl⟩
        have hr : r = (st', (g, decide (er = 0))) := by rw [← hp]; unfold plD; rw [if_neg k3, if_pos k4, hq]
        have HRR := Lib.hid hr
        have HQ := Lib.hid hq
        clear hr hq k4
        obtain ⟨w1, hw1⟩ : ∃ w', w' = (w.alloc (.cells #[.int .i64 x.kind, .string x.dev, .string x.user, .string x.cl, .slice B x.sc.length d, .string x.g.user, .string x.g.client, .string x.g.tenant, .string x.g.session, .string x.g.redirect, .string x.g.nonce, .string x.g.challenge, .int .i64 x.g.method, .slice A x.g.scopes.length c, .int .i64 x.g.auth, .int .i64 x.g.level, .int .i64 x.now] 41)).alloc (.cells #[.string ⟨#[]⟩, .string ⟨#[]⟩, .string ⟨#[]⟩, .string ⟨#[]⟩, .string ⟨#[]⟩, .string ⟨#[]⟩, .string ⟨#[]⟩, .int .i64 0, .slice none 0 0, .int .i64 0, .int .i64 0] 39) := ⟨_, rfl⟩
        have hb1 : Below w.heap.size w w1 := by rw [hw1]; go_grown
        have hz1 : w1.heap[w.heap.size + 1]? = some (.cells #[.string ⟨#[]⟩, .string ⟨#[]⟩, .string ⟨#[]⟩, .string ⟨#[]⟩, .string ⟨#[]⟩, .string ⟨#[]⟩, .string ⟨#[]⟩, .int .i64 0, .slice none 0 0, .int .i64 0, .int .i64 0] 39 (0, 0)) := by
          rw [hw1, show w.heap.size + 1 = (w.alloc (.cells #[.int .i64 x.kind, .string x.dev, .string x.user, .string x.cl, .slice B x.sc.length d, .string x.g.user, .string x.g.client, .string x.g.tenant, .string x.g.session, .string x.g.redirect, .string x.g.nonce, .string x.g.challenge, .int .i64 x.g.method, .slice A x.g.scopes.length c, .int .i64 x.g.auth, .int .i64 x.g.level, .int .i64 x.now] 41)).heap.size from (Array.size_push ..).symm]
          exact heap_alloc_new _ _
        have hx1 : w1.heap[w.heap.size]? = some (.cells #[.int .i64 x.kind, .string x.dev, .string x.user, .string x.cl, .slice B x.sc.length d, .string x.g.user, .string x.g.client, .string x.g.tenant, .string x.g.session, .string x.g.redirect, .string x.g.nonce, .string x.g.challenge, .int .i64 x.g.method, .slice A x.g.scopes.length c, .int .i64 x.g.auth, .int .i64 x.g.level, .int .i64 x.now] 41 (0, 0)) := by
          rw [hw1]
          exact blk_below (show Below (w.alloc (.cells #[.int .i64 x.kind, .string x.dev, .string x.user, .string x.cl, .slice B x.sc.length d, .string x.g.user, .string x.g.client, .string x.g.tenant, .string x.g.session, .string x.g.redirect, .string x.g.nonce, .string x.g.challenge, .int .i64 x.g.method, .slice A x.g.scopes.length c, .int .i64 x.g.auth, .int .i64 x.g.level, .int .i64 x.now] 41)).heap.size _ _ by go_grown) (heap_alloc_new _ _)
        have HB1 := Lib.hid hb1
        have HZ1 := Lib.hid hz1
        have HX1 := Lib.hid hx1
        have HR1 := Lib.hid ((h.mono (T' := fun k => T k ∧ k < w.heap.size) (fun k hk e => ⟨e, hk⟩)).below hb1)
        have HT := Lib.hid hT
        have HM := Lib.hid (hm.below hb1)
        have HP := Lib.hid hp
        clear hb1 hz1 hx1 h hT hm hp
        go_enter Tryd.func36, Tryd.ntmps36
        go_upto_region 1 with fail
        rw [← hw1]
        clear hw1
        obtain ⟨z0, z1, z2, z3, z4, z5, z6, z7, z8, z9, z10, z11, z12, z13, z14, z15, z16⟩ := cells17 HX1.out
        have k4 := K4.out
        have k4b : (x.kind == 4) = true := by rw [k4]; rfl
        go_wp2_with fail
        refine (pol_b HR1.out x.dev x.cl hd x.now hcap HQ.out).mono ?_
        rintro e w2 ⟨A2, d2, rfl, hf, hr, hmd⟩
        have HF2 := Lib.hid hf
        have HR2 := Lib.hid (hr.mono (T' := fun k => T k ∧ ¬ k = w.heap.size + 1) (fun k _ e => ⟨e.1.1, by have := e.1.2; omega⟩))
        have HZ2 := Lib.hid (blk_mods hmd HZ1.out (fun e => by have := e.2; omega))
        have HM2 := Lib.hid (mods_pre HB1.out (Mods.mono' hmd (fun k e => e.1)))
        clear hr hmd hf z0 z1 z2 z3 z4 z5 z6 z7 z8 z9 z10 z11 z12 z13 z14 z15 z16
        go_upto_region 12 with fail
        obtain ⟨w3, hw⟩ : ∃ w', w' = w2.alloc (.cells #[.string g.user, .string g.client, .string g.tenant, .string g.session, .string g.redirect, .string g.nonce, .string g.challenge, .int .i64 g.method, .slice A2 g.scopes.length d2, .int .i64 g.auth, .int .i64 g.level] 39) := ⟨_, rfl⟩
        have hb : Below w2.heap.size w2 w3 := by rw [hw]; go_grown
        have HG := Lib.hid (show w3.heap[w2.heap.size]? = some (.cells #[.string g.user, .string g.client, .string g.tenant, .string g.session, .string g.redirect, .string g.nonce, .string g.challenge, .int .i64 g.method, .slice A2 g.scopes.length d2, .int .i64 g.auth, .int .i64 g.level] 39 (0, 0)) by rw [hw]; exact heap_alloc_new _ _)
        rw [← hw]
        have HR3 := Lib.hid (HR2.out.below hb)
        have HZ3 := Lib.hid (blk_below hb HZ2.out)
        have HM3 := Lib.hid (HM2.out.below hb)
        have HF3 := Lib.hid ((HF2.out.below hb).mono (blk_lt HZ1.out))
        clear hw hb
        obtain ⟨u0, u1, u2, u3, u4, u5, u6, u7, u8, u9, u10⟩ := cells11 HG.out
        have HRI := Lib.hid (pl_row HRR.out (Nat.le_succ w.heap.size) HR3.out HM3.out HF3.out #[.string g.user, .string g.client, .string g.tenant, .string g.session, .string g.redirect, .string g.nonce, .string g.challenge, .int .i64 g.method, .slice A2 g.scopes.length d2, .int .i64 g.auth, .int .i64 g.level])
        go_wp2_with (refine wpList_store_row rfl 39 (.tmp 4) (.tmp 63) rfl (w.heap.size + 1) #[.string g.user, .string g.client, .string g.tenant, .string g.session, .string g.redirect, .string g.nonce, .string g.challenge, .int .i64 g.method, .slice A2 g.scopes.length d2, .int .i64 g.auth, .int .i64 g.level] rfl rfl 39 _ HZ3.out (by kernel_rfl) rfl (by simp [Value.oneCell']) ?_)
        obtain ⟨y0, y1, y2, y3, y4, y5, y6, y7, y8, y9, y10⟩ := cells11 (setRow_heap w3 (w.heap.size + 1) _ #[.string g.user, .string g.client, .string g.tenant, .string g.session, .string g.redirect, .string g.nonce, .string g.challenge, .int .i64 g.method, .slice A2 g.scopes.length d2, .int .i64 g.auth, .int .i64 g.level] _ _ HZ3.out)
        refine bodyPost_ret (v := .tuple #[.agg #[.string g.user, .string g.client, .string g.tenant, .string g.session, .string g.redirect, .string g.nonce, .string g.challenge, .int .i64 g.method, .slice A2 g.scopes.length d2, .int .i64 g.auth, .int .i64 g.level], .bool (decide (er = 0))]) (by simp [results, Tryd.results36, go_sem, y0, y1, y2, y3, y4, y5, y6, y7, y8, y9, y10]; exact Bool.eq_iff_iff.2 (by simp)) rfl ?_
        exact HRI.out
      · have k4b : (x.kind == 4) = false := beq_eq_false_iff_ne.2 k4
        have hr : r = (st, (noG, false)) := by rw [← hp]; unfold plD; rw [if_neg k3, if_neg k4]
        have HRR := Lib.hid hr
        clear hr
        obtain ⟨w1, hw1⟩ : ∃ w', w' = (w.alloc (.cells #[.int .i64 x.kind, .string x.dev, .string x.user, .string x.cl, .slice B x.sc.length d, .string x.g.user, .string x.g.client, .string x.g.tenant, .string x.g.session, .string x.g.redirect, .string x.g.nonce, .string x.g.challenge, .int .i64 x.g.method, .slice A x.g.scopes.length c, .int .i64 x.g.auth, .int .i64 x.g.level, .int .i64 x.now] 41)).alloc (.cells #[.string ⟨#[]⟩, .string ⟨#[]⟩, .string ⟨#[]⟩, .string ⟨#[]⟩, .string ⟨#[]⟩, .string ⟨#[]⟩, .string ⟨#[]⟩, .int .i64 0, .slice none 0 0, .int .i64 0, .int .i64 0] 39) := ⟨_, rfl⟩
        have hb1 : Below w.heap.size w w1 := by rw [hw1]; go_grown
        have hz1 : w1.heap[w.heap.size + 1]? = some (.cells #[.string ⟨#[]⟩, .string ⟨#[]⟩, .string ⟨#[]⟩, .string ⟨#[]⟩, .string ⟨#[]⟩, .string ⟨#[]⟩, .string ⟨#[]⟩, .int .i64 0, .slice none 0 0, .int .i64 0, .int .i64 0] 39 (0, 0)) := by
          rw [hw1, show w.heap.size + 1 = (w.alloc (.cells #[.int .i64 x.kind, .string x.dev, .string x.user, .string x.cl, .slice B x.sc.length d, .string x.g.user, .string x.g.client, .string x.g.tenant, .string x.g.session, .string x.g.redirect, .string x.g.nonce, .string x.g.challenge, .int .i64 x.g.method, .slice A x.g.scopes.length c, .int .i64 x.g.auth, .int .i64 x.g.level, .int .i64 x.now] 41)).heap.size from (Array.size_push ..).symm]
          exact heap_alloc_new _ _
        have hx1 : w1.heap[w.heap.size]? = some (.cells #[.int .i64 x.kind, .string x.dev, .string x.user, .string x.cl, .slice B x.sc.length d, .string x.g.user, .string x.g.client, .string x.g.tenant, .string x.g.session, .string x.g.redirect, .string x.g.nonce, .string x.g.challenge, .int .i64 x.g.method, .slice A x.g.scopes.length c, .int .i64 x.g.auth, .int .i64 x.g.level, .int .i64 x.now] 41 (0, 0)) := by
          rw [hw1]
          exact blk_below (show Below (w.alloc (.cells #[.int .i64 x.kind, .string x.dev, .string x.user, .string x.cl, .slice B x.sc.length d, .string x.g.user, .string x.g.client, .string x.g.tenant, .string x.g.session, .string x.g.redirect, .string x.g.nonce, .string x.g.challenge, .int .i64 x.g.method, .slice A x.g.scopes.length c, .int .i64 x.g.auth, .int .i64 x.g.level, .int .i64 x.now] 41)).heap.size _ _ by go_grown) (heap_alloc_new _ _)
        have HB1 := Lib.hid hb1
        have HZ1 := Lib.hid hz1
        have HX1 := Lib.hid hx1
        have HR1 := Lib.hid ((h.mono (T' := fun k => T k ∧ k < w.heap.size) (fun k hk e => ⟨e, hk⟩)).below hb1)
        have HT := Lib.hid hT
        have HM := Lib.hid (hm.below hb1)
        have HP := Lib.hid hp
        clear hb1 hz1 hx1 h hT hm hp
        go_enter Tryd.func36, Tryd.ntmps36
        go_upto_region 1 with fail
        rw [← hw1]
        clear hw1
        obtain ⟨z0, z1, z2, z3, z4, z5, z6, z7, z8, z9, z10, z11, z12, z13, z14, z15, z16⟩ := cells17 HX1.out
        go_wp2_with (refine wpList_store_row rfl 39 (.tmp 4) (.tmp 66) rfl (w.heap.size + 1) #[.string ⟨#[]⟩, .string ⟨#[]⟩, .string ⟨#[]⟩, .string ⟨#[]⟩, .string ⟨#[]⟩, .string ⟨#[]⟩, .string ⟨#[]⟩, .int .i64 0, .slice none 0 0, .int .i64 0, .int .i64 0] rfl rfl 39 _ HZ1.out (by kernel_rfl) rfl (by kernel_rfl) ?_)
        obtain ⟨y0, y1, y2, y3, y4, y5, y6, y7, y8, y9, y10⟩ := cells11 (setRow_heap w1 (w.heap.size + 1) _ #[.string ⟨#[]⟩, .string ⟨#[]⟩, .string ⟨#[]⟩, .string ⟨#[]⟩, .string ⟨#[]⟩, .string ⟨#[]⟩, .string ⟨#[]⟩, .int .i64 0, .slice none 0 0, .int .i64 0, .int .i64 0] _ _ HZ1.out)
        refine bodyPost_ret (v := .tuple #[.agg #[.string ⟨#[]⟩, .string ⟨#[]⟩, .string ⟨#[]⟩, .string ⟨#[]⟩, .string ⟨#[]⟩, .string ⟨#[]⟩, .string ⟨#[]⟩, .int .i64 0, .slice none 0 0, .int .i64 0, .int .i64 0], .bool false]) (by simp [results, Tryd.results36, go_sem, y0, y1, y2, y3, y4, y5, y6, y7, y8, y9, y10]) rfl ?_
        rw [setRow_self _ _ _ _ _ HZ1.out]
        exact pl_no HRR.out (HR1.out.mono (fun k _ e => e.1)) (Mods.of_below T HB1.out)
end Go.Proofs.YtapooonlbjgbgaaDoor.Dv
