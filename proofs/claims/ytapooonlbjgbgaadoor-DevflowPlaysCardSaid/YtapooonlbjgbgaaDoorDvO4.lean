/-
  Poll.
-/
import Derived.Test.YtapooonlbjgbgaaDoorDvO3
import Derived.Deep.MidRow
namespace Go.Proofs.YtapooonlbjgbgaaDoor.Dv
open Go.RowKit Go.Proofs.YtapooonlbjgbgaaDoor.Fo Go.Proofs.YtapooonlbjgbgaaDoor.Rf Go.Maps

/-- A grant and an error come back, the flows have turned; they lie where they lay. -/
def PolIs (w : World) (S : Nat → Prop) (F : Nat) (r : Fs × (Gr × Int)) (e : Ending) (w' : World) : Prop :=
  ∃ A d, e = .returned (.tuple #[.agg #[.string r.2.1.user, .string r.2.1.client, .string r.2.1.tenant, .string r.2.1.session, .string r.2.1.redirect, .string r.2.1.nonce, .string r.2.1.challenge, .int .i64 r.2.1.method, .slice A r.2.1.scopes.length d, .int .i64 r.2.1.auth, .int .i64 r.2.1.level], .int .i64 r.2.2]) ∧ Fresh w' w.heap.size A d r.2.1.scopes ∧ RepE w' S F r.1 ∧ Mods S w w'
theorem pol_fin {w w' : World} {S : Nat → Prop} {F : Nat} {st' : Fs} {k : Int} {r : Fs × (Gr × Int)} (hr : r = (st', (noG, k))) (h : RepE w' S F st') (hm : Mods S w w') : PolIs w S F r (.returned (.tuple #[.agg #[.string ⟨#[]⟩, .string ⟨#[]⟩, .string ⟨#[]⟩, .string ⟨#[]⟩, .string ⟨#[]⟩, .string ⟨#[]⟩, .string ⟨#[]⟩, .int .i64 0, .slice none 0 0, .int .i64 0, .int .i64 0], .int .i64 k])) w' := by
  subst hr
  exact ⟨none, 0, rfl, fresh_nil _ _, h, hm⟩
theorem pol_none {st : Fs} {d c : Bs} {now : Int} (h : cdI st.l d = none) : pol st d c now = (st, (noG, 6)) := by unfold pol; rw [h]
theorem pol_at {st : Fs} {d c : Bs} {now : Int} {i : Nat} {x : Fw} (h : cdI st.l d = some i) (hx : st.l[i]? = some x) {k : Int} (hk : poE x c now = k) : pol st d c now = ({ st with cap := if k = 24 then st.cap + 5 else st.cap, l := st.l.set i (poX x c now) }, (if k = 0 then x.g else noG, k)) := by
  unfold pol
  rw [h]
  simp only [hx, hk]
theorem pol_bad {st : Fs} {d c : Bs} {now : Int} {i : Nat} {x : Fw} (h : cdI st.l d = some i) (hx : st.l[i]? = some x) {k : Int} (hk : poE x c now = k) (h1 : k = 11 ∨ k = 13) : pol st d c now = (st, (noG, k)) := by
  rw [pol_at h hx hk, if_neg (by omega), if_neg (by omega)]
  have : poX x c now = x := by unfold poX; rw [if_pos (by rw [hk]; exact h1)]
  rw [this, set_self hx]
theorem pol_mid {st : Fs} {d c : Bs} {now : Int} {i : Nat} {x : Fw} (h : cdI st.l d = some i) (hx : st.l[i]? = some x) {k : Int} (hk : poE x c now = k) (h1 : k ≠ 11 ∧ k ≠ 13 ∧ k ≠ 0) : pol st d c now = ({ st with cap := if k = 24 then st.cap + 5 else st.cap, l := st.l.set i (slo x now) }, (noG, k)) := by
  rw [pol_at h hx hk, if_neg h1.2.2]
  have : poX x c now = slo x now := by unfold poX; rw [hk, if_neg (by omega), if_neg h1.2.2]
  rw [this]
theorem pol_ok {st : Fs} {d c : Bs} {now : Int} {i : Nat} {x : Fw} (h : cdI st.l d = some i) (hx : st.l[i]? = some x) (hk : poE x c now = 0) : pol st d c now = ({ st with l := st.l.set i { slo x now with state := 3 } }, (x.g, 0)) := by
  rw [pol_at h hx hk, if_pos rfl, if_neg (by decide)]
  have : poX x c now = { slo x now with state := 3 } := by unfold poX; rw [hk, if_neg (by omega), if_pos rfl]
  rw [this]
theorem pol_done {w wa wb : World} {S : Nat → Prop} {F : Nat} {st' : Fs} {g : Gr} {r : Fs × (Gr × Int)} {B : Option Addr} {d : Nat} (hr : r = (st', (g, 0))) (hlt : ∀ k, S k → k < w.heap.size) (h : RepE wa S F st') (hm : Mods S w wa) (hz : w.heap.size < wa.heap.size) (hb : Below wa.heap.size wa wb) (hf : Fresh wb wa.heap.size B d g.scopes) (cs : Array Value) :
    PolIs w S F r (.returned (.tuple #[.agg #[.string g.user, .string g.client, .string g.tenant, .string g.session, .string g.redirect, .string g.nonce, .string g.challenge, .int .i64 g.method, .slice B g.scopes.length d, .int .i64 g.auth, .int .i64 g.level], .int .i64 0])) (wb.setRow w.heap.size cs) := by
  subst hr
  have hbz := hb.size
  have h1 := hm.below hb
  refine ⟨B, d, rfl, ⟨ss_keep (S := fun k => wa.heap.size ≤ k) hf.1 (fun a ha hn => hf.2 a ha hn) (fun k hk => setRow_other wb w.heap.size k cs (by omega)) (by rw [setRow_size]; exact Nat.le_refl _), fun a ha hn => by have := hf.2 a ha hn; omega⟩, h.keep (fun _ e => e) (fun k hk => (setRow_other wb w.heap.size k cs (by have := hlt k hk; omega)).trans (hb.block k (h.lt k hk))) (by rw [setRow_size]; exact hbz) (fun k hk => by rw [setRow_size]; have := hlt k hk; have := hm.size; omega), ⟨h1.os, h1.tape, h1.output, by rw [setRow_size]; exact h1.size, fun k hk hn => (setRow_other wb w.heap.size k cs (by omega)).trans (h1.block k hk hn)⟩⟩
theorem ss_keep' {w w' : World} {A : Option Addr} {n c : Nat} {l : List Bs} {S : Nat → Prop} (h : Ss w A n c l) (hA : ∀ a, A = some a → 0 < n → S a.block) (hk : ∀ k, S k → w'.heap[k]? = w.heap[k]?) (hz : ∀ k, S k → k < w'.heap.size) : Ss w' A n c l := by
  refine ⟨h.1, h.2.1, fun hn => ?_⟩
  obtain ⟨b, off, rfl, hl, hc⟩ := h.2.2 hn
  refine ⟨b, off, rfl, hz b (hA _ rfl hn), fun i hi => ?_⟩
  rw [World.cell?_of_block (w := w) (hk b (hA _ rfl hn))]
  exact hc i hi
set_option maxRecDepth 100000 in
set_option maxHeartbeats 8000000 in
theorem pol_any {w : World} {S : Nat → Prop} {F : Nat} {st : Fs} (h : RepE w S F st) (d c : Bs) (hd : d.size ≤ 100000) (now : Int) (hcap : st.cap ≤ 576460752303423488) :
    Calls Tryd.prog 26 #[.pointer (some ⟨F, 0, none⟩), .string d, .string c, .int .i64 now] w (PolIs w S F (pol st d c now)) := by
  obtain ⟨w0, hw0⟩ : ∃ w0, w0 = w.alloc (.cells #[.string ⟨#[]⟩, .string ⟨#[]⟩, .string ⟨#[]⟩, .string ⟨#[]⟩, .string ⟨#[]⟩, .string ⟨#[]⟩, .string ⟨#[]⟩, .int .i64 0, .slice none 0 0, .int .i64 0, .int .i64 0] 39) := ⟨_, rfl⟩
  have HB0 := Lib.hid (show Below w.heap.size w w0 by rw [hw0]; go_grown)
  have HZ0 := Lib.hid (show w0.heap[w.heap.size]? = some (.cells #[.string ⟨#[]⟩, .string ⟨#[]⟩, .string ⟨#[]⟩, .string ⟨#[]⟩, .string ⟨#[]⟩, .string ⟨#[]⟩, .string ⟨#[]⟩, .int .i64 0, .slice none 0 0, .int .i64 0, .int .i64 0] 39 (0, 0)) by rw [hw0]; exact heap_alloc_new _ _)
  have HE := Lib.hid h
  obtain ⟨I, M, pl, h⟩ := h
  have H := Lib.hid h
  have H0 := Lib.hid (h.below HB0.out)
  have HE0 := Lib.hid (HE.out.below HB0.out)
  clear h
  have c2' := H0.out.c2
  cases hi : cdI st.l d with
  | none =>
    have HR := Lib.hid (pol_none (c := c) (now := now) hi)
    have hr := look_no H0.out d hd hi
    clear hi
    go_enter Tryd.func26, Tryd.ntmps26
    go_upto_region 1 with fail
    rw [← hw0]
    clear hw0
    go_wp2_with fail
    refine (ready_yes H0.out).mono ?_
    rintro e wx ⟨rfl, rfl⟩
    go_wp2_with (refine wpList_store_row rfl 39 (.tmp 8) (.tmp 24) rfl w.heap.size #[.string ⟨#[]⟩, .string ⟨#[]⟩, .string ⟨#[]⟩, .string ⟨#[]⟩, .string ⟨#[]⟩, .string ⟨#[]⟩, .string ⟨#[]⟩, .int .i64 0, .slice none 0 0, .int .i64 0, .int .i64 0] rfl rfl 39 _ HZ0.out (by kernel_rfl) rfl (by kernel_rfl) ?_)
    obtain ⟨y0, y1, y2, y3, y4, y5, y6, y7, y8, y9, y10⟩ := cells11 (setRow_heap w0 w.heap.size _ #[.string ⟨#[]⟩, .string ⟨#[]⟩, .string ⟨#[]⟩, .string ⟨#[]⟩, .string ⟨#[]⟩, .string ⟨#[]⟩, .string ⟨#[]⟩, .int .i64 0, .slice none 0 0, .int .i64 0, .int .i64 0] _ _ HZ0.out)
    refine bodyPost_ret (v := .tuple #[.agg #[.string ⟨#[]⟩, .string ⟨#[]⟩, .string ⟨#[]⟩, .string ⟨#[]⟩, .string ⟨#[]⟩, .string ⟨#[]⟩, .string ⟨#[]⟩, .int .i64 0, .slice none 0 0, .int .i64 0, .int .i64 0], .int .i64 6]) (by simp [results, Tryd.results26, go_sem, y0, y1, y2, y3, y4, y5, y6, y7, y8, y9, y10]) rfl ?_
    rw [setRow_self _ _ _ _ _ HZ0.out]
    exact pol_fin HR.out HE0.out (Mods.of_below S HB0.out)
  | some i =>
    obtain ⟨x, hx, hxt⟩ := cdI_some hi
    obtain ⟨b, hb⟩ := pl_at H.out.hl hx
    have hr := look_at H0.out hb hxt
    have HX := Lib.hid hx
    have HPL := Lib.hid hb
    have HSB := Lib.hid (H.out.sb _ (List.mem_of_getElem? hb))
    have HBL := Lib.hid (H.out.lt b HSB.out.1)
    have HRB := Lib.hid (fun (k : Int) (hk : poE x c now = k) (h1 : k = 11 ∨ k = 13) => pol_bad hi hx hk h1)
    have HRM := Lib.hid (fun (k : Int) (hk : poE x c now = k) h1 => pol_mid hi hx hk h1)
    have HRO := Lib.hid (fun (hk : poE x c now = 0) => pol_ok hi hx hk)
    obtain ⟨A, c1, A2, c2, hblk, hs1, hs2⟩ := H0.out.hb _ (List.mem_of_getElem? hb)
    have HBK := Lib.hid hblk
    have HSS := Lib.hid (show ∀ w', Below w.heap.size w w' → (Ss w' A x.scopes.length c1 x.scopes ∧ ∀ a, A = some a → 0 < x.scopes.length → I a.block) ∧ (Ss w' A2 x.g.scopes.length c2 x.g.scopes ∧ ∀ a, A2 = some a → 0 < x.g.scopes.length → I a.block) from fun w' hb' => by
      have hk : ∀ k, I k → w'.heap[k]? = w0.heap[k]? := fun k e => by
        have hl := H.out.lt k (H.out.sI k e)
        exact (hb'.block k hl).trans (HB0.out.block k hl).symm
      have hk2 : ∀ k, I k → k < w'.heap.size := fun k e => Nat.lt_of_lt_of_le (H.out.lt k (H.out.sI k e)) hb'.size
      exact ⟨⟨ss_keep' hs1.1 hs1.2 hk hk2, hs1.2⟩, ⟨ss_keep' hs2.1 hs2.2 hk hk2, hs2.2⟩⟩)
    simp only at hblk
    clear hi hx hxt hb hs1 hs2
    have k1 := cell_block hblk 1
    have k3 := cell_block hblk 3
    simp only [List.getElem?_toArray, List.getElem?_cons_zero, List.getElem?_cons_succ] at k1 k3
    clear hblk
    by_cases hcl : c = x.client
    · have hcb : (c.toList == x.client.toList) = true := by rw [beq_bs]; simpa using hcl
      have hcb2 : c.toList = x.client.toList := by rw [hcl]
      have HCL := Lib.hid hcl
      clear hcl
      cases hxp : expd now x with
      | true =>
        have HXP := Lib.hid hxp
        have HR := Lib.hid (HRB.out 13 (by unfold poE; rw [if_neg (by simpa using HCL.out), if_pos hxp]) (Or.inr rfl))
        clear hxp
        go_enter Tryd.func26, Tryd.ntmps26
        go_upto_region 1 with fail
        rw [← hw0]
        clear hw0
        go_wp2_with fail
        refine (ready_yes H0.out).mono ?_
        rintro e wx ⟨rfl, rfl⟩
        go_wp2_with fail
        refine (expired_any k3 now (show decide (x.fin ≤ limI now) = true from HXP.out)).mono ?_
        rintro e w1 ⟨rfl, hb⟩
        have HB1 := Lib.hid (HB0.out.trans (hb.mono HB0.out.size))
        have H1 := Lib.hid (H.out.below HB1.out)
        have HZ1 := Lib.hid (blk_below hb HZ0.out)
        have HX1 := Lib.hid (blk_below hb HBK.out)
        clear hb k1 k3 hr c2'
        go_wp2_with (refine wpList_store_row rfl 39 (.tmp 8) (.tmp 37) rfl w.heap.size #[.string ⟨#[]⟩, .string ⟨#[]⟩, .string ⟨#[]⟩, .string ⟨#[]⟩, .string ⟨#[]⟩, .string ⟨#[]⟩, .string ⟨#[]⟩, .int .i64 0, .slice none 0 0, .int .i64 0, .int .i64 0] rfl rfl 39 _ HZ1.out (by kernel_rfl) rfl (by kernel_rfl) ?_)
        obtain ⟨y0, y1, y2, y3, y4, y5, y6, y7, y8, y9, y10⟩ := cells11 (setRow_heap w1 w.heap.size _ #[.string ⟨#[]⟩, .string ⟨#[]⟩, .string ⟨#[]⟩, .string ⟨#[]⟩, .string ⟨#[]⟩, .string ⟨#[]⟩, .string ⟨#[]⟩, .int .i64 0, .slice none 0 0, .int .i64 0, .int .i64 0] _ _ HZ1.out)
        refine bodyPost_ret (v := .tuple #[.agg #[.string ⟨#[]⟩, .string ⟨#[]⟩, .string ⟨#[]⟩, .string ⟨#[]⟩, .string ⟨#[]⟩, .string ⟨#[]⟩, .string ⟨#[]⟩, .int .i64 0, .slice none 0 0, .int .i64 0, .int .i64 0], .int .i64 13]) (by simp [results, Tryd.results26, go_sem, y0, y1, y2, y3, y4, y5, y6, y7, y8, y9, y10]) rfl ?_
        rw [setRow_self _ _ _ _ _ HZ1.out]
        exact pol_fin HR.out (HE.out.below HB1.out) (Mods.of_below S HB1.out)
      | false =>
        have HXP := Lib.hid hxp
        clear hxp
        cases hea : ear x now with
        | true =>
          have HEA := Lib.hid hea
          have HR := Lib.hid (HRM.out 24 (by unfold poE; rw [if_neg (by simpa using HCL.out), if_neg (by rw [HXP.out]; decide), if_pos hea]) (by decide))
          clear hea
          go_enter Tryd.func26, Tryd.ntmps26
          go_upto_region 1 with fail
          rw [← hw0]
          clear hw0
          go_wp2_with fail
          refine (ready_yes H0.out).mono ?_
          rintro e wx ⟨rfl, rfl⟩
          go_wp2_with fail
          refine (expired_any k3 now (show decide (x.fin ≤ limI now) = false from HXP.out)).mono ?_
          rintro e w1 ⟨rfl, hb⟩
          have HB1 := Lib.hid (HB0.out.trans (hb.mono HB0.out.size))
          have H1 := Lib.hid (H.out.below HB1.out)
          have HZ1 := Lib.hid (blk_below hb HZ0.out)
          have HX1 := Lib.hid (blk_below hb HBK.out)
          clear hb k1 k3 hr c2'
          go_wp2_with fail
          refine (slow_any HX1.out (H.out.inv.ls x (List.mem_of_getElem? HX.out)) (by have := H.out.inv.iv x (List.mem_of_getElem? HX.out); omega) now).mono ?_
          rintro e w2 ⟨rfl, hblk2, hm2⟩
          have HX2 := Lib.hid hblk2
          have HM2 := Lib.hid hm2
          have HZ2 := Lib.hid ((hm2.block w.heap.size (blk_lt HZ1.out) (fun e => by have := HBL.out; omega)).trans HZ1.out)
          have HMS := Lib.hid (mods_pre HB1.out (mods_blk hm2 HSB.out.1))
          have HOK := Lib.hid (slo_ok H.out.inv (List.mem_of_getElem? HX.out) now)
          rw [HEA.out] at HOK
          obtain ⟨hs1', hs2'⟩ := HSS.out _ HB1.out
          have HR2 := Lib.hid (rep_turn H1.out HX.out HPL.out (show st.cap ≤ (if true = true then st.cap + 5 else st.cap) by rw [if_pos rfl]; omega) HOK.out rfl hs1' hs2' hblk2 hm2)
          clear hblk2 hm2 hs1' hs2'
          rw [HEA.out]
          go_wp2_with (refine wpList_store_row rfl 39 (.tmp 8) (.tmp 42) rfl w.heap.size #[.string ⟨#[]⟩, .string ⟨#[]⟩, .string ⟨#[]⟩, .string ⟨#[]⟩, .string ⟨#[]⟩, .string ⟨#[]⟩, .string ⟨#[]⟩, .int .i64 0, .slice none 0 0, .int .i64 0, .int .i64 0] rfl rfl 39 _ HZ2.out (by kernel_rfl) rfl (by kernel_rfl) ?_)
          obtain ⟨y0, y1, y2, y3, y4, y5, y6, y7, y8, y9, y10⟩ := cells11 (setRow_heap w2 w.heap.size _ #[.string ⟨#[]⟩, .string ⟨#[]⟩, .string ⟨#[]⟩, .string ⟨#[]⟩, .string ⟨#[]⟩, .string ⟨#[]⟩, .string ⟨#[]⟩, .int .i64 0, .slice none 0 0, .int .i64 0, .int .i64 0] _ _ HZ2.out)
          refine bodyPost_ret (v := .tuple #[.agg #[.string ⟨#[]⟩, .string ⟨#[]⟩, .string ⟨#[]⟩, .string ⟨#[]⟩, .string ⟨#[]⟩, .string ⟨#[]⟩, .string ⟨#[]⟩, .int .i64 0, .slice none 0 0, .int .i64 0, .int .i64 0], .int .i64 24]) (by simp [results, Tryd.results26, go_sem, y0, y1, y2, y3, y4, y5, y6, y7, y8, y9, y10]) rfl ?_
          rw [setRow_self _ _ _ _ _ HZ2.out]
          exact pol_fin HR.out (rep_e HR2.out) HMS.out
        | false =>
          have HEA := Lib.hid hea
          have HPE := Lib.hid (show poE x c now = if x.state = 0 then 23 else if x.state = 2 then 25 else if x.state = 3 then 18 else 0 by unfold poE; rw [if_neg (by simpa using HCL.out), if_neg (by rw [HXP.out]; decide), if_neg (by rw [hea]; decide)])
          clear hea
          by_cases s0 : x.state = 0
          · have HR := Lib.hid (HRM.out 23 (by rw [HPE.out, if_pos s0]) (by decide))
            have b0 : (x.state == 0) = true := by rw [s0]; rfl
            clear s0
            go_enter Tryd.func26, Tryd.ntmps26
            go_upto_region 1 with fail
            rw [← hw0]
            clear hw0
            go_wp2_with fail
            refine (ready_yes H0.out).mono ?_
            rintro e wx ⟨rfl, rfl⟩
            go_wp2_with fail
            refine (expired_any k3 now (show decide (x.fin ≤ limI now) = false from HXP.out)).mono ?_
            rintro e w1 ⟨rfl, hb⟩
            have HB1 := Lib.hid (HB0.out.trans (hb.mono HB0.out.size))
            have H1 := Lib.hid (H.out.below HB1.out)
            have HZ1 := Lib.hid (blk_below hb HZ0.out)
            have HX1 := Lib.hid (blk_below hb HBK.out)
            clear hb k1 k3 hr c2'
            go_wp2_with fail
            refine (slow_any HX1.out (H.out.inv.ls x (List.mem_of_getElem? HX.out)) (by have := H.out.inv.iv x (List.mem_of_getElem? HX.out); omega) now).mono ?_
            rintro e w2 ⟨rfl, hblk2, hm2⟩
            have HX2 := Lib.hid hblk2
            have HM2 := Lib.hid hm2
            have HZ2 := Lib.hid ((hm2.block w.heap.size (blk_lt HZ1.out) (fun e => by have := HBL.out; omega)).trans HZ1.out)
            have HMS := Lib.hid (mods_pre HB1.out (mods_blk hm2 HSB.out.1))
            have HOK := Lib.hid (slo_ok H.out.inv (List.mem_of_getElem? HX.out) now)
            rw [HEA.out] at HOK
            obtain ⟨hs1', hs2'⟩ := HSS.out _ HB1.out
            have HR2 := Lib.hid (rep_turn H1.out HX.out HPL.out (show st.cap ≤ (if false = true then st.cap + 5 else st.cap) by rw [if_neg (by decide)]; exact Int.le_refl _) HOK.out rfl hs1' hs2' hblk2 hm2)
            clear hblk2 hm2 hs1' hs2'
            rw [HEA.out]
            have k5 : w2.cell? ⟨b, 5, none⟩ = some (.int .i64 x.state) := cell_block HX2.out 5
            go_wp2_with (refine wpList_store_row rfl 39 (.tmp 8) (.tmp 49) rfl w.heap.size #[.string ⟨#[]⟩, .string ⟨#[]⟩, .string ⟨#[]⟩, .string ⟨#[]⟩, .string ⟨#[]⟩, .string ⟨#[]⟩, .string ⟨#[]⟩, .int .i64 0, .slice none 0 0, .int .i64 0, .int .i64 0] rfl rfl 39 _ HZ2.out (by kernel_rfl) rfl (by kernel_rfl) ?_)
            obtain ⟨y0, y1, y2, y3, y4, y5, y6, y7, y8, y9, y10⟩ := cells11 (setRow_heap w2 w.heap.size _ #[.string ⟨#[]⟩, .string ⟨#[]⟩, .string ⟨#[]⟩, .string ⟨#[]⟩, .string ⟨#[]⟩, .string ⟨#[]⟩, .string ⟨#[]⟩, .int .i64 0, .slice none 0 0, .int .i64 0, .int .i64 0] _ _ HZ2.out)
            refine bodyPost_ret (v := .tuple #[.agg #[.string ⟨#[]⟩, .string ⟨#[]⟩, .string ⟨#[]⟩, .string ⟨#[]⟩, .string ⟨#[]⟩, .string ⟨#[]⟩, .string ⟨#[]⟩, .int .i64 0, .slice none 0 0, .int .i64 0, .int .i64 0], .int .i64 23]) (by simp [results, Tryd.results26, go_sem, y0, y1, y2, y3, y4, y5, y6, y7, y8, y9, y10]) rfl ?_
            rw [setRow_self _ _ _ _ _ HZ2.out]
            exact pol_fin HR.out (rep_e HR2.out) HMS.out
          · have b0 : (x.state == 0) = false := beq_eq_false_iff_ne.2 s0
            by_cases s2 : x.state = 2
            · have HR := Lib.hid (HRM.out 25 (by rw [HPE.out, if_neg s0, if_pos s2]) (by decide))
              have b2 : (x.state == 2) = true := by rw [s2]; rfl
              clear s2 s0
              go_enter Tryd.func26, Tryd.ntmps26
              go_upto_region 1 with fail
              rw [← hw0]
              clear hw0
              go_wp2_with fail
              refine (ready_yes H0.out).mono ?_
              rintro e wx ⟨rfl, rfl⟩
              go_wp2_with fail
              refine (expired_any k3 now (show decide (x.fin ≤ limI now) = false from HXP.out)).mono ?_
              rintro e w1 ⟨rfl, hb⟩
              have HB1 := Lib.hid (HB0.out.trans (hb.mono HB0.out.size))
              have H1 := Lib.hid (H.out.below HB1.out)
              have HZ1 := Lib.hid (blk_below hb HZ0.out)
              have HX1 := Lib.hid (blk_below hb HBK.out)
              clear hb k1 k3 hr c2'
              go_wp2_with fail
              refine (slow_any HX1.out (H.out.inv.ls x (List.mem_of_getElem? HX.out)) (by have := H.out.inv.iv x (List.mem_of_getElem? HX.out); omega) now).mono ?_
              rintro e w2 ⟨rfl, hblk2, hm2⟩
              have HX2 := Lib.hid hblk2
              have HM2 := Lib.hid hm2
              have HZ2 := Lib.hid ((hm2.block w.heap.size (blk_lt HZ1.out) (fun e => by have := HBL.out; omega)).trans HZ1.out)
              have HMS := Lib.hid (mods_pre HB1.out (mods_blk hm2 HSB.out.1))
              have HOK := Lib.hid (slo_ok H.out.inv (List.mem_of_getElem? HX.out) now)
              rw [HEA.out] at HOK
              obtain ⟨hs1', hs2'⟩ := HSS.out _ HB1.out
              have HR2 := Lib.hid (rep_turn H1.out HX.out HPL.out (show st.cap ≤ (if false = true then st.cap + 5 else st.cap) by rw [if_neg (by decide)]; exact Int.le_refl _) HOK.out rfl hs1' hs2' hblk2 hm2)
              clear hblk2 hm2 hs1' hs2'
              rw [HEA.out]
              have k5 : w2.cell? ⟨b, 5, none⟩ = some (.int .i64 x.state) := cell_block HX2.out 5
              go_wp2_with (refine wpList_store_row rfl 39 (.tmp 8) (.tmp 56) rfl w.heap.size #[.string ⟨#[]⟩, .string ⟨#[]⟩, .string ⟨#[]⟩, .string ⟨#[]⟩, .string ⟨#[]⟩, .string ⟨#[]⟩, .string ⟨#[]⟩, .int .i64 0, .slice none 0 0, .int .i64 0, .int .i64 0] rfl rfl 39 _ HZ2.out (by kernel_rfl) rfl (by kernel_rfl) ?_)
              obtain ⟨y0, y1, y2, y3, y4, y5, y6, y7, y8, y9, y10⟩ := cells11 (setRow_heap w2 w.heap.size _ #[.string ⟨#[]⟩, .string ⟨#[]⟩, .string ⟨#[]⟩, .string ⟨#[]⟩, .string ⟨#[]⟩, .string ⟨#[]⟩, .string ⟨#[]⟩, .int .i64 0, .slice none 0 0, .int .i64 0, .int .i64 0] _ _ HZ2.out)
              refine bodyPost_ret (v := .tuple #[.agg #[.string ⟨#[]⟩, .string ⟨#[]⟩, .string ⟨#[]⟩, .string ⟨#[]⟩, .string ⟨#[]⟩, .string ⟨#[]⟩, .string ⟨#[]⟩, .int .i64 0, .slice none 0 0, .int .i64 0, .int .i64 0], .int .i64 25]) (by simp [results, Tryd.results26, go_sem, y0, y1, y2, y3, y4, y5, y6, y7, y8, y9, y10]) rfl ?_
              rw [setRow_self _ _ _ _ _ HZ2.out]
              exact pol_fin HR.out (rep_e HR2.out) HMS.out
            · have b2 : (x.state == 2) = false := beq_eq_false_iff_ne.2 s2
              by_cases s3 : x.state = 3
              · have HR := Lib.hid (HRM.out 18 (by rw [HPE.out, if_neg s0, if_neg s2, if_pos s3]) (by decide))
                have b3 : (x.state == 3) = true := by rw [s3]; rfl
                clear s3 s2 s0
                go_enter Tryd.func26, Tryd.ntmps26
                go_upto_region 1 with fail
                rw [← hw0]
                clear hw0
                go_wp2_with fail
                refine (ready_yes H0.out).mono ?_
                rintro e wx ⟨rfl, rfl⟩
                go_wp2_with fail
                refine (expired_any k3 now (show decide (x.fin ≤ limI now) = false from HXP.out)).mono ?_
                rintro e w1 ⟨rfl, hb⟩
                have HB1 := Lib.hid (HB0.out.trans (hb.mono HB0.out.size))
                have H1 := Lib.hid (H.out.below HB1.out)
                have HZ1 := Lib.hid (blk_below hb HZ0.out)
                have HX1 := Lib.hid (blk_below hb HBK.out)
                clear hb k1 k3 hr c2'
                go_wp2_with fail
                refine (slow_any HX1.out (H.out.inv.ls x (List.mem_of_getElem? HX.out)) (by have := H.out.inv.iv x (List.mem_of_getElem? HX.out); omega) now).mono ?_
                rintro e w2 ⟨rfl, hblk2, hm2⟩
                have HX2 := Lib.hid hblk2
                have HM2 := Lib.hid hm2
                have HZ2 := Lib.hid ((hm2.block w.heap.size (blk_lt HZ1.out) (fun e => by have := HBL.out; omega)).trans HZ1.out)
                have HMS := Lib.hid (mods_pre HB1.out (mods_blk hm2 HSB.out.1))
                have HOK := Lib.hid (slo_ok H.out.inv (List.mem_of_getElem? HX.out) now)
                rw [HEA.out] at HOK
                obtain ⟨hs1', hs2'⟩ := HSS.out _ HB1.out
                have HR2 := Lib.hid (rep_turn H1.out HX.out HPL.out (show st.cap ≤ (if false = true then st.cap + 5 else st.cap) by rw [if_neg (by decide)]; exact Int.le_refl _) HOK.out rfl hs1' hs2' hblk2 hm2)
                clear hblk2 hm2 hs1' hs2'
                rw [HEA.out]
                have k5 : w2.cell? ⟨b, 5, none⟩ = some (.int .i64 x.state) := cell_block HX2.out 5
                go_wp2_with (refine wpList_store_row rfl 39 (.tmp 8) (.tmp 63) rfl w.heap.size #[.string ⟨#[]⟩, .string ⟨#[]⟩, .string ⟨#[]⟩, .string ⟨#[]⟩, .string ⟨#[]⟩, .string ⟨#[]⟩, .string ⟨#[]⟩, .int .i64 0, .slice none 0 0, .int .i64 0, .int .i64 0] rfl rfl 39 _ HZ2.out (by kernel_rfl) rfl (by kernel_rfl) ?_)
                obtain ⟨y0, y1, y2, y3, y4, y5, y6, y7, y8, y9, y10⟩ := cells11 (setRow_heap w2 w.heap.size _ #[.string ⟨#[]⟩, .string ⟨#[]⟩, .string ⟨#[]⟩, .string ⟨#[]⟩, .string ⟨#[]⟩, .string ⟨#[]⟩, .string ⟨#[]⟩, .int .i64 0, .slice none 0 0, .int .i64 0, .int .i64 0] _ _ HZ2.out)
                refine bodyPost_ret (v := .tuple #[.agg #[.string ⟨#[]⟩, .string ⟨#[]⟩, .string ⟨#[]⟩, .string ⟨#[]⟩, .string ⟨#[]⟩, .string ⟨#[]⟩, .string ⟨#[]⟩, .int .i64 0, .slice none 0 0, .int .i64 0, .int .i64 0], .int .i64 18]) (by simp [results, Tryd.results26, go_sem, y0, y1, y2, y3, y4, y5, y6, y7, y8, y9, y10]) rfl ?_
                rw [setRow_self _ _ _ _ _ HZ2.out]
                exact pol_fin HR.out (rep_e HR2.out) HMS.out
              · have b3 : (x.state == 3) = false := beq_eq_false_iff_ne.2 s3
                have HR := Lib.hid (HRO.out (by rw [HPE.out, if_neg s0, if_neg s2, if_neg s3]))
                clear s3 s2 s0
                go_enter Tryd.func26, Tryd.ntmps26
                go_upto_region 1 with fail
                rw [← hw0]
                clear hw0
                go_wp2_with fail
                refine (ready_yes H0.out).mono ?_
                rintro e wx ⟨rfl, rfl⟩
                go_wp2_with fail
                refine (expired_any k3 now (show decide (x.fin ≤ limI now) = false from HXP.out)).mono ?_
                rintro e w1 ⟨rfl, hb⟩
                have HB1 := Lib.hid (HB0.out.trans (hb.mono HB0.out.size))
                have H1 := Lib.hid (H.out.below HB1.out)
                have HZ1 := Lib.hid (blk_below hb HZ0.out)
                have HX1 := Lib.hid (blk_below hb HBK.out)
                clear hb k1 k3 hr c2'
                go_wp2_with fail
                refine (slow_any HX1.out (H.out.inv.ls x (List.mem_of_getElem? HX.out)) (by have := H.out.inv.iv x (List.mem_of_getElem? HX.out); omega) now).mono ?_
                rintro e w2 ⟨rfl, hblk2, hm2⟩
                have HX2 := Lib.hid hblk2
                have HM2 := Lib.hid hm2
                have HZ2 := Lib.hid ((hm2.block w.heap.size (blk_lt HZ1.out) (fun e => by have := HBL.out; omega)).trans HZ1.out)
                have HMS := Lib.hid (mods_pre HB1.out (mods_blk hm2 HSB.out.1))
                have HOK := Lib.hid (slo_ok H.out.inv (List.mem_of_getElem? HX.out) now)
                rw [HEA.out] at HOK
                obtain ⟨hs1', hs2'⟩ := HSS.out _ HB1.out
                have HR2 := Lib.hid (rep_turn H1.out HX.out HPL.out (show st.cap ≤ (if false = true then st.cap + 5 else st.cap) by rw [if_neg (by decide)]; exact Int.le_refl _) HOK.out rfl hs1' hs2' hblk2 hm2)
                clear hblk2 hm2 hs1' hs2'
                rw [HEA.out]
                have k5 : w2.cell? ⟨b, 5, none⟩ = some (.int .i64 x.state) := cell_block HX2.out 5
                have f5 : w2.frozen? ⟨b, 5, none⟩ = false := by have := HX2.out; simp only [World.frozen?, this]; rfl
                go_upto_region 19 with fail
                obtain ⟨w3, hw3⟩ : ∃ w3, w3 = w2.setCell ⟨b, 5, none⟩ (.int .i64 3) := ⟨_, rfl⟩
                rw [← hw3]
                have HX3 := Lib.hid (show w3.heap[b]? = some (.cells #[.string ({ slo x now with state := 3 } : Fw).code, .string ({ slo x now with state := 3 } : Fw).client, .slice A ({ slo x now with state := 3 } : Fw).scopes.length c1, .int .i64 ({ slo x now with state := 3 } : Fw).fin, .int .i64 ({ slo x now with state := 3 } : Fw).iv, .int .i64 ({ slo x now with state := 3 } : Fw).state, .string ({ slo x now with state := 3 } : Fw).g.user, .string ({ slo x now with state := 3 } : Fw).g.client, .string ({ slo x now with state := 3 } : Fw).g.tenant, .string ({ slo x now with state := 3 } : Fw).g.session, .string ({ slo x now with state := 3 } : Fw).g.redirect, .string ({ slo x now with state := 3 } : Fw).g.nonce, .string ({ slo x now with state := 3 } : Fw).g.challenge, .int .i64 ({ slo x now with state := 3 } : Fw).g.method, .slice A2 ({ slo x now with state := 3 } : Fw).g.scopes.length c2, .int .i64 ({ slo x now with state := 3 } : Fw).g.auth, .int .i64 ({ slo x now with state := 3 } : Fw).g.level, .bool ({ slo x now with state := 3 } : Fw).polled, .int .i64 ({ slo x now with state := 3 } : Fw).last] 81 (0, 0)) by rw [hw3]; exact heap_setCell_same _ _ 5 _ _ _ HX2.out)
                have HK3 := Lib.hid (show ∀ k, k ≠ b → w3.heap[k]? = w2.heap[k]? from fun k hk => by rw [hw3]; exact Below.heap_setCell _ _ _ _ hk)
                have HZZ := Lib.hid (show w3.heap.size = w2.heap.size ∧ w3.os = w2.os ∧ w3.tape = w2.tape ∧ w3.output = w2.output by rw [hw3]; exact ⟨by simp only [sc_size], rfl, rfl, rfl⟩)
                have HM3 := Lib.hid (show Mods (fun k => k = b) w1 w3 from ⟨HZZ.out.2.1.trans HM2.out.os, HZZ.out.2.2.1.trans HM2.out.tape, HZZ.out.2.2.2.trans HM2.out.output, by rw [HZZ.out.1]; exact HM2.out.size, fun k hk hn => (HK3.out k hn).trans (HM2.out.block k hk hn)⟩)
                clear hw3 k5 f5
                have HZ3 := Lib.hid ((HM3.out.block w.heap.size (blk_lt HZ1.out) (fun e => by have := HBL.out; omega)).trans HZ1.out)
                have HMS3 := Lib.hid (mods_pre HB1.out (mods_blk HM3.out HSB.out.1))
                obtain ⟨hs1', hs2'⟩ := HSS.out _ HB1.out
                have HR3 := Lib.hid (rep_turn (y := ({ slo x now with state := 3 } : Fw)) (cap := st.cap) H1.out HX.out HPL.out (Int.le_refl _) ⟨rfl, rfl, rfl, rfl, rfl, HOK.out.gs, HOK.out.iv, HOK.out.ls⟩ rfl hs1' hs2' HX3.out HM3.out)
                clear hs1' hs2'
                obtain ⟨A', c1', A2', c2', hblk, _, hs2⟩ := HR3.out.hb (b, ({ slo x now with state := 3 } : Fw)) (List.mem_of_getElem? (i := i) (by rw [List.getElem?_set, if_pos rfl, if_pos (List.getElem?_eq_some_iff.1 HPL.out).1]))
                have HS2 := Lib.hid (show Ss w3 A2' x.g.scopes.length c2' x.g.scopes from hs2.1)
                have HBK3 := Lib.hid hblk
                clear hblk hs2
                have k6 : w3.cell? ⟨b, 6, none⟩ = some (.string x.g.user) := cell_block HBK3.out 6
                have k7 : w3.cell? ⟨b, 7, none⟩ = some (.string x.g.client) := cell_block HBK3.out 7
                have k8 : w3.cell? ⟨b, 8, none⟩ = some (.string x.g.tenant) := cell_block HBK3.out 8
                have k9 : w3.cell? ⟨b, 9, none⟩ = some (.string x.g.session) := cell_block HBK3.out 9
                have k10 : w3.cell? ⟨b, 10, none⟩ = some (.string x.g.redirect) := cell_block HBK3.out 10
                have k11 : w3.cell? ⟨b, 11, none⟩ = some (.string x.g.nonce) := cell_block HBK3.out 11
                have k12 : w3.cell? ⟨b, 12, none⟩ = some (.string x.g.challenge) := cell_block HBK3.out 12
                have k13 : w3.cell? ⟨b, 13, none⟩ = some (.int .i64 x.g.method) := cell_block HBK3.out 13
                have k14 : w3.cell? ⟨b, 14, none⟩ = some (.slice A2' x.g.scopes.length c2') := cell_block HBK3.out 14
                have k15 : w3.cell? ⟨b, 15, none⟩ = some (.int .i64 x.g.auth) := cell_block HBK3.out 15
                have k16 : w3.cell? ⟨b, 16, none⟩ = some (.int .i64 x.g.level) := cell_block HBK3.out 16
                go_wp2_with fail
                refine (own_any w3 x.g A2' c2' HS2.out (by have := H.out.inv.gs x (List.mem_of_getElem? HX.out); omega)).mono ?_
                rintro e w4 ⟨B, dd, rfl, hfr, hb⟩
                have HFR := Lib.hid hfr
                have HB4 := Lib.hid hb
                have HZ4 := Lib.hid (blk_below hb HZ3.out)
                clear hfr hb k6 k7 k8 k9 k10 k11 k12 k13 k14 k15 k16
                have HRI := Lib.hid (pol_done HR.out HE.out.lt (rep_e HR3.out) HMS3.out (blk_lt HZ3.out) HB4.out HFR.out #[.string x.g.user, .string x.g.client, .string x.g.tenant, .string x.g.session, .string x.g.redirect, .string x.g.nonce, .string x.g.challenge, .int .i64 x.g.method, .slice B x.g.scopes.length dd, .int .i64 x.g.auth, .int .i64 x.g.level])
                go_wp2_with (refine wpList_store_row rfl 39 (.tmp 8) (.tmp 71) rfl w.heap.size #[.string x.g.user, .string x.g.client, .string x.g.tenant, .string x.g.session, .string x.g.redirect, .string x.g.nonce, .string x.g.challenge, .int .i64 x.g.method, .slice B x.g.scopes.length dd, .int .i64 x.g.auth, .int .i64 x.g.level] rfl rfl 39 _ HZ4.out (by kernel_rfl) rfl (by simp [Value.oneCell']) ?_)
                obtain ⟨y0, y1, y2, y3, y4, y5, y6, y7, y8, y9, y10⟩ := cells11 (setRow_heap w4 w.heap.size _ #[.string x.g.user, .string x.g.client, .string x.g.tenant, .string x.g.session, .string x.g.redirect, .string x.g.nonce, .string x.g.challenge, .int .i64 x.g.method, .slice B x.g.scopes.length dd, .int .i64 x.g.auth, .int .i64 x.g.level] _ _ HZ4.out)
                refine bodyPost_ret (v := .tuple #[.agg #[.string x.g.user, .string x.g.client, .string x.g.tenant, .string x.g.session, .string x.g.redirect, .string x.g.nonce, .string x.g.challenge, .int .i64 x.g.method, .slice B x.g.scopes.length dd, .int .i64 x.g.auth, .int .i64 x.g.level], .int .i64 0]) (by simp [results, Tryd.results26, go_sem, y0, y1, y2, y3, y4, y5, y6, y7, y8, y9, y10]) rfl ?_
                exact HRI.out
    · have hcb : (c.toList == x.client.toList) = false := by rw [beq_bs]; simpa using hcl
      have hcb2 : ¬ c.toList = x.client.toList := by rw [← beq_iff_eq, hcb]; decide
      have HR := Lib.hid (HRB.out 11 (by unfold poE; rw [if_pos (by simpa using hcl)]) (Or.inl rfl))
      clear hcl
      go_enter Tryd.func26, Tryd.ntmps26
      go_upto_region 1 with fail
      rw [← hw0]
      clear hw0
      go_wp2_with fail
      refine (ready_yes H0.out).mono ?_
      rintro e wx ⟨rfl, rfl⟩
      go_wp2_with (refine wpList_store_row rfl 39 (.tmp 8) (.tmp 32) rfl w.heap.size #[.string ⟨#[]⟩, .string ⟨#[]⟩, .string ⟨#[]⟩, .string ⟨#[]⟩, .string ⟨#[]⟩, .string ⟨#[]⟩, .string ⟨#[]⟩, .int .i64 0, .slice none 0 0, .int .i64 0, .int .i64 0] rfl rfl 39 _ HZ0.out (by kernel_rfl) rfl (by kernel_rfl) ?_)
      obtain ⟨y0, y1, y2, y3, y4, y5, y6, y7, y8, y9, y10⟩ := cells11 (setRow_heap w0 w.heap.size _ #[.string ⟨#[]⟩, .string ⟨#[]⟩, .string ⟨#[]⟩, .string ⟨#[]⟩, .string ⟨#[]⟩, .string ⟨#[]⟩, .string ⟨#[]⟩, .int .i64 0, .slice none 0 0, .int .i64 0, .int .i64 0] _ _ HZ0.out)
      refine bodyPost_ret (v := .tuple #[.agg #[.string ⟨#[]⟩, .string ⟨#[]⟩, .string ⟨#[]⟩, .string ⟨#[]⟩, .string ⟨#[]⟩, .string ⟨#[]⟩, .string ⟨#[]⟩, .int .i64 0, .slice none 0 0, .int .i64 0, .int .i64 0], .int .i64 11]) (by simp [results, Tryd.results26, go_sem, y0, y1, y2, y3, y4, y5, y6, y7, y8, y9, y10]) rfl ?_
      rw [setRow_self _ _ _ _ _ HZ0.out]
      exact pol_fin HR.out HE0.out (Mods.of_below S HB0.out)
end Go.Proofs.YtapooonlbjgbgaaDoor.Dv
