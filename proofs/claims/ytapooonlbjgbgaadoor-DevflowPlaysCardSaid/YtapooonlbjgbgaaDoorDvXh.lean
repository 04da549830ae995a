/-
  The reference: Approve.
-/
import Derived.Test.YtapooonlbjgbgaaDoorDvXg
namespace Go.Proofs.YtapooonlbjgbgaaDoor.Dv
open Go.RowKit Go.Proofs.YtapooonlbjgbgaaDoor.Fo Go.Proofs.YtapooonlbjgbgaaDoor.Rf

theorem own_row' {w : World} {g c m : Nat} {l : List FwE} (hm : m = l.length) (h : OwnR w (.slice (some ⟨g, 0, none⟩) m c) l) {i : Nat} {e e' : FwE} (hi : l[i]? = some e) {j : Nat} {vs : List Value} (hj : j + vs.length ≤ 20) (hs : setL j vs (fl20 e) = fl20 e') : OwnR (w.setCells g (i * 20 + j) vs) (.slice (some ⟨g, 0, none⟩) m c) (l.set i e') := by
  subst hm
  exact h.row hi hj hs
theorem own_at' {w : World} {g c m : Nat} {l : List FwE} (hm : m = l.length) (h : OwnR w (.slice (some ⟨g, 0, none⟩) m c) l) {i : Nat} {e : FwE} (hi : l[i]? = some e) (j : Nat) (u : Value) (hu : (fl20 e)[j]? = some u) : w.cell? ⟨g, i * 20 + j, none⟩ = some u := by
  subst hm
  obtain ⟨g', hg', _, hc'⟩ := h.at hi
  injection hg' with hg'
  injection hg' with hg'
  subst hg'
  exact hc' j u hu
theorem ref_apr {w w1 w3 w4 w5 : World} {S I : Nat → Prop} {G gb c i d : Nat} {st : Fs} {es : List FwE} {e : FwE} {g : Gr} {B : Option Addr} (h : RefP w1 S I G st (.slice (some ⟨gb, 0, none⟩) es.length c) es) (he : es[i]? = some e) (hb1 : Below w.heap.size w w1) (hlt : ∀ k, S k → k < w.heap.size)
    (h3 : w3 = w1.setCell ⟨gb, i * 20 + 6, none⟩ (.int .i64 1)) (hb : Below w3.heap.size w3 w4) (hf : Fresh w4 w3.heap.size B d g.scopes) (h5 : w5 = w4.setCells gb (i * 20 + 9) [.string g.user, .string g.client, .string g.tenant, .string g.session, .string g.redirect, .string g.nonce, .string g.challenge, .int .i64 g.method, .slice B g.scopes.length d, .int .i64 g.auth, .int .i64 g.level]) (hsh : Short g.scopes) (hn : g.scopes.length ≤ 1000) :
    RefE w5 (Go.Proofs.YtapooonlbjgbgaaDoor.grow S w w5) G { st with l := st.l.set i { e.1 with state := 1, g := g } } ∧ Mods S w w5 := by
  have hx := h.get he
  have hgS := h.sv gb rfl
  have hgl := hlt gb hgS.1
  have hz3 : w3.heap.size = w1.heap.size := by rw [h3]; simp only [sc_size]
  obtain ⟨z1, z2, z3, z4⟩ := setCells_facts gb [.string g.user, .string g.client, .string g.tenant, .string g.session, .string g.redirect, .string g.nonce, .string g.challenge, .int .i64 g.method, .slice B g.scopes.length d, .int .i64 g.auth, .int .i64 g.level] (i * 20 + 9) w4
  rw [← h5] at z1 z2 z3 z4
  have hz1 := hb1.size
  have hz4 := hb.size
  have hk : ∀ k, k < w1.heap.size → k ≠ gb → w5.heap[k]? = w1.heap[k]? := fun k hk hne => by
    rw [h5, setCells_other _ _ _ _ k hne, hb.block k (by omega), h3]
    exact Below.heap_setCell _ _ _ _ hne
  have o3 : OwnR w3 (.slice (some ⟨gb, 0, none⟩) es.length c) (es.set i ({ e.1 with state := 1 }, e.2)) := by rw [h3]; exact h.own.set he (show 6 < 20 by omega) rfl
  have o4 := o3.keep (fun k hk2 => hb.block k (o3.lt k hk2))
  have il := (List.getElem?_eq_some_iff.1 he).1
  have o5 := own_row' (e' := (({ e.1 with state := 1, g := g } : Fw), e.2.1, e.2.2.1, B, d)) (j := 9) (vs := [.string g.user, .string g.client, .string g.tenant, .string g.session, .string g.redirect, .string g.nonce, .string g.challenge, .int .i64 g.method, .slice B g.scopes.length d, .int .i64 g.auth, .int .i64 g.level]) (by simp) o4 (show (es.set i (({ e.1 with state := 1 } : Fw), e.2))[i]? = some (({ e.1 with state := 1 } : Fw), e.2) by rw [List.getElem?_set, if_pos rfl, if_pos il]) (Nat.le_refl 20) rfl
  rw [List.set_set, ← h5] at o5
  have hm := List.mem_of_getElem? he
  have hkI : ∀ k, I k → w5.heap[k]? = w1.heap[k]? := fun k hk2 => hk k (h.lt k (h.sI k hk2)) (fun e2 => hgS.2.1 (by rw [← e2]; exact hk2))
  refine ⟨⟨fun k => I k ∨ (w.heap.size ≤ k ∧ k < w5.heap.size), _, _, ref_put (cap := st.cap) (e' := (({ e.1 with state := 1, g := g } : Fw), e.2.1, e.2.2.1, B, d)) h rfl o5 (fun k e => Or.inl e) (fun k e hne => hk k (h.lt k e) hne) (by omega) (fun k e => Or.inl e) (fun k e => ?_) ⟨fun e => ?_, fun e => ?_⟩ (fun k e => ?_) ⟨ss_keep (h.sc _ hm).1 (h.sc _ hm).2 hkI (by omega), fun a ha hn => Or.inl ((h.sc _ hm).2 a ha hn)⟩ ⟨?_, fun a ha hn => Or.inr ?_⟩ ?_⟩, ?_⟩
  · rcases e with e | e
    · exact Or.inl (h.sI k e)
    · exact Or.inr e
  · rcases e with e | e
    · exact h.sG.2 e
    · have := hlt G h.sG.1; omega
  · rcases e with e | e
    · exact hgS.2.1 e
    · exact absurd hgl (Nat.not_lt.2 e.1)
  · rcases e with e | e
    · have := hlt k e; omega
    · exact e.2
  · exact ss_keep (S := fun k => w3.heap.size ≤ k) hf.1 (fun a ha hl => hf.2 a ha hl) (fun k hk2 => by rw [h5]; exact setCells_other _ _ _ _ k (by omega)) (by omega)
  · have h8 := hf.2 a ha hn
    have h9 := ss_block hf.1 ha hn
    exact ⟨by omega, by omega⟩
  · exact inv_set (y := ({ e.1 with state := 1, g := g } : Fw)) h.inv (Int.le_refl _) hx ⟨rfl, rfl, rfl, rfl, rfl, ⟨hsh, hn⟩, h.inv.iv e.1 (List.mem_of_getElem? hx), h.inv.ls e.1 (List.mem_of_getElem? hx)⟩
  · refine ⟨?_, ?_, ?_, by omega, fun k hk2 hns => ?_⟩
    · rw [z2, hb.os, h3]; exact hb1.os
    · rw [z3, hb.tape, h3]; exact hb1.tape
    · rw [z4, hb.output, h3]; exact hb1.output
    · exact (hk k (by omega) (fun e2 => hns (by rw [e2]; exact hgS.1))).trans (hb1.block k hk2)
theorem rwithin_q (A B : Option Addr) (n c m d : Nat) (l k : List Bs) (w : World) (hl : Ss w A n c l) (hk : Ss w B m d k) (hsl : Short l) (hsk : Short k) (hn : n ≤ 100000) (hmm : m ≤ 100000) :
    Calls Tryd.prog 62 #[.slice A n c, .slice B m d] w fun e w' => e = .returned (.bool (withinS l k)) ∧ w' = w := (rwithin_any A B n c m d l k w hl hk hsl hsk hn hmm).mono fun _ _ ⟨h1, h2⟩ => ⟨h1, h2.symm⟩
theorem rref_grow (wx : World) {w' : World} {S : Nat → Prop} {G : Nat} {st : Fs} (h : RefE w' S G st) : RefE w' (Go.Proofs.YtapooonlbjgbgaaDoor.grow S wx w') G st :=
  h.keep (fun _ e => Or.inl e) (fun _ _ => rfl) (Nat.le_refl _) (fun k e => by
    rcases e with e | e
    · exact h.lt k e
    · exact e.2)
set_option maxRecDepth 100000 in
set_option maxHeartbeats 8000000 in
theorem rapr_any {w : World} {S : Nat → Prop} {G : Nat} {st st' : Fs} {k : Int} (h : RefE w S G st) (u : Bs) (g : Gr) (Ag : Option Addr) (dg : Nat) (hu : u.size ≤ 100000) (now : Int) (hs : Ss w Ag g.scopes.length dg g.scopes) (hsh : Short g.scopes) (hn : g.scopes.length ≤ 1000) (hAS : ∀ a, Ag = some a → 0 < g.scopes.length → ¬ S a.block) (hq : apr st u g now = (st', k)) :
    Calls Tryd.prog 23 #[.pointer (some ⟨G, 0, none⟩), .string u, .agg #[.string g.user, .string g.client, .string g.tenant, .string g.session, .string g.redirect, .string g.nonce, .string g.challenge, .int .i64 g.method, .slice Ag g.scopes.length dg, .int .i64 g.auth, .int .i64 g.level], .int .i64 now] w fun e w' => e = .returned (.int .i64 k) ∧ RefE w' (Go.Proofs.YtapooonlbjgbgaaDoor.grow S w w') G st' ∧ Mods S w w' := by
  obtain ⟨w0, hw0⟩ : ∃ w0, w0 = w.alloc (.cells #[.string g.user, .string g.client, .string g.tenant, .string g.session, .string g.redirect, .string g.nonce, .string g.challenge, .int .i64 g.method, .slice Ag g.scopes.length dg, .int .i64 g.auth, .int .i64 g.level] 39) := ⟨_, rfl⟩
  have hb0 : Below w.heap.size w w0 := by rw [hw0]; go_grown
  have HE := Lib.hid h
  have HE0 := Lib.hid (h.below hb0)
  have HB0 := Lib.hid hb0
  have HX0 := Lib.hid (show w0.heap[w.heap.size]? = some (.cells #[.string g.user, .string g.client, .string g.tenant, .string g.session, .string g.redirect, .string g.nonce, .string g.challenge, .int .i64 g.method, .slice Ag g.scopes.length dg, .int .i64 g.auth, .int .i64 g.level] 39 (0, 0)) by rw [hw0]; exact heap_alloc_new _ _)
  have HS0 := Lib.hid (hs.below hb0)
  have HSH := Lib.hid hsh
  have HAS := Lib.hid hAS
  clear h hs hsh hb0 hAS
  unfold apr at hq
  split at hq
  · next i x er hf =>
    have HV := Lib.hid (show opV (fnF st u now) = ((i : Int), 0) by rw [hf]; rfl)
    obtain ⟨hx, _⟩ := fn_hit hf
    have HXX := Lib.hid hx
    clear hf hx
    by_cases hcl : g.client = x.client
    · have hcb : (g.client.toList == x.client.toList) = true := by rw [beq_bs]; simpa using hcl
      have hcb2 : g.client.toList = x.client.toList := by rw [hcl]
      rw [if_neg (by simpa using hcl)] at hq
      clear hcl
      cases hwi : withinS g.scopes x.scopes with
      | false =>
        rw [if_pos hwi] at hq
        have HWI := Lib.hid hwi
        have HQ := Lib.hid hq
        clear hwi hq
        go_enter Tryd.func23, Tryd.ntmps23
        go_upto_region 1 with fail
        rw [← hw0]
        clear hw0
        go_wp2_with fail
        refine (ropen_any HE0.out u hu now HV.out).mono ?_
        rintro e w1 ⟨rfl, hb⟩
        obtain ⟨I, rv, es, h⟩ := (HE0.out.below hb)
        have HB := Lib.hid (HB0.out.trans (hb.mono HB0.out.size))
        have HBX := Lib.hid (blk_below hb HX0.out)
        have HS1 := Lib.hid (HS0.out.below hb)
        have hle : es.length ≤ 256 := by rw [h.len]; exact h.inv.len
        have hil : i < es.length := by have := (List.getElem?_eq_some_iff.1 HXX.out).1; have := h.len; omega
        obtain ⟨e, he⟩ : ∃ e, es[i]? = some e := ⟨_, List.getElem?_eq_getElem hil⟩
        have hex : e.1 = x := Option.some.inj ((h.get he).symm.trans HXX.out)
        have hsc := h.sc e (List.mem_of_getElem? he)
        rw [hex] at hsc
        have HSC := Lib.hid hsc.1
        have hss := h.inv.sc x (List.mem_of_getElem? HXX.out)
        have HSS := Lib.hid hss.1
        have hsn := hss.2
        obtain ⟨A, c, rfl⟩ := h.own.len
        have c2 := cell_block h.hG 2
        simp only [List.getElem?_toArray, List.getElem?_cons_zero, List.getElem?_cons_succ] at c2
        obtain ⟨gb, rfl, hg, hc⟩ := h.own.at he
        have k2 : w1.cell? ⟨gb, i * 20 + 2, none⟩ = some (.string x.client) := by rw [← hex]; exact hc 2 _ rfl
        have k3 : w1.cell? ⟨gb, i * 20 + 3, none⟩ = some (.slice e.2.1 x.scopes.length e.2.2.1) := by rw [← hex]; exact hc 3 _ rfl
        have HRG := Lib.hid (fun j u (hj : (fl20 e)[j]? = some u) => hc j u hj)
        have p1 := cell_block HBX.out 1
        have p8 := cell_block HBX.out 8
        simp only [List.getElem?_toArray, List.getElem?_cons_zero, List.getElem?_cons_succ] at p1 p8
        have HEX := Lib.hid hex
        have HEE := Lib.hid he
        have HP := Lib.hid h
        clear hb hc he hex h hsc hss hg
        go_wp2_with fail
        go_quiet (fail)
        obtain ⟨w2, hw2⟩ : ∃ w2, w2 = w1.drewN nq := ⟨_, rfl⟩
        rw [← hw2]
        have hb2 : Below w1.heap.size w1 w2 := by rw [hw2]; exact below_drewN (Below.refl _ _) _
        have HB2 := Lib.hid (HB.out.trans (hb2.mono HB.out.size))
        have HBD2 := Lib.hid hb2
        have c2' := cell_below hb2 c2
        have k3' := cell_below hb2 k3
        have p8' := cell_below hb2 p8
        have HSG2 := Lib.hid (HS1.out.below hb2)
        have HSC2 := Lib.hid (HSC.out.below hb2)
        clear hw2 hb2 c2 k2 k3 p1 p8
        go_wp2_with fail
        go_quiet ((go_at_call 62; exact Calls.quiet_of_same (rwithin_q Ag e.2.1 g.scopes.length dg x.scopes.length e.2.2.1 g.scopes x.scopes _ (HSG2.out.below (below_drewN (Below.refl _ _) _)) (HSC2.out.below (below_drewN (Below.refl _ _) _)) HSH.out HSS.out (by omega) (by omega))))
        simp only [HWI.out]
        go_wp2
        go_ret
        obtain ⟨q1, q2⟩ := Prod.mk.inj HQ.out
        rw [← q1, ← q2]
        exact ⟨rfl, rref_grow w (HE.out.below (HB2.out.trans ((below_drewN (Below.refl _ _) _).mono HB2.out.size))), Mods.of_below _ (HB2.out.trans ((below_drewN (Below.refl _ _) _).mono HB2.out.size))⟩
      | true =>
        rw [if_neg (by rw [hwi]; decide)] at hq
        have HWI := Lib.hid hwi
        have HQ := Lib.hid hq
        clear hwi hq
        go_enter Tryd.func23, Tryd.ntmps23
        go_upto_region 1 with fail
        rw [← hw0]
        clear hw0
        go_wp2_with fail
        refine (ropen_any HE0.out u hu now HV.out).mono ?_
        rintro e w1 ⟨rfl, hb⟩
        obtain ⟨I, rv, es, h⟩ := (HE0.out.below hb)
        have HB := Lib.hid (HB0.out.trans (hb.mono HB0.out.size))
        have HBX := Lib.hid (blk_below hb HX0.out)
        have HS1 := Lib.hid (HS0.out.below hb)
        have hle : es.length ≤ 256 := by rw [h.len]; exact h.inv.len
        have hil : i < es.length := by have := (List.getElem?_eq_some_iff.1 HXX.out).1; have := h.len; omega
        obtain ⟨e, he⟩ : ∃ e, es[i]? = some e := ⟨_, List.getElem?_eq_getElem hil⟩
        have hex : e.1 = x := Option.some.inj ((h.get he).symm.trans HXX.out)
        have hsc := h.sc e (List.mem_of_getElem? he)
        rw [hex] at hsc
        have HSC := Lib.hid hsc.1
        have hss := h.inv.sc x (List.mem_of_getElem? HXX.out)
        have HSS := Lib.hid hss.1
        have hsn := hss.2
        obtain ⟨A, c, rfl⟩ := h.own.len
        have c2 := cell_block h.hG 2
        simp only [List.getElem?_toArray, List.getElem?_cons_zero, List.getElem?_cons_succ] at c2
        obtain ⟨gb, rfl, hg, hc⟩ := h.own.at he
        have k2 : w1.cell? ⟨gb, i * 20 + 2, none⟩ = some (.string x.client) := by rw [← hex]; exact hc 2 _ rfl
        have k3 : w1.cell? ⟨gb, i * 20 + 3, none⟩ = some (.slice e.2.1 x.scopes.length e.2.2.1) := by rw [← hex]; exact hc 3 _ rfl
        have HRG := Lib.hid (fun j u (hj : (fl20 e)[j]? = some u) => hc j u hj)
        have p1 := cell_block HBX.out 1
        have p8 := cell_block HBX.out 8
        simp only [List.getElem?_toArray, List.getElem?_cons_zero, List.getElem?_cons_succ] at p1 p8
        have HEX := Lib.hid hex
        have HEE := Lib.hid he
        have HP := Lib.hid h
        clear hb hc he hex h hsc hss hg
        go_wp2_with fail
        go_quiet (fail)
        obtain ⟨w2, hw2⟩ : ∃ w2, w2 = w1.drewN nq := ⟨_, rfl⟩
        rw [← hw2]
        have hb2 : Below w1.heap.size w1 w2 := by rw [hw2]; exact below_drewN (Below.refl _ _) _
        have HB2 := Lib.hid (HB.out.trans (hb2.mono HB.out.size))
        have HBD2 := Lib.hid hb2
        have c2' := cell_below hb2 c2
        have k3' := cell_below hb2 k3
        have p8' := cell_below hb2 p8
        have HSG2 := Lib.hid (HS1.out.below hb2)
        have HSC2 := Lib.hid (HSC.out.below hb2)
        clear hw2 hb2 c2 k2 k3 p1 p8
        go_wp2_with fail
        go_quiet ((go_at_call 62; exact Calls.quiet_of_same (rwithin_q Ag e.2.1 g.scopes.length dg x.scopes.length e.2.2.1 g.scopes x.scopes _ (HSG2.out.below (below_drewN (Below.refl _ _) _)) (HSC2.out.below (below_drewN (Below.refl _ _) _)) HSH.out HSS.out (by omega) (by omega))))
        simp only [HWI.out]
        obtain ⟨wq, hwq⟩ : ∃ wq, wq = w2.drewN nq := ⟨_, rfl⟩
        rw [← hwq]
        have hbq : Below w2.heap.size w2 wq := by rw [hwq]; exact below_drewN (Below.refl _ _) _
        have HBQ := Lib.hid (HB2.out.trans (hbq.mono HB2.out.size))
        have hb1q := HBD2.out.trans (hbq.mono HBD2.out.size)
        have HPQ := Lib.hid (HP.out.below hb1q)
        have HXQ := Lib.hid (blk_below hb1q HBX.out)
        have HSQ := Lib.hid (HSG2.out.below hbq)
        have c2q := cell_below hbq c2'
        have k6 : wq.cell? ⟨gb, i * 20 + 6, none⟩ = some (.int .i64 x.state) := by rw [← HEX.out]; exact cell_below hb1q (HRG.out 6 _ rfl)
        have f6 := HPQ.out.fz (i * 20 + 6)
        clear hwq hbq hb1q c2' k3' p8'
        go_upto_region 9 with fail
        obtain ⟨w3, hw3⟩ : ∃ w3, w3 = wq.setCell ⟨gb, i * 20 + 6, none⟩ (.int .i64 1) := ⟨_, rfl⟩
        rw [← hw3]
        have HW3 := Lib.hid hw3
        have hgS := HPQ.out.sv gb rfl
        have hgl := HE.out.lt gb hgS.1
        have HGS := Lib.hid hgS
        have HGG := Lib.hid (show G ≠ gb from fun e2 => hgS.2.2 e2.symm)
        have HXG := Lib.hid (show w.heap.size ≠ gb by omega)
        have hx3 : w3.heap[w.heap.size]? = some (.cells #[.string g.user, .string g.client, .string g.tenant, .string g.session, .string g.redirect, .string g.nonce, .string g.challenge, .int .i64 g.method, .slice Ag g.scopes.length dg, .int .i64 g.auth, .int .i64 g.level] 39 (0, 0)) := by rw [hw3]; exact (Below.heap_setCell _ _ _ _ HXG.out).trans HXQ.out
        have hc3 : w3.cell? ⟨G, 2, none⟩ = some (.slice (some ⟨gb, 0, none⟩) es.length c) := by rw [hw3]; exact (World.cell?_of_block (Below.heap_setCell _ _ _ _ HGG.out)).trans c2q
        have HS3 := Lib.hid (show Ss w3 Ag g.scopes.length dg g.scopes by
          have hs : ∀ a, Ag = some a → 0 < g.scopes.length → a.block ≠ gb := fun a ha hl e2 => HAS.out a ha hl (by rw [e2]; exact HGS.out.1)
          rw [hw3]
          exact ss_keep (S := fun k => k ≠ gb) HSQ.out (fun a ha hl => hs a ha hl) (fun k hk2 => Below.heap_setCell _ _ _ _ hk2) (by simp [World.setCell]))
        have HC9 := Lib.hid (show ∀ w', Below w3.heap.size w3 w' → (fun w' => w'.cell? ⟨G, 2, none⟩ = some (.slice (some ⟨gb, 0, none⟩) es.length c) ∧ w'.cell? ⟨w.heap.size, 0, none⟩ = some (.string g.user) ∧ w'.cell? ⟨w.heap.size, 1, none⟩ = some (.string g.client) ∧ w'.cell? ⟨w.heap.size, 2, none⟩ = some (.string g.tenant) ∧ w'.cell? ⟨w.heap.size, 3, none⟩ = some (.string g.session) ∧ w'.cell? ⟨w.heap.size, 4, none⟩ = some (.string g.redirect) ∧ w'.cell? ⟨w.heap.size, 5, none⟩ = some (.string g.nonce) ∧ w'.cell? ⟨w.heap.size, 6, none⟩ = some (.string g.challenge) ∧ w'.cell? ⟨w.heap.size, 7, none⟩ = some (.int .i64 g.method) ∧ w'.cell? ⟨w.heap.size, 8, none⟩ = some (.slice Ag g.scopes.length dg) ∧ w'.cell? ⟨w.heap.size, 9, none⟩ = some (.int .i64 g.auth) ∧ w'.cell? ⟨w.heap.size, 10, none⟩ = some (.int .i64 g.level)) w' from fun w' hb => by
          obtain ⟨y0, y1, y2, y3, y4, y5, y6, y7, y8, y9, y10⟩ := cells11 hx3
          exact ⟨cell_below hb hc3, cell_below hb y0, cell_below hb y1, cell_below hb y2, cell_below hb y3, cell_below hb y4, cell_below hb y5, cell_below hb y6, cell_below hb y7, cell_below hb y8, cell_below hb y9, cell_below hb y10⟩)
        have KEEPS := Lib.hid (show ∀ w', Below w3.heap.size w3 w' → ∀ vs, (fun w' => w'.cell? ⟨G, 2, none⟩ = some (.slice (some ⟨gb, 0, none⟩) es.length c) ∧ w'.cell? ⟨w.heap.size, 0, none⟩ = some (.string g.user) ∧ w'.cell? ⟨w.heap.size, 1, none⟩ = some (.string g.client) ∧ w'.cell? ⟨w.heap.size, 2, none⟩ = some (.string g.tenant) ∧ w'.cell? ⟨w.heap.size, 3, none⟩ = some (.string g.session) ∧ w'.cell? ⟨w.heap.size, 4, none⟩ = some (.string g.redirect) ∧ w'.cell? ⟨w.heap.size, 5, none⟩ = some (.string g.nonce) ∧ w'.cell? ⟨w.heap.size, 6, none⟩ = some (.string g.challenge) ∧ w'.cell? ⟨w.heap.size, 7, none⟩ = some (.int .i64 g.method) ∧ w'.cell? ⟨w.heap.size, 8, none⟩ = some (.slice Ag g.scopes.length dg) ∧ w'.cell? ⟨w.heap.size, 9, none⟩ = some (.int .i64 g.auth) ∧ w'.cell? ⟨w.heap.size, 10, none⟩ = some (.int .i64 g.level)) (w'.setCells gb (i * 20 + 9) vs) from fun w' hb vs => by
          obtain ⟨y0, y1, y2, y3, y4, y5, y6, y7, y8, y9, y10⟩ := cells11 hx3
          exact ⟨(World.cell?_of_block (setCells_other _ _ _ _ _ HGG.out)).trans (cell_below hb hc3), (World.cell?_of_block (setCells_other _ _ _ _ _ HXG.out)).trans (cell_below hb y0), (World.cell?_of_block (setCells_other _ _ _ _ _ HXG.out)).trans (cell_below hb y1), (World.cell?_of_block (setCells_other _ _ _ _ _ HXG.out)).trans (cell_below hb y2), (World.cell?_of_block (setCells_other _ _ _ _ _ HXG.out)).trans (cell_below hb y3), (World.cell?_of_block (setCells_other _ _ _ _ _ HXG.out)).trans (cell_below hb y4), (World.cell?_of_block (setCells_other _ _ _ _ _ HXG.out)).trans (cell_below hb y5), (World.cell?_of_block (setCells_other _ _ _ _ _ HXG.out)).trans (cell_below hb y6), (World.cell?_of_block (setCells_other _ _ _ _ _ HXG.out)).trans (cell_below hb y7), (World.cell?_of_block (setCells_other _ _ _ _ _ HXG.out)).trans (cell_below hb y8), (World.cell?_of_block (setCells_other _ _ _ _ _ HXG.out)).trans (cell_below hb y9), (World.cell?_of_block (setCells_other _ _ _ _ _ HXG.out)).trans (cell_below hb y10)⟩)
        have THERE := Lib.hid (show ∀ w', Below w3.heap.size w3 w' → w'.there gb (i * 20 + 9) 11 from fun w' hb j hj => by
          have o3 := (HPQ.out.own.set HEE.out (show 6 < 20 by omega) (e' := (({ e.1 with state := 1 } : Fw), e.2)) (u := .int .i64 1) rfl)
          rw [← hw3] at o3
          have o4 := o3.keep (fun k hk2 => hb.block k (o3.lt k hk2))
          have hil' := hil
          obtain ⟨u, hu⟩ : ∃ u, (fl20 (({ e.1 with state := 1 } : Fw), e.2))[9 + j]? = some u := ⟨_, List.getElem?_eq_getElem (by rw [fl20_length]; omega)⟩
          exact ⟨by rw [Nat.add_assoc, own_at' (by simp) o4 (show (es.set i (({ e.1 with state := 1 } : Fw), e.2))[i]? = some (({ e.1 with state := 1 } : Fw), e.2) by rw [List.getElem?_set, if_pos rfl, if_pos hil']) (9 + j) u hu]; rfl, o4.fz _⟩)
        clear hw3 hgS hgl hx3 hc3 c2q k6 f6
        go_wp2_with fail
        refine wp_region_held_drew (S := (fun w' => w'.cell? ⟨G, 2, none⟩ = some (.slice (some ⟨gb, 0, none⟩) es.length c) ∧ w'.cell? ⟨w.heap.size, 0, none⟩ = some (.string g.user) ∧ w'.cell? ⟨w.heap.size, 1, none⟩ = some (.string g.client) ∧ w'.cell? ⟨w.heap.size, 2, none⟩ = some (.string g.tenant) ∧ w'.cell? ⟨w.heap.size, 3, none⟩ = some (.string g.session) ∧ w'.cell? ⟨w.heap.size, 4, none⟩ = some (.string g.redirect) ∧ w'.cell? ⟨w.heap.size, 5, none⟩ = some (.string g.nonce) ∧ w'.cell? ⟨w.heap.size, 6, none⟩ = some (.string g.challenge) ∧ w'.cell? ⟨w.heap.size, 7, none⟩ = some (.int .i64 g.method) ∧ w'.cell? ⟨w.heap.size, 8, none⟩ = some (.slice Ag g.scopes.length dg) ∧ w'.cell? ⟨w.heap.size, 9, none⟩ = some (.int .i64 g.auth) ∧ w'.cell? ⟨w.heap.size, 10, none⟩ = some (.int .i64 g.level))) (by kernel_rfl) ?_ (fun hHeld => ?_)
        focus ((try dsimp only); (first | exact SK.out | exact HC9.out _ (Below.refl _ _) | exact HC9.out _ HB4.out | exact HC9.out _ ((Below.refl _ _).drew)); done)
        refine wpAnyH_take (i := 0) (oi := ⟨_, _, _, _, _, _⟩) (v := ?_) rfl (by kernel_rfl) (by kernel_rfl) (by kernel_rfl) (fun _ _ _ h => h) (Or.inl ⟨by rfl, ?_⟩) (by assumption) ?_; rotate_left; (focus (intro w hSw; (try dsimp only at hSw); go_simp; (try with_reducible rfl); done)); simp only [Act.put, List.setIfInBounds_toArray, List.set_cons_zero, List.set_cons_succ]
        refine wpAnyH_take (i := 1) (oi := ⟨_, _, _, _, _, _⟩) (v := ?_) rfl (by kernel_rfl) (by kernel_rfl) (by kernel_rfl) (fun _ _ _ h => h) (Or.inl ⟨by rfl, ?_⟩) (by assumption) ?_; rotate_left; (focus (intro w hSw; (try dsimp only at hSw); go_simp; (try with_reducible rfl); done)); simp only [Act.put, List.setIfInBounds_toArray, List.set_cons_zero, List.set_cons_succ]
        refine wpAnyH_take (i := 2) (oi := ⟨_, _, _, _, _, _⟩) (v := ?_) rfl (by kernel_rfl) (by kernel_rfl) (by kernel_rfl) (fun _ _ _ h => h) (Or.inl ⟨by rfl, ?_⟩) (by assumption) ?_; rotate_left; (focus (intro w hSw; (try dsimp only at hSw); go_simp; (try with_reducible rfl); done)); simp only [Act.put, List.setIfInBounds_toArray, List.set_cons_zero, List.set_cons_succ]
        refine wpAnyH_take (i := 3) (oi := ⟨_, _, _, _, _, _⟩) (v := ?_) rfl (by kernel_rfl) (by kernel_rfl) (by kernel_rfl) (fun _ _ _ h => h) (Or.inl ⟨by rfl, ?_⟩) (by assumption) ?_; rotate_left; (focus (intro w hSw; (try dsimp only at hSw); go_simp; (try with_reducible rfl); done)); simp only [Act.put, List.setIfInBounds_toArray, List.set_cons_zero, List.set_cons_succ]
        refine wpAnyH_take (i := 4) (oi := ⟨_, _, _, _, _, _⟩) (v := ?_) rfl (by kernel_rfl) (by kernel_rfl) (by kernel_rfl) (fun _ _ _ h => h) (Or.inl ⟨by rfl, ?_⟩) (by assumption) ?_; rotate_left; (focus (intro w hSw; (try dsimp only at hSw); go_simp; (try with_reducible rfl); done)); simp only [Act.put, List.setIfInBounds_toArray, List.set_cons_zero, List.set_cons_succ]
        refine wpAnyH_take (i := 5) (oi := ⟨_, _, _, _, _, _⟩) (v := ?_) rfl (by kernel_rfl) (by kernel_rfl) (by kernel_rfl) (fun _ _ _ h => h) (Or.inl ⟨by rfl, ?_⟩) (by assumption) ?_; rotate_left; (focus (intro w hSw; (try dsimp only at hSw); go_simp; (try with_reducible rfl); done)); simp only [Act.put, List.setIfInBounds_toArray, List.set_cons_zero, List.set_cons_succ]
        refine wpAnyH_ready (rs := [6]) (by kernel_rfl) (by simp) ?_
        refine AllReadyH.cons (o := ⟨_, _, _, _, _, _⟩) rfl (fun K hK => ?_) AllReadyH.nil
        go_simp
        go_wp2_with fail
        refine (copied_any w3.drew g Ag dg (HS3.out.below ((Below.refl _ _).drew)) (by omega)).mono ?_
        rintro e4 w4 ⟨B, d, rfl, hfr, hb⟩
        have HFR := Lib.hid (show Fresh w4 w3.heap.size B d g.scopes from hfr)
        have HB4 := Lib.hid (((Below.refl w3.heap.size w3).drew).trans (show Below w3.heap.size w3.drew w4 from hb))
        clear hfr hb
        (try go_wp2_with fail)
        refine hK.out _ _ ?_ (fun hHeld => ?_)
        focus ((try dsimp only); (first | exact SK.out | exact HC9.out _ (Below.refl _ _) | exact HC9.out _ HB4.out | exact HC9.out _ ((Below.refl _ _).drew)); done)
        clear hK K
        (try simp only [Act.put, List.setIfInBounds_toArray, List.set_cons_zero, List.set_cons_succ])
        refine wpAnyH_take (i := 7) (oi := ⟨_, _, _, _, _, _⟩) (v := ?_) rfl (by kernel_rfl) (by kernel_rfl) (by kernel_rfl) (fun _ _ _ h => h) (Or.inl ⟨by rfl, ?_⟩) (by assumption) ?_; rotate_left; (focus (intro w hSw; (try dsimp only at hSw); go_simp; (try with_reducible rfl); done)); simp only [Act.put, List.setIfInBounds_toArray, List.set_cons_zero, List.set_cons_succ]
        refine wpAnyH_take (i := 8) (oi := ⟨_, _, _, _, _, _⟩) (v := ?_) rfl (by kernel_rfl) (by kernel_rfl) (by kernel_rfl) (fun _ _ _ h => h) (Or.inl ⟨by rfl, ?_⟩) (by assumption) ?_; rotate_left; (focus (intro w hSw; (try dsimp only at hSw); go_simp; (try with_reducible rfl); done)); simp only [Act.put, List.setIfInBounds_toArray, List.set_cons_zero, List.set_cons_succ]
        refine wpAnyH_ready (rs := [9]) (by kernel_rfl) (by simp) ?_
        refine AllReadyH.cons (o := ⟨_, _, _, _, _, _⟩) rfl (fun K hK => ?_) AllReadyH.nil
        refine wp_store_mid 39 (.tmp 59) (.tmp 57) rfl gb (i * 20 + 9) #[.string g.user, .string g.client, .string g.tenant, .string g.session, .string g.redirect, .string g.nonce, .string g.challenge, .int .i64 g.method, .slice B g.scopes.length d, .int .i64 g.auth, .int .i64 g.level] rfl rfl (THERE.out w4 HB4.out) (by kernel_rfl) (by simp [Value.oneCell']) ?_
        have SK := Lib.hid (KEEPS.out w4 HB4.out [.string g.user, .string g.client, .string g.tenant, .string g.session, .string g.redirect, .string g.nonce, .string g.challenge, .int .i64 g.method, .slice B g.scopes.length d, .int .i64 g.auth, .int .i64 g.level])
        (try go_wp2_with fail)
        refine hK.out _ _ ?_ (fun hHeld => ?_)
        focus ((try dsimp only); (first | exact SK.out | exact HC9.out _ (Below.refl _ _) | exact HC9.out _ HB4.out | exact HC9.out _ ((Below.refl _ _).drew)); done)
        clear hK K
        (try simp only [Act.put, List.setIfInBounds_toArray, List.set_cons_zero, List.set_cons_succ])
        refine wpAnyH_done (by kernel_rfl) ?_ _
        obtain ⟨w5, hw5⟩ : ∃ w5, w5 = w4.setCells gb (i * 20 + 9) [.string g.user, .string g.client, .string g.tenant, .string g.session, .string g.redirect, .string g.nonce, .string g.challenge, .int .i64 g.method, .slice B g.scopes.length d, .int .i64 g.auth, .int .i64 g.level] := ⟨_, rfl⟩
        have HF := Lib.hid (ref_apr HPQ.out HEE.out HBQ.out HE.out.lt HW3.out HB4.out HFR.out hw5 HSH.out hn)
        rw [HEX.out] at HF
        rw [← hw5]
        clear KEEPS THERE hw5
        go_wp2
        go_ret
        obtain ⟨q1, q2⟩ := Prod.mk.inj HQ.out
        rw [← q1, ← q2]
        exact ⟨rfl, HF.out⟩
    · have hcb : (g.client.toList == x.client.toList) = false := by rw [beq_bs]; simpa using hcl
      have hcb2 : ¬ g.client.toList = x.client.toList := by rw [← beq_iff_eq, hcb]; decide
      rw [if_pos hcl] at hq
      have HQ := Lib.hid hq
      clear hcl hq
      go_enter Tryd.func23, Tryd.ntmps23
      go_upto_region 1 with fail
      rw [← hw0]
      clear hw0
      go_wp2_with fail
      refine (ropen_any HE0.out u hu now HV.out).mono ?_
      rintro e w1 ⟨rfl, hb⟩
      obtain ⟨I, rv, es, h⟩ := (HE0.out.below hb)
      have HB := Lib.hid (HB0.out.trans (hb.mono HB0.out.size))
      have HBX := Lib.hid (blk_below hb HX0.out)
      have HS1 := Lib.hid (HS0.out.below hb)
      have hle : es.length ≤ 256 := by rw [h.len]; exact h.inv.len
      have hil : i < es.length := by have := (List.getElem?_eq_some_iff.1 HXX.out).1; have := h.len; omega
      obtain ⟨e, he⟩ : ∃ e, es[i]? = some e := ⟨_, List.getElem?_eq_getElem hil⟩
      have hex : e.1 = x := Option.some.inj ((h.get he).symm.trans HXX.out)
      have hsc := h.sc e (List.mem_of_getElem? he)
      rw [hex] at hsc
      have HSC := Lib.hid hsc.1
      have hss := h.inv.sc x (List.mem_of_getElem? HXX.out)
      have HSS := Lib.hid hss.1
      have hsn := hss.2
      obtain ⟨A, c, rfl⟩ := h.own.len
      have c2 := cell_block h.hG 2
      simp only [List.getElem?_toArray, List.getElem?_cons_zero, List.getElem?_cons_succ] at c2
      obtain ⟨gb, rfl, hg, hc⟩ := h.own.at he
      have k2 : w1.cell? ⟨gb, i * 20 + 2, none⟩ = some (.string x.client) := by rw [← hex]; exact hc 2 _ rfl
      have k3 : w1.cell? ⟨gb, i * 20 + 3, none⟩ = some (.slice e.2.1 x.scopes.length e.2.2.1) := by rw [← hex]; exact hc 3 _ rfl
      have HRG := Lib.hid (fun j u (hj : (fl20 e)[j]? = some u) => hc j u hj)
      have p1 := cell_block HBX.out 1
      have p8 := cell_block HBX.out 8
      simp only [List.getElem?_toArray, List.getElem?_cons_zero, List.getElem?_cons_succ] at p1 p8
      have HEX := Lib.hid hex
      have HEE := Lib.hid he
      have HP := Lib.hid h
      clear hb hc he hex h hsc hss hg
      go_wp2_with fail
      go_quiet (fail)
      go_wp2
      go_ret
      obtain ⟨q1, q2⟩ := Prod.mk.inj HQ.out
      rw [← q1, ← q2]
      exact ⟨rfl, rref_grow w (HE.out.below (HB.out.trans ((below_drewN (Below.refl _ _) _).mono HB.out.size))), Mods.of_below _ (HB.out.trans ((below_drewN (Below.refl _ _) _).mono HB.out.size))⟩
  · next er hf =>
    have HQ := Lib.hid hq
    have HV := Lib.hid (show opV (fnF st u now) = (-1, er) by rw [hf]; rfl)
    have hne := fn_err hf
    have hneb : (er == 0) = false := beq_eq_false_iff_ne.2 hne
    clear hf hq
    go_enter Tryd.func23, Tryd.ntmps23
    go_upto_region 1 with fail
    rw [← hw0]
    clear hw0
    go_wp2_with fail
    refine (ropen_any HE0.out u hu now HV.out).mono ?_
    rintro e w1 ⟨rfl, hb⟩
    have HB := Lib.hid (HB0.out.trans (hb.mono HB0.out.size))
    clear hb
    go_wp2
    go_ret
    obtain ⟨q1, q2⟩ := Prod.mk.inj HQ.out
    rw [← q1, ← q2]
    exact ⟨rfl, rref_grow w (HE.out.below (HB.out)), Mods.of_below _ (HB.out)⟩
end Go.Proofs.YtapooonlbjgbgaaDoor.Dv
