/-
  The walk of the statement RefreshPlays.
-/
import Derived.Test.YtfeljihbaekfmaaRfL0
import Derived.Test.YtfeljihbaekfmaaRfZr2
import Derived.Test.YtfeljihbaekfmaaRfSame
import Derived.KernelRfl
namespace Go.Proofs.Ytfeljihbaekfmaa.Rf
open Go.RowKit Go.Proofs.Ytfeljihbaekfmaa.Fo

theorem do_few {st : St} {x : Opx} (hi : Inv st) (hok : opOk x = true) {r : St × (Gr × Int)} (hr : doS st x = r) : r.2.1.scopes.length ≤ 100000 := by
  subst hr
  have z7 : x.sc.length ≤ 20 := (ok_parts hok).2.2.2.2.2.2.1
  have hz : noG.scopes.length ≤ 100000 := Nat.zero_le _
  unfold doS
  by_cases h0 : x.call = 0
  · rw [if_pos h0]; exact hz
  · rw [if_neg h0]
    by_cases h1 : x.call = 1
    · rw [if_pos h1]
      unfold rot
      cases hq : tokI st.l x.tok with
      | none => exact hz
      | some i =>
        simp only
        cases hx : st.l[i]? with
        | none => exact hz
        | some y =>
          simp only
          have hy := (hi.sc y (List.mem_of_getElem? hx)).2
          split
          · exact hz
          · split
            · simp only [rotG]
              split
              · omega
              · omega
            · exact hz
    · rw [if_neg h1]
      split
      · exact hz
      · split
        · exact hz
        · split
          · exact hz
          · split
            · exact hz
            · exact hz
theorem rep_far {w w' : World} {S T : Nat → Prop} {F : Nat} {st : St} (h : RepE w T F st) (hm : Mods S w w') (hd : ∀ k, T k → ¬ S k) : RepE w' T F st :=
  h.keep (fun _ e => e) (fun k e => hm.block k (h.lt k e) (hd k e)) hm.size (fun k e => Nat.lt_of_lt_of_le (h.lt k e) hm.size)
theorem ref_far {w w' : World} {S T : Nat → Prop} {F : Nat} {st : St} (h : RefE w T F st) (hm : Mods S w w') (hd : ∀ k, T k → ¬ S k) : RefE w' T F st :=
  h.keep (fun _ e => e) (fun k e => hm.block k (h.lt k e) (hd k e)) hm.size (fun k e => Nat.lt_of_lt_of_le (h.lt k e) hm.size)
theorem ss_far {w w' : World} {S : Nat → Prop} {A : Option Addr} {n c : Nat} {l : List Bs} (h : Ss w A n c l) (hm : Mods S w w') (hA : ∀ a, A = some a → 0 < n → ¬ S a.block) : Ss w' A n c l := by
  refine ⟨h.1, h.2.1, fun hn => ?_⟩
  obtain ⟨b, off, rfl, hl, hc⟩ := h.2.2 hn
  refine ⟨b, off, rfl, Nat.lt_of_lt_of_le hl hm.size, fun i hi => ?_⟩
  rw [World.cell?_of_block (w := w) (hm.block b hl (hA _ rfl hn))]
  exact hc i hi
theorem new_e {w : World} {l t : Int} {st : St} (h : 1 ≤ limI l ∧ 1 ≤ limI t) (hst : (⟨limI l, limI t, []⟩ : St) = st) : Calls Try.prog 11 #[.int .i64 l, .int .i64 t] w fun e w' => ∃ F T, e = .returned (.tuple #[.pointer (some ⟨F, 0, none⟩), .int .i64 0]) ∧ RepE w' T F st ∧ (∀ k, T k → w.heap.size ≤ k) ∧ Below w.heap.size w w' := by
  refine (new_any l t w).mono ?_
  intro e w' hN
  unfold NewIs at hN
  rw [if_neg (by omega)] at hN
  obtain ⟨F, h1, h2, h3⟩ := hN
  subst hst
  exact ⟨F, _, h1, h2, fun k e => by
    rcases e with e | e
    · exact e.elim
    · exact e.1, h3⟩
theorem rnew_e {w : World} {l t : Int} {st : St} (h : 1 ≤ limI l ∧ 1 ≤ limI t) (hst : (⟨limI l, limI t, []⟩ : St) = st) : Calls Try.prog 12 #[.int .i64 l, .int .i64 t] w fun e w' => ∃ G S, e = .returned (.tuple #[.pointer (some ⟨G, 0, none⟩), .int .i64 0]) ∧ RefE w' S G st ∧ (∀ k, S k → w.heap.size ≤ k) ∧ Below w.heap.size w w' := by
  refine (rnew_any l t w).mono ?_
  intro e w' hN
  unfold RNewIs at hN
  rw [if_neg (by omega)] at hN
  obtain ⟨G, h1, h2, h3, _⟩ := hN
  subst hst
  exact ⟨G, _, h1, h2, fun k e => by rw [e]; exact Nat.le_refl _, h3⟩
theorem rnew_no {w : World} {l t : Int} (h : limI l < 1 ∨ limI t < 1) : Calls Try.prog 12 #[.int .i64 l, .int .i64 t] w fun e w' => e = .returned (.tuple #[.pointer none, .int .i64 2]) ∧ w = w' := by
  refine (rnew_any l t w).mono ?_
  intro e w' hN
  unfold RNewIs at hN
  rw [if_pos h] at hN
  exact hN
/-- The two records lie apart. -/
def Two (w : World) (B F G : Nat) (st : St) : Prop := ∃ T S, RepE w T F st ∧ RefE w S G st ∧ (∀ k, T k → ¬ S k) ∧ (∀ k, T k → B ≤ k) ∧ (∀ k, S k → B ≤ k)
theorem Two.below {w w' : World} {B F G : Nat} {st : St} (h : Two w B F G st) (hb : Below w.heap.size w w') : Two w' B F G st := by
  obtain ⟨T, S, h1, h2, h3⟩ := h
  exact ⟨T, S, h1.below hb, h2.below hb, h3⟩
theorem Two.rep {w : World} {B F G : Nat} {st : St} (h : Two w B F G st) : ∃ T, RepE w T F st := by
  obtain ⟨T, S, h1, h2, h3⟩ := h
  exact ⟨T, h1⟩
theorem Two.ref {w : World} {B F G : Nat} {st : St} (h : Two w B F G st) : ∃ S, RefE w S G st := by
  obtain ⟨T, S, h1, h2, h3⟩ := h
  exact ⟨S, h2⟩
theorem two_new {w w4 w5 : World} {B F G : Nat} {T S : Nat → Prop} {st : St} (h : RepE w4 T F st) (hT : ∀ k, T k → w.heap.size ≤ k) (hb : Below w4.heap.size w4 w5) (hB : B ≤ w.heap.size) (hw : w.heap.size ≤ w4.heap.size) (h2 : RefE w5 S G st) (hS : ∀ k, S k → w4.heap.size ≤ k) : Two w5 B F G st :=
  ⟨T, S, h.below hb, h2, fun k e e2 => by have := h.lt k e; have := hS k e2; omega, fun k e => Nat.le_trans hB (hT k e), fun k e => by have := hS k e; omega⟩
theorem fam2 {w : World} {B F G : Nat} {st : St} (h : Two w B F G st) (t : Bs) (ht : t.size ≤ 100000) {o : Option Bs} (hq : famT st t = o) : Calls Try.prog 15 #[.pointer (some ⟨F, 0, none⟩), .string t] w fun e w' => e = .returned (.tuple #[.string (o.getD eB), .bool o.isSome]) ∧ w = w' := by
  obtain ⟨S, h⟩ := h.rep
  subst hq
  exact family_any h t ht
theorem rfam2 {w : World} {B F G : Nat} {st : St} (h : Two w B F G st) (t : Bs) {o : Option Bs} (hq : famT st t = o) : Calls Try.prog 16 #[.pointer (some ⟨G, 0, none⟩), .string t] w fun e w' => e = .returned (.tuple #[.string (o.getD eB), .bool o.isSome]) ∧ w = w' := by
  obtain ⟨S, h⟩ := h.ref
  subst hq
  exact rfamily_any h t
theorem len2 {w : World} {B F G : Nat} {st : St} (h : Two w B F G st) (now : Int) {n : Nat} (hq : lenS st now = n) : Calls Try.prog 18 #[.pointer (some ⟨F, 0, none⟩), .int .i64 now] w fun e w' => e = .returned (.int .i64 n) ∧ Below w.heap.size w w' := by
  obtain ⟨S, h⟩ := h.rep
  subst hq
  exact len_any h now
theorem rlen2 {w : World} {B F G : Nat} {st : St} (h : Two w B F G st) (now : Int) {n : Nat} (hq : lenS st now = n) : Calls Try.prog 19 #[.pointer (some ⟨G, 0, none⟩), .int .i64 now] w fun e w' => e = .returned (.int .i64 n) ∧ Below w.heap.size w w' := by
  obtain ⟨S, h⟩ := h.ref
  subst hq
  exact rlen_any h now
theorem live2 {w : World} {B F G : Nat} {st : St} (h : Two w B F G st) (i : Bs) (hi : i.size ≤ 100000) (now : Int) {b : Bool} (hq : liveI st i now = b) : Calls Try.prog 20 #[.pointer (some ⟨F, 0, none⟩), .string i, .int .i64 now] w fun e w' => e = .returned (.bool b) ∧ Below w.heap.size w w' := by
  obtain ⟨S, h⟩ := h.rep
  subst hq
  exact live_any h i hi now
theorem rlive2 {w : World} {B F G : Nat} {st : St} (h : Two w B F G st) (i : Bs) (now : Int) {b : Bool} (hq : liveI st i now = b) : Calls Try.prog 21 #[.pointer (some ⟨G, 0, none⟩), .string i, .int .i64 now] w fun e w' => e = .returned (.bool b) ∧ Below w.heap.size w w' := by
  obtain ⟨S, h⟩ := h.ref
  subst hq
  exact rlive_any h i now
set_option maxRecDepth 100000 in
set_option maxHeartbeats 8000000 in
theorem plays_any (w : World) (life total att : Int) (A : Option Addr) (n c : Nat) (l : List Opx) (hs : Os w A n c l) (hm : MX w) :
    Calls Try.prog 3 #[.int .i64 life, .int .i64 total, .slice A n c, .int .i64 att] w fun e w' => e = .returned (.bool true) ∧ Below w.heap.size w w' := by
  have HS := Lib.hid hs
  have HLN := Lib.hid hs.1
  have HM := Lib.hid hm
  clear hs hm
  by_cases hl1 : lightB l = true
  · have HL1 := Lib.hid hl1
    clear hl1
    have hn24 : n ≤ 24 := by rw [← HLN.out]; exact light_len HL1.out
    go_enter Try.func3, Try.ntmps3
    go_wp2_with fail
    refine (light_is w A n c l HS.out HL1.out).mono ?_
    rintro e w1 ⟨rfl, hb⟩
    have Hw1 := Lib.hid hb
    clear hb
    by_cases hlf : 1 ≤ limI life ∧ 1 ≤ limI total
    · go_wp2_with fail
      refine (new_e (l := life) (t := total) hlf rfl).mono ?_
      rintro e w4 ⟨F, T0, rfl, hr4, hT0, hb4⟩
      have HB4 := Lib.hid (Hw1.out.trans (hb4.mono Hw1.out.size))
      have HR4 := Lib.hid hr4
      have HT0 := Lib.hid hT0
      have HZ4 := Lib.hid hb4.size
      clear hr4 hT0 hb4
      go_wp2_with fail
      refine (rnew_e (l := life) (t := total) hlf rfl).mono ?_
      rintro e w5 ⟨G, S0, rfl, hr5, hS0, hb5⟩
      have HB5 := Lib.hid (HB4.out.trans (hb5.mono HB4.out.size))
      have HTW5 := Lib.hid (two_new HR4.out HT0.out hb5 Hw1.out.size HZ4.out hr5 hS0)
      clear hr5 hS0 hb5 HR4 HT0 HZ4
      go_wp2_with fail
      go_loopw [13, 14, 15, 16, 17, 18, 19, 20, 21] (fun i _ _ _ _ _ _ _ _ wr => ∃ (k : Nat) (st : St), i = .int .i64 k ∧ k ≤ n ∧ Two wr w.heap.size F G st ∧ Below w.heap.size w wr) (fun i _ _ _ _ _ _ _ _ _ => n - (intOf i).toNat)
      case atStart => exact ⟨0, _, rfl, Nat.zero_le _, HTW5.out, HB5.out⟩
      case round =>
        obtain ⟨k, st, rfl, hk, htw, hb⟩ := hrel
        obtain ⟨T, S, hrep, href, hdis, hTB, hSB⟩ := htw
        have HB := Lib.hid hb
        clear hb
        by_cases hlt : k < n
        · have HOK := Lib.hid (light_at HL1.out (k := k) (by rw [HLN.out]; exact hlt))
          obtain ⟨bh, oh, Ah, dh, xh, rfl, hlh, hxh, h0, h1, h2, h3, h4, h5, h6, h7, h8, hsh, hzh⟩ := HS.out.at (by omega : k < n)
          have h0' := (bkeep HB.out hlh _).trans h0
          have h1' := (bkeep HB.out hlh _).trans h1
          have h2' := (bkeep HB.out hlh _).trans h2
          have h3' := (bkeep HB.out hlh _).trans h3
          have h4' := (bkeep HB.out hlh _).trans h4
          have h5' := (bkeep HB.out hlh _).trans h5
          have h6' := (bkeep HB.out hlh _).trans h6
          have h7' := (bkeep HB.out hlh _).trans h7
          have h8' := (bkeep HB.out hlh _).trans h8
          rw [hxh] at HOK
          clear hxh
          obtain ⟨r, hr⟩ : ∃ r, doS st xh = r := ⟨_, rfl⟩
          have HFEW := Lib.hid (do_few hrep.inv HOK.out hr)
          have hdo := do_any hrep xh Ah dh (hsh.below HB.out) HOK.out (HM.out.below HB.out) (fun a ha hl hT => absurd (hzh a ha hl) (by have := hTB _ hT; omega))
          have HRD := Lib.hid (fun (w : World) (S : Nat → Prop) (h : RefE w S G st) (hs : Ss w Ah xh.sc.length dh xh.sc) (hBS : ∀ a, Ah = some a → 0 < xh.sc.length → ¬ S a.block) => (hr ▸ rdo_any h xh Ah dh hs HOK.out hBS : Calls Try.prog 14 #[.pointer (some ⟨G, 0, none⟩), .agg #[.int .i64 xh.call, .int .i64 xh.now, .string xh.id, .string xh.tok, .string xh.nxt, .string xh.user, .string xh.cl, .string xh.ses, .slice Ah xh.sc.length dh]] w (RDoIs w S G r)))
          rw [hr] at hdo
          have HDO := Lib.hid hdo
          have HR := Lib.hid hrep
          have HG := Lib.hid href
          have HD := Lib.hid hdis
          have HTB := Lib.hid hTB
          have HSB := Lib.hid hSB
          have HSh := Lib.hid hsh
          have HZh := Lib.hid hzh
          have HHH := Lib.hid (And.intro h1 (And.intro h2 h3))
          clear hdo hrep href hdis hTB hSB hr hsh hzh
          go_wp2_with fail
          refine HDO.out.mono ?_
          rintro e w5 ⟨A5, d5, rfl, hss5, hfr5, hr5, hm5⟩
          have HB5 := Lib.hid (HB.out.trans (hm5.toBelow HB.out.size HTB.out))
          have HG5 := Lib.hid (ref_far HG.out hm5 (fun k e e2 => HD.out k e2 e))
          have HR5 := Lib.hid hr5
          have HSS5 := Lib.hid hss5
          have HFR5 := Lib.hid hfr5
          have HZ5 := Lib.hid hm5.size
          clear hss5 hfr5 hr5 hm5 HDO
          clear h0' h1' h2' h3' h4' h5' h6' h7' h8'
          go_upto_region 11 with fail
          obtain ⟨w6, hw6⟩ : ∃ w', w' = w5.alloc (.cells #[.string r.2.1.user, .string r.2.1.client, .string r.2.1.tenant, .string r.2.1.session, .string r.2.1.redirect, .string r.2.1.nonce, .string r.2.1.challenge, .int .i64 r.2.1.method, (.slice A5 r.2.1.scopes.length d5), .int .i64 r.2.1.auth, .int .i64 r.2.1.level] 35) := ⟨_, rfl⟩
          have hb6 : Below w5.heap.size w5 w6 := by rw [hw6]; go_grown
          have hz6 : w6.heap.size = w5.heap.size + 1 := by rw [hw6]; simp
          have HQ6 := Lib.hid (show w6.heap[w5.heap.size]? = some (.cells #[.string r.2.1.user, .string r.2.1.client, .string r.2.1.tenant, .string r.2.1.session, .string r.2.1.redirect, .string r.2.1.nonce, .string r.2.1.challenge, .int .i64 r.2.1.method, (.slice A5 r.2.1.scopes.length d5), .int .i64 r.2.1.auth, .int .i64 r.2.1.level] 35 (0, 0)) by rw [hw6]; exact heap_alloc_new _ _)
          rw [← hw6]
          have HB6 := Lib.hid (HB5.out.trans (hb6.mono HB5.out.size))
          have HG6 := Lib.hid (HG5.out.below hb6)
          have HR6 := Lib.hid (HR5.out.below hb6)
          have HSS6 := Lib.hid (HSS5.out.below hb6)
          have HZ6 := Lib.hid hz6
          clear hw6 hb6 hz6 HG5 HR5 HSS5
          have h0' := (bkeep HB6.out hlh _).trans h0
          have h1' := (bkeep HB6.out hlh _).trans h1
          have h2' := (bkeep HB6.out hlh _).trans h2
          have h3' := (bkeep HB6.out hlh _).trans h3
          have h4' := (bkeep HB6.out hlh _).trans h4
          have h5' := (bkeep HB6.out hlh _).trans h5
          have h6' := (bkeep HB6.out hlh _).trans h6
          have h7' := (bkeep HB6.out hlh _).trans h7
          have h8' := (bkeep HB6.out hlh _).trans h8
          go_wp2_with fail
          refine (HRD.out w6 S HG6.out (HSh.out.below HB6.out) (fun a ha hl hT => absurd (HZh.out a ha hl) (by have := HSB.out _ hT; omega))).mono ?_
          rintro e w7 ⟨A7, d7, rfl, hss7, hfr7, hr7, hm7⟩
          have HB7 := Lib.hid (HB6.out.trans (hm7.toBelow HB6.out.size HSB.out))
          have hGlt := HG.out.lt
          have HR7 := Lib.hid (rep_far HR6.out hm7 (fun k e e2 => by
            rcases e with e | e
            · exact HD.out k e e2
            · have := hGlt k e2; omega))
          have HTW := Lib.hid (show Two w7 w.heap.size F G r.1 from ⟨_, _, HR7.out, hr7, fun k e e2 => by
              have := HZ5.out; have := HZ6.out
              rcases e with e | e
              · rcases e2 with e2 | e2
                · exact HD.out k e e2
                · have := HR.out.lt k e; omega
              · rcases e2 with e2 | e2
                · have := hGlt k e2; omega
                · omega, fun k e => by
              rcases e with e | e
              · exact HTB.out k e
              · have := HB.out.size; omega, fun k e => by
              rcases e with e | e
              · exact HSB.out k e
              · have := HB6.out.size; omega⟩)
          have HQ7 := Lib.hid ((hm7.block w5.heap.size (by rw [HZ6.out]; omega) (fun e => by have := hGlt _ e; have := HZ5.out; omega)).trans HQ6.out)
          have HSA := Lib.hid (ss_far HSS6.out hm7 (fun a ha hn e => by have := HFR5.out a ha hn; have := hGlt _ e; omega))
          have HSC := Lib.hid hss7
          have HZ7 := Lib.hid hm7.size
          clear hss7 hfr7 hr7 hm7 hGlt HRD
          clear h0' h1' h2' h3' h4' h5' h6' h7' h8'
          go_upto_region 12 with fail
          obtain ⟨w8, hw8⟩ : ∃ w', w' = w7.alloc (.cells #[.string r.2.1.user, .string r.2.1.client, .string r.2.1.tenant, .string r.2.1.session, .string r.2.1.redirect, .string r.2.1.nonce, .string r.2.1.challenge, .int .i64 r.2.1.method, (.slice A7 r.2.1.scopes.length d7), .int .i64 r.2.1.auth, .int .i64 r.2.1.level] 35) := ⟨_, rfl⟩
          have hb8 : Below w7.heap.size w7 w8 := by rw [hw8]; go_grown
          have HC8 := Lib.hid (show w8.heap[w7.heap.size]? = some (.cells #[.string r.2.1.user, .string r.2.1.client, .string r.2.1.tenant, .string r.2.1.session, .string r.2.1.redirect, .string r.2.1.nonce, .string r.2.1.challenge, .int .i64 r.2.1.method, (.slice A7 r.2.1.scopes.length d7), .int .i64 r.2.1.auth, .int .i64 r.2.1.level] 35 (0, 0)) by rw [hw8]; exact heap_alloc_new _ _)
          rw [← hw8]
          have HB8 := Lib.hid (HB7.out.trans (hb8.mono HB7.out.size))
          have HTW8 := Lib.hid (HTW.out.below hb8)
          have HQ8 := Lib.hid ((hb8.block _ (blk_lt HQ7.out)).trans HQ7.out)
          have HSA8 := Lib.hid (HSA.out.below hb8)
          have HSC8 := Lib.hid (HSC.out.below hb8)
          have HTS := Lib.hid (show xh.tok.size ≤ 100000 by have := (ok_parts HOK.out).2.1; omega)
          have HIS := Lib.hid (show xh.id.size ≤ 100000 by have := (ok_parts HOK.out).1; omega)
          clear hw8 hb8 HTW HSA HSC HQ7 HQ6 HR7 HR6 HG6 HG HR HD HTB HSB
          obtain ⟨fa, hfa⟩ : ∃ o, famT r.1 xh.tok = o := ⟨_, rfl⟩
          obtain ⟨n1, hn1⟩ : ∃ o, lenS r.1 att = o := ⟨_, rfl⟩
          obtain ⟨n2, hn2⟩ : ∃ o, lenS r.1 xh.now = o := ⟨_, rfl⟩
          obtain ⟨lv, hlv⟩ : ∃ o, liveI r.1 xh.id att = o := ⟨_, rfl⟩
          have HFA := Lib.hid hfa
          have HN1 := Lib.hid hn1
          have HN2 := Lib.hid hn2
          have HLV := Lib.hid hlv
          clear hfa hn1 hn2 hlv
          have h0' := (bkeep HB8.out hlh _).trans h0
          have h1' := (bkeep HB8.out hlh _).trans h1
          have h2' := (bkeep HB8.out hlh _).trans h2
          have h3' := (bkeep HB8.out hlh _).trans h3
          have h4' := (bkeep HB8.out hlh _).trans h4
          have h5' := (bkeep HB8.out hlh _).trans h5
          have h6' := (bkeep HB8.out hlh _).trans h6
          have h7' := (bkeep HB8.out hlh _).trans h7
          have h8' := (bkeep HB8.out hlh _).trans h8
          clear h0 h1 h2 h3 h4 h5 h6 h7 h8
          go_wp2_with fail
          refine (fam2 HTW8.out xh.tok HTS.out HFA.out).mono ?_
          rintro e wy ⟨rfl, rfl⟩
          go_wp2_with fail
          refine (rfam2 HTW8.out xh.tok HFA.out).mono ?_
          rintro e wy ⟨rfl, rfl⟩
          go_upto_region 14 with fail
          have a0 := cell_block HQ8.out 0
          have a1 := cell_block HQ8.out 1
          have a2 := cell_block HQ8.out 2
          have a3 := cell_block HQ8.out 3
          have a4 := cell_block HQ8.out 4
          have a5 := cell_block HQ8.out 5
          have a6 := cell_block HQ8.out 6
          have a7 := cell_block HQ8.out 7
          have a8 := cell_block HQ8.out 8
          have a9 := cell_block HQ8.out 9
          have a10 := cell_block HQ8.out 10
          simp only [List.getElem?_toArray, List.getElem?_cons_zero, List.getElem?_cons_succ] at a0 a1 a2 a3 a4 a5 a6 a7 a8 a9 a10
          have c0 := cell_block HC8.out 0
          have c1 := cell_block HC8.out 1
          have c2 := cell_block HC8.out 2
          have c3 := cell_block HC8.out 3
          have c4 := cell_block HC8.out 4
          have c5 := cell_block HC8.out 5
          have c6 := cell_block HC8.out 6
          have c7 := cell_block HC8.out 7
          have c8 := cell_block HC8.out 8
          have c9 := cell_block HC8.out 9
          have c10 := cell_block HC8.out 10
          simp only [List.getElem?_toArray, List.getElem?_cons_zero, List.getElem?_cons_succ] at c0 c1 c2 c3 c4 c5 c6 c7 c8 c9 c10
          have HV0 := Lib.hid ((Below.refl w8.heap.size w8).drew)
          have HSK := Lib.hid (fun (w' : World) (hb : Below w8.heap.size w8 w') => (show w'.cell? ⟨w5.heap.size, 0, none⟩ = some (.string r.2.1.user) ∧ w'.cell? ⟨w5.heap.size, 1, none⟩ = some (.string r.2.1.client) ∧ w'.cell? ⟨w5.heap.size, 2, none⟩ = some (.string r.2.1.tenant) ∧ w'.cell? ⟨w5.heap.size, 3, none⟩ = some (.string r.2.1.session) ∧ w'.cell? ⟨w5.heap.size, 4, none⟩ = some (.string r.2.1.redirect) ∧ w'.cell? ⟨w5.heap.size, 5, none⟩ = some (.string r.2.1.nonce) ∧ w'.cell? ⟨w5.heap.size, 6, none⟩ = some (.string r.2.1.challenge) ∧ w'.cell? ⟨w5.heap.size, 7, none⟩ = some (.int .i64 r.2.1.method) ∧ w'.cell? ⟨w5.heap.size, 8, none⟩ = some ((.slice A5 r.2.1.scopes.length d5)) ∧ w'.cell? ⟨w5.heap.size, 9, none⟩ = some (.int .i64 r.2.1.auth) ∧ w'.cell? ⟨w5.heap.size, 10, none⟩ = some (.int .i64 r.2.1.level) ∧ w'.cell? ⟨w7.heap.size, 0, none⟩ = some (.string r.2.1.user) ∧ w'.cell? ⟨w7.heap.size, 1, none⟩ = some (.string r.2.1.client) ∧ w'.cell? ⟨w7.heap.size, 2, none⟩ = some (.string r.2.1.tenant) ∧ w'.cell? ⟨w7.heap.size, 3, none⟩ = some (.string r.2.1.session) ∧ w'.cell? ⟨w7.heap.size, 4, none⟩ = some (.string r.2.1.redirect) ∧ w'.cell? ⟨w7.heap.size, 5, none⟩ = some (.string r.2.1.nonce) ∧ w'.cell? ⟨w7.heap.size, 6, none⟩ = some (.string r.2.1.challenge) ∧ w'.cell? ⟨w7.heap.size, 7, none⟩ = some (.int .i64 r.2.1.method) ∧ w'.cell? ⟨w7.heap.size, 8, none⟩ = some ((.slice A7 r.2.1.scopes.length d7)) ∧ w'.cell? ⟨w7.heap.size, 9, none⟩ = some (.int .i64 r.2.1.auth) ∧ w'.cell? ⟨w7.heap.size, 10, none⟩ = some (.int .i64 r.2.1.level) ∧ w'.cell? ⟨bh, oh + k * 9 + 1, none⟩ = some (.int .i64 xh.now) ∧ w'.cell? ⟨bh, oh + k * 9 + 2, none⟩ = some (.string xh.id) from ⟨cell_below hb a0, cell_below hb a1, cell_below hb a2, cell_below hb a3, cell_below hb a4, cell_below hb a5, cell_below hb a6, cell_below hb a7, cell_below hb a8, cell_below hb a9, cell_below hb a10, cell_below hb c0, cell_below hb c1, cell_below hb c2, cell_below hb c3, cell_below hb c4, cell_below hb c5, cell_below hb c6, cell_below hb c7, cell_below hb c8, cell_below hb c9, cell_below hb c10, cell_below hb h1', cell_below hb h2'⟩))
          clear a0 a1 a2 a3 a4 a5 a6 a7 a8 a9 a10 c0 c1 c2 c3 c4 c5 c6 c7 c8 c9 c10 h1' h2'
          clear h0' h3' h4' h5' h6' h7' h8'
          refine wp_region_held_drew (S := (fun w' => w'.cell? ⟨w5.heap.size, 0, none⟩ = some (.string r.2.1.user) ∧ w'.cell? ⟨w5.heap.size, 1, none⟩ = some (.string r.2.1.client) ∧ w'.cell? ⟨w5.heap.size, 2, none⟩ = some (.string r.2.1.tenant) ∧ w'.cell? ⟨w5.heap.size, 3, none⟩ = some (.string r.2.1.session) ∧ w'.cell? ⟨w5.heap.size, 4, none⟩ = some (.string r.2.1.redirect) ∧ w'.cell? ⟨w5.heap.size, 5, none⟩ = some (.string r.2.1.nonce) ∧ w'.cell? ⟨w5.heap.size, 6, none⟩ = some (.string r.2.1.challenge) ∧ w'.cell? ⟨w5.heap.size, 7, none⟩ = some (.int .i64 r.2.1.method) ∧ w'.cell? ⟨w5.heap.size, 8, none⟩ = some ((.slice A5 r.2.1.scopes.length d5)) ∧ w'.cell? ⟨w5.heap.size, 9, none⟩ = some (.int .i64 r.2.1.auth) ∧ w'.cell? ⟨w5.heap.size, 10, none⟩ = some (.int .i64 r.2.1.level) ∧ w'.cell? ⟨w7.heap.size, 0, none⟩ = some (.string r.2.1.user) ∧ w'.cell? ⟨w7.heap.size, 1, none⟩ = some (.string r.2.1.client) ∧ w'.cell? ⟨w7.heap.size, 2, none⟩ = some (.string r.2.1.tenant) ∧ w'.cell? ⟨w7.heap.size, 3, none⟩ = some (.string r.2.1.session) ∧ w'.cell? ⟨w7.heap.size, 4, none⟩ = some (.string r.2.1.redirect) ∧ w'.cell? ⟨w7.heap.size, 5, none⟩ = some (.string r.2.1.nonce) ∧ w'.cell? ⟨w7.heap.size, 6, none⟩ = some (.string r.2.1.challenge) ∧ w'.cell? ⟨w7.heap.size, 7, none⟩ = some (.int .i64 r.2.1.method) ∧ w'.cell? ⟨w7.heap.size, 8, none⟩ = some ((.slice A7 r.2.1.scopes.length d7)) ∧ w'.cell? ⟨w7.heap.size, 9, none⟩ = some (.int .i64 r.2.1.auth) ∧ w'.cell? ⟨w7.heap.size, 10, none⟩ = some (.int .i64 r.2.1.level) ∧ w'.cell? ⟨bh, oh + k * 9 + 1, none⟩ = some (.int .i64 xh.now) ∧ w'.cell? ⟨bh, oh + k * 9 + 2, none⟩ = some (.string xh.id))) (by kernel_rfl) ?_ (fun hHeld => ?_)
          focus ((try dsimp only); (first | exact HSK.out _ HV0.out | exact HSK.out _ HV1.out | exact HSK.out _ HV2.out | exact HSK.out _ HV3.out | exact HSK.out _ HV4.out | exact HSK.out _ HV5.out | exact HSK.out _ HV6.out | exact HSK.out _ HV7.out | exact HSK.out _ (Below.refl _ _)); done)
          refine wpAnyH_take (i := 0) (oi := ⟨_, _, _, _, _, _⟩) (v := ?_) rfl (by kernel_rfl) (by kernel_rfl) (by kernel_rfl) (fun _ _ _ h => h) (Or.inl ⟨by rfl, ?_⟩) (by assumption) ?_; rotate_left; (focus (intro w hSw; (try dsimp only at hSw); go_simp; (try with_reducible rfl); done)); simp only [Act.put, List.setIfInBounds_toArray, List.set_cons_zero, List.set_cons_succ]
          refine wpAnyH_take (i := 1) (oi := ⟨_, _, _, _, _, _⟩) (v := ?_) rfl (by kernel_rfl) (by kernel_rfl) (by kernel_rfl) (fun _ _ _ h => h) (Or.inl ⟨by rfl, ?_⟩) (by assumption) ?_; rotate_left; (focus (intro w hSw; (try dsimp only at hSw); go_simp; (try with_reducible rfl); done)); simp only [Act.put, List.setIfInBounds_toArray, List.set_cons_zero, List.set_cons_succ]
          refine wpAnyH_take (i := 2) (oi := ⟨_, _, _, _, _, _⟩) (v := ?_) rfl (by kernel_rfl) (by kernel_rfl) (by kernel_rfl) (fun _ _ _ h => h) (Or.inl ⟨by rfl, ?_⟩) (by assumption) ?_; rotate_left; (focus (intro w hSw; (try dsimp only at hSw); go_simp; (try with_reducible rfl); done)); simp only [Act.put, List.setIfInBounds_toArray, List.set_cons_zero, List.set_cons_succ]
          refine wpAnyH_take (i := 3) (oi := ⟨_, _, _, _, _, _⟩) (v := ?_) rfl (by kernel_rfl) (by kernel_rfl) (by kernel_rfl) (fun _ _ _ h => h) (Or.inl ⟨by rfl, ?_⟩) (by assumption) ?_; rotate_left; (focus (intro w hSw; (try dsimp only at hSw); go_simp; (try with_reducible rfl); done)); simp only [Act.put, List.setIfInBounds_toArray, List.set_cons_zero, List.set_cons_succ]
          refine wpAnyH_take (i := 4) (oi := ⟨_, _, _, _, _, _⟩) (v := ?_) rfl (by kernel_rfl) (by kernel_rfl) (by kernel_rfl) (fun _ _ _ h => h) (Or.inl ⟨by rfl, ?_⟩) (by assumption) ?_; rotate_left; (focus (intro w hSw; (try dsimp only at hSw); go_simp; (try with_reducible rfl); done)); simp only [Act.put, List.setIfInBounds_toArray, List.set_cons_zero, List.set_cons_succ]
          refine wpAnyH_take (i := 5) (oi := ⟨_, _, _, _, _, _⟩) (v := ?_) rfl (by kernel_rfl) (by kernel_rfl) (by kernel_rfl) (fun _ _ _ h => h) (Or.inl ⟨by rfl, ?_⟩) (by assumption) ?_; rotate_left; (focus (intro w hSw; (try dsimp only at hSw); go_simp; (try with_reducible rfl); done)); simp only [Act.put, List.setIfInBounds_toArray, List.set_cons_zero, List.set_cons_succ]
          refine wpAnyH_ready (rs := [6]) (by kernel_rfl) (by simp) ?_
          refine AllReadyH.cons (o := ⟨_, _, _, _, _, _⟩) rfl (fun K hK => ?_) AllReadyH.nil
          go_simp
          go_wp2_with fail
          refine (same_yes _ _ _ _ _ _ _ _ _ _ A5 A7 _ d5 d7 r.2.1.scopes _ (HSA8.out.below HV0.out) (HSC8.out.below HV0.out) HFEW.out).mono ?_
          rintro e v1 ⟨rfl, hv⟩
          have HV1 := Lib.hid (HV0.out.trans (hv.mono HV0.out.size))
          clear hv
          (try go_wp2_with fail)
          refine hK.out _ _ ?_ (fun hHeld => ?_)
          focus ((try dsimp only); (first | exact HSK.out _ HV0.out | exact HSK.out _ HV1.out | exact HSK.out _ HV2.out | exact HSK.out _ HV3.out | exact HSK.out _ HV4.out | exact HSK.out _ HV5.out | exact HSK.out _ HV6.out | exact HSK.out _ HV7.out | exact HSK.out _ (Below.refl _ _)); done)
          clear hK K
          (try simp only [Act.put, List.setIfInBounds_toArray, List.set_cons_zero, List.set_cons_succ])
          refine wpAnyH_take (i := 7) (oi := ⟨_, _, _, _, _, _⟩) (v := ?_) rfl (by kernel_rfl) (by kernel_rfl) (by kernel_rfl) (fun _ _ _ h => h) (Or.inl ⟨by rfl, ?_⟩) (by assumption) ?_; rotate_left; (focus (intro w hSw; (try dsimp only at hSw); go_simp; (try with_reducible rfl); done)); simp only [Act.put, List.setIfInBounds_toArray, List.set_cons_zero, List.set_cons_succ]
          refine wpAnyH_take (i := 8) (oi := ⟨_, _, _, _, _, _⟩) (v := ?_) rfl (by kernel_rfl) (by kernel_rfl) (by kernel_rfl) (fun _ _ _ h => h) (Or.inl ⟨by rfl, ?_⟩) (by assumption) ?_; rotate_left; (focus (intro w hSw; (try dsimp only at hSw); go_simp; (try with_reducible rfl); done)); simp only [Act.put, List.setIfInBounds_toArray, List.set_cons_zero, List.set_cons_succ]
          refine wpAnyH_take (i := 9) (oi := ⟨_, _, _, _, _, _⟩) (v := ?_) rfl (by kernel_rfl) (by kernel_rfl) (by kernel_rfl) (fun _ _ _ h => h) (Or.inl ⟨by rfl, ?_⟩) (by assumption) ?_; rotate_left; (focus (intro w hSw; (try dsimp only at hSw); go_simp; (try with_reducible rfl); done)); simp only [Act.put, List.setIfInBounds_toArray, List.set_cons_zero, List.set_cons_succ]
          refine wpAnyH_take (i := 10) (oi := ⟨_, _, _, _, _, _⟩) (v := ?_) rfl (by kernel_rfl) (by kernel_rfl) (by kernel_rfl) (fun _ _ _ h => h) (Or.inl ⟨by rfl, ?_⟩) (by assumption) ?_; rotate_left; (focus (intro w hSw; (try dsimp only at hSw); go_simp; (try with_reducible rfl); done)); simp only [Act.put, List.setIfInBounds_toArray, List.set_cons_zero, List.set_cons_succ]
          refine wpAnyH_take (i := 11) (oi := ⟨_, _, _, _, _, _⟩) (v := ?_) rfl (by kernel_rfl) (by kernel_rfl) (by kernel_rfl) (fun _ _ _ h => h) (Or.inl ⟨by rfl, ?_⟩) (by assumption) ?_; rotate_left; (focus (intro w hSw; (try dsimp only at hSw); go_simp; (try with_reducible rfl); done)); simp only [Act.put, List.setIfInBounds_toArray, List.set_cons_zero, List.set_cons_succ]
          refine wpAnyH_take (i := 12) (oi := ⟨_, _, _, _, _, _⟩) (v := ?_) rfl (by kernel_rfl) (by kernel_rfl) (by kernel_rfl) (fun _ _ _ h => h) (Or.inl ⟨by rfl, ?_⟩) (by assumption) ?_; rotate_left; (focus (intro w hSw; (try dsimp only at hSw); go_simp; (try with_reducible rfl); done)); simp only [Act.put, List.setIfInBounds_toArray, List.set_cons_zero, List.set_cons_succ]
          refine wpAnyH_take (i := 13) (oi := ⟨_, _, _, _, _, _⟩) (v := ?_) rfl (by kernel_rfl) (by kernel_rfl) (by kernel_rfl) (fun _ _ _ h => h) (Or.inl ⟨by rfl, ?_⟩) (by assumption) ?_; rotate_left; (focus (intro w hSw; (try dsimp only at hSw); go_simp; (try with_reducible rfl); done)); simp only [Act.put, List.setIfInBounds_toArray, List.set_cons_zero, List.set_cons_succ]
          refine wpAnyH_take (i := 14) (oi := ⟨_, _, _, _, _, _⟩) (v := ?_) rfl (by kernel_rfl) (by kernel_rfl) (by kernel_rfl) (fun _ _ _ h => h) (Or.inl ⟨by rfl, ?_⟩) (by assumption) ?_; rotate_left; (focus (intro w hSw; (try dsimp only at hSw); go_simp; (try with_reducible rfl); done)); simp only [Act.put, List.setIfInBounds_toArray, List.set_cons_zero, List.set_cons_succ]
          refine wpAnyH_take (i := 15) (oi := ⟨_, _, _, _, _, _⟩) (v := ?_) rfl (by kernel_rfl) (by kernel_rfl) (by kernel_rfl) (fun _ _ _ h => h) (Or.inl ⟨by rfl, ?_⟩) (by assumption) ?_; rotate_left; (focus (intro w hSw; (try dsimp only at hSw); go_simp; (try with_reducible rfl); done)); simp only [Act.put, List.setIfInBounds_toArray, List.set_cons_zero, List.set_cons_succ]
          refine wpAnyH_take (i := 16) (oi := ⟨_, _, _, _, _, _⟩) (v := ?_) rfl (by kernel_rfl) (by kernel_rfl) (by kernel_rfl) (fun _ _ _ h => h) (Or.inl ⟨by rfl, ?_⟩) (by assumption) ?_; rotate_left; (focus (intro w hSw; (try dsimp only at hSw); go_simp; (try with_reducible rfl); done)); simp only [Act.put, List.setIfInBounds_toArray, List.set_cons_zero, List.set_cons_succ]
          refine wpAnyH_take (i := 17) (oi := ⟨_, _, _, _, _, _⟩) (v := ?_) rfl (by kernel_rfl) (by kernel_rfl) (by kernel_rfl) (fun _ _ _ h => h) (Or.inl ⟨by rfl, ?_⟩) (by assumption) ?_; rotate_left; (focus (intro w hSw; (try dsimp only at hSw); go_simp; (try with_reducible rfl); done)); simp only [Act.put, List.setIfInBounds_toArray, List.set_cons_zero, List.set_cons_succ]
          refine wpAnyH_take (i := 18) (oi := ⟨_, _, _, _, _, _⟩) (v := ?_) rfl (by kernel_rfl) (by kernel_rfl) (by kernel_rfl) (fun _ _ _ h => h) (Or.inl ⟨by rfl, ?_⟩) (by assumption) ?_; rotate_left; (focus (intro w hSw; (try dsimp only at hSw); go_simp; (try with_reducible rfl); done)); simp only [Act.put, List.setIfInBounds_toArray, List.set_cons_zero, List.set_cons_succ]
          refine wpAnyH_take (i := 19) (oi := ⟨_, _, _, _, _, _⟩) (v := ?_) rfl (by kernel_rfl) (by kernel_rfl) (by kernel_rfl) (fun _ _ _ h => h) (Or.inl ⟨by rfl, ?_⟩) (by assumption) ?_; rotate_left; (focus (intro w hSw; (try dsimp only at hSw); go_simp; (try with_reducible rfl); done)); simp only [Act.put, List.setIfInBounds_toArray, List.set_cons_zero, List.set_cons_succ]
          refine wpAnyH_take (i := 20) (oi := ⟨_, _, _, _, _, _⟩) (v := ?_) rfl (by kernel_rfl) (by kernel_rfl) (by kernel_rfl) (fun _ _ _ h => h) (Or.inl ⟨by rfl, ?_⟩) (by assumption) ?_; rotate_left; (focus (intro w hSw; (try dsimp only at hSw); go_simp; (try with_reducible rfl); done)); simp only [Act.put, List.setIfInBounds_toArray, List.set_cons_zero, List.set_cons_succ]
          refine wpAnyH_take (i := 21) (oi := ⟨_, _, _, _, _, _⟩) (v := ?_) rfl (by kernel_rfl) (by kernel_rfl) (by kernel_rfl) (fun _ _ _ h => h) (Or.inl ⟨by rfl, ?_⟩) (by assumption) ?_; rotate_left; (focus (intro w hSw; (try dsimp only at hSw); go_simp; (try with_reducible rfl); done)); simp only [Act.put, List.setIfInBounds_toArray, List.set_cons_zero, List.set_cons_succ]
          refine wpAnyH_take (i := 23) (oi := ⟨_, _, _, _, _, _⟩) (v := ?_) rfl (by kernel_rfl) (by kernel_rfl) (by kernel_rfl) (fun _ _ _ h => h) (Or.inl ⟨by rfl, ?_⟩) (by assumption) ?_; rotate_left; (focus (intro w hSw; (try dsimp only at hSw); go_simp; (try with_reducible rfl); done)); simp only [Act.put, List.setIfInBounds_toArray, List.set_cons_zero, List.set_cons_succ]
          refine wpAnyH_take (i := 24) (oi := ⟨_, _, _, _, _, _⟩) (v := ?_) rfl (by kernel_rfl) (by kernel_rfl) (by kernel_rfl) (fun _ _ _ h => h) (Or.inl ⟨by rfl, ?_⟩) (by assumption) ?_; rotate_left; (focus (intro w hSw; (try dsimp only at hSw); go_simp; (try with_reducible rfl); done)); simp only [Act.put, List.setIfInBounds_toArray, List.set_cons_zero, List.set_cons_succ]
          refine wpAnyH_ready (rs := [22]) (by kernel_rfl) (by simp) ?_
          refine AllReadyH.cons (o := ⟨_, _, _, _, _, _⟩) rfl (fun K hK => ?_) AllReadyH.nil
          go_simp
          go_wp2_with fail
          refine (len2 (HTW8.out.below HV1.out) att HN1.out).mono ?_
          rintro e v2 ⟨rfl, hv⟩
          have HV2 := Lib.hid (HV1.out.trans (hv.mono HV1.out.size))
          clear hv
          (try go_wp2_with fail)
          refine hK.out _ _ ?_ (fun hHeld => ?_)
          focus ((try dsimp only); (first | exact HSK.out _ HV0.out | exact HSK.out _ HV1.out | exact HSK.out _ HV2.out | exact HSK.out _ HV3.out | exact HSK.out _ HV4.out | exact HSK.out _ HV5.out | exact HSK.out _ HV6.out | exact HSK.out _ HV7.out | exact HSK.out _ (Below.refl _ _)); done)
          clear hK K
          (try simp only [Act.put, List.setIfInBounds_toArray, List.set_cons_zero, List.set_cons_succ])
          refine wpAnyH_ready (rs := [25]) (by kernel_rfl) (by simp) ?_
          refine AllReadyH.cons (o := ⟨_, _, _, _, _, _⟩) rfl (fun K hK => ?_) AllReadyH.nil
          go_simp
          go_wp2_with fail
          refine (rlen2 (HTW8.out.below HV2.out) att HN1.out).mono ?_
          rintro e v3 ⟨rfl, hv⟩
          have HV3 := Lib.hid (HV2.out.trans (hv.mono HV2.out.size))
          clear hv
          (try go_wp2_with fail)
          refine hK.out _ _ ?_ (fun hHeld => ?_)
          focus ((try dsimp only); (first | exact HSK.out _ HV0.out | exact HSK.out _ HV1.out | exact HSK.out _ HV2.out | exact HSK.out _ HV3.out | exact HSK.out _ HV4.out | exact HSK.out _ HV5.out | exact HSK.out _ HV6.out | exact HSK.out _ HV7.out | exact HSK.out _ (Below.refl _ _)); done)
          clear hK K
          (try simp only [Act.put, List.setIfInBounds_toArray, List.set_cons_zero, List.set_cons_succ])
          refine wpAnyH_take (i := 26) (oi := ⟨_, _, _, _, _, _⟩) (v := ?_) rfl (by kernel_rfl) (by kernel_rfl) (by kernel_rfl) (fun _ _ _ h => h) (Or.inl ⟨by rfl, ?_⟩) (by assumption) ?_; rotate_left; (focus (intro w hSw; (try dsimp only at hSw); go_simp; (try with_reducible rfl); done)); simp only [Act.put, List.setIfInBounds_toArray, List.set_cons_zero, List.set_cons_succ]
          refine wpAnyH_take (i := 27) (oi := ⟨_, _, _, _, _, _⟩) (v := ?_) rfl (by kernel_rfl) (by kernel_rfl) (by kernel_rfl) (fun _ _ _ h => h) (Or.inl ⟨by rfl, ?_⟩) (by assumption) ?_; rotate_left; (focus (intro w hSw; (try dsimp only at hSw); go_simp; (try with_reducible rfl); done)); simp only [Act.put, List.setIfInBounds_toArray, List.set_cons_zero, List.set_cons_succ]
          refine wpAnyH_take (i := 28) (oi := ⟨_, _, _, _, _, _⟩) (v := ?_) rfl (by kernel_rfl) (by kernel_rfl) (by kernel_rfl) (fun _ _ _ h => h) (Or.inl ⟨by rfl, ?_⟩) (by assumption) ?_; rotate_left; (focus (intro w hSw; (try dsimp only at hSw); go_simp; (try with_reducible rfl); done)); simp only [Act.put, List.setIfInBounds_toArray, List.set_cons_zero, List.set_cons_succ]
          refine wpAnyH_take (i := 29) (oi := ⟨_, _, _, _, _, _⟩) (v := ?_) rfl (by kernel_rfl) (by kernel_rfl) (by kernel_rfl) (fun _ _ _ h => h) (Or.inl ⟨by rfl, ?_⟩) (by assumption) ?_; rotate_left; (focus (intro w hSw; (try dsimp only at hSw); go_simp; (try with_reducible rfl); done)); simp only [Act.put, List.setIfInBounds_toArray, List.set_cons_zero, List.set_cons_succ]
          refine wpAnyH_take (i := 30) (oi := ⟨_, _, _, _, _, _⟩) (v := ?_) rfl (by kernel_rfl) (by kernel_rfl) (by kernel_rfl) (fun _ _ _ h => h) (Or.inl ⟨by rfl, ?_⟩) (by assumption) ?_; rotate_left; (focus (intro w hSw; (try dsimp only at hSw); go_simp; (try with_reducible rfl); done)); simp only [Act.put, List.setIfInBounds_toArray, List.set_cons_zero, List.set_cons_succ]
          refine wpAnyH_take (i := 31) (oi := ⟨_, _, _, _, _, _⟩) (v := ?_) rfl (by kernel_rfl) (by kernel_rfl) (by kernel_rfl) (fun _ _ _ h => h) (Or.inl ⟨by rfl, ?_⟩) (by assumption) ?_; rotate_left; (focus (intro w hSw; (try dsimp only at hSw); go_simp; (try with_reducible rfl); done)); simp only [Act.put, List.setIfInBounds_toArray, List.set_cons_zero, List.set_cons_succ]
          refine wpAnyH_take (i := 32) (oi := ⟨_, _, _, _, _, _⟩) (v := ?_) rfl (by kernel_rfl) (by kernel_rfl) (by kernel_rfl) (fun _ _ _ h => h) (Or.inl ⟨by rfl, ?_⟩) (by assumption) ?_; rotate_left; (focus (intro w hSw; (try dsimp only at hSw); go_simp; (try with_reducible rfl); done)); simp only [Act.put, List.setIfInBounds_toArray, List.set_cons_zero, List.set_cons_succ]
          refine wpAnyH_take (i := 33) (oi := ⟨_, _, _, _, _, _⟩) (v := ?_) rfl (by kernel_rfl) (by kernel_rfl) (by kernel_rfl) (fun _ _ _ h => h) (Or.inl ⟨by rfl, ?_⟩) (by assumption) ?_; rotate_left; (focus (intro w hSw; (try dsimp only at hSw); go_simp; (try with_reducible rfl); done)); simp only [Act.put, List.setIfInBounds_toArray, List.set_cons_zero, List.set_cons_succ]
          refine wpAnyH_take (i := 34) (oi := ⟨_, _, _, _, _, _⟩) (v := ?_) rfl (by kernel_rfl) (by kernel_rfl) (by kernel_rfl) (fun _ _ _ h => h) (Or.inl ⟨by rfl, ?_⟩) (by assumption) ?_; rotate_left; (focus (intro w hSw; (try dsimp only at hSw); go_simp; (try with_reducible rfl); done)); simp only [Act.put, List.setIfInBounds_toArray, List.set_cons_zero, List.set_cons_succ]
          refine wpAnyH_take (i := 36) (oi := ⟨_, _, _, _, _, _⟩) (v := ?_) rfl (by kernel_rfl) (by kernel_rfl) (by kernel_rfl) (fun _ _ _ h => h) (Or.inl ⟨by rfl, ?_⟩) (by assumption) ?_; rotate_left; (focus (intro w hSw; (try dsimp only at hSw); go_simp; (try with_reducible rfl); done)); simp only [Act.put, List.setIfInBounds_toArray, List.set_cons_zero, List.set_cons_succ]
          refine wpAnyH_take (i := 37) (oi := ⟨_, _, _, _, _, _⟩) (v := ?_) rfl (by kernel_rfl) (by kernel_rfl) (by kernel_rfl) (fun _ _ _ h => h) (Or.inl ⟨by rfl, ?_⟩) (by assumption) ?_; rotate_left; (focus (intro w hSw; (try dsimp only at hSw); go_simp; (try with_reducible rfl); done)); simp only [Act.put, List.setIfInBounds_toArray, List.set_cons_zero, List.set_cons_succ]
          refine wpAnyH_take (i := 38) (oi := ⟨_, _, _, _, _, _⟩) (v := ?_) rfl (by kernel_rfl) (by kernel_rfl) (by kernel_rfl) (fun _ _ _ h => h) (Or.inl ⟨by rfl, ?_⟩) (by assumption) ?_; rotate_left; (focus (intro w hSw; (try dsimp only at hSw); go_simp; (try with_reducible rfl); done)); simp only [Act.put, List.setIfInBounds_toArray, List.set_cons_zero, List.set_cons_succ]
          refine wpAnyH_take (i := 39) (oi := ⟨_, _, _, _, _, _⟩) (v := ?_) rfl (by kernel_rfl) (by kernel_rfl) (by kernel_rfl) (fun _ _ _ h => h) (Or.inl ⟨by rfl, ?_⟩) (by assumption) ?_; rotate_left; (focus (intro w hSw; (try dsimp only at hSw); go_simp; (try with_reducible rfl); done)); simp only [Act.put, List.setIfInBounds_toArray, List.set_cons_zero, List.set_cons_succ]
          refine wpAnyH_take (i := 40) (oi := ⟨_, _, _, _, _, _⟩) (v := ?_) rfl (by kernel_rfl) (by kernel_rfl) (by kernel_rfl) (fun _ _ _ h => h) (Or.inl ⟨by rfl, ?_⟩) (by assumption) ?_; rotate_left; (focus (intro w hSw; (try dsimp only at hSw); go_simp; (try with_reducible rfl); done)); simp only [Act.put, List.setIfInBounds_toArray, List.set_cons_zero, List.set_cons_succ]
          refine wpAnyH_take (i := 41) (oi := ⟨_, _, _, _, _, _⟩) (v := ?_) rfl (by kernel_rfl) (by kernel_rfl) (by kernel_rfl) (fun _ _ _ h => h) (Or.inl ⟨by rfl, ?_⟩) (by assumption) ?_; rotate_left; (focus (intro w hSw; (try dsimp only at hSw); go_simp; (try with_reducible rfl); done)); simp only [Act.put, List.setIfInBounds_toArray, List.set_cons_zero, List.set_cons_succ]
          refine wpAnyH_ready (rs := [35]) (by kernel_rfl) (by simp) ?_
          refine AllReadyH.cons (o := ⟨_, _, _, _, _, _⟩) rfl (fun K hK => ?_) AllReadyH.nil
          go_simp
          go_wp2_with fail
          refine (len2 (HTW8.out.below HV3.out) xh.now HN2.out).mono ?_
          rintro e v4 ⟨rfl, hv⟩
          have HV4 := Lib.hid (HV3.out.trans (hv.mono HV3.out.size))
          clear hv
          (try go_wp2_with fail)
          refine hK.out _ _ ?_ (fun hHeld => ?_)
          focus ((try dsimp only); (first | exact HSK.out _ HV0.out | exact HSK.out _ HV1.out | exact HSK.out _ HV2.out | exact HSK.out _ HV3.out | exact HSK.out _ HV4.out | exact HSK.out _ HV5.out | exact HSK.out _ HV6.out | exact HSK.out _ HV7.out | exact HSK.out _ (Below.refl _ _)); done)
          clear hK K
          (try simp only [Act.put, List.setIfInBounds_toArray, List.set_cons_zero, List.set_cons_succ])
          refine wpAnyH_ready (rs := [42]) (by kernel_rfl) (by simp) ?_
          refine AllReadyH.cons (o := ⟨_, _, _, _, _, _⟩) rfl (fun K hK => ?_) AllReadyH.nil
          go_simp
          go_wp2_with fail
          refine (rlen2 (HTW8.out.below HV4.out) xh.now HN2.out).mono ?_
          rintro e v5 ⟨rfl, hv⟩
          have HV5 := Lib.hid (HV4.out.trans (hv.mono HV4.out.size))
          clear hv
          (try go_wp2_with fail)
          refine hK.out _ _ ?_ (fun hHeld => ?_)
          focus ((try dsimp only); (first | exact HSK.out _ HV0.out | exact HSK.out _ HV1.out | exact HSK.out _ HV2.out | exact HSK.out _ HV3.out | exact HSK.out _ HV4.out | exact HSK.out _ HV5.out | exact HSK.out _ HV6.out | exact HSK.out _ HV7.out | exact HSK.out _ (Below.refl _ _)); done)
          clear hK K
          (try simp only [Act.put, List.setIfInBounds_toArray, List.set_cons_zero, List.set_cons_succ])
          refine wpAnyH_take (i := 43) (oi := ⟨_, _, _, _, _, _⟩) (v := ?_) rfl (by kernel_rfl) (by kernel_rfl) (by kernel_rfl) (fun _ _ _ h => h) (Or.inl ⟨by rfl, ?_⟩) (by assumption) ?_; rotate_left; (focus (intro w hSw; (try dsimp only at hSw); go_simp; (try with_reducible rfl); done)); simp only [Act.put, List.setIfInBounds_toArray, List.set_cons_zero, List.set_cons_succ]
          refine wpAnyH_take (i := 44) (oi := ⟨_, _, _, _, _, _⟩) (v := ?_) rfl (by kernel_rfl) (by kernel_rfl) (by kernel_rfl) (fun _ _ _ h => h) (Or.inl ⟨by rfl, ?_⟩) (by assumption) ?_; rotate_left; (focus (intro w hSw; (try dsimp only at hSw); go_simp; (try with_reducible rfl); done)); simp only [Act.put, List.setIfInBounds_toArray, List.set_cons_zero, List.set_cons_succ]
          refine wpAnyH_take (i := 45) (oi := ⟨_, _, _, _, _, _⟩) (v := ?_) rfl (by kernel_rfl) (by kernel_rfl) (by kernel_rfl) (fun _ _ _ h => h) (Or.inl ⟨by rfl, ?_⟩) (by assumption) ?_; rotate_left; (focus (intro w hSw; (try dsimp only at hSw); go_simp; (try with_reducible rfl); done)); simp only [Act.put, List.setIfInBounds_toArray, List.set_cons_zero, List.set_cons_succ]
          refine wpAnyH_take (i := 46) (oi := ⟨_, _, _, _, _, _⟩) (v := ?_) rfl (by kernel_rfl) (by kernel_rfl) (by kernel_rfl) (fun _ _ _ h => h) (Or.inl ⟨by rfl, ?_⟩) (by assumption) ?_; rotate_left; (focus (intro w hSw; (try dsimp only at hSw); go_simp; (try with_reducible rfl); done)); simp only [Act.put, List.setIfInBounds_toArray, List.set_cons_zero, List.set_cons_succ]
          refine wpAnyH_take (i := 47) (oi := ⟨_, _, _, _, _, _⟩) (v := ?_) rfl (by kernel_rfl) (by kernel_rfl) (by kernel_rfl) (fun _ _ _ h => h) (Or.inl ⟨by rfl, ?_⟩) (by assumption) ?_; rotate_left; (focus (intro w hSw; (try dsimp only at hSw); go_simp; (try with_reducible rfl); done)); simp only [Act.put, List.setIfInBounds_toArray, List.set_cons_zero, List.set_cons_succ]
          refine wpAnyH_take (i := 48) (oi := ⟨_, _, _, _, _, _⟩) (v := ?_) rfl (by kernel_rfl) (by kernel_rfl) (by kernel_rfl) (fun _ _ _ h => h) (Or.inl ⟨by rfl, ?_⟩) (by assumption) ?_; rotate_left; (focus (intro w hSw; (try dsimp only at hSw); go_simp; (try with_reducible rfl); done)); simp only [Act.put, List.setIfInBounds_toArray, List.set_cons_zero, List.set_cons_succ]
          refine wpAnyH_take (i := 49) (oi := ⟨_, _, _, _, _, _⟩) (v := ?_) rfl (by kernel_rfl) (by kernel_rfl) (by kernel_rfl) (fun _ _ _ h => h) (Or.inl ⟨by rfl, ?_⟩) (by assumption) ?_; rotate_left; (focus (intro w hSw; (try dsimp only at hSw); go_simp; (try with_reducible rfl); done)); simp only [Act.put, List.setIfInBounds_toArray, List.set_cons_zero, List.set_cons_succ]
          refine wpAnyH_take (i := 50) (oi := ⟨_, _, _, _, _, _⟩) (v := ?_) rfl (by kernel_rfl) (by kernel_rfl) (by kernel_rfl) (fun _ _ _ h => h) (Or.inl ⟨by rfl, ?_⟩) (by assumption) ?_; rotate_left; (focus (intro w hSw; (try dsimp only at hSw); go_simp; (try with_reducible rfl); done)); simp only [Act.put, List.setIfInBounds_toArray, List.set_cons_zero, List.set_cons_succ]
          refine wpAnyH_take (i := 51) (oi := ⟨_, _, _, _, _, _⟩) (v := ?_) rfl (by kernel_rfl) (by kernel_rfl) (by kernel_rfl) (fun _ _ _ h => h) (Or.inl ⟨by rfl, ?_⟩) (by assumption) ?_; rotate_left; (focus (intro w hSw; (try dsimp only at hSw); go_simp; (try with_reducible rfl); done)); simp only [Act.put, List.setIfInBounds_toArray, List.set_cons_zero, List.set_cons_succ]
          refine wpAnyH_take (i := 52) (oi := ⟨_, _, _, _, _, _⟩) (v := ?_) rfl (by kernel_rfl) (by kernel_rfl) (by kernel_rfl) (fun _ _ _ h => h) (Or.inl ⟨by rfl, ?_⟩) (by assumption) ?_; rotate_left; (focus (intro w hSw; (try dsimp only at hSw); go_simp; (try with_reducible rfl); done)); simp only [Act.put, List.setIfInBounds_toArray, List.set_cons_zero, List.set_cons_succ]
          refine wpAnyH_take (i := 54) (oi := ⟨_, _, _, _, _, _⟩) (v := ?_) rfl (by kernel_rfl) (by kernel_rfl) (by kernel_rfl) (fun _ _ _ h => h) (Or.inl ⟨by rfl, ?_⟩) (by assumption) ?_; rotate_left; (focus (intro w hSw; (try dsimp only at hSw); go_simp; (try with_reducible rfl); done)); simp only [Act.put, List.setIfInBounds_toArray, List.set_cons_zero, List.set_cons_succ]
          refine wpAnyH_take (i := 55) (oi := ⟨_, _, _, _, _, _⟩) (v := ?_) rfl (by kernel_rfl) (by kernel_rfl) (by kernel_rfl) (fun _ _ _ h => h) (Or.inl ⟨by rfl, ?_⟩) (by assumption) ?_; rotate_left; (focus (intro w hSw; (try dsimp only at hSw); go_simp; (try with_reducible rfl); done)); simp only [Act.put, List.setIfInBounds_toArray, List.set_cons_zero, List.set_cons_succ]
          refine wpAnyH_take (i := 56) (oi := ⟨_, _, _, _, _, _⟩) (v := ?_) rfl (by kernel_rfl) (by kernel_rfl) (by kernel_rfl) (fun _ _ _ h => h) (Or.inl ⟨by rfl, ?_⟩) (by assumption) ?_; rotate_left; (focus (intro w hSw; (try dsimp only at hSw); go_simp; (try with_reducible rfl); done)); simp only [Act.put, List.setIfInBounds_toArray, List.set_cons_zero, List.set_cons_succ]
          refine wpAnyH_take (i := 57) (oi := ⟨_, _, _, _, _, _⟩) (v := ?_) rfl (by kernel_rfl) (by kernel_rfl) (by kernel_rfl) (fun _ _ _ h => h) (Or.inl ⟨by rfl, ?_⟩) (by assumption) ?_; rotate_left; (focus (intro w hSw; (try dsimp only at hSw); go_simp; (try with_reducible rfl); done)); simp only [Act.put, List.setIfInBounds_toArray, List.set_cons_zero, List.set_cons_succ]
          refine wpAnyH_take (i := 58) (oi := ⟨_, _, _, _, _, _⟩) (v := ?_) rfl (by kernel_rfl) (by kernel_rfl) (by kernel_rfl) (fun _ _ _ h => h) (Or.inl ⟨by rfl, ?_⟩) (by assumption) ?_; rotate_left; (focus (intro w hSw; (try dsimp only at hSw); go_simp; (try with_reducible rfl); done)); simp only [Act.put, List.setIfInBounds_toArray, List.set_cons_zero, List.set_cons_succ]
          refine wpAnyH_take (i := 59) (oi := ⟨_, _, _, _, _, _⟩) (v := ?_) rfl (by kernel_rfl) (by kernel_rfl) (by kernel_rfl) (fun _ _ _ h => h) (Or.inl ⟨by rfl, ?_⟩) (by assumption) ?_; rotate_left; (focus (intro w hSw; (try dsimp only at hSw); go_simp; (try with_reducible rfl); done)); simp only [Act.put, List.setIfInBounds_toArray, List.set_cons_zero, List.set_cons_succ]
          refine wpAnyH_take (i := 60) (oi := ⟨_, _, _, _, _, _⟩) (v := ?_) rfl (by kernel_rfl) (by kernel_rfl) (by kernel_rfl) (fun _ _ _ h => h) (Or.inl ⟨by rfl, ?_⟩) (by assumption) ?_; rotate_left; (focus (intro w hSw; (try dsimp only at hSw); go_simp; (try with_reducible rfl); done)); simp only [Act.put, List.setIfInBounds_toArray, List.set_cons_zero, List.set_cons_succ]
          refine wpAnyH_ready (rs := [53]) (by kernel_rfl) (by simp) ?_
          refine AllReadyH.cons (o := ⟨_, _, _, _, _, _⟩) rfl (fun K hK => ?_) AllReadyH.nil
          go_simp
          go_wp2_with fail
          refine (live2 (HTW8.out.below HV5.out) xh.id HIS.out att HLV.out).mono ?_
          rintro e v6 ⟨rfl, hv⟩
          have HV6 := Lib.hid (HV5.out.trans (hv.mono HV5.out.size))
          clear hv
          (try go_wp2_with fail)
          refine hK.out _ _ ?_ (fun hHeld => ?_)
          focus ((try dsimp only); (first | exact HSK.out _ HV0.out | exact HSK.out _ HV1.out | exact HSK.out _ HV2.out | exact HSK.out _ HV3.out | exact HSK.out _ HV4.out | exact HSK.out _ HV5.out | exact HSK.out _ HV6.out | exact HSK.out _ HV7.out | exact HSK.out _ (Below.refl _ _)); done)
          clear hK K
          (try simp only [Act.put, List.setIfInBounds_toArray, List.set_cons_zero, List.set_cons_succ])
          refine wpAnyH_ready (rs := [61]) (by kernel_rfl) (by simp) ?_
          refine AllReadyH.cons (o := ⟨_, _, _, _, _, _⟩) rfl (fun K hK => ?_) AllReadyH.nil
          go_simp
          go_wp2_with fail
          refine (rlive2 (HTW8.out.below HV6.out) xh.id att HLV.out).mono ?_
          rintro e v7 ⟨rfl, hv⟩
          have HV7 := Lib.hid (HV6.out.trans (hv.mono HV6.out.size))
          clear hv
          (try go_wp2_with fail)
          refine hK.out _ _ ?_ (fun hHeld => ?_)
          focus ((try dsimp only); (first | exact HSK.out _ HV0.out | exact HSK.out _ HV1.out | exact HSK.out _ HV2.out | exact HSK.out _ HV3.out | exact HSK.out _ HV4.out | exact HSK.out _ HV5.out | exact HSK.out _ HV6.out | exact HSK.out _ HV7.out | exact HSK.out _ (Below.refl _ _)); done)
          clear hK K
          (try simp only [Act.put, List.setIfInBounds_toArray, List.set_cons_zero, List.set_cons_succ])
          refine wpAnyH_take (i := 62) (oi := ⟨_, _, _, _, _, _⟩) (v := ?_) rfl (by kernel_rfl) (by kernel_rfl) (by kernel_rfl) (fun _ _ _ h => h) (Or.inl ⟨by rfl, ?_⟩) (by assumption) ?_; rotate_left; (focus (intro w hSw; (try dsimp only at hSw); go_simp; (try with_reducible rfl); done)); simp only [Act.put, List.setIfInBounds_toArray, List.set_cons_zero, List.set_cons_succ]
          refine wpAnyH_take (i := 63) (oi := ⟨_, _, _, _, _, _⟩) (v := ?_) rfl (by kernel_rfl) (by kernel_rfl) (by kernel_rfl) (fun _ _ _ h => h) (Or.inl ⟨by rfl, ?_⟩) (by assumption) ?_; rotate_left; (focus (intro w hSw; (try dsimp only at hSw); go_simp; (try with_reducible rfl); done)); simp only [Act.put, List.setIfInBounds_toArray, List.set_cons_zero, List.set_cons_succ]
          refine wpAnyH_done (by kernel_rfl) ?_ _
          go_wp2
          have HB9 := Lib.hid (HB8.out.trans (HV7.out.mono HB8.out.size))
          go_roundw
          case rel => exact ⟨k + 1, _, by go_num, by omega, HTW8.out.below HV7.out, HB9.out⟩
          case measure => simp [intOf]; omega
        · clear hrep href hdis hTB hSB
          go_wp2_with fail
          refine (awake_any wr (HM.out.below HB.out)).mono ?_
          rintro e wz ⟨rfl, hbz⟩
          have HBZ := Lib.hid ((HB.out).trans (hbz.mono (HB.out).size))
          clear hbz
          go_wp2
          go_ret
          exact ⟨rfl, HBZ.out⟩
    · go_wp2_with fail
      refine (new_no (l := life) (t := total) (by omega)).mono ?_
      rintro e w4 ⟨rfl, rfl⟩
      go_wp2_with fail
      refine (rnew_no (l := life) (t := total) (by omega)).mono ?_
      rintro e w4 ⟨rfl, rfl⟩
      go_wp2_with fail
      refine (awake_any w1 (HM.out.below Hw1.out)).mono ?_
      rintro e wz ⟨rfl, hbz⟩
      have HBZ := Lib.hid ((Hw1.out).trans (hbz.mono (Hw1.out).size))
      clear hbz
      go_wp2
      go_ret
      exact ⟨rfl, HBZ.out⟩
  · have HL1 := Lib.hid (show lightB l = false by simpa using hl1)
    clear hl1
    go_enter Try.func3, Try.ntmps3
    go_wp2_with fail
    refine (light_is w A n c l HS.out HL1.out).mono ?_
    rintro e w1 ⟨rfl, hb⟩
    have Hw1 := Lib.hid hb
    clear hb
    go_wp2_with fail
    refine (awake_any w1 (HM.out.below Hw1.out)).mono ?_
    rintro e wz ⟨rfl, hbz⟩
    have HBZ := Lib.hid ((Hw1.out).trans (hbz.mono (Hw1.out).size))
    clear hbz
    go_wp2
    go_ret
    exact ⟨rfl, HBZ.out⟩
end Go.Proofs.Ytfeljihbaekfmaa.Rf
