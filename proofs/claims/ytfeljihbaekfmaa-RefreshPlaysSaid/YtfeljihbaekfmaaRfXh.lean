/-
  The reference's Rotate: its errors.
-/
import Derived.Test.YtfeljihbaekfmaaRfXg
import Derived.Test.YtfeljihbaekfmaaRfZ
import Derived.Laws.CopyOwn
namespace Go.Proofs.Ytfeljihbaekfmaa.Rf
open Go.RowKit Go.Proofs.Ytfeljihbaekfmaa.Fo

/-- A grant and an error come back from the reference. -/
def RRotIs (w : World) (S : Nat → Prop) (G : Nat) (r : St × (Gr × Int)) (e : Ending) (w' : World) : Prop :=
  ∃ A d, e = .returned (.tuple #[.agg #[.string r.2.1.user, .string r.2.1.client, .string r.2.1.tenant, .string r.2.1.session, .string r.2.1.redirect, .string r.2.1.nonce, .string r.2.1.challenge, .int .i64 r.2.1.method, (.slice A r.2.1.scopes.length d), .int .i64 r.2.1.auth, .int .i64 r.2.1.level], .int .i64 r.2.2]) ∧ Ss w' A r.2.1.scopes.length d r.2.1.scopes ∧ (∀ a, A = some a → 0 < r.2.1.scopes.length → S a.block ∨ w.heap.size ≤ a.block) ∧ RefE w' (Go.Proofs.Ytfeljihbaekfmaa.grow S w w') G r.1 ∧ Mods S w w'
theorem rrot_no {w w' : World} {S : Nat → Prop} {G : Nat} {st' : St} {k : Int} {r : St × (Gr × Int)} (hr : r = (st', (noG, k))) (hlt : ∀ k, S k → k < w.heap.size) (h : RefE w' S G st') (hm : Mods S w w') : RRotIs w S G r (.returned (.tuple #[.agg #[.string ⟨#[]⟩, .string ⟨#[]⟩, .string ⟨#[]⟩, .string ⟨#[]⟩, .string ⟨#[]⟩, .string ⟨#[]⟩, .string ⟨#[]⟩, .int .i64 0, .slice none 0 0, .int .i64 0, .int .i64 0], .int .i64 k])) w' := by
  subst hr
  exact ⟨none, 0, rfl, Ss.nil _ _ _, (fun a h => by cases h), h.keep (fun _ e => Or.inl e) (fun _ _ => rfl) (Nat.le_refl _) (fun k e => by
    rcases e with e | e
    · have := hlt k e; have := hm.size; omega
    · exact e.2), hm⟩
set_option maxRecDepth 100000 in
set_option maxHeartbeats 4000000 in
theorem rrot_6 {w : World} {S : Nat → Prop} {G : Nat} {st : St} (h : RefE w S G st) (t n c : Bs) (sc : List Bs) (B : Option Addr) (m d : Nat) (now : Int) (hn : n.size ≤ 100000) (hs : Ss w B m d sc) (hsh : Short sc) (hmm : m ≤ 1000) (q0 : findV st.l t = (-1, -1)) (hr : rot st t n c sc now = (st, (noG, 6))) :
    Calls Try.prog 35 #[.pointer (some ⟨G, 0, none⟩), .string t, .string n, .string c, .slice B m d, .int .i64 now] w (RRotIs w S G (rot st t n c sc now)) := by
  have hz9 : True := (fun _ _ _ _ => trivial) hn hs hsh hmm
  clear hz9
  have HR := Lib.hid hr
  have HE := Lib.hid h
  have HS := Lib.hid hs
  have HSH := Lib.hid hsh
  clear h hr hs hsh
  have H0 := Lib.hid q0
  clear q0
  go_enter Try.func35, Try.ntmps35
  go_upto_region 2 with fail
  obtain ⟨w0, hw0⟩ : ∃ w0, w0 = (w.alloc (.cells #[.string ⟨#[]⟩, .string ⟨#[]⟩, .string ⟨#[]⟩, .string ⟨#[]⟩, .string ⟨#[]⟩, .string ⟨#[]⟩, .string ⟨#[]⟩, .int .i64 0, .slice none 0 0, .int .i64 0, .int .i64 0] 35)).alloc (.cells #[.string ⟨#[]⟩, .string ⟨#[]⟩, .string ⟨#[]⟩, .string ⟨#[]⟩, .string ⟨#[]⟩, .string ⟨#[]⟩, .string ⟨#[]⟩, .int .i64 0, .slice none 0 0, .int .i64 0, .int .i64 0] 35) := ⟨_, rfl⟩
  rw [← hw0]
  have HB := Lib.hid (show Below w.heap.size w w0 by rw [hw0]; go_grown)
  have HZ := Lib.hid (show w0.heap[w.heap.size]? = some (.cells #[.string ⟨#[]⟩, .string ⟨#[]⟩, .string ⟨#[]⟩, .string ⟨#[]⟩, .string ⟨#[]⟩, .string ⟨#[]⟩, .string ⟨#[]⟩, .int .i64 0, .slice none 0 0, .int .i64 0, .int .i64 0] 35 (0, 0)) by rw [hw0]; rw [Below.heap_alloc _ _ _ (by simp)]; exact heap_alloc_new _ _)
  have HN := Lib.hid (show w0.heap[w.heap.size + 1]? = some (.cells #[.string ⟨#[]⟩, .string ⟨#[]⟩, .string ⟨#[]⟩, .string ⟨#[]⟩, .string ⟨#[]⟩, .string ⟨#[]⟩, .string ⟨#[]⟩, .int .i64 0, .slice none 0 0, .int .i64 0, .int .i64 0] 35 (0, 0)) by
    rw [hw0]
    have e : w.heap.size + 1 = (w.alloc (.cells #[.string ⟨#[]⟩, .string ⟨#[]⟩, .string ⟨#[]⟩, .string ⟨#[]⟩, .string ⟨#[]⟩, .string ⟨#[]⟩, .string ⟨#[]⟩, .int .i64 0, .slice none 0 0, .int .i64 0, .int .i64 0] 35)).heap.size := by simp
    rw [e]; exact heap_alloc_new _ _)
  have HE0 := Lib.hid (HE.out.below HB.out)
  clear hw0
  go_wp2_with fail
  refine (rmade_yes HE0.out).mono ?_
  rintro e w1 ⟨rfl, rfl⟩
  go_wp2_with fail
  refine (limited_is now w0).mono ?_
  rintro e w1 ⟨rfl, rfl⟩
  go_wp2_with fail
  refine (find_any HE0.out t).mono ?_
  rintro e w1 ⟨rfl, rfl⟩
  rw [H0.out]
  obtain ⟨n0, n1, n2, n3, n4, n5, n6, n7, n8, n9, n10⟩ := cells11 HN.out
  go_wp2_with (refine store_none rfl (.tmp 12) (.tmp 36) rfl w.heap.size rfl rfl HZ.out ?_)
  obtain ⟨y0, y1, y2, y3, y4, y5, y6, y7, y8, y9, y10⟩ := cells11 HZ.out
  refine bodyPost_ret (v := .tuple #[.agg #[.string ⟨#[]⟩, .string ⟨#[]⟩, .string ⟨#[]⟩, .string ⟨#[]⟩, .string ⟨#[]⟩, .string ⟨#[]⟩, .string ⟨#[]⟩, .int .i64 0, .slice none 0 0, .int .i64 0, .int .i64 0], .int .i64 6]) (by simp [results, Try.results35, go_sem, y0, y1, y2, y3, y4, y5, y6, y7, y8, y9, y10]) rfl ?_
  exact rrot_no HR.out HE.out.lt HE0.out (Mods.of_below _ HB.out)
set_option maxRecDepth 100000 in
set_option maxHeartbeats 4000000 in
theorem rrot_11 {w : World} {S : Nat → Prop} {G : Nat} {st : St} (h : RefE w S G st) (t n c : Bs) (sc : List Bs) (B : Option Addr) (m d : Nat) (now : Int) (hn : n.size ≤ 100000) (hs : Ss w B m d sc) (hsh : Short sc) (hmm : m ≤ 1000) (i k : Nat) (x : Fm) (q0 : findV st.l t = ((i : Int), (k : Int))) (hx : st.l[i]? = some x) (p0 : (x.g.client.toList == c.toList) = false) (hr : rot st t n c sc now = (st, (noG, 11))) :
    Calls Try.prog 35 #[.pointer (some ⟨G, 0, none⟩), .string t, .string n, .string c, .slice B m d, .int .i64 now] w (RRotIs w S G (rot st t n c sc now)) := by
  have HR := Lib.hid hr
  have HE := Lib.hid h
  have HS := Lib.hid hs
  have HSH := Lib.hid hsh
  clear h hr hs hsh
  have H0 := Lib.hid q0
  have HX := Lib.hid hx
  have HMM := Lib.hid hmm
  have HN0 := Lib.hid hn
  have P0 := Lib.hid p0
  clear q0 hx hmm hn p0
  go_enter Try.func35, Try.ntmps35
  go_upto_region 2 with fail
  obtain ⟨w0, hw0⟩ : ∃ w0, w0 = (w.alloc (.cells #[.string ⟨#[]⟩, .string ⟨#[]⟩, .string ⟨#[]⟩, .string ⟨#[]⟩, .string ⟨#[]⟩, .string ⟨#[]⟩, .string ⟨#[]⟩, .int .i64 0, .slice none 0 0, .int .i64 0, .int .i64 0] 35)).alloc (.cells #[.string ⟨#[]⟩, .string ⟨#[]⟩, .string ⟨#[]⟩, .string ⟨#[]⟩, .string ⟨#[]⟩, .string ⟨#[]⟩, .string ⟨#[]⟩, .int .i64 0, .slice none 0 0, .int .i64 0, .int .i64 0] 35) := ⟨_, rfl⟩
  rw [← hw0]
  have HSZ := Lib.hid (show w0.heap.size = w.heap.size + 2 by rw [hw0]; simp)
  have HB := Lib.hid (show Below w.heap.size w w0 by rw [hw0]; go_grown)
  have HZ := Lib.hid (show w0.heap[w.heap.size]? = some (.cells #[.string ⟨#[]⟩, .string ⟨#[]⟩, .string ⟨#[]⟩, .string ⟨#[]⟩, .string ⟨#[]⟩, .string ⟨#[]⟩, .string ⟨#[]⟩, .int .i64 0, .slice none 0 0, .int .i64 0, .int .i64 0] 35 (0, 0)) by rw [hw0]; rw [Below.heap_alloc _ _ _ (by simp)]; exact heap_alloc_new _ _)
  have HN := Lib.hid (show w0.heap[w.heap.size + 1]? = some (.cells #[.string ⟨#[]⟩, .string ⟨#[]⟩, .string ⟨#[]⟩, .string ⟨#[]⟩, .string ⟨#[]⟩, .string ⟨#[]⟩, .string ⟨#[]⟩, .int .i64 0, .slice none 0 0, .int .i64 0, .int .i64 0] 35 (0, 0)) by
    rw [hw0]
    have e : w.heap.size + 1 = (w.alloc (.cells #[.string ⟨#[]⟩, .string ⟨#[]⟩, .string ⟨#[]⟩, .string ⟨#[]⟩, .string ⟨#[]⟩, .string ⟨#[]⟩, .string ⟨#[]⟩, .int .i64 0, .slice none 0 0, .int .i64 0, .int .i64 0] 35)).heap.size := by simp
    rw [e]; exact heap_alloc_new _ _)
  have HE0 := Lib.hid (HE.out.below HB.out)
  clear hw0
  go_wp2_with fail
  refine (rmade_yes HE0.out).mono ?_
  rintro e w1 ⟨rfl, rfl⟩
  go_wp2_with fail
  refine (limited_is now w0).mono ?_
  rintro e w1 ⟨rfl, rfl⟩
  go_wp2_with fail
  refine (find_any HE0.out t).mono ?_
  rintro e w1 ⟨rfl, rfl⟩
  rw [H0.out]
  obtain ⟨I, v, es, hp⟩ := HE0.out
  obtain ⟨A1, c1, rfl⟩ := hp.own.len
  have HLE := Lib.hid hp.len
  have c3 := cell_block hp.hG 3
  simp only [List.getElem?_toArray, List.getElem?_cons_zero, List.getElem?_cons_succ] at c3
  have hil : i < es.length := by rw [HLE.out]; exact (List.getElem?_eq_some_iff.1 HX.out).1
  obtain ⟨⟨y, sA, sC, tA, tC⟩, he⟩ : ∃ e, es[i]? = some e := ⟨_, List.getElem?_eq_getElem hil⟩
  have hex : y = x := Option.some.inj ((hp.get he).symm.trans HX.out)
  subst hex
  have HS1 := Lib.hid (hp.sc _ (List.mem_of_getElem? he))
  have HT1 := Lib.hid (hp.tk _ (List.mem_of_getElem? he))
  have HSY := Lib.hid (hp.inv.sc y (List.mem_of_getElem? HX.out))
  have HTL := Lib.hid (hp.inv.tl y (List.mem_of_getElem? HX.out))
  have HEL := Lib.hid he
  have HINV := Lib.hid hp.inv
  obtain ⟨g, rfl, hg, hc⟩ := hp.own.at he
  have HP := Lib.hid hp
  have k0 : w0.cell? ⟨g, i * 16, none⟩ = some (.string y.id) := hc 0 _ rfl
  have k1 : w0.cell? ⟨g, i * 16 + 1, none⟩ = some (.string y.g.user) := hc 1 _ rfl
  have k2 : w0.cell? ⟨g, i * 16 + 2, none⟩ = some (.string y.g.client) := hc 2 _ rfl
  have k3 : w0.cell? ⟨g, i * 16 + 3, none⟩ = some (.string y.g.tenant) := hc 3 _ rfl
  have k4 : w0.cell? ⟨g, i * 16 + 4, none⟩ = some (.string y.g.session) := hc 4 _ rfl
  have k5 : w0.cell? ⟨g, i * 16 + 5, none⟩ = some (.string y.g.redirect) := hc 5 _ rfl
  have k6 : w0.cell? ⟨g, i * 16 + 6, none⟩ = some (.string y.g.nonce) := hc 6 _ rfl
  have k7 : w0.cell? ⟨g, i * 16 + 7, none⟩ = some (.string y.g.challenge) := hc 7 _ rfl
  have k8 : w0.cell? ⟨g, i * 16 + 8, none⟩ = some (.int .i64 y.g.method) := hc 8 _ rfl
  have k9 : w0.cell? ⟨g, i * 16 + 9, none⟩ = some (.slice sA y.g.scopes.length sC) := hc 9 _ rfl
  have k10 : w0.cell? ⟨g, i * 16 + 10, none⟩ = some (.int .i64 y.g.auth) := hc 10 _ rfl
  have k11 : w0.cell? ⟨g, i * 16 + 11, none⟩ = some (.int .i64 y.g.level) := hc 11 _ rfl
  have k12 : w0.cell? ⟨g, i * 16 + 12, none⟩ = some (.slice tA y.toks.length tC) := hc 12 _ rfl
  have k13 : w0.cell? ⟨g, i * 16 + 13, none⟩ = some (.int .i64 y.untl) := hc 13 _ rfl
  have k14 : w0.cell? ⟨g, i * 16 + 14, none⟩ = some (.int .i64 y.fin) := hc 14 _ rfl
  have k15 : w0.cell? ⟨g, i * 16 + 15, none⟩ = some (.bool y.ended) := hc 15 _ rfl
  clear hc he hp hg
  go_upto_region 9 with (refine wpList_store_row rfl 72 (.tmp 17) (.tmp 43) rfl w0.heap.size #[.string y.id, .string y.g.user, .string y.g.client, .string y.g.tenant, .string y.g.session, .string y.g.redirect, .string y.g.nonce, .string y.g.challenge, .int .i64 y.g.method, .slice sA y.g.scopes.length sC, .int .i64 y.g.auth, .int .i64 y.g.level, .slice tA y.toks.length tC, .int .i64 y.untl, .int .i64 y.fin, .bool y.ended] rfl rfl 72 _ (heap_alloc_new _ _) (by kernel_rfl) rfl (by simp [Value.oneCell']) ?_)
  obtain ⟨w1, hw1⟩ : ∃ w1, w1 = (w0.alloc (.cells #[.string ⟨#[]⟩, .string ⟨#[]⟩, .string ⟨#[]⟩, .string ⟨#[]⟩, .string ⟨#[]⟩, .string ⟨#[]⟩, .string ⟨#[]⟩, .string ⟨#[]⟩, .int .i64 0, .slice none 0 0, .int .i64 0, .int .i64 0, .slice none 0 0, .int .i64 0, .int .i64 0, .bool false] 72)).setRow w0.heap.size #[.string y.id, .string y.g.user, .string y.g.client, .string y.g.tenant, .string y.g.session, .string y.g.redirect, .string y.g.nonce, .string y.g.challenge, .int .i64 y.g.method, .slice sA y.g.scopes.length sC, .int .i64 y.g.auth, .int .i64 y.g.level, .slice tA y.toks.length tC, .int .i64 y.untl, .int .i64 y.fin, .bool y.ended] := ⟨_, rfl⟩
  rw [← hw1]
  have HB01 := Lib.hid (show Below w0.heap.size w0 w1 by rw [hw1]; exact below_setRow (by go_grown) (Nat.le_refl _) _)
  have HC := Lib.hid (show w1.heap[w0.heap.size]? = some (.cells #[.string y.id, .string y.g.user, .string y.g.client, .string y.g.tenant, .string y.g.session, .string y.g.redirect, .string y.g.nonce, .string y.g.challenge, .int .i64 y.g.method, .slice sA y.g.scopes.length sC, .int .i64 y.g.auth, .int .i64 y.g.level, .slice tA y.toks.length tC, .int .i64 y.untl, .int .i64 y.fin, .bool y.ended] 72 (0, 0)) by rw [hw1]; exact setRow_heap _ _ _ _ _ _ (heap_alloc_new _ _))
  have HSZ1 := Lib.hid (show w1.heap.size = w0.heap.size + 1 by rw [hw1, setRow_size]; simp)
  clear hw1 k0 k1 k2 k3 k4 k5 k6 k7 k8 k9 k10 k11 k12 k13 k14 k15 c3
  have HB1 := Lib.hid (HB.out.trans (HB01.out.mono HB.out.size))
  have HZ1 := Lib.hid ((HB01.out.block _ (blk_lt HZ.out)).trans HZ.out)
  have HN1 := Lib.hid ((HB01.out.block _ (blk_lt HN.out)).trans HN.out)
  have HP1 := Lib.hid (HP.out.below HB01.out)
  have HE1 := Lib.hid (HE0.out.below HB01.out)
  have HSS1 := Lib.hid (HS.out.below HB1.out)
  have HSC1 := Lib.hid (HS1.out.1.below HB01.out)
  have HTK1 := Lib.hid (HT1.out.1.below HB01.out)
  have hlen : y.toks.length ≤ 256 := HTL.out
  have p0 := P0.out
  have x2 := cell_block HC.out 2
  have x12 := cell_block HC.out 12
  simp only [List.getElem?_toArray, List.getElem?_cons_zero, List.getElem?_cons_succ] at x2 x12
  obtain ⟨n0, n1, n2, n3, n4, n5, n6, n7, n8, n9, n10⟩ := cells11 HN1.out
  go_wp2_with (refine store_none rfl (.tmp 12) (.tmp 49) rfl w.heap.size rfl rfl HZ1.out ?_)
  obtain ⟨y0, y1, y2, y3, y4, y5, y6, y7, y8, y9, y10⟩ := cells11 HZ1.out
  refine bodyPost_ret (v := .tuple #[.agg #[.string ⟨#[]⟩, .string ⟨#[]⟩, .string ⟨#[]⟩, .string ⟨#[]⟩, .string ⟨#[]⟩, .string ⟨#[]⟩, .string ⟨#[]⟩, .int .i64 0, .slice none 0 0, .int .i64 0, .int .i64 0], .int .i64 11]) (by simp [results, Try.results35, go_sem, y0, y1, y2, y3, y4, y5, y6, y7, y8, y9, y10]) rfl ?_
  exact rrot_no HR.out HE.out.lt HE1.out (Mods.of_below S HB1.out)
set_option maxRecDepth 100000 in
set_option maxHeartbeats 4000000 in
theorem rrot_18 {w : World} {S : Nat → Prop} {G : Nat} {st : St} (h : RefE w S G st) (t n c : Bs) (sc : List Bs) (B : Option Addr) (m d : Nat) (now : Int) (hn : n.size ≤ 100000) (hs : Ss w B m d sc) (hsh : Short sc) (hmm : m ≤ 1000) (i k : Nat) (x : Fm) (q0 : findV st.l t = ((i : Int), (k : Int))) (hx : st.l[i]? = some x) (p0 : (x.g.client.toList == c.toList) = true) (p1 : (k : Int) < (x.toks.length : Int) - 1) (hr : rot st t n c sc now = ({ st with l := st.l.set i { x with ended := true } }, (noG, 18))) :
    Calls Try.prog 35 #[.pointer (some ⟨G, 0, none⟩), .string t, .string n, .string c, .slice B m d, .int .i64 now] w (RRotIs w S G (rot st t n c sc now)) := by
  have HR := Lib.hid hr
  have HE := Lib.hid h
  have HS := Lib.hid hs
  have HSH := Lib.hid hsh
  clear h hr hs hsh
  have H0 := Lib.hid q0
  have HX := Lib.hid hx
  have HMM := Lib.hid hmm
  have HN0 := Lib.hid hn
  have P0 := Lib.hid p0
  have P1 := Lib.hid p1
  clear q0 hx hmm hn p0 p1
  go_enter Try.func35, Try.ntmps35
  go_upto_region 2 with fail
  obtain ⟨w0, hw0⟩ : ∃ w0, w0 = (w.alloc (.cells #[.string ⟨#[]⟩, .string ⟨#[]⟩, .string ⟨#[]⟩, .string ⟨#[]⟩, .string ⟨#[]⟩, .string ⟨#[]⟩, .string ⟨#[]⟩, .int .i64 0, .slice none 0 0, .int .i64 0, .int .i64 0] 35)).alloc (.cells #[.string ⟨#[]⟩, .string ⟨#[]⟩, .string ⟨#[]⟩, .string ⟨#[]⟩, .string ⟨#[]⟩, .string ⟨#[]⟩, .string ⟨#[]⟩, .int .i64 0, .slice none 0 0, .int .i64 0, .int .i64 0] 35) := ⟨_, rfl⟩
  rw [← hw0]
  have HSZ := Lib.hid (show w0.heap.size = w.heap.size + 2 by rw [hw0]; simp)
  have HB := Lib.hid (show Below w.heap.size w w0 by rw [hw0]; go_grown)
  have HZ := Lib.hid (show w0.heap[w.heap.size]? = some (.cells #[.string ⟨#[]⟩, .string ⟨#[]⟩, .string ⟨#[]⟩, .string ⟨#[]⟩, .string ⟨#[]⟩, .string ⟨#[]⟩, .string ⟨#[]⟩, .int .i64 0, .slice none 0 0, .int .i64 0, .int .i64 0] 35 (0, 0)) by rw [hw0]; rw [Below.heap_alloc _ _ _ (by simp)]; exact heap_alloc_new _ _)
  have HN := Lib.hid (show w0.heap[w.heap.size + 1]? = some (.cells #[.string ⟨#[]⟩, .string ⟨#[]⟩, .string ⟨#[]⟩, .string ⟨#[]⟩, .string ⟨#[]⟩, .string ⟨#[]⟩, .string ⟨#[]⟩, .int .i64 0, .slice none 0 0, .int .i64 0, .int .i64 0] 35 (0, 0)) by
    rw [hw0]
    have e : w.heap.size + 1 = (w.alloc (.cells #[.string ⟨#[]⟩, .string ⟨#[]⟩, .string ⟨#[]⟩, .string ⟨#[]⟩, .string ⟨#[]⟩, .string ⟨#[]⟩, .string ⟨#[]⟩, .int .i64 0, .slice none 0 0, .int .i64 0, .int .i64 0] 35)).heap.size := by simp
    rw [e]; exact heap_alloc_new _ _)
  have HE0 := Lib.hid (HE.out.below HB.out)
  clear hw0
  go_wp2_with fail
  refine (rmade_yes HE0.out).mono ?_
  rintro e w1 ⟨rfl, rfl⟩
  go_wp2_with fail
  refine (limited_is now w0).mono ?_
  rintro e w1 ⟨rfl, rfl⟩
  go_wp2_with fail
  refine (find_any HE0.out t).mono ?_
  rintro e w1 ⟨rfl, rfl⟩
  rw [H0.out]
  obtain ⟨I, v, es, hp⟩ := HE0.out
  obtain ⟨A1, c1, rfl⟩ := hp.own.len
  have HLE := Lib.hid hp.len
  have c3 := cell_block hp.hG 3
  simp only [List.getElem?_toArray, List.getElem?_cons_zero, List.getElem?_cons_succ] at c3
  have hil : i < es.length := by rw [HLE.out]; exact (List.getElem?_eq_some_iff.1 HX.out).1
  obtain ⟨⟨y, sA, sC, tA, tC⟩, he⟩ : ∃ e, es[i]? = some e := ⟨_, List.getElem?_eq_getElem hil⟩
  have hex : y = x := Option.some.inj ((hp.get he).symm.trans HX.out)
  subst hex
  have HS1 := Lib.hid (hp.sc _ (List.mem_of_getElem? he))
  have HT1 := Lib.hid (hp.tk _ (List.mem_of_getElem? he))
  have HSY := Lib.hid (hp.inv.sc y (List.mem_of_getElem? HX.out))
  have HTL := Lib.hid (hp.inv.tl y (List.mem_of_getElem? HX.out))
  have HEL := Lib.hid he
  have HINV := Lib.hid hp.inv
  obtain ⟨g, rfl, hg, hc⟩ := hp.own.at he
  have HP := Lib.hid hp
  have k0 : w0.cell? ⟨g, i * 16, none⟩ = some (.string y.id) := hc 0 _ rfl
  have k1 : w0.cell? ⟨g, i * 16 + 1, none⟩ = some (.string y.g.user) := hc 1 _ rfl
  have k2 : w0.cell? ⟨g, i * 16 + 2, none⟩ = some (.string y.g.client) := hc 2 _ rfl
  have k3 : w0.cell? ⟨g, i * 16 + 3, none⟩ = some (.string y.g.tenant) := hc 3 _ rfl
  have k4 : w0.cell? ⟨g, i * 16 + 4, none⟩ = some (.string y.g.session) := hc 4 _ rfl
  have k5 : w0.cell? ⟨g, i * 16 + 5, none⟩ = some (.string y.g.redirect) := hc 5 _ rfl
  have k6 : w0.cell? ⟨g, i * 16 + 6, none⟩ = some (.string y.g.nonce) := hc 6 _ rfl
  have k7 : w0.cell? ⟨g, i * 16 + 7, none⟩ = some (.string y.g.challenge) := hc 7 _ rfl
  have k8 : w0.cell? ⟨g, i * 16 + 8, none⟩ = some (.int .i64 y.g.method) := hc 8 _ rfl
  have k9 : w0.cell? ⟨g, i * 16 + 9, none⟩ = some (.slice sA y.g.scopes.length sC) := hc 9 _ rfl
  have k10 : w0.cell? ⟨g, i * 16 + 10, none⟩ = some (.int .i64 y.g.auth) := hc 10 _ rfl
  have k11 : w0.cell? ⟨g, i * 16 + 11, none⟩ = some (.int .i64 y.g.level) := hc 11 _ rfl
  have k12 : w0.cell? ⟨g, i * 16 + 12, none⟩ = some (.slice tA y.toks.length tC) := hc 12 _ rfl
  have k13 : w0.cell? ⟨g, i * 16 + 13, none⟩ = some (.int .i64 y.untl) := hc 13 _ rfl
  have k14 : w0.cell? ⟨g, i * 16 + 14, none⟩ = some (.int .i64 y.fin) := hc 14 _ rfl
  have k15 : w0.cell? ⟨g, i * 16 + 15, none⟩ = some (.bool y.ended) := hc 15 _ rfl
  clear hc he hp hg
  go_upto_region 9 with (refine wpList_store_row rfl 72 (.tmp 17) (.tmp 43) rfl w0.heap.size #[.string y.id, .string y.g.user, .string y.g.client, .string y.g.tenant, .string y.g.session, .string y.g.redirect, .string y.g.nonce, .string y.g.challenge, .int .i64 y.g.method, .slice sA y.g.scopes.length sC, .int .i64 y.g.auth, .int .i64 y.g.level, .slice tA y.toks.length tC, .int .i64 y.untl, .int .i64 y.fin, .bool y.ended] rfl rfl 72 _ (heap_alloc_new _ _) (by kernel_rfl) rfl (by simp [Value.oneCell']) ?_)
  obtain ⟨w1, hw1⟩ : ∃ w1, w1 = (w0.alloc (.cells #[.string ⟨#[]⟩, .string ⟨#[]⟩, .string ⟨#[]⟩, .string ⟨#[]⟩, .string ⟨#[]⟩, .string ⟨#[]⟩, .string ⟨#[]⟩, .string ⟨#[]⟩, .int .i64 0, .slice none 0 0, .int .i64 0, .int .i64 0, .slice none 0 0, .int .i64 0, .int .i64 0, .bool false] 72)).setRow w0.heap.size #[.string y.id, .string y.g.user, .string y.g.client, .string y.g.tenant, .string y.g.session, .string y.g.redirect, .string y.g.nonce, .string y.g.challenge, .int .i64 y.g.method, .slice sA y.g.scopes.length sC, .int .i64 y.g.auth, .int .i64 y.g.level, .slice tA y.toks.length tC, .int .i64 y.untl, .int .i64 y.fin, .bool y.ended] := ⟨_, rfl⟩
  rw [← hw1]
  have HB01 := Lib.hid (show Below w0.heap.size w0 w1 by rw [hw1]; exact below_setRow (by go_grown) (Nat.le_refl _) _)
  have HC := Lib.hid (show w1.heap[w0.heap.size]? = some (.cells #[.string y.id, .string y.g.user, .string y.g.client, .string y.g.tenant, .string y.g.session, .string y.g.redirect, .string y.g.nonce, .string y.g.challenge, .int .i64 y.g.method, .slice sA y.g.scopes.length sC, .int .i64 y.g.auth, .int .i64 y.g.level, .slice tA y.toks.length tC, .int .i64 y.untl, .int .i64 y.fin, .bool y.ended] 72 (0, 0)) by rw [hw1]; exact setRow_heap _ _ _ _ _ _ (heap_alloc_new _ _))
  have HSZ1 := Lib.hid (show w1.heap.size = w0.heap.size + 1 by rw [hw1, setRow_size]; simp)
  clear hw1 k0 k1 k2 k3 k4 k5 k6 k7 k8 k9 k10 k11 k12 k13 k14 k15 c3
  have HB1 := Lib.hid (HB.out.trans (HB01.out.mono HB.out.size))
  have HZ1 := Lib.hid ((HB01.out.block _ (blk_lt HZ.out)).trans HZ.out)
  have HN1 := Lib.hid ((HB01.out.block _ (blk_lt HN.out)).trans HN.out)
  have HP1 := Lib.hid (HP.out.below HB01.out)
  have HE1 := Lib.hid (HE0.out.below HB01.out)
  have HSS1 := Lib.hid (HS.out.below HB1.out)
  have HSC1 := Lib.hid (HS1.out.1.below HB01.out)
  have HTK1 := Lib.hid (HT1.out.1.below HB01.out)
  have hlen : y.toks.length ≤ 256 := HTL.out
  have p0 := P0.out
  have x2 := cell_block HC.out 2
  have x12 := cell_block HC.out 12
  simp only [List.getElem?_toArray, List.getElem?_cons_zero, List.getElem?_cons_succ] at x2 x12
  have p1 := P1.out
  have e3 := cell_block HP1.out.hG 3
  simp only [List.getElem?_toArray, List.getElem?_cons_zero, List.getElem?_cons_succ] at e3
  have f15 := HP1.out.fz (i * 16 + 15)
  have k15 : w1.cell? ⟨g, i * 16 + 15, none⟩ = some (.bool y.ended) := by
    obtain ⟨g', hg', _, hc'⟩ := HP1.out.own.at HEL.out
    injection hg' with hg'
    injection hg' with hg'
    subst hg'
    exact hc' 15 _ rfl
  go_upto_region 13 with fail
  obtain ⟨w2, hw2⟩ : ∃ w2, w2 = w1.setCell ⟨g, i * 16 + 15, none⟩ (.bool true) := ⟨_, rfl⟩
  rw [← hw2]
  have HSG := Lib.hid (HP1.out.sv g rfl).1
  have hgl := HE.out.lt g HSG.out
  have HE2 := Lib.hid (show RefE w2 S G _ by rw [hw2]; exact ⟨I, _, _, ref_ended HP1.out HEL.out⟩)
  have HM2 := Lib.hid (show Mods S w w2 by rw [hw2]; exact (Mods.of_below S HB1.out).setCell (p := ⟨g, i * 16 + 15, none⟩) (Or.inl HSG.out) (.bool true))
  have HZ2 := Lib.hid (show w2.heap[w.heap.size]? = some (.cells #[.string ⟨#[]⟩, .string ⟨#[]⟩, .string ⟨#[]⟩, .string ⟨#[]⟩, .string ⟨#[]⟩, .string ⟨#[]⟩, .string ⟨#[]⟩, .int .i64 0, .slice none 0 0, .int .i64 0, .int .i64 0] 35 (0, 0)) by rw [hw2]; exact (Below.heap_setCell _ _ _ _ (fun e => by simp only at e; omega)).trans HZ1.out)
  have HN2 := Lib.hid (show w2.heap[w.heap.size + 1]? = some (.cells #[.string ⟨#[]⟩, .string ⟨#[]⟩, .string ⟨#[]⟩, .string ⟨#[]⟩, .string ⟨#[]⟩, .string ⟨#[]⟩, .string ⟨#[]⟩, .int .i64 0, .slice none 0 0, .int .i64 0, .int .i64 0] 35 (0, 0)) by rw [hw2]; exact (Below.heap_setCell _ _ _ _ (fun e => by simp only at e; omega)).trans HN1.out)
  clear hw2 e3 f15 k15 x2 x12
  obtain ⟨n0, n1, n2, n3, n4, n5, n6, n7, n8, n9, n10⟩ := cells11 HN2.out
  go_wp2_with (refine store_none rfl (.tmp 12) (.tmp 63) rfl w.heap.size rfl rfl HZ2.out ?_)
  obtain ⟨y0, y1, y2, y3, y4, y5, y6, y7, y8, y9, y10⟩ := cells11 HZ2.out
  refine bodyPost_ret (v := .tuple #[.agg #[.string ⟨#[]⟩, .string ⟨#[]⟩, .string ⟨#[]⟩, .string ⟨#[]⟩, .string ⟨#[]⟩, .string ⟨#[]⟩, .string ⟨#[]⟩, .int .i64 0, .slice none 0 0, .int .i64 0, .int .i64 0], .int .i64 18]) (by simp [results, Try.results35, go_sem, y0, y1, y2, y3, y4, y5, y6, y7, y8, y9, y10]) rfl ?_
  exact rrot_no HR.out HE.out.lt HE2.out HM2.out
set_option maxRecDepth 100000 in
set_option maxHeartbeats 4000000 in
theorem rrot_25 {w : World} {S : Nat → Prop} {G : Nat} {st : St} (h : RefE w S G st) (t n c : Bs) (sc : List Bs) (B : Option Addr) (m d : Nat) (now : Int) (hn : n.size ≤ 100000) (hs : Ss w B m d sc) (hsh : Short sc) (hmm : m ≤ 1000) (i k : Nat) (x : Fm) (q0 : findV st.l t = ((i : Int), (k : Int))) (hx : st.l[i]? = some x) (p0 : (x.g.client.toList == c.toList) = true) (p1 : ¬ (k : Int) < (x.toks.length : Int) - 1) (p2 : x.ended = true) (hr : rot st t n c sc now = (st, (noG, 25))) :
    Calls Try.prog 35 #[.pointer (some ⟨G, 0, none⟩), .string t, .string n, .string c, .slice B m d, .int .i64 now] w (RRotIs w S G (rot st t n c sc now)) := by
  have HR := Lib.hid hr
  have HE := Lib.hid h
  have HS := Lib.hid hs
  have HSH := Lib.hid hsh
  clear h hr hs hsh
  have H0 := Lib.hid q0
  have HX := Lib.hid hx
  have HMM := Lib.hid hmm
  have HN0 := Lib.hid hn
  have P0 := Lib.hid p0
  have P1 := Lib.hid p1
  have P2 := Lib.hid p2
  clear q0 hx hmm hn p0 p1 p2
  go_enter Try.func35, Try.ntmps35
  go_upto_region 2 with fail
  obtain ⟨w0, hw0⟩ : ∃ w0, w0 = (w.alloc (.cells #[.string ⟨#[]⟩, .string ⟨#[]⟩, .string ⟨#[]⟩, .string ⟨#[]⟩, .string ⟨#[]⟩, .string ⟨#[]⟩, .string ⟨#[]⟩, .int .i64 0, .slice none 0 0, .int .i64 0, .int .i64 0] 35)).alloc (.cells #[.string ⟨#[]⟩, .string ⟨#[]⟩, .string ⟨#[]⟩, .string ⟨#[]⟩, .string ⟨#[]⟩, .string ⟨#[]⟩, .string ⟨#[]⟩, .int .i64 0, .slice none 0 0, .int .i64 0, .int .i64 0] 35) := ⟨_, rfl⟩
  rw [← hw0]
  have HSZ := Lib.hid (show w0.heap.size = w.heap.size + 2 by rw [hw0]; simp)
  have HB := Lib.hid (show Below w.heap.size w w0 by rw [hw0]; go_grown)
  have HZ := Lib.hid (show w0.heap[w.heap.size]? = some (.cells #[.string ⟨#[]⟩, .string ⟨#[]⟩, .string ⟨#[]⟩, .string ⟨#[]⟩, .string ⟨#[]⟩, .string ⟨#[]⟩, .string ⟨#[]⟩, .int .i64 0, .slice none 0 0, .int .i64 0, .int .i64 0] 35 (0, 0)) by rw [hw0]; rw [Below.heap_alloc _ _ _ (by simp)]; exact heap_alloc_new _ _)
  have HN := Lib.hid (show w0.heap[w.heap.size + 1]? = some (.cells #[.string ⟨#[]⟩, .string ⟨#[]⟩, .string ⟨#[]⟩, .string ⟨#[]⟩, .string ⟨#[]⟩, .string ⟨#[]⟩, .string ⟨#[]⟩, .int .i64 0, .slice none 0 0, .int .i64 0, .int .i64 0] 35 (0, 0)) by
    rw [hw0]
    have e : w.heap.size + 1 = (w.alloc (.cells #[.string ⟨#[]⟩, .string ⟨#[]⟩, .string ⟨#[]⟩, .string ⟨#[]⟩, .string ⟨#[]⟩, .string ⟨#[]⟩, .string ⟨#[]⟩, .int .i64 0, .slice none 0 0, .int .i64 0, .int .i64 0] 35)).heap.size := by simp
    rw [e]; exact heap_alloc_new _ _)
  have HE0 := Lib.hid (HE.out.below HB.out)
  clear hw0
  go_wp2_with fail
  refine (rmade_yes HE0.out).mono ?_
  rintro e w1 ⟨rfl, rfl⟩
  go_wp2_with fail
  refine (limited_is now w0).mono ?_
  rintro e w1 ⟨rfl, rfl⟩
  go_wp2_with fail
  refine (find_any HE0.out t).mono ?_
  rintro e w1 ⟨rfl, rfl⟩
  rw [H0.out]
  obtain ⟨I, v, es, hp⟩ := HE0.out
  obtain ⟨A1, c1, rfl⟩ := hp.own.len
  have HLE := Lib.hid hp.len
  have c3 := cell_block hp.hG 3
  simp only [List.getElem?_toArray, List.getElem?_cons_zero, List.getElem?_cons_succ] at c3
  have hil : i < es.length := by rw [HLE.out]; exact (List.getElem?_eq_some_iff.1 HX.out).1
  obtain ⟨⟨y, sA, sC, tA, tC⟩, he⟩ : ∃ e, es[i]? = some e := ⟨_, List.getElem?_eq_getElem hil⟩
  have hex : y = x := Option.some.inj ((hp.get he).symm.trans HX.out)
  subst hex
  have HS1 := Lib.hid (hp.sc _ (List.mem_of_getElem? he))
  have HT1 := Lib.hid (hp.tk _ (List.mem_of_getElem? he))
  have HSY := Lib.hid (hp.inv.sc y (List.mem_of_getElem? HX.out))
  have HTL := Lib.hid (hp.inv.tl y (List.mem_of_getElem? HX.out))
  have HEL := Lib.hid he
  have HINV := Lib.hid hp.inv
  obtain ⟨g, rfl, hg, hc⟩ := hp.own.at he
  have HP := Lib.hid hp
  have k0 : w0.cell? ⟨g, i * 16, none⟩ = some (.string y.id) := hc 0 _ rfl
  have k1 : w0.cell? ⟨g, i * 16 + 1, none⟩ = some (.string y.g.user) := hc 1 _ rfl
  have k2 : w0.cell? ⟨g, i * 16 + 2, none⟩ = some (.string y.g.client) := hc 2 _ rfl
  have k3 : w0.cell? ⟨g, i * 16 + 3, none⟩ = some (.string y.g.tenant) := hc 3 _ rfl
  have k4 : w0.cell? ⟨g, i * 16 + 4, none⟩ = some (.string y.g.session) := hc 4 _ rfl
  have k5 : w0.cell? ⟨g, i * 16 + 5, none⟩ = some (.string y.g.redirect) := hc 5 _ rfl
  have k6 : w0.cell? ⟨g, i * 16 + 6, none⟩ = some (.string y.g.nonce) := hc 6 _ rfl
  have k7 : w0.cell? ⟨g, i * 16 + 7, none⟩ = some (.string y.g.challenge) := hc 7 _ rfl
  have k8 : w0.cell? ⟨g, i * 16 + 8, none⟩ = some (.int .i64 y.g.method) := hc 8 _ rfl
  have k9 : w0.cell? ⟨g, i * 16 + 9, none⟩ = some (.slice sA y.g.scopes.length sC) := hc 9 _ rfl
  have k10 : w0.cell? ⟨g, i * 16 + 10, none⟩ = some (.int .i64 y.g.auth) := hc 10 _ rfl
  have k11 : w0.cell? ⟨g, i * 16 + 11, none⟩ = some (.int .i64 y.g.level) := hc 11 _ rfl
  have k12 : w0.cell? ⟨g, i * 16 + 12, none⟩ = some (.slice tA y.toks.length tC) := hc 12 _ rfl
  have k13 : w0.cell? ⟨g, i * 16 + 13, none⟩ = some (.int .i64 y.untl) := hc 13 _ rfl
  have k14 : w0.cell? ⟨g, i * 16 + 14, none⟩ = some (.int .i64 y.fin) := hc 14 _ rfl
  have k15 : w0.cell? ⟨g, i * 16 + 15, none⟩ = some (.bool y.ended) := hc 15 _ rfl
  clear hc he hp hg
  go_upto_region 9 with (refine wpList_store_row rfl 72 (.tmp 17) (.tmp 43) rfl w0.heap.size #[.string y.id, .string y.g.user, .string y.g.client, .string y.g.tenant, .string y.g.session, .string y.g.redirect, .string y.g.nonce, .string y.g.challenge, .int .i64 y.g.method, .slice sA y.g.scopes.length sC, .int .i64 y.g.auth, .int .i64 y.g.level, .slice tA y.toks.length tC, .int .i64 y.untl, .int .i64 y.fin, .bool y.ended] rfl rfl 72 _ (heap_alloc_new _ _) (by kernel_rfl) rfl (by simp [Value.oneCell']) ?_)
  obtain ⟨w1, hw1⟩ : ∃ w1, w1 = (w0.alloc (.cells #[.string ⟨#[]⟩, .string ⟨#[]⟩, .string ⟨#[]⟩, .string ⟨#[]⟩, .string ⟨#[]⟩, .string ⟨#[]⟩, .string ⟨#[]⟩, .string ⟨#[]⟩, .int .i64 0, .slice none 0 0, .int .i64 0, .int .i64 0, .slice none 0 0, .int .i64 0, .int .i64 0, .bool false] 72)).setRow w0.heap.size #[.string y.id, .string y.g.user, .string y.g.client, .string y.g.tenant, .string y.g.session, .string y.g.redirect, .string y.g.nonce, .string y.g.challenge, .int .i64 y.g.method, .slice sA y.g.scopes.length sC, .int .i64 y.g.auth, .int .i64 y.g.level, .slice tA y.toks.length tC, .int .i64 y.untl, .int .i64 y.fin, .bool y.ended] := ⟨_, rfl⟩
  rw [← hw1]
  have HB01 := Lib.hid (show Below w0.heap.size w0 w1 by rw [hw1]; exact below_setRow (by go_grown) (Nat.le_refl _) _)
  have HC := Lib.hid (show w1.heap[w0.heap.size]? = some (.cells #[.string y.id, .string y.g.user, .string y.g.client, .string y.g.tenant, .string y.g.session, .string y.g.redirect, .string y.g.nonce, .string y.g.challenge, .int .i64 y.g.method, .slice sA y.g.scopes.length sC, .int .i64 y.g.auth, .int .i64 y.g.level, .slice tA y.toks.length tC, .int .i64 y.untl, .int .i64 y.fin, .bool y.ended] 72 (0, 0)) by rw [hw1]; exact setRow_heap _ _ _ _ _ _ (heap_alloc_new _ _))
  have HSZ1 := Lib.hid (show w1.heap.size = w0.heap.size + 1 by rw [hw1, setRow_size]; simp)
  clear hw1 k0 k1 k2 k3 k4 k5 k6 k7 k8 k9 k10 k11 k12 k13 k14 k15 c3
  have HB1 := Lib.hid (HB.out.trans (HB01.out.mono HB.out.size))
  have HZ1 := Lib.hid ((HB01.out.block _ (blk_lt HZ.out)).trans HZ.out)
  have HN1 := Lib.hid ((HB01.out.block _ (blk_lt HN.out)).trans HN.out)
  have HP1 := Lib.hid (HP.out.below HB01.out)
  have HE1 := Lib.hid (HE0.out.below HB01.out)
  have HSS1 := Lib.hid (HS.out.below HB1.out)
  have HSC1 := Lib.hid (HS1.out.1.below HB01.out)
  have HTK1 := Lib.hid (HT1.out.1.below HB01.out)
  have hlen : y.toks.length ≤ 256 := HTL.out
  have p0 := P0.out
  have x2 := cell_block HC.out 2
  have x12 := cell_block HC.out 12
  have x15 := cell_block HC.out 15
  simp only [List.getElem?_toArray, List.getElem?_cons_zero, List.getElem?_cons_succ] at x2 x12 x15
  have p1 := P1.out
  rw [P2.out] at x15
  obtain ⟨n0, n1, n2, n3, n4, n5, n6, n7, n8, n9, n10⟩ := cells11 HN1.out
  go_wp2_with (refine store_none rfl (.tmp 12) (.tmp 66) rfl w.heap.size rfl rfl HZ1.out ?_)
  obtain ⟨y0, y1, y2, y3, y4, y5, y6, y7, y8, y9, y10⟩ := cells11 HZ1.out
  refine bodyPost_ret (v := .tuple #[.agg #[.string ⟨#[]⟩, .string ⟨#[]⟩, .string ⟨#[]⟩, .string ⟨#[]⟩, .string ⟨#[]⟩, .string ⟨#[]⟩, .string ⟨#[]⟩, .int .i64 0, .slice none 0 0, .int .i64 0, .int .i64 0], .int .i64 25]) (by simp [results, Try.results35, go_sem, y0, y1, y2, y3, y4, y5, y6, y7, y8, y9, y10]) rfl ?_
  exact rrot_no HR.out HE.out.lt HE1.out (Mods.of_below S HB1.out)
set_option maxRecDepth 100000 in
set_option maxHeartbeats 4000000 in
theorem rrot_13 {w : World} {S : Nat → Prop} {G : Nat} {st : St} (h : RefE w S G st) (t n c : Bs) (sc : List Bs) (B : Option Addr) (m d : Nat) (now : Int) (hn : n.size ≤ 100000) (hs : Ss w B m d sc) (hsh : Short sc) (hmm : m ≤ 1000) (i k : Nat) (x : Fm) (q0 : findV st.l t = ((i : Int), (k : Int))) (hx : st.l[i]? = some x) (p0 : (x.g.client.toList == c.toList) = true) (p1 : ¬ (k : Int) < (x.toks.length : Int) - 1) (p2 : x.ended = false) (p3 : x.untl ≤ limI now) (hr : rot st t n c sc now = (st, (noG, 13))) :
    Calls Try.prog 35 #[.pointer (some ⟨G, 0, none⟩), .string t, .string n, .string c, .slice B m d, .int .i64 now] w (RRotIs w S G (rot st t n c sc now)) := by
  have HR := Lib.hid hr
  have HE := Lib.hid h
  have HS := Lib.hid hs
  have HSH := Lib.hid hsh
  clear h hr hs hsh
  have H0 := Lib.hid q0
  have HX := Lib.hid hx
  have HMM := Lib.hid hmm
  have HN0 := Lib.hid hn
  have P0 := Lib.hid p0
  have P1 := Lib.hid p1
  have P2 := Lib.hid p2
  have P3 := Lib.hid p3
  clear q0 hx hmm hn p0 p1 p2 p3
  go_enter Try.func35, Try.ntmps35
  go_upto_region 2 with fail
  obtain ⟨w0, hw0⟩ : ∃ w0, w0 = (w.alloc (.cells #[.string ⟨#[]⟩, .string ⟨#[]⟩, .string ⟨#[]⟩, .string ⟨#[]⟩, .string ⟨#[]⟩, .string ⟨#[]⟩, .string ⟨#[]⟩, .int .i64 0, .slice none 0 0, .int .i64 0, .int .i64 0] 35)).alloc (.cells #[.string ⟨#[]⟩, .string ⟨#[]⟩, .string ⟨#[]⟩, .string ⟨#[]⟩, .string ⟨#[]⟩, .string ⟨#[]⟩, .string ⟨#[]⟩, .int .i64 0, .slice none 0 0, .int .i64 0, .int .i64 0] 35) := ⟨_, rfl⟩
  rw [← hw0]
  have HSZ := Lib.hid (show w0.heap.size = w.heap.size + 2 by rw [hw0]; simp)
  have HB := Lib.hid (show Below w.heap.size w w0 by rw [hw0]; go_grown)
  have HZ := Lib.hid (show w0.heap[w.heap.size]? = some (.cells #[.string ⟨#[]⟩, .string ⟨#[]⟩, .string ⟨#[]⟩, .string ⟨#[]⟩, .string ⟨#[]⟩, .string ⟨#[]⟩, .string ⟨#[]⟩, .int .i64 0, .slice none 0 0, .int .i64 0, .int .i64 0] 35 (0, 0)) by rw [hw0]; rw [Below.heap_alloc _ _ _ (by simp)]; exact heap_alloc_new _ _)
  have HN := Lib.hid (show w0.heap[w.heap.size + 1]? = some (.cells #[.string ⟨#[]⟩, .string ⟨#[]⟩, .string ⟨#[]⟩, .string ⟨#[]⟩, .string ⟨#[]⟩, .string ⟨#[]⟩, .string ⟨#[]⟩, .int .i64 0, .slice none 0 0, .int .i64 0, .int .i64 0] 35 (0, 0)) by
    rw [hw0]
    have e : w.heap.size + 1 = (w.alloc (.cells #[.string ⟨#[]⟩, .string ⟨#[]⟩, .string ⟨#[]⟩, .string ⟨#[]⟩, .string ⟨#[]⟩, .string ⟨#[]⟩, .string ⟨#[]⟩, .int .i64 0, .slice none 0 0, .int .i64 0, .int .i64 0] 35)).heap.size := by simp
    rw [e]; exact heap_alloc_new _ _)
  have HE0 := Lib.hid (HE.out.below HB.out)
  clear hw0
  go_wp2_with fail
  refine (rmade_yes HE0.out).mono ?_
  rintro e w1 ⟨rfl, rfl⟩
  go_wp2_with fail
  refine (limited_is now w0).mono ?_
  rintro e w1 ⟨rfl, rfl⟩
  go_wp2_with fail
  refine (find_any HE0.out t).mono ?_
  rintro e w1 ⟨rfl, rfl⟩
  rw [H0.out]
  obtain ⟨I, v, es, hp⟩ := HE0.out
  obtain ⟨A1, c1, rfl⟩ := hp.own.len
  have HLE := Lib.hid hp.len
  have c3 := cell_block hp.hG 3
  simp only [List.getElem?_toArray, List.getElem?_cons_zero, List.getElem?_cons_succ] at c3
  have hil : i < es.length := by rw [HLE.out]; exact (List.getElem?_eq_some_iff.1 HX.out).1
  obtain ⟨⟨y, sA, sC, tA, tC⟩, he⟩ : ∃ e, es[i]? = some e := ⟨_, List.getElem?_eq_getElem hil⟩
  have hex : y = x := Option.some.inj ((hp.get he).symm.trans HX.out)
  subst hex
  have HS1 := Lib.hid (hp.sc _ (List.mem_of_getElem? he))
  have HT1 := Lib.hid (hp.tk _ (List.mem_of_getElem? he))
  have HSY := Lib.hid (hp.inv.sc y (List.mem_of_getElem? HX.out))
  have HTL := Lib.hid (hp.inv.tl y (List.mem_of_getElem? HX.out))
  have HEL := Lib.hid he
  have HINV := Lib.hid hp.inv
  obtain ⟨g, rfl, hg, hc⟩ := hp.own.at he
  have HP := Lib.hid hp
  have k0 : w0.cell? ⟨g, i * 16, none⟩ = some (.string y.id) := hc 0 _ rfl
  have k1 : w0.cell? ⟨g, i * 16 + 1, none⟩ = some (.string y.g.user) := hc 1 _ rfl
  have k2 : w0.cell? ⟨g, i * 16 + 2, none⟩ = some (.string y.g.client) := hc 2 _ rfl
  have k3 : w0.cell? ⟨g, i * 16 + 3, none⟩ = some (.string y.g.tenant) := hc 3 _ rfl
  have k4 : w0.cell? ⟨g, i * 16 + 4, none⟩ = some (.string y.g.session) := hc 4 _ rfl
  have k5 : w0.cell? ⟨g, i * 16 + 5, none⟩ = some (.string y.g.redirect) := hc 5 _ rfl
  have k6 : w0.cell? ⟨g, i * 16 + 6, none⟩ = some (.string y.g.nonce) := hc 6 _ rfl
  have k7 : w0.cell? ⟨g, i * 16 + 7, none⟩ = some (.string y.g.challenge) := hc 7 _ rfl
  have k8 : w0.cell? ⟨g, i * 16 + 8, none⟩ = some (.int .i64 y.g.method) := hc 8 _ rfl
  have k9 : w0.cell? ⟨g, i * 16 + 9, none⟩ = some (.slice sA y.g.scopes.length sC) := hc 9 _ rfl
  have k10 : w0.cell? ⟨g, i * 16 + 10, none⟩ = some (.int .i64 y.g.auth) := hc 10 _ rfl
  have k11 : w0.cell? ⟨g, i * 16 + 11, none⟩ = some (.int .i64 y.g.level) := hc 11 _ rfl
  have k12 : w0.cell? ⟨g, i * 16 + 12, none⟩ = some (.slice tA y.toks.length tC) := hc 12 _ rfl
  have k13 : w0.cell? ⟨g, i * 16 + 13, none⟩ = some (.int .i64 y.untl) := hc 13 _ rfl
  have k14 : w0.cell? ⟨g, i * 16 + 14, none⟩ = some (.int .i64 y.fin) := hc 14 _ rfl
  have k15 : w0.cell? ⟨g, i * 16 + 15, none⟩ = some (.bool y.ended) := hc 15 _ rfl
  clear hc he hp hg
  go_upto_region 9 with (refine wpList_store_row rfl 72 (.tmp 17) (.tmp 43) rfl w0.heap.size #[.string y.id, .string y.g.user, .string y.g.client, .string y.g.tenant, .string y.g.session, .string y.g.redirect, .string y.g.nonce, .string y.g.challenge, .int .i64 y.g.method, .slice sA y.g.scopes.length sC, .int .i64 y.g.auth, .int .i64 y.g.level, .slice tA y.toks.length tC, .int .i64 y.untl, .int .i64 y.fin, .bool y.ended] rfl rfl 72 _ (heap_alloc_new _ _) (by kernel_rfl) rfl (by simp [Value.oneCell']) ?_)
  obtain ⟨w1, hw1⟩ : ∃ w1, w1 = (w0.alloc (.cells #[.string ⟨#[]⟩, .string ⟨#[]⟩, .string ⟨#[]⟩, .string ⟨#[]⟩, .string ⟨#[]⟩, .string ⟨#[]⟩, .string ⟨#[]⟩, .string ⟨#[]⟩, .int .i64 0, .slice none 0 0, .int .i64 0, .int .i64 0, .slice none 0 0, .int .i64 0, .int .i64 0, .bool false] 72)).setRow w0.heap.size #[.string y.id, .string y.g.user, .string y.g.client, .string y.g.tenant, .string y.g.session, .string y.g.redirect, .string y.g.nonce, .string y.g.challenge, .int .i64 y.g.method, .slice sA y.g.scopes.length sC, .int .i64 y.g.auth, .int .i64 y.g.level, .slice tA y.toks.length tC, .int .i64 y.untl, .int .i64 y.fin, .bool y.ended] := ⟨_, rfl⟩
  rw [← hw1]
  have HB01 := Lib.hid (show Below w0.heap.size w0 w1 by rw [hw1]; exact below_setRow (by go_grown) (Nat.le_refl _) _)
  have HC := Lib.hid (show w1.heap[w0.heap.size]? = some (.cells #[.string y.id, .string y.g.user, .string y.g.client, .string y.g.tenant, .string y.g.session, .string y.g.redirect, .string y.g.nonce, .string y.g.challenge, .int .i64 y.g.method, .slice sA y.g.scopes.length sC, .int .i64 y.g.auth, .int .i64 y.g.level, .slice tA y.toks.length tC, .int .i64 y.untl, .int .i64 y.fin, .bool y.ended] 72 (0, 0)) by rw [hw1]; exact setRow_heap _ _ _ _ _ _ (heap_alloc_new _ _))
  have HSZ1 := Lib.hid (show w1.heap.size = w0.heap.size + 1 by rw [hw1, setRow_size]; simp)
  clear hw1 k0 k1 k2 k3 k4 k5 k6 k7 k8 k9 k10 k11 k12 k13 k14 k15 c3
  have HB1 := Lib.hid (HB.out.trans (HB01.out.mono HB.out.size))
  have HZ1 := Lib.hid ((HB01.out.block _ (blk_lt HZ.out)).trans HZ.out)
  have HN1 := Lib.hid ((HB01.out.block _ (blk_lt HN.out)).trans HN.out)
  have HP1 := Lib.hid (HP.out.below HB01.out)
  have HE1 := Lib.hid (HE0.out.below HB01.out)
  have HSS1 := Lib.hid (HS.out.below HB1.out)
  have HSC1 := Lib.hid (HS1.out.1.below HB01.out)
  have HTK1 := Lib.hid (HT1.out.1.below HB01.out)
  have hlen : y.toks.length ≤ 256 := HTL.out
  have p0 := P0.out
  have x2 := cell_block HC.out 2
  have x12 := cell_block HC.out 12
  have x15 := cell_block HC.out 15
  have x13 := cell_block HC.out 13
  simp only [List.getElem?_toArray, List.getElem?_cons_zero, List.getElem?_cons_succ] at x2 x12 x15 x13
  have p1 := P1.out
  rw [P2.out] at x15
  have p3 := P3.out
  obtain ⟨n0, n1, n2, n3, n4, n5, n6, n7, n8, n9, n10⟩ := cells11 HN1.out
  go_wp2_with (refine store_none rfl (.tmp 12) (.tmp 71) rfl w.heap.size rfl rfl HZ1.out ?_)
  obtain ⟨y0, y1, y2, y3, y4, y5, y6, y7, y8, y9, y10⟩ := cells11 HZ1.out
  refine bodyPost_ret (v := .tuple #[.agg #[.string ⟨#[]⟩, .string ⟨#[]⟩, .string ⟨#[]⟩, .string ⟨#[]⟩, .string ⟨#[]⟩, .string ⟨#[]⟩, .string ⟨#[]⟩, .int .i64 0, .slice none 0 0, .int .i64 0, .int .i64 0], .int .i64 13]) (by simp [results, Try.results35, go_sem, y0, y1, y2, y3, y4, y5, y6, y7, y8, y9, y10]) rfl ?_
  exact rrot_no HR.out HE.out.lt HE1.out (Mods.of_below S HB1.out)
end Go.Proofs.Ytfeljihbaekfmaa.Rf
