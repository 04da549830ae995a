/-
  The reference's Rotate: a token that is rotated, with scopes wanted.
-/
import Derived.Test.YtfeljihbaekfmaaRfXi0
namespace Go.Proofs.Ytfeljihbaekfmaa.Rf
open Go.RowKit Go.Proofs.Ytfeljihbaekfmaa.Fo

set_option maxRecDepth 100000 in
set_option maxHeartbeats 4000000 in
theorem rrot_0b {w : World} {S : Nat → Prop} {G : Nat} {st : St} (h : RefE w S G st) (t n c : Bs) (sc : List Bs) (B : Option Addr) (m d : Nat) (now : Int) (hn : n.size ≤ 100000) (hs : Ss w B m d sc) (hsh : Short sc) (hmm : m ≤ 1000) (i k : Nat) (x : Fm) (hm0 : 0 < m) (q0 : findV st.l t = ((i : Int), (k : Int))) (hx : st.l[i]? = some x) (p0 : (x.g.client.toList == c.toList) = true) (p1 : ¬ (k : Int) < (x.toks.length : Int) - 1) (p2 : x.ended = false) (p3 : ¬ x.untl ≤ limI now) (p4 : wrd n = true) (p5 : findV st.l n = (-1, -1)) (p6 : withinS sc x.g.scopes = true) (p7 : ¬ 256 ≤ x.toks.length) (hbs : ∀ a, B = some a → 0 < m → ¬ S a.block) (hr : rot st t n c sc now = ({ st with l := st.l.set i (rotF st x n now) }, (rotG x sc, 0))) :
    Calls Try.prog 35 #[.pointer (some ⟨G, 0, none⟩), .string t, .string n, .string c, .slice B m d, .int .i64 now] w (RRotIs w S G (rot st t n c sc now)) := by
  have HR := Lib.hid hr
  have HBS := Lib.hid hbs
  clear hbs
  have HE := Lib.hid h
  have HS := Lib.hid hs
  have HSH := Lib.hid hsh
  clear h hr hs hsh
  have H0 := Lib.hid q0
  have HX := Lib.hid hx
  have HMM := Lib.hid hmm
  have HN0 := Lib.hid hn
  have P0 := Lib.hid p0
  have P1 := Lib.hid p1
  have P2 := Lib.hid p2
  have P3 := Lib.hid p3
  have P4 := Lib.hid p4
  have P5 := Lib.hid p5
  have P6 := Lib.hid p6
  have P7 := Lib.hid p7
  clear q0 hx hmm hn p0 p1 p2 p3 p4 p5 p6 p7
  have HPOS := Lib.hid hm0
  clear hm0
  go_enter Try.func35, Try.ntmps35
  go_upto_region 2 with fail
  obtain ⟨w0, hw0⟩ : ∃ w0, w0 = (w.alloc (.cells #[.string ⟨#[]⟩, .string ⟨#[]⟩, .string ⟨#[]⟩, .string ⟨#[]⟩, .string ⟨#[]⟩, .string ⟨#[]⟩, .string ⟨#[]⟩, .int .i64 0, .slice none 0 0, .int .i64 0, .int .i64 0] 35)).alloc (.cells #[.string ⟨#[]⟩, .string ⟨#[]⟩, .string ⟨#[]⟩, .string ⟨#[]⟩, .string ⟨#[]⟩, .string ⟨#[]⟩, .string ⟨#[]⟩, .int .i64 0, .slice none 0 0, .int .i64 0, .int .i64 0] 35) := ⟨_, rfl⟩
  rw [← hw0]
  have HSZ := Lib.hid (show w0.heap.size = w.heap.size + 2 by rw [hw0]; simp)
  have HB := Lib.hid (show Below w.heap.size w w0 by rw [hw0]; go_grown)
  have HZ := Lib.hid (show w0.heap[w.heap.size]? = some (.cells #[.string ⟨#[]⟩, .string ⟨#[]⟩, .string ⟨#[]⟩, .string ⟨#[]⟩, .string ⟨#[]⟩, .string ⟨#[]⟩, .string ⟨#[]⟩, .int .i64 0, .slice none 0 0, .int .i64 0, .int .i64 0] 35 (0, 0)) by rw [hw0]; rw [Below.heap_alloc _ _ _ (by simp)]; exact heap_alloc_new _ _)
  have HN := Lib.hid (show w0.heap[w.heap.size + 1]? = some (.cells #[.string ⟨#[]⟩, .string ⟨#[]⟩, .string ⟨#[]⟩, .string ⟨#[]⟩, .string ⟨#[]⟩, .string ⟨#[]⟩, .string ⟨#[]⟩, .int .i64 0, .slice none 0 0, .int .i64 0, .int .i64 0] 35 (0, 0)) by
    rw [hw0]
    have e : w.heap.size + 1 = (w.alloc (.cells #[.string ⟨#[]⟩, .string ⟨#[]⟩, .string ⟨#[]⟩, .string ⟨#[]⟩, .string ⟨#[]⟩, .string ⟨#[]⟩, .string ⟨#[]⟩, .int .i64 0, .slice none 0 0, .int .i64 0, .int .i64 0] 35)).heap.size := by simp
    rw [e]; exact heap_alloc_new _ _)
  have HE0 := Lib.hid (HE.out.below HB.out)
  clear hw0
  go_wp2_with fail
  refine (rmade_yes HE0.out).mono ?_
  rintro e w1 ⟨rfl, rfl⟩
  go_wp2_with fail
  refine (limited_is now w0).mono ?_
  rintro e w1 ⟨rfl, rfl⟩
  go_wp2_with fail
  refine (find_any HE0.out t).mono ?_
  rintro e w1 ⟨rfl, rfl⟩
  rw [H0.out]
  obtain ⟨I, v, es, hp⟩ := HE0.out
  obtain ⟨A1, c1, rfl⟩ := hp.own.len
  have HLE := Lib.hid hp.len
  have c3 := cell_block hp.hG 3
  simp only [List.getElem?_toArray, List.getElem?_cons_zero, List.getElem?_cons_succ] at c3
  have hil : i < es.length := by rw [HLE.out]; exact (List.getElem?_eq_some_iff.1 HX.out).1
  obtain ⟨⟨y, sA, sC, tA, tC⟩, he⟩ : ∃ e, es[i]? = some e := ⟨_, List.getElem?_eq_getElem hil⟩
  have hex : y = x := Option.some.inj ((hp.get he).symm.trans HX.out)
  subst hex
  have HS1 := Lib.hid (hp.sc _ (List.mem_of_getElem? he))
  have HT1 := Lib.hid (hp.tk _ (List.mem_of_getElem? he))
  have HSY := Lib.hid (hp.inv.sc y (List.mem_of_getElem? HX.out))
  have HTL := Lib.hid (hp.inv.tl y (List.mem_of_getElem? HX.out))
  have HEL := Lib.hid he
  have HINV := Lib.hid hp.inv
  obtain ⟨g, rfl, hg, hc⟩ := hp.own.at he
  have HP := Lib.hid hp
  have k0 : w0.cell? ⟨g, i * 16, none⟩ = some (.string y.id) := hc 0 _ rfl
  have k1 : w0.cell? ⟨g, i * 16 + 1, none⟩ = some (.string y.g.user) := hc 1 _ rfl
  have k2 : w0.cell? ⟨g, i * 16 + 2, none⟩ = some (.string y.g.client) := hc 2 _ rfl
  have k3 : w0.cell? ⟨g, i * 16 + 3, none⟩ = some (.string y.g.tenant) := hc 3 _ rfl
  have k4 : w0.cell? ⟨g, i * 16 + 4, none⟩ = some (.string y.g.session) := hc 4 _ rfl
  have k5 : w0.cell? ⟨g, i * 16 + 5, none⟩ = some (.string y.g.redirect) := hc 5 _ rfl
  have k6 : w0.cell? ⟨g, i * 16 + 6, none⟩ = some (.string y.g.nonce) := hc 6 _ rfl
  have k7 : w0.cell? ⟨g, i * 16 + 7, none⟩ = some (.string y.g.challenge) := hc 7 _ rfl
  have k8 : w0.cell? ⟨g, i * 16 + 8, none⟩ = some (.int .i64 y.g.method) := hc 8 _ rfl
  have k9 : w0.cell? ⟨g, i * 16 + 9, none⟩ = some (.slice sA y.g.scopes.length sC) := hc 9 _ rfl
  have k10 : w0.cell? ⟨g, i * 16 + 10, none⟩ = some (.int .i64 y.g.auth) := hc 10 _ rfl
  have k11 : w0.cell? ⟨g, i * 16 + 11, none⟩ = some (.int .i64 y.g.level) := hc 11 _ rfl
  have k12 : w0.cell? ⟨g, i * 16 + 12, none⟩ = some (.slice tA y.toks.length tC) := hc 12 _ rfl
  have k13 : w0.cell? ⟨g, i * 16 + 13, none⟩ = some (.int .i64 y.untl) := hc 13 _ rfl
  have k14 : w0.cell? ⟨g, i * 16 + 14, none⟩ = some (.int .i64 y.fin) := hc 14 _ rfl
  have k15 : w0.cell? ⟨g, i * 16 + 15, none⟩ = some (.bool y.ended) := hc 15 _ rfl
  clear hc he hp hg
  go_upto_region 9 with (refine wpList_store_row rfl 72 (.tmp 17) (.tmp 43) rfl w0.heap.size #[.string y.id, .string y.g.user, .string y.g.client, .string y.g.tenant, .string y.g.session, .string y.g.redirect, .string y.g.nonce, .string y.g.challenge, .int .i64 y.g.method, .slice sA y.g.scopes.length sC, .int .i64 y.g.auth, .int .i64 y.g.level, .slice tA y.toks.length tC, .int .i64 y.untl, .int .i64 y.fin, .bool y.ended] rfl rfl 72 _ (heap_alloc_new _ _) (by kernel_rfl) rfl (by simp [Value.oneCell']) ?_)
  obtain ⟨w1, hw1⟩ : ∃ w1, w1 = (w0.alloc (.cells #[.string ⟨#[]⟩, .string ⟨#[]⟩, .string ⟨#[]⟩, .string ⟨#[]⟩, .string ⟨#[]⟩, .string ⟨#[]⟩, .string ⟨#[]⟩, .string ⟨#[]⟩, .int .i64 0, .slice none 0 0, .int .i64 0, .int .i64 0, .slice none 0 0, .int .i64 0, .int .i64 0, .bool false] 72)).setRow w0.heap.size #[.string y.id, .string y.g.user, .string y.g.client, .string y.g.tenant, .string y.g.session, .string y.g.redirect, .string y.g.nonce, .string y.g.challenge, .int .i64 y.g.method, .slice sA y.g.scopes.length sC, .int .i64 y.g.auth, .int .i64 y.g.level, .slice tA y.toks.length tC, .int .i64 y.untl, .int .i64 y.fin, .bool y.ended] := ⟨_, rfl⟩
  rw [← hw1]
  have HB01 := Lib.hid (show Below w0.heap.size w0 w1 by rw [hw1]; exact below_setRow (by go_grown) (Nat.le_refl _) _)
  have HC := Lib.hid (show w1.heap[w0.heap.size]? = some (.cells #[.string y.id, .string y.g.user, .string y.g.client, .string y.g.tenant, .string y.g.session, .string y.g.redirect, .string y.g.nonce, .string y.g.challenge, .int .i64 y.g.method, .slice sA y.g.scopes.length sC, .int .i64 y.g.auth, .int .i64 y.g.level, .slice tA y.toks.length tC, .int .i64 y.untl, .int .i64 y.fin, .bool y.ended] 72 (0, 0)) by rw [hw1]; exact setRow_heap _ _ _ _ _ _ (heap_alloc_new _ _))
  have HSZ1 := Lib.hid (show w1.heap.size = w0.heap.size + 1 by rw [hw1, setRow_size]; simp)
  clear hw1 k0 k1 k2 k3 k4 k5 k6 k7 k8 k9 k10 k11 k12 k13 k14 k15 c3
  have HB1 := Lib.hid (HB.out.trans (HB01.out.mono HB.out.size))
  have HZ1 := Lib.hid ((HB01.out.block _ (blk_lt HZ.out)).trans HZ.out)
  have HN1 := Lib.hid ((HB01.out.block _ (blk_lt HN.out)).trans HN.out)
  have HP1 := Lib.hid (HP.out.below HB01.out)
  have HE1 := Lib.hid (HE0.out.below HB01.out)
  have HSS1 := Lib.hid (HS.out.below HB1.out)
  have HSC1 := Lib.hid (HS1.out.1.below HB01.out)
  have HTK1 := Lib.hid (HT1.out.1.below HB01.out)
  have hlen : y.toks.length ≤ 256 := HTL.out
  have p0 := P0.out
  have x2 := cell_block HC.out 2
  have x12 := cell_block HC.out 12
  have x15 := cell_block HC.out 15
  have x13 := cell_block HC.out 13
  have x9 := cell_block HC.out 9
  simp only [List.getElem?_toArray, List.getElem?_cons_zero, List.getElem?_cons_succ] at x2 x12 x15 x13 x9
  have p1 := P1.out
  rw [P2.out] at x15
  have p3 := P3.out
  go_wp2_with fail
  refine (rw_is n _ HN0.out true P4.out).mono ?_
  rintro e w2 ⟨rfl, rfl⟩
  go_wp2_with fail
  refine (find_any HE1.out n).mono ?_
  rintro e w2 ⟨rfl, rfl⟩
  rw [P5.out]
  go_wp2_with fail
  refine (rwithin_any B sA m d y.g.scopes.length sC sc y.g.scopes w1 HSS1.out HSC1.out HSH.out HSY.out.1 (by have := HMM.out; omega) (by have := HSY.out.2; omega)).mono ?_
  rintro e w2 ⟨rfl, rfl⟩
  rw [P6.out]
  have p7 := P7.out
  have e1 := cell_block HP1.out.hG 1
  have e3 := cell_block HP1.out.hG 3
  have x14 := cell_block HC.out 14
  simp only [List.getElem?_toArray, List.getElem?_cons_zero, List.getElem?_cons_succ] at e1 e3 x14
  have K12 := Lib.hid (own_at rfl HP1.out.own HEL.out 12 _ rfl)
  have HSG := Lib.hid (HP1.out.sv g rfl)
  have hgl := HE.out.lt g HSG.out.1
  have HGG := Lib.hid (show G ≠ g from fun e => HSG.out.2.2 e.symm)
  have HXG := Lib.hid (show w0.heap.size ≠ g by have := HSZ.out; omega)
  clear x2 x13 x15 x9
  go_upto_region 27 with fail
  go_cut [] (fun w6 => ∃ (A5 : Option Addr) (c5 : Nat) (w5 : World), Below w1.heap.size w1 w5 ∧ Own1 w5 w1.heap.size (.slice A5 (y.toks.length + 1) c5) (y.toks ++ [n]) ∧ w6 = w5.setCell ⟨g, i * 16 + 12, none⟩ (.slice A5 (y.toks.length + 1) c5))
  case first =>
    refine wp_region_held_drew (S := (fun w' => w'.cell? ⟨G, 3, none⟩ = some (.slice (some ⟨g, 0, none⟩) es.length c1) ∧ w'.cell? ⟨w0.heap.size, 12, none⟩ = some (.slice tA y.toks.length tC))) (by kernel_rfl) ?_ (fun hHeld => ?_)
    focus ((try dsimp only); (first | exact SK7.out | exact ⟨cell_below HB5.out e3, cell_below HB5.out x12⟩ | exact ⟨cell_below HB3.out e3, cell_below HB3.out x12⟩ | exact ⟨cell_below ((HB3.out).alloc HB3.out.size _) e3, cell_below ((HB3.out).alloc HB3.out.size _) x12⟩ | exact ⟨cell_below (by go_grown) e3, cell_below (by go_grown) x12⟩); done)
    refine wpAnyH_take (i := 0) (oi := ⟨_, _, _, _, _, _⟩) (v := ?_) rfl (by kernel_rfl) (by kernel_rfl) (by kernel_rfl) (fun _ _ _ h => h) (Or.inl ⟨by rfl, ?_⟩) (by assumption) ?_; rotate_left; (focus (intro w hSw; (try dsimp only at hSw); go_simp; (try with_reducible rfl); done)); simp only [Act.put, List.setIfInBounds_toArray, List.set_cons_zero, List.set_cons_succ]
    refine wpAnyH_take (i := 1) (oi := ⟨_, _, _, _, _, _⟩) (v := ?_) rfl (by kernel_rfl) (by kernel_rfl) (by kernel_rfl) (fun _ _ _ h => h) (Or.inl ⟨by rfl, ?_⟩) (by assumption) ?_; rotate_left; (focus (intro w hSw; (try dsimp only at hSw); go_simp; (try with_reducible rfl); done)); simp only [Act.put, List.setIfInBounds_toArray, List.set_cons_zero, List.set_cons_succ]
    refine wpAnyH_take (i := 2) (oi := ⟨_, _, _, _, _, _⟩) (v := ?_) rfl (by kernel_rfl) (by kernel_rfl) (by kernel_rfl) (fun _ _ _ h => h) (Or.inl ⟨by rfl, ?_⟩) (by assumption) ?_; rotate_left; (focus (intro w hSw; (try dsimp only at hSw); go_simp; (try with_reducible rfl); done)); simp only [Act.put, List.setIfInBounds_toArray, List.set_cons_zero, List.set_cons_succ]
    refine wpAnyH_take (i := 3) (oi := ⟨_, _, _, _, _, _⟩) (v := ?_) rfl (by kernel_rfl) (by kernel_rfl) (by kernel_rfl) (fun _ _ _ h => h) (Or.inl ⟨by rfl, ?_⟩) (by assumption) ?_; rotate_left; (focus (intro w hSw; (try dsimp only at hSw); go_simp; (try with_reducible rfl); done)); simp only [Act.put, List.setIfInBounds_toArray, List.set_cons_zero, List.set_cons_succ]
    refine wpAnyH_take (i := 4) (oi := ⟨_, _, _, _, _, _⟩) (v := ?_) rfl (by kernel_rfl) (by kernel_rfl) (by kernel_rfl) (fun _ _ _ h => h) (Or.inl ⟨by rfl, ?_⟩) (by assumption) ?_; rotate_left; (focus (intro w hSw; (try dsimp only at hSw); go_simp; (try with_reducible rfl); done)); simp only [Act.put, List.setIfInBounds_toArray, List.set_cons_zero, List.set_cons_succ]
    refine wpAnyH_take (i := 6) (oi := ⟨_, _, _, _, _, _⟩) (v := ?_) rfl (by kernel_rfl) (by kernel_rfl) (by kernel_rfl) (fun _ _ _ h => h) (Or.inl ⟨by rfl, ?_⟩) (by assumption) ?_; rotate_left; (focus (intro w hSw; (try dsimp only at hSw); go_simp; (try with_reducible rfl); done)); simp only [Act.put, List.setIfInBounds_toArray, List.set_cons_zero, List.set_cons_succ]
    refine wpAnyH_take (i := 7) (oi := ⟨_, _, _, _, _, _⟩) (v := ?_) rfl (by kernel_rfl) (by kernel_rfl) (by kernel_rfl) (fun _ _ _ h => h) (Or.inl ⟨by rfl, ?_⟩) (by assumption) ?_; rotate_left; (focus (intro w hSw; (try dsimp only at hSw); go_simp; (try with_reducible rfl); done)); simp only [Act.put, List.setIfInBounds_toArray, List.set_cons_zero, List.set_cons_succ]
    refine wpAnyH_take (i := 9) (oi := ⟨_, _, _, _, _, _⟩) (v := ?_) rfl (by kernel_rfl) (by kernel_rfl) (by kernel_rfl) (fun _ _ _ h => h) (Or.inl ⟨by rfl, ?_⟩) (by assumption) ?_; rotate_left; (focus (intro w hSw; (try dsimp only at hSw); go_simp; (try with_reducible rfl); done)); simp only [Act.put, List.setIfInBounds_toArray, List.set_cons_zero, List.set_cons_succ]
    refine wpAnyH_ready (rs := [5, 10]) (by kernel_rfl) (by simp) ?_
    refine AllReadyH.cons (o := ⟨_, _, _, _, _, _⟩) rfl (fun K hK => ?_) (AllReadyH.cons (o := ⟨_, _, _, _, _, _⟩) rfl (fun K hK => ?_) AllReadyH.nil)
    · go_simp
      (try go_wp2_with fail)
      refine hK.out _ _ ?_ (fun hHeld => ?_)
      focus ((try dsimp only); (first | exact SK7.out | exact ⟨cell_below HB5.out e3, cell_below HB5.out x12⟩ | exact ⟨cell_below HB3.out e3, cell_below HB3.out x12⟩ | exact ⟨cell_below ((HB3.out).alloc HB3.out.size _) e3, cell_below ((HB3.out).alloc HB3.out.size _) x12⟩ | exact ⟨cell_below (by go_grown) e3, cell_below (by go_grown) x12⟩); done)
      clear hK K
      (try simp only [Act.put, List.setIfInBounds_toArray, List.set_cons_zero, List.set_cons_succ])
      refine wpAnyH_ready (rs := [8, 10]) (by kernel_rfl) (by simp) ?_
      refine AllReadyH.cons (o := ⟨_, _, _, _, _, _⟩) rfl (fun K hK => ?_) (AllReadyH.cons (o := ⟨_, _, _, _, _, _⟩) rfl (fun K hK => ?_) AllReadyH.nil)
      · refine wp_app1 (.tmp 102) (.tmp 104) rfl w1.heap.size (by first | (simp; done) | (simp; omega)) (.slice (some ⟨w1.heap.size, 0, none⟩) 0 0) [] rfl (own1_e (heap_alloc_new _ _) (Nat.le_refl _)) tA y.toks.length tC y.toks rfl (HTK1.out.below (by go_grown)) (by simp; omega) ?_
        intro v3 w3 hO3 hg3 _
        rw [List.nil_append] at hO3
        have HB3 := Lib.hid (grown_below (B := w1.heap.size) (a := w1) (by go_grown) hg3 (Nat.le_refl _) (fun b hb => by injection hb with hb; subst hb; exact Nat.le_refl _))
        have HO3 := Lib.hid hO3
        clear hO3 hg3
        (try go_wp2_with fail)
        refine hK.out _ _ ?_ (fun hHeld => ?_)
        focus ((try dsimp only); (first | exact SK7.out | exact ⟨cell_below HB5.out e3, cell_below HB5.out x12⟩ | exact ⟨cell_below HB3.out e3, cell_below HB3.out x12⟩ | exact ⟨cell_below ((HB3.out).alloc HB3.out.size _) e3, cell_below ((HB3.out).alloc HB3.out.size _) x12⟩ | exact ⟨cell_below (by go_grown) e3, cell_below (by go_grown) x12⟩); done)
        clear hK K
        (try simp only [Act.put, List.setIfInBounds_toArray, List.set_cons_zero, List.set_cons_succ])
        refine wpAnyH_ready (rs := [10]) (by kernel_rfl) (by simp) ?_
        refine AllReadyH.cons (o := ⟨_, _, _, _, _, _⟩) rfl (fun K hK => ?_) AllReadyH.nil
        go_simp
        (try go_wp2_with fail)
        refine hK.out _ _ ?_ (fun hHeld => ?_)
        focus ((try dsimp only); (first | exact SK7.out | exact ⟨cell_below HB5.out e3, cell_below HB5.out x12⟩ | exact ⟨cell_below HB3.out e3, cell_below HB3.out x12⟩ | exact ⟨cell_below ((HB3.out).alloc HB3.out.size _) e3, cell_below ((HB3.out).alloc HB3.out.size _) x12⟩ | exact ⟨cell_below (by go_grown) e3, cell_below (by go_grown) x12⟩); done)
        clear hK K
        (try simp only [Act.put, List.setIfInBounds_toArray, List.set_cons_zero, List.set_cons_succ])
        refine wpAnyH_ready (rs := [11]) (by kernel_rfl) (by simp) ?_
        refine AllReadyH.cons (o := ⟨_, _, _, _, _, _⟩) rfl (fun K hK => ?_) AllReadyH.nil
        refine wp_app1 (.tmp 105) (.tmp 107) rfl w1.heap.size (by have := HB3.out.size; simp; omega) v3 y.toks rfl (HO3.out.below (by go_grown)) _ 1 1 [n] rfl (ss_one (heap_alloc_new _ _)) (by omega) ?_
        intro v5 w5 hO5 hg5 _
        have HB5 := Lib.hid (grown_below (B := w1.heap.size) (a := w1) ((HB3.out).alloc HB3.out.size _) hg5 (Nat.le_refl _) (own_row HO3.out))
        obtain ⟨A5, c5, rfl⟩ := hO5.form
        have hl5 : (y.toks ++ [n]).length = y.toks.length + 1 := by simp
        rw [hl5] at hO5
        rw [hl5]
        have HO5 := Lib.hid hO5
        have k12 := cell_below HB5.out K12.out
        have f12 : w5.frozen? ⟨g, i * 16 + 12, none⟩ = false := (HP1.out.below (HB5.out)).fz _
        have SK7 := Lib.hid (And.intro ((cell_set_ne (k := i * 16 + 12) w5 (.slice A5 (y.toks.length + 1) c5) (show (G ≠ g) from HGG.out)).trans (cell_below HB5.out e3)) ((cell_set_ne (k := i * 16 + 12) w5 (.slice A5 (y.toks.length + 1) c5) (show (w0.heap.size ≠ g) from HXG.out)).trans (cell_below HB5.out x12)))
        clear hO5 hg5 hl5
        (try go_wp2_with fail)
        refine hK.out _ _ ?_ (fun hHeld => ?_)
        focus ((try dsimp only); (first | exact SK7.out | exact ⟨cell_below HB5.out e3, cell_below HB5.out x12⟩ | exact ⟨cell_below HB3.out e3, cell_below HB3.out x12⟩ | exact ⟨cell_below ((HB3.out).alloc HB3.out.size _) e3, cell_below ((HB3.out).alloc HB3.out.size _) x12⟩ | exact ⟨cell_below (by go_grown) e3, cell_below (by go_grown) x12⟩); done)
        clear hK K
        (try simp only [Act.put, List.setIfInBounds_toArray, List.set_cons_zero, List.set_cons_succ])
        refine wpAnyH_take (i := 12) (oi := ⟨_, _, _, _, _, _⟩) (v := ?_) rfl (by kernel_rfl) (by kernel_rfl) (by kernel_rfl) (fun _ _ _ h => h) (Or.inl ⟨by rfl, ?_⟩) (by assumption) ?_; rotate_left; (focus (intro w hSw; (try dsimp only at hSw); go_simp; (try with_reducible rfl); done)); simp only [Act.put, List.setIfInBounds_toArray, List.set_cons_zero, List.set_cons_succ]
        refine wpAnyH_take (i := 13) (oi := ⟨_, _, _, _, _, _⟩) (v := ?_) rfl (by kernel_rfl) (by kernel_rfl) (by kernel_rfl) (fun _ _ _ h => h) (Or.inl ⟨by rfl, ?_⟩) (by assumption) ?_; rotate_left; (focus (intro w hSw; (try dsimp only at hSw); go_simp; (try with_reducible rfl); done)); simp only [Act.put, List.setIfInBounds_toArray, List.set_cons_zero, List.set_cons_succ]
        refine wpAnyH_ready (rs := [14]) (by kernel_rfl) (by simp) ?_
        refine AllReadyH.cons (o := ⟨_, _, _, _, _, _⟩) rfl (fun K hK => ?_) AllReadyH.nil
        go_simp
        (try go_wp2_with fail)
        refine hK.out _ _ ?_ (fun hHeld => ?_)
        focus ((try dsimp only); (first | exact SK7.out | exact ⟨cell_below HB5.out e3, cell_below HB5.out x12⟩ | exact ⟨cell_below HB3.out e3, cell_below HB3.out x12⟩ | exact ⟨cell_below ((HB3.out).alloc HB3.out.size _) e3, cell_below ((HB3.out).alloc HB3.out.size _) x12⟩ | exact ⟨cell_below (by go_grown) e3, cell_below (by go_grown) x12⟩); done)
        clear hK K
        (try simp only [Act.put, List.setIfInBounds_toArray, List.set_cons_zero, List.set_cons_succ])
        refine wpAnyH_done (by kernel_rfl) ?_ _
        go_wp2
        go_meet
        exact ⟨A5, c5, w5, HB5.out, HO5.out, rfl⟩
      · go_simp
        (try go_wp2_with fail)
        refine hK.out _ _ ?_ (fun hHeld => ?_)
        focus ((try dsimp only); (first | exact SK7.out | exact ⟨cell_below HB5.out e3, cell_below HB5.out x12⟩ | exact ⟨cell_below HB3.out e3, cell_below HB3.out x12⟩ | exact ⟨cell_below ((HB3.out).alloc HB3.out.size _) e3, cell_below ((HB3.out).alloc HB3.out.size _) x12⟩ | exact ⟨cell_below (by go_grown) e3, cell_below (by go_grown) x12⟩); done)
        clear hK K
        (try simp only [Act.put, List.setIfInBounds_toArray, List.set_cons_zero, List.set_cons_succ])
        refine wpAnyH_ready (rs := [8]) (by kernel_rfl) (by simp) ?_
        refine AllReadyH.cons (o := ⟨_, _, _, _, _, _⟩) rfl (fun K hK => ?_) AllReadyH.nil
        refine wp_app1 (.tmp 102) (.tmp 104) rfl w1.heap.size (by first | (simp; done) | (simp; omega)) (.slice (some ⟨w1.heap.size, 0, none⟩) 0 0) [] rfl (own1_e ((Below.heap_alloc _ _ _ (by simp)).trans (heap_alloc_new _ _)) (Nat.le_refl _)) tA y.toks.length tC y.toks rfl (HTK1.out.below (by go_grown)) (by simp; omega) ?_
        intro v3 w3 hO3 hg3 _
        rw [List.nil_append] at hO3
        have HB3 := Lib.hid (grown_below (B := w1.heap.size) (a := w1) (by go_grown) hg3 (Nat.le_refl _) (fun b hb => by injection hb with hb; subst hb; exact Nat.le_refl _))
        have HNB := Lib.hid (show w3.heap[w1.heap.size + 1]? = some (.cells #[.string n] 9 (0, 0)) from (hg3.block (w1.heap.size + 1) (by simp) (fun e => by have e9 := Option.some.inj e; simp at e9)).trans (alloc2_new w1 _ _))
        have HO3 := Lib.hid hO3
        clear hO3 hg3
        (try go_wp2_with fail)
        refine hK.out _ _ ?_ (fun hHeld => ?_)
        focus ((try dsimp only); (first | exact SK7.out | exact ⟨cell_below HB5.out e3, cell_below HB5.out x12⟩ | exact ⟨cell_below HB3.out e3, cell_below HB3.out x12⟩ | exact ⟨cell_below ((HB3.out).alloc HB3.out.size _) e3, cell_below ((HB3.out).alloc HB3.out.size _) x12⟩ | exact ⟨cell_below (by go_grown) e3, cell_below (by go_grown) x12⟩); done)
        clear hK K
        (try simp only [Act.put, List.setIfInBounds_toArray, List.set_cons_zero, List.set_cons_succ])
        refine wpAnyH_ready (rs := [11]) (by kernel_rfl) (by simp) ?_
        refine AllReadyH.cons (o := ⟨_, _, _, _, _, _⟩) rfl (fun K hK => ?_) AllReadyH.nil
        refine wp_app1 (.tmp 105) (.tmp 107) rfl w1.heap.size HB3.out.size v3 y.toks rfl HO3.out _ 1 1 [n] rfl (ss_one (HNB.out)) (by omega) ?_
        intro v5 w5 hO5 hg5 _
        have HB5 := Lib.hid (grown_below (B := w1.heap.size) (a := w1) HB3.out hg5 (Nat.le_refl _) (own_row HO3.out))
        obtain ⟨A5, c5, rfl⟩ := hO5.form
        have hl5 : (y.toks ++ [n]).length = y.toks.length + 1 := by simp
        rw [hl5] at hO5
        rw [hl5]
        have HO5 := Lib.hid hO5
        have k12 := cell_below HB5.out K12.out
        have f12 : w5.frozen? ⟨g, i * 16 + 12, none⟩ = false := (HP1.out.below (HB5.out)).fz _
        have SK7 := Lib.hid (And.intro ((cell_set_ne (k := i * 16 + 12) w5 (.slice A5 (y.toks.length + 1) c5) (show (G ≠ g) from HGG.out)).trans (cell_below HB5.out e3)) ((cell_set_ne (k := i * 16 + 12) w5 (.slice A5 (y.toks.length + 1) c5) (show (w0.heap.size ≠ g) from HXG.out)).trans (cell_below HB5.out x12)))
        clear hO5 hg5 hl5
        (try go_wp2_with fail)
        refine hK.out _ _ ?_ (fun hHeld => ?_)
        focus ((try dsimp only); (first | exact SK7.out | exact ⟨cell_below HB5.out e3, cell_below HB5.out x12⟩ | exact ⟨cell_below HB3.out e3, cell_below HB3.out x12⟩ | exact ⟨cell_below ((HB3.out).alloc HB3.out.size _) e3, cell_below ((HB3.out).alloc HB3.out.size _) x12⟩ | exact ⟨cell_below (by go_grown) e3, cell_below (by go_grown) x12⟩); done)
        clear hK K
        (try simp only [Act.put, List.setIfInBounds_toArray, List.set_cons_zero, List.set_cons_succ])
        refine wpAnyH_take (i := 12) (oi := ⟨_, _, _, _, _, _⟩) (v := ?_) rfl (by kernel_rfl) (by kernel_rfl) (by kernel_rfl) (fun _ _ _ h => h) (Or.inl ⟨by rfl, ?_⟩) (by assumption) ?_; rotate_left; (focus (intro w hSw; (try dsimp only at hSw); go_simp; (try with_reducible rfl); done)); simp only [Act.put, List.setIfInBounds_toArray, List.set_cons_zero, List.set_cons_succ]
        refine wpAnyH_take (i := 13) (oi := ⟨_, _, _, _, _, _⟩) (v := ?_) rfl (by kernel_rfl) (by kernel_rfl) (by kernel_rfl) (fun _ _ _ h => h) (Or.inl ⟨by rfl, ?_⟩) (by assumption) ?_; rotate_left; (focus (intro w hSw; (try dsimp only at hSw); go_simp; (try with_reducible rfl); done)); simp only [Act.put, List.setIfInBounds_toArray, List.set_cons_zero, List.set_cons_succ]
        refine wpAnyH_ready (rs := [14]) (by kernel_rfl) (by simp) ?_
        refine AllReadyH.cons (o := ⟨_, _, _, _, _, _⟩) rfl (fun K hK => ?_) AllReadyH.nil
        go_simp
        (try go_wp2_with fail)
        refine hK.out _ _ ?_ (fun hHeld => ?_)
        focus ((try dsimp only); (first | exact SK7.out | exact ⟨cell_below HB5.out e3, cell_below HB5.out x12⟩ | exact ⟨cell_below HB3.out e3, cell_below HB3.out x12⟩ | exact ⟨cell_below ((HB3.out).alloc HB3.out.size _) e3, cell_below ((HB3.out).alloc HB3.out.size _) x12⟩ | exact ⟨cell_below (by go_grown) e3, cell_below (by go_grown) x12⟩); done)
        clear hK K
        (try simp only [Act.put, List.setIfInBounds_toArray, List.set_cons_zero, List.set_cons_succ])
        refine wpAnyH_done (by kernel_rfl) ?_ _
        go_wp2
        go_meet
        exact ⟨A5, c5, w5, HB5.out, HO5.out, rfl⟩
    · go_simp
      (try go_wp2_with fail)
      refine hK.out _ _ ?_ (fun hHeld => ?_)
      focus ((try dsimp only); (first | exact SK7.out | exact ⟨cell_below HB5.out e3, cell_below HB5.out x12⟩ | exact ⟨cell_below HB3.out e3, cell_below HB3.out x12⟩ | exact ⟨cell_below ((HB3.out).alloc HB3.out.size _) e3, cell_below ((HB3.out).alloc HB3.out.size _) x12⟩ | exact ⟨cell_below (by go_grown) e3, cell_below (by go_grown) x12⟩); done)
      clear hK K
      (try simp only [Act.put, List.setIfInBounds_toArray, List.set_cons_zero, List.set_cons_succ])
      refine wpAnyH_ready (rs := [5]) (by kernel_rfl) (by simp) ?_
      refine AllReadyH.cons (o := ⟨_, _, _, _, _, _⟩) rfl (fun K hK => ?_) AllReadyH.nil
      go_simp
      (try go_wp2_with fail)
      refine hK.out _ _ ?_ (fun hHeld => ?_)
      focus ((try dsimp only); (first | exact SK7.out | exact ⟨cell_below HB5.out e3, cell_below HB5.out x12⟩ | exact ⟨cell_below HB3.out e3, cell_below HB3.out x12⟩ | exact ⟨cell_below ((HB3.out).alloc HB3.out.size _) e3, cell_below ((HB3.out).alloc HB3.out.size _) x12⟩ | exact ⟨cell_below (by go_grown) e3, cell_below (by go_grown) x12⟩); done)
      clear hK K
      (try simp only [Act.put, List.setIfInBounds_toArray, List.set_cons_zero, List.set_cons_succ])
      refine wpAnyH_ready (rs := [8]) (by kernel_rfl) (by simp) ?_
      refine AllReadyH.cons (o := ⟨_, _, _, _, _, _⟩) rfl (fun K hK => ?_) AllReadyH.nil
      refine wp_app1 (.tmp 102) (.tmp 104) rfl w1.heap.size (by first | (simp; done) | (simp; omega)) (.slice (some ⟨w1.heap.size + 1, 0, none⟩) 0 0) [] rfl (own1_e (alloc2_new w1 _ _) (Nat.le_succ _)) tA y.toks.length tC y.toks rfl (HTK1.out.below (by go_grown)) (by simp; omega) ?_
      intro v3 w3 hO3 hg3 _
      rw [List.nil_append] at hO3
      have HB3 := Lib.hid (grown_below (B := w1.heap.size) (a := w1) (by go_grown) hg3 (Nat.le_refl _) (fun b hb => by injection hb with hb; subst hb; exact Nat.le_succ _))
      have HNB := Lib.hid (show w3.heap[w1.heap.size]? = some (.cells #[.string n] 9 (0, 0)) from (hg3.block w1.heap.size (by simp; omega) (fun e => by have e9 := Option.some.inj e; simp at e9)).trans ((Below.heap_alloc _ _ _ (by simp)).trans (heap_alloc_new _ _)))
      have HO3 := Lib.hid hO3
      clear hO3 hg3
      (try go_wp2_with fail)
      refine hK.out _ _ ?_ (fun hHeld => ?_)
      focus ((try dsimp only); (first | exact SK7.out | exact ⟨cell_below HB5.out e3, cell_below HB5.out x12⟩ | exact ⟨cell_below HB3.out e3, cell_below HB3.out x12⟩ | exact ⟨cell_below ((HB3.out).alloc HB3.out.size _) e3, cell_below ((HB3.out).alloc HB3.out.size _) x12⟩ | exact ⟨cell_below (by go_grown) e3, cell_below (by go_grown) x12⟩); done)
      clear hK K
      (try simp only [Act.put, List.setIfInBounds_toArray, List.set_cons_zero, List.set_cons_succ])
      refine wpAnyH_ready (rs := [11]) (by kernel_rfl) (by simp) ?_
      refine AllReadyH.cons (o := ⟨_, _, _, _, _, _⟩) rfl (fun K hK => ?_) AllReadyH.nil
      refine wp_app1 (.tmp 105) (.tmp 107) rfl w1.heap.size HB3.out.size v3 y.toks rfl HO3.out _ 1 1 [n] rfl (ss_one (HNB.out)) (by omega) ?_
      intro v5 w5 hO5 hg5 _
      have HB5 := Lib.hid (grown_below (B := w1.heap.size) (a := w1) HB3.out hg5 (Nat.le_refl _) (own_row HO3.out))
      obtain ⟨A5, c5, rfl⟩ := hO5.form
      have hl5 : (y.toks ++ [n]).length = y.toks.length + 1 := by simp
      rw [hl5] at hO5
      rw [hl5]
      have HO5 := Lib.hid hO5
      have k12 := cell_below HB5.out K12.out
      have f12 : w5.frozen? ⟨g, i * 16 + 12, none⟩ = false := (HP1.out.below (HB5.out)).fz _
      have SK7 := Lib.hid (And.intro ((cell_set_ne (k := i * 16 + 12) w5 (.slice A5 (y.toks.length + 1) c5) (show (G ≠ g) from HGG.out)).trans (cell_below HB5.out e3)) ((cell_set_ne (k := i * 16 + 12) w5 (.slice A5 (y.toks.length + 1) c5) (show (w0.heap.size ≠ g) from HXG.out)).trans (cell_below HB5.out x12)))
      clear hO5 hg5 hl5
      (try go_wp2_with fail)
      refine hK.out _ _ ?_ (fun hHeld => ?_)
      focus ((try dsimp only); (first | exact SK7.out | exact ⟨cell_below HB5.out e3, cell_below HB5.out x12⟩ | exact ⟨cell_below HB3.out e3, cell_below HB3.out x12⟩ | exact ⟨cell_below ((HB3.out).alloc HB3.out.size _) e3, cell_below ((HB3.out).alloc HB3.out.size _) x12⟩ | exact ⟨cell_below (by go_grown) e3, cell_below (by go_grown) x12⟩); done)
      clear hK K
      (try simp only [Act.put, List.setIfInBounds_toArray, List.set_cons_zero, List.set_cons_succ])
      refine wpAnyH_take (i := 12) (oi := ⟨_, _, _, _, _, _⟩) (v := ?_) rfl (by kernel_rfl) (by kernel_rfl) (by kernel_rfl) (fun _ _ _ h => h) (Or.inl ⟨by rfl, ?_⟩) (by assumption) ?_; rotate_left; (focus (intro w hSw; (try dsimp only at hSw); go_simp; (try with_reducible rfl); done)); simp only [Act.put, List.setIfInBounds_toArray, List.set_cons_zero, List.set_cons_succ]
      refine wpAnyH_take (i := 13) (oi := ⟨_, _, _, _, _, _⟩) (v := ?_) rfl (by kernel_rfl) (by kernel_rfl) (by kernel_rfl) (fun _ _ _ h => h) (Or.inl ⟨by rfl, ?_⟩) (by assumption) ?_; rotate_left; (focus (intro w hSw; (try dsimp only at hSw); go_simp; (try with_reducible rfl); done)); simp only [Act.put, List.setIfInBounds_toArray, List.set_cons_zero, List.set_cons_succ]
      refine wpAnyH_ready (rs := [14]) (by kernel_rfl) (by simp) ?_
      refine AllReadyH.cons (o := ⟨_, _, _, _, _, _⟩) rfl (fun K hK => ?_) AllReadyH.nil
      go_simp
      (try go_wp2_with fail)
      refine hK.out _ _ ?_ (fun hHeld => ?_)
      focus ((try dsimp only); (first | exact SK7.out | exact ⟨cell_below HB5.out e3, cell_below HB5.out x12⟩ | exact ⟨cell_below HB3.out e3, cell_below HB3.out x12⟩ | exact ⟨cell_below ((HB3.out).alloc HB3.out.size _) e3, cell_below ((HB3.out).alloc HB3.out.size _) x12⟩ | exact ⟨cell_below (by go_grown) e3, cell_below (by go_grown) x12⟩); done)
      clear hK K
      (try simp only [Act.put, List.setIfInBounds_toArray, List.set_cons_zero, List.set_cons_succ])
      refine wpAnyH_done (by kernel_rfl) ?_ _
      go_wp2
      go_meet
      exact ⟨A5, c5, w5, HB5.out, HO5.out, rfl⟩
  case rest =>
    obtain ⟨w6, hw60⟩ : ∃ w6, w6 = wc := ⟨_, rfl⟩
    subst hw60
    obtain ⟨A5, c5, w5, hb5, hO5, hw6⟩ := hcut
    have HB5 := Lib.hid hb5
    have HO5 := Lib.hid hO5
    have HOW6 := Lib.hid (show OwnR w6 (.slice (some ⟨g, 0, none⟩) es.length c1) (es.set i ({ y with toks := y.toks ++ [n] }, sA, sC, A5, c5)) by
      rw [hw6]
      exact own_set rfl (HP1.out.own.keep (fun k hk => hb5.block k (HP1.out.own.lt k hk))) HEL.out (by omega) (by simp [fl16]))
    have HB6 := Lib.hid (show ∀ k, k < w1.heap.size → k ≠ g → w6.heap[k]? = w1.heap[k]? from fun k hk hne => by rw [hw6]; exact (Below.heap_setCell _ _ _ _ hne).trans (hb5.block k hk))
    have HZ6 := Lib.hid (show w1.heap.size ≤ w6.heap.size by rw [hw6]; have := hb5.size; simp [World.setCell]; omega)
    have HO6 := Lib.hid (show Own1 w6 w1.heap.size (.slice A5 (y.toks.length + 1) c5) (y.toks ++ [n]) by rw [hw6]; exact ownsRow_setCell_below hO5 (by simp only; have := HSZ1.out; have := HSZ.out; omega) _)
    have HM6 := Lib.hid (show Mods S w w6 by rw [hw6]; exact (Mods.of_below S (HB1.out.trans (hb5.mono HB1.out.size))).setCell (p := ⟨g, i * 16 + 12, none⟩) (Or.inl HSG.out.1) _)
    clear hw6 hb5 hO5 e1 e3 x12 x14 HB5 HO5 K12
    have hG1 := HP1.out.lt G HP1.out.sG.1
    have e1 := (World.cell?_of_block (a := ⟨G, 1, none⟩) (HB6.out G hG1 HGG.out)).trans (cell_block HP1.out.hG 1)
    have e3 := (World.cell?_of_block (a := ⟨G, 3, none⟩) (HB6.out G hG1 HGG.out)).trans (cell_block HP1.out.hG 3)
    have x14 := (World.cell?_of_block (a := ⟨w0.heap.size, 14, none⟩) (HB6.out _ (blk_lt HC.out) HXG.out)).trans (cell_block HC.out 14)
    simp only [List.getElem?_toArray, List.getElem?_cons_zero, List.getElem?_cons_succ] at e1 e3 x14
    have hel6 : es.length = (es.set i ({ y with toks := y.toks ++ [n] }, sA, sC, A5, c5)).length := by simp
    have HGT6 := Lib.hid (show (es.set i ({ y with toks := y.toks ++ [n] }, sA, sC, A5, c5))[i]? = some ({ y with toks := y.toks ++ [n] }, sA, sC, A5, c5) by rw [List.getElem?_set]; simp [hil])
    have k13 := own_at hel6 HOW6.out HGT6.out 13 _ rfl
    have f13 : w6.frozen? ⟨g, i * 16 + 13, none⟩ = false := HOW6.out.fz _
    have HEL6 := Lib.hid hel6
    clear hel6
    go_wp2_with fail
    refine wp_region_held_drew (S := (fun w' => w'.cell? ⟨G, 1, none⟩ = some (.int .i64 st.life) ∧ w'.cell? ⟨G, 3, none⟩ = some (.slice (some ⟨g, 0, none⟩) es.length c1) ∧ w'.cell? ⟨w0.heap.size, 14, none⟩ = some (.int .i64 y.fin))) (by kernel_rfl) ?_ (fun hHeld => ?_)
    focus ((try dsimp only); (first | exact ⟨e1, e3, x14⟩ | exact ⟨(cell_set_ne _ _ HGG.out).trans e1, (cell_set_ne _ _ HGG.out).trans e3, (cell_set_ne _ _ HXG.out).trans x14⟩); done)
    refine wpAnyH_take (i := 0) (oi := ⟨_, _, _, _, _, _⟩) (v := ?_) rfl (by kernel_rfl) (by kernel_rfl) (by kernel_rfl) (fun _ _ _ h => h) (Or.inl ⟨by rfl, ?_⟩) (by assumption) ?_; rotate_left; (focus (intro w hSw; (try dsimp only at hSw); go_simp; (try with_reducible rfl); done)); simp only [Act.put, List.setIfInBounds_toArray, List.set_cons_zero, List.set_cons_succ]
    refine wpAnyH_take (i := 1) (oi := ⟨_, _, _, _, _, _⟩) (v := ?_) rfl (by kernel_rfl) (by kernel_rfl) (by kernel_rfl) (fun _ _ _ h => h) (Or.inl ⟨by rfl, ?_⟩) (by assumption) ?_; rotate_left; (focus (intro w hSw; (try dsimp only at hSw); go_simp; (try with_reducible rfl); done)); simp only [Act.put, List.setIfInBounds_toArray, List.set_cons_zero, List.set_cons_succ]
    refine wpAnyH_take (i := 2) (oi := ⟨_, _, _, _, _, _⟩) (v := ?_) rfl (by kernel_rfl) (by kernel_rfl) (by kernel_rfl) (fun _ _ _ h => h) (Or.inl ⟨by rfl, ?_⟩) (by assumption) ?_; rotate_left; (focus (intro w hSw; (try dsimp only at hSw); go_simp; (try with_reducible rfl); done)); simp only [Act.put, List.setIfInBounds_toArray, List.set_cons_zero, List.set_cons_succ]
    refine wpAnyH_take (i := 3) (oi := ⟨_, _, _, _, _, _⟩) (v := ?_) rfl (by kernel_rfl) (by kernel_rfl) (by kernel_rfl) (fun _ _ _ h => h) (Or.inl ⟨by rfl, ?_⟩) (by assumption) ?_; rotate_left; (focus (intro w hSw; (try dsimp only at hSw); go_simp; (try with_reducible rfl); done)); simp only [Act.put, List.setIfInBounds_toArray, List.set_cons_zero, List.set_cons_succ]
    refine wpAnyH_take (i := 4) (oi := ⟨_, _, _, _, _, _⟩) (v := ?_) rfl (by kernel_rfl) (by kernel_rfl) (by kernel_rfl) (fun _ _ _ h => h) (Or.inl ⟨by rfl, ?_⟩) (by assumption) ?_; rotate_left; (focus (intro w hSw; (try dsimp only at hSw); go_simp; (try with_reducible rfl); done)); simp only [Act.put, List.setIfInBounds_toArray, List.set_cons_zero, List.set_cons_succ]
    refine wpAnyH_take (i := 5) (oi := ⟨_, _, _, _, _, _⟩) (v := ?_) rfl (by kernel_rfl) (by kernel_rfl) (by kernel_rfl) (fun _ _ _ h => h) (Or.inl ⟨by rfl, ?_⟩) (by assumption) ?_; rotate_left; (focus (intro w hSw; (try dsimp only at hSw); go_simp; (try with_reducible rfl); done)); simp only [Act.put, List.setIfInBounds_toArray, List.set_cons_zero, List.set_cons_succ]
    refine wpAnyH_take (i := 6) (oi := ⟨_, _, _, _, _, _⟩) (v := ?_) rfl (by kernel_rfl) (by kernel_rfl) (by kernel_rfl) (fun _ _ _ h => h) (Or.inl ⟨by rfl, ?_⟩) (by assumption) ?_; rotate_left; (focus (intro w hSw; (try dsimp only at hSw); go_simp; (try with_reducible rfl); done)); simp only [Act.put, List.setIfInBounds_toArray, List.set_cons_zero, List.set_cons_succ]
    refine wpAnyH_take (i := 7) (oi := ⟨_, _, _, _, _, _⟩) (v := ?_) rfl (by kernel_rfl) (by kernel_rfl) (by kernel_rfl) (fun _ _ _ h => h) (Or.inl ⟨by rfl, ?_⟩) (by assumption) ?_; rotate_left; (focus (intro w hSw; (try dsimp only at hSw); go_simp; (try with_reducible rfl); done)); simp only [Act.put, List.setIfInBounds_toArray, List.set_cons_zero, List.set_cons_succ]
    refine wpAnyH_take (i := 8) (oi := ⟨_, _, _, _, _, _⟩) (v := ?_) rfl (by kernel_rfl) (by kernel_rfl) (by kernel_rfl) (fun _ _ _ h => h) (Or.inl ⟨by rfl, ?_⟩) (by assumption) ?_; rotate_left; (focus (intro w hSw; (try dsimp only at hSw); go_simp; (try with_reducible rfl); done)); simp only [Act.put, List.setIfInBounds_toArray, List.set_cons_zero, List.set_cons_succ]
    refine wpAnyH_take (i := 9) (oi := ⟨_, _, _, _, _, _⟩) (v := ?_) rfl (by kernel_rfl) (by kernel_rfl) (by kernel_rfl) (fun _ _ _ h => h) (Or.inl ⟨by rfl, ?_⟩) (by assumption) ?_; rotate_left; (focus (intro w hSw; (try dsimp only at hSw); go_simp; (try with_reducible rfl); done)); simp only [Act.put, List.setIfInBounds_toArray, List.set_cons_zero, List.set_cons_succ]
    refine wpAnyH_take (i := 11) (oi := ⟨_, _, _, _, _, _⟩) (v := ?_) rfl (by kernel_rfl) (by kernel_rfl) (by kernel_rfl) (fun _ _ _ h => h) (Or.inl ⟨by rfl, ?_⟩) (by assumption) ?_; rotate_left; (focus (intro w hSw; (try dsimp only at hSw); go_simp; (try with_reducible rfl); done)); simp only [Act.put, List.setIfInBounds_toArray, List.set_cons_zero, List.set_cons_succ]
    refine wpAnyH_take (i := 12) (oi := ⟨_, _, _, _, _, _⟩) (v := ?_) rfl (by kernel_rfl) (by kernel_rfl) (by kernel_rfl) (fun _ _ _ h => h) (Or.inl ⟨by rfl, ?_⟩) (by assumption) ?_; rotate_left; (focus (intro w hSw; (try dsimp only at hSw); go_simp; (try with_reducible rfl); done)); simp only [Act.put, List.setIfInBounds_toArray, List.set_cons_zero, List.set_cons_succ]
    refine wpAnyH_ready (rs := [10]) (by kernel_rfl) (by simp) ?_
    refine AllReadyH.cons (o := ⟨_, _, _, _, _, _⟩) rfl (fun K hK => ?_) AllReadyH.nil
    go_simp
    go_wp2_with fail
    refine (radd_any (limI now) st.life _).mono ?_
    rintro e wn ⟨rfl, rfl⟩
    rw [addC_l]
    (try go_wp2_with fail)
    refine hK.out _ _ ?_ (fun hHeld => ?_)
    focus ((try dsimp only); (first | exact ⟨e1, e3, x14⟩ | exact ⟨(cell_set_ne _ _ HGG.out).trans e1, (cell_set_ne _ _ HGG.out).trans e3, (cell_set_ne _ _ HXG.out).trans x14⟩); done)
    clear hK K
    (try simp only [Act.put, List.setIfInBounds_toArray, List.set_cons_zero, List.set_cons_succ])
    refine wpAnyH_ready (rs := [13]) (by kernel_rfl) (by simp) ?_
    refine AllReadyH.cons (o := ⟨_, _, _, _, _, _⟩) rfl (fun K hK => ?_) AllReadyH.nil
    go_simp
    (try go_wp2_with fail)
    refine hK.out _ _ ?_ (fun hHeld => ?_)
    focus ((try dsimp only); (first | exact ⟨e1, e3, x14⟩ | exact ⟨(cell_set_ne _ _ HGG.out).trans e1, (cell_set_ne _ _ HGG.out).trans e3, (cell_set_ne _ _ HXG.out).trans x14⟩); done)
    clear hK K
    (try simp only [Act.put, List.setIfInBounds_toArray, List.set_cons_zero, List.set_cons_succ])
    refine wpAnyH_take (i := 14) (oi := ⟨_, _, _, _, _, _⟩) (v := ?_) rfl (by kernel_rfl) (by kernel_rfl) (by kernel_rfl) (fun _ _ _ h => h) (Or.inl ⟨by rfl, ?_⟩) (by assumption) ?_; rotate_left; (focus (intro w hSw; (try dsimp only at hSw); go_simp; (try with_reducible rfl); done)); simp only [Act.put, List.setIfInBounds_toArray, List.set_cons_zero, List.set_cons_succ]
    refine wpAnyH_take (i := 15) (oi := ⟨_, _, _, _, _, _⟩) (v := ?_) rfl (by kernel_rfl) (by kernel_rfl) (by kernel_rfl) (fun _ _ _ h => h) (Or.inl ⟨by rfl, ?_⟩) (by assumption) ?_; rotate_left; (focus (intro w hSw; (try dsimp only at hSw); go_simp; (try with_reducible rfl); done)); simp only [Act.put, List.setIfInBounds_toArray, List.set_cons_zero, List.set_cons_succ]
    refine wpAnyH_ready (rs := [16]) (by kernel_rfl) (by simp) ?_
    refine AllReadyH.cons (o := ⟨_, _, _, _, _, _⟩) rfl (fun K hK => ?_) AllReadyH.nil
    go_simp
    (try go_wp2_with fail)
    refine hK.out _ _ ?_ (fun hHeld => ?_)
    focus ((try dsimp only); (first | exact ⟨e1, e3, x14⟩ | exact ⟨(cell_set_ne _ _ HGG.out).trans e1, (cell_set_ne _ _ HGG.out).trans e3, (cell_set_ne _ _ HXG.out).trans x14⟩); done)
    clear hK K
    (try simp only [Act.put, List.setIfInBounds_toArray, List.set_cons_zero, List.set_cons_succ])
    refine wpAnyH_done (by kernel_rfl) ?_ _
    go_upto_region 29 with fail
    obtain ⟨w7, hw7⟩ : ∃ w7, w7 = (w6.setCell ⟨g, i * 16 + 13, none⟩ (.int .i64 (min (addC now st.life) y.fin))).drew := ⟨_, rfl⟩
    rw [← hw7]
    have HB7 := Lib.hid (show ∀ k, k < w1.heap.size → k ≠ g → w7.heap[k]? = w1.heap[k]? from fun k hk hne => by rw [hw7]; exact (Below.heap_setCell _ _ _ _ hne).trans (HB6.out k hk hne))
    have HZ7 := Lib.hid (show w1.heap.size ≤ w7.heap.size by rw [hw7]; have := HZ6.out; show w1.heap.size ≤ (w6.setCell _ _).heap.size; simp [World.setCell]; omega)
    have HM7 := Lib.hid (show Mods S w w7 by rw [hw7]; exact ((HM6.out).setCell (p := ⟨g, i * 16 + 13, none⟩) (Or.inl HSG.out.1) _).drew)
    have HOW7 := Lib.hid (show OwnR w7 (.slice (some ⟨g, 0, none⟩) es.length c1) (es.set i (rotF st y n now, sA, sC, A5, c5)) by
      have h1 := own_set (w := w6) (e' := (rotF st y n now, sA, sC, A5, c5)) (u := .int .i64 (min (addC now st.life) y.fin)) HEL6.out HOW6.out HGT6.out (show 13 < 16 by omega) rfl
      rw [List.set_set] at h1
      rw [hw7]
      exact h1)
    have HO7 := Lib.hid (show Own1 w7 w1.heap.size (.slice A5 (y.toks ++ [n]).length c5) (y.toks ++ [n]) by
      rw [hw7, show (y.toks ++ [n]).length = y.toks.length + 1 by simp]
      have h1 : Own1 (w6.setCell ⟨g, i * 16 + 13, none⟩ (.int .i64 (min (addC now st.life) y.fin))) w1.heap.size (.slice A5 (y.toks.length + 1) c5) (y.toks ++ [n]) := ownsRow_setCell_below HO6.out (by simp only; have := HSZ1.out; have := HSZ.out; omega) _
      exact h1)
    have HRF := Lib.hid (ref_rot HP1.out HEL.out HOW7.out HB7.out HZ7.out HO7.out (inv_rot HINV.out HX.out P4.out (findV_no P5.out) P7.out))
    clear hw7 e1 e3 x14 k13 f13 HOW6 HOW7 HO6 HO7
    have HC7 := Lib.hid ((HB7.out _ (blk_lt HC.out) HXG.out).trans HC.out)
    have HR7 := Lib.hid ((HB7.out w.heap.size (by have := HSZ1.out; have := HSZ.out; omega) (by omega)).trans HZ1.out)
    have HSC7 := Lib.hid (HSC1.out.keep (S := I) (fun a ha hn => HS1.out.2 a ha hn) (fun k hk => HB7.out k (HP1.out.lt k (HP1.out.sI k hk)) (fun e => HSG.out.2.1 (by rw [← e]; exact hk))) HZ7.out)
    have x1 := cell_block HC7.out 1
    have x2 := cell_block HC7.out 2
    have x3 := cell_block HC7.out 3
    have x4 := cell_block HC7.out 4
    have x5 := cell_block HC7.out 5
    have x6 := cell_block HC7.out 6
    have x7 := cell_block HC7.out 7
    have x8 := cell_block HC7.out 8
    have x9 := cell_block HC7.out 9
    have x10 := cell_block HC7.out 10
    have x11 := cell_block HC7.out 11
    simp only [List.getElem?_toArray, List.getElem?_cons_zero, List.getElem?_cons_succ] at x1 x2 x3 x4 x5 x6 x7 x8 x9 x10 x11
    go_upto_region 30 with fail
    obtain ⟨w8, hw8⟩ : ∃ w8, w8 = w7.alloc (.cells #[.string y.g.user, .string y.g.client, .string y.g.tenant, .string y.g.session, .string y.g.redirect, .string y.g.nonce, .string y.g.challenge, .int .i64 y.g.method, (.slice sA y.g.scopes.length sC), .int .i64 y.g.auth, .int .i64 y.g.level] 35) := ⟨_, rfl⟩
    rw [← hw8]
    have HB8 := Lib.hid (show Below w7.heap.size w7 w8 by rw [hw8]; go_grown)
    have HX8 := Lib.hid (show w8.heap[w7.heap.size]? = some (.cells #[.string y.g.user, .string y.g.client, .string y.g.tenant, .string y.g.session, .string y.g.redirect, .string y.g.nonce, .string y.g.challenge, .int .i64 y.g.method, (.slice sA y.g.scopes.length sC), .int .i64 y.g.auth, .int .i64 y.g.level] 35 (0, 0)) by rw [hw8]; exact heap_alloc_new _ _)
    have HR8 := Lib.hid ((HB8.out.block _ (blk_lt HR7.out)).trans HR7.out)
    clear hw8 x1 x2 x3 x4 x5 x6 x7 x8 x9 x10 x11
    have hpos : (0 : Int) < (m : Int) := by have := HPOS.out; omega
    have HS8 := Lib.hid (show Ss w8 B m d sc from ss_mods HS.out HM7.out HBS.out HB8.out)
    have x8 := cell_block HX8.out 8
    simp only [List.getElem?_toArray, List.getElem?_cons_zero, List.getElem?_cons_succ] at x8
    have HLX := Lib.hid (blk_lt HX8.out)
    go_upto_region 32 with ((with_reducible refine at_dst 134 ?_); go_must ((refine wpList_app1 rfl (.tmp 132) (.tmp 133) rfl w8.heap.size (by simp) (.slice (some ⟨w8.heap.size, 0, none⟩) 0 0) [] rfl (own1_empty w8 w8.heap.size (Nat.le_refl _)) B m d sc rfl (HS8.out.below ((Below.refl _ _).alloc (Nat.le_refl _) _)) (by have := HMM.out; simp; omega) ?_); intro v9 w9 hO9 hg9 _; rw [List.nil_append] at hO9; obtain ⟨A9, c9, rfl⟩ := hO9.form; have HO9 := Lib.hid hO9; have HB9 := Lib.hid (grown_below (B := w8.heap.size) (a := w8) ((Below.refl _ _).alloc (Nat.le_refl _) _) hg9 (Nat.le_refl _) (fun b hb => by have e9 := Option.some.inj hb; simp only at e9; omega)); have HX9 := Lib.hid ((HB9.out.block _ HLX.out).trans HX8.out); have f8 : w9.frozen? ⟨w7.heap.size, 8, none⟩ = false := (by have := HX9.out; simp only [World.frozen?, this]; rfl); have x8b := cell_block HX9.out 8; simp only [List.getElem?_toArray, List.getElem?_cons_zero, List.getElem?_cons_succ] at x8b; clear hO9 hg9))
    obtain ⟨wb, hwb⟩ : ∃ wb, wb = w9.setCell ⟨w7.heap.size, 8, none⟩ (.slice A9 sc.length c9) := ⟨_, rfl⟩
    rw [← hwb]
    have HXB := Lib.hid (show wb.heap[w7.heap.size]? = some (.cells #[.string y.g.user, .string y.g.client, .string y.g.tenant, .string y.g.session, .string y.g.redirect, .string y.g.nonce, .string y.g.challenge, .int .i64 y.g.method, (.slice A9 sc.length c9), .int .i64 y.g.auth, .int .i64 y.g.level] 35 (0, 0)) by rw [hwb]; exact heap_setCell_same _ _ 8 _ _ _ HX9.out)
    have HBB := Lib.hid (show Below w7.heap.size w7 wb by rw [hwb]; exact (HB8.out.trans (HB9.out.mono HB8.out.size)).setCell (by simp) _)
    have HRB := Lib.hid ((HBB.out.block _ (blk_lt HR7.out)).trans HR7.out)
    have HOB := Lib.hid (show Own1 wb w8.heap.size (.slice A9 sc.length c9) sc by rw [hwb]; exact ownsRow_setCell_below HO9.out (by simp only; exact HLX.out) _)
    clear hwb x8 f8 x8b
    have d0 := cell_block HXB.out 0
    have d1 := cell_block HXB.out 1
    have d2 := cell_block HXB.out 2
    have d3 := cell_block HXB.out 3
    have d4 := cell_block HXB.out 4
    have d5 := cell_block HXB.out 5
    have d6 := cell_block HXB.out 6
    have d7 := cell_block HXB.out 7
    have d8 := cell_block HXB.out 8
    have d9 := cell_block HXB.out 9
    have d10 := cell_block HXB.out 10
    simp only [List.getElem?_toArray, List.getElem?_cons_zero, List.getElem?_cons_succ] at d0 d1 d2 d3 d4 d5 d6 d7 d8 d9 d10
    have HRI := Lib.hid (rrot_fin HR.out HE.out.lt HRF.out HM7.out (show w.heap.size < w1.heap.size by have := HSZ1.out; have := HSZ.out; omega) HZ7.out HBB.out #[.string y.g.user, .string y.g.client, .string y.g.tenant, .string y.g.session, .string y.g.redirect, .string y.g.nonce, .string y.g.challenge, .int .i64 y.g.method, (.slice A9 sc.length c9), .int .i64 y.g.auth, .int .i64 y.g.level] HOB.out.ss.1 (fun a ha _ => Or.inr (Nat.le_trans HB8.out.size (own_ge HOB.out a ha))) (rotG_sc1 (fun e => by have h1 := HS.out.1; have := HPOS.out; rw [e] at h1; simp at h1; omega)))
    go_wp2_with (refine wpList_store_row rfl 35 (.tmp 12) (.tmp 136) rfl w.heap.size #[.string y.g.user, .string y.g.client, .string y.g.tenant, .string y.g.session, .string y.g.redirect, .string y.g.nonce, .string y.g.challenge, .int .i64 y.g.method, (.slice A9 sc.length c9), .int .i64 y.g.auth, .int .i64 y.g.level] rfl rfl 35 _ HRB.out (by kernel_rfl) rfl (by simp [Value.oneCell']) ?_)
    obtain ⟨y0, y1, y2, y3, y4, y5, y6, y7, y8, y9, y10⟩ := cells11 (setRow_heap wb w.heap.size _ #[.string y.g.user, .string y.g.client, .string y.g.tenant, .string y.g.session, .string y.g.redirect, .string y.g.nonce, .string y.g.challenge, .int .i64 y.g.method, (.slice A9 sc.length c9), .int .i64 y.g.auth, .int .i64 y.g.level] _ _ HRB.out)
    refine bodyPost_ret (v := .tuple #[.agg #[.string y.g.user, .string y.g.client, .string y.g.tenant, .string y.g.session, .string y.g.redirect, .string y.g.nonce, .string y.g.challenge, .int .i64 y.g.method, (.slice A9 sc.length c9), .int .i64 y.g.auth, .int .i64 y.g.level], .int .i64 0]) (by simp [results, Try.results35, go_sem, y0, y1, y2, y3, y4, y5, y6, y7, y8, y9, y10]) rfl ?_
    exact HRI.out
end Go.Proofs.Ytfeljihbaekfmaa.Rf
