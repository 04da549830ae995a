/-
  The reference's Start: a family begins.
-/
import Derived.Test.YtfeljihbaekfmaaRfXf
namespace Go.Proofs.Ytfeljihbaekfmaa.Rf
open Go.RowKit Go.Proofs.Ytfeljihbaekfmaa.Fo

theorem inv_start' {st : St} (h : Inv st) {i t : Bs} {g : Gr} {now : Int} (hi : wrd i = true) (ht : wrd t = true) (hc : chkS g.scopes = 0) (hsh : Short g.scopes) (h1 : findV st.l t = (-1, -1)) (h2 : atV st.l i = -1) (h3 : ¬ 256 ≤ st.l.length) : Inv { st with l := st.l ++ [newF st i t g now] } := by
  have e1 : tokI st.l t = none := by
    unfold findV at h1
    cases hq : tokI st.l t with
    | none => rfl
    | some k =>
      obtain ⟨x, hx, _⟩ := tokI_some hq
      rw [hq] at h1
      simp only [hx, Prod.mk.injEq] at h1
      omega
  have e2 : idI st.l i = none := by
    unfold atV at h2
    cases hq : idI st.l i with
    | none => rfl
    | some k => rw [hq] at h2; simp only at h2; omega
  exact inv_start h hi ht hc hsh e1 e2 (by omega)
theorem rstart_fin {w w3 w7 : World} {S I : Nat → Prop} {G b1 c2 : Nat} {st : St} {v v6 : Value} {es : List FmE} {i t : Bs} {g : Gr} {now : Int} {A2 : Option Addr} (hr : start st i t g now = ({ st with l := st.l ++ [newF st i t g now] }, 0)) (hlt : ∀ k, S k → k < w.heap.size) (hb : Below w.heap.size w w3) (hw3 : w.heap.size < w3.heap.size) (hb1 : w.heap.size < b1) (hP : RefP w3 S I G st v es) (hO : Own1 w3 b1 (.slice A2 g.scopes.length c2) g.scopes)
    (hK : ∀ k, k < w3.heap.size → k ≠ G → ¬ v.ownBlock = some k → w7.heap[k]? = w3.heap[k]?) (hT : w7.heap[w3.heap.size]? = some (.cells #[.string t] 9 (0, 0))) (hG7 : w7.heap[G]? = some (.cells #[.bool true, .int .i64 st.life, .int .i64 st.total, v6] 67 (0, 0))) (hO7 : OwnR w7 v6 (es ++ [(newF st i t g now, A2, c2, some ⟨w3.heap.size, 0, none⟩, 1)])) (hv6 : v6.ownBlock = v.ownBlock ∨ v6.ownBlock = some (w3.heap.size + 2))
    (hz : w3.heap.size + 2 ≤ w7.heap.size) (hos : w7.os = w3.os) (htp : w7.tape = w3.tape) (hout : w7.output = w3.output) (hinv : Inv { st with l := st.l ++ [newF st i t g now] }) : RNumIs w S G (start st i t g now).2 (start st i t g now).1 (.returned (.int .i64 0)) w7 := by
  rw [hr]
  have hGl := hlt G hP.sG.1
  have hz3 := hb.size
  have hgl : ∀ k, v.ownBlock = some k → k < w.heap.size := fun k hk => hlt k (hP.sv k hk).1
  have hkI : ∀ k, I k → w7.heap[k]? = w3.heap[k]? := fun k hk => hK k (hP.lt k (hP.sI k hk)) (fun e => hP.sG.2 (by rw [← e]; exact hk)) (fun e => (hP.sv k e).2.1 hk)
  have hzz : w3.heap.size ≤ w7.heap.size := by omega
  have hss := hO.ss.1
  refine ⟨rfl, ⟨fun k => I k ∨ (w.heap.size < k ∧ k ≤ w3.heap.size), v6, _, hG7, hO7, by rw [List.map_append, hP.hl]; rfl, fun e he => ?_, fun e he => ?_, fun k hk => ?_, ⟨Or.inl hP.sG.1, ?_⟩, fun k hk => ?_, fun k hk => ?_, hinv⟩, ⟨hos.trans hb.os, htp.trans hb.tape, hout.trans hb.output, by omega, fun k hk hn => (hK k (by omega) (fun e => hn (by rw [e]; exact hP.sG.1)) (fun e => hn (hP.sv k e).1)).trans (hb.block k hk)⟩⟩
  · rcases List.mem_append.1 he with he | he
    · have := hP.sc e he
      exact ⟨this.1.keep this.2 hkI hzz, fun a ha hn => Or.inl (this.2 a ha hn)⟩
    · rw [List.mem_singleton] at he
      subst he
      have hown : ∀ a, A2 = some a → 0 < g.scopes.length → w.heap.size < a.block ∧ a.block < w3.heap.size := fun a ha hn => by
        have h1 := own_ge hO a ha
        obtain ⟨b, off, e2, hbl, _⟩ := hss.2.2 hn
        rw [ha] at e2
        injection e2 with e2
        rw [e2] at h1 ⊢
        simp only at h1 ⊢
        omega
      refine ⟨hss.keep (S := fun k => w.heap.size < k ∧ k < w3.heap.size) hown (fun k hk => hK k hk.2 (by omega) (fun e => by have := hgl k e; omega)) hzz, fun a ha hn => Or.inr ?_⟩
      have := hown a ha hn
      omega
  · rcases List.mem_append.1 he with he | he
    · have := hP.tk e he
      exact ⟨this.1.keep this.2 hkI hzz, fun a ha hn => Or.inl (this.2 a ha hn)⟩
    · rw [List.mem_singleton] at he
      subst he
      refine ⟨ss_one hT, fun a ha hn => Or.inr ?_⟩
      injection ha with ha
      subst ha
      simp only
      omega
  · rcases hk with hk | hk
    · exact Or.inl (hP.sI k hk)
    · exact Or.inr ⟨by omega, by omega⟩
  · intro h
    rcases h with h | h
    · exact hP.sG.2 h
    · omega
  · rcases hv6 with e | e
    · rw [e] at hk
      have h1 := hP.sv k hk
      exact ⟨Or.inl h1.1, fun h => by
        rcases h with h | h
        · exact h1.2.1 h
        · have := hgl k hk; omega, h1.2.2⟩
    · rw [e] at hk
      injection hk with hk
      subst hk
      refine ⟨Or.inr ⟨by omega, hO7.lt _ e⟩, fun h => ?_, by omega⟩
      rcases h with h | h
      · have := hP.lt _ (hP.sI _ h); omega
      · omega
  · rcases hk with hk | hk
    · have := hlt k hk; omega
    · exact hk.2
set_option maxRecDepth 100000 in
set_option maxHeartbeats 4000000 in
theorem rstart_0 {w : World} {S : Nat → Prop} {G : Nat} {st : St} (h : RefE w S G st) (i t : Bs) (g : Gr) (A : Option Addr) (n c : Nat) (now : Int) (hi : i.size ≤ 100000) (ht : t.size ≤ 100000) (hu : g.user.size ≤ 100000) (hcl : g.client.size ≤ 100000) (hse : g.session.size ≤ 100000)
    (hs : Ss w A n c g.scopes) (hsh : Short g.scopes) (hn : n ≤ 1000) (q0 : wrd i = true) (q1 : wrd t = true) (q2 : wrd g.user = true) (q3 : wrd g.client = true) (q4 : wrd g.session = true) (q6 : chkS g.scopes = 0) (q7 : findV st.l t = (-1, -1)) (q8 : atV st.l i = -1) (q9 : ¬ 256 ≤ st.l.length) (hr : start st i t g now = ({ st with l := st.l ++ [newF st i t g now] }, 0)) :
    Calls Try.prog 34 #[.pointer (some ⟨G, 0, none⟩), .string i, .string t, .agg #[.string g.user, .string g.client, .string g.tenant, .string g.session, .string g.redirect, .string g.nonce, .string g.challenge, .int .i64 g.method, (.slice A n c), .int .i64 g.auth, .int .i64 g.level], .int .i64 now] w (RNumIs w S G (start st i t g now).2 (start st i t g now).1) := by
  have hn9 := hs.1
  subst hn9
  have hz9 : True := (fun _ _ _ _ _ _ => trivial) hi ht hu hcl hse hn
  clear hz9
  have HR := Lib.hid hr
  have HS := Lib.hid hs
  have HSH := Lib.hid hsh
  have HE := Lib.hid h
  clear hr hs hsh h
  have H0 := Lib.hid q0
  have H1 := Lib.hid q1
  have H2 := Lib.hid q2
  have H3 := Lib.hid q3
  have H4 := Lib.hid q4
  clear q0 q1 q2 q3 q4
  have H6 := Lib.hid q6
  have H7 := Lib.hid q7
  have H8 := Lib.hid q8
  clear q6 q7 q8
  go_enter Try.func34, Try.ntmps34
  go_upto_region 1 with fail
  obtain ⟨w0, hw0⟩ : ∃ w0, w0 = w.alloc (.cells #[.string g.user, .string g.client, .string g.tenant, .string g.session, .string g.redirect, .string g.nonce, .string g.challenge, .int .i64 g.method, (.slice A g.scopes.length c), .int .i64 g.auth, .int .i64 g.level] 35) := ⟨_, rfl⟩
  rw [← hw0]
  have HB := Lib.hid (show Below w.heap.size w w0 by rw [hw0]; go_grown)
  have HX := Lib.hid (show w0.heap[w.heap.size]? = some (.cells #[.string g.user, .string g.client, .string g.tenant, .string g.session, .string g.redirect, .string g.nonce, .string g.challenge, .int .i64 g.method, (.slice A g.scopes.length c), .int .i64 g.auth, .int .i64 g.level] 35 (0, 0)) by rw [hw0]; exact heap_alloc_new _ _)
  have HE0 := Lib.hid (HE.out.below HB.out)
  clear hw0
  have x0 := cell_block HX.out 0
  have x1 := cell_block HX.out 1
  have x3 := cell_block HX.out 3
  have x8 := cell_block HX.out 8
  simp only [List.getElem?_toArray, List.getElem?_cons_zero, List.getElem?_cons_succ] at x0 x1 x3 x8
  go_wp2_with fail
  refine (rmade_yes HE0.out).mono ?_
  rintro e w1 ⟨rfl, rfl⟩
  go_wp2_with fail
  refine (limited_is now w0).mono ?_
  rintro e w1 ⟨rfl, rfl⟩
  go_wp2_with fail
  refine (rw_is i w0 hi true H0.out).mono ?_
  rintro e w1 ⟨rfl, rfl⟩
  go_wp2_with fail
  refine (rw_is t w0 ht true H1.out).mono ?_
  rintro e w1 ⟨rfl, rfl⟩
  go_wp2_with fail
  refine (rw_is g.user w0 hu true H2.out).mono ?_
  rintro e w1 ⟨rfl, rfl⟩
  go_wp2_with fail
  refine (rw_is g.client w0 hcl true H3.out).mono ?_
  rintro e w1 ⟨rfl, rfl⟩
  go_wp2_with fail
  refine (rw_is g.session w0 hse true H4.out).mono ?_
  rintro e w1 ⟨rfl, rfl⟩
  go_wp2_with fail
  refine (rcheck_any A g.scopes.length c g.scopes w0 (HS.out.below HB.out) HSH.out (by omega)).mono ?_
  rintro e w1 ⟨rfl, hb1⟩
  have HB1 := Lib.hid (HB.out.trans (hb1.mono HB.out.size))
  have HE1 := Lib.hid (HE0.out.below hb1)
  have HX1 := Lib.hid (blk_below hb1 HX.out)
  have HB1b := Lib.hid hb1
  clear hb1 x0 x1 x3 x8
  rw [H6.out]
  go_wp2_with fail
  refine (find_any HE1.out t).mono ?_
  rintro e w2 ⟨rfl, rfl⟩
  rw [H7.out]
  go_wp2_with fail
  refine (at_any HE1.out i).mono ?_
  rintro e w2 ⟨rfl, rfl⟩
  rw [H8.out]
  obtain ⟨I, v, es, hp⟩ := HE1.out
  obtain ⟨A1, c1, rfl⟩ := hp.own.len
  have HP := Lib.hid hp
  have HLE := Lib.hid hp.len
  have c1' := cell_block hp.hG 1
  have c2' := cell_block hp.hG 2
  have c3' := cell_block hp.hG 3
  simp only [List.getElem?_toArray, List.getElem?_cons_zero, List.getElem?_cons_succ] at c1' c2' c3'
  clear hp
  have hshort : ¬ 256 ≤ es.length := by have := HLE.out; omega
  go_wp2_with fail
  refine (radd_any (limI now) st.total w1).mono ?_
  rintro e w2 ⟨rfl, rfl⟩
  rw [addC_l]
  have y8 := cell_block HX1.out 8
  simp only [List.getElem?_toArray, List.getElem?_cons_zero, List.getElem?_cons_succ] at y8
  have y8a := cell_below (w' := w1.alloc (.cells #[] 9)) (by go_grown) y8
  have HXA := Lib.hid (blk_below (w' := w1.alloc (.cells #[] 9)) (by go_grown) HX1.out)
  have HLX := Lib.hid (blk_lt HX1.out)
  clear y8
  go_upto_region 16 with ((with_reducible refine at_dst 81 ?_); go_must ((refine wpList_app1 rfl (.tmp 78) (.tmp 80) rfl w1.heap.size (by simp) (.slice (some ⟨w1.heap.size, 0, none⟩) 0 0) [] rfl (own1_empty w1 w1.heap.size (Nat.le_refl _)) A g.scopes.length c g.scopes rfl (((HS.out.below HB.out).below (HB1b.out)).below ((Below.refl _ _).alloc (Nat.le_refl _) _)) (by simp; omega) ?_); intro v2 w2 hO2 hg2 hv2; rw [List.nil_append] at hO2; obtain ⟨A2, c2, rfl⟩ := hO2.form; have HO2 := Lib.hid hO2; have HG2 := Lib.hid hg2; have HX2 := Lib.hid ((hg2.block w.heap.size (by have := HLX.out; simp only [World.size_alloc]; omega) (fun e => by have h9 := HLX.out; have e3 : w.heap.size = w1.heap.size := Option.some.inj e; omega)).trans HXA.out); have f8 : w2.frozen? ⟨w.heap.size, 8, none⟩ = false := (by have := HX2.out; simp only [World.frozen?, this]; rfl); have y8b := cell_block HX2.out 8; simp only [List.getElem?_toArray, List.getElem?_cons_zero, List.getElem?_cons_succ] at y8b; clear hO2 hg2 hv2))
  clear y8a y8b f8 c1' c2' c3'
  obtain ⟨w3, hw3⟩ : ∃ w3, w3 = w2.setCell ⟨w.heap.size, 8, none⟩ (.slice A2 g.scopes.length c2) := ⟨_, rfl⟩
  rw [← hw3]
  have hlx := HLX.out
  have HB13 := Lib.hid (show Below w.heap.size w1 w3 by
    rw [hw3]
    have h1 : Below w.heap.size w1 (w1.alloc (.cells #[] 9)) := (Below.refl _ _).alloc (by omega) _
    refine (h1.trans ⟨HG2.out.os, HG2.out.tape, HG2.out.output, HG2.out.size, fun k hk => HG2.out.block k (by simp only [World.size_alloc]; omega) (fun e => by have e3 : k = w1.heap.size := Option.some.inj e; omega)⟩).setCell (by simp) _)
  have HX3 := Lib.hid (show w3.heap[w.heap.size]? = some (.cells #[.string g.user, .string g.client, .string g.tenant, .string g.session, .string g.redirect, .string g.nonce, .string g.challenge, .int .i64 g.method, (.slice A2 g.scopes.length c2), .int .i64 g.auth, .int .i64 g.level] 35 (0, 0)) by rw [hw3]; exact heap_setCell_same _ _ 8 _ _ _ HX2.out)
  have HP3 := Lib.hid (HP.out.keep (w' := w3) (fun _ e => e) (fun k hk => HB13.out.block k (HE.out.lt k hk)) HB13.out.size (fun k hk => Nat.lt_of_lt_of_le (HP.out.lt k hk) HB13.out.size))
  have HO3 := Lib.hid (show Own1 w3 w1.heap.size (.slice A2 g.scopes.length c2) g.scopes by rw [hw3]; have := HO2.out; exact ownsRow_setCell_below this (by simp; omega) _)
  have HBB := Lib.hid (HB1.out.trans (HB13.out.mono (Nat.le_refl _)))
  clear hw3
  have d0 := cell_block HX3.out 0
  have d1 := cell_block HX3.out 1
  have d2 := cell_block HX3.out 2
  have d3 := cell_block HX3.out 3
  have d4 := cell_block HX3.out 4
  have d5 := cell_block HX3.out 5
  have d6 := cell_block HX3.out 6
  have d7 := cell_block HX3.out 7
  have d8 := cell_block HX3.out 8
  have d9 := cell_block HX3.out 9
  have d10 := cell_block HX3.out 10
  simp only [List.getElem?_toArray, List.getElem?_cons_zero, List.getElem?_cons_succ] at d0 d1 d2 d3 d4 d5 d6 d7 d8 d9 d10
  have e1 := cell_block HP3.out.hG 1
  have e3 := cell_block HP3.out.hG 3
  simp only [List.getElem?_toArray, List.getElem?_cons_zero, List.getElem?_cons_succ] at e1 e3
  have e3a : w3.drew.cell? ⟨G, 3, none⟩ = some (.slice A1 es.length c1) := e3
  have e3b := cell_below (w' := (w3.alloc (.cells #[.string t] 9)).drew) (by go_grown) e3
  have hel : es.length ≤ 256 := by omega
  have HOE := Lib.hid (HP3.out.own.keep (w' := ((w3.alloc (.cells #[.string t] 9)).alloc (.cells #[.string i, .string g.user, .string g.client, .string g.tenant, .string g.session, .string g.redirect, .string g.nonce, .string g.challenge, .int .i64 g.method, .slice A2 g.scopes.length c2, .int .i64 g.auth, .int .i64 g.level, .slice (some ⟨w3.heap.size, 0, none⟩) 1 1, .int .i64 (min (addC now st.life) (addC now st.total)), .int .i64 (addC now st.total), .bool false] 72)).drew) (fun k hk => ((by go_grown : Below w3.heap.size w3 (((w3.alloc (.cells #[.string t] 9)).alloc (.cells #[.string i, .string g.user, .string g.client, .string g.tenant, .string g.session, .string g.redirect, .string g.nonce, .string g.challenge, .int .i64 g.method, .slice A2 g.scopes.length c2, .int .i64 g.auth, .int .i64 g.level, .slice (some ⟨w3.heap.size, 0, none⟩) 1 1, .int .i64 (min (addC now st.life) (addC now st.total)), .int .i64 (addC now st.total), .bool false] 72)).drew))).block k (HP3.out.own.lt k hk)))
  have HELC := Lib.hid (show (((w3.alloc (.cells #[.string t] 9)).alloc (.cells #[.string i, .string g.user, .string g.client, .string g.tenant, .string g.session, .string g.redirect, .string g.nonce, .string g.challenge, .int .i64 g.method, .slice A2 g.scopes.length c2, .int .i64 g.auth, .int .i64 g.level, .slice (some ⟨w3.heap.size, 0, none⟩) 1 1, .int .i64 (min (addC now st.life) (addC now st.total)), .int .i64 (addC now st.total), .bool false] 72)).drew).heap[w3.heap.size + 1]? = some (.cells #[.string i, .string g.user, .string g.client, .string g.tenant, .string g.session, .string g.redirect, .string g.nonce, .string g.challenge, .int .i64 g.method, .slice A2 g.scopes.length c2, .int .i64 g.auth, .int .i64 g.level, .slice (some ⟨w3.heap.size, 0, none⟩) 1 1, .int .i64 (min (addC now st.life) (addC now st.total)), .int .i64 (addC now st.total), .bool false] 72 (0, 0)) from (by
    have e : w3.heap.size + 1 = (w3.alloc (.cells #[.string t] 9)).heap.size := by simp
    rw [e]; exact heap_alloc_new (w3.alloc (.cells #[.string t] 9)) _))
  have HEL := Lib.hid (show ∀ j u, (fl16 (newF st i t g now, A2, c2, some ⟨w3.heap.size, 0, none⟩, 1))[j]? = some u → (((w3.alloc (.cells #[.string t] 9)).alloc (.cells #[.string i, .string g.user, .string g.client, .string g.tenant, .string g.session, .string g.redirect, .string g.nonce, .string g.challenge, .int .i64 g.method, .slice A2 g.scopes.length c2, .int .i64 g.auth, .int .i64 g.level, .slice (some ⟨w3.heap.size, 0, none⟩) 1 1, .int .i64 (min (addC now st.life) (addC now st.total)), .int .i64 (addC now st.total), .bool false] 72)).drew).cell? ⟨w3.heap.size + 1, j, none⟩ = some u from fun j u hu => (cell_block HELC.out j).trans (List.getElem?_toArray.trans hu))
  have HTK := Lib.hid (show (((w3.alloc (.cells #[.string t] 9)).alloc (.cells #[.string i, .string g.user, .string g.client, .string g.tenant, .string g.session, .string g.redirect, .string g.nonce, .string g.challenge, .int .i64 g.method, .slice A2 g.scopes.length c2, .int .i64 g.auth, .int .i64 g.level, .slice (some ⟨w3.heap.size, 0, none⟩) 1 1, .int .i64 (min (addC now st.life) (addC now st.total)), .int .i64 (addC now st.total), .bool false] 72)).drew).heap[w3.heap.size]? = some (.cells #[.string t] 9 (0, 0)) from (Below.heap_alloc _ _ _ (by simp)).trans (heap_alloc_new w3 _))
  have HGX := Lib.hid (show G ≠ w.heap.size from fun e => by have := HE.out.lt G HP3.out.sG.1; omega)
  have HNO := Lib.hid (show ∀ k, (Value.slice A1 es.length c1).ownBlock = some k → k < w.heap.size ∧ k ≠ G from fun k hk => ⟨HE.out.lt k (HP3.out.sv k hk).1, (HP3.out.sv k hk).2.2⟩)
  have HWG := Lib.hid (show Below w3.heap.size w3 (((w3.alloc (.cells #[.string t] 9)).alloc (.cells #[.string i, .string g.user, .string g.client, .string g.tenant, .string g.session, .string g.redirect, .string g.nonce, .string g.challenge, .int .i64 g.method, .slice A2 g.scopes.length c2, .int .i64 g.auth, .int .i64 g.level, .slice (some ⟨w3.heap.size, 0, none⟩) 1 1, .int .i64 (min (addC now st.life) (addC now st.total)), .int .i64 (addC now st.total), .bool false] 72)).drew) by go_grown)
  have HZE := Lib.hid (show (((w3.alloc (.cells #[.string t] 9)).alloc (.cells #[.string i, .string g.user, .string g.client, .string g.tenant, .string g.session, .string g.redirect, .string g.nonce, .string g.challenge, .int .i64 g.method, .slice A2 g.scopes.length c2, .int .i64 g.auth, .int .i64 g.level, .slice (some ⟨w3.heap.size, 0, none⟩) 1 1, .int .i64 (min (addC now st.life) (addC now st.total)), .int .i64 (addC now st.total), .bool false] 72)).drew).heap.size = w3.heap.size + 2 by simp)
  have HLX3 := Lib.hid (blk_lt HX3.out)
  have HGL := Lib.hid (blk_lt HP3.out.hG)
  have e3c := cell_below (w' := w3.alloc (.cells #[.string t] 9)) (by go_grown) e3
  have e3d := cell_below (w' := (w3.alloc (.cells #[.string t] 9)).alloc (.cells #[.string i, .string g.user, .string g.client, .string g.tenant, .string g.session, .string g.redirect, .string g.nonce, .string g.challenge, .int .i64 g.method, .slice A2 g.scopes.length c2, .int .i64 g.auth, .int .i64 g.level, .slice (some ⟨w3.heap.size, 0, none⟩) 1 1, .int .i64 (min (addC now st.life) (addC now st.total)), .int .i64 (addC now st.total), .bool false] 72)) (by go_grown) e3
  refine wp_region_held_drew (S := (fun w' => w'.cell? ⟨G, 1, none⟩ = some (.int .i64 st.life) ∧ w'.cell? ⟨w.heap.size, 0, none⟩ = some (.string g.user) ∧ w'.cell? ⟨w.heap.size, 1, none⟩ = some (.string g.client) ∧ w'.cell? ⟨w.heap.size, 2, none⟩ = some (.string g.tenant) ∧ w'.cell? ⟨w.heap.size, 3, none⟩ = some (.string g.session) ∧ w'.cell? ⟨w.heap.size, 4, none⟩ = some (.string g.redirect) ∧ w'.cell? ⟨w.heap.size, 5, none⟩ = some (.string g.nonce) ∧ w'.cell? ⟨w.heap.size, 6, none⟩ = some (.string g.challenge) ∧ w'.cell? ⟨w.heap.size, 7, none⟩ = some (.int .i64 g.method) ∧ w'.cell? ⟨w.heap.size, 8, none⟩ = some (.slice A2 g.scopes.length c2) ∧ w'.cell? ⟨w.heap.size, 9, none⟩ = some (.int .i64 g.auth) ∧ w'.cell? ⟨w.heap.size, 10, none⟩ = some (.int .i64 g.level))) (by kernel_rfl) ?_ (fun hHeld => ?_)
  focus ((try dsimp only); (first | exact ⟨cell_below ((Below.refl w3.heap.size w3).drew) e1, cell_below ((Below.refl w3.heap.size w3).drew) d0, cell_below ((Below.refl w3.heap.size w3).drew) d1, cell_below ((Below.refl w3.heap.size w3).drew) d2, cell_below ((Below.refl w3.heap.size w3).drew) d3, cell_below ((Below.refl w3.heap.size w3).drew) d4, cell_below ((Below.refl w3.heap.size w3).drew) d5, cell_below ((Below.refl w3.heap.size w3).drew) d6, cell_below ((Below.refl w3.heap.size w3).drew) d7, cell_below ((Below.refl w3.heap.size w3).drew) d8, cell_below ((Below.refl w3.heap.size w3).drew) d9, cell_below ((Below.refl w3.heap.size w3).drew) d10⟩ | exact SK7.out | exact SK6.out | exact ⟨cell_below (by go_grown) e1, cell_below (by go_grown) d0, cell_below (by go_grown) d1, cell_below (by go_grown) d2, cell_below (by go_grown) d3, cell_below (by go_grown) d4, cell_below (by go_grown) d5, cell_below (by go_grown) d6, cell_below (by go_grown) d7, cell_below (by go_grown) d8, cell_below (by go_grown) d9, cell_below (by go_grown) d10⟩); done)
  refine wpAnyH_take (i := 0) (oi := ⟨_, _, _, _, _, _⟩) (v := ?_) rfl (by kernel_rfl) (by kernel_rfl) (by kernel_rfl) (fun _ _ _ h => h) (Or.inl ⟨by rfl, ?_⟩) (by assumption) ?_; rotate_left; (focus (intro w hSw; (try dsimp only at hSw); go_simp; (try with_reducible rfl); done)); simp only [Act.put, List.setIfInBounds_toArray, List.set_cons_zero, List.set_cons_succ]
  refine wpAnyH_take (i := 1) (oi := ⟨_, _, _, _, _, _⟩) (v := ?_) rfl (by kernel_rfl) (by kernel_rfl) (by kernel_rfl) (fun _ _ _ h => h) (Or.inl ⟨by rfl, ?_⟩) (by assumption) ?_; rotate_left; (focus (intro w hSw; (try dsimp only at hSw); go_simp; (try with_reducible rfl); done)); simp only [Act.put, List.setIfInBounds_toArray, List.set_cons_zero, List.set_cons_succ]
  refine wpAnyH_take (i := 2) (oi := ⟨_, _, _, _, _, _⟩) (v := ?_) rfl (by kernel_rfl) (by kernel_rfl) (by kernel_rfl) (fun _ _ _ h => h) (Or.inl ⟨by rfl, ?_⟩) (by assumption) ?_; rotate_left; (focus (intro w hSw; (try dsimp only at hSw); go_simp; (try with_reducible rfl); done)); simp only [Act.put, List.setIfInBounds_toArray, List.set_cons_zero, List.set_cons_succ]
  refine wpAnyH_take (i := 3) (oi := ⟨_, _, _, _, _, _⟩) (v := ?_) rfl (by kernel_rfl) (by kernel_rfl) (by kernel_rfl) (fun _ _ _ h => h) (Or.inl ⟨by rfl, ?_⟩) (by assumption) ?_; rotate_left; (focus (intro w hSw; (try dsimp only at hSw); go_simp; (try with_reducible rfl); done)); simp only [Act.put, List.setIfInBounds_toArray, List.set_cons_zero, List.set_cons_succ]
  refine wpAnyH_take (i := 5) (oi := ⟨_, _, _, _, _, _⟩) (v := ?_) rfl (by kernel_rfl) (by kernel_rfl) (by kernel_rfl) (fun _ _ _ h => h) (Or.inl ⟨by rfl, ?_⟩) (by assumption) ?_; rotate_left; (focus (intro w hSw; (try dsimp only at hSw); go_simp; (try with_reducible rfl); done)); simp only [Act.put, List.setIfInBounds_toArray, List.set_cons_zero, List.set_cons_succ]
  refine wpAnyH_take (i := 6) (oi := ⟨_, _, _, _, _, _⟩) (v := ?_) rfl (by kernel_rfl) (by kernel_rfl) (by kernel_rfl) (fun _ _ _ h => h) (Or.inl ⟨by rfl, ?_⟩) (by assumption) ?_; rotate_left; (focus (intro w hSw; (try dsimp only at hSw); go_simp; (try with_reducible rfl); done)); simp only [Act.put, List.setIfInBounds_toArray, List.set_cons_zero, List.set_cons_succ]
  refine wpAnyH_take (i := 7) (oi := ⟨_, _, _, _, _, _⟩) (v := ?_) rfl (by kernel_rfl) (by kernel_rfl) (by kernel_rfl) (fun _ _ _ h => h) (Or.inl ⟨by rfl, ?_⟩) (by assumption) ?_; rotate_left; (focus (intro w hSw; (try dsimp only at hSw); go_simp; (try with_reducible rfl); done)); simp only [Act.put, List.setIfInBounds_toArray, List.set_cons_zero, List.set_cons_succ]
  refine wpAnyH_take (i := 9) (oi := ⟨_, _, _, _, _, _⟩) (v := ?_) rfl (by kernel_rfl) (by kernel_rfl) (by kernel_rfl) (fun _ _ _ h => h) (Or.inl ⟨by rfl, ?_⟩) (by assumption) ?_; rotate_left; (focus (intro w hSw; (try dsimp only at hSw); go_simp; (try with_reducible rfl); done)); simp only [Act.put, List.setIfInBounds_toArray, List.set_cons_zero, List.set_cons_succ]
  refine wpAnyH_take (i := 10) (oi := ⟨_, _, _, _, _, _⟩) (v := ?_) rfl (by kernel_rfl) (by kernel_rfl) (by kernel_rfl) (fun _ _ _ h => h) (Or.inl ⟨by rfl, ?_⟩) (by assumption) ?_; rotate_left; (focus (intro w hSw; (try dsimp only at hSw); go_simp; (try with_reducible rfl); done)); simp only [Act.put, List.setIfInBounds_toArray, List.set_cons_zero, List.set_cons_succ]
  refine wpAnyH_take (i := 11) (oi := ⟨_, _, _, _, _, _⟩) (v := ?_) rfl (by kernel_rfl) (by kernel_rfl) (by kernel_rfl) (fun _ _ _ h => h) (Or.inl ⟨by rfl, ?_⟩) (by assumption) ?_; rotate_left; (focus (intro w hSw; (try dsimp only at hSw); go_simp; (try with_reducible rfl); done)); simp only [Act.put, List.setIfInBounds_toArray, List.set_cons_zero, List.set_cons_succ]
  refine wpAnyH_take (i := 12) (oi := ⟨_, _, _, _, _, _⟩) (v := ?_) rfl (by kernel_rfl) (by kernel_rfl) (by kernel_rfl) (fun _ _ _ h => h) (Or.inl ⟨by rfl, ?_⟩) (by assumption) ?_; rotate_left; (focus (intro w hSw; (try dsimp only at hSw); go_simp; (try with_reducible rfl); done)); simp only [Act.put, List.setIfInBounds_toArray, List.set_cons_zero, List.set_cons_succ]
  refine wpAnyH_take (i := 13) (oi := ⟨_, _, _, _, _, _⟩) (v := ?_) rfl (by kernel_rfl) (by kernel_rfl) (by kernel_rfl) (fun _ _ _ h => h) (Or.inl ⟨by rfl, ?_⟩) (by assumption) ?_; rotate_left; (focus (intro w hSw; (try dsimp only at hSw); go_simp; (try with_reducible rfl); done)); simp only [Act.put, List.setIfInBounds_toArray, List.set_cons_zero, List.set_cons_succ]
  refine wpAnyH_take (i := 15) (oi := ⟨_, _, _, _, _, _⟩) (v := ?_) rfl (by kernel_rfl) (by kernel_rfl) (by kernel_rfl) (fun _ _ _ h => h) (Or.inl ⟨by rfl, ?_⟩) (by assumption) ?_; rotate_left; (focus (intro w hSw; (try dsimp only at hSw); go_simp; (try with_reducible rfl); done)); simp only [Act.put, List.setIfInBounds_toArray, List.set_cons_zero, List.set_cons_succ]
  refine wpAnyH_take (i := 17) (oi := ⟨_, _, _, _, _, _⟩) (v := ?_) rfl (by kernel_rfl) (by kernel_rfl) (by kernel_rfl) (fun _ _ _ h => h) (Or.inl ⟨by rfl, ?_⟩) (by assumption) ?_; rotate_left; (focus (intro w hSw; (try dsimp only at hSw); go_simp; (try with_reducible rfl); done)); simp only [Act.put, List.setIfInBounds_toArray, List.set_cons_zero, List.set_cons_succ]
  refine wpAnyH_ready (rs := [4, 8, 14]) (by kernel_rfl) (by simp) ?_
  refine AllReadyH.cons (o := ⟨_, _, _, _, _, _⟩) rfl (fun K hK => ?_) (AllReadyH.cons (o := ⟨_, _, _, _, _, _⟩) rfl (fun K hK => ?_) (AllReadyH.cons (o := ⟨_, _, _, _, _, _⟩) rfl (fun K hK => ?_) AllReadyH.nil))
  · go_simp
    (try go_wp2_with fail)
    refine hK.out _ _ ?_ (fun hHeld => ?_)
    focus ((try dsimp only); (first | exact ⟨cell_below ((Below.refl w3.heap.size w3).drew) e1, cell_below ((Below.refl w3.heap.size w3).drew) d0, cell_below ((Below.refl w3.heap.size w3).drew) d1, cell_below ((Below.refl w3.heap.size w3).drew) d2, cell_below ((Below.refl w3.heap.size w3).drew) d3, cell_below ((Below.refl w3.heap.size w3).drew) d4, cell_below ((Below.refl w3.heap.size w3).drew) d5, cell_below ((Below.refl w3.heap.size w3).drew) d6, cell_below ((Below.refl w3.heap.size w3).drew) d7, cell_below ((Below.refl w3.heap.size w3).drew) d8, cell_below ((Below.refl w3.heap.size w3).drew) d9, cell_below ((Below.refl w3.heap.size w3).drew) d10⟩ | exact SK7.out | exact SK6.out | exact ⟨cell_below (by go_grown) e1, cell_below (by go_grown) d0, cell_below (by go_grown) d1, cell_below (by go_grown) d2, cell_below (by go_grown) d3, cell_below (by go_grown) d4, cell_below (by go_grown) d5, cell_below (by go_grown) d6, cell_below (by go_grown) d7, cell_below (by go_grown) d8, cell_below (by go_grown) d9, cell_below (by go_grown) d10⟩); done)
    clear hK K
    (try simp only [Act.put, List.setIfInBounds_toArray, List.set_cons_zero, List.set_cons_succ])
    refine wpAnyH_ready (rs := [8, 14]) (by kernel_rfl) (by simp) ?_
    refine AllReadyH.cons (o := ⟨_, _, _, _, _, _⟩) rfl (fun K hK => ?_) (AllReadyH.cons (o := ⟨_, _, _, _, _, _⟩) rfl (fun K hK => ?_) AllReadyH.nil)
    · go_simp
      (try go_wp2_with fail)
      refine hK.out _ _ ?_ (fun hHeld => ?_)
      focus ((try dsimp only); (first | exact ⟨cell_below ((Below.refl w3.heap.size w3).drew) e1, cell_below ((Below.refl w3.heap.size w3).drew) d0, cell_below ((Below.refl w3.heap.size w3).drew) d1, cell_below ((Below.refl w3.heap.size w3).drew) d2, cell_below ((Below.refl w3.heap.size w3).drew) d3, cell_below ((Below.refl w3.heap.size w3).drew) d4, cell_below ((Below.refl w3.heap.size w3).drew) d5, cell_below ((Below.refl w3.heap.size w3).drew) d6, cell_below ((Below.refl w3.heap.size w3).drew) d7, cell_below ((Below.refl w3.heap.size w3).drew) d8, cell_below ((Below.refl w3.heap.size w3).drew) d9, cell_below ((Below.refl w3.heap.size w3).drew) d10⟩ | exact SK7.out | exact SK6.out | exact ⟨cell_below (by go_grown) e1, cell_below (by go_grown) d0, cell_below (by go_grown) d1, cell_below (by go_grown) d2, cell_below (by go_grown) d3, cell_below (by go_grown) d4, cell_below (by go_grown) d5, cell_below (by go_grown) d6, cell_below (by go_grown) d7, cell_below (by go_grown) d8, cell_below (by go_grown) d9, cell_below (by go_grown) d10⟩); done)
      clear hK K
      (try simp only [Act.put, List.setIfInBounds_toArray, List.set_cons_zero, List.set_cons_succ])
      refine wpAnyH_ready (rs := [14]) (by kernel_rfl) (by simp) ?_
      refine AllReadyH.cons (o := ⟨_, _, _, _, _, _⟩) rfl (fun K hK => ?_) AllReadyH.nil
      go_simp
      go_wp2_with fail
      refine (radd_any (limI now) st.life _).mono ?_
      rintro e wn ⟨rfl, rfl⟩
      rw [addC_l]
      (try go_wp2_with fail)
      refine hK.out _ _ ?_ (fun hHeld => ?_)
      focus ((try dsimp only); (first | exact ⟨cell_below ((Below.refl w3.heap.size w3).drew) e1, cell_below ((Below.refl w3.heap.size w3).drew) d0, cell_below ((Below.refl w3.heap.size w3).drew) d1, cell_below ((Below.refl w3.heap.size w3).drew) d2, cell_below ((Below.refl w3.heap.size w3).drew) d3, cell_below ((Below.refl w3.heap.size w3).drew) d4, cell_below ((Below.refl w3.heap.size w3).drew) d5, cell_below ((Below.refl w3.heap.size w3).drew) d6, cell_below ((Below.refl w3.heap.size w3).drew) d7, cell_below ((Below.refl w3.heap.size w3).drew) d8, cell_below ((Below.refl w3.heap.size w3).drew) d9, cell_below ((Below.refl w3.heap.size w3).drew) d10⟩ | exact SK7.out | exact SK6.out | exact ⟨cell_below (by go_grown) e1, cell_below (by go_grown) d0, cell_below (by go_grown) d1, cell_below (by go_grown) d2, cell_below (by go_grown) d3, cell_below (by go_grown) d4, cell_below (by go_grown) d5, cell_below (by go_grown) d6, cell_below (by go_grown) d7, cell_below (by go_grown) d8, cell_below (by go_grown) d9, cell_below (by go_grown) d10⟩); done)
      clear hK K
      (try simp only [Act.put, List.setIfInBounds_toArray, List.set_cons_zero, List.set_cons_succ])
      refine wpAnyH_ready (rs := [16]) (by kernel_rfl) (by simp) ?_
      refine AllReadyH.cons (o := ⟨_, _, _, _, _, _⟩) rfl (fun K hK => ?_) AllReadyH.nil
      go_simp
      (try go_wp2_with fail)
      refine hK.out _ _ ?_ (fun hHeld => ?_)
      focus ((try dsimp only); (first | exact ⟨cell_below ((Below.refl w3.heap.size w3).drew) e1, cell_below ((Below.refl w3.heap.size w3).drew) d0, cell_below ((Below.refl w3.heap.size w3).drew) d1, cell_below ((Below.refl w3.heap.size w3).drew) d2, cell_below ((Below.refl w3.heap.size w3).drew) d3, cell_below ((Below.refl w3.heap.size w3).drew) d4, cell_below ((Below.refl w3.heap.size w3).drew) d5, cell_below ((Below.refl w3.heap.size w3).drew) d6, cell_below ((Below.refl w3.heap.size w3).drew) d7, cell_below ((Below.refl w3.heap.size w3).drew) d8, cell_below ((Below.refl w3.heap.size w3).drew) d9, cell_below ((Below.refl w3.heap.size w3).drew) d10⟩ | exact SK7.out | exact SK6.out | exact ⟨cell_below (by go_grown) e1, cell_below (by go_grown) d0, cell_below (by go_grown) d1, cell_below (by go_grown) d2, cell_below (by go_grown) d3, cell_below (by go_grown) d4, cell_below (by go_grown) d5, cell_below (by go_grown) d6, cell_below (by go_grown) d7, cell_below (by go_grown) d8, cell_below (by go_grown) d9, cell_below (by go_grown) d10⟩); done)
      clear hK K
      (try simp only [Act.put, List.setIfInBounds_toArray, List.set_cons_zero, List.set_cons_succ])
      refine wpAnyH_take (i := 18) (oi := ⟨_, _, _, _, _, _⟩) (v := ?_) rfl (by kernel_rfl) (by kernel_rfl) (by kernel_rfl) (fun _ _ _ h => h) (Or.inl ⟨by rfl, ?_⟩) (by assumption) ?_; rotate_left; (focus (intro w hSw; (try dsimp only at hSw); go_simp; (try with_reducible rfl); done)); simp only [Act.put, List.setIfInBounds_toArray, List.set_cons_zero, List.set_cons_succ]
      refine wpAnyH_ready (rs := [19]) (by kernel_rfl) (by simp) ?_
      refine AllReadyH.cons (o := ⟨_, _, _, _, _, _⟩) rfl (fun K hK => ?_) AllReadyH.nil
      go_simp
      (try go_wp2_with fail)
      refine hK.out _ _ ?_ (fun hHeld => ?_)
      focus ((try dsimp only); (first | exact ⟨cell_below ((Below.refl w3.heap.size w3).drew) e1, cell_below ((Below.refl w3.heap.size w3).drew) d0, cell_below ((Below.refl w3.heap.size w3).drew) d1, cell_below ((Below.refl w3.heap.size w3).drew) d2, cell_below ((Below.refl w3.heap.size w3).drew) d3, cell_below ((Below.refl w3.heap.size w3).drew) d4, cell_below ((Below.refl w3.heap.size w3).drew) d5, cell_below ((Below.refl w3.heap.size w3).drew) d6, cell_below ((Below.refl w3.heap.size w3).drew) d7, cell_below ((Below.refl w3.heap.size w3).drew) d8, cell_below ((Below.refl w3.heap.size w3).drew) d9, cell_below ((Below.refl w3.heap.size w3).drew) d10⟩ | exact SK7.out | exact SK6.out | exact ⟨cell_below (by go_grown) e1, cell_below (by go_grown) d0, cell_below (by go_grown) d1, cell_below (by go_grown) d2, cell_below (by go_grown) d3, cell_below (by go_grown) d4, cell_below (by go_grown) d5, cell_below (by go_grown) d6, cell_below (by go_grown) d7, cell_below (by go_grown) d8, cell_below (by go_grown) d9, cell_below (by go_grown) d10⟩); done)
      clear hK K
      (try simp only [Act.put, List.setIfInBounds_toArray, List.set_cons_zero, List.set_cons_succ])
      refine wpAnyH_ready (rs := [20]) (by kernel_rfl) (by simp) ?_
      refine AllReadyH.cons (o := ⟨_, _, _, _, _, _⟩) rfl (fun K hK => ?_) AllReadyH.nil
      refine wp_app16 (.tmp 87) (.tmp 102) rfl (.slice A1 es.length c1) es rfl HOE.out (w3.heap.size + 1) 1 (newF st i t g now, A2, c2, some ⟨w3.heap.size, 0, none⟩, 1) rfl HEL.out (by omega) ?_
      intro v6 w6 hO6 hg6 hv6
      have hl6 : (es ++ [((newF st i t g now, A2, c2, some ⟨w3.heap.size, 0, none⟩, 1) : FmE)]).length = es.length + 1 := by simp
      have HV6 := Lib.hid hv6
      have HG6 := Lib.hid hg6
      have HK6 := Lib.hid (show ∀ k, k < w3.heap.size → ¬ (Value.slice A1 es.length c1).ownBlock = some k → w6.heap[k]? = w3.heap[k]? from fun k hk hn => (hg6.block k (by have := HZE.out; omega) (fun e => hn e.symm)).trans (HWG.out.block k hk))
      have HGB6 := Lib.hid ((HK6.out G HGL.out (fun e => (HNO.out G e).2 rfl)).trans HP3.out.hG)
      have HXB6 := Lib.hid ((HK6.out w.heap.size HLX3.out (fun e => by have := (HNO.out _ e).1; omega)).trans HX3.out)
      have HTK6 := Lib.hid ((hg6.block w3.heap.size (by have := HZE.out; omega) (fun e => by have := (HNO.out _ e.symm).1; have := HLX3.out; omega)).trans HTK.out)
      have SK6 := Lib.hid (And.intro (cell_block HGB6.out 1) (cells11 HXB6.out))
      have e36 := cell_block HGB6.out 3
      simp only [List.getElem?_toArray, List.getElem?_cons_zero, List.getElem?_cons_succ] at e36
      have f36 : w6.frozen? ⟨G, 3, none⟩ = false := by have := HGB6.out; simp only [World.frozen?, this]; rfl
      obtain ⟨A6, c6, rfl⟩ := hO6.len
      rw [hl6] at hO6
      rw [hl6] at HV6
      rw [hl6]
      have HO6 := Lib.hid hO6
      clear hO6 hg6 hv6 hl6
      (try go_wp2_with fail)
      refine hK.out _ _ ?_ (fun hHeld => ?_)
      focus ((try dsimp only); (first | exact ⟨cell_below ((Below.refl w3.heap.size w3).drew) e1, cell_below ((Below.refl w3.heap.size w3).drew) d0, cell_below ((Below.refl w3.heap.size w3).drew) d1, cell_below ((Below.refl w3.heap.size w3).drew) d2, cell_below ((Below.refl w3.heap.size w3).drew) d3, cell_below ((Below.refl w3.heap.size w3).drew) d4, cell_below ((Below.refl w3.heap.size w3).drew) d5, cell_below ((Below.refl w3.heap.size w3).drew) d6, cell_below ((Below.refl w3.heap.size w3).drew) d7, cell_below ((Below.refl w3.heap.size w3).drew) d8, cell_below ((Below.refl w3.heap.size w3).drew) d9, cell_below ((Below.refl w3.heap.size w3).drew) d10⟩ | exact SK7.out | exact SK6.out | exact ⟨cell_below (by go_grown) e1, cell_below (by go_grown) d0, cell_below (by go_grown) d1, cell_below (by go_grown) d2, cell_below (by go_grown) d3, cell_below (by go_grown) d4, cell_below (by go_grown) d5, cell_below (by go_grown) d6, cell_below (by go_grown) d7, cell_below (by go_grown) d8, cell_below (by go_grown) d9, cell_below (by go_grown) d10⟩); done)
      clear hK K
      (try simp only [Act.put, List.setIfInBounds_toArray, List.set_cons_zero, List.set_cons_succ])
      refine wpAnyH_take (i := 21) (oi := ⟨_, _, _, _, _, _⟩) (v := ?_) rfl (by kernel_rfl) (by kernel_rfl) (by kernel_rfl) (fun _ _ _ h => h) (Or.inl ⟨by rfl, ?_⟩) (by assumption) ?_; rotate_left; (focus (intro w hSw; (try dsimp only at hSw); go_simp; (try with_reducible rfl); done)); simp only [Act.put, List.setIfInBounds_toArray, List.set_cons_zero, List.set_cons_succ]
      refine wpAnyH_take (i := 22) (oi := ⟨_, _, _, _, _, _⟩) (v := ?_) rfl (by kernel_rfl) (by kernel_rfl) (by kernel_rfl) (fun _ _ _ h => h) (Or.inl ⟨by rfl, ?_⟩) (by assumption) ?_; rotate_left; (focus (intro w hSw; (try dsimp only at hSw); go_simp; (try with_reducible rfl); done)); simp only [Act.put, List.setIfInBounds_toArray, List.set_cons_zero, List.set_cons_succ]
      refine wpAnyH_ready (rs := [23]) (by kernel_rfl) (by simp) ?_
      refine AllReadyH.cons (o := ⟨_, _, _, _, _, _⟩) rfl (fun K hK => ?_) AllReadyH.nil
      go_simp
      have HG7 := Lib.hid (heap_setCell_same w6 G 3 _ _ (.slice A6 (es.length + 1) c6) HGB6.out)
      have HX7 := Lib.hid ((Below.heap_setCell w6 ⟨G, 3, none⟩ (.slice A6 (es.length + 1) c6) w.heap.size (fun e => HGX.out e.symm)).trans HXB6.out)
      have SK7 := Lib.hid (And.intro (cell_block HG7.out 1) (cells11 HX7.out))
      (try go_wp2_with fail)
      refine hK.out _ _ ?_ (fun hHeld => ?_)
      focus ((try dsimp only); (first | exact ⟨cell_below ((Below.refl w3.heap.size w3).drew) e1, cell_below ((Below.refl w3.heap.size w3).drew) d0, cell_below ((Below.refl w3.heap.size w3).drew) d1, cell_below ((Below.refl w3.heap.size w3).drew) d2, cell_below ((Below.refl w3.heap.size w3).drew) d3, cell_below ((Below.refl w3.heap.size w3).drew) d4, cell_below ((Below.refl w3.heap.size w3).drew) d5, cell_below ((Below.refl w3.heap.size w3).drew) d6, cell_below ((Below.refl w3.heap.size w3).drew) d7, cell_below ((Below.refl w3.heap.size w3).drew) d8, cell_below ((Below.refl w3.heap.size w3).drew) d9, cell_below ((Below.refl w3.heap.size w3).drew) d10⟩ | exact SK7.out | exact SK6.out | exact ⟨cell_below (by go_grown) e1, cell_below (by go_grown) d0, cell_below (by go_grown) d1, cell_below (by go_grown) d2, cell_below (by go_grown) d3, cell_below (by go_grown) d4, cell_below (by go_grown) d5, cell_below (by go_grown) d6, cell_below (by go_grown) d7, cell_below (by go_grown) d8, cell_below (by go_grown) d9, cell_below (by go_grown) d10⟩); done)
      clear hK K
      (try simp only [Act.put, List.setIfInBounds_toArray, List.set_cons_zero, List.set_cons_succ])
      refine wpAnyH_done (by kernel_rfl) ?_ _
      go_wp2
      go_ret
      refine rstart_fin HR.out HE.out.lt HBB.out HLX3.out HLX.out HP3.out HO3.out (fun k hk hne hn => (Below.heap_setCell _ _ _ _ hne).trans (HK6.out k hk hn)) ((Below.heap_setCell w6 ⟨G, 3, none⟩ _ w3.heap.size (fun e => by have := HGL.out; simp only at e; omega)).trans HTK6.out) HG7.out (HO6.out.keep (fun g' hg' => Below.heap_setCell _ _ _ _ (fun e => ?_))) (by have := HV6.out; rw [HZE.out] at this; exact this) (by have := HG6.out.size; have := HZE.out; simp [World.setCell]; omega) HG6.out.os HG6.out.tape HG6.out.output (inv_start' HE.out.inv H0.out H1.out H6.out HSH.out H7.out H8.out q9)
      simp only at e
      subst e
      rcases HV6.out with e | e
      · rw [hg'] at e; exact (HNO.out _ e.symm).2 rfl
      · rw [hg'] at e; injection e with e; have := HGL.out; have := HZE.out; omega
    · go_simp
      go_wp2_with fail
      refine (radd_any (limI now) st.life _).mono ?_
      rintro e wn ⟨rfl, rfl⟩
      rw [addC_l]
      (try go_wp2_with fail)
      refine hK.out _ _ ?_ (fun hHeld => ?_)
      focus ((try dsimp only); (first | exact ⟨cell_below ((Below.refl w3.heap.size w3).drew) e1, cell_below ((Below.refl w3.heap.size w3).drew) d0, cell_below ((Below.refl w3.heap.size w3).drew) d1, cell_below ((Below.refl w3.heap.size w3).drew) d2, cell_below ((Below.refl w3.heap.size w3).drew) d3, cell_below ((Below.refl w3.heap.size w3).drew) d4, cell_below ((Below.refl w3.heap.size w3).drew) d5, cell_below ((Below.refl w3.heap.size w3).drew) d6, cell_below ((Below.refl w3.heap.size w3).drew) d7, cell_below ((Below.refl w3.heap.size w3).drew) d8, cell_below ((Below.refl w3.heap.size w3).drew) d9, cell_below ((Below.refl w3.heap.size w3).drew) d10⟩ | exact SK7.out | exact SK6.out | exact ⟨cell_below (by go_grown) e1, cell_below (by go_grown) d0, cell_below (by go_grown) d1, cell_below (by go_grown) d2, cell_below (by go_grown) d3, cell_below (by go_grown) d4, cell_below (by go_grown) d5, cell_below (by go_grown) d6, cell_below (by go_grown) d7, cell_below (by go_grown) d8, cell_below (by go_grown) d9, cell_below (by go_grown) d10⟩); done)
      clear hK K
      (try simp only [Act.put, List.setIfInBounds_toArray, List.set_cons_zero, List.set_cons_succ])
      refine wpAnyH_ready (rs := [8, 16]) (by kernel_rfl) (by simp) ?_
      refine AllReadyH.cons (o := ⟨_, _, _, _, _, _⟩) rfl (fun K hK => ?_) (AllReadyH.cons (o := ⟨_, _, _, _, _, _⟩) rfl (fun K hK => ?_) AllReadyH.nil)
      · go_simp
        (try go_wp2_with fail)
        refine hK.out _ _ ?_ (fun hHeld => ?_)
        focus ((try dsimp only); (first | exact ⟨cell_below ((Below.refl w3.heap.size w3).drew) e1, cell_below ((Below.refl w3.heap.size w3).drew) d0, cell_below ((Below.refl w3.heap.size w3).drew) d1, cell_below ((Below.refl w3.heap.size w3).drew) d2, cell_below ((Below.refl w3.heap.size w3).drew) d3, cell_below ((Below.refl w3.heap.size w3).drew) d4, cell_below ((Below.refl w3.heap.size w3).drew) d5, cell_below ((Below.refl w3.heap.size w3).drew) d6, cell_below ((Below.refl w3.heap.size w3).drew) d7, cell_below ((Below.refl w3.heap.size w3).drew) d8, cell_below ((Below.refl w3.heap.size w3).drew) d9, cell_below ((Below.refl w3.heap.size w3).drew) d10⟩ | exact SK7.out | exact SK6.out | exact ⟨cell_below (by go_grown) e1, cell_below (by go_grown) d0, cell_below (by go_grown) d1, cell_below (by go_grown) d2, cell_below (by go_grown) d3, cell_below (by go_grown) d4, cell_below (by go_grown) d5, cell_below (by go_grown) d6, cell_below (by go_grown) d7, cell_below (by go_grown) d8, cell_below (by go_grown) d9, cell_below (by go_grown) d10⟩); done)
        clear hK K
        (try simp only [Act.put, List.setIfInBounds_toArray, List.set_cons_zero, List.set_cons_succ])
        refine wpAnyH_ready (rs := [16]) (by kernel_rfl) (by simp) ?_
        refine AllReadyH.cons (o := ⟨_, _, _, _, _, _⟩) rfl (fun K hK => ?_) AllReadyH.nil
        go_simp
        (try go_wp2_with fail)
        refine hK.out _ _ ?_ (fun hHeld => ?_)
        focus ((try dsimp only); (first | exact ⟨cell_below ((Below.refl w3.heap.size w3).drew) e1, cell_below ((Below.refl w3.heap.size w3).drew) d0, cell_below ((Below.refl w3.heap.size w3).drew) d1, cell_below ((Below.refl w3.heap.size w3).drew) d2, cell_below ((Below.refl w3.heap.size w3).drew) d3, cell_below ((Below.refl w3.heap.size w3).drew) d4, cell_below ((Below.refl w3.heap.size w3).drew) d5, cell_below ((Below.refl w3.heap.size w3).drew) d6, cell_below ((Below.refl w3.heap.size w3).drew) d7, cell_below ((Below.refl w3.heap.size w3).drew) d8, cell_below ((Below.refl w3.heap.size w3).drew) d9, cell_below ((Below.refl w3.heap.size w3).drew) d10⟩ | exact SK7.out | exact SK6.out | exact ⟨cell_below (by go_grown) e1, cell_below (by go_grown) d0, cell_below (by go_grown) d1, cell_below (by go_grown) d2, cell_below (by go_grown) d3, cell_below (by go_grown) d4, cell_below (by go_grown) d5, cell_below (by go_grown) d6, cell_below (by go_grown) d7, cell_below (by go_grown) d8, cell_below (by go_grown) d9, cell_below (by go_grown) d10⟩); done)
        clear hK K
        (try simp only [Act.put, List.setIfInBounds_toArray, List.set_cons_zero, List.set_cons_succ])
        refine wpAnyH_take (i := 18) (oi := ⟨_, _, _, _, _, _⟩) (v := ?_) rfl (by kernel_rfl) (by kernel_rfl) (by kernel_rfl) (fun _ _ _ h => h) (Or.inl ⟨by rfl, ?_⟩) (by assumption) ?_; rotate_left; (focus (intro w hSw; (try dsimp only at hSw); go_simp; (try with_reducible rfl); done)); simp only [Act.put, List.setIfInBounds_toArray, List.set_cons_zero, List.set_cons_succ]
        refine wpAnyH_ready (rs := [19]) (by kernel_rfl) (by simp) ?_
        refine AllReadyH.cons (o := ⟨_, _, _, _, _, _⟩) rfl (fun K hK => ?_) AllReadyH.nil
        go_simp
        (try go_wp2_with fail)
        refine hK.out _ _ ?_ (fun hHeld => ?_)
        focus ((try dsimp only); (first | exact ⟨cell_below ((Below.refl w3.heap.size w3).drew) e1, cell_below ((Below.refl w3.heap.size w3).drew) d0, cell_below ((Below.refl w3.heap.size w3).drew) d1, cell_below ((Below.refl w3.heap.size w3).drew) d2, cell_below ((Below.refl w3.heap.size w3).drew) d3, cell_below ((Below.refl w3.heap.size w3).drew) d4, cell_below ((Below.refl w3.heap.size w3).drew) d5, cell_below ((Below.refl w3.heap.size w3).drew) d6, cell_below ((Below.refl w3.heap.size w3).drew) d7, cell_below ((Below.refl w3.heap.size w3).drew) d8, cell_below ((Below.refl w3.heap.size w3).drew) d9, cell_below ((Below.refl w3.heap.size w3).drew) d10⟩ | exact SK7.out | exact SK6.out | exact ⟨cell_below (by go_grown) e1, cell_below (by go_grown) d0, cell_below (by go_grown) d1, cell_below (by go_grown) d2, cell_below (by go_grown) d3, cell_below (by go_grown) d4, cell_below (by go_grown) d5, cell_below (by go_grown) d6, cell_below (by go_grown) d7, cell_below (by go_grown) d8, cell_below (by go_grown) d9, cell_below (by go_grown) d10⟩); done)
        clear hK K
        (try simp only [Act.put, List.setIfInBounds_toArray, List.set_cons_zero, List.set_cons_succ])
        refine wpAnyH_ready (rs := [20]) (by kernel_rfl) (by simp) ?_
        refine AllReadyH.cons (o := ⟨_, _, _, _, _, _⟩) rfl (fun K hK => ?_) AllReadyH.nil
        refine wp_app16 (.tmp 87) (.tmp 102) rfl (.slice A1 es.length c1) es rfl HOE.out (w3.heap.size + 1) 1 (newF st i t g now, A2, c2, some ⟨w3.heap.size, 0, none⟩, 1) rfl HEL.out (by omega) ?_
        intro v6 w6 hO6 hg6 hv6
        have hl6 : (es ++ [((newF st i t g now, A2, c2, some ⟨w3.heap.size, 0, none⟩, 1) : FmE)]).length = es.length + 1 := by simp
        have HV6 := Lib.hid hv6
        have HG6 := Lib.hid hg6
        have HK6 := Lib.hid (show ∀ k, k < w3.heap.size → ¬ (Value.slice A1 es.length c1).ownBlock = some k → w6.heap[k]? = w3.heap[k]? from fun k hk hn => (hg6.block k (by have := HZE.out; omega) (fun e => hn e.symm)).trans (HWG.out.block k hk))
        have HGB6 := Lib.hid ((HK6.out G HGL.out (fun e => (HNO.out G e).2 rfl)).trans HP3.out.hG)
        have HXB6 := Lib.hid ((HK6.out w.heap.size HLX3.out (fun e => by have := (HNO.out _ e).1; omega)).trans HX3.out)
        have HTK6 := Lib.hid ((hg6.block w3.heap.size (by have := HZE.out; omega) (fun e => by have := (HNO.out _ e.symm).1; have := HLX3.out; omega)).trans HTK.out)
        have SK6 := Lib.hid (And.intro (cell_block HGB6.out 1) (cells11 HXB6.out))
        have e36 := cell_block HGB6.out 3
        simp only [List.getElem?_toArray, List.getElem?_cons_zero, List.getElem?_cons_succ] at e36
        have f36 : w6.frozen? ⟨G, 3, none⟩ = false := by have := HGB6.out; simp only [World.frozen?, this]; rfl
        obtain ⟨A6, c6, rfl⟩ := hO6.len
        rw [hl6] at hO6
        rw [hl6] at HV6
        rw [hl6]
        have HO6 := Lib.hid hO6
        clear hO6 hg6 hv6 hl6
        (try go_wp2_with fail)
        refine hK.out _ _ ?_ (fun hHeld => ?_)
        focus ((try dsimp only); (first | exact ⟨cell_below ((Below.refl w3.heap.size w3).drew) e1, cell_below ((Below.refl w3.heap.size w3).drew) d0, cell_below ((Below.refl w3.heap.size w3).drew) d1, cell_below ((Below.refl w3.heap.size w3).drew) d2, cell_below ((Below.refl w3.heap.size w3).drew) d3, cell_below ((Below.refl w3.heap.size w3).drew) d4, cell_below ((Below.refl w3.heap.size w3).drew) d5, cell_below ((Below.refl w3.heap.size w3).drew) d6, cell_below ((Below.refl w3.heap.size w3).drew) d7, cell_below ((Below.refl w3.heap.size w3).drew) d8, cell_below ((Below.refl w3.heap.size w3).drew) d9, cell_below ((Below.refl w3.heap.size w3).drew) d10⟩ | exact SK7.out | exact SK6.out | exact ⟨cell_below (by go_grown) e1, cell_below (by go_grown) d0, cell_below (by go_grown) d1, cell_below (by go_grown) d2, cell_below (by go_grown) d3, cell_below (by go_grown) d4, cell_below (by go_grown) d5, cell_below (by go_grown) d6, cell_below (by go_grown) d7, cell_below (by go_grown) d8, cell_below (by go_grown) d9, cell_below (by go_grown) d10⟩); done)
        clear hK K
        (try simp only [Act.put, List.setIfInBounds_toArray, List.set_cons_zero, List.set_cons_succ])
        refine wpAnyH_take (i := 21) (oi := ⟨_, _, _, _, _, _⟩) (v := ?_) rfl (by kernel_rfl) (by kernel_rfl) (by kernel_rfl) (fun _ _ _ h => h) (Or.inl ⟨by rfl, ?_⟩) (by assumption) ?_; rotate_left; (focus (intro w hSw; (try dsimp only at hSw); go_simp; (try with_reducible rfl); done)); simp only [Act.put, List.setIfInBounds_toArray, List.set_cons_zero, List.set_cons_succ]
        refine wpAnyH_take (i := 22) (oi := ⟨_, _, _, _, _, _⟩) (v := ?_) rfl (by kernel_rfl) (by kernel_rfl) (by kernel_rfl) (fun _ _ _ h => h) (Or.inl ⟨by rfl, ?_⟩) (by assumption) ?_; rotate_left; (focus (intro w hSw; (try dsimp only at hSw); go_simp; (try with_reducible rfl); done)); simp only [Act.put, List.setIfInBounds_toArray, List.set_cons_zero, List.set_cons_succ]
        refine wpAnyH_ready (rs := [23]) (by kernel_rfl) (by simp) ?_
        refine AllReadyH.cons (o := ⟨_, _, _, _, _, _⟩) rfl (fun K hK => ?_) AllReadyH.nil
        go_simp
        have HG7 := Lib.hid (heap_setCell_same w6 G 3 _ _ (.slice A6 (es.length + 1) c6) HGB6.out)
        have HX7 := Lib.hid ((Below.heap_setCell w6 ⟨G, 3, none⟩ (.slice A6 (es.length + 1) c6) w.heap.size (fun e => HGX.out e.symm)).trans HXB6.out)
        have SK7 := Lib.hid (And.intro (cell_block HG7.out 1) (cells11 HX7.out))
        (try go_wp2_with fail)
        refine hK.out _ _ ?_ (fun hHeld => ?_)
        focus ((try dsimp only); (first | exact ⟨cell_below ((Below.refl w3.heap.size w3).drew) e1, cell_below ((Below.refl w3.heap.size w3).drew) d0, cell_below ((Below.refl w3.heap.size w3).drew) d1, cell_below ((Below.refl w3.heap.size w3).drew) d2, cell_below ((Below.refl w3.heap.size w3).drew) d3, cell_below ((Below.refl w3.heap.size w3).drew) d4, cell_below ((Below.refl w3.heap.size w3).drew) d5, cell_below ((Below.refl w3.heap.size w3).drew) d6, cell_below ((Below.refl w3.heap.size w3).drew) d7, cell_below ((Below.refl w3.heap.size w3).drew) d8, cell_below ((Below.refl w3.heap.size w3).drew) d9, cell_below ((Below.refl w3.heap.size w3).drew) d10⟩ | exact SK7.out | exact SK6.out | exact ⟨cell_below (by go_grown) e1, cell_below (by go_grown) d0, cell_below (by go_grown) d1, cell_below (by go_grown) d2, cell_below (by go_grown) d3, cell_below (by go_grown) d4, cell_below (by go_grown) d5, cell_below (by go_grown) d6, cell_below (by go_grown) d7, cell_below (by go_grown) d8, cell_below (by go_grown) d9, cell_below (by go_grown) d10⟩); done)
        clear hK K
        (try simp only [Act.put, List.setIfInBounds_toArray, List.set_cons_zero, List.set_cons_succ])
        refine wpAnyH_done (by kernel_rfl) ?_ _
        go_wp2
        go_ret
        refine rstart_fin HR.out HE.out.lt HBB.out HLX3.out HLX.out HP3.out HO3.out (fun k hk hne hn => (Below.heap_setCell _ _ _ _ hne).trans (HK6.out k hk hn)) ((Below.heap_setCell w6 ⟨G, 3, none⟩ _ w3.heap.size (fun e => by have := HGL.out; simp only at e; omega)).trans HTK6.out) HG7.out (HO6.out.keep (fun g' hg' => Below.heap_setCell _ _ _ _ (fun e => ?_))) (by have := HV6.out; rw [HZE.out] at this; exact this) (by have := HG6.out.size; have := HZE.out; simp [World.setCell]; omega) HG6.out.os HG6.out.tape HG6.out.output (inv_start' HE.out.inv H0.out H1.out H6.out HSH.out H7.out H8.out q9)
        simp only at e
        subst e
        rcases HV6.out with e | e
        · rw [hg'] at e; exact (HNO.out _ e.symm).2 rfl
        · rw [hg'] at e; injection e with e; have := HGL.out; have := HZE.out; omega
      · go_simp
        (try go_wp2_with fail)
        refine hK.out _ _ ?_ (fun hHeld => ?_)
        focus ((try dsimp only); (first | exact ⟨cell_below ((Below.refl w3.heap.size w3).drew) e1, cell_below ((Below.refl w3.heap.size w3).drew) d0, cell_below ((Below.refl w3.heap.size w3).drew) d1, cell_below ((Below.refl w3.heap.size w3).drew) d2, cell_below ((Below.refl w3.heap.size w3).drew) d3, cell_below ((Below.refl w3.heap.size w3).drew) d4, cell_below ((Below.refl w3.heap.size w3).drew) d5, cell_below ((Below.refl w3.heap.size w3).drew) d6, cell_below ((Below.refl w3.heap.size w3).drew) d7, cell_below ((Below.refl w3.heap.size w3).drew) d8, cell_below ((Below.refl w3.heap.size w3).drew) d9, cell_below ((Below.refl w3.heap.size w3).drew) d10⟩ | exact SK7.out | exact SK6.out | exact ⟨cell_below (by go_grown) e1, cell_below (by go_grown) d0, cell_below (by go_grown) d1, cell_below (by go_grown) d2, cell_below (by go_grown) d3, cell_below (by go_grown) d4, cell_below (by go_grown) d5, cell_below (by go_grown) d6, cell_below (by go_grown) d7, cell_below (by go_grown) d8, cell_below (by go_grown) d9, cell_below (by go_grown) d10⟩); done)
        clear hK K
        (try simp only [Act.put, List.setIfInBounds_toArray, List.set_cons_zero, List.set_cons_succ])
        refine wpAnyH_ready (rs := [8]) (by kernel_rfl) (by simp) ?_
        refine AllReadyH.cons (o := ⟨_, _, _, _, _, _⟩) rfl (fun K hK => ?_) AllReadyH.nil
        go_simp
        (try go_wp2_with fail)
        refine hK.out _ _ ?_ (fun hHeld => ?_)
        focus ((try dsimp only); (first | exact ⟨cell_below ((Below.refl w3.heap.size w3).drew) e1, cell_below ((Below.refl w3.heap.size w3).drew) d0, cell_below ((Below.refl w3.heap.size w3).drew) d1, cell_below ((Below.refl w3.heap.size w3).drew) d2, cell_below ((Below.refl w3.heap.size w3).drew) d3, cell_below ((Below.refl w3.heap.size w3).drew) d4, cell_below ((Below.refl w3.heap.size w3).drew) d5, cell_below ((Below.refl w3.heap.size w3).drew) d6, cell_below ((Below.refl w3.heap.size w3).drew) d7, cell_below ((Below.refl w3.heap.size w3).drew) d8, cell_below ((Below.refl w3.heap.size w3).drew) d9, cell_below ((Below.refl w3.heap.size w3).drew) d10⟩ | exact SK7.out | exact SK6.out | exact ⟨cell_below (by go_grown) e1, cell_below (by go_grown) d0, cell_below (by go_grown) d1, cell_below (by go_grown) d2, cell_below (by go_grown) d3, cell_below (by go_grown) d4, cell_below (by go_grown) d5, cell_below (by go_grown) d6, cell_below (by go_grown) d7, cell_below (by go_grown) d8, cell_below (by go_grown) d9, cell_below (by go_grown) d10⟩); done)
        clear hK K
        (try simp only [Act.put, List.setIfInBounds_toArray, List.set_cons_zero, List.set_cons_succ])
        refine wpAnyH_take (i := 18) (oi := ⟨_, _, _, _, _, _⟩) (v := ?_) rfl (by kernel_rfl) (by kernel_rfl) (by kernel_rfl) (fun _ _ _ h => h) (Or.inl ⟨by rfl, ?_⟩) (by assumption) ?_; rotate_left; (focus (intro w hSw; (try dsimp only at hSw); go_simp; (try with_reducible rfl); done)); simp only [Act.put, List.setIfInBounds_toArray, List.set_cons_zero, List.set_cons_succ]
        refine wpAnyH_ready (rs := [19]) (by kernel_rfl) (by simp) ?_
        refine AllReadyH.cons (o := ⟨_, _, _, _, _, _⟩) rfl (fun K hK => ?_) AllReadyH.nil
        go_simp
        (try go_wp2_with fail)
        refine hK.out _ _ ?_ (fun hHeld => ?_)
        focus ((try dsimp only); (first | exact ⟨cell_below ((Below.refl w3.heap.size w3).drew) e1, cell_below ((Below.refl w3.heap.size w3).drew) d0, cell_below ((Below.refl w3.heap.size w3).drew) d1, cell_below ((Below.refl w3.heap.size w3).drew) d2, cell_below ((Below.refl w3.heap.size w3).drew) d3, cell_below ((Below.refl w3.heap.size w3).drew) d4, cell_below ((Below.refl w3.heap.size w3).drew) d5, cell_below ((Below.refl w3.heap.size w3).drew) d6, cell_below ((Below.refl w3.heap.size w3).drew) d7, cell_below ((Below.refl w3.heap.size w3).drew) d8, cell_below ((Below.refl w3.heap.size w3).drew) d9, cell_below ((Below.refl w3.heap.size w3).drew) d10⟩ | exact SK7.out | exact SK6.out | exact ⟨cell_below (by go_grown) e1, cell_below (by go_grown) d0, cell_below (by go_grown) d1, cell_below (by go_grown) d2, cell_below (by go_grown) d3, cell_below (by go_grown) d4, cell_below (by go_grown) d5, cell_below (by go_grown) d6, cell_below (by go_grown) d7, cell_below (by go_grown) d8, cell_below (by go_grown) d9, cell_below (by go_grown) d10⟩); done)
        clear hK K
        (try simp only [Act.put, List.setIfInBounds_toArray, List.set_cons_zero, List.set_cons_succ])
        refine wpAnyH_ready (rs := [20]) (by kernel_rfl) (by simp) ?_
        refine AllReadyH.cons (o := ⟨_, _, _, _, _, _⟩) rfl (fun K hK => ?_) AllReadyH.nil
        refine wp_app16 (.tmp 87) (.tmp 102) rfl (.slice A1 es.length c1) es rfl HOE.out (w3.heap.size + 1) 1 (newF st i t g now, A2, c2, some ⟨w3.heap.size, 0, none⟩, 1) rfl HEL.out (by omega) ?_
        intro v6 w6 hO6 hg6 hv6
        have hl6 : (es ++ [((newF st i t g now, A2, c2, some ⟨w3.heap.size, 0, none⟩, 1) : FmE)]).length = es.length + 1 := by simp
        have HV6 := Lib.hid hv6
        have HG6 := Lib.hid hg6
        have HK6 := Lib.hid (show ∀ k, k < w3.heap.size → ¬ (Value.slice A1 es.length c1).ownBlock = some k → w6.heap[k]? = w3.heap[k]? from fun k hk hn => (hg6.block k (by have := HZE.out; omega) (fun e => hn e.symm)).trans (HWG.out.block k hk))
        have HGB6 := Lib.hid ((HK6.out G HGL.out (fun e => (HNO.out G e).2 rfl)).trans HP3.out.hG)
        have HXB6 := Lib.hid ((HK6.out w.heap.size HLX3.out (fun e => by have := (HNO.out _ e).1; omega)).trans HX3.out)
        have HTK6 := Lib.hid ((hg6.block w3.heap.size (by have := HZE.out; omega) (fun e => by have := (HNO.out _ e.symm).1; have := HLX3.out; omega)).trans HTK.out)
        have SK6 := Lib.hid (And.intro (cell_block HGB6.out 1) (cells11 HXB6.out))
        have e36 := cell_block HGB6.out 3
        simp only [List.getElem?_toArray, List.getElem?_cons_zero, List.getElem?_cons_succ] at e36
        have f36 : w6.frozen? ⟨G, 3, none⟩ = false := by have := HGB6.out; simp only [World.frozen?, this]; rfl
        obtain ⟨A6, c6, rfl⟩ := hO6.len
        rw [hl6] at hO6
        rw [hl6] at HV6
        rw [hl6]
        have HO6 := Lib.hid hO6
        clear hO6 hg6 hv6 hl6
        (try go_wp2_with fail)
        refine hK.out _ _ ?_ (fun hHeld => ?_)
        focus ((try dsimp only); (first | exact ⟨cell_below ((Below.refl w3.heap.size w3).drew) e1, cell_below ((Below.refl w3.heap.size w3).drew) d0, cell_below ((Below.refl w3.heap.size w3).drew) d1, cell_below ((Below.refl w3.heap.size w3).drew) d2, cell_below ((Below.refl w3.heap.size w3).drew) d3, cell_below ((Below.refl w3.heap.size w3).drew) d4, cell_below ((Below.refl w3.heap.size w3).drew) d5, cell_below ((Below.refl w3.heap.size w3).drew) d6, cell_below ((Below.refl w3.heap.size w3).drew) d7, cell_below ((Below.refl w3.heap.size w3).drew) d8, cell_below ((Below.refl w3.heap.size w3).drew) d9, cell_below ((Below.refl w3.heap.size w3).drew) d10⟩ | exact SK7.out | exact SK6.out | exact ⟨cell_below (by go_grown) e1, cell_below (by go_grown) d0, cell_below (by go_grown) d1, cell_below (by go_grown) d2, cell_below (by go_grown) d3, cell_below (by go_grown) d4, cell_below (by go_grown) d5, cell_below (by go_grown) d6, cell_below (by go_grown) d7, cell_below (by go_grown) d8, cell_below (by go_grown) d9, cell_below (by go_grown) d10⟩); done)
        clear hK K
        (try simp only [Act.put, List.setIfInBounds_toArray, List.set_cons_zero, List.set_cons_succ])
        refine wpAnyH_take (i := 21) (oi := ⟨_, _, _, _, _, _⟩) (v := ?_) rfl (by kernel_rfl) (by kernel_rfl) (by kernel_rfl) (fun _ _ _ h => h) (Or.inl ⟨by rfl, ?_⟩) (by assumption) ?_; rotate_left; (focus (intro w hSw; (try dsimp only at hSw); go_simp; (try with_reducible rfl); done)); simp only [Act.put, List.setIfInBounds_toArray, List.set_cons_zero, List.set_cons_succ]
        refine wpAnyH_take (i := 22) (oi := ⟨_, _, _, _, _, _⟩) (v := ?_) rfl (by kernel_rfl) (by kernel_rfl) (by kernel_rfl) (fun _ _ _ h => h) (Or.inl ⟨by rfl, ?_⟩) (by assumption) ?_; rotate_left; (focus (intro w hSw; (try dsimp only at hSw); go_simp; (try with_reducible rfl); done)); simp only [Act.put, List.setIfInBounds_toArray, List.set_cons_zero, List.set_cons_succ]
        refine wpAnyH_ready (rs := [23]) (by kernel_rfl) (by simp) ?_
        refine AllReadyH.cons (o := ⟨_, _, _, _, _, _⟩) rfl (fun K hK => ?_) AllReadyH.nil
        go_simp
        have HG7 := Lib.hid (heap_setCell_same w6 G 3 _ _ (.slice A6 (es.length + 1) c6) HGB6.out)
        have HX7 := Lib.hid ((Below.heap_setCell w6 ⟨G, 3, none⟩ (.slice A6 (es.length + 1) c6) w.heap.size (fun e => HGX.out e.symm)).trans HXB6.out)
        have SK7 := Lib.hid (And.intro (cell_block HG7.out 1) (cells11 HX7.out))
        (try go_wp2_with fail)
        refine hK.out _ _ ?_ (fun hHeld => ?_)
        focus ((try dsimp only); (first | exact ⟨cell_below ((Below.refl w3.heap.size w3).drew) e1, cell_below ((Below.refl w3.heap.size w3).drew) d0, cell_below ((Below.refl w3.heap.size w3).drew) d1, cell_below ((Below.refl w3.heap.size w3).drew) d2, cell_below ((Below.refl w3.heap.size w3).drew) d3, cell_below ((Below.refl w3.heap.size w3).drew) d4, cell_below ((Below.refl w3.heap.size w3).drew) d5, cell_below ((Below.refl w3.heap.size w3).drew) d6, cell_below ((Below.refl w3.heap.size w3).drew) d7, cell_below ((Below.refl w3.heap.size w3).drew) d8, cell_below ((Below.refl w3.heap.size w3).drew) d9, cell_below ((Below.refl w3.heap.size w3).drew) d10⟩ | exact SK7.out | exact SK6.out | exact ⟨cell_below (by go_grown) e1, cell_below (by go_grown) d0, cell_below (by go_grown) d1, cell_below (by go_grown) d2, cell_below (by go_grown) d3, cell_below (by go_grown) d4, cell_below (by go_grown) d5, cell_below (by go_grown) d6, cell_below (by go_grown) d7, cell_below (by go_grown) d8, cell_below (by go_grown) d9, cell_below (by go_grown) d10⟩); done)
        clear hK K
        (try simp only [Act.put, List.setIfInBounds_toArray, List.set_cons_zero, List.set_cons_succ])
        refine wpAnyH_done (by kernel_rfl) ?_ _
        go_wp2
        go_ret
        refine rstart_fin HR.out HE.out.lt HBB.out HLX3.out HLX.out HP3.out HO3.out (fun k hk hne hn => (Below.heap_setCell _ _ _ _ hne).trans (HK6.out k hk hn)) ((Below.heap_setCell w6 ⟨G, 3, none⟩ _ w3.heap.size (fun e => by have := HGL.out; simp only at e; omega)).trans HTK6.out) HG7.out (HO6.out.keep (fun g' hg' => Below.heap_setCell _ _ _ _ (fun e => ?_))) (by have := HV6.out; rw [HZE.out] at this; exact this) (by have := HG6.out.size; have := HZE.out; simp [World.setCell]; omega) HG6.out.os HG6.out.tape HG6.out.output (inv_start' HE.out.inv H0.out H1.out H6.out HSH.out H7.out H8.out q9)
        simp only at e
        subst e
        rcases HV6.out with e | e
        · rw [hg'] at e; exact (HNO.out _ e.symm).2 rfl
        · rw [hg'] at e; injection e with e; have := HGL.out; have := HZE.out; omega
  · go_simp
    (try go_wp2_with fail)
    refine hK.out _ _ ?_ (fun hHeld => ?_)
    focus ((try dsimp only); (first | exact ⟨cell_below ((Below.refl w3.heap.size w3).drew) e1, cell_below ((Below.refl w3.heap.size w3).drew) d0, cell_below ((Below.refl w3.heap.size w3).drew) d1, cell_below ((Below.refl w3.heap.size w3).drew) d2, cell_below ((Below.refl w3.heap.size w3).drew) d3, cell_below ((Below.refl w3.heap.size w3).drew) d4, cell_below ((Below.refl w3.heap.size w3).drew) d5, cell_below ((Below.refl w3.heap.size w3).drew) d6, cell_below ((Below.refl w3.heap.size w3).drew) d7, cell_below ((Below.refl w3.heap.size w3).drew) d8, cell_below ((Below.refl w3.heap.size w3).drew) d9, cell_below ((Below.refl w3.heap.size w3).drew) d10⟩ | exact SK7.out | exact SK6.out | exact ⟨cell_below (by go_grown) e1, cell_below (by go_grown) d0, cell_below (by go_grown) d1, cell_below (by go_grown) d2, cell_below (by go_grown) d3, cell_below (by go_grown) d4, cell_below (by go_grown) d5, cell_below (by go_grown) d6, cell_below (by go_grown) d7, cell_below (by go_grown) d8, cell_below (by go_grown) d9, cell_below (by go_grown) d10⟩); done)
    clear hK K
    (try simp only [Act.put, List.setIfInBounds_toArray, List.set_cons_zero, List.set_cons_succ])
    refine wpAnyH_ready (rs := [4, 14]) (by kernel_rfl) (by simp) ?_
    refine AllReadyH.cons (o := ⟨_, _, _, _, _, _⟩) rfl (fun K hK => ?_) (AllReadyH.cons (o := ⟨_, _, _, _, _, _⟩) rfl (fun K hK => ?_) AllReadyH.nil)
    · go_simp
      (try go_wp2_with fail)
      refine hK.out _ _ ?_ (fun hHeld => ?_)
      focus ((try dsimp only); (first | exact ⟨cell_below ((Below.refl w3.heap.size w3).drew) e1, cell_below ((Below.refl w3.heap.size w3).drew) d0, cell_below ((Below.refl w3.heap.size w3).drew) d1, cell_below ((Below.refl w3.heap.size w3).drew) d2, cell_below ((Below.refl w3.heap.size w3).drew) d3, cell_below ((Below.refl w3.heap.size w3).drew) d4, cell_below ((Below.refl w3.heap.size w3).drew) d5, cell_below ((Below.refl w3.heap.size w3).drew) d6, cell_below ((Below.refl w3.heap.size w3).drew) d7, cell_below ((Below.refl w3.heap.size w3).drew) d8, cell_below ((Below.refl w3.heap.size w3).drew) d9, cell_below ((Below.refl w3.heap.size w3).drew) d10⟩ | exact SK7.out | exact SK6.out | exact ⟨cell_below (by go_grown) e1, cell_below (by go_grown) d0, cell_below (by go_grown) d1, cell_below (by go_grown) d2, cell_below (by go_grown) d3, cell_below (by go_grown) d4, cell_below (by go_grown) d5, cell_below (by go_grown) d6, cell_below (by go_grown) d7, cell_below (by go_grown) d8, cell_below (by go_grown) d9, cell_below (by go_grown) d10⟩); done)
      clear hK K
      (try simp only [Act.put, List.setIfInBounds_toArray, List.set_cons_zero, List.set_cons_succ])
      refine wpAnyH_ready (rs := [14]) (by kernel_rfl) (by simp) ?_
      refine AllReadyH.cons (o := ⟨_, _, _, _, _, _⟩) rfl (fun K hK => ?_) AllReadyH.nil
      go_simp
      go_wp2_with fail
      refine (radd_any (limI now) st.life _).mono ?_
      rintro e wn ⟨rfl, rfl⟩
      rw [addC_l]
      (try go_wp2_with fail)
      refine hK.out _ _ ?_ (fun hHeld => ?_)
      focus ((try dsimp only); (first | exact ⟨cell_below ((Below.refl w3.heap.size w3).drew) e1, cell_below ((Below.refl w3.heap.size w3).drew) d0, cell_below ((Below.refl w3.heap.size w3).drew) d1, cell_below ((Below.refl w3.heap.size w3).drew) d2, cell_below ((Below.refl w3.heap.size w3).drew) d3, cell_below ((Below.refl w3.heap.size w3).drew) d4, cell_below ((Below.refl w3.heap.size w3).drew) d5, cell_below ((Below.refl w3.heap.size w3).drew) d6, cell_below ((Below.refl w3.heap.size w3).drew) d7, cell_below ((Below.refl w3.heap.size w3).drew) d8, cell_below ((Below.refl w3.heap.size w3).drew) d9, cell_below ((Below.refl w3.heap.size w3).drew) d10⟩ | exact SK7.out | exact SK6.out | exact ⟨cell_below (by go_grown) e1, cell_below (by go_grown) d0, cell_below (by go_grown) d1, cell_below (by go_grown) d2, cell_below (by go_grown) d3, cell_below (by go_grown) d4, cell_below (by go_grown) d5, cell_below (by go_grown) d6, cell_below (by go_grown) d7, cell_below (by go_grown) d8, cell_below (by go_grown) d9, cell_below (by go_grown) d10⟩); done)
      clear hK K
      (try simp only [Act.put, List.setIfInBounds_toArray, List.set_cons_zero, List.set_cons_succ])
      refine wpAnyH_ready (rs := [16]) (by kernel_rfl) (by simp) ?_
      refine AllReadyH.cons (o := ⟨_, _, _, _, _, _⟩) rfl (fun K hK => ?_) AllReadyH.nil
      go_simp
      (try go_wp2_with fail)
      refine hK.out _ _ ?_ (fun hHeld => ?_)
      focus ((try dsimp only); (first | exact ⟨cell_below ((Below.refl w3.heap.size w3).drew) e1, cell_below ((Below.refl w3.heap.size w3).drew) d0, cell_below ((Below.refl w3.heap.size w3).drew) d1, cell_below ((Below.refl w3.heap.size w3).drew) d2, cell_below ((Below.refl w3.heap.size w3).drew) d3, cell_below ((Below.refl w3.heap.size w3).drew) d4, cell_below ((Below.refl w3.heap.size w3).drew) d5, cell_below ((Below.refl w3.heap.size w3).drew) d6, cell_below ((Below.refl w3.heap.size w3).drew) d7, cell_below ((Below.refl w3.heap.size w3).drew) d8, cell_below ((Below.refl w3.heap.size w3).drew) d9, cell_below ((Below.refl w3.heap.size w3).drew) d10⟩ | exact SK7.out | exact SK6.out | exact ⟨cell_below (by go_grown) e1, cell_below (by go_grown) d0, cell_below (by go_grown) d1, cell_below (by go_grown) d2, cell_below (by go_grown) d3, cell_below (by go_grown) d4, cell_below (by go_grown) d5, cell_below (by go_grown) d6, cell_below (by go_grown) d7, cell_below (by go_grown) d8, cell_below (by go_grown) d9, cell_below (by go_grown) d10⟩); done)
      clear hK K
      (try simp only [Act.put, List.setIfInBounds_toArray, List.set_cons_zero, List.set_cons_succ])
      refine wpAnyH_take (i := 18) (oi := ⟨_, _, _, _, _, _⟩) (v := ?_) rfl (by kernel_rfl) (by kernel_rfl) (by kernel_rfl) (fun _ _ _ h => h) (Or.inl ⟨by rfl, ?_⟩) (by assumption) ?_; rotate_left; (focus (intro w hSw; (try dsimp only at hSw); go_simp; (try with_reducible rfl); done)); simp only [Act.put, List.setIfInBounds_toArray, List.set_cons_zero, List.set_cons_succ]
      refine wpAnyH_ready (rs := [19]) (by kernel_rfl) (by simp) ?_
      refine AllReadyH.cons (o := ⟨_, _, _, _, _, _⟩) rfl (fun K hK => ?_) AllReadyH.nil
      go_simp
      (try go_wp2_with fail)
      refine hK.out _ _ ?_ (fun hHeld => ?_)
      focus ((try dsimp only); (first | exact ⟨cell_below ((Below.refl w3.heap.size w3).drew) e1, cell_below ((Below.refl w3.heap.size w3).drew) d0, cell_below ((Below.refl w3.heap.size w3).drew) d1, cell_below ((Below.refl w3.heap.size w3).drew) d2, cell_below ((Below.refl w3.heap.size w3).drew) d3, cell_below ((Below.refl w3.heap.size w3).drew) d4, cell_below ((Below.refl w3.heap.size w3).drew) d5, cell_below ((Below.refl w3.heap.size w3).drew) d6, cell_below ((Below.refl w3.heap.size w3).drew) d7, cell_below ((Below.refl w3.heap.size w3).drew) d8, cell_below ((Below.refl w3.heap.size w3).drew) d9, cell_below ((Below.refl w3.heap.size w3).drew) d10⟩ | exact SK7.out | exact SK6.out | exact ⟨cell_below (by go_grown) e1, cell_below (by go_grown) d0, cell_below (by go_grown) d1, cell_below (by go_grown) d2, cell_below (by go_grown) d3, cell_below (by go_grown) d4, cell_below (by go_grown) d5, cell_below (by go_grown) d6, cell_below (by go_grown) d7, cell_below (by go_grown) d8, cell_below (by go_grown) d9, cell_below (by go_grown) d10⟩); done)
      clear hK K
      (try simp only [Act.put, List.setIfInBounds_toArray, List.set_cons_zero, List.set_cons_succ])
      refine wpAnyH_ready (rs := [20]) (by kernel_rfl) (by simp) ?_
      refine AllReadyH.cons (o := ⟨_, _, _, _, _, _⟩) rfl (fun K hK => ?_) AllReadyH.nil
      refine wp_app16 (.tmp 87) (.tmp 102) rfl (.slice A1 es.length c1) es rfl HOE.out (w3.heap.size + 1) 1 (newF st i t g now, A2, c2, some ⟨w3.heap.size, 0, none⟩, 1) rfl HEL.out (by omega) ?_
      intro v6 w6 hO6 hg6 hv6
      have hl6 : (es ++ [((newF st i t g now, A2, c2, some ⟨w3.heap.size, 0, none⟩, 1) : FmE)]).length = es.length + 1 := by simp
      have HV6 := Lib.hid hv6
      have HG6 := Lib.hid hg6
      have HK6 := Lib.hid (show ∀ k, k < w3.heap.size → ¬ (Value.slice A1 es.length c1).ownBlock = some k → w6.heap[k]? = w3.heap[k]? from fun k hk hn => (hg6.block k (by have := HZE.out; omega) (fun e => hn e.symm)).trans (HWG.out.block k hk))
      have HGB6 := Lib.hid ((HK6.out G HGL.out (fun e => (HNO.out G e).2 rfl)).trans HP3.out.hG)
      have HXB6 := Lib.hid ((HK6.out w.heap.size HLX3.out (fun e => by have := (HNO.out _ e).1; omega)).trans HX3.out)
      have HTK6 := Lib.hid ((hg6.block w3.heap.size (by have := HZE.out; omega) (fun e => by have := (HNO.out _ e.symm).1; have := HLX3.out; omega)).trans HTK.out)
      have SK6 := Lib.hid (And.intro (cell_block HGB6.out 1) (cells11 HXB6.out))
      have e36 := cell_block HGB6.out 3
      simp only [List.getElem?_toArray, List.getElem?_cons_zero, List.getElem?_cons_succ] at e36
      have f36 : w6.frozen? ⟨G, 3, none⟩ = false := by have := HGB6.out; simp only [World.frozen?, this]; rfl
      obtain ⟨A6, c6, rfl⟩ := hO6.len
      rw [hl6] at hO6
      rw [hl6] at HV6
      rw [hl6]
      have HO6 := Lib.hid hO6
      clear hO6 hg6 hv6 hl6
      (try go_wp2_with fail)
      refine hK.out _ _ ?_ (fun hHeld => ?_)
      focus ((try dsimp only); (first | exact ⟨cell_below ((Below.refl w3.heap.size w3).drew) e1, cell_below ((Below.refl w3.heap.size w3).drew) d0, cell_below ((Below.refl w3.heap.size w3).drew) d1, cell_below ((Below.refl w3.heap.size w3).drew) d2, cell_below ((Below.refl w3.heap.size w3).drew) d3, cell_below ((Below.refl w3.heap.size w3).drew) d4, cell_below ((Below.refl w3.heap.size w3).drew) d5, cell_below ((Below.refl w3.heap.size w3).drew) d6, cell_below ((Below.refl w3.heap.size w3).drew) d7, cell_below ((Below.refl w3.heap.size w3).drew) d8, cell_below ((Below.refl w3.heap.size w3).drew) d9, cell_below ((Below.refl w3.heap.size w3).drew) d10⟩ | exact SK7.out | exact SK6.out | exact ⟨cell_below (by go_grown) e1, cell_below (by go_grown) d0, cell_below (by go_grown) d1, cell_below (by go_grown) d2, cell_below (by go_grown) d3, cell_below (by go_grown) d4, cell_below (by go_grown) d5, cell_below (by go_grown) d6, cell_below (by go_grown) d7, cell_below (by go_grown) d8, cell_below (by go_grown) d9, cell_below (by go_grown) d10⟩); done)
      clear hK K
      (try simp only [Act.put, List.setIfInBounds_toArray, List.set_cons_zero, List.set_cons_succ])
      refine wpAnyH_take (i := 21) (oi := ⟨_, _, _, _, _, _⟩) (v := ?_) rfl (by kernel_rfl) (by kernel_rfl) (by kernel_rfl) (fun _ _ _ h => h) (Or.inl ⟨by rfl, ?_⟩) (by assumption) ?_; rotate_left; (focus (intro w hSw; (try dsimp only at hSw); go_simp; (try with_reducible rfl); done)); simp only [Act.put, List.setIfInBounds_toArray, List.set_cons_zero, List.set_cons_succ]
      refine wpAnyH_take (i := 22) (oi := ⟨_, _, _, _, _, _⟩) (v := ?_) rfl (by kernel_rfl) (by kernel_rfl) (by kernel_rfl) (fun _ _ _ h => h) (Or.inl ⟨by rfl, ?_⟩) (by assumption) ?_; rotate_left; (focus (intro w hSw; (try dsimp only at hSw); go_simp; (try with_reducible rfl); done)); simp only [Act.put, List.setIfInBounds_toArray, List.set_cons_zero, List.set_cons_succ]
      refine wpAnyH_ready (rs := [23]) (by kernel_rfl) (by simp) ?_
      refine AllReadyH.cons (o := ⟨_, _, _, _, _, _⟩) rfl (fun K hK => ?_) AllReadyH.nil
      go_simp
      have HG7 := Lib.hid (heap_setCell_same w6 G 3 _ _ (.slice A6 (es.length + 1) c6) HGB6.out)
      have HX7 := Lib.hid ((Below.heap_setCell w6 ⟨G, 3, none⟩ (.slice A6 (es.length + 1) c6) w.heap.size (fun e => HGX.out e.symm)).trans HXB6.out)
      have SK7 := Lib.hid (And.intro (cell_block HG7.out 1) (cells11 HX7.out))
      (try go_wp2_with fail)
      refine hK.out _ _ ?_ (fun hHeld => ?_)
      focus ((try dsimp only); (first | exact ⟨cell_below ((Below.refl w3.heap.size w3).drew) e1, cell_below ((Below.refl w3.heap.size w3).drew) d0, cell_below ((Below.refl w3.heap.size w3).drew) d1, cell_below ((Below.refl w3.heap.size w3).drew) d2, cell_below ((Below.refl w3.heap.size w3).drew) d3, cell_below ((Below.refl w3.heap.size w3).drew) d4, cell_below ((Below.refl w3.heap.size w3).drew) d5, cell_below ((Below.refl w3.heap.size w3).drew) d6, cell_below ((Below.refl w3.heap.size w3).drew) d7, cell_below ((Below.refl w3.heap.size w3).drew) d8, cell_below ((Below.refl w3.heap.size w3).drew) d9, cell_below ((Below.refl w3.heap.size w3).drew) d10⟩ | exact SK7.out | exact SK6.out | exact ⟨cell_below (by go_grown) e1, cell_below (by go_grown) d0, cell_below (by go_grown) d1, cell_below (by go_grown) d2, cell_below (by go_grown) d3, cell_below (by go_grown) d4, cell_below (by go_grown) d5, cell_below (by go_grown) d6, cell_below (by go_grown) d7, cell_below (by go_grown) d8, cell_below (by go_grown) d9, cell_below (by go_grown) d10⟩); done)
      clear hK K
      (try simp only [Act.put, List.setIfInBounds_toArray, List.set_cons_zero, List.set_cons_succ])
      refine wpAnyH_done (by kernel_rfl) ?_ _
      go_wp2
      go_ret
      refine rstart_fin HR.out HE.out.lt HBB.out HLX3.out HLX.out HP3.out HO3.out (fun k hk hne hn => (Below.heap_setCell _ _ _ _ hne).trans (HK6.out k hk hn)) ((Below.heap_setCell w6 ⟨G, 3, none⟩ _ w3.heap.size (fun e => by have := HGL.out; simp only at e; omega)).trans HTK6.out) HG7.out (HO6.out.keep (fun g' hg' => Below.heap_setCell _ _ _ _ (fun e => ?_))) (by have := HV6.out; rw [HZE.out] at this; exact this) (by have := HG6.out.size; have := HZE.out; simp [World.setCell]; omega) HG6.out.os HG6.out.tape HG6.out.output (inv_start' HE.out.inv H0.out H1.out H6.out HSH.out H7.out H8.out q9)
      simp only at e
      subst e
      rcases HV6.out with e | e
      · rw [hg'] at e; exact (HNO.out _ e.symm).2 rfl
      · rw [hg'] at e; injection e with e; have := HGL.out; have := HZE.out; omega
    · go_simp
      go_wp2_with fail
      refine (radd_any (limI now) st.life _).mono ?_
      rintro e wn ⟨rfl, rfl⟩
      rw [addC_l]
      (try go_wp2_with fail)
      refine hK.out _ _ ?_ (fun hHeld => ?_)
      focus ((try dsimp only); (first | exact ⟨cell_below ((Below.refl w3.heap.size w3).drew) e1, cell_below ((Below.refl w3.heap.size w3).drew) d0, cell_below ((Below.refl w3.heap.size w3).drew) d1, cell_below ((Below.refl w3.heap.size w3).drew) d2, cell_below ((Below.refl w3.heap.size w3).drew) d3, cell_below ((Below.refl w3.heap.size w3).drew) d4, cell_below ((Below.refl w3.heap.size w3).drew) d5, cell_below ((Below.refl w3.heap.size w3).drew) d6, cell_below ((Below.refl w3.heap.size w3).drew) d7, cell_below ((Below.refl w3.heap.size w3).drew) d8, cell_below ((Below.refl w3.heap.size w3).drew) d9, cell_below ((Below.refl w3.heap.size w3).drew) d10⟩ | exact SK7.out | exact SK6.out | exact ⟨cell_below (by go_grown) e1, cell_below (by go_grown) d0, cell_below (by go_grown) d1, cell_below (by go_grown) d2, cell_below (by go_grown) d3, cell_below (by go_grown) d4, cell_below (by go_grown) d5, cell_below (by go_grown) d6, cell_below (by go_grown) d7, cell_below (by go_grown) d8, cell_below (by go_grown) d9, cell_below (by go_grown) d10⟩); done)
      clear hK K
      (try simp only [Act.put, List.setIfInBounds_toArray, List.set_cons_zero, List.set_cons_succ])
      refine wpAnyH_ready (rs := [4, 16]) (by kernel_rfl) (by simp) ?_
      refine AllReadyH.cons (o := ⟨_, _, _, _, _, _⟩) rfl (fun K hK => ?_) (AllReadyH.cons (o := ⟨_, _, _, _, _, _⟩) rfl (fun K hK => ?_) AllReadyH.nil)
      · go_simp
        (try go_wp2_with fail)
        refine hK.out _ _ ?_ (fun hHeld => ?_)
        focus ((try dsimp only); (first | exact ⟨cell_below ((Below.refl w3.heap.size w3).drew) e1, cell_below ((Below.refl w3.heap.size w3).drew) d0, cell_below ((Below.refl w3.heap.size w3).drew) d1, cell_below ((Below.refl w3.heap.size w3).drew) d2, cell_below ((Below.refl w3.heap.size w3).drew) d3, cell_below ((Below.refl w3.heap.size w3).drew) d4, cell_below ((Below.refl w3.heap.size w3).drew) d5, cell_below ((Below.refl w3.heap.size w3).drew) d6, cell_below ((Below.refl w3.heap.size w3).drew) d7, cell_below ((Below.refl w3.heap.size w3).drew) d8, cell_below ((Below.refl w3.heap.size w3).drew) d9, cell_below ((Below.refl w3.heap.size w3).drew) d10⟩ | exact SK7.out | exact SK6.out | exact ⟨cell_below (by go_grown) e1, cell_below (by go_grown) d0, cell_below (by go_grown) d1, cell_below (by go_grown) d2, cell_below (by go_grown) d3, cell_below (by go_grown) d4, cell_below (by go_grown) d5, cell_below (by go_grown) d6, cell_below (by go_grown) d7, cell_below (by go_grown) d8, cell_below (by go_grown) d9, cell_below (by go_grown) d10⟩); done)
        clear hK K
        (try simp only [Act.put, List.setIfInBounds_toArray, List.set_cons_zero, List.set_cons_succ])
        refine wpAnyH_ready (rs := [16]) (by kernel_rfl) (by simp) ?_
        refine AllReadyH.cons (o := ⟨_, _, _, _, _, _⟩) rfl (fun K hK => ?_) AllReadyH.nil
        go_simp
        (try go_wp2_with fail)
        refine hK.out _ _ ?_ (fun hHeld => ?_)
        focus ((try dsimp only); (first | exact ⟨cell_below ((Below.refl w3.heap.size w3).drew) e1, cell_below ((Below.refl w3.heap.size w3).drew) d0, cell_below ((Below.refl w3.heap.size w3).drew) d1, cell_below ((Below.refl w3.heap.size w3).drew) d2, cell_below ((Below.refl w3.heap.size w3).drew) d3, cell_below ((Below.refl w3.heap.size w3).drew) d4, cell_below ((Below.refl w3.heap.size w3).drew) d5, cell_below ((Below.refl w3.heap.size w3).drew) d6, cell_below ((Below.refl w3.heap.size w3).drew) d7, cell_below ((Below.refl w3.heap.size w3).drew) d8, cell_below ((Below.refl w3.heap.size w3).drew) d9, cell_below ((Below.refl w3.heap.size w3).drew) d10⟩ | exact SK7.out | exact SK6.out | exact ⟨cell_below (by go_grown) e1, cell_below (by go_grown) d0, cell_below (by go_grown) d1, cell_below (by go_grown) d2, cell_below (by go_grown) d3, cell_below (by go_grown) d4, cell_below (by go_grown) d5, cell_below (by go_grown) d6, cell_below (by go_grown) d7, cell_below (by go_grown) d8, cell_below (by go_grown) d9, cell_below (by go_grown) d10⟩); done)
        clear hK K
        (try simp only [Act.put, List.setIfInBounds_toArray, List.set_cons_zero, List.set_cons_succ])
        refine wpAnyH_take (i := 18) (oi := ⟨_, _, _, _, _, _⟩) (v := ?_) rfl (by kernel_rfl) (by kernel_rfl) (by kernel_rfl) (fun _ _ _ h => h) (Or.inl ⟨by rfl, ?_⟩) (by assumption) ?_; rotate_left; (focus (intro w hSw; (try dsimp only at hSw); go_simp; (try with_reducible rfl); done)); simp only [Act.put, List.setIfInBounds_toArray, List.set_cons_zero, List.set_cons_succ]
        refine wpAnyH_ready (rs := [19]) (by kernel_rfl) (by simp) ?_
        refine AllReadyH.cons (o := ⟨_, _, _, _, _, _⟩) rfl (fun K hK => ?_) AllReadyH.nil
        go_simp
        (try go_wp2_with fail)
        refine hK.out _ _ ?_ (fun hHeld => ?_)
        focus ((try dsimp only); (first | exact ⟨cell_below ((Below.refl w3.heap.size w3).drew) e1, cell_below ((Below.refl w3.heap.size w3).drew) d0, cell_below ((Below.refl w3.heap.size w3).drew) d1, cell_below ((Below.refl w3.heap.size w3).drew) d2, cell_below ((Below.refl w3.heap.size w3).drew) d3, cell_below ((Below.refl w3.heap.size w3).drew) d4, cell_below ((Below.refl w3.heap.size w3).drew) d5, cell_below ((Below.refl w3.heap.size w3).drew) d6, cell_below ((Below.refl w3.heap.size w3).drew) d7, cell_below ((Below.refl w3.heap.size w3).drew) d8, cell_below ((Below.refl w3.heap.size w3).drew) d9, cell_below ((Below.refl w3.heap.size w3).drew) d10⟩ | exact SK7.out | exact SK6.out | exact ⟨cell_below (by go_grown) e1, cell_below (by go_grown) d0, cell_below (by go_grown) d1, cell_below (by go_grown) d2, cell_below (by go_grown) d3, cell_below (by go_grown) d4, cell_below (by go_grown) d5, cell_below (by go_grown) d6, cell_below (by go_grown) d7, cell_below (by go_grown) d8, cell_below (by go_grown) d9, cell_below (by go_grown) d10⟩); done)
        clear hK K
        (try simp only [Act.put, List.setIfInBounds_toArray, List.set_cons_zero, List.set_cons_succ])
        refine wpAnyH_ready (rs := [20]) (by kernel_rfl) (by simp) ?_
        refine AllReadyH.cons (o := ⟨_, _, _, _, _, _⟩) rfl (fun K hK => ?_) AllReadyH.nil
        refine wp_app16 (.tmp 87) (.tmp 102) rfl (.slice A1 es.length c1) es rfl HOE.out (w3.heap.size + 1) 1 (newF st i t g now, A2, c2, some ⟨w3.heap.size, 0, none⟩, 1) rfl HEL.out (by omega) ?_
        intro v6 w6 hO6 hg6 hv6
        have hl6 : (es ++ [((newF st i t g now, A2, c2, some ⟨w3.heap.size, 0, none⟩, 1) : FmE)]).length = es.length + 1 := by simp
        have HV6 := Lib.hid hv6
        have HG6 := Lib.hid hg6
        have HK6 := Lib.hid (show ∀ k, k < w3.heap.size → ¬ (Value.slice A1 es.length c1).ownBlock = some k → w6.heap[k]? = w3.heap[k]? from fun k hk hn => (hg6.block k (by have := HZE.out; omega) (fun e => hn e.symm)).trans (HWG.out.block k hk))
        have HGB6 := Lib.hid ((HK6.out G HGL.out (fun e => (HNO.out G e).2 rfl)).trans HP3.out.hG)
        have HXB6 := Lib.hid ((HK6.out w.heap.size HLX3.out (fun e => by have := (HNO.out _ e).1; omega)).trans HX3.out)
        have HTK6 := Lib.hid ((hg6.block w3.heap.size (by have := HZE.out; omega) (fun e => by have := (HNO.out _ e.symm).1; have := HLX3.out; omega)).trans HTK.out)
        have SK6 := Lib.hid (And.intro (cell_block HGB6.out 1) (cells11 HXB6.out))
        have e36 := cell_block HGB6.out 3
        simp only [List.getElem?_toArray, List.getElem?_cons_zero, List.getElem?_cons_succ] at e36
        have f36 : w6.frozen? ⟨G, 3, none⟩ = false := by have := HGB6.out; simp only [World.frozen?, this]; rfl
        obtain ⟨A6, c6, rfl⟩ := hO6.len
        rw [hl6] at hO6
        rw [hl6] at HV6
        rw [hl6]
        have HO6 := Lib.hid hO6
        clear hO6 hg6 hv6 hl6
        (try go_wp2_with fail)
        refine hK.out _ _ ?_ (fun hHeld => ?_)
        focus ((try dsimp only); (first | exact ⟨cell_below ((Below.refl w3.heap.size w3).drew) e1, cell_below ((Below.refl w3.heap.size w3).drew) d0, cell_below ((Below.refl w3.heap.size w3).drew) d1, cell_below ((Below.refl w3.heap.size w3).drew) d2, cell_below ((Below.refl w3.heap.size w3).drew) d3, cell_below ((Below.refl w3.heap.size w3).drew) d4, cell_below ((Below.refl w3.heap.size w3).drew) d5, cell_below ((Below.refl w3.heap.size w3).drew) d6, cell_below ((Below.refl w3.heap.size w3).drew) d7, cell_below ((Below.refl w3.heap.size w3).drew) d8, cell_below ((Below.refl w3.heap.size w3).drew) d9, cell_below ((Below.refl w3.heap.size w3).drew) d10⟩ | exact SK7.out | exact SK6.out | exact ⟨cell_below (by go_grown) e1, cell_below (by go_grown) d0, cell_below (by go_grown) d1, cell_below (by go_grown) d2, cell_below (by go_grown) d3, cell_below (by go_grown) d4, cell_below (by go_grown) d5, cell_below (by go_grown) d6, cell_below (by go_grown) d7, cell_below (by go_grown) d8, cell_below (by go_grown) d9, cell_below (by go_grown) d10⟩); done)
        clear hK K
        (try simp only [Act.put, List.setIfInBounds_toArray, List.set_cons_zero, List.set_cons_succ])
        refine wpAnyH_take (i := 21) (oi := ⟨_, _, _, _, _, _⟩) (v := ?_) rfl (by kernel_rfl) (by kernel_rfl) (by kernel_rfl) (fun _ _ _ h => h) (Or.inl ⟨by rfl, ?_⟩) (by assumption) ?_; rotate_left; (focus (intro w hSw; (try dsimp only at hSw); go_simp; (try with_reducible rfl); done)); simp only [Act.put, List.setIfInBounds_toArray, List.set_cons_zero, List.set_cons_succ]
        refine wpAnyH_take (i := 22) (oi := ⟨_, _, _, _, _, _⟩) (v := ?_) rfl (by kernel_rfl) (by kernel_rfl) (by kernel_rfl) (fun _ _ _ h => h) (Or.inl ⟨by rfl, ?_⟩) (by assumption) ?_; rotate_left; (focus (intro w hSw; (try dsimp only at hSw); go_simp; (try with_reducible rfl); done)); simp only [Act.put, List.setIfInBounds_toArray, List.set_cons_zero, List.set_cons_succ]
        refine wpAnyH_ready (rs := [23]) (by kernel_rfl) (by simp) ?_
        refine AllReadyH.cons (o := ⟨_, _, _, _, _, _⟩) rfl (fun K hK => ?_) AllReadyH.nil
        go_simp
        have HG7 := Lib.hid (heap_setCell_same w6 G 3 _ _ (.slice A6 (es.length + 1) c6) HGB6.out)
        have HX7 := Lib.hid ((Below.heap_setCell w6 ⟨G, 3, none⟩ (.slice A6 (es.length + 1) c6) w.heap.size (fun e => HGX.out e.symm)).trans HXB6.out)
        have SK7 := Lib.hid (And.intro (cell_block HG7.out 1) (cells11 HX7.out))
        (try go_wp2_with fail)
        refine hK.out _ _ ?_ (fun hHeld => ?_)
        focus ((try dsimp only); (first | exact ⟨cell_below ((Below.refl w3.heap.size w3).drew) e1, cell_below ((Below.refl w3.heap.size w3).drew) d0, cell_below ((Below.refl w3.heap.size w3).drew) d1, cell_below ((Below.refl w3.heap.size w3).drew) d2, cell_below ((Below.refl w3.heap.size w3).drew) d3, cell_below ((Below.refl w3.heap.size w3).drew) d4, cell_below ((Below.refl w3.heap.size w3).drew) d5, cell_below ((Below.refl w3.heap.size w3).drew) d6, cell_below ((Below.refl w3.heap.size w3).drew) d7, cell_below ((Below.refl w3.heap.size w3).drew) d8, cell_below ((Below.refl w3.heap.size w3).drew) d9, cell_below ((Below.refl w3.heap.size w3).drew) d10⟩ | exact SK7.out | exact SK6.out | exact ⟨cell_below (by go_grown) e1, cell_below (by go_grown) d0, cell_below (by go_grown) d1, cell_below (by go_grown) d2, cell_below (by go_grown) d3, cell_below (by go_grown) d4, cell_below (by go_grown) d5, cell_below (by go_grown) d6, cell_below (by go_grown) d7, cell_below (by go_grown) d8, cell_below (by go_grown) d9, cell_below (by go_grown) d10⟩); done)
        clear hK K
        (try simp only [Act.put, List.setIfInBounds_toArray, List.set_cons_zero, List.set_cons_succ])
        refine wpAnyH_done (by kernel_rfl) ?_ _
        go_wp2
        go_ret
        refine rstart_fin HR.out HE.out.lt HBB.out HLX3.out HLX.out HP3.out HO3.out (fun k hk hne hn => (Below.heap_setCell _ _ _ _ hne).trans (HK6.out k hk hn)) ((Below.heap_setCell w6 ⟨G, 3, none⟩ _ w3.heap.size (fun e => by have := HGL.out; simp only at e; omega)).trans HTK6.out) HG7.out (HO6.out.keep (fun g' hg' => Below.heap_setCell _ _ _ _ (fun e => ?_))) (by have := HV6.out; rw [HZE.out] at this; exact this) (by have := HG6.out.size; have := HZE.out; simp [World.setCell]; omega) HG6.out.os HG6.out.tape HG6.out.output (inv_start' HE.out.inv H0.out H1.out H6.out HSH.out H7.out H8.out q9)
        simp only at e
        subst e
        rcases HV6.out with e | e
        · rw [hg'] at e; exact (HNO.out _ e.symm).2 rfl
        · rw [hg'] at e; injection e with e; have := HGL.out; have := HZE.out; omega
      · go_simp
        (try go_wp2_with fail)
        refine hK.out _ _ ?_ (fun hHeld => ?_)
        focus ((try dsimp only); (first | exact ⟨cell_below ((Below.refl w3.heap.size w3).drew) e1, cell_below ((Below.refl w3.heap.size w3).drew) d0, cell_below ((Below.refl w3.heap.size w3).drew) d1, cell_below ((Below.refl w3.heap.size w3).drew) d2, cell_below ((Below.refl w3.heap.size w3).drew) d3, cell_below ((Below.refl w3.heap.size w3).drew) d4, cell_below ((Below.refl w3.heap.size w3).drew) d5, cell_below ((Below.refl w3.heap.size w3).drew) d6, cell_below ((Below.refl w3.heap.size w3).drew) d7, cell_below ((Below.refl w3.heap.size w3).drew) d8, cell_below ((Below.refl w3.heap.size w3).drew) d9, cell_below ((Below.refl w3.heap.size w3).drew) d10⟩ | exact SK7.out | exact SK6.out | exact ⟨cell_below (by go_grown) e1, cell_below (by go_grown) d0, cell_below (by go_grown) d1, cell_below (by go_grown) d2, cell_below (by go_grown) d3, cell_below (by go_grown) d4, cell_below (by go_grown) d5, cell_below (by go_grown) d6, cell_below (by go_grown) d7, cell_below (by go_grown) d8, cell_below (by go_grown) d9, cell_below (by go_grown) d10⟩); done)
        clear hK K
        (try simp only [Act.put, List.setIfInBounds_toArray, List.set_cons_zero, List.set_cons_succ])
        refine wpAnyH_take (i := 18) (oi := ⟨_, _, _, _, _, _⟩) (v := ?_) rfl (by kernel_rfl) (by kernel_rfl) (by kernel_rfl) (fun _ _ _ h => h) (Or.inl ⟨by rfl, ?_⟩) (by assumption) ?_; rotate_left; (focus (intro w hSw; (try dsimp only at hSw); go_simp; (try with_reducible rfl); done)); simp only [Act.put, List.setIfInBounds_toArray, List.set_cons_zero, List.set_cons_succ]
        refine wpAnyH_ready (rs := [4, 19]) (by kernel_rfl) (by simp) ?_
        refine AllReadyH.cons (o := ⟨_, _, _, _, _, _⟩) rfl (fun K hK => ?_) (AllReadyH.cons (o := ⟨_, _, _, _, _, _⟩) rfl (fun K hK => ?_) AllReadyH.nil)
        · go_simp
          (try go_wp2_with fail)
          refine hK.out _ _ ?_ (fun hHeld => ?_)
          focus ((try dsimp only); (first | exact ⟨cell_below ((Below.refl w3.heap.size w3).drew) e1, cell_below ((Below.refl w3.heap.size w3).drew) d0, cell_below ((Below.refl w3.heap.size w3).drew) d1, cell_below ((Below.refl w3.heap.size w3).drew) d2, cell_below ((Below.refl w3.heap.size w3).drew) d3, cell_below ((Below.refl w3.heap.size w3).drew) d4, cell_below ((Below.refl w3.heap.size w3).drew) d5, cell_below ((Below.refl w3.heap.size w3).drew) d6, cell_below ((Below.refl w3.heap.size w3).drew) d7, cell_below ((Below.refl w3.heap.size w3).drew) d8, cell_below ((Below.refl w3.heap.size w3).drew) d9, cell_below ((Below.refl w3.heap.size w3).drew) d10⟩ | exact SK7.out | exact SK6.out | exact ⟨cell_below (by go_grown) e1, cell_below (by go_grown) d0, cell_below (by go_grown) d1, cell_below (by go_grown) d2, cell_below (by go_grown) d3, cell_below (by go_grown) d4, cell_below (by go_grown) d5, cell_below (by go_grown) d6, cell_below (by go_grown) d7, cell_below (by go_grown) d8, cell_below (by go_grown) d9, cell_below (by go_grown) d10⟩); done)
          clear hK K
          (try simp only [Act.put, List.setIfInBounds_toArray, List.set_cons_zero, List.set_cons_succ])
          refine wpAnyH_ready (rs := [19]) (by kernel_rfl) (by simp) ?_
          refine AllReadyH.cons (o := ⟨_, _, _, _, _, _⟩) rfl (fun K hK => ?_) AllReadyH.nil
          go_simp
          (try go_wp2_with fail)
          refine hK.out _ _ ?_ (fun hHeld => ?_)
          focus ((try dsimp only); (first | exact ⟨cell_below ((Below.refl w3.heap.size w3).drew) e1, cell_below ((Below.refl w3.heap.size w3).drew) d0, cell_below ((Below.refl w3.heap.size w3).drew) d1, cell_below ((Below.refl w3.heap.size w3).drew) d2, cell_below ((Below.refl w3.heap.size w3).drew) d3, cell_below ((Below.refl w3.heap.size w3).drew) d4, cell_below ((Below.refl w3.heap.size w3).drew) d5, cell_below ((Below.refl w3.heap.size w3).drew) d6, cell_below ((Below.refl w3.heap.size w3).drew) d7, cell_below ((Below.refl w3.heap.size w3).drew) d8, cell_below ((Below.refl w3.heap.size w3).drew) d9, cell_below ((Below.refl w3.heap.size w3).drew) d10⟩ | exact SK7.out | exact SK6.out | exact ⟨cell_below (by go_grown) e1, cell_below (by go_grown) d0, cell_below (by go_grown) d1, cell_below (by go_grown) d2, cell_below (by go_grown) d3, cell_below (by go_grown) d4, cell_below (by go_grown) d5, cell_below (by go_grown) d6, cell_below (by go_grown) d7, cell_below (by go_grown) d8, cell_below (by go_grown) d9, cell_below (by go_grown) d10⟩); done)
          clear hK K
          (try simp only [Act.put, List.setIfInBounds_toArray, List.set_cons_zero, List.set_cons_succ])
          refine wpAnyH_ready (rs := [20]) (by kernel_rfl) (by simp) ?_
          refine AllReadyH.cons (o := ⟨_, _, _, _, _, _⟩) rfl (fun K hK => ?_) AllReadyH.nil
          refine wp_app16 (.tmp 87) (.tmp 102) rfl (.slice A1 es.length c1) es rfl HOE.out (w3.heap.size + 1) 1 (newF st i t g now, A2, c2, some ⟨w3.heap.size, 0, none⟩, 1) rfl HEL.out (by omega) ?_
          intro v6 w6 hO6 hg6 hv6
          have hl6 : (es ++ [((newF st i t g now, A2, c2, some ⟨w3.heap.size, 0, none⟩, 1) : FmE)]).length = es.length + 1 := by simp
          have HV6 := Lib.hid hv6
          have HG6 := Lib.hid hg6
          have HK6 := Lib.hid (show ∀ k, k < w3.heap.size → ¬ (Value.slice A1 es.length c1).ownBlock = some k → w6.heap[k]? = w3.heap[k]? from fun k hk hn => (hg6.block k (by have := HZE.out; omega) (fun e => hn e.symm)).trans (HWG.out.block k hk))
          have HGB6 := Lib.hid ((HK6.out G HGL.out (fun e => (HNO.out G e).2 rfl)).trans HP3.out.hG)
          have HXB6 := Lib.hid ((HK6.out w.heap.size HLX3.out (fun e => by have := (HNO.out _ e).1; omega)).trans HX3.out)
          have HTK6 := Lib.hid ((hg6.block w3.heap.size (by have := HZE.out; omega) (fun e => by have := (HNO.out _ e.symm).1; have := HLX3.out; omega)).trans HTK.out)
          have SK6 := Lib.hid (And.intro (cell_block HGB6.out 1) (cells11 HXB6.out))
          have e36 := cell_block HGB6.out 3
          simp only [List.getElem?_toArray, List.getElem?_cons_zero, List.getElem?_cons_succ] at e36
          have f36 : w6.frozen? ⟨G, 3, none⟩ = false := by have := HGB6.out; simp only [World.frozen?, this]; rfl
          obtain ⟨A6, c6, rfl⟩ := hO6.len
          rw [hl6] at hO6
          rw [hl6] at HV6
          rw [hl6]
          have HO6 := Lib.hid hO6
          clear hO6 hg6 hv6 hl6
          (try go_wp2_with fail)
          refine hK.out _ _ ?_ (fun hHeld => ?_)
          focus ((try dsimp only); (first | exact ⟨cell_below ((Below.refl w3.heap.size w3).drew) e1, cell_below ((Below.refl w3.heap.size w3).drew) d0, cell_below ((Below.refl w3.heap.size w3).drew) d1, cell_below ((Below.refl w3.heap.size w3).drew) d2, cell_below ((Below.refl w3.heap.size w3).drew) d3, cell_below ((Below.refl w3.heap.size w3).drew) d4, cell_below ((Below.refl w3.heap.size w3).drew) d5, cell_below ((Below.refl w3.heap.size w3).drew) d6, cell_below ((Below.refl w3.heap.size w3).drew) d7, cell_below ((Below.refl w3.heap.size w3).drew) d8, cell_below ((Below.refl w3.heap.size w3).drew) d9, cell_below ((Below.refl w3.heap.size w3).drew) d10⟩ | exact SK7.out | exact SK6.out | exact ⟨cell_below (by go_grown) e1, cell_below (by go_grown) d0, cell_below (by go_grown) d1, cell_below (by go_grown) d2, cell_below (by go_grown) d3, cell_below (by go_grown) d4, cell_below (by go_grown) d5, cell_below (by go_grown) d6, cell_below (by go_grown) d7, cell_below (by go_grown) d8, cell_below (by go_grown) d9, cell_below (by go_grown) d10⟩); done)
          clear hK K
          (try simp only [Act.put, List.setIfInBounds_toArray, List.set_cons_zero, List.set_cons_succ])
          refine wpAnyH_take (i := 21) (oi := ⟨_, _, _, _, _, _⟩) (v := ?_) rfl (by kernel_rfl) (by kernel_rfl) (by kernel_rfl) (fun _ _ _ h => h) (Or.inl ⟨by rfl, ?_⟩) (by assumption) ?_; rotate_left; (focus (intro w hSw; (try dsimp only at hSw); go_simp; (try with_reducible rfl); done)); simp only [Act.put, List.setIfInBounds_toArray, List.set_cons_zero, List.set_cons_succ]
          refine wpAnyH_take (i := 22) (oi := ⟨_, _, _, _, _, _⟩) (v := ?_) rfl (by kernel_rfl) (by kernel_rfl) (by kernel_rfl) (fun _ _ _ h => h) (Or.inl ⟨by rfl, ?_⟩) (by assumption) ?_; rotate_left; (focus (intro w hSw; (try dsimp only at hSw); go_simp; (try with_reducible rfl); done)); simp only [Act.put, List.setIfInBounds_toArray, List.set_cons_zero, List.set_cons_succ]
          refine wpAnyH_ready (rs := [23]) (by kernel_rfl) (by simp) ?_
          refine AllReadyH.cons (o := ⟨_, _, _, _, _, _⟩) rfl (fun K hK => ?_) AllReadyH.nil
          go_simp
          have HG7 := Lib.hid (heap_setCell_same w6 G 3 _ _ (.slice A6 (es.length + 1) c6) HGB6.out)
          have HX7 := Lib.hid ((Below.heap_setCell w6 ⟨G, 3, none⟩ (.slice A6 (es.length + 1) c6) w.heap.size (fun e => HGX.out e.symm)).trans HXB6.out)
          have SK7 := Lib.hid (And.intro (cell_block HG7.out 1) (cells11 HX7.out))
          (try go_wp2_with fail)
          refine hK.out _ _ ?_ (fun hHeld => ?_)
          focus ((try dsimp only); (first | exact ⟨cell_below ((Below.refl w3.heap.size w3).drew) e1, cell_below ((Below.refl w3.heap.size w3).drew) d0, cell_below ((Below.refl w3.heap.size w3).drew) d1, cell_below ((Below.refl w3.heap.size w3).drew) d2, cell_below ((Below.refl w3.heap.size w3).drew) d3, cell_below ((Below.refl w3.heap.size w3).drew) d4, cell_below ((Below.refl w3.heap.size w3).drew) d5, cell_below ((Below.refl w3.heap.size w3).drew) d6, cell_below ((Below.refl w3.heap.size w3).drew) d7, cell_below ((Below.refl w3.heap.size w3).drew) d8, cell_below ((Below.refl w3.heap.size w3).drew) d9, cell_below ((Below.refl w3.heap.size w3).drew) d10⟩ | exact SK7.out | exact SK6.out | exact ⟨cell_below (by go_grown) e1, cell_below (by go_grown) d0, cell_below (by go_grown) d1, cell_below (by go_grown) d2, cell_below (by go_grown) d3, cell_below (by go_grown) d4, cell_below (by go_grown) d5, cell_below (by go_grown) d6, cell_below (by go_grown) d7, cell_below (by go_grown) d8, cell_below (by go_grown) d9, cell_below (by go_grown) d10⟩); done)
          clear hK K
          (try simp only [Act.put, List.setIfInBounds_toArray, List.set_cons_zero, List.set_cons_succ])
          refine wpAnyH_done (by kernel_rfl) ?_ _
          go_wp2
          go_ret
          refine rstart_fin HR.out HE.out.lt HBB.out HLX3.out HLX.out HP3.out HO3.out (fun k hk hne hn => (Below.heap_setCell _ _ _ _ hne).trans (HK6.out k hk hn)) ((Below.heap_setCell w6 ⟨G, 3, none⟩ _ w3.heap.size (fun e => by have := HGL.out; simp only at e; omega)).trans HTK6.out) HG7.out (HO6.out.keep (fun g' hg' => Below.heap_setCell _ _ _ _ (fun e => ?_))) (by have := HV6.out; rw [HZE.out] at this; exact this) (by have := HG6.out.size; have := HZE.out; simp [World.setCell]; omega) HG6.out.os HG6.out.tape HG6.out.output (inv_start' HE.out.inv H0.out H1.out H6.out HSH.out H7.out H8.out q9)
          simp only at e
          subst e
          rcases HV6.out with e | e
          · rw [hg'] at e; exact (HNO.out _ e.symm).2 rfl
          · rw [hg'] at e; injection e with e; have := HGL.out; have := HZE.out; omega
        · go_simp
          (try go_wp2_with fail)
          refine hK.out _ _ ?_ (fun hHeld => ?_)
          focus ((try dsimp only); (first | exact ⟨cell_below ((Below.refl w3.heap.size w3).drew) e1, cell_below ((Below.refl w3.heap.size w3).drew) d0, cell_below ((Below.refl w3.heap.size w3).drew) d1, cell_below ((Below.refl w3.heap.size w3).drew) d2, cell_below ((Below.refl w3.heap.size w3).drew) d3, cell_below ((Below.refl w3.heap.size w3).drew) d4, cell_below ((Below.refl w3.heap.size w3).drew) d5, cell_below ((Below.refl w3.heap.size w3).drew) d6, cell_below ((Below.refl w3.heap.size w3).drew) d7, cell_below ((Below.refl w3.heap.size w3).drew) d8, cell_below ((Below.refl w3.heap.size w3).drew) d9, cell_below ((Below.refl w3.heap.size w3).drew) d10⟩ | exact SK7.out | exact SK6.out | exact ⟨cell_below (by go_grown) e1, cell_below (by go_grown) d0, cell_below (by go_grown) d1, cell_below (by go_grown) d2, cell_below (by go_grown) d3, cell_below (by go_grown) d4, cell_below (by go_grown) d5, cell_below (by go_grown) d6, cell_below (by go_grown) d7, cell_below (by go_grown) d8, cell_below (by go_grown) d9, cell_below (by go_grown) d10⟩); done)
          clear hK K
          (try simp only [Act.put, List.setIfInBounds_toArray, List.set_cons_zero, List.set_cons_succ])
          refine wpAnyH_ready (rs := [4]) (by kernel_rfl) (by simp) ?_
          refine AllReadyH.cons (o := ⟨_, _, _, _, _, _⟩) rfl (fun K hK => ?_) AllReadyH.nil
          go_simp
          (try go_wp2_with fail)
          refine hK.out _ _ ?_ (fun hHeld => ?_)
          focus ((try dsimp only); (first | exact ⟨cell_below ((Below.refl w3.heap.size w3).drew) e1, cell_below ((Below.refl w3.heap.size w3).drew) d0, cell_below ((Below.refl w3.heap.size w3).drew) d1, cell_below ((Below.refl w3.heap.size w3).drew) d2, cell_below ((Below.refl w3.heap.size w3).drew) d3, cell_below ((Below.refl w3.heap.size w3).drew) d4, cell_below ((Below.refl w3.heap.size w3).drew) d5, cell_below ((Below.refl w3.heap.size w3).drew) d6, cell_below ((Below.refl w3.heap.size w3).drew) d7, cell_below ((Below.refl w3.heap.size w3).drew) d8, cell_below ((Below.refl w3.heap.size w3).drew) d9, cell_below ((Below.refl w3.heap.size w3).drew) d10⟩ | exact SK7.out | exact SK6.out | exact ⟨cell_below (by go_grown) e1, cell_below (by go_grown) d0, cell_below (by go_grown) d1, cell_below (by go_grown) d2, cell_below (by go_grown) d3, cell_below (by go_grown) d4, cell_below (by go_grown) d5, cell_below (by go_grown) d6, cell_below (by go_grown) d7, cell_below (by go_grown) d8, cell_below (by go_grown) d9, cell_below (by go_grown) d10⟩); done)
          clear hK K
          (try simp only [Act.put, List.setIfInBounds_toArray, List.set_cons_zero, List.set_cons_succ])
          refine wpAnyH_ready (rs := [20]) (by kernel_rfl) (by simp) ?_
          refine AllReadyH.cons (o := ⟨_, _, _, _, _, _⟩) rfl (fun K hK => ?_) AllReadyH.nil
          refine wp_app16 (.tmp 87) (.tmp 102) rfl (.slice A1 es.length c1) es rfl HOE.out (w3.heap.size + 1) 1 (newF st i t g now, A2, c2, some ⟨w3.heap.size, 0, none⟩, 1) rfl HEL.out (by omega) ?_
          intro v6 w6 hO6 hg6 hv6
          have hl6 : (es ++ [((newF st i t g now, A2, c2, some ⟨w3.heap.size, 0, none⟩, 1) : FmE)]).length = es.length + 1 := by simp
          have HV6 := Lib.hid hv6
          have HG6 := Lib.hid hg6
          have HK6 := Lib.hid (show ∀ k, k < w3.heap.size → ¬ (Value.slice A1 es.length c1).ownBlock = some k → w6.heap[k]? = w3.heap[k]? from fun k hk hn => (hg6.block k (by have := HZE.out; omega) (fun e => hn e.symm)).trans (HWG.out.block k hk))
          have HGB6 := Lib.hid ((HK6.out G HGL.out (fun e => (HNO.out G e).2 rfl)).trans HP3.out.hG)
          have HXB6 := Lib.hid ((HK6.out w.heap.size HLX3.out (fun e => by have := (HNO.out _ e).1; omega)).trans HX3.out)
          have HTK6 := Lib.hid ((hg6.block w3.heap.size (by have := HZE.out; omega) (fun e => by have := (HNO.out _ e.symm).1; have := HLX3.out; omega)).trans HTK.out)
          have SK6 := Lib.hid (And.intro (cell_block HGB6.out 1) (cells11 HXB6.out))
          have e36 := cell_block HGB6.out 3
          simp only [List.getElem?_toArray, List.getElem?_cons_zero, List.getElem?_cons_succ] at e36
          have f36 : w6.frozen? ⟨G, 3, none⟩ = false := by have := HGB6.out; simp only [World.frozen?, this]; rfl
          obtain ⟨A6, c6, rfl⟩ := hO6.len
          rw [hl6] at hO6
          rw [hl6] at HV6
          rw [hl6]
          have HO6 := Lib.hid hO6
          clear hO6 hg6 hv6 hl6
          (try go_wp2_with fail)
          refine hK.out _ _ ?_ (fun hHeld => ?_)
          focus ((try dsimp only); (first | exact ⟨cell_below ((Below.refl w3.heap.size w3).drew) e1, cell_below ((Below.refl w3.heap.size w3).drew) d0, cell_below ((Below.refl w3.heap.size w3).drew) d1, cell_below ((Below.refl w3.heap.size w3).drew) d2, cell_below ((Below.refl w3.heap.size w3).drew) d3, cell_below ((Below.refl w3.heap.size w3).drew) d4, cell_below ((Below.refl w3.heap.size w3).drew) d5, cell_below ((Below.refl w3.heap.size w3).drew) d6, cell_below ((Below.refl w3.heap.size w3).drew) d7, cell_below ((Below.refl w3.heap.size w3).drew) d8, cell_below ((Below.refl w3.heap.size w3).drew) d9, cell_below ((Below.refl w3.heap.size w3).drew) d10⟩ | exact SK7.out | exact SK6.out | exact ⟨cell_below (by go_grown) e1, cell_below (by go_grown) d0, cell_below (by go_grown) d1, cell_below (by go_grown) d2, cell_below (by go_grown) d3, cell_below (by go_grown) d4, cell_below (by go_grown) d5, cell_below (by go_grown) d6, cell_below (by go_grown) d7, cell_below (by go_grown) d8, cell_below (by go_grown) d9, cell_below (by go_grown) d10⟩); done)
          clear hK K
          (try simp only [Act.put, List.setIfInBounds_toArray, List.set_cons_zero, List.set_cons_succ])
          refine wpAnyH_take (i := 21) (oi := ⟨_, _, _, _, _, _⟩) (v := ?_) rfl (by kernel_rfl) (by kernel_rfl) (by kernel_rfl) (fun _ _ _ h => h) (Or.inl ⟨by rfl, ?_⟩) (by assumption) ?_; rotate_left; (focus (intro w hSw; (try dsimp only at hSw); go_simp; (try with_reducible rfl); done)); simp only [Act.put, List.setIfInBounds_toArray, List.set_cons_zero, List.set_cons_succ]
          refine wpAnyH_take (i := 22) (oi := ⟨_, _, _, _, _, _⟩) (v := ?_) rfl (by kernel_rfl) (by kernel_rfl) (by kernel_rfl) (fun _ _ _ h => h) (Or.inl ⟨by rfl, ?_⟩) (by assumption) ?_; rotate_left; (focus (intro w hSw; (try dsimp only at hSw); go_simp; (try with_reducible rfl); done)); simp only [Act.put, List.setIfInBounds_toArray, List.set_cons_zero, List.set_cons_succ]
          refine wpAnyH_ready (rs := [23]) (by kernel_rfl) (by simp) ?_
          refine AllReadyH.cons (o := ⟨_, _, _, _, _, _⟩) rfl (fun K hK => ?_) AllReadyH.nil
          go_simp
          have HG7 := Lib.hid (heap_setCell_same w6 G 3 _ _ (.slice A6 (es.length + 1) c6) HGB6.out)
          have HX7 := Lib.hid ((Below.heap_setCell w6 ⟨G, 3, none⟩ (.slice A6 (es.length + 1) c6) w.heap.size (fun e => HGX.out e.symm)).trans HXB6.out)
          have SK7 := Lib.hid (And.intro (cell_block HG7.out 1) (cells11 HX7.out))
          (try go_wp2_with fail)
          refine hK.out _ _ ?_ (fun hHeld => ?_)
          focus ((try dsimp only); (first | exact ⟨cell_below ((Below.refl w3.heap.size w3).drew) e1, cell_below ((Below.refl w3.heap.size w3).drew) d0, cell_below ((Below.refl w3.heap.size w3).drew) d1, cell_below ((Below.refl w3.heap.size w3).drew) d2, cell_below ((Below.refl w3.heap.size w3).drew) d3, cell_below ((Below.refl w3.heap.size w3).drew) d4, cell_below ((Below.refl w3.heap.size w3).drew) d5, cell_below ((Below.refl w3.heap.size w3).drew) d6, cell_below ((Below.refl w3.heap.size w3).drew) d7, cell_below ((Below.refl w3.heap.size w3).drew) d8, cell_below ((Below.refl w3.heap.size w3).drew) d9, cell_below ((Below.refl w3.heap.size w3).drew) d10⟩ | exact SK7.out | exact SK6.out | exact ⟨cell_below (by go_grown) e1, cell_below (by go_grown) d0, cell_below (by go_grown) d1, cell_below (by go_grown) d2, cell_below (by go_grown) d3, cell_below (by go_grown) d4, cell_below (by go_grown) d5, cell_below (by go_grown) d6, cell_below (by go_grown) d7, cell_below (by go_grown) d8, cell_below (by go_grown) d9, cell_below (by go_grown) d10⟩); done)
          clear hK K
          (try simp only [Act.put, List.setIfInBounds_toArray, List.set_cons_zero, List.set_cons_succ])
          refine wpAnyH_done (by kernel_rfl) ?_ _
          go_wp2
          go_ret
          refine rstart_fin HR.out HE.out.lt HBB.out HLX3.out HLX.out HP3.out HO3.out (fun k hk hne hn => (Below.heap_setCell _ _ _ _ hne).trans (HK6.out k hk hn)) ((Below.heap_setCell w6 ⟨G, 3, none⟩ _ w3.heap.size (fun e => by have := HGL.out; simp only at e; omega)).trans HTK6.out) HG7.out (HO6.out.keep (fun g' hg' => Below.heap_setCell _ _ _ _ (fun e => ?_))) (by have := HV6.out; rw [HZE.out] at this; exact this) (by have := HG6.out.size; have := HZE.out; simp [World.setCell]; omega) HG6.out.os HG6.out.tape HG6.out.output (inv_start' HE.out.inv H0.out H1.out H6.out HSH.out H7.out H8.out q9)
          simp only at e
          subst e
          rcases HV6.out with e | e
          · rw [hg'] at e; exact (HNO.out _ e.symm).2 rfl
          · rw [hg'] at e; injection e with e; have := HGL.out; have := HZE.out; omega
  · go_simp
    go_wp2_with fail
    refine (radd_any (limI now) st.life _).mono ?_
    rintro e wn ⟨rfl, rfl⟩
    rw [addC_l]
    (try go_wp2_with fail)
    refine hK.out _ _ ?_ (fun hHeld => ?_)
    focus ((try dsimp only); (first | exact ⟨cell_below ((Below.refl w3.heap.size w3).drew) e1, cell_below ((Below.refl w3.heap.size w3).drew) d0, cell_below ((Below.refl w3.heap.size w3).drew) d1, cell_below ((Below.refl w3.heap.size w3).drew) d2, cell_below ((Below.refl w3.heap.size w3).drew) d3, cell_below ((Below.refl w3.heap.size w3).drew) d4, cell_below ((Below.refl w3.heap.size w3).drew) d5, cell_below ((Below.refl w3.heap.size w3).drew) d6, cell_below ((Below.refl w3.heap.size w3).drew) d7, cell_below ((Below.refl w3.heap.size w3).drew) d8, cell_below ((Below.refl w3.heap.size w3).drew) d9, cell_below ((Below.refl w3.heap.size w3).drew) d10⟩ | exact SK7.out | exact SK6.out | exact ⟨cell_below (by go_grown) e1, cell_below (by go_grown) d0, cell_below (by go_grown) d1, cell_below (by go_grown) d2, cell_below (by go_grown) d3, cell_below (by go_grown) d4, cell_below (by go_grown) d5, cell_below (by go_grown) d6, cell_below (by go_grown) d7, cell_below (by go_grown) d8, cell_below (by go_grown) d9, cell_below (by go_grown) d10⟩); done)
    clear hK K
    (try simp only [Act.put, List.setIfInBounds_toArray, List.set_cons_zero, List.set_cons_succ])
    refine wpAnyH_ready (rs := [4, 8, 16]) (by kernel_rfl) (by simp) ?_
    refine AllReadyH.cons (o := ⟨_, _, _, _, _, _⟩) rfl (fun K hK => ?_) (AllReadyH.cons (o := ⟨_, _, _, _, _, _⟩) rfl (fun K hK => ?_) (AllReadyH.cons (o := ⟨_, _, _, _, _, _⟩) rfl (fun K hK => ?_) AllReadyH.nil))
    · go_simp
      (try go_wp2_with fail)
      refine hK.out _ _ ?_ (fun hHeld => ?_)
      focus ((try dsimp only); (first | exact ⟨cell_below ((Below.refl w3.heap.size w3).drew) e1, cell_below ((Below.refl w3.heap.size w3).drew) d0, cell_below ((Below.refl w3.heap.size w3).drew) d1, cell_below ((Below.refl w3.heap.size w3).drew) d2, cell_below ((Below.refl w3.heap.size w3).drew) d3, cell_below ((Below.refl w3.heap.size w3).drew) d4, cell_below ((Below.refl w3.heap.size w3).drew) d5, cell_below ((Below.refl w3.heap.size w3).drew) d6, cell_below ((Below.refl w3.heap.size w3).drew) d7, cell_below ((Below.refl w3.heap.size w3).drew) d8, cell_below ((Below.refl w3.heap.size w3).drew) d9, cell_below ((Below.refl w3.heap.size w3).drew) d10⟩ | exact SK7.out | exact SK6.out | exact ⟨cell_below (by go_grown) e1, cell_below (by go_grown) d0, cell_below (by go_grown) d1, cell_below (by go_grown) d2, cell_below (by go_grown) d3, cell_below (by go_grown) d4, cell_below (by go_grown) d5, cell_below (by go_grown) d6, cell_below (by go_grown) d7, cell_below (by go_grown) d8, cell_below (by go_grown) d9, cell_below (by go_grown) d10⟩); done)
      clear hK K
      (try simp only [Act.put, List.setIfInBounds_toArray, List.set_cons_zero, List.set_cons_succ])
      refine wpAnyH_ready (rs := [8, 16]) (by kernel_rfl) (by simp) ?_
      refine AllReadyH.cons (o := ⟨_, _, _, _, _, _⟩) rfl (fun K hK => ?_) (AllReadyH.cons (o := ⟨_, _, _, _, _, _⟩) rfl (fun K hK => ?_) AllReadyH.nil)
      · go_simp
        (try go_wp2_with fail)
        refine hK.out _ _ ?_ (fun hHeld => ?_)
        focus ((try dsimp only); (first | exact ⟨cell_below ((Below.refl w3.heap.size w3).drew) e1, cell_below ((Below.refl w3.heap.size w3).drew) d0, cell_below ((Below.refl w3.heap.size w3).drew) d1, cell_below ((Below.refl w3.heap.size w3).drew) d2, cell_below ((Below.refl w3.heap.size w3).drew) d3, cell_below ((Below.refl w3.heap.size w3).drew) d4, cell_below ((Below.refl w3.heap.size w3).drew) d5, cell_below ((Below.refl w3.heap.size w3).drew) d6, cell_below ((Below.refl w3.heap.size w3).drew) d7, cell_below ((Below.refl w3.heap.size w3).drew) d8, cell_below ((Below.refl w3.heap.size w3).drew) d9, cell_below ((Below.refl w3.heap.size w3).drew) d10⟩ | exact SK7.out | exact SK6.out | exact ⟨cell_below (by go_grown) e1, cell_below (by go_grown) d0, cell_below (by go_grown) d1, cell_below (by go_grown) d2, cell_below (by go_grown) d3, cell_below (by go_grown) d4, cell_below (by go_grown) d5, cell_below (by go_grown) d6, cell_below (by go_grown) d7, cell_below (by go_grown) d8, cell_below (by go_grown) d9, cell_below (by go_grown) d10⟩); done)
        clear hK K
        (try simp only [Act.put, List.setIfInBounds_toArray, List.set_cons_zero, List.set_cons_succ])
        refine wpAnyH_ready (rs := [16]) (by kernel_rfl) (by simp) ?_
        refine AllReadyH.cons (o := ⟨_, _, _, _, _, _⟩) rfl (fun K hK => ?_) AllReadyH.nil
        go_simp
        (try go_wp2_with fail)
        refine hK.out _ _ ?_ (fun hHeld => ?_)
        focus ((try dsimp only); (first | exact ⟨cell_below ((Below.refl w3.heap.size w3).drew) e1, cell_below ((Below.refl w3.heap.size w3).drew) d0, cell_below ((Below.refl w3.heap.size w3).drew) d1, cell_below ((Below.refl w3.heap.size w3).drew) d2, cell_below ((Below.refl w3.heap.size w3).drew) d3, cell_below ((Below.refl w3.heap.size w3).drew) d4, cell_below ((Below.refl w3.heap.size w3).drew) d5, cell_below ((Below.refl w3.heap.size w3).drew) d6, cell_below ((Below.refl w3.heap.size w3).drew) d7, cell_below ((Below.refl w3.heap.size w3).drew) d8, cell_below ((Below.refl w3.heap.size w3).drew) d9, cell_below ((Below.refl w3.heap.size w3).drew) d10⟩ | exact SK7.out | exact SK6.out | exact ⟨cell_below (by go_grown) e1, cell_below (by go_grown) d0, cell_below (by go_grown) d1, cell_below (by go_grown) d2, cell_below (by go_grown) d3, cell_below (by go_grown) d4, cell_below (by go_grown) d5, cell_below (by go_grown) d6, cell_below (by go_grown) d7, cell_below (by go_grown) d8, cell_below (by go_grown) d9, cell_below (by go_grown) d10⟩); done)
        clear hK K
        (try simp only [Act.put, List.setIfInBounds_toArray, List.set_cons_zero, List.set_cons_succ])
        refine wpAnyH_take (i := 18) (oi := ⟨_, _, _, _, _, _⟩) (v := ?_) rfl (by kernel_rfl) (by kernel_rfl) (by kernel_rfl) (fun _ _ _ h => h) (Or.inl ⟨by rfl, ?_⟩) (by assumption) ?_; rotate_left; (focus (intro w hSw; (try dsimp only at hSw); go_simp; (try with_reducible rfl); done)); simp only [Act.put, List.setIfInBounds_toArray, List.set_cons_zero, List.set_cons_succ]
        refine wpAnyH_ready (rs := [19]) (by kernel_rfl) (by simp) ?_
        refine AllReadyH.cons (o := ⟨_, _, _, _, _, _⟩) rfl (fun K hK => ?_) AllReadyH.nil
        go_simp
        (try go_wp2_with fail)
        refine hK.out _ _ ?_ (fun hHeld => ?_)
        focus ((try dsimp only); (first | exact ⟨cell_below ((Below.refl w3.heap.size w3).drew) e1, cell_below ((Below.refl w3.heap.size w3).drew) d0, cell_below ((Below.refl w3.heap.size w3).drew) d1, cell_below ((Below.refl w3.heap.size w3).drew) d2, cell_below ((Below.refl w3.heap.size w3).drew) d3, cell_below ((Below.refl w3.heap.size w3).drew) d4, cell_below ((Below.refl w3.heap.size w3).drew) d5, cell_below ((Below.refl w3.heap.size w3).drew) d6, cell_below ((Below.refl w3.heap.size w3).drew) d7, cell_below ((Below.refl w3.heap.size w3).drew) d8, cell_below ((Below.refl w3.heap.size w3).drew) d9, cell_below ((Below.refl w3.heap.size w3).drew) d10⟩ | exact SK7.out | exact SK6.out | exact ⟨cell_below (by go_grown) e1, cell_below (by go_grown) d0, cell_below (by go_grown) d1, cell_below (by go_grown) d2, cell_below (by go_grown) d3, cell_below (by go_grown) d4, cell_below (by go_grown) d5, cell_below (by go_grown) d6, cell_below (by go_grown) d7, cell_below (by go_grown) d8, cell_below (by go_grown) d9, cell_below (by go_grown) d10⟩); done)
        clear hK K
        (try simp only [Act.put, List.setIfInBounds_toArray, List.set_cons_zero, List.set_cons_succ])
        refine wpAnyH_ready (rs := [20]) (by kernel_rfl) (by simp) ?_
        refine AllReadyH.cons (o := ⟨_, _, _, _, _, _⟩) rfl (fun K hK => ?_) AllReadyH.nil
        refine wp_app16 (.tmp 87) (.tmp 102) rfl (.slice A1 es.length c1) es rfl HOE.out (w3.heap.size + 1) 1 (newF st i t g now, A2, c2, some ⟨w3.heap.size, 0, none⟩, 1) rfl HEL.out (by omega) ?_
        intro v6 w6 hO6 hg6 hv6
        have hl6 : (es ++ [((newF st i t g now, A2, c2, some ⟨w3.heap.size, 0, none⟩, 1) : FmE)]).length = es.length + 1 := by simp
        have HV6 := Lib.hid hv6
        have HG6 := Lib.hid hg6
        have HK6 := Lib.hid (show ∀ k, k < w3.heap.size → ¬ (Value.slice A1 es.length c1).ownBlock = some k → w6.heap[k]? = w3.heap[k]? from fun k hk hn => (hg6.block k (by have := HZE.out; omega) (fun e => hn e.symm)).trans (HWG.out.block k hk))
        have HGB6 := Lib.hid ((HK6.out G HGL.out (fun e => (HNO.out G e).2 rfl)).trans HP3.out.hG)
        have HXB6 := Lib.hid ((HK6.out w.heap.size HLX3.out (fun e => by have := (HNO.out _ e).1; omega)).trans HX3.out)
        have HTK6 := Lib.hid ((hg6.block w3.heap.size (by have := HZE.out; omega) (fun e => by have := (HNO.out _ e.symm).1; have := HLX3.out; omega)).trans HTK.out)
        have SK6 := Lib.hid (And.intro (cell_block HGB6.out 1) (cells11 HXB6.out))
        have e36 := cell_block HGB6.out 3
        simp only [List.getElem?_toArray, List.getElem?_cons_zero, List.getElem?_cons_succ] at e36
        have f36 : w6.frozen? ⟨G, 3, none⟩ = false := by have := HGB6.out; simp only [World.frozen?, this]; rfl
        obtain ⟨A6, c6, rfl⟩ := hO6.len
        rw [hl6] at hO6
        rw [hl6] at HV6
        rw [hl6]
        have HO6 := Lib.hid hO6
        clear hO6 hg6 hv6 hl6
        (try go_wp2_with fail)
        refine hK.out _ _ ?_ (fun hHeld => ?_)
        focus ((try dsimp only); (first | exact ⟨cell_below ((Below.refl w3.heap.size w3).drew) e1, cell_below ((Below.refl w3.heap.size w3).drew) d0, cell_below ((Below.refl w3.heap.size w3).drew) d1, cell_below ((Below.refl w3.heap.size w3).drew) d2, cell_below ((Below.refl w3.heap.size w3).drew) d3, cell_below ((Below.refl w3.heap.size w3).drew) d4, cell_below ((Below.refl w3.heap.size w3).drew) d5, cell_below ((Below.refl w3.heap.size w3).drew) d6, cell_below ((Below.refl w3.heap.size w3).drew) d7, cell_below ((Below.refl w3.heap.size w3).drew) d8, cell_below ((Below.refl w3.heap.size w3).drew) d9, cell_below ((Below.refl w3.heap.size w3).drew) d10⟩ | exact SK7.out | exact SK6.out | exact ⟨cell_below (by go_grown) e1, cell_below (by go_grown) d0, cell_below (by go_grown) d1, cell_below (by go_grown) d2, cell_below (by go_grown) d3, cell_below (by go_grown) d4, cell_below (by go_grown) d5, cell_below (by go_grown) d6, cell_below (by go_grown) d7, cell_below (by go_grown) d8, cell_below (by go_grown) d9, cell_below (by go_grown) d10⟩); done)
        clear hK K
        (try simp only [Act.put, List.setIfInBounds_toArray, List.set_cons_zero, List.set_cons_succ])
        refine wpAnyH_take (i := 21) (oi := ⟨_, _, _, _, _, _⟩) (v := ?_) rfl (by kernel_rfl) (by kernel_rfl) (by kernel_rfl) (fun _ _ _ h => h) (Or.inl ⟨by rfl, ?_⟩) (by assumption) ?_; rotate_left; (focus (intro w hSw; (try dsimp only at hSw); go_simp; (try with_reducible rfl); done)); simp only [Act.put, List.setIfInBounds_toArray, List.set_cons_zero, List.set_cons_succ]
        refine wpAnyH_take (i := 22) (oi := ⟨_, _, _, _, _, _⟩) (v := ?_) rfl (by kernel_rfl) (by kernel_rfl) (by kernel_rfl) (fun _ _ _ h => h) (Or.inl ⟨by rfl, ?_⟩) (by assumption) ?_; rotate_left; (focus (intro w hSw; (try dsimp only at hSw); go_simp; (try with_reducible rfl); done)); simp only [Act.put, List.setIfInBounds_toArray, List.set_cons_zero, List.set_cons_succ]
        refine wpAnyH_ready (rs := [23]) (by kernel_rfl) (by simp) ?_
        refine AllReadyH.cons (o := ⟨_, _, _, _, _, _⟩) rfl (fun K hK => ?_) AllReadyH.nil
        go_simp
        have HG7 := Lib.hid (heap_setCell_same w6 G 3 _ _ (.slice A6 (es.length + 1) c6) HGB6.out)
        have HX7 := Lib.hid ((Below.heap_setCell w6 ⟨G, 3, none⟩ (.slice A6 (es.length + 1) c6) w.heap.size (fun e => HGX.out e.symm)).trans HXB6.out)
        have SK7 := Lib.hid (And.intro (cell_block HG7.out 1) (cells11 HX7.out))
        (try go_wp2_with fail)
        refine hK.out _ _ ?_ (fun hHeld => ?_)
        focus ((try dsimp only); (first | exact ⟨cell_below ((Below.refl w3.heap.size w3).drew) e1, cell_below ((Below.refl w3.heap.size w3).drew) d0, cell_below ((Below.refl w3.heap.size w3).drew) d1, cell_below ((Below.refl w3.heap.size w3).drew) d2, cell_below ((Below.refl w3.heap.size w3).drew) d3, cell_below ((Below.refl w3.heap.size w3).drew) d4, cell_below ((Below.refl w3.heap.size w3).drew) d5, cell_below ((Below.refl w3.heap.size w3).drew) d6, cell_below ((Below.refl w3.heap.size w3).drew) d7, cell_below ((Below.refl w3.heap.size w3).drew) d8, cell_below ((Below.refl w3.heap.size w3).drew) d9, cell_below ((Below.refl w3.heap.size w3).drew) d10⟩ | exact SK7.out | exact SK6.out | exact ⟨cell_below (by go_grown) e1, cell_below (by go_grown) d0, cell_below (by go_grown) d1, cell_below (by go_grown) d2, cell_below (by go_grown) d3, cell_below (by go_grown) d4, cell_below (by go_grown) d5, cell_below (by go_grown) d6, cell_below (by go_grown) d7, cell_below (by go_grown) d8, cell_below (by go_grown) d9, cell_below (by go_grown) d10⟩); done)
        clear hK K
        (try simp only [Act.put, List.setIfInBounds_toArray, List.set_cons_zero, List.set_cons_succ])
        refine wpAnyH_done (by kernel_rfl) ?_ _
        go_wp2
        go_ret
        refine rstart_fin HR.out HE.out.lt HBB.out HLX3.out HLX.out HP3.out HO3.out (fun k hk hne hn => (Below.heap_setCell _ _ _ _ hne).trans (HK6.out k hk hn)) ((Below.heap_setCell w6 ⟨G, 3, none⟩ _ w3.heap.size (fun e => by have := HGL.out; simp only at e; omega)).trans HTK6.out) HG7.out (HO6.out.keep (fun g' hg' => Below.heap_setCell _ _ _ _ (fun e => ?_))) (by have := HV6.out; rw [HZE.out] at this; exact this) (by have := HG6.out.size; have := HZE.out; simp [World.setCell]; omega) HG6.out.os HG6.out.tape HG6.out.output (inv_start' HE.out.inv H0.out H1.out H6.out HSH.out H7.out H8.out q9)
        simp only at e
        subst e
        rcases HV6.out with e | e
        · rw [hg'] at e; exact (HNO.out _ e.symm).2 rfl
        · rw [hg'] at e; injection e with e; have := HGL.out; have := HZE.out; omega
      · go_simp
        (try go_wp2_with fail)
        refine hK.out _ _ ?_ (fun hHeld => ?_)
        focus ((try dsimp only); (first | exact ⟨cell_below ((Below.refl w3.heap.size w3).drew) e1, cell_below ((Below.refl w3.heap.size w3).drew) d0, cell_below ((Below.refl w3.heap.size w3).drew) d1, cell_below ((Below.refl w3.heap.size w3).drew) d2, cell_below ((Below.refl w3.heap.size w3).drew) d3, cell_below ((Below.refl w3.heap.size w3).drew) d4, cell_below ((Below.refl w3.heap.size w3).drew) d5, cell_below ((Below.refl w3.heap.size w3).drew) d6, cell_below ((Below.refl w3.heap.size w3).drew) d7, cell_below ((Below.refl w3.heap.size w3).drew) d8, cell_below ((Below.refl w3.heap.size w3).drew) d9, cell_below ((Below.refl w3.heap.size w3).drew) d10⟩ | exact SK7.out | exact SK6.out | exact ⟨cell_below (by go_grown) e1, cell_below (by go_grown) d0, cell_below (by go_grown) d1, cell_below (by go_grown) d2, cell_below (by go_grown) d3, cell_below (by go_grown) d4, cell_below (by go_grown) d5, cell_below (by go_grown) d6, cell_below (by go_grown) d7, cell_below (by go_grown) d8, cell_below (by go_grown) d9, cell_below (by go_grown) d10⟩); done)
        clear hK K
        (try simp only [Act.put, List.setIfInBounds_toArray, List.set_cons_zero, List.set_cons_succ])
        refine wpAnyH_ready (rs := [8]) (by kernel_rfl) (by simp) ?_
        refine AllReadyH.cons (o := ⟨_, _, _, _, _, _⟩) rfl (fun K hK => ?_) AllReadyH.nil
        go_simp
        (try go_wp2_with fail)
        refine hK.out _ _ ?_ (fun hHeld => ?_)
        focus ((try dsimp only); (first | exact ⟨cell_below ((Below.refl w3.heap.size w3).drew) e1, cell_below ((Below.refl w3.heap.size w3).drew) d0, cell_below ((Below.refl w3.heap.size w3).drew) d1, cell_below ((Below.refl w3.heap.size w3).drew) d2, cell_below ((Below.refl w3.heap.size w3).drew) d3, cell_below ((Below.refl w3.heap.size w3).drew) d4, cell_below ((Below.refl w3.heap.size w3).drew) d5, cell_below ((Below.refl w3.heap.size w3).drew) d6, cell_below ((Below.refl w3.heap.size w3).drew) d7, cell_below ((Below.refl w3.heap.size w3).drew) d8, cell_below ((Below.refl w3.heap.size w3).drew) d9, cell_below ((Below.refl w3.heap.size w3).drew) d10⟩ | exact SK7.out | exact SK6.out | exact ⟨cell_below (by go_grown) e1, cell_below (by go_grown) d0, cell_below (by go_grown) d1, cell_below (by go_grown) d2, cell_below (by go_grown) d3, cell_below (by go_grown) d4, cell_below (by go_grown) d5, cell_below (by go_grown) d6, cell_below (by go_grown) d7, cell_below (by go_grown) d8, cell_below (by go_grown) d9, cell_below (by go_grown) d10⟩); done)
        clear hK K
        (try simp only [Act.put, List.setIfInBounds_toArray, List.set_cons_zero, List.set_cons_succ])
        refine wpAnyH_take (i := 18) (oi := ⟨_, _, _, _, _, _⟩) (v := ?_) rfl (by kernel_rfl) (by kernel_rfl) (by kernel_rfl) (fun _ _ _ h => h) (Or.inl ⟨by rfl, ?_⟩) (by assumption) ?_; rotate_left; (focus (intro w hSw; (try dsimp only at hSw); go_simp; (try with_reducible rfl); done)); simp only [Act.put, List.setIfInBounds_toArray, List.set_cons_zero, List.set_cons_succ]
        refine wpAnyH_ready (rs := [19]) (by kernel_rfl) (by simp) ?_
        refine AllReadyH.cons (o := ⟨_, _, _, _, _, _⟩) rfl (fun K hK => ?_) AllReadyH.nil
        go_simp
        (try go_wp2_with fail)
        refine hK.out _ _ ?_ (fun hHeld => ?_)
        focus ((try dsimp only); (first | exact ⟨cell_below ((Below.refl w3.heap.size w3).drew) e1, cell_below ((Below.refl w3.heap.size w3).drew) d0, cell_below ((Below.refl w3.heap.size w3).drew) d1, cell_below ((Below.refl w3.heap.size w3).drew) d2, cell_below ((Below.refl w3.heap.size w3).drew) d3, cell_below ((Below.refl w3.heap.size w3).drew) d4, cell_below ((Below.refl w3.heap.size w3).drew) d5, cell_below ((Below.refl w3.heap.size w3).drew) d6, cell_below ((Below.refl w3.heap.size w3).drew) d7, cell_below ((Below.refl w3.heap.size w3).drew) d8, cell_below ((Below.refl w3.heap.size w3).drew) d9, cell_below ((Below.refl w3.heap.size w3).drew) d10⟩ | exact SK7.out | exact SK6.out | exact ⟨cell_below (by go_grown) e1, cell_below (by go_grown) d0, cell_below (by go_grown) d1, cell_below (by go_grown) d2, cell_below (by go_grown) d3, cell_below (by go_grown) d4, cell_below (by go_grown) d5, cell_below (by go_grown) d6, cell_below (by go_grown) d7, cell_below (by go_grown) d8, cell_below (by go_grown) d9, cell_below (by go_grown) d10⟩); done)
        clear hK K
        (try simp only [Act.put, List.setIfInBounds_toArray, List.set_cons_zero, List.set_cons_succ])
        refine wpAnyH_ready (rs := [20]) (by kernel_rfl) (by simp) ?_
        refine AllReadyH.cons (o := ⟨_, _, _, _, _, _⟩) rfl (fun K hK => ?_) AllReadyH.nil
        refine wp_app16 (.tmp 87) (.tmp 102) rfl (.slice A1 es.length c1) es rfl HOE.out (w3.heap.size + 1) 1 (newF st i t g now, A2, c2, some ⟨w3.heap.size, 0, none⟩, 1) rfl HEL.out (by omega) ?_
        intro v6 w6 hO6 hg6 hv6
        have hl6 : (es ++ [((newF st i t g now, A2, c2, some ⟨w3.heap.size, 0, none⟩, 1) : FmE)]).length = es.length + 1 := by simp
        have HV6 := Lib.hid hv6
        have HG6 := Lib.hid hg6
        have HK6 := Lib.hid (show ∀ k, k < w3.heap.size → ¬ (Value.slice A1 es.length c1).ownBlock = some k → w6.heap[k]? = w3.heap[k]? from fun k hk hn => (hg6.block k (by have := HZE.out; omega) (fun e => hn e.symm)).trans (HWG.out.block k hk))
        have HGB6 := Lib.hid ((HK6.out G HGL.out (fun e => (HNO.out G e).2 rfl)).trans HP3.out.hG)
        have HXB6 := Lib.hid ((HK6.out w.heap.size HLX3.out (fun e => by have := (HNO.out _ e).1; omega)).trans HX3.out)
        have HTK6 := Lib.hid ((hg6.block w3.heap.size (by have := HZE.out; omega) (fun e => by have := (HNO.out _ e.symm).1; have := HLX3.out; omega)).trans HTK.out)
        have SK6 := Lib.hid (And.intro (cell_block HGB6.out 1) (cells11 HXB6.out))
        have e36 := cell_block HGB6.out 3
        simp only [List.getElem?_toArray, List.getElem?_cons_zero, List.getElem?_cons_succ] at e36
        have f36 : w6.frozen? ⟨G, 3, none⟩ = false := by have := HGB6.out; simp only [World.frozen?, this]; rfl
        obtain ⟨A6, c6, rfl⟩ := hO6.len
        rw [hl6] at hO6
        rw [hl6] at HV6
        rw [hl6]
        have HO6 := Lib.hid hO6
        clear hO6 hg6 hv6 hl6
        (try go_wp2_with fail)
        refine hK.out _ _ ?_ (fun hHeld => ?_)
        focus ((try dsimp only); (first | exact ⟨cell_below ((Below.refl w3.heap.size w3).drew) e1, cell_below ((Below.refl w3.heap.size w3).drew) d0, cell_below ((Below.refl w3.heap.size w3).drew) d1, cell_below ((Below.refl w3.heap.size w3).drew) d2, cell_below ((Below.refl w3.heap.size w3).drew) d3, cell_below ((Below.refl w3.heap.size w3).drew) d4, cell_below ((Below.refl w3.heap.size w3).drew) d5, cell_below ((Below.refl w3.heap.size w3).drew) d6, cell_below ((Below.refl w3.heap.size w3).drew) d7, cell_below ((Below.refl w3.heap.size w3).drew) d8, cell_below ((Below.refl w3.heap.size w3).drew) d9, cell_below ((Below.refl w3.heap.size w3).drew) d10⟩ | exact SK7.out | exact SK6.out | exact ⟨cell_below (by go_grown) e1, cell_below (by go_grown) d0, cell_below (by go_grown) d1, cell_below (by go_grown) d2, cell_below (by go_grown) d3, cell_below (by go_grown) d4, cell_below (by go_grown) d5, cell_below (by go_grown) d6, cell_below (by go_grown) d7, cell_below (by go_grown) d8, cell_below (by go_grown) d9, cell_below (by go_grown) d10⟩); done)
        clear hK K
        (try simp only [Act.put, List.setIfInBounds_toArray, List.set_cons_zero, List.set_cons_succ])
        refine wpAnyH_take (i := 21) (oi := ⟨_, _, _, _, _, _⟩) (v := ?_) rfl (by kernel_rfl) (by kernel_rfl) (by kernel_rfl) (fun _ _ _ h => h) (Or.inl ⟨by rfl, ?_⟩) (by assumption) ?_; rotate_left; (focus (intro w hSw; (try dsimp only at hSw); go_simp; (try with_reducible rfl); done)); simp only [Act.put, List.setIfInBounds_toArray, List.set_cons_zero, List.set_cons_succ]
        refine wpAnyH_take (i := 22) (oi := ⟨_, _, _, _, _, _⟩) (v := ?_) rfl (by kernel_rfl) (by kernel_rfl) (by kernel_rfl) (fun _ _ _ h => h) (Or.inl ⟨by rfl, ?_⟩) (by assumption) ?_; rotate_left; (focus (intro w hSw; (try dsimp only at hSw); go_simp; (try with_reducible rfl); done)); simp only [Act.put, List.setIfInBounds_toArray, List.set_cons_zero, List.set_cons_succ]
        refine wpAnyH_ready (rs := [23]) (by kernel_rfl) (by simp) ?_
        refine AllReadyH.cons (o := ⟨_, _, _, _, _, _⟩) rfl (fun K hK => ?_) AllReadyH.nil
        go_simp
        have HG7 := Lib.hid (heap_setCell_same w6 G 3 _ _ (.slice A6 (es.length + 1) c6) HGB6.out)
        have HX7 := Lib.hid ((Below.heap_setCell w6 ⟨G, 3, none⟩ (.slice A6 (es.length + 1) c6) w.heap.size (fun e => HGX.out e.symm)).trans HXB6.out)
        have SK7 := Lib.hid (And.intro (cell_block HG7.out 1) (cells11 HX7.out))
        (try go_wp2_with fail)
        refine hK.out _ _ ?_ (fun hHeld => ?_)
        focus ((try dsimp only); (first | exact ⟨cell_below ((Below.refl w3.heap.size w3).drew) e1, cell_below ((Below.refl w3.heap.size w3).drew) d0, cell_below ((Below.refl w3.heap.size w3).drew) d1, cell_below ((Below.refl w3.heap.size w3).drew) d2, cell_below ((Below.refl w3.heap.size w3).drew) d3, cell_below ((Below.refl w3.heap.size w3).drew) d4, cell_below ((Below.refl w3.heap.size w3).drew) d5, cell_below ((Below.refl w3.heap.size w3).drew) d6, cell_below ((Below.refl w3.heap.size w3).drew) d7, cell_below ((Below.refl w3.heap.size w3).drew) d8, cell_below ((Below.refl w3.heap.size w3).drew) d9, cell_below ((Below.refl w3.heap.size w3).drew) d10⟩ | exact SK7.out | exact SK6.out | exact ⟨cell_below (by go_grown) e1, cell_below (by go_grown) d0, cell_below (by go_grown) d1, cell_below (by go_grown) d2, cell_below (by go_grown) d3, cell_below (by go_grown) d4, cell_below (by go_grown) d5, cell_below (by go_grown) d6, cell_below (by go_grown) d7, cell_below (by go_grown) d8, cell_below (by go_grown) d9, cell_below (by go_grown) d10⟩); done)
        clear hK K
        (try simp only [Act.put, List.setIfInBounds_toArray, List.set_cons_zero, List.set_cons_succ])
        refine wpAnyH_done (by kernel_rfl) ?_ _
        go_wp2
        go_ret
        refine rstart_fin HR.out HE.out.lt HBB.out HLX3.out HLX.out HP3.out HO3.out (fun k hk hne hn => (Below.heap_setCell _ _ _ _ hne).trans (HK6.out k hk hn)) ((Below.heap_setCell w6 ⟨G, 3, none⟩ _ w3.heap.size (fun e => by have := HGL.out; simp only at e; omega)).trans HTK6.out) HG7.out (HO6.out.keep (fun g' hg' => Below.heap_setCell _ _ _ _ (fun e => ?_))) (by have := HV6.out; rw [HZE.out] at this; exact this) (by have := HG6.out.size; have := HZE.out; simp [World.setCell]; omega) HG6.out.os HG6.out.tape HG6.out.output (inv_start' HE.out.inv H0.out H1.out H6.out HSH.out H7.out H8.out q9)
        simp only at e
        subst e
        rcases HV6.out with e | e
        · rw [hg'] at e; exact (HNO.out _ e.symm).2 rfl
        · rw [hg'] at e; injection e with e; have := HGL.out; have := HZE.out; omega
    · go_simp
      (try go_wp2_with fail)
      refine hK.out _ _ ?_ (fun hHeld => ?_)
      focus ((try dsimp only); (first | exact ⟨cell_below ((Below.refl w3.heap.size w3).drew) e1, cell_below ((Below.refl w3.heap.size w3).drew) d0, cell_below ((Below.refl w3.heap.size w3).drew) d1, cell_below ((Below.refl w3.heap.size w3).drew) d2, cell_below ((Below.refl w3.heap.size w3).drew) d3, cell_below ((Below.refl w3.heap.size w3).drew) d4, cell_below ((Below.refl w3.heap.size w3).drew) d5, cell_below ((Below.refl w3.heap.size w3).drew) d6, cell_below ((Below.refl w3.heap.size w3).drew) d7, cell_below ((Below.refl w3.heap.size w3).drew) d8, cell_below ((Below.refl w3.heap.size w3).drew) d9, cell_below ((Below.refl w3.heap.size w3).drew) d10⟩ | exact SK7.out | exact SK6.out | exact ⟨cell_below (by go_grown) e1, cell_below (by go_grown) d0, cell_below (by go_grown) d1, cell_below (by go_grown) d2, cell_below (by go_grown) d3, cell_below (by go_grown) d4, cell_below (by go_grown) d5, cell_below (by go_grown) d6, cell_below (by go_grown) d7, cell_below (by go_grown) d8, cell_below (by go_grown) d9, cell_below (by go_grown) d10⟩); done)
      clear hK K
      (try simp only [Act.put, List.setIfInBounds_toArray, List.set_cons_zero, List.set_cons_succ])
      refine wpAnyH_ready (rs := [4, 16]) (by kernel_rfl) (by simp) ?_
      refine AllReadyH.cons (o := ⟨_, _, _, _, _, _⟩) rfl (fun K hK => ?_) (AllReadyH.cons (o := ⟨_, _, _, _, _, _⟩) rfl (fun K hK => ?_) AllReadyH.nil)
      · go_simp
        (try go_wp2_with fail)
        refine hK.out _ _ ?_ (fun hHeld => ?_)
        focus ((try dsimp only); (first | exact ⟨cell_below ((Below.refl w3.heap.size w3).drew) e1, cell_below ((Below.refl w3.heap.size w3).drew) d0, cell_below ((Below.refl w3.heap.size w3).drew) d1, cell_below ((Below.refl w3.heap.size w3).drew) d2, cell_below ((Below.refl w3.heap.size w3).drew) d3, cell_below ((Below.refl w3.heap.size w3).drew) d4, cell_below ((Below.refl w3.heap.size w3).drew) d5, cell_below ((Below.refl w3.heap.size w3).drew) d6, cell_below ((Below.refl w3.heap.size w3).drew) d7, cell_below ((Below.refl w3.heap.size w3).drew) d8, cell_below ((Below.refl w3.heap.size w3).drew) d9, cell_below ((Below.refl w3.heap.size w3).drew) d10⟩ | exact SK7.out | exact SK6.out | exact ⟨cell_below (by go_grown) e1, cell_below (by go_grown) d0, cell_below (by go_grown) d1, cell_below (by go_grown) d2, cell_below (by go_grown) d3, cell_below (by go_grown) d4, cell_below (by go_grown) d5, cell_below (by go_grown) d6, cell_below (by go_grown) d7, cell_below (by go_grown) d8, cell_below (by go_grown) d9, cell_below (by go_grown) d10⟩); done)
        clear hK K
        (try simp only [Act.put, List.setIfInBounds_toArray, List.set_cons_zero, List.set_cons_succ])
        refine wpAnyH_ready (rs := [16]) (by kernel_rfl) (by simp) ?_
        refine AllReadyH.cons (o := ⟨_, _, _, _, _, _⟩) rfl (fun K hK => ?_) AllReadyH.nil
        go_simp
        (try go_wp2_with fail)
        refine hK.out _ _ ?_ (fun hHeld => ?_)
        focus ((try dsimp only); (first | exact ⟨cell_below ((Below.refl w3.heap.size w3).drew) e1, cell_below ((Below.refl w3.heap.size w3).drew) d0, cell_below ((Below.refl w3.heap.size w3).drew) d1, cell_below ((Below.refl w3.heap.size w3).drew) d2, cell_below ((Below.refl w3.heap.size w3).drew) d3, cell_below ((Below.refl w3.heap.size w3).drew) d4, cell_below ((Below.refl w3.heap.size w3).drew) d5, cell_below ((Below.refl w3.heap.size w3).drew) d6, cell_below ((Below.refl w3.heap.size w3).drew) d7, cell_below ((Below.refl w3.heap.size w3).drew) d8, cell_below ((Below.refl w3.heap.size w3).drew) d9, cell_below ((Below.refl w3.heap.size w3).drew) d10⟩ | exact SK7.out | exact SK6.out | exact ⟨cell_below (by go_grown) e1, cell_below (by go_grown) d0, cell_below (by go_grown) d1, cell_below (by go_grown) d2, cell_below (by go_grown) d3, cell_below (by go_grown) d4, cell_below (by go_grown) d5, cell_below (by go_grown) d6, cell_below (by go_grown) d7, cell_below (by go_grown) d8, cell_below (by go_grown) d9, cell_below (by go_grown) d10⟩); done)
        clear hK K
        (try simp only [Act.put, List.setIfInBounds_toArray, List.set_cons_zero, List.set_cons_succ])
        refine wpAnyH_take (i := 18) (oi := ⟨_, _, _, _, _, _⟩) (v := ?_) rfl (by kernel_rfl) (by kernel_rfl) (by kernel_rfl) (fun _ _ _ h => h) (Or.inl ⟨by rfl, ?_⟩) (by assumption) ?_; rotate_left; (focus (intro w hSw; (try dsimp only at hSw); go_simp; (try with_reducible rfl); done)); simp only [Act.put, List.setIfInBounds_toArray, List.set_cons_zero, List.set_cons_succ]
        refine wpAnyH_ready (rs := [19]) (by kernel_rfl) (by simp) ?_
        refine AllReadyH.cons (o := ⟨_, _, _, _, _, _⟩) rfl (fun K hK => ?_) AllReadyH.nil
        go_simp
        (try go_wp2_with fail)
        refine hK.out _ _ ?_ (fun hHeld => ?_)
        focus ((try dsimp only); (first | exact ⟨cell_below ((Below.refl w3.heap.size w3).drew) e1, cell_below ((Below.refl w3.heap.size w3).drew) d0, cell_below ((Below.refl w3.heap.size w3).drew) d1, cell_below ((Below.refl w3.heap.size w3).drew) d2, cell_below ((Below.refl w3.heap.size w3).drew) d3, cell_below ((Below.refl w3.heap.size w3).drew) d4, cell_below ((Below.refl w3.heap.size w3).drew) d5, cell_below ((Below.refl w3.heap.size w3).drew) d6, cell_below ((Below.refl w3.heap.size w3).drew) d7, cell_below ((Below.refl w3.heap.size w3).drew) d8, cell_below ((Below.refl w3.heap.size w3).drew) d9, cell_below ((Below.refl w3.heap.size w3).drew) d10⟩ | exact SK7.out | exact SK6.out | exact ⟨cell_below (by go_grown) e1, cell_below (by go_grown) d0, cell_below (by go_grown) d1, cell_below (by go_grown) d2, cell_below (by go_grown) d3, cell_below (by go_grown) d4, cell_below (by go_grown) d5, cell_below (by go_grown) d6, cell_below (by go_grown) d7, cell_below (by go_grown) d8, cell_below (by go_grown) d9, cell_below (by go_grown) d10⟩); done)
        clear hK K
        (try simp only [Act.put, List.setIfInBounds_toArray, List.set_cons_zero, List.set_cons_succ])
        refine wpAnyH_ready (rs := [20]) (by kernel_rfl) (by simp) ?_
        refine AllReadyH.cons (o := ⟨_, _, _, _, _, _⟩) rfl (fun K hK => ?_) AllReadyH.nil
        refine wp_app16 (.tmp 87) (.tmp 102) rfl (.slice A1 es.length c1) es rfl HOE.out (w3.heap.size + 1) 1 (newF st i t g now, A2, c2, some ⟨w3.heap.size, 0, none⟩, 1) rfl HEL.out (by omega) ?_
        intro v6 w6 hO6 hg6 hv6
        have hl6 : (es ++ [((newF st i t g now, A2, c2, some ⟨w3.heap.size, 0, none⟩, 1) : FmE)]).length = es.length + 1 := by simp
        have HV6 := Lib.hid hv6
        have HG6 := Lib.hid hg6
        have HK6 := Lib.hid (show ∀ k, k < w3.heap.size → ¬ (Value.slice A1 es.length c1).ownBlock = some k → w6.heap[k]? = w3.heap[k]? from fun k hk hn => (hg6.block k (by have := HZE.out; omega) (fun e => hn e.symm)).trans (HWG.out.block k hk))
        have HGB6 := Lib.hid ((HK6.out G HGL.out (fun e => (HNO.out G e).2 rfl)).trans HP3.out.hG)
        have HXB6 := Lib.hid ((HK6.out w.heap.size HLX3.out (fun e => by have := (HNO.out _ e).1; omega)).trans HX3.out)
        have HTK6 := Lib.hid ((hg6.block w3.heap.size (by have := HZE.out; omega) (fun e => by have := (HNO.out _ e.symm).1; have := HLX3.out; omega)).trans HTK.out)
        have SK6 := Lib.hid (And.intro (cell_block HGB6.out 1) (cells11 HXB6.out))
        have e36 := cell_block HGB6.out 3
        simp only [List.getElem?_toArray, List.getElem?_cons_zero, List.getElem?_cons_succ] at e36
        have f36 : w6.frozen? ⟨G, 3, none⟩ = false := by have := HGB6.out; simp only [World.frozen?, this]; rfl
        obtain ⟨A6, c6, rfl⟩ := hO6.len
        rw [hl6] at hO6
        rw [hl6] at HV6
        rw [hl6]
        have HO6 := Lib.hid hO6
        clear hO6 hg6 hv6 hl6
        (try go_wp2_with fail)
        refine hK.out _ _ ?_ (fun hHeld => ?_)
        focus ((try dsimp only); (first | exact ⟨cell_below ((Below.refl w3.heap.size w3).drew) e1, cell_below ((Below.refl w3.heap.size w3).drew) d0, cell_below ((Below.refl w3.heap.size w3).drew) d1, cell_below ((Below.refl w3.heap.size w3).drew) d2, cell_below ((Below.refl w3.heap.size w3).drew) d3, cell_below ((Below.refl w3.heap.size w3).drew) d4, cell_below ((Below.refl w3.heap.size w3).drew) d5, cell_below ((Below.refl w3.heap.size w3).drew) d6, cell_below ((Below.refl w3.heap.size w3).drew) d7, cell_below ((Below.refl w3.heap.size w3).drew) d8, cell_below ((Below.refl w3.heap.size w3).drew) d9, cell_below ((Below.refl w3.heap.size w3).drew) d10⟩ | exact SK7.out | exact SK6.out | exact ⟨cell_below (by go_grown) e1, cell_below (by go_grown) d0, cell_below (by go_grown) d1, cell_below (by go_grown) d2, cell_below (by go_grown) d3, cell_below (by go_grown) d4, cell_below (by go_grown) d5, cell_below (by go_grown) d6, cell_below (by go_grown) d7, cell_below (by go_grown) d8, cell_below (by go_grown) d9, cell_below (by go_grown) d10⟩); done)
        clear hK K
        (try simp only [Act.put, List.setIfInBounds_toArray, List.set_cons_zero, List.set_cons_succ])
        refine wpAnyH_take (i := 21) (oi := ⟨_, _, _, _, _, _⟩) (v := ?_) rfl (by kernel_rfl) (by kernel_rfl) (by kernel_rfl) (fun _ _ _ h => h) (Or.inl ⟨by rfl, ?_⟩) (by assumption) ?_; rotate_left; (focus (intro w hSw; (try dsimp only at hSw); go_simp; (try with_reducible rfl); done)); simp only [Act.put, List.setIfInBounds_toArray, List.set_cons_zero, List.set_cons_succ]
        refine wpAnyH_take (i := 22) (oi := ⟨_, _, _, _, _, _⟩) (v := ?_) rfl (by kernel_rfl) (by kernel_rfl) (by kernel_rfl) (fun _ _ _ h => h) (Or.inl ⟨by rfl, ?_⟩) (by assumption) ?_; rotate_left; (focus (intro w hSw; (try dsimp only at hSw); go_simp; (try with_reducible rfl); done)); simp only [Act.put, List.setIfInBounds_toArray, List.set_cons_zero, List.set_cons_succ]
        refine wpAnyH_ready (rs := [23]) (by kernel_rfl) (by simp) ?_
        refine AllReadyH.cons (o := ⟨_, _, _, _, _, _⟩) rfl (fun K hK => ?_) AllReadyH.nil
        go_simp
        have HG7 := Lib.hid (heap_setCell_same w6 G 3 _ _ (.slice A6 (es.length + 1) c6) HGB6.out)
        have HX7 := Lib.hid ((Below.heap_setCell w6 ⟨G, 3, none⟩ (.slice A6 (es.length + 1) c6) w.heap.size (fun e => HGX.out e.symm)).trans HXB6.out)
        have SK7 := Lib.hid (And.intro (cell_block HG7.out 1) (cells11 HX7.out))
        (try go_wp2_with fail)
        refine hK.out _ _ ?_ (fun hHeld => ?_)
        focus ((try dsimp only); (first | exact ⟨cell_below ((Below.refl w3.heap.size w3).drew) e1, cell_below ((Below.refl w3.heap.size w3).drew) d0, cell_below ((Below.refl w3.heap.size w3).drew) d1, cell_below ((Below.refl w3.heap.size w3).drew) d2, cell_below ((Below.refl w3.heap.size w3).drew) d3, cell_below ((Below.refl w3.heap.size w3).drew) d4, cell_below ((Below.refl w3.heap.size w3).drew) d5, cell_below ((Below.refl w3.heap.size w3).drew) d6, cell_below ((Below.refl w3.heap.size w3).drew) d7, cell_below ((Below.refl w3.heap.size w3).drew) d8, cell_below ((Below.refl w3.heap.size w3).drew) d9, cell_below ((Below.refl w3.heap.size w3).drew) d10⟩ | exact SK7.out | exact SK6.out | exact ⟨cell_below (by go_grown) e1, cell_below (by go_grown) d0, cell_below (by go_grown) d1, cell_below (by go_grown) d2, cell_below (by go_grown) d3, cell_below (by go_grown) d4, cell_below (by go_grown) d5, cell_below (by go_grown) d6, cell_below (by go_grown) d7, cell_below (by go_grown) d8, cell_below (by go_grown) d9, cell_below (by go_grown) d10⟩); done)
        clear hK K
        (try simp only [Act.put, List.setIfInBounds_toArray, List.set_cons_zero, List.set_cons_succ])
        refine wpAnyH_done (by kernel_rfl) ?_ _
        go_wp2
        go_ret
        refine rstart_fin HR.out HE.out.lt HBB.out HLX3.out HLX.out HP3.out HO3.out (fun k hk hne hn => (Below.heap_setCell _ _ _ _ hne).trans (HK6.out k hk hn)) ((Below.heap_setCell w6 ⟨G, 3, none⟩ _ w3.heap.size (fun e => by have := HGL.out; simp only at e; omega)).trans HTK6.out) HG7.out (HO6.out.keep (fun g' hg' => Below.heap_setCell _ _ _ _ (fun e => ?_))) (by have := HV6.out; rw [HZE.out] at this; exact this) (by have := HG6.out.size; have := HZE.out; simp [World.setCell]; omega) HG6.out.os HG6.out.tape HG6.out.output (inv_start' HE.out.inv H0.out H1.out H6.out HSH.out H7.out H8.out q9)
        simp only at e
        subst e
        rcases HV6.out with e | e
        · rw [hg'] at e; exact (HNO.out _ e.symm).2 rfl
        · rw [hg'] at e; injection e with e; have := HGL.out; have := HZE.out; omega
      · go_simp
        (try go_wp2_with fail)
        refine hK.out _ _ ?_ (fun hHeld => ?_)
        focus ((try dsimp only); (first | exact ⟨cell_below ((Below.refl w3.heap.size w3).drew) e1, cell_below ((Below.refl w3.heap.size w3).drew) d0, cell_below ((Below.refl w3.heap.size w3).drew) d1, cell_below ((Below.refl w3.heap.size w3).drew) d2, cell_below ((Below.refl w3.heap.size w3).drew) d3, cell_below ((Below.refl w3.heap.size w3).drew) d4, cell_below ((Below.refl w3.heap.size w3).drew) d5, cell_below ((Below.refl w3.heap.size w3).drew) d6, cell_below ((Below.refl w3.heap.size w3).drew) d7, cell_below ((Below.refl w3.heap.size w3).drew) d8, cell_below ((Below.refl w3.heap.size w3).drew) d9, cell_below ((Below.refl w3.heap.size w3).drew) d10⟩ | exact SK7.out | exact SK6.out | exact ⟨cell_below (by go_grown) e1, cell_below (by go_grown) d0, cell_below (by go_grown) d1, cell_below (by go_grown) d2, cell_below (by go_grown) d3, cell_below (by go_grown) d4, cell_below (by go_grown) d5, cell_below (by go_grown) d6, cell_below (by go_grown) d7, cell_below (by go_grown) d8, cell_below (by go_grown) d9, cell_below (by go_grown) d10⟩); done)
        clear hK K
        (try simp only [Act.put, List.setIfInBounds_toArray, List.set_cons_zero, List.set_cons_succ])
        refine wpAnyH_take (i := 18) (oi := ⟨_, _, _, _, _, _⟩) (v := ?_) rfl (by kernel_rfl) (by kernel_rfl) (by kernel_rfl) (fun _ _ _ h => h) (Or.inl ⟨by rfl, ?_⟩) (by assumption) ?_; rotate_left; (focus (intro w hSw; (try dsimp only at hSw); go_simp; (try with_reducible rfl); done)); simp only [Act.put, List.setIfInBounds_toArray, List.set_cons_zero, List.set_cons_succ]
        refine wpAnyH_ready (rs := [4, 19]) (by kernel_rfl) (by simp) ?_
        refine AllReadyH.cons (o := ⟨_, _, _, _, _, _⟩) rfl (fun K hK => ?_) (AllReadyH.cons (o := ⟨_, _, _, _, _, _⟩) rfl (fun K hK => ?_) AllReadyH.nil)
        · go_simp
          (try go_wp2_with fail)
          refine hK.out _ _ ?_ (fun hHeld => ?_)
          focus ((try dsimp only); (first | exact ⟨cell_below ((Below.refl w3.heap.size w3).drew) e1, cell_below ((Below.refl w3.heap.size w3).drew) d0, cell_below ((Below.refl w3.heap.size w3).drew) d1, cell_below ((Below.refl w3.heap.size w3).drew) d2, cell_below ((Below.refl w3.heap.size w3).drew) d3, cell_below ((Below.refl w3.heap.size w3).drew) d4, cell_below ((Below.refl w3.heap.size w3).drew) d5, cell_below ((Below.refl w3.heap.size w3).drew) d6, cell_below ((Below.refl w3.heap.size w3).drew) d7, cell_below ((Below.refl w3.heap.size w3).drew) d8, cell_below ((Below.refl w3.heap.size w3).drew) d9, cell_below ((Below.refl w3.heap.size w3).drew) d10⟩ | exact SK7.out | exact SK6.out | exact ⟨cell_below (by go_grown) e1, cell_below (by go_grown) d0, cell_below (by go_grown) d1, cell_below (by go_grown) d2, cell_below (by go_grown) d3, cell_below (by go_grown) d4, cell_below (by go_grown) d5, cell_below (by go_grown) d6, cell_below (by go_grown) d7, cell_below (by go_grown) d8, cell_below (by go_grown) d9, cell_below (by go_grown) d10⟩); done)
          clear hK K
          (try simp only [Act.put, List.setIfInBounds_toArray, List.set_cons_zero, List.set_cons_succ])
          refine wpAnyH_ready (rs := [19]) (by kernel_rfl) (by simp) ?_
          refine AllReadyH.cons (o := ⟨_, _, _, _, _, _⟩) rfl (fun K hK => ?_) AllReadyH.nil
          go_simp
          (try go_wp2_with fail)
          refine hK.out _ _ ?_ (fun hHeld => ?_)
          focus ((try dsimp only); (first | exact ⟨cell_below ((Below.refl w3.heap.size w3).drew) e1, cell_below ((Below.refl w3.heap.size w3).drew) d0, cell_below ((Below.refl w3.heap.size w3).drew) d1, cell_below ((Below.refl w3.heap.size w3).drew) d2, cell_below ((Below.refl w3.heap.size w3).drew) d3, cell_below ((Below.refl w3.heap.size w3).drew) d4, cell_below ((Below.refl w3.heap.size w3).drew) d5, cell_below ((Below.refl w3.heap.size w3).drew) d6, cell_below ((Below.refl w3.heap.size w3).drew) d7, cell_below ((Below.refl w3.heap.size w3).drew) d8, cell_below ((Below.refl w3.heap.size w3).drew) d9, cell_below ((Below.refl w3.heap.size w3).drew) d10⟩ | exact SK7.out | exact SK6.out | exact ⟨cell_below (by go_grown) e1, cell_below (by go_grown) d0, cell_below (by go_grown) d1, cell_below (by go_grown) d2, cell_below (by go_grown) d3, cell_below (by go_grown) d4, cell_below (by go_grown) d5, cell_below (by go_grown) d6, cell_below (by go_grown) d7, cell_below (by go_grown) d8, cell_below (by go_grown) d9, cell_below (by go_grown) d10⟩); done)
          clear hK K
          (try simp only [Act.put, List.setIfInBounds_toArray, List.set_cons_zero, List.set_cons_succ])
          refine wpAnyH_ready (rs := [20]) (by kernel_rfl) (by simp) ?_
          refine AllReadyH.cons (o := ⟨_, _, _, _, _, _⟩) rfl (fun K hK => ?_) AllReadyH.nil
          refine wp_app16 (.tmp 87) (.tmp 102) rfl (.slice A1 es.length c1) es rfl HOE.out (w3.heap.size + 1) 1 (newF st i t g now, A2, c2, some ⟨w3.heap.size, 0, none⟩, 1) rfl HEL.out (by omega) ?_
          intro v6 w6 hO6 hg6 hv6
          have hl6 : (es ++ [((newF st i t g now, A2, c2, some ⟨w3.heap.size, 0, none⟩, 1) : FmE)]).length = es.length + 1 := by simp
          have HV6 := Lib.hid hv6
          have HG6 := Lib.hid hg6
          have HK6 := Lib.hid (show ∀ k, k < w3.heap.size → ¬ (Value.slice A1 es.length c1).ownBlock = some k → w6.heap[k]? = w3.heap[k]? from fun k hk hn => (hg6.block k (by have := HZE.out; omega) (fun e => hn e.symm)).trans (HWG.out.block k hk))
          have HGB6 := Lib.hid ((HK6.out G HGL.out (fun e => (HNO.out G e).2 rfl)).trans HP3.out.hG)
          have HXB6 := Lib.hid ((HK6.out w.heap.size HLX3.out (fun e => by have := (HNO.out _ e).1; omega)).trans HX3.out)
          have HTK6 := Lib.hid ((hg6.block w3.heap.size (by have := HZE.out; omega) (fun e => by have := (HNO.out _ e.symm).1; have := HLX3.out; omega)).trans HTK.out)
          have SK6 := Lib.hid (And.intro (cell_block HGB6.out 1) (cells11 HXB6.out))
          have e36 := cell_block HGB6.out 3
          simp only [List.getElem?_toArray, List.getElem?_cons_zero, List.getElem?_cons_succ] at e36
          have f36 : w6.frozen? ⟨G, 3, none⟩ = false := by have := HGB6.out; simp only [World.frozen?, this]; rfl
          obtain ⟨A6, c6, rfl⟩ := hO6.len
          rw [hl6] at hO6
          rw [hl6] at HV6
          rw [hl6]
          have HO6 := Lib.hid hO6
          clear hO6 hg6 hv6 hl6
          (try go_wp2_with fail)
          refine hK.out _ _ ?_ (fun hHeld => ?_)
          focus ((try dsimp only); (first | exact ⟨cell_below ((Below.refl w3.heap.size w3).drew) e1, cell_below ((Below.refl w3.heap.size w3).drew) d0, cell_below ((Below.refl w3.heap.size w3).drew) d1, cell_below ((Below.refl w3.heap.size w3).drew) d2, cell_below ((Below.refl w3.heap.size w3).drew) d3, cell_below ((Below.refl w3.heap.size w3).drew) d4, cell_below ((Below.refl w3.heap.size w3).drew) d5, cell_below ((Below.refl w3.heap.size w3).drew) d6, cell_below ((Below.refl w3.heap.size w3).drew) d7, cell_below ((Below.refl w3.heap.size w3).drew) d8, cell_below ((Below.refl w3.heap.size w3).drew) d9, cell_below ((Below.refl w3.heap.size w3).drew) d10⟩ | exact SK7.out | exact SK6.out | exact ⟨cell_below (by go_grown) e1, cell_below (by go_grown) d0, cell_below (by go_grown) d1, cell_below (by go_grown) d2, cell_below (by go_grown) d3, cell_below (by go_grown) d4, cell_below (by go_grown) d5, cell_below (by go_grown) d6, cell_below (by go_grown) d7, cell_below (by go_grown) d8, cell_below (by go_grown) d9, cell_below (by go_grown) d10⟩); done)
          clear hK K
          (try simp only [Act.put, List.setIfInBounds_toArray, List.set_cons_zero, List.set_cons_succ])
          refine wpAnyH_take (i := 21) (oi := ⟨_, _, _, _, _, _⟩) (v := ?_) rfl (by kernel_rfl) (by kernel_rfl) (by kernel_rfl) (fun _ _ _ h => h) (Or.inl ⟨by rfl, ?_⟩) (by assumption) ?_; rotate_left; (focus (intro w hSw; (try dsimp only at hSw); go_simp; (try with_reducible rfl); done)); simp only [Act.put, List.setIfInBounds_toArray, List.set_cons_zero, List.set_cons_succ]
          refine wpAnyH_take (i := 22) (oi := ⟨_, _, _, _, _, _⟩) (v := ?_) rfl (by kernel_rfl) (by kernel_rfl) (by kernel_rfl) (fun _ _ _ h => h) (Or.inl ⟨by rfl, ?_⟩) (by assumption) ?_; rotate_left; (focus (intro w hSw; (try dsimp only at hSw); go_simp; (try with_reducible rfl); done)); simp only [Act.put, List.setIfInBounds_toArray, List.set_cons_zero, List.set_cons_succ]
          refine wpAnyH_ready (rs := [23]) (by kernel_rfl) (by simp) ?_
          refine AllReadyH.cons (o := ⟨_, _, _, _, _, _⟩) rfl (fun K hK => ?_) AllReadyH.nil
          go_simp
          have HG7 := Lib.hid (heap_setCell_same w6 G 3 _ _ (.slice A6 (es.length + 1) c6) HGB6.out)
          have HX7 := Lib.hid ((Below.heap_setCell w6 ⟨G, 3, none⟩ (.slice A6 (es.length + 1) c6) w.heap.size (fun e => HGX.out e.symm)).trans HXB6.out)
          have SK7 := Lib.hid (And.intro (cell_block HG7.out 1) (cells11 HX7.out))
          (try go_wp2_with fail)
          refine hK.out _ _ ?_ (fun hHeld => ?_)
          focus ((try dsimp only); (first | exact ⟨cell_below ((Below.refl w3.heap.size w3).drew) e1, cell_below ((Below.refl w3.heap.size w3).drew) d0, cell_below ((Below.refl w3.heap.size w3).drew) d1, cell_below ((Below.refl w3.heap.size w3).drew) d2, cell_below ((Below.refl w3.heap.size w3).drew) d3, cell_below ((Below.refl w3.heap.size w3).drew) d4, cell_below ((Below.refl w3.heap.size w3).drew) d5, cell_below ((Below.refl w3.heap.size w3).drew) d6, cell_below ((Below.refl w3.heap.size w3).drew) d7, cell_below ((Below.refl w3.heap.size w3).drew) d8, cell_below ((Below.refl w3.heap.size w3).drew) d9, cell_below ((Below.refl w3.heap.size w3).drew) d10⟩ | exact SK7.out | exact SK6.out | exact ⟨cell_below (by go_grown) e1, cell_below (by go_grown) d0, cell_below (by go_grown) d1, cell_below (by go_grown) d2, cell_below (by go_grown) d3, cell_below (by go_grown) d4, cell_below (by go_grown) d5, cell_below (by go_grown) d6, cell_below (by go_grown) d7, cell_below (by go_grown) d8, cell_below (by go_grown) d9, cell_below (by go_grown) d10⟩); done)
          clear hK K
          (try simp only [Act.put, List.setIfInBounds_toArray, List.set_cons_zero, List.set_cons_succ])
          refine wpAnyH_done (by kernel_rfl) ?_ _
          go_wp2
          go_ret
          refine rstart_fin HR.out HE.out.lt HBB.out HLX3.out HLX.out HP3.out HO3.out (fun k hk hne hn => (Below.heap_setCell _ _ _ _ hne).trans (HK6.out k hk hn)) ((Below.heap_setCell w6 ⟨G, 3, none⟩ _ w3.heap.size (fun e => by have := HGL.out; simp only at e; omega)).trans HTK6.out) HG7.out (HO6.out.keep (fun g' hg' => Below.heap_setCell _ _ _ _ (fun e => ?_))) (by have := HV6.out; rw [HZE.out] at this; exact this) (by have := HG6.out.size; have := HZE.out; simp [World.setCell]; omega) HG6.out.os HG6.out.tape HG6.out.output (inv_start' HE.out.inv H0.out H1.out H6.out HSH.out H7.out H8.out q9)
          simp only at e
          subst e
          rcases HV6.out with e | e
          · rw [hg'] at e; exact (HNO.out _ e.symm).2 rfl
          · rw [hg'] at e; injection e with e; have := HGL.out; have := HZE.out; omega
        · go_simp
          (try go_wp2_with fail)
          refine hK.out _ _ ?_ (fun hHeld => ?_)
          focus ((try dsimp only); (first | exact ⟨cell_below ((Below.refl w3.heap.size w3).drew) e1, cell_below ((Below.refl w3.heap.size w3).drew) d0, cell_below ((Below.refl w3.heap.size w3).drew) d1, cell_below ((Below.refl w3.heap.size w3).drew) d2, cell_below ((Below.refl w3.heap.size w3).drew) d3, cell_below ((Below.refl w3.heap.size w3).drew) d4, cell_below ((Below.refl w3.heap.size w3).drew) d5, cell_below ((Below.refl w3.heap.size w3).drew) d6, cell_below ((Below.refl w3.heap.size w3).drew) d7, cell_below ((Below.refl w3.heap.size w3).drew) d8, cell_below ((Below.refl w3.heap.size w3).drew) d9, cell_below ((Below.refl w3.heap.size w3).drew) d10⟩ | exact SK7.out | exact SK6.out | exact ⟨cell_below (by go_grown) e1, cell_below (by go_grown) d0, cell_below (by go_grown) d1, cell_below (by go_grown) d2, cell_below (by go_grown) d3, cell_below (by go_grown) d4, cell_below (by go_grown) d5, cell_below (by go_grown) d6, cell_below (by go_grown) d7, cell_below (by go_grown) d8, cell_below (by go_grown) d9, cell_below (by go_grown) d10⟩); done)
          clear hK K
          (try simp only [Act.put, List.setIfInBounds_toArray, List.set_cons_zero, List.set_cons_succ])
          refine wpAnyH_ready (rs := [4]) (by kernel_rfl) (by simp) ?_
          refine AllReadyH.cons (o := ⟨_, _, _, _, _, _⟩) rfl (fun K hK => ?_) AllReadyH.nil
          go_simp
          (try go_wp2_with fail)
          refine hK.out _ _ ?_ (fun hHeld => ?_)
          focus ((try dsimp only); (first | exact ⟨cell_below ((Below.refl w3.heap.size w3).drew) e1, cell_below ((Below.refl w3.heap.size w3).drew) d0, cell_below ((Below.refl w3.heap.size w3).drew) d1, cell_below ((Below.refl w3.heap.size w3).drew) d2, cell_below ((Below.refl w3.heap.size w3).drew) d3, cell_below ((Below.refl w3.heap.size w3).drew) d4, cell_below ((Below.refl w3.heap.size w3).drew) d5, cell_below ((Below.refl w3.heap.size w3).drew) d6, cell_below ((Below.refl w3.heap.size w3).drew) d7, cell_below ((Below.refl w3.heap.size w3).drew) d8, cell_below ((Below.refl w3.heap.size w3).drew) d9, cell_below ((Below.refl w3.heap.size w3).drew) d10⟩ | exact SK7.out | exact SK6.out | exact ⟨cell_below (by go_grown) e1, cell_below (by go_grown) d0, cell_below (by go_grown) d1, cell_below (by go_grown) d2, cell_below (by go_grown) d3, cell_below (by go_grown) d4, cell_below (by go_grown) d5, cell_below (by go_grown) d6, cell_below (by go_grown) d7, cell_below (by go_grown) d8, cell_below (by go_grown) d9, cell_below (by go_grown) d10⟩); done)
          clear hK K
          (try simp only [Act.put, List.setIfInBounds_toArray, List.set_cons_zero, List.set_cons_succ])
          refine wpAnyH_ready (rs := [20]) (by kernel_rfl) (by simp) ?_
          refine AllReadyH.cons (o := ⟨_, _, _, _, _, _⟩) rfl (fun K hK => ?_) AllReadyH.nil
          refine wp_app16 (.tmp 87) (.tmp 102) rfl (.slice A1 es.length c1) es rfl HOE.out (w3.heap.size + 1) 1 (newF st i t g now, A2, c2, some ⟨w3.heap.size, 0, none⟩, 1) rfl HEL.out (by omega) ?_
          intro v6 w6 hO6 hg6 hv6
          have hl6 : (es ++ [((newF st i t g now, A2, c2, some ⟨w3.heap.size, 0, none⟩, 1) : FmE)]).length = es.length + 1 := by simp
          have HV6 := Lib.hid hv6
          have HG6 := Lib.hid hg6
          have HK6 := Lib.hid (show ∀ k, k < w3.heap.size → ¬ (Value.slice A1 es.length c1).ownBlock = some k → w6.heap[k]? = w3.heap[k]? from fun k hk hn => (hg6.block k (by have := HZE.out; omega) (fun e => hn e.symm)).trans (HWG.out.block k hk))
          have HGB6 := Lib.hid ((HK6.out G HGL.out (fun e => (HNO.out G e).2 rfl)).trans HP3.out.hG)
          have HXB6 := Lib.hid ((HK6.out w.heap.size HLX3.out (fun e => by have := (HNO.out _ e).1; omega)).trans HX3.out)
          have HTK6 := Lib.hid ((hg6.block w3.heap.size (by have := HZE.out; omega) (fun e => by have := (HNO.out _ e.symm).1; have := HLX3.out; omega)).trans HTK.out)
          have SK6 := Lib.hid (And.intro (cell_block HGB6.out 1) (cells11 HXB6.out))
          have e36 := cell_block HGB6.out 3
          simp only [List.getElem?_toArray, List.getElem?_cons_zero, List.getElem?_cons_succ] at e36
          have f36 : w6.frozen? ⟨G, 3, none⟩ = false := by have := HGB6.out; simp only [World.frozen?, this]; rfl
          obtain ⟨A6, c6, rfl⟩ := hO6.len
          rw [hl6] at hO6
          rw [hl6] at HV6
          rw [hl6]
          have HO6 := Lib.hid hO6
          clear hO6 hg6 hv6 hl6
          (try go_wp2_with fail)
          refine hK.out _ _ ?_ (fun hHeld => ?_)
          focus ((try dsimp only); (first | exact ⟨cell_below ((Below.refl w3.heap.size w3).drew) e1, cell_below ((Below.refl w3.heap.size w3).drew) d0, cell_below ((Below.refl w3.heap.size w3).drew) d1, cell_below ((Below.refl w3.heap.size w3).drew) d2, cell_below ((Below.refl w3.heap.size w3).drew) d3, cell_below ((Below.refl w3.heap.size w3).drew) d4, cell_below ((Below.refl w3.heap.size w3).drew) d5, cell_below ((Below.refl w3.heap.size w3).drew) d6, cell_below ((Below.refl w3.heap.size w3).drew) d7, cell_below ((Below.refl w3.heap.size w3).drew) d8, cell_below ((Below.refl w3.heap.size w3).drew) d9, cell_below ((Below.refl w3.heap.size w3).drew) d10⟩ | exact SK7.out | exact SK6.out | exact ⟨cell_below (by go_grown) e1, cell_below (by go_grown) d0, cell_below (by go_grown) d1, cell_below (by go_grown) d2, cell_below (by go_grown) d3, cell_below (by go_grown) d4, cell_below (by go_grown) d5, cell_below (by go_grown) d6, cell_below (by go_grown) d7, cell_below (by go_grown) d8, cell_below (by go_grown) d9, cell_below (by go_grown) d10⟩); done)
          clear hK K
          (try simp only [Act.put, List.setIfInBounds_toArray, List.set_cons_zero, List.set_cons_succ])
          refine wpAnyH_take (i := 21) (oi := ⟨_, _, _, _, _, _⟩) (v := ?_) rfl (by kernel_rfl) (by kernel_rfl) (by kernel_rfl) (fun _ _ _ h => h) (Or.inl ⟨by rfl, ?_⟩) (by assumption) ?_; rotate_left; (focus (intro w hSw; (try dsimp only at hSw); go_simp; (try with_reducible rfl); done)); simp only [Act.put, List.setIfInBounds_toArray, List.set_cons_zero, List.set_cons_succ]
          refine wpAnyH_take (i := 22) (oi := ⟨_, _, _, _, _, _⟩) (v := ?_) rfl (by kernel_rfl) (by kernel_rfl) (by kernel_rfl) (fun _ _ _ h => h) (Or.inl ⟨by rfl, ?_⟩) (by assumption) ?_; rotate_left; (focus (intro w hSw; (try dsimp only at hSw); go_simp; (try with_reducible rfl); done)); simp only [Act.put, List.setIfInBounds_toArray, List.set_cons_zero, List.set_cons_succ]
          refine wpAnyH_ready (rs := [23]) (by kernel_rfl) (by simp) ?_
          refine AllReadyH.cons (o := ⟨_, _, _, _, _, _⟩) rfl (fun K hK => ?_) AllReadyH.nil
          go_simp
          have HG7 := Lib.hid (heap_setCell_same w6 G 3 _ _ (.slice A6 (es.length + 1) c6) HGB6.out)
          have HX7 := Lib.hid ((Below.heap_setCell w6 ⟨G, 3, none⟩ (.slice A6 (es.length + 1) c6) w.heap.size (fun e => HGX.out e.symm)).trans HXB6.out)
          have SK7 := Lib.hid (And.intro (cell_block HG7.out 1) (cells11 HX7.out))
          (try go_wp2_with fail)
          refine hK.out _ _ ?_ (fun hHeld => ?_)
          focus ((try dsimp only); (first | exact ⟨cell_below ((Below.refl w3.heap.size w3).drew) e1, cell_below ((Below.refl w3.heap.size w3).drew) d0, cell_below ((Below.refl w3.heap.size w3).drew) d1, cell_below ((Below.refl w3.heap.size w3).drew) d2, cell_below ((Below.refl w3.heap.size w3).drew) d3, cell_below ((Below.refl w3.heap.size w3).drew) d4, cell_below ((Below.refl w3.heap.size w3).drew) d5, cell_below ((Below.refl w3.heap.size w3).drew) d6, cell_below ((Below.refl w3.heap.size w3).drew) d7, cell_below ((Below.refl w3.heap.size w3).drew) d8, cell_below ((Below.refl w3.heap.size w3).drew) d9, cell_below ((Below.refl w3.heap.size w3).drew) d10⟩ | exact SK7.out | exact SK6.out | exact ⟨cell_below (by go_grown) e1, cell_below (by go_grown) d0, cell_below (by go_grown) d1, cell_below (by go_grown) d2, cell_below (by go_grown) d3, cell_below (by go_grown) d4, cell_below (by go_grown) d5, cell_below (by go_grown) d6, cell_below (by go_grown) d7, cell_below (by go_grown) d8, cell_below (by go_grown) d9, cell_below (by go_grown) d10⟩); done)
          clear hK K
          (try simp only [Act.put, List.setIfInBounds_toArray, List.set_cons_zero, List.set_cons_succ])
          refine wpAnyH_done (by kernel_rfl) ?_ _
          go_wp2
          go_ret
          refine rstart_fin HR.out HE.out.lt HBB.out HLX3.out HLX.out HP3.out HO3.out (fun k hk hne hn => (Below.heap_setCell _ _ _ _ hne).trans (HK6.out k hk hn)) ((Below.heap_setCell w6 ⟨G, 3, none⟩ _ w3.heap.size (fun e => by have := HGL.out; simp only at e; omega)).trans HTK6.out) HG7.out (HO6.out.keep (fun g' hg' => Below.heap_setCell _ _ _ _ (fun e => ?_))) (by have := HV6.out; rw [HZE.out] at this; exact this) (by have := HG6.out.size; have := HZE.out; simp [World.setCell]; omega) HG6.out.os HG6.out.tape HG6.out.output (inv_start' HE.out.inv H0.out H1.out H6.out HSH.out H7.out H8.out q9)
          simp only at e
          subst e
          rcases HV6.out with e | e
          · rw [hg'] at e; exact (HNO.out _ e.symm).2 rfl
          · rw [hg'] at e; injection e with e; have := HGL.out; have := HZE.out; omega
    · go_simp
      (try go_wp2_with fail)
      refine hK.out _ _ ?_ (fun hHeld => ?_)
      focus ((try dsimp only); (first | exact ⟨cell_below ((Below.refl w3.heap.size w3).drew) e1, cell_below ((Below.refl w3.heap.size w3).drew) d0, cell_below ((Below.refl w3.heap.size w3).drew) d1, cell_below ((Below.refl w3.heap.size w3).drew) d2, cell_below ((Below.refl w3.heap.size w3).drew) d3, cell_below ((Below.refl w3.heap.size w3).drew) d4, cell_below ((Below.refl w3.heap.size w3).drew) d5, cell_below ((Below.refl w3.heap.size w3).drew) d6, cell_below ((Below.refl w3.heap.size w3).drew) d7, cell_below ((Below.refl w3.heap.size w3).drew) d8, cell_below ((Below.refl w3.heap.size w3).drew) d9, cell_below ((Below.refl w3.heap.size w3).drew) d10⟩ | exact SK7.out | exact SK6.out | exact ⟨cell_below (by go_grown) e1, cell_below (by go_grown) d0, cell_below (by go_grown) d1, cell_below (by go_grown) d2, cell_below (by go_grown) d3, cell_below (by go_grown) d4, cell_below (by go_grown) d5, cell_below (by go_grown) d6, cell_below (by go_grown) d7, cell_below (by go_grown) d8, cell_below (by go_grown) d9, cell_below (by go_grown) d10⟩); done)
      clear hK K
      (try simp only [Act.put, List.setIfInBounds_toArray, List.set_cons_zero, List.set_cons_succ])
      refine wpAnyH_ready (rs := [4, 8]) (by kernel_rfl) (by simp) ?_
      refine AllReadyH.cons (o := ⟨_, _, _, _, _, _⟩) rfl (fun K hK => ?_) (AllReadyH.cons (o := ⟨_, _, _, _, _, _⟩) rfl (fun K hK => ?_) AllReadyH.nil)
      · go_simp
        (try go_wp2_with fail)
        refine hK.out _ _ ?_ (fun hHeld => ?_)
        focus ((try dsimp only); (first | exact ⟨cell_below ((Below.refl w3.heap.size w3).drew) e1, cell_below ((Below.refl w3.heap.size w3).drew) d0, cell_below ((Below.refl w3.heap.size w3).drew) d1, cell_below ((Below.refl w3.heap.size w3).drew) d2, cell_below ((Below.refl w3.heap.size w3).drew) d3, cell_below ((Below.refl w3.heap.size w3).drew) d4, cell_below ((Below.refl w3.heap.size w3).drew) d5, cell_below ((Below.refl w3.heap.size w3).drew) d6, cell_below ((Below.refl w3.heap.size w3).drew) d7, cell_below ((Below.refl w3.heap.size w3).drew) d8, cell_below ((Below.refl w3.heap.size w3).drew) d9, cell_below ((Below.refl w3.heap.size w3).drew) d10⟩ | exact SK7.out | exact SK6.out | exact ⟨cell_below (by go_grown) e1, cell_below (by go_grown) d0, cell_below (by go_grown) d1, cell_below (by go_grown) d2, cell_below (by go_grown) d3, cell_below (by go_grown) d4, cell_below (by go_grown) d5, cell_below (by go_grown) d6, cell_below (by go_grown) d7, cell_below (by go_grown) d8, cell_below (by go_grown) d9, cell_below (by go_grown) d10⟩); done)
        clear hK K
        (try simp only [Act.put, List.setIfInBounds_toArray, List.set_cons_zero, List.set_cons_succ])
        refine wpAnyH_ready (rs := [8]) (by kernel_rfl) (by simp) ?_
        refine AllReadyH.cons (o := ⟨_, _, _, _, _, _⟩) rfl (fun K hK => ?_) AllReadyH.nil
        go_simp
        (try go_wp2_with fail)
        refine hK.out _ _ ?_ (fun hHeld => ?_)
        focus ((try dsimp only); (first | exact ⟨cell_below ((Below.refl w3.heap.size w3).drew) e1, cell_below ((Below.refl w3.heap.size w3).drew) d0, cell_below ((Below.refl w3.heap.size w3).drew) d1, cell_below ((Below.refl w3.heap.size w3).drew) d2, cell_below ((Below.refl w3.heap.size w3).drew) d3, cell_below ((Below.refl w3.heap.size w3).drew) d4, cell_below ((Below.refl w3.heap.size w3).drew) d5, cell_below ((Below.refl w3.heap.size w3).drew) d6, cell_below ((Below.refl w3.heap.size w3).drew) d7, cell_below ((Below.refl w3.heap.size w3).drew) d8, cell_below ((Below.refl w3.heap.size w3).drew) d9, cell_below ((Below.refl w3.heap.size w3).drew) d10⟩ | exact SK7.out | exact SK6.out | exact ⟨cell_below (by go_grown) e1, cell_below (by go_grown) d0, cell_below (by go_grown) d1, cell_below (by go_grown) d2, cell_below (by go_grown) d3, cell_below (by go_grown) d4, cell_below (by go_grown) d5, cell_below (by go_grown) d6, cell_below (by go_grown) d7, cell_below (by go_grown) d8, cell_below (by go_grown) d9, cell_below (by go_grown) d10⟩); done)
        clear hK K
        (try simp only [Act.put, List.setIfInBounds_toArray, List.set_cons_zero, List.set_cons_succ])
        refine wpAnyH_take (i := 18) (oi := ⟨_, _, _, _, _, _⟩) (v := ?_) rfl (by kernel_rfl) (by kernel_rfl) (by kernel_rfl) (fun _ _ _ h => h) (Or.inl ⟨by rfl, ?_⟩) (by assumption) ?_; rotate_left; (focus (intro w hSw; (try dsimp only at hSw); go_simp; (try with_reducible rfl); done)); simp only [Act.put, List.setIfInBounds_toArray, List.set_cons_zero, List.set_cons_succ]
        refine wpAnyH_ready (rs := [19]) (by kernel_rfl) (by simp) ?_
        refine AllReadyH.cons (o := ⟨_, _, _, _, _, _⟩) rfl (fun K hK => ?_) AllReadyH.nil
        go_simp
        (try go_wp2_with fail)
        refine hK.out _ _ ?_ (fun hHeld => ?_)
        focus ((try dsimp only); (first | exact ⟨cell_below ((Below.refl w3.heap.size w3).drew) e1, cell_below ((Below.refl w3.heap.size w3).drew) d0, cell_below ((Below.refl w3.heap.size w3).drew) d1, cell_below ((Below.refl w3.heap.size w3).drew) d2, cell_below ((Below.refl w3.heap.size w3).drew) d3, cell_below ((Below.refl w3.heap.size w3).drew) d4, cell_below ((Below.refl w3.heap.size w3).drew) d5, cell_below ((Below.refl w3.heap.size w3).drew) d6, cell_below ((Below.refl w3.heap.size w3).drew) d7, cell_below ((Below.refl w3.heap.size w3).drew) d8, cell_below ((Below.refl w3.heap.size w3).drew) d9, cell_below ((Below.refl w3.heap.size w3).drew) d10⟩ | exact SK7.out | exact SK6.out | exact ⟨cell_below (by go_grown) e1, cell_below (by go_grown) d0, cell_below (by go_grown) d1, cell_below (by go_grown) d2, cell_below (by go_grown) d3, cell_below (by go_grown) d4, cell_below (by go_grown) d5, cell_below (by go_grown) d6, cell_below (by go_grown) d7, cell_below (by go_grown) d8, cell_below (by go_grown) d9, cell_below (by go_grown) d10⟩); done)
        clear hK K
        (try simp only [Act.put, List.setIfInBounds_toArray, List.set_cons_zero, List.set_cons_succ])
        refine wpAnyH_ready (rs := [20]) (by kernel_rfl) (by simp) ?_
        refine AllReadyH.cons (o := ⟨_, _, _, _, _, _⟩) rfl (fun K hK => ?_) AllReadyH.nil
        refine wp_app16 (.tmp 87) (.tmp 102) rfl (.slice A1 es.length c1) es rfl HOE.out (w3.heap.size + 1) 1 (newF st i t g now, A2, c2, some ⟨w3.heap.size, 0, none⟩, 1) rfl HEL.out (by omega) ?_
        intro v6 w6 hO6 hg6 hv6
        have hl6 : (es ++ [((newF st i t g now, A2, c2, some ⟨w3.heap.size, 0, none⟩, 1) : FmE)]).length = es.length + 1 := by simp
        have HV6 := Lib.hid hv6
        have HG6 := Lib.hid hg6
        have HK6 := Lib.hid (show ∀ k, k < w3.heap.size → ¬ (Value.slice A1 es.length c1).ownBlock = some k → w6.heap[k]? = w3.heap[k]? from fun k hk hn => (hg6.block k (by have := HZE.out; omega) (fun e => hn e.symm)).trans (HWG.out.block k hk))
        have HGB6 := Lib.hid ((HK6.out G HGL.out (fun e => (HNO.out G e).2 rfl)).trans HP3.out.hG)
        have HXB6 := Lib.hid ((HK6.out w.heap.size HLX3.out (fun e => by have := (HNO.out _ e).1; omega)).trans HX3.out)
        have HTK6 := Lib.hid ((hg6.block w3.heap.size (by have := HZE.out; omega) (fun e => by have := (HNO.out _ e.symm).1; have := HLX3.out; omega)).trans HTK.out)
        have SK6 := Lib.hid (And.intro (cell_block HGB6.out 1) (cells11 HXB6.out))
        have e36 := cell_block HGB6.out 3
        simp only [List.getElem?_toArray, List.getElem?_cons_zero, List.getElem?_cons_succ] at e36
        have f36 : w6.frozen? ⟨G, 3, none⟩ = false := by have := HGB6.out; simp only [World.frozen?, this]; rfl
        obtain ⟨A6, c6, rfl⟩ := hO6.len
        rw [hl6] at hO6
        rw [hl6] at HV6
        rw [hl6]
        have HO6 := Lib.hid hO6
        clear hO6 hg6 hv6 hl6
        (try go_wp2_with fail)
        refine hK.out _ _ ?_ (fun hHeld => ?_)
        focus ((try dsimp only); (first | exact ⟨cell_below ((Below.refl w3.heap.size w3).drew) e1, cell_below ((Below.refl w3.heap.size w3).drew) d0, cell_below ((Below.refl w3.heap.size w3).drew) d1, cell_below ((Below.refl w3.heap.size w3).drew) d2, cell_below ((Below.refl w3.heap.size w3).drew) d3, cell_below ((Below.refl w3.heap.size w3).drew) d4, cell_below ((Below.refl w3.heap.size w3).drew) d5, cell_below ((Below.refl w3.heap.size w3).drew) d6, cell_below ((Below.refl w3.heap.size w3).drew) d7, cell_below ((Below.refl w3.heap.size w3).drew) d8, cell_below ((Below.refl w3.heap.size w3).drew) d9, cell_below ((Below.refl w3.heap.size w3).drew) d10⟩ | exact SK7.out | exact SK6.out | exact ⟨cell_below (by go_grown) e1, cell_below (by go_grown) d0, cell_below (by go_grown) d1, cell_below (by go_grown) d2, cell_below (by go_grown) d3, cell_below (by go_grown) d4, cell_below (by go_grown) d5, cell_below (by go_grown) d6, cell_below (by go_grown) d7, cell_below (by go_grown) d8, cell_below (by go_grown) d9, cell_below (by go_grown) d10⟩); done)
        clear hK K
        (try simp only [Act.put, List.setIfInBounds_toArray, List.set_cons_zero, List.set_cons_succ])
        refine wpAnyH_take (i := 21) (oi := ⟨_, _, _, _, _, _⟩) (v := ?_) rfl (by kernel_rfl) (by kernel_rfl) (by kernel_rfl) (fun _ _ _ h => h) (Or.inl ⟨by rfl, ?_⟩) (by assumption) ?_; rotate_left; (focus (intro w hSw; (try dsimp only at hSw); go_simp; (try with_reducible rfl); done)); simp only [Act.put, List.setIfInBounds_toArray, List.set_cons_zero, List.set_cons_succ]
        refine wpAnyH_take (i := 22) (oi := ⟨_, _, _, _, _, _⟩) (v := ?_) rfl (by kernel_rfl) (by kernel_rfl) (by kernel_rfl) (fun _ _ _ h => h) (Or.inl ⟨by rfl, ?_⟩) (by assumption) ?_; rotate_left; (focus (intro w hSw; (try dsimp only at hSw); go_simp; (try with_reducible rfl); done)); simp only [Act.put, List.setIfInBounds_toArray, List.set_cons_zero, List.set_cons_succ]
        refine wpAnyH_ready (rs := [23]) (by kernel_rfl) (by simp) ?_
        refine AllReadyH.cons (o := ⟨_, _, _, _, _, _⟩) rfl (fun K hK => ?_) AllReadyH.nil
        go_simp
        have HG7 := Lib.hid (heap_setCell_same w6 G 3 _ _ (.slice A6 (es.length + 1) c6) HGB6.out)
        have HX7 := Lib.hid ((Below.heap_setCell w6 ⟨G, 3, none⟩ (.slice A6 (es.length + 1) c6) w.heap.size (fun e => HGX.out e.symm)).trans HXB6.out)
        have SK7 := Lib.hid (And.intro (cell_block HG7.out 1) (cells11 HX7.out))
        (try go_wp2_with fail)
        refine hK.out _ _ ?_ (fun hHeld => ?_)
        focus ((try dsimp only); (first | exact ⟨cell_below ((Below.refl w3.heap.size w3).drew) e1, cell_below ((Below.refl w3.heap.size w3).drew) d0, cell_below ((Below.refl w3.heap.size w3).drew) d1, cell_below ((Below.refl w3.heap.size w3).drew) d2, cell_below ((Below.refl w3.heap.size w3).drew) d3, cell_below ((Below.refl w3.heap.size w3).drew) d4, cell_below ((Below.refl w3.heap.size w3).drew) d5, cell_below ((Below.refl w3.heap.size w3).drew) d6, cell_below ((Below.refl w3.heap.size w3).drew) d7, cell_below ((Below.refl w3.heap.size w3).drew) d8, cell_below ((Below.refl w3.heap.size w3).drew) d9, cell_below ((Below.refl w3.heap.size w3).drew) d10⟩ | exact SK7.out | exact SK6.out | exact ⟨cell_below (by go_grown) e1, cell_below (by go_grown) d0, cell_below (by go_grown) d1, cell_below (by go_grown) d2, cell_below (by go_grown) d3, cell_below (by go_grown) d4, cell_below (by go_grown) d5, cell_below (by go_grown) d6, cell_below (by go_grown) d7, cell_below (by go_grown) d8, cell_below (by go_grown) d9, cell_below (by go_grown) d10⟩); done)
        clear hK K
        (try simp only [Act.put, List.setIfInBounds_toArray, List.set_cons_zero, List.set_cons_succ])
        refine wpAnyH_done (by kernel_rfl) ?_ _
        go_wp2
        go_ret
        refine rstart_fin HR.out HE.out.lt HBB.out HLX3.out HLX.out HP3.out HO3.out (fun k hk hne hn => (Below.heap_setCell _ _ _ _ hne).trans (HK6.out k hk hn)) ((Below.heap_setCell w6 ⟨G, 3, none⟩ _ w3.heap.size (fun e => by have := HGL.out; simp only at e; omega)).trans HTK6.out) HG7.out (HO6.out.keep (fun g' hg' => Below.heap_setCell _ _ _ _ (fun e => ?_))) (by have := HV6.out; rw [HZE.out] at this; exact this) (by have := HG6.out.size; have := HZE.out; simp [World.setCell]; omega) HG6.out.os HG6.out.tape HG6.out.output (inv_start' HE.out.inv H0.out H1.out H6.out HSH.out H7.out H8.out q9)
        simp only at e
        subst e
        rcases HV6.out with e | e
        · rw [hg'] at e; exact (HNO.out _ e.symm).2 rfl
        · rw [hg'] at e; injection e with e; have := HGL.out; have := HZE.out; omega
      · go_simp
        (try go_wp2_with fail)
        refine hK.out _ _ ?_ (fun hHeld => ?_)
        focus ((try dsimp only); (first | exact ⟨cell_below ((Below.refl w3.heap.size w3).drew) e1, cell_below ((Below.refl w3.heap.size w3).drew) d0, cell_below ((Below.refl w3.heap.size w3).drew) d1, cell_below ((Below.refl w3.heap.size w3).drew) d2, cell_below ((Below.refl w3.heap.size w3).drew) d3, cell_below ((Below.refl w3.heap.size w3).drew) d4, cell_below ((Below.refl w3.heap.size w3).drew) d5, cell_below ((Below.refl w3.heap.size w3).drew) d6, cell_below ((Below.refl w3.heap.size w3).drew) d7, cell_below ((Below.refl w3.heap.size w3).drew) d8, cell_below ((Below.refl w3.heap.size w3).drew) d9, cell_below ((Below.refl w3.heap.size w3).drew) d10⟩ | exact SK7.out | exact SK6.out | exact ⟨cell_below (by go_grown) e1, cell_below (by go_grown) d0, cell_below (by go_grown) d1, cell_below (by go_grown) d2, cell_below (by go_grown) d3, cell_below (by go_grown) d4, cell_below (by go_grown) d5, cell_below (by go_grown) d6, cell_below (by go_grown) d7, cell_below (by go_grown) d8, cell_below (by go_grown) d9, cell_below (by go_grown) d10⟩); done)
        clear hK K
        (try simp only [Act.put, List.setIfInBounds_toArray, List.set_cons_zero, List.set_cons_succ])
        refine wpAnyH_take (i := 18) (oi := ⟨_, _, _, _, _, _⟩) (v := ?_) rfl (by kernel_rfl) (by kernel_rfl) (by kernel_rfl) (fun _ _ _ h => h) (Or.inl ⟨by rfl, ?_⟩) (by assumption) ?_; rotate_left; (focus (intro w hSw; (try dsimp only at hSw); go_simp; (try with_reducible rfl); done)); simp only [Act.put, List.setIfInBounds_toArray, List.set_cons_zero, List.set_cons_succ]
        refine wpAnyH_ready (rs := [4, 19]) (by kernel_rfl) (by simp) ?_
        refine AllReadyH.cons (o := ⟨_, _, _, _, _, _⟩) rfl (fun K hK => ?_) (AllReadyH.cons (o := ⟨_, _, _, _, _, _⟩) rfl (fun K hK => ?_) AllReadyH.nil)
        · go_simp
          (try go_wp2_with fail)
          refine hK.out _ _ ?_ (fun hHeld => ?_)
          focus ((try dsimp only); (first | exact ⟨cell_below ((Below.refl w3.heap.size w3).drew) e1, cell_below ((Below.refl w3.heap.size w3).drew) d0, cell_below ((Below.refl w3.heap.size w3).drew) d1, cell_below ((Below.refl w3.heap.size w3).drew) d2, cell_below ((Below.refl w3.heap.size w3).drew) d3, cell_below ((Below.refl w3.heap.size w3).drew) d4, cell_below ((Below.refl w3.heap.size w3).drew) d5, cell_below ((Below.refl w3.heap.size w3).drew) d6, cell_below ((Below.refl w3.heap.size w3).drew) d7, cell_below ((Below.refl w3.heap.size w3).drew) d8, cell_below ((Below.refl w3.heap.size w3).drew) d9, cell_below ((Below.refl w3.heap.size w3).drew) d10⟩ | exact SK7.out | exact SK6.out | exact ⟨cell_below (by go_grown) e1, cell_below (by go_grown) d0, cell_below (by go_grown) d1, cell_below (by go_grown) d2, cell_below (by go_grown) d3, cell_below (by go_grown) d4, cell_below (by go_grown) d5, cell_below (by go_grown) d6, cell_below (by go_grown) d7, cell_below (by go_grown) d8, cell_below (by go_grown) d9, cell_below (by go_grown) d10⟩); done)
          clear hK K
          (try simp only [Act.put, List.setIfInBounds_toArray, List.set_cons_zero, List.set_cons_succ])
          refine wpAnyH_ready (rs := [19]) (by kernel_rfl) (by simp) ?_
          refine AllReadyH.cons (o := ⟨_, _, _, _, _, _⟩) rfl (fun K hK => ?_) AllReadyH.nil
          go_simp
          (try go_wp2_with fail)
          refine hK.out _ _ ?_ (fun hHeld => ?_)
          focus ((try dsimp only); (first | exact ⟨cell_below ((Below.refl w3.heap.size w3).drew) e1, cell_below ((Below.refl w3.heap.size w3).drew) d0, cell_below ((Below.refl w3.heap.size w3).drew) d1, cell_below ((Below.refl w3.heap.size w3).drew) d2, cell_below ((Below.refl w3.heap.size w3).drew) d3, cell_below ((Below.refl w3.heap.size w3).drew) d4, cell_below ((Below.refl w3.heap.size w3).drew) d5, cell_below ((Below.refl w3.heap.size w3).drew) d6, cell_below ((Below.refl w3.heap.size w3).drew) d7, cell_below ((Below.refl w3.heap.size w3).drew) d8, cell_below ((Below.refl w3.heap.size w3).drew) d9, cell_below ((Below.refl w3.heap.size w3).drew) d10⟩ | exact SK7.out | exact SK6.out | exact ⟨cell_below (by go_grown) e1, cell_below (by go_grown) d0, cell_below (by go_grown) d1, cell_below (by go_grown) d2, cell_below (by go_grown) d3, cell_below (by go_grown) d4, cell_below (by go_grown) d5, cell_below (by go_grown) d6, cell_below (by go_grown) d7, cell_below (by go_grown) d8, cell_below (by go_grown) d9, cell_below (by go_grown) d10⟩); done)
          clear hK K
          (try simp only [Act.put, List.setIfInBounds_toArray, List.set_cons_zero, List.set_cons_succ])
          refine wpAnyH_ready (rs := [20]) (by kernel_rfl) (by simp) ?_
          refine AllReadyH.cons (o := ⟨_, _, _, _, _, _⟩) rfl (fun K hK => ?_) AllReadyH.nil
          refine wp_app16 (.tmp 87) (.tmp 102) rfl (.slice A1 es.length c1) es rfl HOE.out (w3.heap.size + 1) 1 (newF st i t g now, A2, c2, some ⟨w3.heap.size, 0, none⟩, 1) rfl HEL.out (by omega) ?_
          intro v6 w6 hO6 hg6 hv6
          have hl6 : (es ++ [((newF st i t g now, A2, c2, some ⟨w3.heap.size, 0, none⟩, 1) : FmE)]).length = es.length + 1 := by simp
          have HV6 := Lib.hid hv6
          have HG6 := Lib.hid hg6
          have HK6 := Lib.hid (show ∀ k, k < w3.heap.size → ¬ (Value.slice A1 es.length c1).ownBlock = some k → w6.heap[k]? = w3.heap[k]? from fun k hk hn => (hg6.block k (by have := HZE.out; omega) (fun e => hn e.symm)).trans (HWG.out.block k hk))
          have HGB6 := Lib.hid ((HK6.out G HGL.out (fun e => (HNO.out G e).2 rfl)).trans HP3.out.hG)
          have HXB6 := Lib.hid ((HK6.out w.heap.size HLX3.out (fun e => by have := (HNO.out _ e).1; omega)).trans HX3.out)
          have HTK6 := Lib.hid ((hg6.block w3.heap.size (by have := HZE.out; omega) (fun e => by have := (HNO.out _ e.symm).1; have := HLX3.out; omega)).trans HTK.out)
          have SK6 := Lib.hid (And.intro (cell_block HGB6.out 1) (cells11 HXB6.out))
          have e36 := cell_block HGB6.out 3
          simp only [List.getElem?_toArray, List.getElem?_cons_zero, List.getElem?_cons_succ] at e36
          have f36 : w6.frozen? ⟨G, 3, none⟩ = false := by have := HGB6.out; simp only [World.frozen?, this]; rfl
          obtain ⟨A6, c6, rfl⟩ := hO6.len
          rw [hl6] at hO6
          rw [hl6] at HV6
          rw [hl6]
          have HO6 := Lib.hid hO6
          clear hO6 hg6 hv6 hl6
          (try go_wp2_with fail)
          refine hK.out _ _ ?_ (fun hHeld => ?_)
          focus ((try dsimp only); (first | exact ⟨cell_below ((Below.refl w3.heap.size w3).drew) e1, cell_below ((Below.refl w3.heap.size w3).drew) d0, cell_below ((Below.refl w3.heap.size w3).drew) d1, cell_below ((Below.refl w3.heap.size w3).drew) d2, cell_below ((Below.refl w3.heap.size w3).drew) d3, cell_below ((Below.refl w3.heap.size w3).drew) d4, cell_below ((Below.refl w3.heap.size w3).drew) d5, cell_below ((Below.refl w3.heap.size w3).drew) d6, cell_below ((Below.refl w3.heap.size w3).drew) d7, cell_below ((Below.refl w3.heap.size w3).drew) d8, cell_below ((Below.refl w3.heap.size w3).drew) d9, cell_below ((Below.refl w3.heap.size w3).drew) d10⟩ | exact SK7.out | exact SK6.out | exact ⟨cell_below (by go_grown) e1, cell_below (by go_grown) d0, cell_below (by go_grown) d1, cell_below (by go_grown) d2, cell_below (by go_grown) d3, cell_below (by go_grown) d4, cell_below (by go_grown) d5, cell_below (by go_grown) d6, cell_below (by go_grown) d7, cell_below (by go_grown) d8, cell_below (by go_grown) d9, cell_below (by go_grown) d10⟩); done)
          clear hK K
          (try simp only [Act.put, List.setIfInBounds_toArray, List.set_cons_zero, List.set_cons_succ])
          refine wpAnyH_take (i := 21) (oi := ⟨_, _, _, _, _, _⟩) (v := ?_) rfl (by kernel_rfl) (by kernel_rfl) (by kernel_rfl) (fun _ _ _ h => h) (Or.inl ⟨by rfl, ?_⟩) (by assumption) ?_; rotate_left; (focus (intro w hSw; (try dsimp only at hSw); go_simp; (try with_reducible rfl); done)); simp only [Act.put, List.setIfInBounds_toArray, List.set_cons_zero, List.set_cons_succ]
          refine wpAnyH_take (i := 22) (oi := ⟨_, _, _, _, _, _⟩) (v := ?_) rfl (by kernel_rfl) (by kernel_rfl) (by kernel_rfl) (fun _ _ _ h => h) (Or.inl ⟨by rfl, ?_⟩) (by assumption) ?_; rotate_left; (focus (intro w hSw; (try dsimp only at hSw); go_simp; (try with_reducible rfl); done)); simp only [Act.put, List.setIfInBounds_toArray, List.set_cons_zero, List.set_cons_succ]
          refine wpAnyH_ready (rs := [23]) (by kernel_rfl) (by simp) ?_
          refine AllReadyH.cons (o := ⟨_, _, _, _, _, _⟩) rfl (fun K hK => ?_) AllReadyH.nil
          go_simp
          have HG7 := Lib.hid (heap_setCell_same w6 G 3 _ _ (.slice A6 (es.length + 1) c6) HGB6.out)
          have HX7 := Lib.hid ((Below.heap_setCell w6 ⟨G, 3, none⟩ (.slice A6 (es.length + 1) c6) w.heap.size (fun e => HGX.out e.symm)).trans HXB6.out)
          have SK7 := Lib.hid (And.intro (cell_block HG7.out 1) (cells11 HX7.out))
          (try go_wp2_with fail)
          refine hK.out _ _ ?_ (fun hHeld => ?_)
          focus ((try dsimp only); (first | exact ⟨cell_below ((Below.refl w3.heap.size w3).drew) e1, cell_below ((Below.refl w3.heap.size w3).drew) d0, cell_below ((Below.refl w3.heap.size w3).drew) d1, cell_below ((Below.refl w3.heap.size w3).drew) d2, cell_below ((Below.refl w3.heap.size w3).drew) d3, cell_below ((Below.refl w3.heap.size w3).drew) d4, cell_below ((Below.refl w3.heap.size w3).drew) d5, cell_below ((Below.refl w3.heap.size w3).drew) d6, cell_below ((Below.refl w3.heap.size w3).drew) d7, cell_below ((Below.refl w3.heap.size w3).drew) d8, cell_below ((Below.refl w3.heap.size w3).drew) d9, cell_below ((Below.refl w3.heap.size w3).drew) d10⟩ | exact SK7.out | exact SK6.out | exact ⟨cell_below (by go_grown) e1, cell_below (by go_grown) d0, cell_below (by go_grown) d1, cell_below (by go_grown) d2, cell_below (by go_grown) d3, cell_below (by go_grown) d4, cell_below (by go_grown) d5, cell_below (by go_grown) d6, cell_below (by go_grown) d7, cell_below (by go_grown) d8, cell_below (by go_grown) d9, cell_below (by go_grown) d10⟩); done)
          clear hK K
          (try simp only [Act.put, List.setIfInBounds_toArray, List.set_cons_zero, List.set_cons_succ])
          refine wpAnyH_done (by kernel_rfl) ?_ _
          go_wp2
          go_ret
          refine rstart_fin HR.out HE.out.lt HBB.out HLX3.out HLX.out HP3.out HO3.out (fun k hk hne hn => (Below.heap_setCell _ _ _ _ hne).trans (HK6.out k hk hn)) ((Below.heap_setCell w6 ⟨G, 3, none⟩ _ w3.heap.size (fun e => by have := HGL.out; simp only at e; omega)).trans HTK6.out) HG7.out (HO6.out.keep (fun g' hg' => Below.heap_setCell _ _ _ _ (fun e => ?_))) (by have := HV6.out; rw [HZE.out] at this; exact this) (by have := HG6.out.size; have := HZE.out; simp [World.setCell]; omega) HG6.out.os HG6.out.tape HG6.out.output (inv_start' HE.out.inv H0.out H1.out H6.out HSH.out H7.out H8.out q9)
          simp only at e
          subst e
          rcases HV6.out with e | e
          · rw [hg'] at e; exact (HNO.out _ e.symm).2 rfl
          · rw [hg'] at e; injection e with e; have := HGL.out; have := HZE.out; omega
        · go_simp
          (try go_wp2_with fail)
          refine hK.out _ _ ?_ (fun hHeld => ?_)
          focus ((try dsimp only); (first | exact ⟨cell_below ((Below.refl w3.heap.size w3).drew) e1, cell_below ((Below.refl w3.heap.size w3).drew) d0, cell_below ((Below.refl w3.heap.size w3).drew) d1, cell_below ((Below.refl w3.heap.size w3).drew) d2, cell_below ((Below.refl w3.heap.size w3).drew) d3, cell_below ((Below.refl w3.heap.size w3).drew) d4, cell_below ((Below.refl w3.heap.size w3).drew) d5, cell_below ((Below.refl w3.heap.size w3).drew) d6, cell_below ((Below.refl w3.heap.size w3).drew) d7, cell_below ((Below.refl w3.heap.size w3).drew) d8, cell_below ((Below.refl w3.heap.size w3).drew) d9, cell_below ((Below.refl w3.heap.size w3).drew) d10⟩ | exact SK7.out | exact SK6.out | exact ⟨cell_below (by go_grown) e1, cell_below (by go_grown) d0, cell_below (by go_grown) d1, cell_below (by go_grown) d2, cell_below (by go_grown) d3, cell_below (by go_grown) d4, cell_below (by go_grown) d5, cell_below (by go_grown) d6, cell_below (by go_grown) d7, cell_below (by go_grown) d8, cell_below (by go_grown) d9, cell_below (by go_grown) d10⟩); done)
          clear hK K
          (try simp only [Act.put, List.setIfInBounds_toArray, List.set_cons_zero, List.set_cons_succ])
          refine wpAnyH_ready (rs := [4]) (by kernel_rfl) (by simp) ?_
          refine AllReadyH.cons (o := ⟨_, _, _, _, _, _⟩) rfl (fun K hK => ?_) AllReadyH.nil
          go_simp
          (try go_wp2_with fail)
          refine hK.out _ _ ?_ (fun hHeld => ?_)
          focus ((try dsimp only); (first | exact ⟨cell_below ((Below.refl w3.heap.size w3).drew) e1, cell_below ((Below.refl w3.heap.size w3).drew) d0, cell_below ((Below.refl w3.heap.size w3).drew) d1, cell_below ((Below.refl w3.heap.size w3).drew) d2, cell_below ((Below.refl w3.heap.size w3).drew) d3, cell_below ((Below.refl w3.heap.size w3).drew) d4, cell_below ((Below.refl w3.heap.size w3).drew) d5, cell_below ((Below.refl w3.heap.size w3).drew) d6, cell_below ((Below.refl w3.heap.size w3).drew) d7, cell_below ((Below.refl w3.heap.size w3).drew) d8, cell_below ((Below.refl w3.heap.size w3).drew) d9, cell_below ((Below.refl w3.heap.size w3).drew) d10⟩ | exact SK7.out | exact SK6.out | exact ⟨cell_below (by go_grown) e1, cell_below (by go_grown) d0, cell_below (by go_grown) d1, cell_below (by go_grown) d2, cell_below (by go_grown) d3, cell_below (by go_grown) d4, cell_below (by go_grown) d5, cell_below (by go_grown) d6, cell_below (by go_grown) d7, cell_below (by go_grown) d8, cell_below (by go_grown) d9, cell_below (by go_grown) d10⟩); done)
          clear hK K
          (try simp only [Act.put, List.setIfInBounds_toArray, List.set_cons_zero, List.set_cons_succ])
          refine wpAnyH_ready (rs := [20]) (by kernel_rfl) (by simp) ?_
          refine AllReadyH.cons (o := ⟨_, _, _, _, _, _⟩) rfl (fun K hK => ?_) AllReadyH.nil
          refine wp_app16 (.tmp 87) (.tmp 102) rfl (.slice A1 es.length c1) es rfl HOE.out (w3.heap.size + 1) 1 (newF st i t g now, A2, c2, some ⟨w3.heap.size, 0, none⟩, 1) rfl HEL.out (by omega) ?_
          intro v6 w6 hO6 hg6 hv6
          have hl6 : (es ++ [((newF st i t g now, A2, c2, some ⟨w3.heap.size, 0, none⟩, 1) : FmE)]).length = es.length + 1 := by simp
          have HV6 := Lib.hid hv6
          have HG6 := Lib.hid hg6
          have HK6 := Lib.hid (show ∀ k, k < w3.heap.size → ¬ (Value.slice A1 es.length c1).ownBlock = some k → w6.heap[k]? = w3.heap[k]? from fun k hk hn => (hg6.block k (by have := HZE.out; omega) (fun e => hn e.symm)).trans (HWG.out.block k hk))
          have HGB6 := Lib.hid ((HK6.out G HGL.out (fun e => (HNO.out G e).2 rfl)).trans HP3.out.hG)
          have HXB6 := Lib.hid ((HK6.out w.heap.size HLX3.out (fun e => by have := (HNO.out _ e).1; omega)).trans HX3.out)
          have HTK6 := Lib.hid ((hg6.block w3.heap.size (by have := HZE.out; omega) (fun e => by have := (HNO.out _ e.symm).1; have := HLX3.out; omega)).trans HTK.out)
          have SK6 := Lib.hid (And.intro (cell_block HGB6.out 1) (cells11 HXB6.out))
          have e36 := cell_block HGB6.out 3
          simp only [List.getElem?_toArray, List.getElem?_cons_zero, List.getElem?_cons_succ] at e36
          have f36 : w6.frozen? ⟨G, 3, none⟩ = false := by have := HGB6.out; simp only [World.frozen?, this]; rfl
          obtain ⟨A6, c6, rfl⟩ := hO6.len
          rw [hl6] at hO6
          rw [hl6] at HV6
          rw [hl6]
          have HO6 := Lib.hid hO6
          clear hO6 hg6 hv6 hl6
          (try go_wp2_with fail)
          refine hK.out _ _ ?_ (fun hHeld => ?_)
          focus ((try dsimp only); (first | exact ⟨cell_below ((Below.refl w3.heap.size w3).drew) e1, cell_below ((Below.refl w3.heap.size w3).drew) d0, cell_below ((Below.refl w3.heap.size w3).drew) d1, cell_below ((Below.refl w3.heap.size w3).drew) d2, cell_below ((Below.refl w3.heap.size w3).drew) d3, cell_below ((Below.refl w3.heap.size w3).drew) d4, cell_below ((Below.refl w3.heap.size w3).drew) d5, cell_below ((Below.refl w3.heap.size w3).drew) d6, cell_below ((Below.refl w3.heap.size w3).drew) d7, cell_below ((Below.refl w3.heap.size w3).drew) d8, cell_below ((Below.refl w3.heap.size w3).drew) d9, cell_below ((Below.refl w3.heap.size w3).drew) d10⟩ | exact SK7.out | exact SK6.out | exact ⟨cell_below (by go_grown) e1, cell_below (by go_grown) d0, cell_below (by go_grown) d1, cell_below (by go_grown) d2, cell_below (by go_grown) d3, cell_below (by go_grown) d4, cell_below (by go_grown) d5, cell_below (by go_grown) d6, cell_below (by go_grown) d7, cell_below (by go_grown) d8, cell_below (by go_grown) d9, cell_below (by go_grown) d10⟩); done)
          clear hK K
          (try simp only [Act.put, List.setIfInBounds_toArray, List.set_cons_zero, List.set_cons_succ])
          refine wpAnyH_take (i := 21) (oi := ⟨_, _, _, _, _, _⟩) (v := ?_) rfl (by kernel_rfl) (by kernel_rfl) (by kernel_rfl) (fun _ _ _ h => h) (Or.inl ⟨by rfl, ?_⟩) (by assumption) ?_; rotate_left; (focus (intro w hSw; (try dsimp only at hSw); go_simp; (try with_reducible rfl); done)); simp only [Act.put, List.setIfInBounds_toArray, List.set_cons_zero, List.set_cons_succ]
          refine wpAnyH_take (i := 22) (oi := ⟨_, _, _, _, _, _⟩) (v := ?_) rfl (by kernel_rfl) (by kernel_rfl) (by kernel_rfl) (fun _ _ _ h => h) (Or.inl ⟨by rfl, ?_⟩) (by assumption) ?_; rotate_left; (focus (intro w hSw; (try dsimp only at hSw); go_simp; (try with_reducible rfl); done)); simp only [Act.put, List.setIfInBounds_toArray, List.set_cons_zero, List.set_cons_succ]
          refine wpAnyH_ready (rs := [23]) (by kernel_rfl) (by simp) ?_
          refine AllReadyH.cons (o := ⟨_, _, _, _, _, _⟩) rfl (fun K hK => ?_) AllReadyH.nil
          go_simp
          have HG7 := Lib.hid (heap_setCell_same w6 G 3 _ _ (.slice A6 (es.length + 1) c6) HGB6.out)
          have HX7 := Lib.hid ((Below.heap_setCell w6 ⟨G, 3, none⟩ (.slice A6 (es.length + 1) c6) w.heap.size (fun e => HGX.out e.symm)).trans HXB6.out)
          have SK7 := Lib.hid (And.intro (cell_block HG7.out 1) (cells11 HX7.out))
          (try go_wp2_with fail)
          refine hK.out _ _ ?_ (fun hHeld => ?_)
          focus ((try dsimp only); (first | exact ⟨cell_below ((Below.refl w3.heap.size w3).drew) e1, cell_below ((Below.refl w3.heap.size w3).drew) d0, cell_below ((Below.refl w3.heap.size w3).drew) d1, cell_below ((Below.refl w3.heap.size w3).drew) d2, cell_below ((Below.refl w3.heap.size w3).drew) d3, cell_below ((Below.refl w3.heap.size w3).drew) d4, cell_below ((Below.refl w3.heap.size w3).drew) d5, cell_below ((Below.refl w3.heap.size w3).drew) d6, cell_below ((Below.refl w3.heap.size w3).drew) d7, cell_below ((Below.refl w3.heap.size w3).drew) d8, cell_below ((Below.refl w3.heap.size w3).drew) d9, cell_below ((Below.refl w3.heap.size w3).drew) d10⟩ | exact SK7.out | exact SK6.out | exact ⟨cell_below (by go_grown) e1, cell_below (by go_grown) d0, cell_below (by go_grown) d1, cell_below (by go_grown) d2, cell_below (by go_grown) d3, cell_below (by go_grown) d4, cell_below (by go_grown) d5, cell_below (by go_grown) d6, cell_below (by go_grown) d7, cell_below (by go_grown) d8, cell_below (by go_grown) d9, cell_below (by go_grown) d10⟩); done)
          clear hK K
          (try simp only [Act.put, List.setIfInBounds_toArray, List.set_cons_zero, List.set_cons_succ])
          refine wpAnyH_done (by kernel_rfl) ?_ _
          go_wp2
          go_ret
          refine rstart_fin HR.out HE.out.lt HBB.out HLX3.out HLX.out HP3.out HO3.out (fun k hk hne hn => (Below.heap_setCell _ _ _ _ hne).trans (HK6.out k hk hn)) ((Below.heap_setCell w6 ⟨G, 3, none⟩ _ w3.heap.size (fun e => by have := HGL.out; simp only at e; omega)).trans HTK6.out) HG7.out (HO6.out.keep (fun g' hg' => Below.heap_setCell _ _ _ _ (fun e => ?_))) (by have := HV6.out; rw [HZE.out] at this; exact this) (by have := HG6.out.size; have := HZE.out; simp [World.setCell]; omega) HG6.out.os HG6.out.tape HG6.out.output (inv_start' HE.out.inv H0.out H1.out H6.out HSH.out H7.out H8.out q9)
          simp only at e
          subst e
          rcases HV6.out with e | e
          · rw [hg'] at e; exact (HNO.out _ e.symm).2 rfl
          · rw [hg'] at e; injection e with e; have := HGL.out; have := HZE.out; omega
end Go.Proofs.Ytfeljihbaekfmaa.Rf
