/-
  One flow turns in memory; find.
-/
import Derived.Test.YtapooonlbjgbgaaDoorDvR
import Derived.Deep.MidRow
namespace Go.Proofs.YtapooonlbjgbgaaDoor.Dv
open Go.RowKit Go.Proofs.YtapooonlbjgbgaaDoor.Fo Go.Proofs.YtapooonlbjgbgaaDoor.Rf Go.Maps Go.WideMaps

theorem nodup_set {pl : List (Nat × Fw)} (hn : (pl.map Prod.fst).Nodup) {i b : Nat} {x y : Fw} (hb : pl[i]? = some (b, x)) {q : Nat × Fw} (hq : q ∈ pl.set i (b, y)) : q = (b, y) ∨ (q ∈ pl ∧ q.1 ≠ b) := by
  rcases mem_set hq with rfl | ⟨j, hj, hjq⟩
  · exact Or.inl rfl
  · refine Or.inr ⟨List.mem_of_getElem? hjq, fun e => hj ?_⟩
    have e1 : (pl.map Prod.fst)[j]? = some b := by rw [List.getElem?_map, hjq]; simp [e]
    have e2 : (pl.map Prod.fst)[i]? = some b := by rw [List.getElem?_map, hb]; rfl
    exact nodup_at hn e1 e2
/-- One flow turns in memory. -/
theorem rep_put {w w' : World} {S S' I I' : Nat → Prop} {F M : Nat} {st : Fs} {pl : List (Nat × Fw)} (h : RepP w S I F st M pl) {i b : Nat} {x y : Fw} {cap : Int} {A A2 : Option Addr} {c c2 : Nat} (hx : st.l[i]? = some x) (hb : pl[i]? = some (b, x)) (hc : st.cap ≤ cap) (hy : Fw.Ok cap x y)
    (hnew : w'.heap[b]? = some (.cells #[.string y.code, .string y.client, .slice A y.scopes.length c, .int .i64 y.fin, .int .i64 y.iv, .int .i64 y.state, .string y.g.user, .string y.g.client, .string y.g.tenant, .string y.g.session, .string y.g.redirect, .string y.g.nonce, .string y.g.challenge, .int .i64 y.g.method, .slice A2 y.g.scopes.length c2, .int .i64 y.g.auth, .int .i64 y.g.level, .bool y.polled, .int .i64 y.last] 81 (0, 0))) (hk : ∀ k, S k → k ≠ b → w'.heap[k]? = w.heap[k]?) (hz : w.heap.size ≤ w'.heap.size) (hS : ∀ k, S k → S' k) (hI : ∀ k, I k → I' k) (hIS : ∀ k, I' k → S' k) (hni : ∀ k, I' k → S k → I k)
    (hs1 : Ss w' A y.scopes.length c y.scopes ∧ ∀ a, A = some a → 0 < y.scopes.length → I' a.block) (hs2 : Ss w' A2 y.g.scopes.length c2 y.g.scopes ∧ ∀ a, A2 = some a → 0 < y.g.scopes.length → I' a.block) (hlt : ∀ k, S' k → k < w'.heap.size) :
    RepP w' S' I' F { st with cap := cap, l := st.l.set i y } M (pl.set i (b, y)) := by
  have hm : (b, x) ∈ pl := List.mem_of_getElem? hb
  obtain ⟨nM, nF⟩ := h.apart hm
  obtain ⟨f1, m1, v1⟩ := h.h1
  have hlen : (pl.set i (b, y)).length = pl.length := List.length_set
  have hbi := (List.getElem?_eq_some_iff.1 hb).1
  refine ⟨(hk _ h.sF.1 nF).trans h.hF, ⟨f1, by rw [hlen]; exact m1.frame (hk _ h.s1.1 nM), fun z d => ?_⟩, by rw [List.map_set, h.hl], fun q hq => ?_, fun q hq => ?_, hIS, ?_, ⟨hS _ h.sF.1, fun e => h.sF.2 (hni _ e h.sF.1)⟩, ⟨hS _ h.s1.1, fun e => h.s1.2 (hni _ e h.s1.1)⟩, hlt, inv_set h.inv hc hx hy⟩
  · rw [v1]
    constructor
    · rintro ⟨q, hq, e1, e2⟩
      obtain ⟨j, hj⟩ := List.getElem?_of_mem hq
      by_cases e : i = j
      · subst e
        rw [hb] at hj
        injection hj with hj
        subst hj
        exact ⟨(b, y), List.mem_set hbi _, by rw [hy.w]; exact e1, e2⟩
      · exact ⟨q, List.mem_of_getElem? (i := j) (by rw [List.getElem?_set, if_neg e]; exact hj), e1, e2⟩
    · rintro ⟨q, hq, e1, e2⟩
      rcases nodup_set h.nd hb hq with rfl | ⟨hq, _⟩
      · exact ⟨(b, x), hm, by rw [← hy.w]; exact e1, e2⟩
      · exact ⟨q, hq, e1, e2⟩
  · rcases nodup_set h.nd hb hq with rfl | ⟨hq, hne⟩
    · exact ⟨A, c, A2, c2, hnew, hs1, hs2.1, hs2.2⟩
    · exact (h.hb q hq).keep hI (hk _ (h.sb q hq).1 hne) (fun k e => hk k (h.sI k e) (fun e2 => (h.sb _ hm).2 (by rw [← e2]; exact e))) hz
  · rcases nodup_set h.nd hb hq with rfl | ⟨hq, _⟩
    · exact ⟨hS _ (h.sb _ hm).1, fun e => (h.sb _ hm).2 (hni _ e (h.sb _ hm).1)⟩
    · exact ⟨hS _ (h.sb q hq).1, fun e => (h.sb q hq).2 (hni _ e (h.sb q hq).1)⟩
  · rw [map_set_same (f := Prod.fst) (y := (b, y)) hb rfl]
    exact h.nd
/-- One flow turns in memory, but for its lists. -/
theorem rep_turn {w w' : World} {S I : Nat → Prop} {F M : Nat} {st : Fs} {pl : List (Nat × Fw)} (h : RepP w S I F st M pl) {i b : Nat} {x y : Fw} {cap : Int} {A A2 : Option Addr} {c c2 : Nat} (hx : st.l[i]? = some x) (hb : pl[i]? = some (b, x)) (hc : st.cap ≤ cap) (hy : Fw.Ok cap x y) (hg : y.g = x.g)
    (h1 : Ss w A x.scopes.length c x.scopes ∧ ∀ a, A = some a → 0 < x.scopes.length → I a.block) (h2 : Ss w A2 x.g.scopes.length c2 x.g.scopes ∧ ∀ a, A2 = some a → 0 < x.g.scopes.length → I a.block)
    (hnew : w'.heap[b]? = some (.cells #[.string y.code, .string y.client, .slice A y.scopes.length c, .int .i64 y.fin, .int .i64 y.iv, .int .i64 y.state, .string y.g.user, .string y.g.client, .string y.g.tenant, .string y.g.session, .string y.g.redirect, .string y.g.nonce, .string y.g.challenge, .int .i64 y.g.method, .slice A2 y.g.scopes.length c2, .int .i64 y.g.auth, .int .i64 y.g.level, .bool y.polled, .int .i64 y.last] 81 (0, 0))) (hm : Mods (fun k => k = b) w w') : RepP w' S I F { st with cap := cap, l := st.l.set i y } M (pl.set i (b, y)) := by
  have hmm : (b, x) ∈ pl := List.mem_of_getElem? hb
  have hk : ∀ k, S k → k ≠ b → w'.heap[k]? = w.heap[k]? := fun k e hne => hm.block k (h.lt k e) hne
  have hki : ∀ k, I k → w'.heap[k]? = w.heap[k]? := fun k e => hk k (h.sI k e) (fun e2 => (h.sb _ hmm).2 (by rw [← e2]; exact e))
  refine rep_put h hx hb hc hy hnew hk hm.size (fun _ e => e) (fun _ e => e) h.sI (fun _ e _ => e) ?_ ?_ (fun k e => Nat.lt_of_lt_of_le (h.lt k e) hm.size)
  · rw [hy.scopes]; exact ⟨ss_keep h1.1 h1.2 hki hm.size, h1.2⟩
  · rw [hg]; exact ⟨ss_keep h2.1 h2.2 hki hm.size, h2.2⟩
theorem fnF_err {st : Fs} {u : Bs} {now k : Int} (h : (cuC u).2 = k) (hk : k ≠ 0) : fnF st u now = (none, k) := by unfold fnF; rw [if_pos (by rw [h]; exact hk), h]
theorem fnF_none {st : Fs} {u : Bs} {now : Int} (h : (cuC u).2 = 0) (hn : coI st.l (cuC u).1 = none) : fnF st u now = (none, 6) := by unfold fnF; rw [if_neg (by rw [h]; simp), hn]
theorem co_at {st : Fs} (h : Inv st) {i : Nat} {x : Fw} (hx : st.l[i]? = some x) : coI st.l x.code = some i := by
  cases hc : coI st.l x.code with
  | none => exact absurd rfl (coI_none.1 hc x (List.mem_of_getElem? hx))
  | some j =>
    obtain ⟨y, hy, e⟩ := coI_some hc
    have e1 : (st.l.map Fw.code)[j]? = some x.code := by rw [List.getElem?_map, hy]; simp [e]
    have e2 : (st.l.map Fw.code)[i]? = some x.code := by rw [List.getElem?_map, hx]; rfl
    rw [nodup_at h.cos e1 e2]
theorem fnF_at {st : Fs} (hi : Inv st) {u : Bs} {now : Int} {i : Nat} {x : Fw} (h : (cuC u).2 = 0) (hx : st.l[i]? = some x) (hc : x.code = (cuC u).1) : fnF st u now = if expd now x = true then (none, 13) else if x.state ≠ 0 then (none, 12) else (some (i, x), 0) := by
  unfold fnF
  rw [if_neg (by rw [h]; simp), ← hc, co_at hi hx]
  simp only [hx]
theorem fnF_nz {st : Fs} {u : Bs} {now k : Int} (h : fnF st u now = (none, k)) : k ≠ 0 := by
  unfold fnF at h
  split at h
  · next h1 => injection h with _ h; subst h; exact h1
  · split at h
    · injection h with _ h; subst h; decide
    · split at h
      · injection h with _ h; subst h; decide
      · split at h
        · injection h with _ h; subst h; decide
        · split at h
          · injection h with _ h; subst h; decide
          · injection h with h _; cases h
/-- What find answers. -/
def FindIs (pl : List (Nat × Fw)) (o : Option (Nat × Fw) × Int) (e : Ending) : Prop :=
  match o with
  | (none, k) => e = .returned (.tuple #[.pointer none, .int .i64 k])
  | (some (i, x), _) => ∃ b, pl[i]? = some (b, x) ∧ e = .returned (.tuple #[.pointer (some ⟨b, 0, none⟩), .int .i64 0])
theorem beq_bs {a b : Bs} : (a.toList == b.toList) = decide (a = b) := by
  rw [Lib.toList_data, Lib.toList_data, Bool.eq_iff_iff, beq_iff_eq, decide_eq_true_eq]
  exact ⟨fun h => bs_ext h, fun h => by rw [h]⟩
set_option maxRecDepth 100000 in
set_option maxHeartbeats 4000000 in
theorem find_any {w : World} {S I : Nat → Prop} {F M : Nat} {st : Fs} {pl : List (Nat × Fw)} (h : RepP w S I F st M pl) (u : Bs) (hu : u.size ≤ 100000) (now : Int) (hm : MX w) :
    Calls Tryd.prog 59 #[.pointer (some ⟨F, 0, none⟩), .string u, .int .i64 now] w fun e w' => FindIs pl (fnF st u now) e ∧ Below w.heap.size w w' := by
  have H := Lib.hid h
  have HM := Lib.hid hm
  have HIN := Lib.hid h.inv
  clear hm h
  obtain ⟨code, hcode⟩ : ∃ c, (cuC u).1 = c := ⟨_, rfl⟩
  obtain ⟨er, her⟩ : ∃ e, (cuC u).2 = e := ⟨_, rfl⟩
  have HC := Lib.hid hcode
  have HE := Lib.hid her
  have hcl := clean_any u w hu HM.out
  rw [hcode, her] at hcl
  have HCL := Lib.hid hcl
  clear hcl hcode her
  by_cases he : er = 0
  · subst he
    go_enter Tryd.func59, Tryd.ntmps59
    go_wp2_with (go_at_call 47; refine (ready_yes H.out).mono ?_; rintro e w1 ⟨rfl, rfl⟩)
    refine HCL.out.mono ?_
    rintro e w2 ⟨rfl, hb⟩
    have HB2 := Lib.hid hb
    have H2 := Lib.hid (H.out.below hb)
    clear hb
    have c2 := H2.out.c2
    obtain ⟨f1, ⟨D, ho, hsz, hv⟩, v1⟩ := H2.out.h1
    have HL := Lib.hid H2.out.hl
    have HV := Lib.hid hv
    have HV1 := Lib.hid v1
    have HO := Lib.hid ho
    have HP := Lib.hid (show ∀ x d, f1 x = some d → ∃ q : Nat, d = .lit (.int .i64 (q : Nat)) from fun x d hx => by obtain ⟨p, _, _, e⟩ := (v1 x d).1 hx; exact ⟨p.1, e⟩)
    have HH := Lib.hid (has_all hv v1 H2.out.hl)
    clear hv v1 hsz ho
    go_wp2_with (first | (at_range; refine wpList_range_own _ rfl _ 64 rfl 9 77 (Go.Maps.string_keyed strT) map1 ptrR M pl.length D rfl HO.out ?_; intro w0 hrg0 hg0 hs0) | fail)
    go_frame
    have HR0 := Lib.hid hrg0
    have HB0 := Lib.hid (show Below w2.heap.size w2 w0 from (Below.refl _ _).grown hg0 (Nat.le_refl _) (fun k e => by cases e))
    clear hrg0 hg0
    go_loopw [11] (fun _ wr => ∃ (left : Lit → Bool) (cnt : Nat), wr.ranges Tryd.prog 9 ptrR M w2.heap.size pl.length D left cnt ∧ Hid (∀ x ∈ st.l, left (kyC x) = false → x.code ≠ code) ∧ Below w2.heap.size w2 wr) (fun _ wr => wr.rangeLeft M w2.heap.size)
    case atStart => exact ⟨Maps.has D, Maps.size D, HR0.out, Lib.hid (fun x hx e => by rw [HH.out x hx] at e; cases e), HB0.out⟩
    case round =>
      obtain ⟨left, cnt, hrg, HA, hbw⟩ := hrel
      have HRG := Lib.hid hrg
      have HB := Lib.hid hbw
      clear hrg hbw c2
      go_wp2_with (at_next; refine wpList_next_view rfl _ rfl 9 strT M w2.heap.size _ D f1 HV.out HP.out left cnt rfl HRG.out ?_ ?_)
      · intro hl
        have HR := Lib.hid (show fnF st u now = (none, 6) from fnF_none HE.out (by rw [HC.out, coI_none]; exact fun x hx => HA.out x hx (hl _)))
        clear hl
        go_wp2
        go_ret2
        rw [HR.out]
        exact ⟨rfl, HB2.out.trans (HB.out.mono HB2.out.size)⟩
      · intro s q w3 cnt2 hf hlk hrg2 hlt hg2 hs2 hen
        obtain ⟨r, hp, hps, hpq⟩ := (HV1.out _ _).1 hf
        simp only [DataW.lit.injEq, Lit.int.injEq, true_and] at hpq
        have hq : q = r.1 := by omega
        subst hq
        have hs : s = r.2.w := (bs_ext hps).symm
        subst hs
        obtain ⟨i, hi⟩ := List.getElem?_of_mem hp
        have HI := Lib.hid hi
        have HX := Lib.hid (show st.l[i]? = some r.2 by rw [← HL.out, List.getElem?_map, hi]; rfl)
        have HRG2 := Lib.hid hrg2
        have HB3 := Lib.hid (HB.out.grown hg2 HB.out.size (fun b e => by injection e with e; omega))
        have HLT2 := Lib.hid hlt
        obtain ⟨A, c, A2, c2, hblk, _⟩ := (H2.out.below HB3.out).hb _ hp
        clear hf hlk hrg2 hlt hg2 hps hpq hi
        have k0 := cell_block hblk 0
        have k3 := cell_block hblk 3
        have k5 := cell_block hblk 5
        simp only [List.getElem?_toArray, List.getElem?_cons_zero, List.getElem?_cons_succ] at k0 k3 k5
        clear hblk
        by_cases hco : r.2.code = code
        · have hcb : (r.2.code.toList == code.toList) = true := by rw [beq_bs]; simpa using hco
          have hcb2 : r.2.code.toList = code.toList := by rw [hco]
          have HF := Lib.hid (show fnF st u now = _ from fnF_at HIN.out (now := now) HE.out HX.out (by rw [HC.out]; exact hco))
          clear hco
          have K5 := Lib.hid k5
          clear k5
          cases hx : expd now r.2 with
          | true =>
            have HXP := Lib.hid hx
            clear hx
            go_wp2_with fail
            refine (expired_any k3 now (show decide (r.2.fin ≤ limI now) = true from HXP.out)).mono ?_
            rintro e w4 ⟨rfl, hb⟩
            have HB4 := Lib.hid (HB3.out.trans (hb.mono HB3.out.size))
            clear hb
            go_wp2
            go_ret2
            rw [HF.out, HXP.out]
            exact ⟨rfl, HB2.out.trans (HB4.out.mono HB2.out.size)⟩
          | false =>
            have HXP := Lib.hid hx
            clear hx
            go_wp2_with fail
            refine (expired_any k3 now (show decide (r.2.fin ≤ limI now) = false from HXP.out)).mono ?_
            rintro e w4 ⟨rfl, hb⟩
            have HB4 := Lib.hid (HB3.out.trans (hb.mono HB3.out.size))
            have k5 := cell_below hb K5.out
            clear hb
            by_cases hs0 : r.2.state = 0
            · have hsb : (r.2.state == 0) = true := by rw [hs0]; rfl
              go_wp2
              go_ret2
              rw [HF.out, HXP.out, if_neg (by decide), if_neg (by simpa using hs0)]
              exact ⟨⟨_, HI.out, rfl⟩, HB2.out.trans (HB4.out.mono HB2.out.size)⟩
            · have hsb : (r.2.state == 0) = false := beq_eq_false_iff_ne.2 hs0
              go_wp2
              go_ret2
              rw [HF.out, HXP.out, if_neg (by decide), if_pos hs0]
              exact ⟨rfl, HB2.out.trans (HB4.out.mono HB2.out.size)⟩
        · have hcb : (r.2.code.toList == code.toList) = false := by rw [beq_bs]; simpa using hco
          have hcb2 : ¬ r.2.code.toList = code.toList := by rw [← beq_iff_eq, hcb]; decide
          have HN := Lib.hid (show ∀ x ∈ st.l, (left (kyC x) && !(kyC x).sameKey (kyC r.2)) = false → x.code ≠ code from fun x hx e => by
            by_cases hw : x.w = r.2.w
            · rw [← HL.out] at hx
              obtain ⟨q0, hq0, rfl⟩ := List.mem_map.1 hx
              have := pl_inj HL.out HIN.out.ids hq0 hp hw
              subst this
              exact hco
            · refine HA.out x hx ?_
              rw [kyC_ne (fun h => hw h.symm)] at e
              simpa using e)
          clear hco
          go_wp2
          go_roundw
          case rel => exact ⟨_, cnt2, HRG2.out, HN, HB3.out⟩
          case measure => rw [HRG2.out.left_eq, HRG.out.left_eq]; exact HLT2.out
  · have hne : ¬ er = 0 := he
    have heb : (er == 0) = false := beq_eq_false_iff_ne.2 he
    have HR := Lib.hid (show fnF st u now = (none, er) from fnF_err HE.out he)
    go_enter Tryd.func59, Tryd.ntmps59
    go_wp2_with (go_at_call 47; refine (ready_yes H.out).mono ?_; rintro e w1 ⟨rfl, rfl⟩)
    refine HCL.out.mono ?_
    rintro e w2 ⟨rfl, hb⟩
    have HB2 := Lib.hid hb
    clear hb
    go_wp2
    go_ret2
    rw [HR.out]
    exact ⟨rfl, HB2.out⟩
end Go.Proofs.YtapooonlbjgbgaaDoor.Dv
