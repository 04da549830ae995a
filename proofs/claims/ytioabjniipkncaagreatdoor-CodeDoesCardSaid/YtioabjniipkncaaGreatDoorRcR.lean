/-
  The program's drop, Drop, DropUser.
-/
import Derived.Test.YtioabjniipkncaaGreatDoorRcN
import Derived.Maps.RangeWalk
import Derived.Shelf.Abstract
namespace Go.Proofs.YtioabjniipkncaaGreatDoor.Rc
open Go.RowKit Go.Proofs.YtioabjniipkncaaGreatDoor.Fo Go.Proofs.YtioabjniipkncaaGreatDoor.Rf Go.Maps

def kyC (x : Cd) : Lit := .string x.w.data.toList
theorem kyC_ne {x y : Cd} (h : x.w ≠ y.w) : (kyC y).sameKey (kyC x) = false := sameKey_ne fun e => h (bs_ext (by injection e with e; exact e.symm))
theorem kyC_self (x : Cd) : (kyC x).sameKey (kyC x) = true := WideAt.sameKey_self trivial
/-- How many codes have been passed that meet a condition. -/
def cntL (left : Lit → Bool) (c : Cd → Bool) (l : List Cd) : Nat := l.countP fun y => !left (kyC y) && c y
theorem cntL_step {left : Lit → Bool} {c : Cd → Bool} {l : List Cd} {x : Cd} (hn : (l.map Cd.w).Nodup) (hx : x ∈ l) (hl : left (kyC x) = true) :
    cntL (fun z => left z && !z.sameKey (kyC x)) c l = cntL left c l + (if c x then 1 else 0) := by
  unfold cntL
  induction l with
  | nil => simp at hx
  | cons y r ih =>
    simp only [List.map_cons, List.nodup_cons] at hn
    rw [List.countP_cons, List.countP_cons]
    rcases List.mem_cons.1 hx with rfl | hx'
    · have e : r.countP (fun y => !(left (kyC y) && !(kyC y).sameKey (kyC x)) && c y) = r.countP (fun y => !left (kyC y) && c y) := by
        refine List.countP_congr fun z hz => ?_
        have : x.w ≠ z.w := fun e => hn.1 (by rw [e]; exact List.mem_map.2 ⟨z, hz, rfl⟩)
        rw [kyC_ne this]
        simp
      rw [e]
      simp [kyC_self, hl]
    · have : x.w ≠ y.w := fun e => hn.1 (by rw [← e]; exact List.mem_map.2 ⟨x, hx', rfl⟩)
      rw [ih hn.2 hx']
      simp [kyC_ne this]
      omega
theorem cntL_start {left : Lit → Bool} {c : Cd → Bool} {l : List Cd} (h : ∀ x ∈ l, left (kyC x) = true) : cntL left c l = 0 := by
  unfold cntL
  rw [List.countP_eq_zero]
  intro x hx
  simp [h x hx]
theorem cntL_end {left : Lit → Bool} {c : Cd → Bool} {l : List Cd} (h : ∀ z, left z = false) : cntL left c l = l.countP c := by
  unfold cntL
  simp [h]
theorem cntL_le (left : Lit → Bool) (c : Cd → Bool) (l : List Cd) : cntL left c l ≤ l.length := List.countP_le_length
theorem has_all {D : DataW Unit} {pl : List (Nat × Cd)} {f1 : List UInt8 → Option (DataW Unit)} (hv : View D f1) (v1 : ∀ x d, f1 x = some d ↔ ∃ p ∈ pl, p.2.w.data.toList = x ∧ d = .lit (.int .i64 (p.1 : Nat))) {l : List Cd} (hl : pl.map Prod.snd = l) : ∀ x ∈ l, Maps.has D (kyC x) = true := by
  intro x hx
  rw [← hl] at hx
  obtain ⟨p, hp, rfl⟩ := List.mem_map.1 hx
  rw [show kyC p.2 = .string p.2.w.data.toList from rfl, hv.1, (v1 _ _).2 ⟨p, hp, rfl, rfl⟩]
  rfl
theorem ranges_below {P : Program} {k : TypeId} {R : Value → Option (DataW Unit × List MemPlace)} {w w' : World} {b r n : Nat} {D : DataW Unit} {left : Lit → Bool} {cnt : Nat} (h : w.ranges P k R b r n D left cnt) (hb : Below w.heap.size w w') : w'.ranges P k R b r n D left cnt :=
  h.kept (row := none) ⟨hb.os, hb.tape, hb.output, hb.size, fun i hi _ => hb.block i hi⟩ (by simp) (by simp)
theorem snd_mem {pl : List (Nat × Cd)} {l : List Cd} (hl : pl.map Prod.snd = l) {p : Nat × Cd} (hp : p ∈ pl) : p.2 ∈ l := by rw [← hl]; exact List.mem_map.2 ⟨p, hp, rfl⟩
theorem mem_map_eq {α β : Type} {f : α → β} {l l' : List α} (h : l'.map f = l.map f) {x : α} (hx : x ∈ l) : ∃ y ∈ l', f y = f x := by
  have : f x ∈ l'.map f := by rw [h]; exact List.mem_map.2 ⟨x, hx, rfl⟩
  obtain ⟨y, hy, e⟩ := List.mem_map.1 this
  exact ⟨y, hy, e⟩
/-- Some codes have turned, but for their names. -/
theorem rep_upd {w w' : World} {S S' I : Nat → Prop} {F M : Nat} {st st' : Ct} {pl pl' : List (Nat × Cd)} (h : RepP w S I F st M pl) (hlf : st'.life = st.life) (hl : pl'.map Prod.snd = st'.l)
    (hA : pl'.map (fun q => (q.1, q.2.w)) = pl.map (fun q => (q.1, q.2.w))) (hb : ∀ q ∈ pl', CdP w' I q.1 q.2)
    (hs : ∀ k, S k → S' k) (kF : w'.heap[F]? = w.heap[F]?) (k1 : w'.heap[M]? = w.heap[M]?) (hlt : ∀ k, S' k → k < w'.heap.size) (hi : Inv st') : RepP w' S' I F st' M pl' := by
  obtain ⟨f1, m1, v1⟩ := h.h1
  have hlen : pl'.length = pl.length := by have := congrArg List.length hA; simpa using this
  refine ⟨by rw [hlf]; exact kF.trans h.hF, ⟨f1, by rw [hlen]; exact m1.frame k1, fun x d => ?_⟩, hl, hb, fun q hq => ?_, fun k e => hs k (h.sI k e), ?_, ⟨hs _ h.sF.1, h.sF.2⟩, ⟨hs _ h.s1.1, h.s1.2⟩, hlt, hi⟩
  · rw [v1]
    constructor
    · rintro ⟨p, hp, e1, e2⟩
      obtain ⟨q, hq, e⟩ := mem_map_eq hA hp
      simp only [Prod.mk.injEq] at e
      exact ⟨q, hq, by rw [e.2]; exact e1, by rw [e.1]; exact e2⟩
    · rintro ⟨p, hp, e1, e2⟩
      obtain ⟨q, hq, e⟩ := mem_map_eq hA.symm hp
      simp only [Prod.mk.injEq] at e
      exact ⟨q, hq, by rw [e.2]; exact e1, by rw [e.1]; exact e2⟩
  · obtain ⟨p, hp, e⟩ := mem_map_eq hA.symm hq
    simp only [Prod.mk.injEq] at e
    rw [← e.1]
    exact ⟨hs _ (h.sb p hp).1, (h.sb p hp).2⟩
  · have := congrArg (List.map Prod.fst) hA
    simp only [List.map_map] at this
    rw [show pl'.map Prod.fst = pl.map Prod.fst from this]
    exact h.nd
/-- A code on the way: what is still to come is as it was. -/
def midF (p : Cd → Bool) (left : Lit → Bool) (x : Cd) : Cd := if left (kyC x) then x else drF p x
theorem midF_same (p : Cd → Bool) (left : Lit → Bool) (x : Cd) : (midF p left x).w = x.w ∧ (midF p left x).g = x.g ∧ (midF p left x).fin = x.fin := by
  unfold midF; split
  · exact ⟨rfl, rfl, rfl⟩
  · exact drF_same p x
def midS (p : Cd → Bool) (left : Lit → Bool) (st : Ct) : Ct := { st with l := st.l.map (midF p left) }
def midP (p : Cd → Bool) (left : Lit → Bool) (pl : List (Nat × Cd)) : List (Nat × Cd) := pl.map fun q => (q.1, midF p left q.2)
theorem midS_start {p : Cd → Bool} {left : Lit → Bool} {st : Ct} (h : ∀ x ∈ st.l, left (kyC x) = true) : midS p left st = st := by
  unfold midS
  have : st.l.map (midF p left) = st.l := by
    rw [List.map_congr_left (g := fun x => x) (fun x hx => by unfold midF; rw [if_pos (h x hx)])]
    simp
  rw [this]
theorem midP_start {p : Cd → Bool} {left : Lit → Bool} {pl : List (Nat × Cd)} {l : List Cd} (hl : pl.map Prod.snd = l) (h : ∀ x ∈ l, left (kyC x) = true) : midP p left pl = pl := by
  unfold midP
  rw [List.map_congr_left (g := fun x => x) (fun x hx => by unfold midF; rw [if_pos (h x.2 (snd_mem hl hx))])]
  simp
theorem midS_end {p : Cd → Bool} {left : Lit → Bool} {st : Ct} (h : ∀ z, left z = false) : midS p left st = drS p st := by
  unfold midS drS
  have : midF p left = drF p := funext fun x => by unfold midF; rw [if_neg (by simp [h])]
  rw [this]
theorem midF_other {p : Cd → Bool} {left : Lit → Bool} {x y : Cd} (h : x.w ≠ y.w) : midF p (fun z => left z && !z.sameKey (kyC x)) y = midF p left y := by
  unfold midF
  simp [kyC_ne h]
theorem midF_this {p : Cd → Bool} {left : Lit → Bool} {x : Cd} : midF p (fun z => left z && !z.sameKey (kyC x)) x = drF p x := by
  unfold midF
  simp [kyC_self]
theorem pl_inj {pl : List (Nat × Cd)} {l : List Cd} (hl : pl.map Prod.snd = l) (hn : (l.map Cd.w).Nodup) {p q : Nat × Cd} (hp : p ∈ pl) (hq : q ∈ pl) (h : p.2.w = q.2.w) : p = q := by
  subst hl
  rw [List.map_map] at hn
  induction pl with
  | nil => simp at hp
  | cons a r ih =>
    simp only [List.map_cons, List.nodup_cons] at hn
    rcases List.mem_cons.1 hp with rfl | hp'
    · rcases List.mem_cons.1 hq with rfl | hq'
      · rfl
      · exact absurd (List.mem_map.2 ⟨q, hq', h.symm⟩) hn.1
    · rcases List.mem_cons.1 hq with rfl | hq'
      · exact absurd (List.mem_map.2 ⟨p, hp', h⟩) hn.1
      · exact ih hp' hq' hn.2
theorem fst_inj {pl : List (Nat × Cd)} (hn : (pl.map Prod.fst).Nodup) {p q : Nat × Cd} (hp : p ∈ pl) (hq : q ∈ pl) (h : p.1 = q.1) : p = q := by
  induction pl with
  | nil => simp at hp
  | cons a r ih =>
    simp only [List.map_cons, List.nodup_cons] at hn
    rcases List.mem_cons.1 hp with rfl | hp'
    · rcases List.mem_cons.1 hq with rfl | hq'
      · rfl
      · exact absurd (List.mem_map.2 ⟨q, hq', h.symm⟩) hn.1
    · rcases List.mem_cons.1 hq with rfl | hq'
      · exact absurd (List.mem_map.2 ⟨p, hp', h⟩) hn.1
      · exact ih hn.2 hp' hq'
/-- A flag of a code in memory is set. -/
theorem CdP.set {w : World} {I : Nat → Prop} {b : Nat} {x y : Cd} {j : Nat} {u : Value} (h : CdP w I b x) (hb : ¬ I b) (hy : y.g = x.g) (hc : ∀ A c, #[.string x.g.user, .string x.g.client, .string x.g.tenant, .string x.g.session, .string x.g.redirect, .string x.g.nonce, .string x.g.challenge, .int .i64 x.g.method, (.slice A x.g.scopes.length c), .int .i64 x.g.auth, .int .i64 x.g.level, .int .i64 x.fin, .bool x.used, .bool x.att, .bool x.drp].setIfInBounds j u = #[.string y.g.user, .string y.g.client, .string y.g.tenant, .string y.g.session, .string y.g.redirect, .string y.g.nonce, .string y.g.challenge, .int .i64 y.g.method, (.slice A y.g.scopes.length c), .int .i64 y.g.auth, .int .i64 y.g.level, .int .i64 y.fin, .bool y.used, .bool y.att, .bool y.drp]) : CdP (w.setCell ⟨b, j, none⟩ u) I b y := by
  obtain ⟨A, c, h1, h2, h3⟩ := h
  refine ⟨A, c, ?_, ?_, by rw [hy]; exact h3⟩
  · have h4 := heap_setCell_same w b j _ _ u h1
    rw [hc] at h4
    exact h4
  · rw [hy]
    exact ss_keep h2 h3 (fun k e => Below.heap_setCell _ _ _ _ (fun e2 => hb (by subst e2; exact e))) (by simp [World.setCell])
/-- A number comes back, the codes have turned. -/
def NumIs (w : World) (S : Nat → Prop) (F : Nat) (n : Int) (st : Ct) (e : Ending) (w' : World) : Prop := e = .returned (.int .i64 n) ∧ RepE w' (Go.Proofs.YtioabjniipkncaaGreatDoor.grow S w w') F st ∧ Mods S w w'
theorem midP_same {p : Cd → Bool} {left left' : Lit → Bool} {pl : List (Nat × Cd)} (h : ∀ q ∈ pl, midF p left' q.2 = midF p left q.2) : midP p left' pl = midP p left pl := List.map_congr_left fun q hq => by rw [h q hq]
theorem midS_same {p : Cd → Bool} {left left' : Lit → Bool} {st : Ct} (h : ∀ x ∈ st.l, midF p left' x = midF p left x) : midS p left' st = midS p left st := by
  unfold midS
  rw [List.map_congr_left h]
theorem mid_fst (p : Cd → Bool) (left left' : Lit → Bool) (pl : List (Nat × Cd)) : (midP p left' pl).map (fun q => (q.1, q.2.w)) = (midP p left pl).map (fun q => (q.1, q.2.w)) := by
  unfold midP
  rw [List.map_map, List.map_map]
  refine List.map_congr_left fun q _ => ?_
  simp only [Function.comp, (midF_same p left q.2).1, (midF_same p left' q.2).1]
theorem mid_hl {p : Cd → Bool} {left : Lit → Bool} {pl : List (Nat × Cd)} {st : Ct} (hl : pl.map Prod.snd = st.l) : (midP p left pl).map Prod.snd = (midS p left st).l := by
  unfold midP midS
  simp only [List.map_map, ← hl]
  rfl
/-- A code's block is none of the others. -/
theorem RepP.apart {w : World} {S I : Nat → Prop} {F M : Nat} {st : Ct} {pl : List (Nat × Cd)} (h : RepP w S I F st M pl) {q : Nat × Cd} (hq : q ∈ pl) : M ≠ q.1 ∧ F ≠ q.1 := by
  obtain ⟨A, c, hq1, _⟩ := h.hb _ hq
  refine ⟨fun e => ?_, fun e => ?_⟩
  · obtain ⟨f1, m1, _⟩ := h.h1
    obtain ⟨es, cl, hmm⟩ := m1.isMap
    rw [e, hq1] at hmm
    cases hmm
  · have := h.hF
    rw [e, hq1] at this
    cases this
/-- One code more was dropped. -/
theorem rep_end {w : World} {S I : Nat → Prop} {F M : Nat} {st : Ct} {pl : List (Nat × Cd)} {p : Cd → Bool} {left : Lit → Bool} {q : Nat × Cd} (hl : pl.map Prod.snd = st.l) (hn : (st.l.map Cd.w).Nodup) (hi : Inv st)
    (h : RepP w S I F (midS p left st) M (midP p left pl)) (hq : q ∈ pl) (hlf : left (kyC q.2) = true) (he : q.2.used = false) (he2 : q.2.drp = false) (hp : p q.2 = true) :
    RepP (w.setCell ⟨q.1, 14, none⟩ (.bool true)) S I F (midS p (fun z => left z && !z.sameKey (kyC q.2)) st) M (midP p (fun z => left z && !z.sameKey (kyC q.2)) pl) := by
  have hm : (q.1, midF p left q.2) ∈ midP p left pl := List.mem_map.2 ⟨q, hq, rfl⟩
  have hq0 : midF p left q.2 = q.2 := by unfold midF; rw [if_pos hlf]
  rw [hq0] at hm
  obtain ⟨sq, iq⟩ := h.sb _ hm
  have far : ∀ k, k ≠ q.1 → (w.setCell ⟨q.1, 14, none⟩ (.bool true)).heap[k]? = w.heap[k]? := fun k hk => Below.heap_setCell _ _ _ _ hk
  obtain ⟨nM, nF⟩ := h.apart hm
  refine rep_upd h rfl (mid_hl hl) (mid_fst p left _ pl) (fun r hr => ?_) (fun _ e => e) (far _ nF) (far _ nM) (fun k e => by have := h.lt k e; simpa [World.setCell] using this) (inv_map hi _ (midF_same p _))
  obtain ⟨r0, hr0, rfl⟩ := List.mem_map.1 hr
  by_cases e : r0 = q
  · subst e
    simp only [midF_this]
    have : drF p r0.2 = { r0.2 with drp := true } := by unfold drF; rw [if_pos (by simp [he, he2, hp])]
    rw [this]
    exact (h.hb _ hm).set iq rfl (fun A c => rfl)
  · have hne : q.2.w ≠ r0.2.w := fun e2 => e (pl_inj hl hn hr0 hq e2.symm)
    have hne1 : r0.1 ≠ q.1 := fun e2 => by
      have hf := h.nd
      rw [show (midP p left pl).map Prod.fst = pl.map Prod.fst by unfold midP; rw [List.map_map]; rfl] at hf
      exact e (fst_inj hf hr0 hq e2)
    simp only [midF_other hne]
    have hm0 : (r0.1, midF p left r0.2) ∈ midP p left pl := List.mem_map.2 ⟨r0, hr0, rfl⟩
    exact (h.hb _ hm0).keep (fun _ e => e) (far _ hne1) (fun k hk => far _ (fun e2 => iq (by rw [← e2]; exact hk))) (by simp [World.setCell])
set_option maxRecDepth 100000 in
set_option maxHeartbeats 4000000 in
theorem drop_any {w : World} {S : Nat → Prop} {F : Nat} {st : Ct} (h : RepE w S F st) (fid : Nat) (s : Bs) (p : Cd → Bool) (hE : ∀ args w, (callFunc fid args).run Tryz.prog w = .ok (.enter fid args) w)
    (hc : ∀ (x : Cd) (b : Nat) (w1 : World) (I : Nat → Prop), CdP w1 I b x → Calls Tryz.prog fid #[.pointer (some ⟨b, 0, none⟩), .string s] w1 fun e w' => e = .returned (.bool (p x)) ∧ w1 = w') :
    Calls Tryz.prog 41 #[.pointer (some ⟨F, 0, none⟩), .func (.func fid) #[] #[], .string s] w (NumIs w S F (drN p st : Nat) (drS p st)) := by
  obtain ⟨I, M, pl, h⟩ := h
  have c1 := h.c1
  have HNd := Lib.hid h.inv.ids
  have HINV := Lib.hid h.inv
  have hl256 := h.inv.len
  have hFlt := h.lt _ h.sF.1
  obtain ⟨f1, ⟨D, ho, hsz, hv⟩, v1⟩ := h.h1
  have HL := Lib.hid h.hl
  have HV := Lib.hid hv
  have HV1 := Lib.hid v1
  have HO := Lib.hid ho
  have HP := Lib.hid (show ∀ x d, f1 x = some d → ∃ q : Nat, d = .lit (.int .i64 (q : Nat)) from fun x d hx => by obtain ⟨p, _, _, e⟩ := (v1 x d).1 hx; exact ⟨p.1, e⟩)
  have HH := Lib.hid (has_all hv v1 h.hl)
  have H := Lib.hid h
  have HC := Lib.hid hc
  have HLT := Lib.hid h.lt
  clear h hv v1 hsz ho hc
  go_enter Tryz.func41, Tryz.ntmps41
  go_wp2_with (first | (go_at_call 33; refine (made_yes H.out).mono ?_; rintro e w1 ⟨rfl, rfl⟩) | (at_range; refine wpList_range_own _ rfl _ 55 rfl 9 61 (Go.Maps.string_keyed strT) map1 ptrR M pl.length D rfl HO.out ?_; intro w0 hrg0 hg0 hs0))
  go_frame
  have HR0 := Lib.hid hrg0
  have HB0 := Lib.hid (show Below w.heap.size w w0 from (Below.refl _ _).grown hg0 (Nat.le_refl _) (fun k e => by cases e))
  clear hrg0 hg0
  go_loopw [7] (fun n wr => ∃ (left : Lit → Bool) (cnt m : Nat), n = .int .i64 m ∧ wr.ranges Tryz.prog 9 ptrR M w.heap.size pl.length D left cnt ∧ Hid (m = cntL left (fun x => !x.used && !x.drp && p x) st.l) ∧ Hid (RepP wr S I F (midS p left st) M (midP p left pl)) ∧ Hid (Mods S w wr)) (fun _ wr => wr.rangeLeft M w.heap.size)
  case atStart => exact ⟨Maps.has D, Maps.size D, 0, rfl, HR0.out, (cntL_start HH.out).symm, (by rw [midS_start HH.out, midP_start HL.out HH.out]; exact H.out.below HB0.out), Mods.of_below _ HB0.out⟩
  case round =>
    obtain ⟨left, cnt, m, rfl, hrg, HM, HR, HB⟩ := hrel
    have HRG := Lib.hid hrg
    have hm256 : m ≤ st.l.length := by rw [HM.out]; exact cntL_le _ _ _
    clear hrg
    go_wp2_with (at_next; refine wpList_next_view rfl _ rfl 9 strT M w.heap.size _ D f1 HV.out HP.out left cnt rfl HRG.out ?_ ?_)
    · intro hl
      have HF := Lib.hid (show m = drN p st by rw [HM.out, cntL_end hl]; rfl)
      have HS := Lib.hid (midS_end (p := p) (st := st) hl)
      clear hl
      go_wp2
      go_ret
      exact ⟨ret_int (by rw [HF.out]), ⟨I, M, _, by rw [← HS.out]; exact HR.out.grow w (Nat.le_refl _) (fun _ _ => rfl)⟩, HB.out⟩
    · intro s' q w2 cnt2 hf hlk hrg2 hlt hg2 hs2 hen
      obtain ⟨r, hp, hps, hpq⟩ := (HV1.out _ _).1 hf
      simp only [DataW.lit.injEq, Lit.int.injEq, true_and] at hpq
      have hq : q = r.1 := by omega
      subst hq
      have hs : s' = r.2.w := (bs_ext hps).symm
      subst hs
      have HRG2 := Lib.hid hrg2
      have HBZ := Lib.hid HB.out.size
      have HB2 := Lib.hid (HB.out.grown hg2 (fun b e => by injection e with e; subst e; exact Or.inr (Nat.le_refl _)))
      have HR2 := Lib.hid (HR.out.keep (w' := w2) (fun _ e => e) (fun k e => hg2.block k (HR.out.lt k e) (fun e2 => by injection e2 with e2; have := HLT.out k e; omega)) hg2.size (fun k e => Nat.lt_of_lt_of_le (HR.out.lt k e) hg2.size))
      have HST := Lib.hid (cntL_step (c := (fun x => !x.used && !x.drp && p x)) HNd.out (snd_mem HL.out hp) (show left (kyC r.2) = true from hlk))
      have HLT2 := Lib.hid hlt
      have HPP := Lib.hid hp
      have HLF := Lib.hid (show left (kyC r.2) = true from hlk)
      have hm0 : (r.1, midF p left r.2) ∈ midP p left pl := List.mem_map.2 ⟨r, hp, rfl⟩
      rw [show midF p left r.2 = r.2 by unfold midF; rw [if_pos HLF.out]] at hm0
      have HBR := Lib.hid (HR2.out.hb _ hm0)
      have hrn : r.1 < w.heap.size := HLT.out _ (HR2.out.sb _ hm0).1
      obtain ⟨A, c, hblk, _, _⟩ := HBR.out
      have HM0 := Lib.hid hm0
      clear hf hlk hrg2 hlt hg2 hps hpq hp hm0
      have k12 := cell_block hblk 12
      have k14 := cell_block hblk 14
      simp only [List.getElem?_toArray, List.getElem?_cons_zero, List.getElem?_cons_succ] at k12 k14
      have HBLK := Lib.hid hblk
      clear hblk
      cases hu : r.2.used with
      | true =>
        have HI := Lib.hid (show m = cntL (fun z => left z && !z.sameKey (kyC r.2)) (fun x => !x.used && !x.drp && p x) st.l by rw [HST.out, HM.out]; simp [hu])
        have hsame : ∀ x ∈ st.l, midF p (fun z => left z && !z.sameKey (kyC r.2)) x = midF p left x := fun x hx => by
          by_cases e : x.w = r.2.w
          · rw [← HL.out] at hx
            obtain ⟨q0, hq0, rfl⟩ := List.mem_map.1 hx
            have := pl_inj HL.out HNd.out hq0 HPP.out e
            subst this
            rw [midF_this]
            unfold midF drF
            rw [if_pos HLF.out, hu]
            simp
          · exact midF_other fun e2 => e e2.symm
        have HR3 := Lib.hid (show RepP w2 S I F (midS p (fun z => left z && !z.sameKey (kyC r.2)) st) M (midP p (fun z => left z && !z.sameKey (kyC r.2)) pl) by rw [midS_same hsame, midP_same (fun q hq => hsame q.2 (snd_mem HL.out hq))]; exact HR2.out)
        clear hsame
        rw [hu] at k12
        clear hu
        go_wp2
        go_roundw
        case rel => exact ⟨_, cnt2, m, rfl, HRG2.out, HI.out, HR3.out, HB2.out⟩
        case measure => rw [HRG2.out.left_eq, HRG.out.left_eq]; exact HLT2.out
      | false =>
        rw [hu] at k12
        have HU := Lib.hid hu
        clear hu
        cases hd : r.2.drp with
        | true =>
          have HI := Lib.hid (show m = cntL (fun z => left z && !z.sameKey (kyC r.2)) (fun x => !x.used && !x.drp && p x) st.l by rw [HST.out, HM.out]; simp [hd])
          have hsame : ∀ x ∈ st.l, midF p (fun z => left z && !z.sameKey (kyC r.2)) x = midF p left x := fun x hx => by
            by_cases e : x.w = r.2.w
            · rw [← HL.out] at hx
              obtain ⟨q0, hq0, rfl⟩ := List.mem_map.1 hx
              have := pl_inj HL.out HNd.out hq0 HPP.out e
              subst this
              rw [midF_this]
              unfold midF drF
              rw [if_pos HLF.out, hd]
              simp
            · exact midF_other fun e2 => e e2.symm
          have HR3 := Lib.hid (show RepP w2 S I F (midS p (fun z => left z && !z.sameKey (kyC r.2)) st) M (midP p (fun z => left z && !z.sameKey (kyC r.2)) pl) by rw [midS_same hsame, midP_same (fun q hq => hsame q.2 (snd_mem HL.out hq))]; exact HR2.out)
          clear hsame
          rw [hd] at k14
          clear hd
          go_wp2
          go_roundw
          case rel => exact ⟨_, cnt2, m, rfl, HRG2.out, HI.out, HR3.out, HB2.out⟩
          case measure => rw [HRG2.out.left_eq, HRG.out.left_eq]; exact HLT2.out
        | false =>
          rw [hd] at k14
          have HDD := Lib.hid hd
          clear hd
          have kf : w2.frozen? ⟨r.1, 14, none⟩ = false := by simp [World.frozen?, HBLK.out]
          have HNM := Lib.hid (HR2.out.apart HM0.out).1
          cases hpr : p r.2 with
          | true =>
            have HPR := Lib.hid hpr
            have HI := Lib.hid (show m + 1 = cntL (fun z => left z && !z.sameKey (kyC r.2)) (fun x => !x.used && !x.drp && p x) st.l by rw [HST.out, HM.out]; simp [HU.out, HDD.out, hpr])
            clear hpr
            go_wp2_with (refine (HC.out r.2 r.1 w2 I HBR.out).mono ?_; rintro e w3 ⟨rfl, rfl⟩; rw [HPR.out])
            have hg3 : w2.grownBy (w2.setCell ⟨r.1, 14, none⟩ (.bool true)) (some r.1) := ⟨rfl, rfl, rfl, by simp [World.setCell], fun k _ hk => Below.heap_setCell _ _ _ _ (fun e => hk (by rw [e]))⟩
            have HRG4 := Lib.hid (HRG2.out.kept hg3 (fun e => by injection e with e; exact HNM.out e) (fun e => by injection e with e; omega))
            have HRP4 := Lib.hid (rep_end HL.out HNd.out HINV.out HR2.out HPP.out HLF.out HU.out HDD.out HPR.out)
            have HB4 := Lib.hid ((HB2.out.setCell (p := ⟨r.1, 14, none⟩) (Or.inl (HR2.out.sb _ HM0.out).1) (.bool true)))
            clear hg3
            go_roundw
            case rel => exact ⟨_, cnt2, m + 1, by go_num, HRG4.out, HI.out, HRP4.out, HB4.out⟩
            case measure => rw [HRG4.out.left_eq, HRG.out.left_eq]; exact HLT2.out
          | false =>
            have HPR := Lib.hid hpr
            have HI := Lib.hid (show m = cntL (fun z => left z && !z.sameKey (kyC r.2)) (fun x => !x.used && !x.drp && p x) st.l by rw [HST.out, HM.out]; simp [hpr])
            have hsame : ∀ x ∈ st.l, midF p (fun z => left z && !z.sameKey (kyC r.2)) x = midF p left x := fun x hx => by
              by_cases e : x.w = r.2.w
              · rw [← HL.out] at hx
                obtain ⟨q0, hq0, rfl⟩ := List.mem_map.1 hx
                have := pl_inj HL.out HNd.out hq0 HPP.out e
                subst this
                rw [midF_this]
                unfold midF drF
                rw [if_pos HLF.out, hpr]
                simp
              · exact midF_other fun e2 => e e2.symm
            have HR3 := Lib.hid (show RepP w2 S I F (midS p (fun z => left z && !z.sameKey (kyC r.2)) st) M (midP p (fun z => left z && !z.sameKey (kyC r.2)) pl) by rw [midS_same hsame, midP_same (fun q hq => hsame q.2 (snd_mem HL.out hq))]; exact HR2.out)
            clear hsame
            clear hpr
            go_wp2_with (refine (HC.out r.2 r.1 w2 I HBR.out).mono ?_; rintro e w3 ⟨rfl, rfl⟩; rw [HPR.out])
            go_roundw
            case rel => exact ⟨_, cnt2, m, rfl, HRG2.out, HI.out, HR3.out, HB2.out⟩
            case measure => rw [HRG2.out.left_eq, HRG.out.left_eq]; exact HLT2.out
theorem entUsr : ∀ args w, (callFunc 43 args).run Tryz.prog w = .ok (.enter 43 args) w := enters_of Tryz.func43 (by kernel_rfl) rfl
theorem selUsr (s : Bs) (x : Cd) (b : Nat) (w1 : World) (I : Nat → Prop) (h : CdP w1 I b x) : Calls Tryz.prog 43 #[.pointer (some ⟨b, 0, none⟩), .string s] w1 fun e w' => e = .returned (.bool (isUsr s x)) ∧ w1 = w' := by
  obtain ⟨A, c, hblk, _, _⟩ := h
  have k := cell_block hblk 0
  simp only [List.getElem?_toArray, List.getElem?_cons_zero] at k
  clear hblk
  go_enter Tryz.func43, Tryz.ntmps43
  go_wp2
  go_ret
  exact ⟨ret_bool (by unfold isUsr; rw [Lib.toList_data, Lib.toList_data, Bool.eq_iff_iff, beq_iff_eq, decide_eq_true_eq]; exact ⟨fun h => bs_ext h, fun h => by rw [h]⟩), rfl⟩
theorem dropUsr_any {w : World} {S : Nat → Prop} {F : Nat} {st : Ct} (h : RepE w S F st) (s : Bs) :
    Calls Tryz.prog 25 #[.pointer (some ⟨F, 0, none⟩), .string s] w (NumIs w S F (drN (isUsr s) st : Nat) (drS (isUsr s) st)) := by
  have HD := Lib.hid (drop_any h 43 s (isUsr s) entUsr (selUsr s))
  clear h
  go_enter Tryz.func25, Tryz.ntmps25
  go_wp2_with fail
  refine HD.out.mono ?_
  rintro e w1 ⟨rfl, hr, hm⟩
  have HR := Lib.hid hr
  have HM := Lib.hid hm
  clear hr hm
  go_wp2
  go_ret
  exact ⟨rfl, HR.out, HM.out⟩
theorem entSes : ∀ args w, (callFunc 42 args).run Tryz.prog w = .ok (.enter 42 args) w := enters_of Tryz.func42 (by kernel_rfl) rfl
theorem selSes (s : Bs) (x : Cd) (b : Nat) (w1 : World) (I : Nat → Prop) (h : CdP w1 I b x) : Calls Tryz.prog 42 #[.pointer (some ⟨b, 0, none⟩), .string s] w1 fun e w' => e = .returned (.bool (isSes s x)) ∧ w1 = w' := by
  obtain ⟨A, c, hblk, _, _⟩ := h
  have k := cell_block hblk 3
  simp only [List.getElem?_toArray, List.getElem?_cons_zero, List.getElem?_cons_succ] at k
  clear hblk
  go_enter Tryz.func42, Tryz.ntmps42
  go_wp2
  go_ret
  exact ⟨ret_bool (by unfold isSes; rw [Lib.toList_data, Lib.toList_data, Bool.eq_iff_iff, beq_iff_eq, decide_eq_true_eq]; exact ⟨fun h => bs_ext h, fun h => by rw [h]⟩), rfl⟩
theorem dropSes_any {w : World} {S : Nat → Prop} {F : Nat} {st : Ct} (h : RepE w S F st) (s : Bs) :
    Calls Tryz.prog 21 #[.pointer (some ⟨F, 0, none⟩), .string s] w (NumIs w S F (drN (isSes s) st : Nat) (drS (isSes s) st)) := by
  have HD := Lib.hid (drop_any h 42 s (isSes s) entSes (selSes s))
  clear h
  go_enter Tryz.func21, Tryz.ntmps21
  go_wp2_with fail
  refine HD.out.mono ?_
  rintro e w1 ⟨rfl, hr, hm⟩
  have HR := Lib.hid hr
  have HM := Lib.hid hm
  clear hr hm
  go_wp2
  go_ret
  exact ⟨rfl, HR.out, HM.out⟩
end Go.Proofs.YtioabjniipkncaaGreatDoor.Rc
