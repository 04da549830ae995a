/-
  The program's end, Revoke, RevokeSession, RevokeUser, RevokeClient.
-/
import Derived.Test.YtfeljihbaekfmaaRfO
namespace Go.Proofs.Ytfeljihbaekfmaa.Rf
open Go.RowKit Go.Proofs.Ytfeljihbaekfmaa.Fo Go.Maps

theorem mem_map_eq {α β : Type} {f : α → β} {l l' : List α} (h : l'.map f = l.map f) {x : α} (hx : x ∈ l) : ∃ y ∈ l', f y = f x := by
  have : f x ∈ l'.map f := by rw [h]; exact List.mem_map.2 ⟨x, hx, rfl⟩
  obtain ⟨y, hy, e⟩ := List.mem_map.1 this
  exact ⟨y, hy, e⟩
theorem ntok_eq {l l' : List Fm} (h : l'.map (fun m => (m.id, m.toks)) = l.map (fun m => (m.id, m.toks))) : ntok l' = ntok l := by
  unfold ntok
  have := congrArg (List.map fun q : Bs × List Bs => q.2.length) h
  simp only [List.map_map] at this
  exact congrArg List.sum this
/-- Some families have turned, but for their names and tokens. -/
theorem rep_upd {w w' : World} {S S' I : Nat → Prop} {F M1 M2 : Nat} {st st' : St} {pl pl' : List (Nat × Fm)} (h : RepP w S I F st M1 M2 pl) (hlf : st'.life = st.life) (hto : st'.total = st.total) (hl : pl'.map Prod.snd = st'.l)
    (hA : pl'.map (fun q => (q.1, q.2.id)) = pl.map (fun q => (q.1, q.2.id))) (hB : st'.l.map (fun m => (m.id, m.toks)) = st.l.map (fun m => (m.id, m.toks))) (hb : ∀ q ∈ pl', FmP w' I q.1 q.2)
    (hs : ∀ k, S k → S' k) (kF : w'.heap[F]? = w.heap[F]?) (k1 : w'.heap[M1]? = w.heap[M1]?) (k2 : w'.heap[M2]? = w.heap[M2]?) (hlt : ∀ k, S' k → k < w'.heap.size) (hi : Inv st') : RepP w' S' I F st' M1 M2 pl' := by
  obtain ⟨f1, m1, v1⟩ := h.h1
  obtain ⟨f2, m2, v2⟩ := h.h2
  have hlen : pl'.length = pl.length := by have := congrArg List.length hA; simpa using this
  refine ⟨by rw [hlf, hto]; exact kF.trans h.hF, ⟨f1, by rw [hlen]; exact m1.frame k1, fun x d => ?_⟩, ⟨f2, by rw [ntok_eq hB]; exact m2.frame k2, fun x d => ?_⟩, hl, hb, fun q hq => ?_, fun k e => hs k (h.sI k e), ?_, h.hm, ⟨hs _ h.sF.1, h.sF.2⟩, ⟨hs _ h.s1.1, h.s1.2⟩, ⟨hs _ h.s2.1, h.s2.2⟩, hlt, hi⟩
  · rw [v1]
    constructor
    · rintro ⟨p, hp, e1, e2⟩
      obtain ⟨q, hq, e⟩ := mem_map_eq hA hp
      simp only [Prod.mk.injEq] at e
      exact ⟨q, hq, by rw [e.2]; exact e1, by rw [e.1]; exact e2⟩
    · rintro ⟨p, hp, e1, e2⟩
      obtain ⟨q, hq, e⟩ := mem_map_eq hA.symm hp
      simp only [Prod.mk.injEq] at e
      exact ⟨q, hq, by rw [e.2]; exact e1, by rw [e.1]; exact e2⟩
  · rw [v2]
    constructor
    · rintro ⟨p, hp, e1, e2⟩
      obtain ⟨q, hq, e⟩ := mem_map_eq hB hp
      simp only [Prod.mk.injEq] at e
      exact ⟨q, hq, by rw [e.2]; exact e1, by rw [e.1]; exact e2⟩
    · rintro ⟨p, hp, e1, e2⟩
      obtain ⟨q, hq, e⟩ := mem_map_eq hB.symm hp
      simp only [Prod.mk.injEq] at e
      exact ⟨q, hq, by rw [e.2]; exact e1, by rw [e.1]; exact e2⟩
  · obtain ⟨p, hp, e⟩ := mem_map_eq hA.symm hq
    simp only [Prod.mk.injEq] at e
    rw [← e.1]
    exact ⟨hs _ (h.sb p hp).1, (h.sb p hp).2⟩
  · have := congrArg (List.map Prod.fst) hA
    simp only [List.map_map] at this
    rw [show pl'.map Prod.fst = pl.map Prod.fst from this]
    exact h.nd
theorem inv_map {st : St} (h : Inv st) (g : Fm → Fm) (hg : ∀ x, (g x).id = x.id ∧ (g x).g = x.g ∧ (g x).toks = x.toks ∧ (g x).untl = x.untl ∧ (g x).fin = x.fin) : Inv { st with l := st.l.map g } := by
  have key : ∀ x ∈ st.l.map g, ∃ y ∈ st.l, x.id = y.id ∧ x.g = y.g ∧ x.toks = y.toks ∧ x.untl = y.untl ∧ x.fin = y.fin := fun x hx => by
    obtain ⟨y, hy, rfl⟩ := List.mem_map.1 hx
    exact ⟨y, hy, hg y⟩
  refine ⟨?_, ?_, ?_, ?_, by simpa using h.len, ?_, ?_, ?_, ?_, h.lf⟩
  · rw [List.map_map, show (Fm.id ∘ g) = Fm.id from funext fun x => (hg x).1]; exact h.ids
  · intro x hx y hy t h1 h2
    obtain ⟨x', hx', e1⟩ := key x hx
    obtain ⟨y', hy', e2⟩ := key y hy
    rw [e1.1, e2.1]
    exact h.tk x' hx' y' hy' t (by rw [← e1.2.2.1]; exact h1) (by rw [← e2.2.2.1]; exact h2)
  · intro x hx; obtain ⟨y, hy, e⟩ := key x hx; rw [e.2.2.1]; exact h.nd y hy
  · intro x hx; obtain ⟨y, hy, e⟩ := key x hx; rw [e.2.2.1]; exact h.ne y hy
  · intro x hx; obtain ⟨y, hy, e⟩ := key x hx; rw [e.2.2.1]; exact h.tl y hy
  · intro x hx; obtain ⟨y, hy, e⟩ := key x hx; rw [e.1, e.2.2.1]; exact h.sz y hy
  · intro x hx; obtain ⟨y, hy, e⟩ := key x hx; rw [e.2.1]; exact h.sc y hy
  · intro x hx; obtain ⟨y, hy, e⟩ := key x hx; rw [e.2.2.2.1, e.2.2.2.2]; exact h.rg y hy
theorem endF_same (p : Fm → Bool) (x : Fm) : (endF p x).id = x.id ∧ (endF p x).g = x.g ∧ (endF p x).toks = x.toks ∧ (endF p x).untl = x.untl ∧ (endF p x).fin = x.fin := by
  unfold endF; split <;> exact ⟨rfl, rfl, rfl, rfl, rfl⟩
theorem inv_end {st : St} (h : Inv st) (p : Fm → Bool) : Inv (endS p st) := inv_map h _ (endF_same p)
/-- A family on the way: what is still to come is as it was. -/
def midF (p : Fm → Bool) (left : Lit → Bool) (x : Fm) : Fm := if left (kyF x) then x else endF p x
theorem midF_same (p : Fm → Bool) (left : Lit → Bool) (x : Fm) : (midF p left x).id = x.id ∧ (midF p left x).g = x.g ∧ (midF p left x).toks = x.toks ∧ (midF p left x).untl = x.untl ∧ (midF p left x).fin = x.fin := by
  unfold midF; split
  · exact ⟨rfl, rfl, rfl, rfl, rfl⟩
  · exact endF_same p x
def midS (p : Fm → Bool) (left : Lit → Bool) (st : St) : St := { st with l := st.l.map (midF p left) }
def midP (p : Fm → Bool) (left : Lit → Bool) (pl : List (Nat × Fm)) : List (Nat × Fm) := pl.map fun q => (q.1, midF p left q.2)
theorem midS_start {p : Fm → Bool} {left : Lit → Bool} {st : St} (h : ∀ x ∈ st.l, left (kyF x) = true) : midS p left st = st := by
  unfold midS
  have : st.l.map (midF p left) = st.l := by
    rw [List.map_congr_left (g := fun x => x) (fun x hx => by unfold midF; rw [if_pos (h x hx)])]
    simp
  rw [this]
theorem midP_start {p : Fm → Bool} {left : Lit → Bool} {pl : List (Nat × Fm)} {l : List Fm} (hl : pl.map Prod.snd = l) (h : ∀ x ∈ l, left (kyF x) = true) : midP p left pl = pl := by
  unfold midP
  rw [List.map_congr_left (g := fun x => x) (fun x hx => by unfold midF; rw [if_pos (h x.2 (snd_mem hl hx))])]
  simp
theorem midS_end {p : Fm → Bool} {left : Lit → Bool} {st : St} (h : ∀ z, left z = false) : midS p left st = endS p st := by
  unfold midS endS
  have : midF p left = endF p := funext fun x => by unfold midF; rw [if_neg (by simp [h])]
  rw [this]
theorem midF_other {p : Fm → Bool} {left : Lit → Bool} {x y : Fm} (h : x.id ≠ y.id) : midF p (fun z => left z && !z.sameKey (kyF x)) y = midF p left y := by
  unfold midF
  simp [kyF_ne h]
theorem midF_this {p : Fm → Bool} {left : Lit → Bool} {x : Fm} : midF p (fun z => left z && !z.sameKey (kyF x)) x = endF p x := by
  unfold midF
  simp [kyF_self]
/-- The families whose step came, seen in the list. -/
theorem pl_inj {pl : List (Nat × Fm)} {l : List Fm} (hl : pl.map Prod.snd = l) (hn : (l.map Fm.id).Nodup) {p q : Nat × Fm} (hp : p ∈ pl) (hq : q ∈ pl) (h : p.2.id = q.2.id) : p = q := by
  subst hl
  rw [List.map_map] at hn
  induction pl with
  | nil => simp at hp
  | cons a r ih =>
    simp only [List.map_cons, List.nodup_cons] at hn
    rcases List.mem_cons.1 hp with rfl | hp'
    · rcases List.mem_cons.1 hq with rfl | hq'
      · rfl
      · exact absurd (List.mem_map.2 ⟨q, hq', h.symm⟩) hn.1
    · rcases List.mem_cons.1 hq with rfl | hq'
      · exact absurd (List.mem_map.2 ⟨p, hp', h⟩) hn.1
      · exact ih hp' hq' hn.2
theorem fst_inj {pl : List (Nat × Fm)} (hn : (pl.map Prod.fst).Nodup) {p q : Nat × Fm} (hp : p ∈ pl) (hq : q ∈ pl) (h : p.1 = q.1) : p = q := by
  induction pl with
  | nil => simp at hp
  | cons a r ih =>
    simp only [List.map_cons, List.nodup_cons] at hn
    rcases List.mem_cons.1 hp with rfl | hp'
    · rcases List.mem_cons.1 hq with rfl | hq'
      · rfl
      · exact absurd (List.mem_map.2 ⟨q, hq', h.symm⟩) hn.1
    · rcases List.mem_cons.1 hq with rfl | hq'
      · exact absurd (List.mem_map.2 ⟨p, hp', h⟩) hn.1
      · exact ih hn.2 hp' hq'
theorem FmP.ended {w : World} {I : Nat → Prop} {b : Nat} {x : Fm} (h : FmP w I b x) (hb : ¬ I b) : FmP (w.setCell ⟨b, 15, none⟩ (.bool true)) I b { x with ended := true } := by
  obtain ⟨A, c, h1, h2, h3⟩ := h
  refine ⟨A, c, heap_setCell_same w b 15 _ _ (.bool true) h1, ?_, h3⟩
  exact h2.keep h3 (fun k e => Below.heap_setCell _ _ _ _ (fun e2 => hb (by subst e2; exact e))) (by simp [World.setCell])
end Go.Proofs.Ytfeljihbaekfmaa.Rf
