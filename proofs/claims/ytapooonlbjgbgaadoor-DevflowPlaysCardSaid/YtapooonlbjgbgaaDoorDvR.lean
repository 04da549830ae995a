/-
  What ranging over a map of flows wants.
-/
import Derived.Test.YtapooonlbjgbgaaDoorDvN
import Derived.Maps.RangeWalk
import Derived.Maps.OwnSet
import Derived.Shelf.Abstract
namespace Go.Proofs.YtapooonlbjgbgaaDoor.Dv
open Go.RowKit Go.Proofs.YtapooonlbjgbgaaDoor.Fo Go.Proofs.YtapooonlbjgbgaaDoor.Rf Go.Maps Go.WideMaps

def kyC (x : Fw) : Lit := .string x.w.data.toList
theorem kyC_ne {x y : Fw} (h : x.w ≠ y.w) : (kyC y).sameKey (kyC x) = false := sameKey_ne fun e => h (bs_ext (by injection e with e; exact e.symm))
theorem kyC_self (x : Fw) : (kyC x).sameKey (kyC x) = true := WideAt.sameKey_self trivial
/-- How many codes have been passed that meet a condition. -/
def cntL (left : Lit → Bool) (c : Fw → Bool) (l : List Fw) : Nat := l.countP fun y => !left (kyC y) && c y
theorem cntL_step {left : Lit → Bool} {c : Fw → Bool} {l : List Fw} {x : Fw} (hn : (l.map Fw.w).Nodup) (hx : x ∈ l) (hl : left (kyC x) = true) :
    cntL (fun z => left z && !z.sameKey (kyC x)) c l = cntL left c l + (if c x then 1 else 0) := by
  unfold cntL
  induction l with
  | nil => simp at hx
  | cons y r ih =>
    simp only [List.map_cons, List.nodup_cons] at hn
    rw [List.countP_cons, List.countP_cons]
    rcases List.mem_cons.1 hx with rfl | hx'
    · have e : r.countP (fun y => !(left (kyC y) && !(kyC y).sameKey (kyC x)) && c y) = r.countP (fun y => !left (kyC y) && c y) := by
        refine List.countP_congr fun z hz => ?_
        have : x.w ≠ z.w := fun e => hn.1 (by rw [e]; exact List.mem_map.2 ⟨z, hz, rfl⟩)
        rw [kyC_ne this]
        simp
      rw [e]
      simp [kyC_self, hl]
    · have : x.w ≠ y.w := fun e => hn.1 (by rw [← e]; exact List.mem_map.2 ⟨x, hx', rfl⟩)
      rw [ih hn.2 hx']
      simp [kyC_ne this]
      omega
theorem cntL_start {left : Lit → Bool} {c : Fw → Bool} {l : List Fw} (h : ∀ x ∈ l, left (kyC x) = true) : cntL left c l = 0 := by
  unfold cntL
  rw [List.countP_eq_zero]
  intro x hx
  simp [h x hx]
theorem cntL_end {left : Lit → Bool} {c : Fw → Bool} {l : List Fw} (h : ∀ z, left z = false) : cntL left c l = l.countP c := by
  unfold cntL
  simp [h]
theorem cntL_le (left : Lit → Bool) (c : Fw → Bool) (l : List Fw) : cntL left c l ≤ l.length := List.countP_le_length
theorem has_all {D : DataW Unit} {pl : List (Nat × Fw)} {f1 : List UInt8 → Option (DataW Unit)} (hv : View D f1) (v1 : ∀ x d, f1 x = some d ↔ ∃ p ∈ pl, p.2.w.data.toList = x ∧ d = .lit (.int .i64 (p.1 : Nat))) {l : List Fw} (hl : pl.map Prod.snd = l) : ∀ x ∈ l, Maps.has D (kyC x) = true := by
  intro x hx
  rw [← hl] at hx
  obtain ⟨p, hp, rfl⟩ := List.mem_map.1 hx
  rw [show kyC p.2 = .string p.2.w.data.toList from rfl, hv.1, (v1 _ _).2 ⟨p, hp, rfl, rfl⟩]
  rfl
theorem ranges_below {P : Program} {k : TypeId} {R : Value → Option (DataW Unit × List MemPlace)} {w w' : World} {b r n : Nat} {D : DataW Unit} {left : Lit → Bool} {cnt : Nat} (h : w.ranges P k R b r n D left cnt) (hb : Below w.heap.size w w') : w'.ranges P k R b r n D left cnt :=
  h.kept (row := none) ⟨hb.os, hb.tape, hb.output, hb.size, fun i hi _ => hb.block i hi⟩ (by simp) (by simp)
theorem mem_map_eq {α β : Type} {f : α → β} {l l' : List α} (h : l'.map f = l.map f) {x : α} (hx : x ∈ l) : ∃ y ∈ l', f y = f x := by
  have : f x ∈ l'.map f := by rw [h]; exact List.mem_map.2 ⟨x, hx, rfl⟩
  obtain ⟨y, hy, e⟩ := List.mem_map.1 this
  exact ⟨y, hy, e⟩
theorem pl_inj {pl : List (Nat × Fw)} {l : List Fw} (hl : pl.map Prod.snd = l) (hn : (l.map Fw.w).Nodup) {p q : Nat × Fw} (hp : p ∈ pl) (hq : q ∈ pl) (h : p.2.w = q.2.w) : p = q := by
  subst hl
  rw [List.map_map] at hn
  induction pl with
  | nil => simp at hp
  | cons a r ih =>
    simp only [List.map_cons, List.nodup_cons] at hn
    rcases List.mem_cons.1 hp with rfl | hp'
    · rcases List.mem_cons.1 hq with rfl | hq'
      · rfl
      · exact absurd (List.mem_map.2 ⟨q, hq', h.symm⟩) hn.1
    · rcases List.mem_cons.1 hq with rfl | hq'
      · exact absurd (List.mem_map.2 ⟨p, hp', h⟩) hn.1
      · exact ih hp' hq' hn.2
theorem fst_inj {pl : List (Nat × Fw)} (hn : (pl.map Prod.fst).Nodup) {p q : Nat × Fw} (hp : p ∈ pl) (hq : q ∈ pl) (h : p.1 = q.1) : p = q := by
  induction pl with
  | nil => simp at hp
  | cons a r ih =>
    simp only [List.map_cons, List.nodup_cons] at hn
    rcases List.mem_cons.1 hp with rfl | hp'
    · rcases List.mem_cons.1 hq with rfl | hq'
      · rfl
      · exact absurd (List.mem_map.2 ⟨q, hq', h.symm⟩) hn.1
    · rcases List.mem_cons.1 hq with rfl | hq'
      · exact absurd (List.mem_map.2 ⟨p, hp', h⟩) hn.1
      · exact ih hn.2 hp' hq'
theorem view_del {D : DataW Unit} {f : List UInt8 → Option (DataW Unit)} (h : View D f) (s : List UInt8) : View (D.del (.string s)) (fun x => if x = s then none else f x) := by
  obtain ⟨h1, h2⟩ := h
  refine ⟨fun x => ?_, fun x z => ?_⟩
  · by_cases e : x = s
    · subst e; simp only [if_true]; rw [has_del_same]; rfl
    · simp only [if_neg e]; rw [has_del_other (fun h => e (by injection h))]; exact h1 x
  · by_cases e : x = s
    · subst e; simp only [if_true]; rw [atKey_del_same]; rfl
    · simp only [if_neg e]; rw [atKey_del_other (fun h => e (by injection h))]; exact h2 x z
/-- What is left of the codes while they are purged. -/
def plL (left : Lit → Bool) (o : Fw → Bool) (pl : List (Nat × Fw)) : List (Nat × Fw) := pl.filter fun q => left (kyC q.2) || !o q.2
theorem mem_plL {left : Lit → Bool} {o : Fw → Bool} {pl : List (Nat × Fw)} {q : Nat × Fw} : q ∈ plL left o pl ↔ q ∈ pl ∧ (left (kyC q.2) = true ∨ o q.2 = false) := by
  unfold plL
  rw [List.mem_filter]
  simp
theorem filter_one {pl : List (Nat × Fw)} {P Q : Nat × Fw → Bool} {r : Nat × Fw} (hn : (pl.map fun q => q.2.w).Nodup) (hr : r ∈ pl) (h1 : P r = true) (h2 : Q r = false) (h : ∀ x ∈ pl, x.2.w ≠ r.2.w → Q x = P x) : (pl.filter Q).length + 1 = (pl.filter P).length := by
  induction pl with
  | nil => simp at hr
  | cons y l ih =>
    simp only [List.map_cons, List.nodup_cons] at hn
    rcases List.mem_cons.1 hr with rfl | hr'
    · have e : l.filter Q = l.filter P := List.filter_congr fun x hx => h x (List.mem_cons_of_mem _ hx) (fun e => hn.1 (by rw [← e]; exact List.mem_map.2 ⟨x, hx, rfl⟩))
      rw [List.filter_cons, List.filter_cons, h1, h2, e]
      simp
    · have hne : y.2.w ≠ r.2.w := fun e => hn.1 (by rw [e]; exact List.mem_map.2 ⟨r, hr', rfl⟩)
      have e := h y List.mem_cons_self hne
      have := ih hn.2 hr' (fun x hx => h x (List.mem_cons_of_mem _ hx))
      rw [List.filter_cons, List.filter_cons, e]
      split
      · simp only [List.length_cons]; omega
      · exact this
theorem plL_start {left : Lit → Bool} {o : Fw → Bool} {pl : List (Nat × Fw)} {l : List Fw} (hl : pl.map Prod.snd = l) (h : ∀ x ∈ l, left (kyC x) = true) : plL left o pl = pl := by
  unfold plL
  rw [List.filter_eq_self]
  intro q hq
  rw [h q.2 (snd_mem hl hq)]
  rfl
theorem plL_end {left : Lit → Bool} {o : Fw → Bool} {pl : List (Nat × Fw)} (h : ∀ z, left z = false) : plL left o pl = pl.filter fun q => !o q.2 := by
  unfold plL
  simp [h]
theorem wnd {pl : List (Nat × Fw)} {l : List Fw} (hl : pl.map Prod.snd = l) (hn : (l.map Fw.w).Nodup) : (pl.map fun q => q.2.w).Nodup := by
  rw [← hl, List.map_map] at hn
  exact hn
theorem purge_step {pl : List (Nat × Fw)} {l : List Fw} {left left2 : Lit → Bool} {o : Fw → Bool} {r : Nat × Fw} {D : DataW Unit} {f : List UInt8 → Option (DataW Unit)} (hl : pl.map Prod.snd = l) (hn : (l.map Fw.w).Nodup) (hr : r ∈ pl) (hlf : left (kyC r.2) = true) (ho : o r.2 = true) (hv : View D f) (hs : ∀ x d, f x = some d ↔ ∃ p ∈ plL left o pl, p.2.w.data.toList = x ∧ d = .lit (.int .i64 (p.1 : Nat))) (hz : Maps.size D = (plL left o pl).length) (ht : Tidy D)
    (h2 : ∀ z, left2 z = ((left z && !z.sameKey (kyC r.2)) && !z.sameKey (kyC r.2))) : (∀ x d, (if x = r.2.w.data.toList then none else f x) = some d ↔ ∃ p ∈ plL left2 o pl, p.2.w.data.toList = x ∧ d = .lit (.int .i64 (p.1 : Nat))) ∧ Maps.size (D.del (.string r.2.w.data.toList)) = (plL left2 o pl).length := by
  have hoth : ∀ x : Fw, x.w ≠ r.2.w → left2 (kyC x) = left (kyC x) := fun x hne => by rw [h2, kyC_ne (fun e => hne e.symm)]; simp
  have hself : left2 (kyC r.2) = false := by rw [h2, kyC_self]; simp
  have hrm : r ∈ plL left o pl := mem_plL.2 ⟨hr, Or.inl hlf⟩
  refine ⟨fun x d => ?_, ?_⟩
  · by_cases e : x = r.2.w.data.toList
    · rw [if_pos e]
      refine ⟨(fun h => by cases h), (fun ⟨p, hp, e1, _⟩ => ?_)⟩
      have e2 : p.2.w = r.2.w := bs_ext (e1.trans e)
      have := pl_inj hl hn (mem_plL.1 hp).1 hr e2
      subst this
      rcases (mem_plL.1 hp).2 with h3 | h3
      · rw [hself] at h3; cases h3
      · rw [ho] at h3; cases h3
    · rw [if_neg e, hs]
      constructor
      · rintro ⟨p, hp, e1, e2⟩
        have hne : p.2.w ≠ r.2.w := fun h => e (by rw [← e1, h])
        exact ⟨p, mem_plL.2 ⟨(mem_plL.1 hp).1, by rw [hoth _ hne]; exact (mem_plL.1 hp).2⟩, e1, e2⟩
      · rintro ⟨p, hp, e1, e2⟩
        have hne : p.2.w ≠ r.2.w := fun h => e (by rw [← e1, h])
        exact ⟨p, mem_plL.2 ⟨(mem_plL.1 hp).1, by rw [← hoth _ hne]; exact (mem_plL.1 hp).2⟩, e1, e2⟩
  · have h3 := size_del (k := .string r.2.w.data.toList) ht
    rw [hv.1, (hs _ _).2 ⟨r, hrm, rfl, rfl⟩, hz] at h3
    have h4 := filter_one (P := fun q => left (kyC q.2) || !o q.2) (Q := fun q => left2 (kyC q.2) || !o q.2) (wnd hl hn) hr (by simp [hlf]) (by simp [hself, ho]) (fun x _ hne => by simp only [hoth _ hne])
    simp only [Option.isSome_some, if_true] at h3
    unfold plL at h3 ⊢
    omega
theorem purge_keep {pl : List (Nat × Fw)} {l : List Fw} {left : Lit → Bool} {o : Fw → Bool} {r : Nat × Fw} (hl : pl.map Prod.snd = l) (hn : (l.map Fw.w).Nodup) (hr : r ∈ pl) (hlf : left (kyC r.2) = true) (ho : o r.2 = false) : plL (fun z => left z && !z.sameKey (kyC r.2)) o pl = plL left o pl := by
  unfold plL
  refine List.filter_congr fun x hx => ?_
  dsimp only
  by_cases e : x.2.w = r.2.w
  · have := pl_inj hl hn hx hr e
    subst this
    rw [kyC_self, hlf, ho]
    rfl
  · rw [kyC_ne (fun h => e h.symm)]
    simp
theorem set_self {α : Type} {l : List α} {i : Nat} {x : α} (h : l[i]? = some x) : l.set i x = l := by
  refine List.ext_getElem? fun j => ?_
  rw [List.getElem?_set]
  by_cases e2 : i = j
  · subst e2; rw [if_pos rfl, if_pos (List.getElem?_eq_some_iff.1 h).1, h]
  · rw [if_neg e2]
theorem nodup_at {α : Type} {l : List α} (h : l.Nodup) {i j : Nat} {x : α} (hi : l[i]? = some x) (hj : l[j]? = some x) : i = j := by
  have h1 := (List.getElem?_eq_some_iff.1 hi).1
  have h2 := (List.getElem?_eq_some_iff.1 hj).1
  have e1 := (List.getElem?_eq_some_iff.1 hi).2
  have e2 := (List.getElem?_eq_some_iff.1 hj).2
  rcases Nat.lt_trichotomy i j with hlt | heq | hgt
  · exact absurd (e1.trans e2.symm) (List.pairwise_iff_getElem.1 h i j h1 h2 hlt)
  · exact heq
  · exact absurd (e2.trans e1.symm) (List.pairwise_iff_getElem.1 h j i h2 h1 hgt)
end Go.Proofs.YtapooonlbjgbgaaDoor.Dv
