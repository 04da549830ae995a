/-
  Plain functions of layer 40: authorization codes. No program.
-/
import Derived.Test.YtioabjniipkncaaGreatDoorRfD
import Derived.Test.YtioabjniipkncaaGreatDoorFoF
namespace Go.Proofs.YtioabjniipkncaaGreatDoor.Rc
open Go.RowKit Go.Proofs.YtioabjniipkncaaGreatDoor.Fo Go.Proofs.YtioabjniipkncaaGreatDoor.Rf

def cln (s : Bs) : Bool := clnL s.data.toList
/-- A code that is kept. -/
structure Cd where
  w : Bs
  g : Gr
  fin : Int
  used : Bool
  att : Bool
  drp : Bool
structure Ct where
  life : Int
  l : List Cd
/-- The place of a code. -/
def cdI (l : List Cd) (w : Bs) : Option Nat := l.findIdx? fun x => decide (x.w = w)
/-- A grant has the form. -/
def frmG (g : Gr) : Bool := (cln g.redirect && (decide (g.nonce = eB) || wrd g.nonce)) && ((decide (g.challenge = eB) && decide (g.method = 0)) || (cln g.challenge && (decide (g.method = 1) || decide (g.method = 2))))
/-- The first error of a grant. -/
def ckG (g : Gr) : Int :=
  if frmG g = false then 4
  else if chkS g.scopes ≠ 0 then chkS g.scopes
  else if g.level < 0 ∨ 3 < g.level then 27
  else if g.auth ≠ limI g.auth then 2 else 0
def newC (st : Ct) (w : Bs) (g : Gr) (now : Int) : Cd := ⟨w, g, addC now st.life, false, false, false⟩
def issE (st : Ct) (w : Bs) (g : Gr) : Int :=
  if wrd w = false ∨ wrd g.user = false ∨ wrd g.client = false ∨ wrd g.tenant = false ∨ wrd g.session = false then 5
  else if cdI st.l w ≠ none then 7
  else if ckG g ≠ 0 then ckG g
  else if 256 ≤ st.l.length then 3 else 0
def iss (st : Ct) (w : Bs) (g : Gr) (now : Int) : Ct × Int :=
  if issE st w g = 0 then ({ st with l := st.l ++ [newC st w g now] }, 0) else (st, issE st w g)
/-- Why a code is not redeemed; pv: the verifier fits. -/
def redE (x : Cd) (c r : Bs) (pv : Bool) (now : Int) : Int :=
  if x.used then 18
  else if x.drp then 25
  else if x.fin ≤ limI now then 13
  else if c ≠ x.g.client then 11
  else if r ≠ x.g.redirect then 2
  else if pv = false then 20 else 0
def redX (x : Cd) (e : Int) : Cd := if e = 18 then { x with att := true } else if e = 20 ∨ e = 0 then { x with used := true } else x
def red (st : Ct) (w c r : Bs) (pv : Gr → Bool) (now : Int) : Ct × (Gr × Int) :=
  match cdI st.l w with
  | none => (st, (noG, 6))
  | some i =>
    match st.l[i]? with
    | none => (st, (noG, 6))
    | some x =>
      ({ st with l := st.l.set i (redX x (redE x c r (pv x.g) now)) }, (if redE x c r (pv x.g) now = 0 then x.g else noG, redE x c r (pv x.g) now))
/-- What find tells: used, attacked. -/
def fndC (st : Ct) (w : Bs) : Option Cd := (cdI st.l w).bind fun i => st.l[i]?
def usedS (st : Ct) (w : Bs) : Bool := match fndC st w with | none => false | some x => x.used
def attS (st : Ct) (w : Bs) : Bool := match fndC st w with | none => false | some x => x.att
def drF (p : Cd → Bool) (x : Cd) : Cd := if !x.used && !x.drp && p x then { x with drp := true } else x
def drS (p : Cd → Bool) (st : Ct) : Ct := { st with l := st.l.map (drF p) }
def drN (p : Cd → Bool) (st : Ct) : Nat := st.l.countP fun x => !x.used && !x.drp && p x
def isSes (s : Bs) (x : Cd) : Bool := decide (x.g.session = s)
def isUsr (s : Bs) (x : Cd) : Bool := decide (x.g.user = s)
/-- A code ended some time ago. -/
def old (life now : Int) (x : Cd) : Bool := decide (addC x.fin life ≤ limI now)
def puS (st : Ct) (now : Int) : Ct := { st with l := st.l.filter fun x => !old st.life now x }
theorem cdI_none {l : List Cd} {i : Bs} : cdI l i = none ↔ ∀ m ∈ l, m.w ≠ i := by
  unfold cdI
  rw [List.findIdx?_eq_none_iff]
  exact ⟨fun h m hm e => by simpa [e] using h m hm, fun h m hm => by simpa using h m hm⟩
theorem cdI_some {l : List Cd} {i : Bs} {k : Nat} (h : cdI l i = some k) : ∃ x, l[k]? = some x ∧ x.w = i := by
  unfold cdI at h
  obtain ⟨hi, hp, _⟩ := List.findIdx?_eq_some_iff_getElem.1 h
  exact ⟨l[k], List.getElem?_eq_getElem hi, of_decide_eq_true hp⟩
theorem fnd_none {st : Ct} {w : Bs} (h : cdI st.l w = none) : fndC st w = none := by unfold fndC; rw [h]; rfl
theorem fnd_some {st : Ct} {w : Bs} {i : Nat} {x : Cd} (h : cdI st.l w = some i) (hx : st.l[i]? = some x) : fndC st w = some x := by unfold fndC; rw [h]; exact hx
/-- What holds of every record of codes. -/
structure Inv (st : Ct) : Prop where
  ids : (st.l.map Cd.w).Nodup
  len : st.l.length ≤ 256
  sz : ∀ x ∈ st.l, x.w.size ≤ 64
  sc : ∀ x ∈ st.l, Short x.g.scopes ∧ x.g.scopes.length ≤ 16
  rg : ∀ x ∈ st.l, 0 ≤ x.fin ∧ x.fin ≤ 1099511627776
  fr : ∀ x ∈ st.l, frmG x.g = true
  lf : 1 ≤ st.life ∧ st.life ≤ 1099511627776
theorem inv_nil {a : Int} (h1 : 1 ≤ a) (h2 : a ≤ 1099511627776) : Inv ⟨a, []⟩ :=
  ⟨List.Pairwise.nil, by simp, (fun _ h => by simp at h), (fun _ h => by simp at h), (fun _ h => by simp at h), (fun _ h => by simp at h), ⟨h1, h2⟩⟩
theorem inv_map {st : Ct} (h : Inv st) (g : Cd → Cd) (hg : ∀ x, (g x).w = x.w ∧ (g x).g = x.g ∧ (g x).fin = x.fin) : Inv { st with l := st.l.map g } := by
  have key : ∀ x ∈ st.l.map g, ∃ y ∈ st.l, x.w = y.w ∧ x.g = y.g ∧ x.fin = y.fin := fun x hx => by
    obtain ⟨y, hy, rfl⟩ := List.mem_map.1 hx
    exact ⟨y, hy, hg y⟩
  refine ⟨?_, by simpa using h.len, ?_, ?_, ?_, ?_, h.lf⟩
  · rw [List.map_map, show (Cd.w ∘ g) = Cd.w from funext fun x => (hg x).1]; exact h.ids
  · intro x hx; obtain ⟨y, hy, e⟩ := key x hx; rw [e.1]; exact h.sz y hy
  · intro x hx; obtain ⟨y, hy, e⟩ := key x hx; rw [e.2.1]; exact h.sc y hy
  · intro x hx; obtain ⟨y, hy, e⟩ := key x hx; rw [e.2.2]; exact h.rg y hy
  · intro x hx; obtain ⟨y, hy, e⟩ := key x hx; rw [e.2.1]; exact h.fr y hy
theorem mem_set {α : Type} {l : List α} {i : Nat} {y z : α} (h : z ∈ l.set i y) : z = y ∨ ∃ j, j ≠ i ∧ l[j]? = some z := by
  obtain ⟨j, hj⟩ := List.getElem?_of_mem h
  rw [List.getElem?_set] at hj
  split at hj
  · split at hj
    · exact Or.inl (Option.some.inj hj).symm
    · cases hj
  · next e => exact Or.inr ⟨j, fun h => e h.symm, hj⟩
theorem map_set_same {α β : Type} {f : α → β} {l : List α} {i : Nat} {x y : α} (hx : l[i]? = some x) (h : f y = f x) : (l.set i y).map f = l.map f := by
  refine List.ext_getElem? fun j => ?_
  rw [List.getElem?_map, List.getElem?_map, List.getElem?_set]
  split
  · next e =>
    subst e
    rw [hx]
    have hi := (List.getElem?_eq_some_iff.1 hx).1
    rw [if_pos hi]
    simp [h]
  · rfl
theorem inv_set {st : Ct} (h : Inv st) {i : Nat} {x y : Cd} (hx : st.l[i]? = some x) (hy : y.w = x.w ∧ y.g = x.g ∧ y.fin = x.fin) : Inv { st with l := st.l.set i y } := by
  have key : ∀ z ∈ st.l.set i y, ∃ z' ∈ st.l, z.w = z'.w ∧ z.g = z'.g ∧ z.fin = z'.fin := fun z hz => by
    rcases mem_set hz with rfl | ⟨j, _, hj⟩
    · exact ⟨x, List.mem_of_getElem? hx, hy⟩
    · exact ⟨z, List.mem_of_getElem? hj, rfl, rfl, rfl⟩
  refine ⟨?_, by simpa using h.len, ?_, ?_, ?_, ?_, h.lf⟩
  · rw [map_set_same (f := Cd.w) hx hy.1]; exact h.ids
  · intro x hx; obtain ⟨y, hy, e⟩ := key x hx; rw [e.1]; exact h.sz y hy
  · intro x hx; obtain ⟨y, hy, e⟩ := key x hx; rw [e.2.1]; exact h.sc y hy
  · intro x hx; obtain ⟨y, hy, e⟩ := key x hx; rw [e.2.2]; exact h.rg y hy
  · intro x hx; obtain ⟨y, hy, e⟩ := key x hx; rw [e.2.1]; exact h.fr y hy
theorem inv_filter {st : Ct} (h : Inv st) (p : Cd → Bool) : Inv { st with l := st.l.filter p } := by
  have hs : ∀ x ∈ st.l.filter p, x ∈ st.l := fun x hx => (List.mem_filter.1 hx).1
  exact ⟨(h.ids.sublist ((List.filter_sublist (l := st.l)).map _)), Nat.le_trans (List.length_filter_le _ _) h.len, fun x hx => h.sz x (hs x hx), fun x hx => h.sc x (hs x hx), fun x hx => h.rg x (hs x hx), fun x hx => h.fr x (hs x hx), h.lf⟩
theorem redX_same (x : Cd) (e : Int) : (redX x e).w = x.w ∧ (redX x e).g = x.g ∧ (redX x e).fin = x.fin := by
  unfold redX
  split
  · exact ⟨rfl, rfl, rfl⟩
  · split <;> exact ⟨rfl, rfl, rfl⟩
theorem drF_same (p : Cd → Bool) (x : Cd) : (drF p x).w = x.w ∧ (drF p x).g = x.g ∧ (drF p x).fin = x.fin := by
  unfold drF; split <;> exact ⟨rfl, rfl, rfl⟩
end Go.Proofs.YtioabjniipkncaaGreatDoor.Rc
