/-
  Plain functions of layer 42: user codes, logins of devices. No program.
-/
import Derived.Test.YtapooonlbjgbgaaDoorRfD
import Derived.Test.YtapooonlbjgbgaaDoorFoB
namespace Go.Proofs.YtapooonlbjgbgaaDoor.Dv
open Go.RowKit Go.Proofs.YtapooonlbjgbgaaDoor.Fo Go.Proofs.YtapooonlbjgbgaaDoor.Rf

def conL : List UInt8 := [66, 67, 68, 70, 71, 72, 74, 75, 76, 77, 78, 80, 81, 82, 83, 84, 86, 87, 88, 90]
def conB (c : UInt8) : Bool := conL.contains c
def capB (c : UInt8) : UInt8 := if 97 ≤ c.toNat ∧ c.toNat ≤ 122 then c - 32 else c
/-- What was typed, without blanks and dashes, in capitals. -/
def typL (s : List UInt8) : List UInt8 := (s.filter fun c => decide (c ≠ 32) && decide (c ≠ 45)).map capB
def divL (l : List UInt8) : List UInt8 := l.take 4 ++ [45] ++ l.drop 4
def okL (l : List UInt8) : Bool := decide (l.length = 8) && l.all conB
/-- The user code that someone typed. -/
def cuC (s : Bs) : Bs × Int := if okL (typL s.data.toList) = true then (⟨(divL (typL s.data.toList)).toArray⟩, 0) else (eB, 4)
/-- The digits of a number. -/
def ucD (m : Nat) : List UInt8 := (List.range 8).map fun j => conL.getD (m / 20 ^ (7 - j) % 20) 0
def ucN (n : Int) : Nat := (n % 25600000000).toNat
def ucC (n : Int) : Bs := ⟨(divL (ucD (ucN n))).toArray⟩
/-- A flow: w is the device. -/
structure Fw where
  w : Bs
  code : Bs
  client : Bs
  scopes : List Bs
  fin : Int
  iv : Int
  state : Int
  g : Gr
  polled : Bool
  last : Int
/-- The flows; cap bounds the intervals, and lies in no memory. -/
structure Fs where
  life : Int
  iv : Int
  cap : Int
  l : List Fw
def expd (now : Int) (x : Fw) : Bool := decide (x.fin ≤ limI now)
def opn (now : Int) (x : Fw) : Bool := !expd now x
/-- The place of a device's flow. -/
def cdI (l : List Fw) (w : Bs) : Option Nat := l.findIdx? fun x => decide (x.w = w)
/-- The place of the flow with a user code. -/
def coI (l : List Fw) (c : Bs) : Option Nat := l.findIdx? fun x => decide (x.code = c)
def newF (st : Fs) (d code c : Bs) (sc : List Bs) (now : Int) : Fw := ⟨d, code, c, sc, addC now st.life, st.iv, 0, noG, false, 0⟩
def isSame (now : Int) (d code : Bs) (x : Fw) : Bool := opn now x && (decide (x.w = d) || decide (x.code = code))
def puS (st : Fs) (now : Int) : Fs := { st with l := st.l.filter (opn now) }
/-- The error of Start. -/
def stE (st : Fs) (d u c : Bs) (sc : List Bs) (now : Int) : Int :=
  if wrd d = false ∨ wrd c = false then 5
  else if (cuC u).2 ≠ 0 then (cuC u).2
  else if chkS sc ≠ 0 then chkS sc
  else if 0 < st.l.countP (isSame now d (cuC u).1) then 7
  else if 256 ≤ st.l.countP (opn now) then 3 else 0
def sta (st : Fs) (d u c : Bs) (sc : List Bs) (now : Int) : Fs × Int :=
  if stE st d u c sc now = 0 then ({ puS st now with l := (puS st now).l ++ [newF st d (cuC u).1 c sc now] }, 0) else (st, stE st d u c sc now)
/-- The pending flow with a user code, or the error. -/
def fnF (st : Fs) (u : Bs) (now : Int) : Option (Nat × Fw) × Int :=
  if (cuC u).2 ≠ 0 then (none, (cuC u).2)
  else match coI st.l (cuC u).1 with
  | none => (none, 6)
  | some i =>
    match st.l[i]? with
    | none => (none, 6)
    | some x => if expd now x = true then (none, 13) else if x.state ≠ 0 then (none, 12) else (some (i, x), 0)
def pen (st : Fs) (u : Bs) (now : Int) : Bs × List Bs × Int :=
  match fnF st u now with
  | (some (_, x), _) => (x.client, x.scopes, 0)
  | (none, e) => (eB, [], e)
def apr (st : Fs) (u : Bs) (g : Gr) (now : Int) : Fs × Int :=
  match fnF st u now with
  | (some (i, x), _) => if g.client ≠ x.client then (st, 11) else if withinS g.scopes x.scopes = false then (st, 19) else ({ st with l := st.l.set i { x with state := 1, g := g } }, 0)
  | (none, e) => (st, e)
def den (st : Fs) (u : Bs) (now : Int) : Fs × Int :=
  match fnF st u now with
  | (some (i, x), _) => ({ st with l := st.l.set i { x with state := 2 } }, 0)
  | (none, e) => (st, e)
def ear (x : Fw) (now : Int) : Bool := x.polled && decide (limI now < x.last + x.iv)
def slo (x : Fw) (now : Int) : Fw := { x with polled := true, last := limI now, iv := if ear x now = true then x.iv + 5 else x.iv }
/-- Why a poll returns no grant. -/
def poE (x : Fw) (c : Bs) (now : Int) : Int :=
  if c ≠ x.client then 11
  else if expd now x = true then 13
  else if ear x now = true then 24
  else if x.state = 0 then 23
  else if x.state = 2 then 25
  else if x.state = 3 then 18 else 0
def poX (x : Fw) (c : Bs) (now : Int) : Fw :=
  if poE x c now = 11 ∨ poE x c now = 13 then x else if poE x c now = 0 then { slo x now with state := 3 } else slo x now
def pol (st : Fs) (d c : Bs) (now : Int) : Fs × (Gr × Int) :=
  match cdI st.l d with
  | none => (st, (noG, 6))
  | some i =>
    match st.l[i]? with
    | none => (st, (noG, 6))
    | some x => ({ st with cap := if poE x c now = 24 then st.cap + 5 else st.cap, l := st.l.set i (poX x c now) }, (if poE x c now = 0 then x.g else noG, poE x c now))
def fndD (st : Fs) (d : Bs) : Option Fw := (cdI st.l d).bind fun i => st.l[i]?
def itv (st : Fs) (d : Bs) : Int := match fndD st d with | none => 0 | some x => x.iv
theorem cdI_none {l : List Fw} {i : Bs} : cdI l i = none ↔ ∀ m ∈ l, m.w ≠ i := by
  unfold cdI
  rw [List.findIdx?_eq_none_iff]
  exact ⟨fun h m hm e => by simpa [e] using h m hm, fun h m hm => by simpa using h m hm⟩
theorem cdI_some {l : List Fw} {i : Bs} {k : Nat} (h : cdI l i = some k) : ∃ x, l[k]? = some x ∧ x.w = i := by
  unfold cdI at h
  obtain ⟨hi, hp, _⟩ := List.findIdx?_eq_some_iff_getElem.1 h
  exact ⟨l[k], List.getElem?_eq_getElem hi, of_decide_eq_true hp⟩
theorem coI_none {l : List Fw} {i : Bs} : coI l i = none ↔ ∀ m ∈ l, m.code ≠ i := by
  unfold coI
  rw [List.findIdx?_eq_none_iff]
  exact ⟨fun h m hm e => by simpa [e] using h m hm, fun h m hm => by simpa using h m hm⟩
theorem coI_some {l : List Fw} {i : Bs} {k : Nat} (h : coI l i = some k) : ∃ x, l[k]? = some x ∧ x.code = i := by
  unfold coI at h
  obtain ⟨hi, hp, _⟩ := List.findIdx?_eq_some_iff_getElem.1 h
  exact ⟨l[k], List.getElem?_eq_getElem hi, of_decide_eq_true hp⟩
theorem fnd_none {st : Fs} {w : Bs} (h : cdI st.l w = none) : fndD st w = none := by unfold fndD; rw [h]; rfl
theorem fnd_some {st : Fs} {w : Bs} {i : Nat} {x : Fw} (h : cdI st.l w = some i) (hx : st.l[i]? = some x) : fndD st w = some x := by unfold fndD; rw [h]; exact hx
/-- What holds of every record of flows. -/
structure Inv (st : Fs) : Prop where
  ids : (st.l.map Fw.w).Nodup
  cos : (st.l.map Fw.code).Nodup
  len : st.l.length ≤ 256
  sz : ∀ x ∈ st.l, x.w.size ≤ 64 ∧ x.code.size ≤ 100 ∧ x.client.size ≤ 64
  sc : ∀ x ∈ st.l, Short x.scopes ∧ x.scopes.length ≤ 16
  gs : ∀ x ∈ st.l, Short x.g.scopes ∧ x.g.scopes.length ≤ 1000
  rg : ∀ x ∈ st.l, 0 ≤ x.fin ∧ x.fin ≤ 1099511627776
  iv : ∀ x ∈ st.l, 1 ≤ x.iv ∧ x.iv ≤ st.cap
  ls : ∀ x ∈ st.l, 0 ≤ x.last ∧ x.last ≤ 1099511627776
  lf : 1 ≤ st.life
  iva : 1 ≤ st.iv ∧ st.iv ≤ 1099511627776 ∧ st.iv ≤ st.cap
theorem inv_nil {a b : Int} (h1 : 1 ≤ a) (h2 : 1 ≤ b) (h3 : b ≤ 1099511627776) : Inv ⟨a, b, b, []⟩ :=
  ⟨List.Pairwise.nil, List.Pairwise.nil, by simp, (fun _ h => by simp at h), (fun _ h => by simp at h), (fun _ h => by simp at h), (fun _ h => by simp at h), (fun _ h => by simp at h), (fun _ h => by simp at h), h1, ⟨h2, h3, Int.le_refl _⟩⟩
theorem mem_set {α : Type} {l : List α} {i : Nat} {y z : α} (h : z ∈ l.set i y) : z = y ∨ ∃ j, j ≠ i ∧ l[j]? = some z := by
  obtain ⟨j, hj⟩ := List.getElem?_of_mem h
  rw [List.getElem?_set] at hj
  split at hj
  · split at hj
    · exact Or.inl (Option.some.inj hj).symm
    · cases hj
  · next e => exact Or.inr ⟨j, fun h => e h.symm, hj⟩
theorem map_set_same {α β : Type} {f : α → β} {l : List α} {i : Nat} {x y : α} (hx : l[i]? = some x) (h : f y = f x) : (l.set i y).map f = l.map f := by
  refine List.ext_getElem? fun j => ?_
  rw [List.getElem?_map, List.getElem?_map, List.getElem?_set]
  split
  · next e =>
    subst e
    rw [hx]
    have hi := (List.getElem?_eq_some_iff.1 hx).1
    rw [if_pos hi]
    simp [h]
  · rfl
/-- A flow turns, but for its names. -/
structure Fw.Ok (cap : Int) (x y : Fw) : Prop where
  w : y.w = x.w
  code : y.code = x.code
  client : y.client = x.client
  scopes : y.scopes = x.scopes
  fin : y.fin = x.fin
  gs : Short y.g.scopes ∧ y.g.scopes.length ≤ 1000
  iv : 1 ≤ y.iv ∧ y.iv ≤ cap
  ls : 0 ≤ y.last ∧ y.last ≤ 1099511627776
theorem inv_set {st : Fs} (h : Inv st) {i : Nat} {x y : Fw} {cap : Int} (hc : st.cap ≤ cap) (hx : st.l[i]? = some x) (hy : Fw.Ok cap x y) : Inv { st with cap := cap, l := st.l.set i y } := by
  have hm := List.mem_of_getElem? hx
  have key : ∀ z ∈ st.l.set i y, z = y ∨ z ∈ st.l := fun z hz => by
    rcases mem_set hz with rfl | ⟨j, _, hj⟩
    · exact Or.inl rfl
    · exact Or.inr (List.mem_of_getElem? hj)
  refine ⟨?_, ?_, by simpa using h.len, ?_, ?_, ?_, ?_, ?_, ?_, h.lf, ⟨h.iva.1, h.iva.2.1, Int.le_trans h.iva.2.2 hc⟩⟩
  · rw [map_set_same (f := Fw.w) hx hy.w]; exact h.ids
  · rw [map_set_same (f := Fw.code) hx hy.code]; exact h.cos
  · intro z hz
    rcases key z hz with rfl | hz
    · rw [hy.w, hy.code, hy.client]; exact h.sz x hm
    · exact h.sz z hz
  · intro z hz
    rcases key z hz with rfl | hz
    · rw [hy.scopes]; exact h.sc x hm
    · exact h.sc z hz
  · intro z hz
    rcases key z hz with rfl | hz
    · exact hy.gs
    · exact h.gs z hz
  · intro z hz
    rcases key z hz with rfl | hz
    · rw [hy.fin]; exact h.rg x hm
    · exact h.rg z hz
  · intro z hz
    rcases key z hz with rfl | hz
    · exact hy.iv
    · exact ⟨(h.iv z hz).1, Int.le_trans (h.iv z hz).2 hc⟩
  · intro z hz
    rcases key z hz with rfl | hz
    · exact hy.ls
    · exact h.ls z hz
theorem inv_filter {st : Fs} (h : Inv st) (p : Fw → Bool) : Inv { st with l := st.l.filter p } := by
  have hs : ∀ x ∈ st.l.filter p, x ∈ st.l := fun x hx => (List.mem_filter.1 hx).1
  exact ⟨h.ids.sublist ((List.filter_sublist (l := st.l)).map _), h.cos.sublist ((List.filter_sublist (l := st.l)).map _), Nat.le_trans (List.length_filter_le _ _) h.len, fun x hx => h.sz x (hs x hx), fun x hx => h.sc x (hs x hx), fun x hx => h.gs x (hs x hx), fun x hx => h.rg x (hs x hx), fun x hx => h.iv x (hs x hx), fun x hx => h.ls x (hs x hx), h.lf, h.iva⟩
theorem slo_ok {st : Fs} (h : Inv st) {x : Fw} (hx : x ∈ st.l) (now : Int) : Fw.Ok (if ear x now = true then st.cap + 5 else st.cap) x (slo x now) := by
  have r := limI_range now
  have h1 := h.iv x hx
  refine ⟨rfl, rfl, rfl, rfl, rfl, h.gs x hx, ?_, r⟩
  unfold slo
  dsimp only
  split <;> omega
theorem short_nil : Short ([] : List Bs) := fun i hi => by simp at hi
/-- A new flow is recorded. -/
theorem inv_app {st : Fs} (h : Inv st) {x : Fw} (hw : ∀ y ∈ st.l, y.w ≠ x.w) (hc : ∀ y ∈ st.l, y.code ≠ x.code) (hl : st.l.length < 256) (hz : x.w.size ≤ 64 ∧ x.code.size ≤ 100 ∧ x.client.size ≤ 64) (hs : Short x.scopes ∧ x.scopes.length ≤ 16) (hg : Short x.g.scopes ∧ x.g.scopes.length ≤ 1000) (hr : 0 ≤ x.fin ∧ x.fin ≤ 1099511627776) (hi : 1 ≤ x.iv ∧ x.iv ≤ st.cap) (ht : 0 ≤ x.last ∧ x.last ≤ 1099511627776) : Inv { st with l := st.l ++ [x] } := by
  have key : ∀ z ∈ st.l ++ [x], z ∈ st.l ∨ z = x := fun z hz => by
    rcases List.mem_append.1 hz with hz | hz
    · exact Or.inl hz
    · exact Or.inr (by simpa using hz)
  refine ⟨?_, ?_, ?_, fun z hz => ?_, fun z hz => ?_, fun z hz => ?_, fun z hz => ?_, fun z hz => ?_, fun z hz => ?_, h.lf, h.iva⟩
  · rw [List.map_append, List.nodup_append]
    refine ⟨h.ids, by simp, fun a ha b hb e => ?_⟩
    obtain ⟨y, hy, rfl⟩ := List.mem_map.1 ha
    simp at hb
    exact hw y hy (e.trans hb)
  · rw [List.map_append, List.nodup_append]
    refine ⟨h.cos, by simp, fun a ha b hb e => ?_⟩
    obtain ⟨y, hy, rfl⟩ := List.mem_map.1 ha
    simp at hb
    exact hc y hy (e.trans hb)
  · simp only [List.length_append, List.length_cons, List.length_nil]; omega
  · rcases key z hz with hz | rfl
    · exact h.sz z hz
    · assumption
  · rcases key z hz with hz | rfl
    · exact h.sc z hz
    · assumption
  · rcases key z hz with hz | rfl
    · exact h.gs z hz
    · assumption
  · rcases key z hz with hz | rfl
    · exact h.rg z hz
    · assumption
  · rcases key z hz with hz | rfl
    · exact h.iv z hz
    · assumption
  · rcases key z hz with hz | rfl
    · exact h.ls z hz
    · assumption
theorem cuC_size (u : Bs) : (cuC u).1.size ≤ 100 := by
  unfold cuC
  split
  · next h =>
    unfold okL at h
    simp only [Bool.and_eq_true, decide_eq_true_eq] at h
    show (divL (typL u.data.toList)).toArray.size ≤ 100
    simp [divL, h.1]
  · decide
theorem stE_zero {st : Fs} {d u c : Bs} {sc : List Bs} {now : Int} (h : stE st d u c sc now = 0) : (wrd d = true ∧ wrd c = true) ∧ (cuC u).2 = 0 ∧ chkS sc = 0 ∧ st.l.countP (isSame now d (cuC u).1) = 0 ∧ st.l.countP (opn now) < 256 := by
  unfold stE at h
  split at h
  · cases h
  · next h1 =>
    split at h
    · next h2 => exact absurd h h2
    · next h2 =>
      split at h
      · next h3 => exact absurd h h3
      · next h3 =>
        split at h
        · cases h
        · next h4 =>
          split at h
          · cases h
          · next h5 =>
            simp only [not_or, Bool.not_eq_false] at h1
            exact ⟨h1, by simpa using h2, by simpa using h3, by omega, by omega⟩
theorem chkS_len {l : List Bs} (h : chkS l = 0) : l.length ≤ 16 := by
  rcases Nat.lt_or_ge 16 l.length with h2 | h2
  · rw [chkS_long h2] at h; cases h
  · exact h2
theorem inv_sta {st : Fs} (h : Inv st) {d u c : Bs} {sc : List Bs} {now : Int} (hsc : Short sc) (he : stE st d u c sc now = 0) : Inv { puS st now with l := (puS st now).l ++ [newF st d (cuC u).1 c sc now] } := by
  obtain ⟨⟨h1, h2⟩, h3, h4, h5, h6⟩ := stE_zero he
  have hp : Inv (puS st now) := inv_filter h _
  rw [List.countP_eq_zero] at h5
  have hno : ∀ y ∈ (puS st now).l, y.w ≠ d ∧ y.code ≠ (cuC u).1 := fun y hy => by
    obtain ⟨hy1, hy2⟩ := List.mem_filter.1 hy
    have := h5 y hy1
    unfold isSame at this
    rw [hy2] at this
    simpa using this
  refine inv_app hp (fun y hy => (hno y hy).1) (fun y hy => (hno y hy).2) ?_ ⟨(wrd_ne h1).2, cuC_size u, (wrd_ne h2).2⟩ ⟨hsc, chkS_len h4⟩ ⟨short_nil, Nat.zero_le _⟩ (addC_range _ _) ⟨h.iva.1, h.iva.2.2⟩ ⟨Int.le_refl 0, (show (0 : Int) ≤ 1099511627776 by decide)⟩
  show (st.l.filter (opn now)).length < 256
  rw [← List.countP_eq_length_filter]
  exact h6
end Go.Proofs.YtapooonlbjgbgaaDoor.Dv
