/-
  Plain functions of layer 41: instants, scopes, families of refresh tokens. No program.
-/
import Derived.Test.YtioabjniipkncaaGreatDoorRfW
namespace Go.Proofs.YtioabjniipkncaaGreatDoor.Rf
open Go.RowKit Go.Proofs.YtioabjniipkncaaGreatDoor.Fo

abbrev Bs := ByteArray
theorem bs_ext {a b : Bs} (h : a.data.toList = b.data.toList) : a = b := ByteArray.ext (by rw [← Array.toArray_toList (xs := a.data), h])
instance : DecidableEq ByteArray := fun a b => decidable_of_iff (a.data.toList = b.data.toList) ⟨bs_ext, fun h => by rw [h]⟩
def memB (s : Bs) (d : List Bs) : Bool := d.any fun t => decide (t = s)
theorem memB_iff {s : Bs} {d : List Bs} : memB s d = true ↔ s ∈ d := by simp [memB, List.any_eq_true]
/-- The nearest instant. -/
def limI (n : Int) : Int := min (max n 0) 1099511627776
def addC (t d : Int) : Int := limI (limI t + limI d)
theorem limI_range (n : Int) : 0 ≤ limI n ∧ limI n ≤ 1099511627776 := by unfold limI; omega
theorem limI_id {n : Int} (h0 : 0 ≤ n) (h1 : n ≤ 1099511627776) : limI n = n := by unfold limI; omega
theorem limI_lim (n : Int) : limI (limI n) = limI n := limI_id (limI_range n).1 (limI_range n).2
theorem addC_zero (t : Int) : addC t 0 = limI t := by have := limI_range t; unfold addC limI at *; omega
theorem addC_range (t d : Int) : 0 ≤ addC t d ∧ addC t d ≤ 1099511627776 := limI_range _
theorem addC_lim (t d : Int) : addC (limI t) (limI d) = addC t d := by unfold addC; rw [limI_lim, limI_lim]

/-- Two dots in sequence. -/
def ddL : List UInt8 → Bool
  | a :: b :: r => (decide (a = 46 ∧ b = 46)) || ddL (b :: r)
  | _ => false
/-- A scope. -/
def scpL (s : List UInt8) : Bool := wrdL s && decide (bAt s 0 ≠ 46) && decide (bAt s (s.length - 1) ≠ 46) && !ddL s
def scp (s : Bs) : Bool := scpL s.data.toList
/-- The first error of a list of scopes, some done. -/
def scanS : List Bs → List Bs → Int
  | _, [] => 0
  | d, s :: r => if scp s = false then 5 else if memB s d = true then 7 else scanS (d ++ [s]) r
def chkS (l : List Bs) : Int := if 16 < l.length then 3 else scanS [] l
def preL (a b : List UInt8) : Bool := (a ++ [46]).isPrefixOf b
def implS (a b : Bs) : Bool := scp a && scp b && (decide (a = b) || preL a.data.toList b.data.toList)
def covS (s : Bs) (l : List Bs) : Bool := l.any fun t => implS t s
def withinS (a b : List Bs) : Bool := a.all fun s => covS s b

/-- A grant. -/
structure Gr where
  user : Bs
  client : Bs
  tenant : Bs
  session : Bs
  redirect : Bs
  nonce : Bs
  challenge : Bs
  method : Int
  scopes : List Bs
  auth : Int
  level : Int
def eB : Bs := ⟨#[]⟩
def noG : Gr := ⟨eB, eB, eB, eB, eB, eB, eB, 0, [], 0, 0⟩
def mkG (u c s : Bs) (sc : List Bs) : Gr := ⟨u, c, ⟨#[116]⟩, s, eB, ⟨#[110]⟩, eB, 0, sc, 3, 2⟩
/-- A family. -/
structure Fm where
  id : Bs
  g : Gr
  toks : List Bs
  untl : Int
  fin : Int
  ended : Bool
structure St where
  life : Int
  total : Int
  l : List Fm
def wrd (s : Bs) : Bool := wrdL s.data.toList
/-- The place of the family that has a token. -/
def tokI (l : List Fm) (t : Bs) : Option Nat := l.findIdx? fun x => memB t x.toks
/-- The place of the family with an identifier. -/
def idI (l : List Fm) (i : Bs) : Option Nat := l.findIdx? fun x => decide (x.id = i)
def newF (st : St) (i t : Bs) (g : Gr) (now : Int) : Fm := ⟨i, g, [t], min (addC now st.life) (addC now st.total), addC now st.total, false⟩
def startE (st : St) (i t : Bs) (g : Gr) : Int :=
  if wrd i = false ∨ wrd t = false ∨ wrd g.user = false ∨ wrd g.client = false ∨ wrd g.session = false then 5
  else if chkS g.scopes ≠ 0 then chkS g.scopes
  else if tokI st.l t ≠ none ∨ idI st.l i ≠ none then 7
  else if 256 ≤ st.l.length then 3 else 0
def start (st : St) (i t : Bs) (g : Gr) (now : Int) : St × Int :=
  if startE st i t g = 0 then ({ st with l := st.l ++ [newF st i t g now] }, 0) else (st, startE st i t g)
/-- Why a token cannot be rotated. -/
def rotE (st : St) (x : Fm) (t n c : Bs) (sc : List Bs) (now : Int) : Int :=
  if c ≠ x.g.client then 11
  else if some t ≠ x.toks.getLast? then 18
  else if x.ended then 25
  else if x.untl ≤ limI now then 13
  else if wrd n = false then 5
  else if tokI st.l n ≠ none then 7
  else if withinS sc x.g.scopes = false then 19
  else if 256 ≤ x.toks.length then 3
  else 0
def rotF (st : St) (x : Fm) (n : Bs) (now : Int) : Fm := { x with toks := x.toks ++ [n], untl := min (addC now st.life) x.fin }
def rotG (x : Fm) (sc : List Bs) : Gr := { x.g with scopes := if sc = [] then x.g.scopes else sc }
def rot (st : St) (t n c : Bs) (sc : List Bs) (now : Int) : St × (Gr × Int) :=
  match tokI st.l t with
  | none => (st, (noG, 6))
  | some i =>
    match st.l[i]? with
    | none => (st, (noG, 6))
    | some x =>
      if rotE st x t n c sc now = 18 then ({ st with l := st.l.set i { x with ended := true } }, (noG, 18))
      else if rotE st x t n c sc now = 0 then ({ st with l := st.l.set i (rotF st x n now) }, (rotG x sc, 0))
      else (st, (noG, rotE st x t n c sc now))
def liveF (x : Fm) (now : Int) : Bool := !x.ended && decide (limI now < x.untl)
def famT (st : St) (t : Bs) : Option Bs := (tokI st.l t).bind fun i => (st.l[i]?).map Fm.id
def liveI (st : St) (i : Bs) (now : Int) : Bool := match idI st.l i with
  | none => false
  | some k => match st.l[k]? with
    | none => false
    | some x => liveF x now
/-- End what a condition selects. -/
def endF (p : Fm → Bool) (x : Fm) : Fm := if !x.ended && p x then { x with ended := true } else x
def endS (p : Fm → Bool) (st : St) : St := { st with l := st.l.map (endF p) }
def endN (p : Fm → Bool) (st : St) : Nat := st.l.countP fun x => !x.ended && p x
def lenS (st : St) (now : Int) : Nat := st.l.countP fun x => liveF x now
end Go.Proofs.YtioabjniipkncaaGreatDoor.Rf
