/-
  Calls as the statements of layer 41 list them, and what they do. No program.
-/
import Derived.Test.YtfeljihbaekfmaaRfT
namespace Go.Proofs.Ytfeljihbaekfmaa.Rf
open Go.RowKit Go.Proofs.Ytfeljihbaekfmaa.Fo

/-- A call. -/
structure Opx where
  call : Int
  now : Int
  id : Bs
  tok : Bs
  nxt : Bs
  user : Bs
  cl : Bs
  ses : Bs
  sc : List Bs
def op0 : Opx := ⟨0, 0, eB, eB, eB, eB, eB, eB, []⟩
def oAt (l : List Opx) (i : Nat) : Opx := l.getD i op0
theorem oAt_get (l : List Opx) (i : Nat) (h : i < l.length) : l[i]? = some (oAt l i) := by simp [oAt, List.getD, h]
def small (s : Bs) : Bool := decide (s.size ≤ 200)
def opOk (x : Opx) : Bool := small x.id && small x.tok && small x.nxt && small x.user && small x.cl && small x.ses && decide (x.sc.length ≤ 20) && x.sc.all small
def lightB (l : List Opx) : Bool := (l.take 24).all opOk && decide (l.length ≤ 24)
/-- What a call does, and its answer. -/
def doS (st : St) (x : Opx) : St × (Gr × Int) :=
  if x.call = 0 then ((start st x.id x.tok (mkG x.user x.cl x.ses x.sc) x.now).1, (noG, (start st x.id x.tok (mkG x.user x.cl x.ses x.sc) x.now).2))
  else if x.call = 1 then rot st x.tok x.nxt x.cl x.sc x.now
  else if x.call = 2 then (endS (isId x.id) st, (noG, if decide (endN (isId x.id) st = 1) then 1 else 0))
  else if x.call = 3 then (endS (isSes x.ses) st, (noG, (endN (isSes x.ses) st : Nat)))
  else if x.call = 4 then (endS (isUsr x.user) st, (noG, (endN (isUsr x.user) st : Nat)))
  else if x.call = 5 then (endS (isCli x.user x.cl) st, (noG, (endN (isCli x.user x.cl) st : Nat)))
  else (st, (noG, if liveI st x.id x.now then 1 else 0))
end Go.Proofs.Ytfeljihbaekfmaa.Rf
