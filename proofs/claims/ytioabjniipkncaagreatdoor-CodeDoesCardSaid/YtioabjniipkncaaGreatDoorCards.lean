/-
  DERIVED. GIVEN WITH THE SEED: THE CARDS: each row of YtioabjniipkncaaGreatDoorRows.lean that lists a variable, with what it lists TIED to the program's text (the seventh form; the later family's looks); each row that meets fmt, with fmt's text TOLD by the authors' own Lean function (tested against real Go, not proved from fmt's source: count such statements apart). THE CARD IS WHAT COUNTS. Prove the row's statement (the work); the ties are given (YtioabjniipkncaaGreatDoorTie.lean); close each card by the builder's one call (the guide's Derived/Test/ToyasCard.lean, 'card_holds'). Laid BY PROGRAM, IN A SANDBOX (cutbox-door.mjs). By AI agents, Wed Nov 11 2026. No macro, syntax, notation, axiom, sorry.
-/
import Derived.Test.YtioabjniipkncaaGreatDoorRows
import GoSem.ClaimSeven
namespace Go.Proofs.YtioabjniipkncaaGreatDoor
namespace Rows

/-- THE TIED CARD OF 'identitylaw40.CodeDoes'. -/
def codeDoesCard : Claim7 := { stood := { row := codeDoesRow, standIns := [], harness := (true, "b0f3aacba17d896daa4fa226175ea52d7bfb19d26197511b390059a2dada93fa"), looks := false }, kinds := [], alts := [], laidByText := true, laidKinds := [.data, .data, .pinned], laidTests := true, laidLooks := .later }
def CodeDoesCardSaid : Prop := Claim7.holds Tryz.pinned (.plain (OpenSpec.ofChange codeDoesSpec)) codeDoesCard

/-- THE SECOND FORM's CARD OF 'identitylaw40.CodeDoes'. -/
def codeDoesUptoCard : Claim7 := { stood := { row := codeDoesUptoRow, standIns := [], harness := (true, "b0f3aacba17d896daa4fa226175ea52d7bfb19d26197511b390059a2dada93fa"), looks := false }, kinds := [], alts := [], laidByText := true, laidKinds := [.data, .data, .pinned], laidTests := true, laidLooks := .later }
def CodeDoesUptoCardSaid : Prop := Claim7.holds Tryz.pinned (.plain (OpenSpec.upto codeDoesSpec)) codeDoesUptoCard
end Rows
end Go.Proofs.YtioabjniipkncaaGreatDoor
