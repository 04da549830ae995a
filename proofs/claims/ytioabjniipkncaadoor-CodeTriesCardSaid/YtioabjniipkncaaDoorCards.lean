/-
  DERIVED. GIVEN WITH THE SEED: THE CARDS: each row of YtioabjniipkncaaDoorRows.lean that lists a variable, with what it lists TIED to the program's text (the seventh form; the later family's looks); each row that meets fmt, with fmt's text TOLD by the authors' own Lean function (tested against real Go, not proved from fmt's source: count such statements apart). THE CARD IS WHAT COUNTS. Prove the row's statement (the work); the ties are given (YtioabjniipkncaaDoorTie.lean); close each card by the builder's one call (the guide's Derived/Test/ToyasCard.lean, 'card_holds'). Laid BY PROGRAM, IN A SANDBOX (cutbox-door.mjs). By AI agents, Wed Nov 11 2026. No macro, syntax, notation, axiom, sorry.
-/
import Derived.Test.YtioabjniipkncaaDoorRows
import GoSem.ClaimSeven
namespace Go.Proofs.YtioabjniipkncaaDoor
namespace Rows

/-- THE TIED CARD OF 'identitylaw40.CodeOnce'. -/
def codeOnceCard : Claim7 := { stood := { row := codeOnceRow, standIns := [], harness := (true, "04fca2c71f8382f59fb961d9b68eabe66d16933d1f82d9c6b5952b16cb466ea6"), looks := false }, kinds := [], alts := [], laidByText := true, laidKinds := [.data, .data, .pinned], laidTests := true, laidLooks := .later }
def CodeOnceCardSaid : Prop := Claim7.holds Tryd.pinned (.plain (OpenSpec.ofChange codeOnceSpec)) codeOnceCard

/-- THE TIED CARD OF 'identitylaw40.CodeFits'. -/
def codeFitsCard : Claim7 := { stood := { row := codeFitsRow, standIns := [], harness := (true, "04fca2c71f8382f59fb961d9b68eabe66d16933d1f82d9c6b5952b16cb466ea6"), looks := false }, kinds := [], alts := [], laidByText := true, laidKinds := [.data, .data, .pinned], laidTests := true, laidLooks := .later }
def CodeFitsCardSaid : Prop := Claim7.holds Tryd.pinned (.plain (OpenSpec.ofChange codeFitsSpec)) codeFitsCard

/-- THE TIED CARD OF 'identitylaw40.CodeDrops'. -/
def codeDropsCard : Claim7 := { stood := { row := codeDropsRow, standIns := [], harness := (true, "04fca2c71f8382f59fb961d9b68eabe66d16933d1f82d9c6b5952b16cb466ea6"), looks := false }, kinds := [], alts := [], laidByText := true, laidKinds := [.data, .data, .pinned], laidTests := true, laidLooks := .later }
def CodeDropsCardSaid : Prop := Claim7.holds Tryd.pinned (.plain (OpenSpec.ofChange codeDropsSpec)) codeDropsCard

/-- THE TIED CARD OF 'identitylaw40.CodeTries'. -/
def codeTriesCard : Claim7 := { stood := { row := codeTriesRow, standIns := [], harness := (true, "04fca2c71f8382f59fb961d9b68eabe66d16933d1f82d9c6b5952b16cb466ea6"), looks := false }, kinds := [], alts := [], laidByText := true, laidKinds := [.data, .data, .pinned], laidTests := true, laidLooks := .later }
def CodeTriesCardSaid : Prop := Claim7.holds Tryd.pinned (.plain (OpenSpec.ofChange codeTriesSpec)) codeTriesCard

/-- THE TIED CARD OF 'identitylaw40.CodePurges'. -/
def codePurgesCard : Claim7 := { stood := { row := codePurgesRow, standIns := [], harness := (true, "04fca2c71f8382f59fb961d9b68eabe66d16933d1f82d9c6b5952b16cb466ea6"), looks := false }, kinds := [], alts := [], laidByText := true, laidKinds := [.data, .data, .pinned], laidTests := true, laidLooks := .later }
def CodePurgesCardSaid : Prop := Claim7.holds Tryd.pinned (.plain (OpenSpec.ofChange codePurgesSpec)) codePurgesCard

/-- THE SECOND FORM's CARD OF 'identitylaw40.CodeOnce'. -/
def codeOnceUptoCard : Claim7 := { stood := { row := codeOnceUptoRow, standIns := [], harness := (true, "04fca2c71f8382f59fb961d9b68eabe66d16933d1f82d9c6b5952b16cb466ea6"), looks := false }, kinds := [], alts := [], laidByText := true, laidKinds := [.data, .data, .pinned], laidTests := true, laidLooks := .later }
def CodeOnceUptoCardSaid : Prop := Claim7.holds Tryd.pinned (.plain (OpenSpec.upto codeOnceSpec)) codeOnceUptoCard

/-- THE SECOND FORM's CARD OF 'identitylaw40.CodeFits'. -/
def codeFitsUptoCard : Claim7 := { stood := { row := codeFitsUptoRow, standIns := [], harness := (true, "04fca2c71f8382f59fb961d9b68eabe66d16933d1f82d9c6b5952b16cb466ea6"), looks := false }, kinds := [], alts := [], laidByText := true, laidKinds := [.data, .data, .pinned], laidTests := true, laidLooks := .later }
def CodeFitsUptoCardSaid : Prop := Claim7.holds Tryd.pinned (.plain (OpenSpec.upto codeFitsSpec)) codeFitsUptoCard

/-- THE SECOND FORM's CARD OF 'identitylaw40.CodeDrops'. -/
def codeDropsUptoCard : Claim7 := { stood := { row := codeDropsUptoRow, standIns := [], harness := (true, "04fca2c71f8382f59fb961d9b68eabe66d16933d1f82d9c6b5952b16cb466ea6"), looks := false }, kinds := [], alts := [], laidByText := true, laidKinds := [.data, .data, .pinned], laidTests := true, laidLooks := .later }
def CodeDropsUptoCardSaid : Prop := Claim7.holds Tryd.pinned (.plain (OpenSpec.upto codeDropsSpec)) codeDropsUptoCard

/-- THE SECOND FORM's CARD OF 'identitylaw40.CodeTries'. -/
def codeTriesUptoCard : Claim7 := { stood := { row := codeTriesUptoRow, standIns := [], harness := (true, "04fca2c71f8382f59fb961d9b68eabe66d16933d1f82d9c6b5952b16cb466ea6"), looks := false }, kinds := [], alts := [], laidByText := true, laidKinds := [.data, .data, .pinned], laidTests := true, laidLooks := .later }
def CodeTriesUptoCardSaid : Prop := Claim7.holds Tryd.pinned (.plain (OpenSpec.upto codeTriesSpec)) codeTriesUptoCard

/-- THE SECOND FORM's CARD OF 'identitylaw40.CodePurges'. -/
def codePurgesUptoCard : Claim7 := { stood := { row := codePurgesUptoRow, standIns := [], harness := (true, "04fca2c71f8382f59fb961d9b68eabe66d16933d1f82d9c6b5952b16cb466ea6"), looks := false }, kinds := [], alts := [], laidByText := true, laidKinds := [.data, .data, .pinned], laidTests := true, laidLooks := .later }
def CodePurgesUptoCardSaid : Prop := Claim7.holds Tryd.pinned (.plain (OpenSpec.upto codePurgesSpec)) codePurgesUptoCard
end Rows
end Go.Proofs.YtioabjniipkncaaDoor
