/-
  DERIVED. GIVEN WITH THE SEED: THE CARDS: each row of YtphlihmngbmiiaaDoorRows.lean that lists a variable, with what it lists TIED to the program's text (the seventh form; the later family's looks); each row that meets fmt, with fmt's text TOLD by the authors' own Lean function (tested against real Go, not proved from fmt's source: count such statements apart). THE CARD IS WHAT COUNTS. Prove the row's statement (the work); the ties are given (YtphlihmngbmiiaaDoorTie.lean); close each card by the builder's one call (the guide's Derived/Test/ToyasCard.lean, 'card_holds'). Laid BY PROGRAM, IN A SANDBOX (cutbox-door.mjs). By AI agents, Wed Nov 11 2026. No macro, syntax, notation, axiom, sorry.
-/
import Derived.Test.YtphlihmngbmiiaaDoorRows
import GoSem.ClaimSeven
namespace Go.Proofs.YtphlihmngbmiiaaDoor
namespace Rows

/-- THE TIED CARD OF 'identitylaw01.FoldLowers'. -/
def foldLowersCard : Claim7 := { stood := { row := foldLowersRow, standIns := [], harness := (true, "ddfa8886f9ac2da230b3747c4d3c3cfa102fb05bc9b983cc0397522157775add"), looks := false }, kinds := [], alts := [], laidByText := true, laidKinds := [.data, .pinned], laidTests := true, laidLooks := .later }
def FoldLowersCardSaid : Prop := Claim7.holds Tryd.pinned (.plain (OpenSpec.ofChange foldLowersSpec)) foldLowersCard

/-- THE TIED CARD OF 'identitylaw01.FoldKinds'. -/
def foldKindsCard : Claim7 := { stood := { row := foldKindsRow, standIns := [], harness := (true, "ddfa8886f9ac2da230b3747c4d3c3cfa102fb05bc9b983cc0397522157775add"), looks := false }, kinds := [], alts := [], laidByText := true, laidKinds := [.data, .pinned], laidTests := true, laidLooks := .later }
def FoldKindsCardSaid : Prop := Claim7.holds Tryd.pinned (.plain (OpenSpec.ofChange foldKindsSpec)) foldKindsCard

/-- THE TIED CARD OF 'identitylaw01.FoldCompares'. -/
def foldComparesCard : Claim7 := { stood := { row := foldComparesRow, standIns := [], harness := (true, "ddfa8886f9ac2da230b3747c4d3c3cfa102fb05bc9b983cc0397522157775add"), looks := false }, kinds := [], alts := [], laidByText := true, laidKinds := [.data, .pinned], laidTests := true, laidLooks := .later }
def FoldComparesCardSaid : Prop := Claim7.holds Tryd.pinned (.plain (OpenSpec.ofChange foldComparesSpec)) foldComparesCard

/-- THE TIED CARD OF 'identitylaw01.FoldMatches'. -/
def foldMatchesCard : Claim7 := { stood := { row := foldMatchesRow, standIns := [], harness := (true, "ddfa8886f9ac2da230b3747c4d3c3cfa102fb05bc9b983cc0397522157775add"), looks := false }, kinds := [], alts := [], laidByText := true, laidKinds := [.data, .pinned], laidTests := true, laidLooks := .later }
def FoldMatchesCardSaid : Prop := Claim7.holds Tryd.pinned (.plain (OpenSpec.ofChange foldMatchesSpec)) foldMatchesCard

/-- THE TIED CARD OF 'identitylaw01.FoldIdempotent'. -/
def foldIdempotentCard : Claim7 := { stood := { row := foldIdempotentRow, standIns := [], harness := (true, "ddfa8886f9ac2da230b3747c4d3c3cfa102fb05bc9b983cc0397522157775add"), looks := false }, kinds := [], alts := [], laidByText := true, laidKinds := [.data, .pinned], laidTests := true, laidLooks := .later }
def FoldIdempotentCardSaid : Prop := Claim7.holds Tryd.pinned (.plain (OpenSpec.ofChange foldIdempotentSpec)) foldIdempotentCard

/-- THE TIED CARD OF 'identitylaw01.FoldOrders'. -/
def foldOrdersCard : Claim7 := { stood := { row := foldOrdersRow, standIns := [], harness := (true, "ddfa8886f9ac2da230b3747c4d3c3cfa102fb05bc9b983cc0397522157775add"), looks := false }, kinds := [], alts := [], laidByText := true, laidKinds := [.data, .pinned], laidTests := true, laidLooks := .later }
def FoldOrdersCardSaid : Prop := Claim7.holds Tryd.pinned (.plain (OpenSpec.ofChange foldOrdersSpec)) foldOrdersCard

/-- THE TIED CARD OF 'identitylaw01.FoldWild'. -/
def foldWildCard : Claim7 := { stood := { row := foldWildRow, standIns := [], harness := (true, "ddfa8886f9ac2da230b3747c4d3c3cfa102fb05bc9b983cc0397522157775add"), looks := false }, kinds := [], alts := [], laidByText := true, laidKinds := [.data, .pinned], laidTests := true, laidLooks := .later }
def FoldWildCardSaid : Prop := Claim7.holds Tryd.pinned (.plain (OpenSpec.ofChange foldWildSpec)) foldWildCard

/-- THE SECOND FORM's CARD OF 'identitylaw01.FoldLowers'. -/
def foldLowersUptoCard : Claim7 := { stood := { row := foldLowersUptoRow, standIns := [], harness := (true, "ddfa8886f9ac2da230b3747c4d3c3cfa102fb05bc9b983cc0397522157775add"), looks := false }, kinds := [], alts := [], laidByText := true, laidKinds := [.data, .pinned], laidTests := true, laidLooks := .later }
def FoldLowersUptoCardSaid : Prop := Claim7.holds Tryd.pinned (.plain (OpenSpec.upto foldLowersSpec)) foldLowersUptoCard

/-- THE SECOND FORM's CARD OF 'identitylaw01.FoldKinds'. -/
def foldKindsUptoCard : Claim7 := { stood := { row := foldKindsUptoRow, standIns := [], harness := (true, "ddfa8886f9ac2da230b3747c4d3c3cfa102fb05bc9b983cc0397522157775add"), looks := false }, kinds := [], alts := [], laidByText := true, laidKinds := [.data, .pinned], laidTests := true, laidLooks := .later }
def FoldKindsUptoCardSaid : Prop := Claim7.holds Tryd.pinned (.plain (OpenSpec.upto foldKindsSpec)) foldKindsUptoCard

/-- THE SECOND FORM's CARD OF 'identitylaw01.FoldCompares'. -/
def foldComparesUptoCard : Claim7 := { stood := { row := foldComparesUptoRow, standIns := [], harness := (true, "ddfa8886f9ac2da230b3747c4d3c3cfa102fb05bc9b983cc0397522157775add"), looks := false }, kinds := [], alts := [], laidByText := true, laidKinds := [.data, .pinned], laidTests := true, laidLooks := .later }
def FoldComparesUptoCardSaid : Prop := Claim7.holds Tryd.pinned (.plain (OpenSpec.upto foldComparesSpec)) foldComparesUptoCard

/-- THE SECOND FORM's CARD OF 'identitylaw01.FoldMatches'. -/
def foldMatchesUptoCard : Claim7 := { stood := { row := foldMatchesUptoRow, standIns := [], harness := (true, "ddfa8886f9ac2da230b3747c4d3c3cfa102fb05bc9b983cc0397522157775add"), looks := false }, kinds := [], alts := [], laidByText := true, laidKinds := [.data, .pinned], laidTests := true, laidLooks := .later }
def FoldMatchesUptoCardSaid : Prop := Claim7.holds Tryd.pinned (.plain (OpenSpec.upto foldMatchesSpec)) foldMatchesUptoCard

/-- THE SECOND FORM's CARD OF 'identitylaw01.FoldIdempotent'. -/
def foldIdempotentUptoCard : Claim7 := { stood := { row := foldIdempotentUptoRow, standIns := [], harness := (true, "ddfa8886f9ac2da230b3747c4d3c3cfa102fb05bc9b983cc0397522157775add"), looks := false }, kinds := [], alts := [], laidByText := true, laidKinds := [.data, .pinned], laidTests := true, laidLooks := .later }
def FoldIdempotentUptoCardSaid : Prop := Claim7.holds Tryd.pinned (.plain (OpenSpec.upto foldIdempotentSpec)) foldIdempotentUptoCard

/-- THE SECOND FORM's CARD OF 'identitylaw01.FoldOrders'. -/
def foldOrdersUptoCard : Claim7 := { stood := { row := foldOrdersUptoRow, standIns := [], harness := (true, "ddfa8886f9ac2da230b3747c4d3c3cfa102fb05bc9b983cc0397522157775add"), looks := false }, kinds := [], alts := [], laidByText := true, laidKinds := [.data, .pinned], laidTests := true, laidLooks := .later }
def FoldOrdersUptoCardSaid : Prop := Claim7.holds Tryd.pinned (.plain (OpenSpec.upto foldOrdersSpec)) foldOrdersUptoCard

/-- THE SECOND FORM's CARD OF 'identitylaw01.FoldWild'. -/
def foldWildUptoCard : Claim7 := { stood := { row := foldWildUptoRow, standIns := [], harness := (true, "ddfa8886f9ac2da230b3747c4d3c3cfa102fb05bc9b983cc0397522157775add"), looks := false }, kinds := [], alts := [], laidByText := true, laidKinds := [.data, .pinned], laidTests := true, laidLooks := .later }
def FoldWildUptoCardSaid : Prop := Claim7.holds Tryd.pinned (.plain (OpenSpec.upto foldWildSpec)) foldWildUptoCard
end Rows
end Go.Proofs.YtphlihmngbmiiaaDoor
