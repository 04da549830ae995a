/-
  DERIVED. GIVEN WITH THE SEED: THE CARDS: each row of YtapooonlbjgbgaaDoorRows.lean that lists a variable, with what it lists TIED to the program's text (the seventh form; the later family's looks); each row that meets fmt, with fmt's text TOLD by the authors' own Lean function (tested against real Go, not proved from fmt's source: count such statements apart). THE CARD IS WHAT COUNTS. Prove the row's statement (the work); the ties are given (YtapooonlbjgbgaaDoorTie.lean); close each card by the builder's one call (the guide's Derived/Test/ToyasCard.lean, 'card_holds'). Laid BY PROGRAM, IN A SANDBOX (cutbox-door.mjs). By AI agents, Wed Nov 11 2026. No macro, syntax, notation, axiom, sorry.
-/
import Derived.Test.YtapooonlbjgbgaaDoorRows
import GoSem.ClaimSeven
namespace Go.Proofs.YtapooonlbjgbgaaDoor
namespace Rows

/-- THE TIED CARD OF 'identitylaw42.DevflowCodes'. -/
def devflowCodesCard : Claim7 := { stood := { row := devflowCodesRow, standIns := [], harness := (true, "17d5bc4e4d215fc0ba32789ff9b22bab032e9e2a7cb4fc74df73936977a80f20"), looks := false }, kinds := [], alts := [], laidByText := true, laidKinds := [.data, .pinned], laidTests := true, laidLooks := .later }
def DevflowCodesCardSaid : Prop := Claim7.holds Tryd.pinned (.plain (OpenSpec.ofChange devflowCodesSpec)) devflowCodesCard

/-- THE TIED CARD OF 'identitylaw42.DevflowPlays'. -/
def devflowPlaysCard : Claim7 := { stood := { row := devflowPlaysRow, standIns := [], harness := (true, "17d5bc4e4d215fc0ba32789ff9b22bab032e9e2a7cb4fc74df73936977a80f20"), looks := false }, kinds := [], alts := [], laidByText := true, laidKinds := [.data, .pinned], laidTests := true, laidLooks := .later }
def DevflowPlaysCardSaid : Prop := Claim7.holds Tryd.pinned (.plain (OpenSpec.ofChange devflowPlaysSpec)) devflowPlaysCard

/-- THE TIED CARD OF 'identitylaw42.DevflowTyped'. -/
def devflowTypedCard : Claim7 := { stood := { row := devflowTypedRow, standIns := [], harness := (true, "17d5bc4e4d215fc0ba32789ff9b22bab032e9e2a7cb4fc74df73936977a80f20"), looks := false }, kinds := [], alts := [], laidByText := true, laidKinds := [.data, .pinned], laidTests := true, laidLooks := .later }
def DevflowTypedCardSaid : Prop := Claim7.holds Tryd.pinned (.plain (OpenSpec.ofChange devflowTypedSpec)) devflowTypedCard

/-- THE TIED CARD OF 'identitylaw42.DevflowOnce'. -/
def devflowOnceCard : Claim7 := { stood := { row := devflowOnceRow, standIns := [], harness := (true, "17d5bc4e4d215fc0ba32789ff9b22bab032e9e2a7cb4fc74df73936977a80f20"), looks := false }, kinds := [], alts := [], laidByText := true, laidKinds := [.data, .pinned], laidTests := true, laidLooks := .later }
def DevflowOnceCardSaid : Prop := Claim7.holds Tryd.pinned (.plain (OpenSpec.ofChange devflowOnceSpec)) devflowOnceCard

/-- THE TIED CARD OF 'identitylaw42.DevflowPatience'. -/
def devflowPatienceCard : Claim7 := { stood := { row := devflowPatienceRow, standIns := [], harness := (true, "17d5bc4e4d215fc0ba32789ff9b22bab032e9e2a7cb4fc74df73936977a80f20"), looks := false }, kinds := [], alts := [], laidByText := true, laidKinds := [.data, .pinned], laidTests := true, laidLooks := .later }
def DevflowPatienceCardSaid : Prop := Claim7.holds Tryd.pinned (.plain (OpenSpec.ofChange devflowPatienceSpec)) devflowPatienceCard

/-- THE TIED CARD OF 'identitylaw42.DevflowNil'. -/
def devflowNilCard : Claim7 := { stood := { row := devflowNilRow, standIns := [], harness := (true, "17d5bc4e4d215fc0ba32789ff9b22bab032e9e2a7cb4fc74df73936977a80f20"), looks := false }, kinds := [], alts := [], laidByText := true, laidKinds := [.data, .pinned], laidTests := true, laidLooks := .later }
def DevflowNilCardSaid : Prop := Claim7.holds Tryd.pinned (.plain (OpenSpec.ofChange devflowNilSpec)) devflowNilCard

/-- THE SECOND FORM's CARD OF 'identitylaw42.DevflowCodes'. -/
def devflowCodesUptoCard : Claim7 := { stood := { row := devflowCodesUptoRow, standIns := [], harness := (true, "17d5bc4e4d215fc0ba32789ff9b22bab032e9e2a7cb4fc74df73936977a80f20"), looks := false }, kinds := [], alts := [], laidByText := true, laidKinds := [.data, .pinned], laidTests := true, laidLooks := .later }
def DevflowCodesUptoCardSaid : Prop := Claim7.holds Tryd.pinned (.plain (OpenSpec.upto devflowCodesSpec)) devflowCodesUptoCard

/-- THE SECOND FORM's CARD OF 'identitylaw42.DevflowPlays'. -/
def devflowPlaysUptoCard : Claim7 := { stood := { row := devflowPlaysUptoRow, standIns := [], harness := (true, "17d5bc4e4d215fc0ba32789ff9b22bab032e9e2a7cb4fc74df73936977a80f20"), looks := false }, kinds := [], alts := [], laidByText := true, laidKinds := [.data, .pinned], laidTests := true, laidLooks := .later }
def DevflowPlaysUptoCardSaid : Prop := Claim7.holds Tryd.pinned (.plain (OpenSpec.upto devflowPlaysSpec)) devflowPlaysUptoCard

/-- THE SECOND FORM's CARD OF 'identitylaw42.DevflowTyped'. -/
def devflowTypedUptoCard : Claim7 := { stood := { row := devflowTypedUptoRow, standIns := [], harness := (true, "17d5bc4e4d215fc0ba32789ff9b22bab032e9e2a7cb4fc74df73936977a80f20"), looks := false }, kinds := [], alts := [], laidByText := true, laidKinds := [.data, .pinned], laidTests := true, laidLooks := .later }
def DevflowTypedUptoCardSaid : Prop := Claim7.holds Tryd.pinned (.plain (OpenSpec.upto devflowTypedSpec)) devflowTypedUptoCard

/-- THE SECOND FORM's CARD OF 'identitylaw42.DevflowOnce'. -/
def devflowOnceUptoCard : Claim7 := { stood := { row := devflowOnceUptoRow, standIns := [], harness := (true, "17d5bc4e4d215fc0ba32789ff9b22bab032e9e2a7cb4fc74df73936977a80f20"), looks := false }, kinds := [], alts := [], laidByText := true, laidKinds := [.data, .pinned], laidTests := true, laidLooks := .later }
def DevflowOnceUptoCardSaid : Prop := Claim7.holds Tryd.pinned (.plain (OpenSpec.upto devflowOnceSpec)) devflowOnceUptoCard

/-- THE SECOND FORM's CARD OF 'identitylaw42.DevflowPatience'. -/
def devflowPatienceUptoCard : Claim7 := { stood := { row := devflowPatienceUptoRow, standIns := [], harness := (true, "17d5bc4e4d215fc0ba32789ff9b22bab032e9e2a7cb4fc74df73936977a80f20"), looks := false }, kinds := [], alts := [], laidByText := true, laidKinds := [.data, .pinned], laidTests := true, laidLooks := .later }
def DevflowPatienceUptoCardSaid : Prop := Claim7.holds Tryd.pinned (.plain (OpenSpec.upto devflowPatienceSpec)) devflowPatienceUptoCard

/-- THE SECOND FORM's CARD OF 'identitylaw42.DevflowNil'. -/
def devflowNilUptoCard : Claim7 := { stood := { row := devflowNilUptoRow, standIns := [], harness := (true, "17d5bc4e4d215fc0ba32789ff9b22bab032e9e2a7cb4fc74df73936977a80f20"), looks := false }, kinds := [], alts := [], laidByText := true, laidKinds := [.data, .pinned], laidTests := true, laidLooks := .later }
def DevflowNilUptoCardSaid : Prop := Claim7.holds Tryd.pinned (.plain (OpenSpec.upto devflowNilSpec)) devflowNilUptoCard
end Rows
end Go.Proofs.YtapooonlbjgbgaaDoor
