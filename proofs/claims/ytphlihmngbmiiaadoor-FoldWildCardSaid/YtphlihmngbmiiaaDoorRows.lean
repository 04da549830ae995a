/-
  NARROWER THAN 'FOR EVERY INPUT', by the rows' own cells (each row's printed sentence says how): FoldLowers: laid · FoldKinds: laid · FoldCompares: laid · FoldMatches: laid · FoldIdempotent: laid · FoldOrders: laid · FoldWild: laid.
  DERIVED. THE GIVEN ROWS OF THIS SEAT. 7 by the template 'for every input the law returns true; each argument reads behind the call as it read before'; 0 by the template 'total and deterministic' (their statements: YtphlihmngbmiiaaDoorTotals.lean).
  GIVEN WITH THE SEED: the statements are not yours to turn. If you find one false, say at which input.
  Laid BY PROGRAM, IN A SANDBOX (cutbox-rows.mjs): the forced cells as the released guide's own fill.sh prints them over the translation 52e33d82f05f064d… (all of the seat's roots in one cut). By AI agents, Wed Nov 11 2026. No macro, syntax, notation, axiom, sorry.
-/
import Derived.Test.YtphlihmngbmiiaaDoorChecked
import GoSem.PinnedTables
import GoSem.Claim
import GoSem.ClaimJoined
import GoSem.ClaimMapViews
import Derived.JoinedTies
import Derived.KernelRfl
namespace Go.Proofs.YtphlihmngbmiiaaDoor
/- THE CELL 'sum', in the pinned program and in every row, IS THE sha256 OF THE DUMP (.gsa) THAT YtphlihmngbmiiaaDoorProg.lean LOADS. Nothing in Lean hashes anything: it is a label: what it is worth is what the hold of that sum in a sandbox is worth. -/
noncomputable def Tryd.pinned : Pinned := { name := "ytphlihmngbmiiaadoor", sum := "52e33d82f05f064d4d30f560565ed94184006885e57db4cf8fe90ff84c9d9f57", checked := Tryd.checked }
namespace Rows
def none {H : Type} : Left H := { results := [], args := [] }

/- WHAT THE LISTED PACKAGE-LEVEL VARIABLES READ AS WHEN THE CALL BEGINS. Each datum BY PROGRAM (the guide's laid-datum.mjs) off the statement by which the dump's own 'gosem.cut.vars' lays the variable. In a bare row this is a premise. The card (YtphlihmngbmiiaaDoorCards.lean) ties it to the program's text. -/
def laid_unicode_utf8_acceptRanges {H : Type} : DataW H := .agg [.agg [.lit (.int .u8 128), .lit (.int .u8 191)], .agg [.lit (.int .u8 160), .lit (.int .u8 191)], .agg [.lit (.int .u8 128), .lit (.int .u8 159)], .agg [.lit (.int .u8 144), .lit (.int .u8 191)], .agg [.lit (.int .u8 128), .lit (.int .u8 143)], .agg [.lit (.int .u8 0), .lit (.int .u8 0)], .agg [.lit (.int .u8 0), .lit (.int .u8 0)], .agg [.lit (.int .u8 0), .lit (.int .u8 0)], .agg [.lit (.int .u8 0), .lit (.int .u8 0)], .agg [.lit (.int .u8 0), .lit (.int .u8 0)], .agg [.lit (.int .u8 0), .lit (.int .u8 0)], .agg [.lit (.int .u8 0), .lit (.int .u8 0)], .agg [.lit (.int .u8 0), .lit (.int .u8 0)], .agg [.lit (.int .u8 0), .lit (.int .u8 0)], .agg [.lit (.int .u8 0), .lit (.int .u8 0)], .agg [.lit (.int .u8 0), .lit (.int .u8 0)]]
/-- One of Go's own tables, pinned by name: the form's constant. -/
def laid_unicode_utf8_first : DataW Unit := Go.Pinned.utf8First

/-- 'identitylaw01.FoldLowers': WHATEVER THE INPUT: true; the input reads as it did. -/
def foldLowersSpec : ChangeSpec := { name := "foldLowers", fn := fun _ => fun
  | [d] => { results := [.lit (.bool true)], args := [d] }
  | _ => none }
def foldLowersRow : OpenClaim := { program := "ytphlihmngbmiiaadoor", sum := "52e33d82f05f064d4d30f560565ed94184006885e57db4cf8fe90ff84c9d9f57", func := "identity/identitylaw01.FoldLowers", spec := "foldLowers", inPlace := ["internal/bytealg.IndexByteString", "internal/bytealg.IndexString", "internal/bytealg.abigen_runtime_cmpstring"], unfollowed := true, recurses := true, named := ["unicode/utf8.first", "unicode/utf8.acceptRanges", "internal/bytealg.MaxLen"], apart := false, laid := [("unicode/utf8.acceptRanges", laid_unicode_utf8_acceptRanges), ("unicode/utf8.first", laid_unicode_utf8_first)] }
def FoldLowersSaid : Prop := foldLowersRow.holds Tryd.pinned (OpenSpec.ofChange foldLowersSpec)

/-- ITS FALSE NEIGHBOUR: 'it returns false'. Refute it at one input. -/
def foldLowersWrong : ChangeSpec := { name := "foldLowers", fn := fun _ => fun
  | [d] => { results := [.lit (.bool false)], args := [d] }
  | _ => none }
def FoldLowersWrongFalsely : Prop := foldLowersRow.holds Tryd.pinned (OpenSpec.ofChange foldLowersWrong)

/-- 'identitylaw01.FoldKinds': WHATEVER THE INPUT: true; the input reads as it did. -/
def foldKindsSpec : ChangeSpec := { name := "foldKinds", fn := fun _ => fun
  | [d] => { results := [.lit (.bool true)], args := [d] }
  | _ => none }
def foldKindsRow : OpenClaim := { program := "ytphlihmngbmiiaadoor", sum := "52e33d82f05f064d4d30f560565ed94184006885e57db4cf8fe90ff84c9d9f57", func := "identity/identitylaw01.FoldKinds", spec := "foldKinds", inPlace := ["internal/bytealg.IndexByteString", "internal/bytealg.IndexString", "internal/bytealg.abigen_runtime_cmpstring"], unfollowed := true, recurses := true, named := ["unicode/utf8.first", "unicode/utf8.acceptRanges", "internal/bytealg.MaxLen"], apart := false, laid := [("unicode/utf8.acceptRanges", laid_unicode_utf8_acceptRanges), ("unicode/utf8.first", laid_unicode_utf8_first)] }
def FoldKindsSaid : Prop := foldKindsRow.holds Tryd.pinned (OpenSpec.ofChange foldKindsSpec)

/-- ITS FALSE NEIGHBOUR: 'it returns false'. Refute it at one input. -/
def foldKindsWrong : ChangeSpec := { name := "foldKinds", fn := fun _ => fun
  | [d] => { results := [.lit (.bool false)], args := [d] }
  | _ => none }
def FoldKindsWrongFalsely : Prop := foldKindsRow.holds Tryd.pinned (OpenSpec.ofChange foldKindsWrong)

/-- 'identitylaw01.FoldCompares': WHATEVER THE INPUT: true; the input reads as it did. -/
def foldComparesSpec : ChangeSpec := { name := "foldCompares", fn := fun _ => fun
  | [d1, d2] => { results := [.lit (.bool true)], args := [d1, d2] }
  | _ => none }
def foldComparesRow : OpenClaim := { program := "ytphlihmngbmiiaadoor", sum := "52e33d82f05f064d4d30f560565ed94184006885e57db4cf8fe90ff84c9d9f57", func := "identity/identitylaw01.FoldCompares", spec := "foldCompares", inPlace := ["internal/bytealg.IndexByteString", "internal/bytealg.IndexString", "internal/bytealg.abigen_runtime_cmpstring"], unfollowed := true, recurses := true, named := ["unicode/utf8.first", "unicode/utf8.acceptRanges", "internal/bytealg.MaxLen"], apart := false, laid := [("unicode/utf8.acceptRanges", laid_unicode_utf8_acceptRanges), ("unicode/utf8.first", laid_unicode_utf8_first)] }
def FoldComparesSaid : Prop := foldComparesRow.holds Tryd.pinned (OpenSpec.ofChange foldComparesSpec)

/-- ITS FALSE NEIGHBOUR: 'it returns false'. Refute it at one input. -/
def foldComparesWrong : ChangeSpec := { name := "foldCompares", fn := fun _ => fun
  | [d1, d2] => { results := [.lit (.bool false)], args := [d1, d2] }
  | _ => none }
def FoldComparesWrongFalsely : Prop := foldComparesRow.holds Tryd.pinned (OpenSpec.ofChange foldComparesWrong)

/-- 'identitylaw01.FoldMatches': WHATEVER THE INPUT: true; the input reads as it did. -/
def foldMatchesSpec : ChangeSpec := { name := "foldMatches", fn := fun _ => fun
  | [d1, d2] => { results := [.lit (.bool true)], args := [d1, d2] }
  | _ => none }
def foldMatchesRow : OpenClaim := { program := "ytphlihmngbmiiaadoor", sum := "52e33d82f05f064d4d30f560565ed94184006885e57db4cf8fe90ff84c9d9f57", func := "identity/identitylaw01.FoldMatches", spec := "foldMatches", inPlace := ["internal/bytealg.IndexByteString", "internal/bytealg.IndexString", "internal/bytealg.abigen_runtime_cmpstring"], unfollowed := true, recurses := true, named := ["unicode/utf8.first", "unicode/utf8.acceptRanges", "internal/bytealg.MaxLen"], apart := false, laid := [("unicode/utf8.acceptRanges", laid_unicode_utf8_acceptRanges), ("unicode/utf8.first", laid_unicode_utf8_first)] }
def FoldMatchesSaid : Prop := foldMatchesRow.holds Tryd.pinned (OpenSpec.ofChange foldMatchesSpec)

/-- ITS FALSE NEIGHBOUR: 'it returns false'. Refute it at one input. -/
def foldMatchesWrong : ChangeSpec := { name := "foldMatches", fn := fun _ => fun
  | [d1, d2] => { results := [.lit (.bool false)], args := [d1, d2] }
  | _ => none }
def FoldMatchesWrongFalsely : Prop := foldMatchesRow.holds Tryd.pinned (OpenSpec.ofChange foldMatchesWrong)

/-- 'identitylaw01.FoldIdempotent': WHATEVER THE INPUT: true; the input reads as it did. -/
def foldIdempotentSpec : ChangeSpec := { name := "foldIdempotent", fn := fun _ => fun
  | [d] => { results := [.lit (.bool true)], args := [d] }
  | _ => none }
def foldIdempotentRow : OpenClaim := { program := "ytphlihmngbmiiaadoor", sum := "52e33d82f05f064d4d30f560565ed94184006885e57db4cf8fe90ff84c9d9f57", func := "identity/identitylaw01.FoldIdempotent", spec := "foldIdempotent", inPlace := ["internal/bytealg.IndexByteString", "internal/bytealg.IndexString", "internal/bytealg.abigen_runtime_cmpstring"], unfollowed := true, recurses := true, named := ["unicode/utf8.first", "unicode/utf8.acceptRanges", "internal/bytealg.MaxLen"], apart := false, laid := [("unicode/utf8.acceptRanges", laid_unicode_utf8_acceptRanges), ("unicode/utf8.first", laid_unicode_utf8_first)] }
def FoldIdempotentSaid : Prop := foldIdempotentRow.holds Tryd.pinned (OpenSpec.ofChange foldIdempotentSpec)

/-- ITS FALSE NEIGHBOUR: 'it returns false'. Refute it at one input. -/
def foldIdempotentWrong : ChangeSpec := { name := "foldIdempotent", fn := fun _ => fun
  | [d] => { results := [.lit (.bool false)], args := [d] }
  | _ => none }
def FoldIdempotentWrongFalsely : Prop := foldIdempotentRow.holds Tryd.pinned (OpenSpec.ofChange foldIdempotentWrong)

/-- 'identitylaw01.FoldOrders': WHATEVER THE INPUT: true; the input reads as it did. -/
def foldOrdersSpec : ChangeSpec := { name := "foldOrders", fn := fun _ => fun
  | [d1, d2, d3] => { results := [.lit (.bool true)], args := [d1, d2, d3] }
  | _ => none }
def foldOrdersRow : OpenClaim := { program := "ytphlihmngbmiiaadoor", sum := "52e33d82f05f064d4d30f560565ed94184006885e57db4cf8fe90ff84c9d9f57", func := "identity/identitylaw01.FoldOrders", spec := "foldOrders", inPlace := ["internal/bytealg.IndexByteString", "internal/bytealg.IndexString", "internal/bytealg.abigen_runtime_cmpstring"], unfollowed := true, recurses := true, named := ["unicode/utf8.first", "unicode/utf8.acceptRanges", "internal/bytealg.MaxLen"], apart := false, laid := [("unicode/utf8.acceptRanges", laid_unicode_utf8_acceptRanges), ("unicode/utf8.first", laid_unicode_utf8_first)] }
def FoldOrdersSaid : Prop := foldOrdersRow.holds Tryd.pinned (OpenSpec.ofChange foldOrdersSpec)

/-- ITS FALSE NEIGHBOUR: 'it returns false'. Refute it at one input. -/
def foldOrdersWrong : ChangeSpec := { name := "foldOrders", fn := fun _ => fun
  | [d1, d2, d3] => { results := [.lit (.bool false)], args := [d1, d2, d3] }
  | _ => none }
def FoldOrdersWrongFalsely : Prop := foldOrdersRow.holds Tryd.pinned (OpenSpec.ofChange foldOrdersWrong)

/-- 'identitylaw01.FoldWild': WHATEVER THE INPUT: true; the input reads as it did. -/
def foldWildSpec : ChangeSpec := { name := "foldWild", fn := fun _ => fun
  | [d1, d2, d3] => { results := [.lit (.bool true)], args := [d1, d2, d3] }
  | _ => none }
def foldWildRow : OpenClaim := { program := "ytphlihmngbmiiaadoor", sum := "52e33d82f05f064d4d30f560565ed94184006885e57db4cf8fe90ff84c9d9f57", func := "identity/identitylaw01.FoldWild", spec := "foldWild", inPlace := ["internal/bytealg.IndexByteString", "internal/bytealg.IndexString", "internal/bytealg.abigen_runtime_cmpstring"], unfollowed := true, recurses := true, named := ["unicode/utf8.first", "unicode/utf8.acceptRanges", "internal/bytealg.MaxLen"], apart := false, laid := [("unicode/utf8.acceptRanges", laid_unicode_utf8_acceptRanges), ("unicode/utf8.first", laid_unicode_utf8_first)] }
def FoldWildSaid : Prop := foldWildRow.holds Tryd.pinned (OpenSpec.ofChange foldWildSpec)

/-- ITS FALSE NEIGHBOUR: 'it returns false'. Refute it at one input. -/
def foldWildWrong : ChangeSpec := { name := "foldWild", fn := fun _ => fun
  | [d1, d2, d3] => { results := [.lit (.bool false)], args := [d1, d2, d3] }
  | _ => none }
def FoldWildWrongFalsely : Prop := foldWildRow.holds Tryd.pinned (OpenSpec.ofChange foldWildWrong)

/- THE SECOND FORM. 'bulk': how many values and letters a reading holds, each counted each time it is reached (what is shared counts as often as it is met; a slice's spare places count too). A statement '..UptoSaid' is the law's where the arguments, and the package variables that the reading takes, are together of bulk at most 1048576: NARROWER than '..Said'. Prove '..Said' where nothing that the law and all that it calls make is longer than what came in: it says more and counts as full. Else prove '..UptoSaid'. A law counts once. -/
mutual
def uptoBulk {H : Type} : DataW H → Nat
  | .lit (.string bytes) => bytes.length + 1
  | .lit _ => 1
  | .nil => 1
  | .ptr d => uptoBulk d + 1
  | .slice elems spare => uptoBulkAll elems + uptoBulkAll spare + 1
  | .agg parts => uptoBulkAll parts + 1
  | .iface _ d => uptoBulk d + 1
  | .map entries => uptoBulkEntries entries + 1
  | .held _ => 1
def uptoBulkAll {H : Type} : List (DataW H) → Nat
  | [] => 0
  | d :: r => uptoBulk d + uptoBulkAll r
def uptoBulkEntries {H : Type} : List (Lit × DataW H) → Nat
  | [] => 0
  | x :: r => uptoBulkEntry x + uptoBulkEntries r
def uptoBulkEntry {H : Type} : Lit × DataW H → Nat
  | (.string bytes, d) => bytes.length + uptoBulk d + 1
  | (_, d) => uptoBulk d + 1
 end
def uptoSmall : (H : Type) → List (DataW H) → Bool := fun _ ds => decide (uptoBulkAll ds ≤ 1048576)
def OpenSpec.upto (s : _root_.Go.ChangeSpec) : _root_.Go.OpenSpec := { _root_.Go.OpenSpec.ofChange s with cond := some uptoSmall }

/-- 'identitylaw01.FoldLowers', WHERE WHAT IT READS IS OF BULK AT MOST 1048576: true; the input reads as it did. -/
def foldLowersUptoRow : OpenClaim := { program := "ytphlihmngbmiiaadoor", sum := "52e33d82f05f064d4d30f560565ed94184006885e57db4cf8fe90ff84c9d9f57", func := "identity/identitylaw01.FoldLowers", spec := "foldLowers", inPlace := ["internal/bytealg.IndexByteString", "internal/bytealg.IndexString", "internal/bytealg.abigen_runtime_cmpstring"], unfollowed := true, recurses := true, named := ["unicode/utf8.first", "unicode/utf8.acceptRanges", "internal/bytealg.MaxLen"], apart := false, laid := [("unicode/utf8.acceptRanges", laid_unicode_utf8_acceptRanges), ("unicode/utf8.first", laid_unicode_utf8_first)], narrowed := true }
def FoldLowersUptoSaid : Prop := foldLowersUptoRow.holds Tryd.pinned (OpenSpec.upto foldLowersSpec)

/-- 'identitylaw01.FoldKinds', WHERE WHAT IT READS IS OF BULK AT MOST 1048576: true; the input reads as it did. -/
def foldKindsUptoRow : OpenClaim := { program := "ytphlihmngbmiiaadoor", sum := "52e33d82f05f064d4d30f560565ed94184006885e57db4cf8fe90ff84c9d9f57", func := "identity/identitylaw01.FoldKinds", spec := "foldKinds", inPlace := ["internal/bytealg.IndexByteString", "internal/bytealg.IndexString", "internal/bytealg.abigen_runtime_cmpstring"], unfollowed := true, recurses := true, named := ["unicode/utf8.first", "unicode/utf8.acceptRanges", "internal/bytealg.MaxLen"], apart := false, laid := [("unicode/utf8.acceptRanges", laid_unicode_utf8_acceptRanges), ("unicode/utf8.first", laid_unicode_utf8_first)], narrowed := true }
def FoldKindsUptoSaid : Prop := foldKindsUptoRow.holds Tryd.pinned (OpenSpec.upto foldKindsSpec)

/-- 'identitylaw01.FoldCompares', WHERE WHAT IT READS IS OF BULK AT MOST 1048576: true; the input reads as it did. -/
def foldComparesUptoRow : OpenClaim := { program := "ytphlihmngbmiiaadoor", sum := "52e33d82f05f064d4d30f560565ed94184006885e57db4cf8fe90ff84c9d9f57", func := "identity/identitylaw01.FoldCompares", spec := "foldCompares", inPlace := ["internal/bytealg.IndexByteString", "internal/bytealg.IndexString", "internal/bytealg.abigen_runtime_cmpstring"], unfollowed := true, recurses := true, named := ["unicode/utf8.first", "unicode/utf8.acceptRanges", "internal/bytealg.MaxLen"], apart := false, laid := [("unicode/utf8.acceptRanges", laid_unicode_utf8_acceptRanges), ("unicode/utf8.first", laid_unicode_utf8_first)], narrowed := true }
def FoldComparesUptoSaid : Prop := foldComparesUptoRow.holds Tryd.pinned (OpenSpec.upto foldComparesSpec)

/-- 'identitylaw01.FoldMatches', WHERE WHAT IT READS IS OF BULK AT MOST 1048576: true; the input reads as it did. -/
def foldMatchesUptoRow : OpenClaim := { program := "ytphlihmngbmiiaadoor", sum := "52e33d82f05f064d4d30f560565ed94184006885e57db4cf8fe90ff84c9d9f57", func := "identity/identitylaw01.FoldMatches", spec := "foldMatches", inPlace := ["internal/bytealg.IndexByteString", "internal/bytealg.IndexString", "internal/bytealg.abigen_runtime_cmpstring"], unfollowed := true, recurses := true, named := ["unicode/utf8.first", "unicode/utf8.acceptRanges", "internal/bytealg.MaxLen"], apart := false, laid := [("unicode/utf8.acceptRanges", laid_unicode_utf8_acceptRanges), ("unicode/utf8.first", laid_unicode_utf8_first)], narrowed := true }
def FoldMatchesUptoSaid : Prop := foldMatchesUptoRow.holds Tryd.pinned (OpenSpec.upto foldMatchesSpec)

/-- 'identitylaw01.FoldIdempotent', WHERE WHAT IT READS IS OF BULK AT MOST 1048576: true; the input reads as it did. -/
def foldIdempotentUptoRow : OpenClaim := { program := "ytphlihmngbmiiaadoor", sum := "52e33d82f05f064d4d30f560565ed94184006885e57db4cf8fe90ff84c9d9f57", func := "identity/identitylaw01.FoldIdempotent", spec := "foldIdempotent", inPlace := ["internal/bytealg.IndexByteString", "internal/bytealg.IndexString", "internal/bytealg.abigen_runtime_cmpstring"], unfollowed := true, recurses := true, named := ["unicode/utf8.first", "unicode/utf8.acceptRanges", "internal/bytealg.MaxLen"], apart := false, laid := [("unicode/utf8.acceptRanges", laid_unicode_utf8_acceptRanges), ("unicode/utf8.first", laid_unicode_utf8_first)], narrowed := true }
def FoldIdempotentUptoSaid : Prop := foldIdempotentUptoRow.holds Tryd.pinned (OpenSpec.upto foldIdempotentSpec)

/-- 'identitylaw01.FoldOrders', WHERE WHAT IT READS IS OF BULK AT MOST 1048576: true; the input reads as it did. -/
def foldOrdersUptoRow : OpenClaim := { program := "ytphlihmngbmiiaadoor", sum := "52e33d82f05f064d4d30f560565ed94184006885e57db4cf8fe90ff84c9d9f57", func := "identity/identitylaw01.FoldOrders", spec := "foldOrders", inPlace := ["internal/bytealg.IndexByteString", "internal/bytealg.IndexString", "internal/bytealg.abigen_runtime_cmpstring"], unfollowed := true, recurses := true, named := ["unicode/utf8.first", "unicode/utf8.acceptRanges", "internal/bytealg.MaxLen"], apart := false, laid := [("unicode/utf8.acceptRanges", laid_unicode_utf8_acceptRanges), ("unicode/utf8.first", laid_unicode_utf8_first)], narrowed := true }
def FoldOrdersUptoSaid : Prop := foldOrdersUptoRow.holds Tryd.pinned (OpenSpec.upto foldOrdersSpec)

/-- 'identitylaw01.FoldWild', WHERE WHAT IT READS IS OF BULK AT MOST 1048576: true; the input reads as it did. -/
def foldWildUptoRow : OpenClaim := { program := "ytphlihmngbmiiaadoor", sum := "52e33d82f05f064d4d30f560565ed94184006885e57db4cf8fe90ff84c9d9f57", func := "identity/identitylaw01.FoldWild", spec := "foldWild", inPlace := ["internal/bytealg.IndexByteString", "internal/bytealg.IndexString", "internal/bytealg.abigen_runtime_cmpstring"], unfollowed := true, recurses := true, named := ["unicode/utf8.first", "unicode/utf8.acceptRanges", "internal/bytealg.MaxLen"], apart := false, laid := [("unicode/utf8.acceptRanges", laid_unicode_utf8_acceptRanges), ("unicode/utf8.first", laid_unicode_utf8_first)], narrowed := true }
def FoldWildUptoSaid : Prop := foldWildUptoRow.holds Tryd.pinned (OpenSpec.upto foldWildSpec)

end Rows
end Go.Proofs.YtphlihmngbmiiaaDoor
