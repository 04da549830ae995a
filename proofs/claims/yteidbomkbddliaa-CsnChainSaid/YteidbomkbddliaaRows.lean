/-
  No cell of these rows narrows 'for every input' (looked for: loops, veiled, ifaces, maps, wideKeys, modest, calm, conditions, laid).
  DERIVED. THE GIVEN ROWS OF THIS SEAT. 8 by the template 'for every input the law returns true; each argument reads behind the call as it read before'; 0 by the template 'total and deterministic' (their statements: YteidbomkbddliaaTotals.lean).
  GIVEN WITH THE SEED: the statements are not yours to turn. If you find one false, say at which input.
  Laid BY PROGRAM, IN A SANDBOX (cutbox-rows.mjs): the forced cells as the released guide's own fill.sh prints them over the translation c23eafecd27f9656… (all of the seat's roots in one cut). By AI agents, Wed Nov 11 2026. No macro, syntax, notation, axiom, sorry.
-/
import Derived.Test.YteidbomkbddliaaChecked
import GoSem.Claim
import GoSem.ClaimJoined
import GoSem.ClaimMapViews
import Derived.JoinedTies
import Derived.KernelRfl
namespace Go.Proofs.Yteidbomkbddliaa
/- THE CELL 'sum', in the pinned program and in every row, IS THE sha256 OF THE DUMP (.gsa) THAT YteidbomkbddliaaProg.lean LOADS. Nothing in Lean hashes anything: it is a label: what it is worth is what the hold of that sum in a sandbox is worth. -/
noncomputable def Try.pinned : Pinned := { name := "yteidbomkbddliaa", sum := "c23eafecd27f9656d5c62361f1e5c5177a8bf85154aec9da83c011a66648cb94", checked := Try.checked }
namespace Rows
def none {H : Type} : Left H := { results := [], args := [] }

/-- 'identitylaw15.CsnOrders': WHATEVER THE INPUT: true; the input reads as it did. -/
def csnOrdersSpec : ChangeSpec := { name := "csnOrders", fn := fun _ => fun
  | [d1, d2, d3] => { results := [.lit (.bool true)], args := [d1, d2, d3] }
  | _ => none }
def csnOrdersRow : OpenClaim := { program := "yteidbomkbddliaa", sum := "c23eafecd27f9656d5c62361f1e5c5177a8bf85154aec9da83c011a66648cb94", func := "identity/identitylaw15.CsnOrders", spec := "csnOrders", inPlace := ["internal/bytealg.IndexByteString", "slices.overlaps[identity/api.CSN]"], unfollowed := true, recurses := true, apart := false }
def CsnOrdersSaid : Prop := csnOrdersRow.holds Try.pinned (OpenSpec.ofChange csnOrdersSpec)

/-- ITS FALSE NEIGHBOUR: 'it returns false'. Refute it at one input. -/
def csnOrdersWrong : ChangeSpec := { name := "csnOrders", fn := fun _ => fun
  | [d1, d2, d3] => { results := [.lit (.bool false)], args := [d1, d2, d3] }
  | _ => none }
def CsnOrdersWrongFalsely : Prop := csnOrdersRow.holds Try.pinned (OpenSpec.ofChange csnOrdersWrong)

/-- 'identitylaw15.CsnTexts': WHATEVER THE INPUT: true; the input reads as it did. -/
def csnTextsSpec : ChangeSpec := { name := "csnTexts", fn := fun _ => fun
  | [d1, d2, d3] => { results := [.lit (.bool true)], args := [d1, d2, d3] }
  | _ => none }
def csnTextsRow : OpenClaim := { program := "yteidbomkbddliaa", sum := "c23eafecd27f9656d5c62361f1e5c5177a8bf85154aec9da83c011a66648cb94", func := "identity/identitylaw15.CsnTexts", spec := "csnTexts", inPlace := ["internal/bytealg.IndexByteString", "slices.overlaps[identity/api.CSN]"], unfollowed := true, recurses := true, apart := false }
def CsnTextsSaid : Prop := csnTextsRow.holds Try.pinned (OpenSpec.ofChange csnTextsSpec)

/-- ITS FALSE NEIGHBOUR: 'it returns false'. Refute it at one input. -/
def csnTextsWrong : ChangeSpec := { name := "csnTexts", fn := fun _ => fun
  | [d1, d2, d3] => { results := [.lit (.bool false)], args := [d1, d2, d3] }
  | _ => none }
def CsnTextsWrongFalsely : Prop := csnTextsRow.holds Try.pinned (OpenSpec.ofChange csnTextsWrong)

/-- 'identitylaw15.CsnNext': WHATEVER THE INPUT: true; the input reads as it did. -/
def csnNextSpec : ChangeSpec := { name := "csnNext", fn := fun _ => fun
  | [d1, d2, d3] => { results := [.lit (.bool true)], args := [d1, d2, d3] }
  | _ => none }
def csnNextRow : OpenClaim := { program := "yteidbomkbddliaa", sum := "c23eafecd27f9656d5c62361f1e5c5177a8bf85154aec9da83c011a66648cb94", func := "identity/identitylaw15.CsnNext", spec := "csnNext", inPlace := ["internal/bytealg.IndexByteString", "slices.overlaps[identity/api.CSN]"], unfollowed := true, recurses := true, apart := false }
def CsnNextSaid : Prop := csnNextRow.holds Try.pinned (OpenSpec.ofChange csnNextSpec)

/-- ITS FALSE NEIGHBOUR: 'it returns false'. Refute it at one input. -/
def csnNextWrong : ChangeSpec := { name := "csnNext", fn := fun _ => fun
  | [d1, d2, d3] => { results := [.lit (.bool false)], args := [d1, d2, d3] }
  | _ => none }
def CsnNextWrongFalsely : Prop := csnNextRow.holds Try.pinned (OpenSpec.ofChange csnNextWrong)

/-- 'identitylaw15.CsnChain': WHATEVER THE INPUT: true; the input reads as it did. -/
def csnChainSpec : ChangeSpec := { name := "csnChain", fn := fun _ => fun
  | [d1, d2, d3] => { results := [.lit (.bool true)], args := [d1, d2, d3] }
  | _ => none }
def csnChainRow : OpenClaim := { program := "yteidbomkbddliaa", sum := "c23eafecd27f9656d5c62361f1e5c5177a8bf85154aec9da83c011a66648cb94", func := "identity/identitylaw15.CsnChain", spec := "csnChain", inPlace := ["internal/bytealg.IndexByteString", "slices.overlaps[identity/api.CSN]"], unfollowed := true, recurses := true, apart := false }
def CsnChainSaid : Prop := csnChainRow.holds Try.pinned (OpenSpec.ofChange csnChainSpec)

/-- ITS FALSE NEIGHBOUR: 'it returns false'. Refute it at one input. -/
def csnChainWrong : ChangeSpec := { name := "csnChain", fn := fun _ => fun
  | [d1, d2, d3] => { results := [.lit (.bool false)], args := [d1, d2, d3] }
  | _ => none }
def CsnChainWrongFalsely : Prop := csnChainRow.holds Try.pinned (OpenSpec.ofChange csnChainWrong)

/-- 'identitylaw15.CsnChecks': WHATEVER THE INPUT: true; the input reads as it did. -/
def csnChecksSpec : ChangeSpec := { name := "csnChecks", fn := fun _ => fun
  | [d] => { results := [.lit (.bool true)], args := [d] }
  | _ => none }
def csnChecksRow : OpenClaim := { program := "yteidbomkbddliaa", sum := "c23eafecd27f9656d5c62361f1e5c5177a8bf85154aec9da83c011a66648cb94", func := "identity/identitylaw15.CsnChecks", spec := "csnChecks", inPlace := ["internal/bytealg.IndexByteString", "slices.overlaps[identity/api.CSN]"], unfollowed := true, recurses := true, apart := false }
def CsnChecksSaid : Prop := csnChecksRow.holds Try.pinned (OpenSpec.ofChange csnChecksSpec)

/-- ITS FALSE NEIGHBOUR: 'it returns false'. Refute it at one input. -/
def csnChecksWrong : ChangeSpec := { name := "csnChecks", fn := fun _ => fun
  | [d] => { results := [.lit (.bool false)], args := [d] }
  | _ => none }
def CsnChecksWrongFalsely : Prop := csnChecksRow.holds Try.pinned (OpenSpec.ofChange csnChecksWrong)

/-- 'identitylaw15.CsnNotes': WHATEVER THE INPUT: true; the input reads as it did. -/
def csnNotesSpec : ChangeSpec := { name := "csnNotes", fn := fun _ => fun
  | [d1, d2, d3] => { results := [.lit (.bool true)], args := [d1, d2, d3] }
  | _ => none }
def csnNotesRow : OpenClaim := { program := "yteidbomkbddliaa", sum := "c23eafecd27f9656d5c62361f1e5c5177a8bf85154aec9da83c011a66648cb94", func := "identity/identitylaw15.CsnNotes", spec := "csnNotes", inPlace := ["internal/bytealg.IndexByteString", "slices.overlaps[identity/api.CSN]"], unfollowed := true, recurses := true, apart := false }
def CsnNotesSaid : Prop := csnNotesRow.holds Try.pinned (OpenSpec.ofChange csnNotesSpec)

/-- ITS FALSE NEIGHBOUR: 'it returns false'. Refute it at one input. -/
def csnNotesWrong : ChangeSpec := { name := "csnNotes", fn := fun _ => fun
  | [d1, d2, d3] => { results := [.lit (.bool false)], args := [d1, d2, d3] }
  | _ => none }
def CsnNotesWrongFalsely : Prop := csnNotesRow.holds Try.pinned (OpenSpec.ofChange csnNotesWrong)

/-- 'identitylaw15.CsnJoins': WHATEVER THE INPUT: true; the input reads as it did. -/
def csnJoinsSpec : ChangeSpec := { name := "csnJoins", fn := fun _ => fun
  | [d1, d2, d3] => { results := [.lit (.bool true)], args := [d1, d2, d3] }
  | _ => none }
def csnJoinsRow : OpenClaim := { program := "yteidbomkbddliaa", sum := "c23eafecd27f9656d5c62361f1e5c5177a8bf85154aec9da83c011a66648cb94", func := "identity/identitylaw15.CsnJoins", spec := "csnJoins", inPlace := ["internal/bytealg.IndexByteString", "slices.overlaps[identity/api.CSN]"], unfollowed := true, recurses := true, apart := false }
def CsnJoinsSaid : Prop := csnJoinsRow.holds Try.pinned (OpenSpec.ofChange csnJoinsSpec)

/-- ITS FALSE NEIGHBOUR: 'it returns false'. Refute it at one input. -/
def csnJoinsWrong : ChangeSpec := { name := "csnJoins", fn := fun _ => fun
  | [d1, d2, d3] => { results := [.lit (.bool false)], args := [d1, d2, d3] }
  | _ => none }
def CsnJoinsWrongFalsely : Prop := csnJoinsRow.holds Try.pinned (OpenSpec.ofChange csnJoinsWrong)

/-- 'identitylaw15.CsnLattice': WHATEVER THE INPUT: true; the input reads as it did. -/
def csnLatticeSpec : ChangeSpec := { name := "csnLattice", fn := fun _ => fun
  | [d1, d2, d3] => { results := [.lit (.bool true)], args := [d1, d2, d3] }
  | _ => none }
def csnLatticeRow : OpenClaim := { program := "yteidbomkbddliaa", sum := "c23eafecd27f9656d5c62361f1e5c5177a8bf85154aec9da83c011a66648cb94", func := "identity/identitylaw15.CsnLattice", spec := "csnLattice", inPlace := ["internal/bytealg.IndexByteString", "slices.overlaps[identity/api.CSN]"], unfollowed := true, recurses := true, apart := false }
def CsnLatticeSaid : Prop := csnLatticeRow.holds Try.pinned (OpenSpec.ofChange csnLatticeSpec)

/-- ITS FALSE NEIGHBOUR: 'it returns false'. Refute it at one input. -/
def csnLatticeWrong : ChangeSpec := { name := "csnLattice", fn := fun _ => fun
  | [d1, d2, d3] => { results := [.lit (.bool false)], args := [d1, d2, d3] }
  | _ => none }
def CsnLatticeWrongFalsely : Prop := csnLatticeRow.holds Try.pinned (OpenSpec.ofChange csnLatticeWrong)

/- THE SECOND FORM. 'bulk': how many values and letters a reading holds, each counted each time it is reached (what is shared counts as often as it is met; a slice's spare places count too). A statement '..UptoSaid' is the law's where the arguments, and the package variables that the reading takes, are together of bulk at most 1048576: NARROWER than '..Said'. Prove '..Said' where nothing that the law and all that it calls make is longer than what came in: it says more and counts as full. Else prove '..UptoSaid'. A law counts once. -/
mutual
def uptoBulk {H : Type} : DataW H → Nat
  | .lit (.string bytes) => bytes.length + 1
  | .lit _ => 1
  | .nil => 1
  | .ptr d => uptoBulk d + 1
  | .slice elems spare => uptoBulkAll elems + uptoBulkAll spare + 1
  | .agg parts => uptoBulkAll parts + 1
  | .iface _ d => uptoBulk d + 1
  | .map entries => uptoBulkEntries entries + 1
  | .held _ => 1
def uptoBulkAll {H : Type} : List (DataW H) → Nat
  | [] => 0
  | d :: r => uptoBulk d + uptoBulkAll r
def uptoBulkEntries {H : Type} : List (Lit × DataW H) → Nat
  | [] => 0
  | x :: r => uptoBulkEntry x + uptoBulkEntries r
def uptoBulkEntry {H : Type} : Lit × DataW H → Nat
  | (.string bytes, d) => bytes.length + uptoBulk d + 1
  | (_, d) => uptoBulk d + 1
 end
def uptoSmall : (H : Type) → List (DataW H) → Bool := fun _ ds => decide (uptoBulkAll ds ≤ 1048576)
def OpenSpec.upto (s : _root_.Go.ChangeSpec) : _root_.Go.OpenSpec := { _root_.Go.OpenSpec.ofChange s with cond := some uptoSmall }

/-- 'identitylaw15.CsnOrders', WHERE WHAT IT READS IS OF BULK AT MOST 1048576: true; the input reads as it did. -/
def csnOrdersUptoRow : OpenClaim := { program := "yteidbomkbddliaa", sum := "c23eafecd27f9656d5c62361f1e5c5177a8bf85154aec9da83c011a66648cb94", func := "identity/identitylaw15.CsnOrders", spec := "csnOrders", inPlace := ["internal/bytealg.IndexByteString", "slices.overlaps[identity/api.CSN]"], unfollowed := true, recurses := true, apart := false, narrowed := true }
def CsnOrdersUptoSaid : Prop := csnOrdersUptoRow.holds Try.pinned (OpenSpec.upto csnOrdersSpec)

/-- 'identitylaw15.CsnTexts', WHERE WHAT IT READS IS OF BULK AT MOST 1048576: true; the input reads as it did. -/
def csnTextsUptoRow : OpenClaim := { program := "yteidbomkbddliaa", sum := "c23eafecd27f9656d5c62361f1e5c5177a8bf85154aec9da83c011a66648cb94", func := "identity/identitylaw15.CsnTexts", spec := "csnTexts", inPlace := ["internal/bytealg.IndexByteString", "slices.overlaps[identity/api.CSN]"], unfollowed := true, recurses := true, apart := false, narrowed := true }
def CsnTextsUptoSaid : Prop := csnTextsUptoRow.holds Try.pinned (OpenSpec.upto csnTextsSpec)

/-- 'identitylaw15.CsnNext', WHERE WHAT IT READS IS OF BULK AT MOST 1048576: true; the input reads as it did. -/
def csnNextUptoRow : OpenClaim := { program := "yteidbomkbddliaa", sum := "c23eafecd27f9656d5c62361f1e5c5177a8bf85154aec9da83c011a66648cb94", func := "identity/identitylaw15.CsnNext", spec := "csnNext", inPlace := ["internal/bytealg.IndexByteString", "slices.overlaps[identity/api.CSN]"], unfollowed := true, recurses := true, apart := false, narrowed := true }
def CsnNextUptoSaid : Prop := csnNextUptoRow.holds Try.pinned (OpenSpec.upto csnNextSpec)

/-- 'identitylaw15.CsnChain', WHERE WHAT IT READS IS OF BULK AT MOST 1048576: true; the input reads as it did. -/
def csnChainUptoRow : OpenClaim := { program := "yteidbomkbddliaa", sum := "c23eafecd27f9656d5c62361f1e5c5177a8bf85154aec9da83c011a66648cb94", func := "identity/identitylaw15.CsnChain", spec := "csnChain", inPlace := ["internal/bytealg.IndexByteString", "slices.overlaps[identity/api.CSN]"], unfollowed := true, recurses := true, apart := false, narrowed := true }
def CsnChainUptoSaid : Prop := csnChainUptoRow.holds Try.pinned (OpenSpec.upto csnChainSpec)

/-- 'identitylaw15.CsnChecks', WHERE WHAT IT READS IS OF BULK AT MOST 1048576: true; the input reads as it did. -/
def csnChecksUptoRow : OpenClaim := { program := "yteidbomkbddliaa", sum := "c23eafecd27f9656d5c62361f1e5c5177a8bf85154aec9da83c011a66648cb94", func := "identity/identitylaw15.CsnChecks", spec := "csnChecks", inPlace := ["internal/bytealg.IndexByteString", "slices.overlaps[identity/api.CSN]"], unfollowed := true, recurses := true, apart := false, narrowed := true }
def CsnChecksUptoSaid : Prop := csnChecksUptoRow.holds Try.pinned (OpenSpec.upto csnChecksSpec)

/-- 'identitylaw15.CsnNotes', WHERE WHAT IT READS IS OF BULK AT MOST 1048576: true; the input reads as it did. -/
def csnNotesUptoRow : OpenClaim := { program := "yteidbomkbddliaa", sum := "c23eafecd27f9656d5c62361f1e5c5177a8bf85154aec9da83c011a66648cb94", func := "identity/identitylaw15.CsnNotes", spec := "csnNotes", inPlace := ["internal/bytealg.IndexByteString", "slices.overlaps[identity/api.CSN]"], unfollowed := true, recurses := true, apart := false, narrowed := true }
def CsnNotesUptoSaid : Prop := csnNotesUptoRow.holds Try.pinned (OpenSpec.upto csnNotesSpec)

/-- 'identitylaw15.CsnJoins', WHERE WHAT IT READS IS OF BULK AT MOST 1048576: true; the input reads as it did. -/
def csnJoinsUptoRow : OpenClaim := { program := "yteidbomkbddliaa", sum := "c23eafecd27f9656d5c62361f1e5c5177a8bf85154aec9da83c011a66648cb94", func := "identity/identitylaw15.CsnJoins", spec := "csnJoins", inPlace := ["internal/bytealg.IndexByteString", "slices.overlaps[identity/api.CSN]"], unfollowed := true, recurses := true, apart := false, narrowed := true }
def CsnJoinsUptoSaid : Prop := csnJoinsUptoRow.holds Try.pinned (OpenSpec.upto csnJoinsSpec)

/-- 'identitylaw15.CsnLattice', WHERE WHAT IT READS IS OF BULK AT MOST 1048576: true; the input reads as it did. -/
def csnLatticeUptoRow : OpenClaim := { program := "yteidbomkbddliaa", sum := "c23eafecd27f9656d5c62361f1e5c5177a8bf85154aec9da83c011a66648cb94", func := "identity/identitylaw15.CsnLattice", spec := "csnLattice", inPlace := ["internal/bytealg.IndexByteString", "slices.overlaps[identity/api.CSN]"], unfollowed := true, recurses := true, apart := false, narrowed := true }
def CsnLatticeUptoSaid : Prop := csnLatticeUptoRow.holds Try.pinned (OpenSpec.upto csnLatticeSpec)

end Rows
end Go.Proofs.Yteidbomkbddliaa
