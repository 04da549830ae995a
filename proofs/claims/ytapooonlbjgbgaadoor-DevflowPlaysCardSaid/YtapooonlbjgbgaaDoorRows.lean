/-
  NARROWER THAN 'FOR EVERY INPUT', by the rows' own cells (each row's printed sentence says how): DevflowCodes: laid · DevflowPlays: laid · DevflowTyped: laid · DevflowOnce: laid · DevflowPatience: laid · DevflowNil: laid.
  DERIVED. THE GIVEN ROWS OF THIS SEAT. 6 by the template 'for every input the law returns true; each argument reads behind the call as it read before'; 0 by the template 'total and deterministic' (their statements: YtapooonlbjgbgaaDoorTotals.lean).
  GIVEN WITH THE SEED: the statements are not yours to turn. If you find one false, say at which input.
  Laid BY PROGRAM, IN A SANDBOX (cutbox-rows.mjs): the forced cells as the released guide's own fill.sh prints them over the translation e15c5e1817bba186… (all of the seat's roots in one cut). By AI agents, Wed Nov 11 2026. No macro, syntax, notation, axiom, sorry.
-/
import Derived.Test.YtapooonlbjgbgaaDoorChecked
import GoSem.PinnedTables
import GoSem.Claim
import GoSem.ClaimJoined
import GoSem.ClaimMapViews
import Derived.JoinedTies
import Derived.KernelRfl
namespace Go.Proofs.YtapooonlbjgbgaaDoor
/- THE CELL 'sum', in the pinned program and in every row, IS THE sha256 OF THE DUMP (.gsa) THAT YtapooonlbjgbgaaDoorProg.lean LOADS. Nothing in Lean hashes anything: it is a label: what it is worth is what the hold of that sum in a sandbox is worth. -/
noncomputable def Tryd.pinned : Pinned := { name := "ytapooonlbjgbgaadoor", sum := "e15c5e1817bba186a0e7fdb34054a46ca9c4e7e5be0057e1be972bfbf7daf0d9", checked := Tryd.checked }
namespace Rows
def none {H : Type} : Left H := { results := [], args := [] }

/- WHAT THE LISTED PACKAGE-LEVEL VARIABLES READ AS WHEN THE CALL BEGINS. Each datum BY PROGRAM (the guide's laid-datum.mjs) off the statement by which the dump's own 'gosem.cut.vars' lays the variable. In a bare row this is a premise. The card (YtapooonlbjgbgaaDoorCards.lean) ties it to the program's text. -/
def laid_unicode_utf8_acceptRanges {H : Type} : DataW H := .agg [.agg [.lit (.int .u8 128), .lit (.int .u8 191)], .agg [.lit (.int .u8 160), .lit (.int .u8 191)], .agg [.lit (.int .u8 128), .lit (.int .u8 159)], .agg [.lit (.int .u8 144), .lit (.int .u8 191)], .agg [.lit (.int .u8 128), .lit (.int .u8 143)], .agg [.lit (.int .u8 0), .lit (.int .u8 0)], .agg [.lit (.int .u8 0), .lit (.int .u8 0)], .agg [.lit (.int .u8 0), .lit (.int .u8 0)], .agg [.lit (.int .u8 0), .lit (.int .u8 0)], .agg [.lit (.int .u8 0), .lit (.int .u8 0)], .agg [.lit (.int .u8 0), .lit (.int .u8 0)], .agg [.lit (.int .u8 0), .lit (.int .u8 0)], .agg [.lit (.int .u8 0), .lit (.int .u8 0)], .agg [.lit (.int .u8 0), .lit (.int .u8 0)], .agg [.lit (.int .u8 0), .lit (.int .u8 0)], .agg [.lit (.int .u8 0), .lit (.int .u8 0)]]
/-- One of Go's own tables, pinned by name: the form's constant. -/
def laid_unicode_utf8_first : DataW Unit := Go.Pinned.utf8First

/-- 'identitylaw42.DevflowCodes': WHATEVER THE INPUT: true; the input reads as it did. -/
def devflowCodesSpec : ChangeSpec := { name := "devflowCodes", fn := fun _ => fun
  | [d1, d2] => { results := [.lit (.bool true)], args := [d1, d2] }
  | _ => none }
def devflowCodesRow : OpenClaim := { program := "ytapooonlbjgbgaadoor", sum := "e15c5e1817bba186a0e7fdb34054a46ca9c4e7e5be0057e1be972bfbf7daf0d9", func := "identity/identitylaw42.DevflowCodes", spec := "devflowCodes", inPlace := ["internal/bytealg.CountString", "internal/bytealg.IndexByteString", "internal/bytealg.IndexString", "internal/abi.NoEscape", "internal/bytealg.MakeNoZero"], unfollowed := true, recurses := true, named := ["internal/bytealg.MaxLen", "unicode/utf8.first", "unicode/utf8.acceptRanges"], apart := false, laid := [("unicode/utf8.acceptRanges", laid_unicode_utf8_acceptRanges), ("unicode/utf8.first", laid_unicode_utf8_first)] }
def DevflowCodesSaid : Prop := devflowCodesRow.holds Tryd.pinned (OpenSpec.ofChange devflowCodesSpec)

/-- ITS FALSE NEIGHBOUR: 'it returns false'. Refute it at one input. -/
def devflowCodesWrong : ChangeSpec := { name := "devflowCodes", fn := fun _ => fun
  | [d1, d2] => { results := [.lit (.bool false)], args := [d1, d2] }
  | _ => none }
def DevflowCodesWrongFalsely : Prop := devflowCodesRow.holds Tryd.pinned (OpenSpec.ofChange devflowCodesWrong)

/-- 'identitylaw42.DevflowPlays': WHATEVER THE INPUT: true; the input reads as it did. -/
def devflowPlaysSpec : ChangeSpec := { name := "devflowPlays", fn := fun _ => fun
  | [d1, d2, d3] => { results := [.lit (.bool true)], args := [d1, d2, d3] }
  | _ => none }
def devflowPlaysRow : OpenClaim := { program := "ytapooonlbjgbgaadoor", sum := "e15c5e1817bba186a0e7fdb34054a46ca9c4e7e5be0057e1be972bfbf7daf0d9", func := "identity/identitylaw42.DevflowPlays", spec := "devflowPlays", inPlace := ["internal/bytealg.CountString", "internal/bytealg.IndexByteString", "internal/bytealg.IndexString", "internal/abi.NoEscape", "internal/bytealg.MakeNoZero"], unfollowed := true, recurses := true, named := ["internal/bytealg.MaxLen", "unicode/utf8.first", "unicode/utf8.acceptRanges"], apart := false, laid := [("unicode/utf8.acceptRanges", laid_unicode_utf8_acceptRanges), ("unicode/utf8.first", laid_unicode_utf8_first)] }
def DevflowPlaysSaid : Prop := devflowPlaysRow.holds Tryd.pinned (OpenSpec.ofChange devflowPlaysSpec)

/-- ITS FALSE NEIGHBOUR: 'it returns false'. Refute it at one input. -/
def devflowPlaysWrong : ChangeSpec := { name := "devflowPlays", fn := fun _ => fun
  | [d1, d2, d3] => { results := [.lit (.bool false)], args := [d1, d2, d3] }
  | _ => none }
def DevflowPlaysWrongFalsely : Prop := devflowPlaysRow.holds Tryd.pinned (OpenSpec.ofChange devflowPlaysWrong)

/-- 'identitylaw42.DevflowTyped': WHATEVER THE INPUT: true; the input reads as it did. -/
def devflowTypedSpec : ChangeSpec := { name := "devflowTyped", fn := fun _ => fun
  | [d1, d2, d3] => { results := [.lit (.bool true)], args := [d1, d2, d3] }
  | _ => none }
def devflowTypedRow : OpenClaim := { program := "ytapooonlbjgbgaadoor", sum := "e15c5e1817bba186a0e7fdb34054a46ca9c4e7e5be0057e1be972bfbf7daf0d9", func := "identity/identitylaw42.DevflowTyped", spec := "devflowTyped", inPlace := ["internal/bytealg.CountString", "internal/bytealg.IndexByteString", "internal/bytealg.IndexString", "internal/abi.NoEscape", "internal/bytealg.MakeNoZero"], unfollowed := true, recurses := true, named := ["internal/bytealg.MaxLen", "unicode/utf8.first", "unicode/utf8.acceptRanges"], apart := false, laid := [("unicode/utf8.acceptRanges", laid_unicode_utf8_acceptRanges), ("unicode/utf8.first", laid_unicode_utf8_first)] }
def DevflowTypedSaid : Prop := devflowTypedRow.holds Tryd.pinned (OpenSpec.ofChange devflowTypedSpec)

/-- ITS FALSE NEIGHBOUR: 'it returns false'. Refute it at one input. -/
def devflowTypedWrong : ChangeSpec := { name := "devflowTyped", fn := fun _ => fun
  | [d1, d2, d3] => { results := [.lit (.bool false)], args := [d1, d2, d3] }
  | _ => none }
def DevflowTypedWrongFalsely : Prop := devflowTypedRow.holds Tryd.pinned (OpenSpec.ofChange devflowTypedWrong)

/-- 'identitylaw42.DevflowOnce': WHATEVER THE INPUT: true; the input reads as it did. -/
def devflowOnceSpec : ChangeSpec := { name := "devflowOnce", fn := fun _ => fun
  | [d1, d2] => { results := [.lit (.bool true)], args := [d1, d2] }
  | _ => none }
def devflowOnceRow : OpenClaim := { program := "ytapooonlbjgbgaadoor", sum := "e15c5e1817bba186a0e7fdb34054a46ca9c4e7e5be0057e1be972bfbf7daf0d9", func := "identity/identitylaw42.DevflowOnce", spec := "devflowOnce", inPlace := ["internal/bytealg.CountString", "internal/bytealg.IndexByteString", "internal/bytealg.IndexString", "internal/abi.NoEscape", "internal/bytealg.MakeNoZero"], unfollowed := true, recurses := true, named := ["internal/bytealg.MaxLen", "unicode/utf8.first", "unicode/utf8.acceptRanges"], apart := false, laid := [("unicode/utf8.acceptRanges", laid_unicode_utf8_acceptRanges), ("unicode/utf8.first", laid_unicode_utf8_first)] }
def DevflowOnceSaid : Prop := devflowOnceRow.holds Tryd.pinned (OpenSpec.ofChange devflowOnceSpec)

/-- ITS FALSE NEIGHBOUR: 'it returns false'. Refute it at one input. -/
def devflowOnceWrong : ChangeSpec := { name := "devflowOnce", fn := fun _ => fun
  | [d1, d2] => { results := [.lit (.bool false)], args := [d1, d2] }
  | _ => none }
def DevflowOnceWrongFalsely : Prop := devflowOnceRow.holds Tryd.pinned (OpenSpec.ofChange devflowOnceWrong)

/-- 'identitylaw42.DevflowPatience': WHATEVER THE INPUT: true; the input reads as it did. -/
def devflowPatienceSpec : ChangeSpec := { name := "devflowPatience", fn := fun _ => fun
  | [d1, d2] => { results := [.lit (.bool true)], args := [d1, d2] }
  | _ => none }
def devflowPatienceRow : OpenClaim := { program := "ytapooonlbjgbgaadoor", sum := "e15c5e1817bba186a0e7fdb34054a46ca9c4e7e5be0057e1be972bfbf7daf0d9", func := "identity/identitylaw42.DevflowPatience", spec := "devflowPatience", inPlace := ["internal/bytealg.CountString", "internal/bytealg.IndexByteString", "internal/bytealg.IndexString", "internal/abi.NoEscape", "internal/bytealg.MakeNoZero"], unfollowed := true, recurses := true, named := ["internal/bytealg.MaxLen", "unicode/utf8.first", "unicode/utf8.acceptRanges"], apart := false, laid := [("unicode/utf8.acceptRanges", laid_unicode_utf8_acceptRanges), ("unicode/utf8.first", laid_unicode_utf8_first)] }
def DevflowPatienceSaid : Prop := devflowPatienceRow.holds Tryd.pinned (OpenSpec.ofChange devflowPatienceSpec)

/-- ITS FALSE NEIGHBOUR: 'it returns false'. Refute it at one input. -/
def devflowPatienceWrong : ChangeSpec := { name := "devflowPatience", fn := fun _ => fun
  | [d1, d2] => { results := [.lit (.bool false)], args := [d1, d2] }
  | _ => none }
def DevflowPatienceWrongFalsely : Prop := devflowPatienceRow.holds Tryd.pinned (OpenSpec.ofChange devflowPatienceWrong)

/-- 'identitylaw42.DevflowNil': WHATEVER THE INPUT: true; the input reads as it did. -/
def devflowNilSpec : ChangeSpec := { name := "devflowNil", fn := fun _ => fun
  | [d] => { results := [.lit (.bool true)], args := [d] }
  | _ => none }
def devflowNilRow : OpenClaim := { program := "ytapooonlbjgbgaadoor", sum := "e15c5e1817bba186a0e7fdb34054a46ca9c4e7e5be0057e1be972bfbf7daf0d9", func := "identity/identitylaw42.DevflowNil", spec := "devflowNil", inPlace := ["internal/bytealg.CountString", "internal/bytealg.IndexByteString", "internal/bytealg.IndexString", "internal/abi.NoEscape", "internal/bytealg.MakeNoZero"], unfollowed := true, recurses := true, named := ["internal/bytealg.MaxLen", "unicode/utf8.first", "unicode/utf8.acceptRanges"], apart := false, laid := [("unicode/utf8.acceptRanges", laid_unicode_utf8_acceptRanges), ("unicode/utf8.first", laid_unicode_utf8_first)] }
def DevflowNilSaid : Prop := devflowNilRow.holds Tryd.pinned (OpenSpec.ofChange devflowNilSpec)

/-- ITS FALSE NEIGHBOUR: 'it returns false'. Refute it at one input. -/
def devflowNilWrong : ChangeSpec := { name := "devflowNil", fn := fun _ => fun
  | [d] => { results := [.lit (.bool false)], args := [d] }
  | _ => none }
def DevflowNilWrongFalsely : Prop := devflowNilRow.holds Tryd.pinned (OpenSpec.ofChange devflowNilWrong)

/- THE SECOND FORM. 'bulk': how many values and letters a reading holds, each counted each time it is reached (what is shared counts as often as it is met; a slice's spare places count too). A statement '..UptoSaid' is the law's where the arguments, and the package variables that the reading takes, are together of bulk at most 1048576: NARROWER than '..Said'. Prove '..Said' where nothing that the law and all that it calls make is longer than what came in: it says more and counts as full. Else prove '..UptoSaid'. A law counts once. -/
mutual
def uptoBulk {H : Type} : DataW H → Nat
  | .lit (.string bytes) => bytes.length + 1
  | .lit _ => 1
  | .nil => 1
  | .ptr d => uptoBulk d + 1
  | .slice elems spare => uptoBulkAll elems + uptoBulkAll spare + 1
  | .agg parts => uptoBulkAll parts + 1
  | .iface _ d => uptoBulk d + 1
  | .map entries => uptoBulkEntries entries + 1
  | .held _ => 1
def uptoBulkAll {H : Type} : List (DataW H) → Nat
  | [] => 0
  | d :: r => uptoBulk d + uptoBulkAll r
def uptoBulkEntries {H : Type} : List (Lit × DataW H) → Nat
  | [] => 0
  | x :: r => uptoBulkEntry x + uptoBulkEntries r
def uptoBulkEntry {H : Type} : Lit × DataW H → Nat
  | (.string bytes, d) => bytes.length + uptoBulk d + 1
  | (_, d) => uptoBulk d + 1
 end
def uptoSmall : (H : Type) → List (DataW H) → Bool := fun _ ds => decide (uptoBulkAll ds ≤ 1048576)
def OpenSpec.upto (s : _root_.Go.ChangeSpec) : _root_.Go.OpenSpec := { _root_.Go.OpenSpec.ofChange s with cond := some uptoSmall }

/-- 'identitylaw42.DevflowCodes', WHERE WHAT IT READS IS OF BULK AT MOST 1048576: true; the input reads as it did. -/
def devflowCodesUptoRow : OpenClaim := { program := "ytapooonlbjgbgaadoor", sum := "e15c5e1817bba186a0e7fdb34054a46ca9c4e7e5be0057e1be972bfbf7daf0d9", func := "identity/identitylaw42.DevflowCodes", spec := "devflowCodes", inPlace := ["internal/bytealg.CountString", "internal/bytealg.IndexByteString", "internal/bytealg.IndexString", "internal/abi.NoEscape", "internal/bytealg.MakeNoZero"], unfollowed := true, recurses := true, named := ["internal/bytealg.MaxLen", "unicode/utf8.first", "unicode/utf8.acceptRanges"], apart := false, laid := [("unicode/utf8.acceptRanges", laid_unicode_utf8_acceptRanges), ("unicode/utf8.first", laid_unicode_utf8_first)], narrowed := true }
def DevflowCodesUptoSaid : Prop := devflowCodesUptoRow.holds Tryd.pinned (OpenSpec.upto devflowCodesSpec)

/-- 'identitylaw42.DevflowPlays', WHERE WHAT IT READS IS OF BULK AT MOST 1048576: true; the input reads as it did. -/
def devflowPlaysUptoRow : OpenClaim := { program := "ytapooonlbjgbgaadoor", sum := "e15c5e1817bba186a0e7fdb34054a46ca9c4e7e5be0057e1be972bfbf7daf0d9", func := "identity/identitylaw42.DevflowPlays", spec := "devflowPlays", inPlace := ["internal/bytealg.CountString", "internal/bytealg.IndexByteString", "internal/bytealg.IndexString", "internal/abi.NoEscape", "internal/bytealg.MakeNoZero"], unfollowed := true, recurses := true, named := ["internal/bytealg.MaxLen", "unicode/utf8.first", "unicode/utf8.acceptRanges"], apart := false, laid := [("unicode/utf8.acceptRanges", laid_unicode_utf8_acceptRanges), ("unicode/utf8.first", laid_unicode_utf8_first)], narrowed := true }
def DevflowPlaysUptoSaid : Prop := devflowPlaysUptoRow.holds Tryd.pinned (OpenSpec.upto devflowPlaysSpec)

/-- 'identitylaw42.DevflowTyped', WHERE WHAT IT READS IS OF BULK AT MOST 1048576: true; the input reads as it did. -/
def devflowTypedUptoRow : OpenClaim := { program := "ytapooonlbjgbgaadoor", sum := "e15c5e1817bba186a0e7fdb34054a46ca9c4e7e5be0057e1be972bfbf7daf0d9", func := "identity/identitylaw42.DevflowTyped", spec := "devflowTyped", inPlace := ["internal/bytealg.CountString", "internal/bytealg.IndexByteString", "internal/bytealg.IndexString", "internal/abi.NoEscape", "internal/bytealg.MakeNoZero"], unfollowed := true, recurses := true, named := ["internal/bytealg.MaxLen", "unicode/utf8.first", "unicode/utf8.acceptRanges"], apart := false, laid := [("unicode/utf8.acceptRanges", laid_unicode_utf8_acceptRanges), ("unicode/utf8.first", laid_unicode_utf8_first)], narrowed := true }
def DevflowTypedUptoSaid : Prop := devflowTypedUptoRow.holds Tryd.pinned (OpenSpec.upto devflowTypedSpec)

/-- 'identitylaw42.DevflowOnce', WHERE WHAT IT READS IS OF BULK AT MOST 1048576: true; the input reads as it did. -/
def devflowOnceUptoRow : OpenClaim := { program := "ytapooonlbjgbgaadoor", sum := "e15c5e1817bba186a0e7fdb34054a46ca9c4e7e5be0057e1be972bfbf7daf0d9", func := "identity/identitylaw42.DevflowOnce", spec := "devflowOnce", inPlace := ["internal/bytealg.CountString", "internal/bytealg.IndexByteString", "internal/bytealg.IndexString", "internal/abi.NoEscape", "internal/bytealg.MakeNoZero"], unfollowed := true, recurses := true, named := ["internal/bytealg.MaxLen", "unicode/utf8.first", "unicode/utf8.acceptRanges"], apart := false, laid := [("unicode/utf8.acceptRanges", laid_unicode_utf8_acceptRanges), ("unicode/utf8.first", laid_unicode_utf8_first)], narrowed := true }
def DevflowOnceUptoSaid : Prop := devflowOnceUptoRow.holds Tryd.pinned (OpenSpec.upto devflowOnceSpec)

/-- 'identitylaw42.DevflowPatience', WHERE WHAT IT READS IS OF BULK AT MOST 1048576: true; the input reads as it did. -/
def devflowPatienceUptoRow : OpenClaim := { program := "ytapooonlbjgbgaadoor", sum := "e15c5e1817bba186a0e7fdb34054a46ca9c4e7e5be0057e1be972bfbf7daf0d9", func := "identity/identitylaw42.DevflowPatience", spec := "devflowPatience", inPlace := ["internal/bytealg.CountString", "internal/bytealg.IndexByteString", "internal/bytealg.IndexString", "internal/abi.NoEscape", "internal/bytealg.MakeNoZero"], unfollowed := true, recurses := true, named := ["internal/bytealg.MaxLen", "unicode/utf8.first", "unicode/utf8.acceptRanges"], apart := false, laid := [("unicode/utf8.acceptRanges", laid_unicode_utf8_acceptRanges), ("unicode/utf8.first", laid_unicode_utf8_first)], narrowed := true }
def DevflowPatienceUptoSaid : Prop := devflowPatienceUptoRow.holds Tryd.pinned (OpenSpec.upto devflowPatienceSpec)

/-- 'identitylaw42.DevflowNil', WHERE WHAT IT READS IS OF BULK AT MOST 1048576: true; the input reads as it did. -/
def devflowNilUptoRow : OpenClaim := { program := "ytapooonlbjgbgaadoor", sum := "e15c5e1817bba186a0e7fdb34054a46ca9c4e7e5be0057e1be972bfbf7daf0d9", func := "identity/identitylaw42.DevflowNil", spec := "devflowNil", inPlace := ["internal/bytealg.CountString", "internal/bytealg.IndexByteString", "internal/bytealg.IndexString", "internal/abi.NoEscape", "internal/bytealg.MakeNoZero"], unfollowed := true, recurses := true, named := ["internal/bytealg.MaxLen", "unicode/utf8.first", "unicode/utf8.acceptRanges"], apart := false, laid := [("unicode/utf8.acceptRanges", laid_unicode_utf8_acceptRanges), ("unicode/utf8.first", laid_unicode_utf8_first)], narrowed := true }
def DevflowNilUptoSaid : Prop := devflowNilUptoRow.holds Tryd.pinned (OpenSpec.upto devflowNilSpec)

end Rows
end Go.Proofs.YtapooonlbjgbgaaDoor
