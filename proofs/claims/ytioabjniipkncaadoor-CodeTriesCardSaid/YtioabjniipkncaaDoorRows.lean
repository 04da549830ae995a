/-
  NARROWER THAN 'FOR EVERY INPUT', by the rows' own cells (each row's printed sentence says how): CodeOnce: laid · CodeFits: laid · CodeDrops: laid · CodeTries: laid · CodePurges: laid.
  DERIVED. THE GIVEN ROWS OF THIS SEAT. 5 by the template 'for every input the law returns true; each argument reads behind the call as it read before'; 0 by the template 'total and deterministic' (their statements: YtioabjniipkncaaDoorTotals.lean).
  GIVEN WITH THE SEED: the statements are not yours to turn. If you find one false, say at which input.
  Laid BY PROGRAM, IN A SANDBOX (cutbox-rows.mjs): the forced cells as the released guide's own fill.sh prints them over the translation 73c932d7813ceddb… (all of the seat's roots in one cut). By AI agents, Wed Nov 11 2026. No macro, syntax, notation, axiom, sorry.
-/
import Derived.Test.YtioabjniipkncaaDoorChecked
import GoSem.PinnedTables
import GoSem.Claim
import GoSem.ClaimJoined
import GoSem.ClaimMapViews
import Derived.JoinedTies
import Derived.KernelRfl
namespace Go.Proofs.YtioabjniipkncaaDoor
/- THE CELL 'sum', in the pinned program and in every row, IS THE sha256 OF THE DUMP (.gsa) THAT YtioabjniipkncaaDoorProg.lean LOADS. Nothing in Lean hashes anything: it is a label: what it is worth is what the hold of that sum in a sandbox is worth. -/
noncomputable def Tryd.pinned : Pinned := { name := "ytioabjniipkncaadoor", sum := "73c932d7813ceddb5a9fa0075c2536a7942d070ae8e07adf9370eee7988a4033", checked := Tryd.checked }
namespace Rows
def none {H : Type} : Left H := { results := [], args := [] }

/- WHAT THE LISTED PACKAGE-LEVEL VARIABLES READ AS WHEN THE CALL BEGINS. Each datum BY PROGRAM (the guide's laid-datum.mjs) off the statement by which the dump's own 'gosem.cut.vars' lays the variable. In a bare row this is a premise. The card (YtioabjniipkncaaDoorCards.lean) ties it to the program's text. -/
def laid_unicode_utf8_acceptRanges {H : Type} : DataW H := .agg [.agg [.lit (.int .u8 128), .lit (.int .u8 191)], .agg [.lit (.int .u8 160), .lit (.int .u8 191)], .agg [.lit (.int .u8 128), .lit (.int .u8 159)], .agg [.lit (.int .u8 144), .lit (.int .u8 191)], .agg [.lit (.int .u8 128), .lit (.int .u8 143)], .agg [.lit (.int .u8 0), .lit (.int .u8 0)], .agg [.lit (.int .u8 0), .lit (.int .u8 0)], .agg [.lit (.int .u8 0), .lit (.int .u8 0)], .agg [.lit (.int .u8 0), .lit (.int .u8 0)], .agg [.lit (.int .u8 0), .lit (.int .u8 0)], .agg [.lit (.int .u8 0), .lit (.int .u8 0)], .agg [.lit (.int .u8 0), .lit (.int .u8 0)], .agg [.lit (.int .u8 0), .lit (.int .u8 0)], .agg [.lit (.int .u8 0), .lit (.int .u8 0)], .agg [.lit (.int .u8 0), .lit (.int .u8 0)], .agg [.lit (.int .u8 0), .lit (.int .u8 0)]]
def laid_identity_digest_digits {H : Type} : DataW H := .agg [.lit (.int .u8 48), .lit (.int .u8 49), .lit (.int .u8 50), .lit (.int .u8 51), .lit (.int .u8 52), .lit (.int .u8 53), .lit (.int .u8 54), .lit (.int .u8 55), .lit (.int .u8 56), .lit (.int .u8 57), .lit (.int .u8 97), .lit (.int .u8 98), .lit (.int .u8 99), .lit (.int .u8 100), .lit (.int .u8 101), .lit (.int .u8 102)]
/-- One of Go's own tables, pinned by name: the form's constant. -/
def laid_unicode_utf8_first : DataW Unit := Go.Pinned.utf8First

/-- 'identitylaw40.CodeOnce': WHATEVER THE INPUT: true; the input reads as it did. -/
def codeOnceSpec : ChangeSpec := { name := "codeOnce", fn := fun _ => fun
  | [d1, d2, d3, d4, d5, d6] => { results := [.lit (.bool true)], args := [d1, d2, d3, d4, d5, d6] }
  | _ => none }
def codeOnceRow : OpenClaim := { program := "ytioabjniipkncaadoor", sum := "73c932d7813ceddb5a9fa0075c2536a7942d070ae8e07adf9370eee7988a4033", func := "identity/identitylaw40.CodeOnce", spec := "codeOnce", inPlace := ["internal/bytealg.IndexByteString", "internal/bytealg.IndexString", "internal/abi.NoEscape"], unfollowed := true, recurses := true, named := ["unicode/utf8.first", "unicode/utf8.acceptRanges", "internal/bytealg.MaxLen", "identity/digest.digits"], apart := false, laid := [("unicode/utf8.acceptRanges", laid_unicode_utf8_acceptRanges), ("identity/digest.digits", laid_identity_digest_digits), ("unicode/utf8.first", laid_unicode_utf8_first)] }
def CodeOnceSaid : Prop := codeOnceRow.holds Tryd.pinned (OpenSpec.ofChange codeOnceSpec)

/-- ITS FALSE NEIGHBOUR: 'it returns false'. Refute it at one input. -/
def codeOnceWrong : ChangeSpec := { name := "codeOnce", fn := fun _ => fun
  | [d1, d2, d3, d4, d5, d6] => { results := [.lit (.bool false)], args := [d1, d2, d3, d4, d5, d6] }
  | _ => none }
def CodeOnceWrongFalsely : Prop := codeOnceRow.holds Tryd.pinned (OpenSpec.ofChange codeOnceWrong)

/-- 'identitylaw40.CodeFits': WHATEVER THE INPUT: true; the input reads as it did. -/
def codeFitsSpec : ChangeSpec := { name := "codeFits", fn := fun _ => fun
  | [d1, d2, d3, d4, d5] => { results := [.lit (.bool true)], args := [d1, d2, d3, d4, d5] }
  | _ => none }
def codeFitsRow : OpenClaim := { program := "ytioabjniipkncaadoor", sum := "73c932d7813ceddb5a9fa0075c2536a7942d070ae8e07adf9370eee7988a4033", func := "identity/identitylaw40.CodeFits", spec := "codeFits", inPlace := ["internal/bytealg.IndexByteString", "internal/bytealg.IndexString", "internal/abi.NoEscape"], unfollowed := true, recurses := true, named := ["unicode/utf8.first", "unicode/utf8.acceptRanges", "internal/bytealg.MaxLen", "identity/digest.digits"], apart := false, laid := [("unicode/utf8.acceptRanges", laid_unicode_utf8_acceptRanges), ("identity/digest.digits", laid_identity_digest_digits), ("unicode/utf8.first", laid_unicode_utf8_first)] }
def CodeFitsSaid : Prop := codeFitsRow.holds Tryd.pinned (OpenSpec.ofChange codeFitsSpec)

/-- ITS FALSE NEIGHBOUR: 'it returns false'. Refute it at one input. -/
def codeFitsWrong : ChangeSpec := { name := "codeFits", fn := fun _ => fun
  | [d1, d2, d3, d4, d5] => { results := [.lit (.bool false)], args := [d1, d2, d3, d4, d5] }
  | _ => none }
def CodeFitsWrongFalsely : Prop := codeFitsRow.holds Tryd.pinned (OpenSpec.ofChange codeFitsWrong)

/-- 'identitylaw40.CodeDrops': WHATEVER THE INPUT: true; the input reads as it did. -/
def codeDropsSpec : ChangeSpec := { name := "codeDrops", fn := fun _ => fun
  | [d1, d2, d3, d4, d5] => { results := [.lit (.bool true)], args := [d1, d2, d3, d4, d5] }
  | _ => none }
def codeDropsRow : OpenClaim := { program := "ytioabjniipkncaadoor", sum := "73c932d7813ceddb5a9fa0075c2536a7942d070ae8e07adf9370eee7988a4033", func := "identity/identitylaw40.CodeDrops", spec := "codeDrops", inPlace := ["internal/bytealg.IndexByteString", "internal/bytealg.IndexString", "internal/abi.NoEscape"], unfollowed := true, recurses := true, named := ["unicode/utf8.first", "unicode/utf8.acceptRanges", "internal/bytealg.MaxLen", "identity/digest.digits"], apart := false, laid := [("unicode/utf8.acceptRanges", laid_unicode_utf8_acceptRanges), ("identity/digest.digits", laid_identity_digest_digits), ("unicode/utf8.first", laid_unicode_utf8_first)] }
def CodeDropsSaid : Prop := codeDropsRow.holds Tryd.pinned (OpenSpec.ofChange codeDropsSpec)

/-- ITS FALSE NEIGHBOUR: 'it returns false'. Refute it at one input. -/
def codeDropsWrong : ChangeSpec := { name := "codeDrops", fn := fun _ => fun
  | [d1, d2, d3, d4, d5] => { results := [.lit (.bool false)], args := [d1, d2, d3, d4, d5] }
  | _ => none }
def CodeDropsWrongFalsely : Prop := codeDropsRow.holds Tryd.pinned (OpenSpec.ofChange codeDropsWrong)

/-- 'identitylaw40.CodeTries': WHATEVER THE INPUT: true; the input reads as it did. -/
def codeTriesSpec : ChangeSpec := { name := "codeTries", fn := fun _ => fun
  | [d1, d2, d3, d4, d5] => { results := [.lit (.bool true)], args := [d1, d2, d3, d4, d5] }
  | _ => none }
def codeTriesRow : OpenClaim := { program := "ytioabjniipkncaadoor", sum := "73c932d7813ceddb5a9fa0075c2536a7942d070ae8e07adf9370eee7988a4033", func := "identity/identitylaw40.CodeTries", spec := "codeTries", inPlace := ["internal/bytealg.IndexByteString", "internal/bytealg.IndexString", "internal/abi.NoEscape"], unfollowed := true, recurses := true, named := ["unicode/utf8.first", "unicode/utf8.acceptRanges", "internal/bytealg.MaxLen", "identity/digest.digits"], apart := false, laid := [("unicode/utf8.acceptRanges", laid_unicode_utf8_acceptRanges), ("identity/digest.digits", laid_identity_digest_digits), ("unicode/utf8.first", laid_unicode_utf8_first)] }
def CodeTriesSaid : Prop := codeTriesRow.holds Tryd.pinned (OpenSpec.ofChange codeTriesSpec)

/-- ITS FALSE NEIGHBOUR: 'it returns false'. Refute it at one input. -/
def codeTriesWrong : ChangeSpec := { name := "codeTries", fn := fun _ => fun
  | [d1, d2, d3, d4, d5] => { results := [.lit (.bool false)], args := [d1, d2, d3, d4, d5] }
  | _ => none }
def CodeTriesWrongFalsely : Prop := codeTriesRow.holds Tryd.pinned (OpenSpec.ofChange codeTriesWrong)

/-- 'identitylaw40.CodePurges': WHATEVER THE INPUT: true; the input reads as it did. -/
def codePurgesSpec : ChangeSpec := { name := "codePurges", fn := fun _ => fun
  | [d1, d2, d3, d4, d5, d6] => { results := [.lit (.bool true)], args := [d1, d2, d3, d4, d5, d6] }
  | _ => none }
def codePurgesRow : OpenClaim := { program := "ytioabjniipkncaadoor", sum := "73c932d7813ceddb5a9fa0075c2536a7942d070ae8e07adf9370eee7988a4033", func := "identity/identitylaw40.CodePurges", spec := "codePurges", inPlace := ["internal/bytealg.IndexByteString", "internal/bytealg.IndexString", "internal/abi.NoEscape"], unfollowed := true, recurses := true, named := ["unicode/utf8.first", "unicode/utf8.acceptRanges", "internal/bytealg.MaxLen", "identity/digest.digits"], apart := false, laid := [("unicode/utf8.acceptRanges", laid_unicode_utf8_acceptRanges), ("identity/digest.digits", laid_identity_digest_digits), ("unicode/utf8.first", laid_unicode_utf8_first)] }
def CodePurgesSaid : Prop := codePurgesRow.holds Tryd.pinned (OpenSpec.ofChange codePurgesSpec)

/-- ITS FALSE NEIGHBOUR: 'it returns false'. Refute it at one input. -/
def codePurgesWrong : ChangeSpec := { name := "codePurges", fn := fun _ => fun
  | [d1, d2, d3, d4, d5, d6] => { results := [.lit (.bool false)], args := [d1, d2, d3, d4, d5, d6] }
  | _ => none }
def CodePurgesWrongFalsely : Prop := codePurgesRow.holds Tryd.pinned (OpenSpec.ofChange codePurgesWrong)

/- THE SECOND FORM. 'bulk': how many values and letters a reading holds, each counted each time it is reached (what is shared counts as often as it is met; a slice's spare places count too). A statement '..UptoSaid' is the law's where the arguments, and the package variables that the reading takes, are together of bulk at most 1048576: NARROWER than '..Said'. Prove '..Said' where nothing that the law and all that it calls make is longer than what came in: it says more and counts as full. Else prove '..UptoSaid'. A law counts once. -/
mutual
def uptoBulk {H : Type} : DataW H → Nat
  | .lit (.string bytes) => bytes.length + 1
  | .lit _ => 1
  | .nil => 1
  | .ptr d => uptoBulk d + 1
  | .slice elems spare => uptoBulkAll elems + uptoBulkAll spare + 1
  | .agg parts => uptoBulkAll parts + 1
  | .iface _ d => uptoBulk d + 1
  | .map entries => uptoBulkEntries entries + 1
  | .held _ => 1
def uptoBulkAll {H : Type} : List (DataW H) → Nat
  | [] => 0
  | d :: r => uptoBulk d + uptoBulkAll r
def uptoBulkEntries {H : Type} : List (Lit × DataW H) → Nat
  | [] => 0
  | x :: r => uptoBulkEntry x + uptoBulkEntries r
def uptoBulkEntry {H : Type} : Lit × DataW H → Nat
  | (.string bytes, d) => bytes.length + uptoBulk d + 1
  | (_, d) => uptoBulk d + 1
 end
def uptoSmall : (H : Type) → List (DataW H) → Bool := fun _ ds => decide (uptoBulkAll ds ≤ 1048576)
def OpenSpec.upto (s : _root_.Go.ChangeSpec) : _root_.Go.OpenSpec := { _root_.Go.OpenSpec.ofChange s with cond := some uptoSmall }

/-- 'identitylaw40.CodeOnce', WHERE WHAT IT READS IS OF BULK AT MOST 1048576: true; the input reads as it did. -/
def codeOnceUptoRow : OpenClaim := { program := "ytioabjniipkncaadoor", sum := "73c932d7813ceddb5a9fa0075c2536a7942d070ae8e07adf9370eee7988a4033", func := "identity/identitylaw40.CodeOnce", spec := "codeOnce", inPlace := ["internal/bytealg.IndexByteString", "internal/bytealg.IndexString", "internal/abi.NoEscape"], unfollowed := true, recurses := true, named := ["unicode/utf8.first", "unicode/utf8.acceptRanges", "internal/bytealg.MaxLen", "identity/digest.digits"], apart := false, laid := [("unicode/utf8.acceptRanges", laid_unicode_utf8_acceptRanges), ("identity/digest.digits", laid_identity_digest_digits), ("unicode/utf8.first", laid_unicode_utf8_first)], narrowed := true }
def CodeOnceUptoSaid : Prop := codeOnceUptoRow.holds Tryd.pinned (OpenSpec.upto codeOnceSpec)

/-- 'identitylaw40.CodeFits', WHERE WHAT IT READS IS OF BULK AT MOST 1048576: true; the input reads as it did. -/
def codeFitsUptoRow : OpenClaim := { program := "ytioabjniipkncaadoor", sum := "73c932d7813ceddb5a9fa0075c2536a7942d070ae8e07adf9370eee7988a4033", func := "identity/identitylaw40.CodeFits", spec := "codeFits", inPlace := ["internal/bytealg.IndexByteString", "internal/bytealg.IndexString", "internal/abi.NoEscape"], unfollowed := true, recurses := true, named := ["unicode/utf8.first", "unicode/utf8.acceptRanges", "internal/bytealg.MaxLen", "identity/digest.digits"], apart := false, laid := [("unicode/utf8.acceptRanges", laid_unicode_utf8_acceptRanges), ("identity/digest.digits", laid_identity_digest_digits), ("unicode/utf8.first", laid_unicode_utf8_first)], narrowed := true }
def CodeFitsUptoSaid : Prop := codeFitsUptoRow.holds Tryd.pinned (OpenSpec.upto codeFitsSpec)

/-- 'identitylaw40.CodeDrops', WHERE WHAT IT READS IS OF BULK AT MOST 1048576: true; the input reads as it did. -/
def codeDropsUptoRow : OpenClaim := { program := "ytioabjniipkncaadoor", sum := "73c932d7813ceddb5a9fa0075c2536a7942d070ae8e07adf9370eee7988a4033", func := "identity/identitylaw40.CodeDrops", spec := "codeDrops", inPlace := ["internal/bytealg.IndexByteString", "internal/bytealg.IndexString", "internal/abi.NoEscape"], unfollowed := true, recurses := true, named := ["unicode/utf8.first", "unicode/utf8.acceptRanges", "internal/bytealg.MaxLen", "identity/digest.digits"], apart := false, laid := [("unicode/utf8.acceptRanges", laid_unicode_utf8_acceptRanges), ("identity/digest.digits", laid_identity_digest_digits), ("unicode/utf8.first", laid_unicode_utf8_first)], narrowed := true }
def CodeDropsUptoSaid : Prop := codeDropsUptoRow.holds Tryd.pinned (OpenSpec.upto codeDropsSpec)

/-- 'identitylaw40.CodeTries', WHERE WHAT IT READS IS OF BULK AT MOST 1048576: true; the input reads as it did. -/
def codeTriesUptoRow : OpenClaim := { program := "ytioabjniipkncaadoor", sum := "73c932d7813ceddb5a9fa0075c2536a7942d070ae8e07adf9370eee7988a4033", func := "identity/identitylaw40.CodeTries", spec := "codeTries", inPlace := ["internal/bytealg.IndexByteString", "internal/bytealg.IndexString", "internal/abi.NoEscape"], unfollowed := true, recurses := true, named := ["unicode/utf8.first", "unicode/utf8.acceptRanges", "internal/bytealg.MaxLen", "identity/digest.digits"], apart := false, laid := [("unicode/utf8.acceptRanges", laid_unicode_utf8_acceptRanges), ("identity/digest.digits", laid_identity_digest_digits), ("unicode/utf8.first", laid_unicode_utf8_first)], narrowed := true }
def CodeTriesUptoSaid : Prop := codeTriesUptoRow.holds Tryd.pinned (OpenSpec.upto codeTriesSpec)

/-- 'identitylaw40.CodePurges', WHERE WHAT IT READS IS OF BULK AT MOST 1048576: true; the input reads as it did. -/
def codePurgesUptoRow : OpenClaim := { program := "ytioabjniipkncaadoor", sum := "73c932d7813ceddb5a9fa0075c2536a7942d070ae8e07adf9370eee7988a4033", func := "identity/identitylaw40.CodePurges", spec := "codePurges", inPlace := ["internal/bytealg.IndexByteString", "internal/bytealg.IndexString", "internal/abi.NoEscape"], unfollowed := true, recurses := true, named := ["unicode/utf8.first", "unicode/utf8.acceptRanges", "internal/bytealg.MaxLen", "identity/digest.digits"], apart := false, laid := [("unicode/utf8.acceptRanges", laid_unicode_utf8_acceptRanges), ("identity/digest.digits", laid_identity_digest_digits), ("unicode/utf8.first", laid_unicode_utf8_first)], narrowed := true }
def CodePurgesUptoSaid : Prop := codePurgesUptoRow.holds Tryd.pinned (OpenSpec.upto codePurgesSpec)

end Rows
end Go.Proofs.YtioabjniipkncaaDoor
