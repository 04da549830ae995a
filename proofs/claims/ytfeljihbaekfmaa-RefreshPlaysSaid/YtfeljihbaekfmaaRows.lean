/-
  No cell of these rows narrows 'for every input' (looked for: loops, veiled, ifaces, maps, wideKeys, modest, calm, conditions, laid).
  DERIVED. THE GIVEN ROWS OF THIS SEAT. 6 by the template 'for every input the law returns true; each argument reads behind the call as it read before'; 0 by the template 'total and deterministic' (their statements: YtfeljihbaekfmaaTotals.lean).
  GIVEN WITH THE SEED: the statements are not yours to turn. If you find one false, say at which input.
  Laid BY PROGRAM, IN A SANDBOX (cutbox-rows.mjs): the forced cells as the released guide's own fill.sh prints them over the translation 1ad940f682acfeda… (all of the seat's roots in one cut). By AI agents, Wed Nov 11 2026. No macro, syntax, notation, axiom, sorry.
-/
import Derived.Test.YtfeljihbaekfmaaChecked
import GoSem.Claim
import GoSem.ClaimJoined
import GoSem.ClaimMapViews
import Derived.JoinedTies
import Derived.KernelRfl
namespace Go.Proofs.Ytfeljihbaekfmaa
/- THE CELL 'sum', in the pinned program and in every row, IS THE sha256 OF THE DUMP (.gsa) THAT YtfeljihbaekfmaaProg.lean LOADS. Nothing in Lean hashes anything: it is a label: what it is worth is what the hold of that sum in a sandbox is worth. -/
noncomputable def Try.pinned : Pinned := { name := "ytfeljihbaekfmaa", sum := "1ad940f682acfedaa60bef674ba10b768e724d5cc5046871a879e7dfde465580", checked := Try.checked }
namespace Rows
def none {H : Type} : Left H := { results := [], args := [] }

/-- 'identitylaw41.RefreshPlays': WHATEVER THE INPUT: true; the input reads as it did. -/
def refreshPlaysSpec : ChangeSpec := { name := "refreshPlays", fn := fun _ => fun
  | [d1, d2, d3, d4] => { results := [.lit (.bool true)], args := [d1, d2, d3, d4] }
  | _ => none }
def refreshPlaysRow : OpenClaim := { program := "ytfeljihbaekfmaa", sum := "1ad940f682acfedaa60bef674ba10b768e724d5cc5046871a879e7dfde465580", func := "identity/identitylaw41.RefreshPlays", spec := "refreshPlays", inPlace := ["internal/bytealg.IndexByteString", "internal/bytealg.IndexString"], unfollowed := true, recurses := true, named := ["internal/bytealg.MaxLen"], apart := false }
def RefreshPlaysSaid : Prop := refreshPlaysRow.holds Try.pinned (OpenSpec.ofChange refreshPlaysSpec)

/-- ITS FALSE NEIGHBOUR: 'it returns false'. Refute it at one input. -/
def refreshPlaysWrong : ChangeSpec := { name := "refreshPlays", fn := fun _ => fun
  | [d1, d2, d3, d4] => { results := [.lit (.bool false)], args := [d1, d2, d3, d4] }
  | _ => none }
def RefreshPlaysWrongFalsely : Prop := refreshPlaysRow.holds Try.pinned (OpenSpec.ofChange refreshPlaysWrong)

/-- 'identitylaw41.RefreshLimits': WHATEVER THE INPUT: true; the input reads as it did. -/
def refreshLimitsSpec : ChangeSpec := { name := "refreshLimits", fn := fun _ => fun
  | [d1, d2] => { results := [.lit (.bool true)], args := [d1, d2] }
  | _ => none }
def refreshLimitsRow : OpenClaim := { program := "ytfeljihbaekfmaa", sum := "1ad940f682acfedaa60bef674ba10b768e724d5cc5046871a879e7dfde465580", func := "identity/identitylaw41.RefreshLimits", spec := "refreshLimits", inPlace := ["internal/bytealg.IndexByteString", "internal/bytealg.IndexString"], unfollowed := true, recurses := true, named := ["internal/bytealg.MaxLen"], apart := false }
def RefreshLimitsSaid : Prop := refreshLimitsRow.holds Try.pinned (OpenSpec.ofChange refreshLimitsSpec)

/-- ITS FALSE NEIGHBOUR: 'it returns false'. Refute it at one input. -/
def refreshLimitsWrong : ChangeSpec := { name := "refreshLimits", fn := fun _ => fun
  | [d1, d2] => { results := [.lit (.bool false)], args := [d1, d2] }
  | _ => none }
def RefreshLimitsWrongFalsely : Prop := refreshLimitsRow.holds Try.pinned (OpenSpec.ofChange refreshLimitsWrong)

/-- 'identitylaw41.RefreshOnce': WHATEVER THE INPUT: true; the input reads as it did. -/
def refreshOnceSpec : ChangeSpec := { name := "refreshOnce", fn := fun _ => fun
  | [d1, d2, d3, d4, d5] => { results := [.lit (.bool true)], args := [d1, d2, d3, d4, d5] }
  | _ => none }
def refreshOnceRow : OpenClaim := { program := "ytfeljihbaekfmaa", sum := "1ad940f682acfedaa60bef674ba10b768e724d5cc5046871a879e7dfde465580", func := "identity/identitylaw41.RefreshOnce", spec := "refreshOnce", inPlace := ["internal/bytealg.IndexByteString", "internal/bytealg.IndexString"], unfollowed := true, recurses := true, named := ["internal/bytealg.MaxLen"], apart := false }
def RefreshOnceSaid : Prop := refreshOnceRow.holds Try.pinned (OpenSpec.ofChange refreshOnceSpec)

/-- ITS FALSE NEIGHBOUR: 'it returns false'. Refute it at one input. -/
def refreshOnceWrong : ChangeSpec := { name := "refreshOnce", fn := fun _ => fun
  | [d1, d2, d3, d4, d5] => { results := [.lit (.bool false)], args := [d1, d2, d3, d4, d5] }
  | _ => none }
def RefreshOnceWrongFalsely : Prop := refreshOnceRow.holds Try.pinned (OpenSpec.ofChange refreshOnceWrong)

/-- 'identitylaw41.RefreshEnded': WHATEVER THE INPUT: true; the input reads as it did. -/
def refreshEndedSpec : ChangeSpec := { name := "refreshEnded", fn := fun _ => fun
  | [d1, d2, d3, d4, d5] => { results := [.lit (.bool true)], args := [d1, d2, d3, d4, d5] }
  | _ => none }
def refreshEndedRow : OpenClaim := { program := "ytfeljihbaekfmaa", sum := "1ad940f682acfedaa60bef674ba10b768e724d5cc5046871a879e7dfde465580", func := "identity/identitylaw41.RefreshEnded", spec := "refreshEnded", inPlace := ["internal/bytealg.IndexByteString", "internal/bytealg.IndexString"], unfollowed := true, recurses := true, named := ["internal/bytealg.MaxLen"], apart := false }
def RefreshEndedSaid : Prop := refreshEndedRow.holds Try.pinned (OpenSpec.ofChange refreshEndedSpec)

/-- ITS FALSE NEIGHBOUR: 'it returns false'. Refute it at one input. -/
def refreshEndedWrong : ChangeSpec := { name := "refreshEnded", fn := fun _ => fun
  | [d1, d2, d3, d4, d5] => { results := [.lit (.bool false)], args := [d1, d2, d3, d4, d5] }
  | _ => none }
def RefreshEndedWrongFalsely : Prop := refreshEndedRow.holds Try.pinned (OpenSpec.ofChange refreshEndedWrong)

/-- 'identitylaw41.RefreshNarrow': WHATEVER THE INPUT: true; the input reads as it did. -/
def refreshNarrowSpec : ChangeSpec := { name := "refreshNarrow", fn := fun _ => fun
  | [d1, d2, d3] => { results := [.lit (.bool true)], args := [d1, d2, d3] }
  | _ => none }
def refreshNarrowRow : OpenClaim := { program := "ytfeljihbaekfmaa", sum := "1ad940f682acfedaa60bef674ba10b768e724d5cc5046871a879e7dfde465580", func := "identity/identitylaw41.RefreshNarrow", spec := "refreshNarrow", inPlace := ["internal/bytealg.IndexByteString", "internal/bytealg.IndexString"], unfollowed := true, recurses := true, named := ["internal/bytealg.MaxLen"], apart := false }
def RefreshNarrowSaid : Prop := refreshNarrowRow.holds Try.pinned (OpenSpec.ofChange refreshNarrowSpec)

/-- ITS FALSE NEIGHBOUR: 'it returns false'. Refute it at one input. -/
def refreshNarrowWrong : ChangeSpec := { name := "refreshNarrow", fn := fun _ => fun
  | [d1, d2, d3] => { results := [.lit (.bool false)], args := [d1, d2, d3] }
  | _ => none }
def RefreshNarrowWrongFalsely : Prop := refreshNarrowRow.holds Try.pinned (OpenSpec.ofChange refreshNarrowWrong)

/-- 'identitylaw41.RefreshBounded': WHATEVER THE INPUT: true; the input reads as it did. -/
def refreshBoundedSpec : ChangeSpec := { name := "refreshBounded", fn := fun _ => fun
  | [d1, d2, d3] => { results := [.lit (.bool true)], args := [d1, d2, d3] }
  | _ => none }
def refreshBoundedRow : OpenClaim := { program := "ytfeljihbaekfmaa", sum := "1ad940f682acfedaa60bef674ba10b768e724d5cc5046871a879e7dfde465580", func := "identity/identitylaw41.RefreshBounded", spec := "refreshBounded", inPlace := ["internal/bytealg.IndexByteString", "internal/bytealg.IndexString"], unfollowed := true, recurses := true, named := ["internal/bytealg.MaxLen"], apart := false }
def RefreshBoundedSaid : Prop := refreshBoundedRow.holds Try.pinned (OpenSpec.ofChange refreshBoundedSpec)

/-- ITS FALSE NEIGHBOUR: 'it returns false'. Refute it at one input. -/
def refreshBoundedWrong : ChangeSpec := { name := "refreshBounded", fn := fun _ => fun
  | [d1, d2, d3] => { results := [.lit (.bool false)], args := [d1, d2, d3] }
  | _ => none }
def RefreshBoundedWrongFalsely : Prop := refreshBoundedRow.holds Try.pinned (OpenSpec.ofChange refreshBoundedWrong)

/- THE SECOND FORM. 'bulk': how many values and letters a reading holds, each counted each time it is reached (what is shared counts as often as it is met; a slice's spare places count too). A statement '..UptoSaid' is the law's where the arguments, and the package variables that the reading takes, are together of bulk at most 1048576: NARROWER than '..Said'. Prove '..Said' where nothing that the law and all that it calls make is longer than what came in: it says more and counts as full. Else prove '..UptoSaid'. A law counts once. -/
mutual
def uptoBulk {H : Type} : DataW H → Nat
  | .lit (.string bytes) => bytes.length + 1
  | .lit _ => 1
  | .nil => 1
  | .ptr d => uptoBulk d + 1
  | .slice elems spare => uptoBulkAll elems + uptoBulkAll spare + 1
  | .agg parts => uptoBulkAll parts + 1
  | .iface _ d => uptoBulk d + 1
  | .map entries => uptoBulkEntries entries + 1
  | .held _ => 1
def uptoBulkAll {H : Type} : List (DataW H) → Nat
  | [] => 0
  | d :: r => uptoBulk d + uptoBulkAll r
def uptoBulkEntries {H : Type} : List (Lit × DataW H) → Nat
  | [] => 0
  | x :: r => uptoBulkEntry x + uptoBulkEntries r
def uptoBulkEntry {H : Type} : Lit × DataW H → Nat
  | (.string bytes, d) => bytes.length + uptoBulk d + 1
  | (_, d) => uptoBulk d + 1
 end
def uptoSmall : (H : Type) → List (DataW H) → Bool := fun _ ds => decide (uptoBulkAll ds ≤ 1048576)
def OpenSpec.upto (s : _root_.Go.ChangeSpec) : _root_.Go.OpenSpec := { _root_.Go.OpenSpec.ofChange s with cond := some uptoSmall }

/-- 'identitylaw41.RefreshPlays', WHERE WHAT IT READS IS OF BULK AT MOST 1048576: true; the input reads as it did. -/
def refreshPlaysUptoRow : OpenClaim := { program := "ytfeljihbaekfmaa", sum := "1ad940f682acfedaa60bef674ba10b768e724d5cc5046871a879e7dfde465580", func := "identity/identitylaw41.RefreshPlays", spec := "refreshPlays", inPlace := ["internal/bytealg.IndexByteString", "internal/bytealg.IndexString"], unfollowed := true, recurses := true, named := ["internal/bytealg.MaxLen"], apart := false, narrowed := true }
def RefreshPlaysUptoSaid : Prop := refreshPlaysUptoRow.holds Try.pinned (OpenSpec.upto refreshPlaysSpec)

/-- 'identitylaw41.RefreshLimits', WHERE WHAT IT READS IS OF BULK AT MOST 1048576: true; the input reads as it did. -/
def refreshLimitsUptoRow : OpenClaim := { program := "ytfeljihbaekfmaa", sum := "1ad940f682acfedaa60bef674ba10b768e724d5cc5046871a879e7dfde465580", func := "identity/identitylaw41.RefreshLimits", spec := "refreshLimits", inPlace := ["internal/bytealg.IndexByteString", "internal/bytealg.IndexString"], unfollowed := true, recurses := true, named := ["internal/bytealg.MaxLen"], apart := false, narrowed := true }
def RefreshLimitsUptoSaid : Prop := refreshLimitsUptoRow.holds Try.pinned (OpenSpec.upto refreshLimitsSpec)

/-- 'identitylaw41.RefreshOnce', WHERE WHAT IT READS IS OF BULK AT MOST 1048576: true; the input reads as it did. -/
def refreshOnceUptoRow : OpenClaim := { program := "ytfeljihbaekfmaa", sum := "1ad940f682acfedaa60bef674ba10b768e724d5cc5046871a879e7dfde465580", func := "identity/identitylaw41.RefreshOnce", spec := "refreshOnce", inPlace := ["internal/bytealg.IndexByteString", "internal/bytealg.IndexString"], unfollowed := true, recurses := true, named := ["internal/bytealg.MaxLen"], apart := false, narrowed := true }
def RefreshOnceUptoSaid : Prop := refreshOnceUptoRow.holds Try.pinned (OpenSpec.upto refreshOnceSpec)

/-- 'identitylaw41.RefreshEnded', WHERE WHAT IT READS IS OF BULK AT MOST 1048576: true; the input reads as it did. -/
def refreshEndedUptoRow : OpenClaim := { program := "ytfeljihbaekfmaa", sum := "1ad940f682acfedaa60bef674ba10b768e724d5cc5046871a879e7dfde465580", func := "identity/identitylaw41.RefreshEnded", spec := "refreshEnded", inPlace := ["internal/bytealg.IndexByteString", "internal/bytealg.IndexString"], unfollowed := true, recurses := true, named := ["internal/bytealg.MaxLen"], apart := false, narrowed := true }
def RefreshEndedUptoSaid : Prop := refreshEndedUptoRow.holds Try.pinned (OpenSpec.upto refreshEndedSpec)

/-- 'identitylaw41.RefreshNarrow', WHERE WHAT IT READS IS OF BULK AT MOST 1048576: true; the input reads as it did. -/
def refreshNarrowUptoRow : OpenClaim := { program := "ytfeljihbaekfmaa", sum := "1ad940f682acfedaa60bef674ba10b768e724d5cc5046871a879e7dfde465580", func := "identity/identitylaw41.RefreshNarrow", spec := "refreshNarrow", inPlace := ["internal/bytealg.IndexByteString", "internal/bytealg.IndexString"], unfollowed := true, recurses := true, named := ["internal/bytealg.MaxLen"], apart := false, narrowed := true }
def RefreshNarrowUptoSaid : Prop := refreshNarrowUptoRow.holds Try.pinned (OpenSpec.upto refreshNarrowSpec)

/-- 'identitylaw41.RefreshBounded', WHERE WHAT IT READS IS OF BULK AT MOST 1048576: true; the input reads as it did. -/
def refreshBoundedUptoRow : OpenClaim := { program := "ytfeljihbaekfmaa", sum := "1ad940f682acfedaa60bef674ba10b768e724d5cc5046871a879e7dfde465580", func := "identity/identitylaw41.RefreshBounded", spec := "refreshBounded", inPlace := ["internal/bytealg.IndexByteString", "internal/bytealg.IndexString"], unfollowed := true, recurses := true, named := ["internal/bytealg.MaxLen"], apart := false, narrowed := true }
def RefreshBoundedUptoSaid : Prop := refreshBoundedUptoRow.holds Try.pinned (OpenSpec.upto refreshBoundedSpec)

end Rows
end Go.Proofs.Ytfeljihbaekfmaa
