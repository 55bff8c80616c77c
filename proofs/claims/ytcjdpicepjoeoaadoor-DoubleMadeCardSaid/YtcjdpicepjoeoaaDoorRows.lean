/-
  NARROWER THAN 'FOR EVERY INPUT', by the rows' own cells (each row's printed sentence says how): DoubleRuns: laid · DoubleBack: laid · DoubleSquares: laid · DoubleMade: laid.
  DERIVED. THE GIVEN ROWS OF THIS SEAT. 4 by the template 'for every input the law returns true; each argument reads behind the call as it read before'; 0 by the template 'total and deterministic' (their statements: YtcjdpicepjoeoaaDoorTotals.lean).
  GIVEN WITH THE SEED: the statements are not yours to turn. If you find one false, say at which input.
  Laid BY PROGRAM, IN A SANDBOX (cutbox-rows.mjs): the forced cells as the released guide's own fill.sh prints them over the translation a7eae5178887ee66… (all of the seat's roots in one cut). By AI agents, Wed Nov 11 2026. No macro, syntax, notation, axiom, sorry.
-/
import Derived.Test.YtcjdpicepjoeoaaDoorChecked
import GoSem.PinnedTables
import GoSem.Claim
import GoSem.ClaimJoined
import GoSem.ClaimMapViews
import Derived.JoinedTies
import Derived.KernelRfl
namespace Go.Proofs.YtcjdpicepjoeoaaDoor
/- THE CELL 'sum', in the pinned program and in every row, IS THE sha256 OF THE DUMP (.gsa) THAT YtcjdpicepjoeoaaDoorProg.lean LOADS. Nothing in Lean hashes anything: it is a label: what it is worth is what the hold of that sum in a sandbox is worth. -/
noncomputable def Tryd.pinned : Pinned := { name := "ytcjdpicepjoeoaadoor", sum := "a7eae5178887ee6668d8522b5a0d38e4c9a98d2991f70c03e06fdda63e45a50d", checked := Tryd.checked }
namespace Rows
def none {H : Type} : Left H := { results := [], args := [] }

/- WHAT THE LISTED PACKAGE-LEVEL VARIABLES READ AS WHEN THE CALL BEGINS. Each datum BY PROGRAM (the guide's laid-datum.mjs) off the statement by which the dump's own 'gosem.cut.vars' lays the variable. In a bare row this is a premise. The card (YtcjdpicepjoeoaaDoorCards.lean) ties it to the program's text. -/
def laid_unicode_utf8_acceptRanges {H : Type} : DataW H := .agg [.agg [.lit (.int .u8 128), .lit (.int .u8 191)], .agg [.lit (.int .u8 160), .lit (.int .u8 191)], .agg [.lit (.int .u8 128), .lit (.int .u8 159)], .agg [.lit (.int .u8 144), .lit (.int .u8 191)], .agg [.lit (.int .u8 128), .lit (.int .u8 143)], .agg [.lit (.int .u8 0), .lit (.int .u8 0)], .agg [.lit (.int .u8 0), .lit (.int .u8 0)], .agg [.lit (.int .u8 0), .lit (.int .u8 0)], .agg [.lit (.int .u8 0), .lit (.int .u8 0)], .agg [.lit (.int .u8 0), .lit (.int .u8 0)], .agg [.lit (.int .u8 0), .lit (.int .u8 0)], .agg [.lit (.int .u8 0), .lit (.int .u8 0)], .agg [.lit (.int .u8 0), .lit (.int .u8 0)], .agg [.lit (.int .u8 0), .lit (.int .u8 0)], .agg [.lit (.int .u8 0), .lit (.int .u8 0)], .agg [.lit (.int .u8 0), .lit (.int .u8 0)]]
/-- One of Go's own tables, pinned by name: the form's constant. -/
def laid_unicode_utf8_first : DataW Unit := Go.Pinned.utf8First

/-- 'cognatelaw15.DoubleRuns': WHATEVER THE INPUT: true; the input reads as it did. -/
def doubleRunsSpec : ChangeSpec := { name := "doubleRuns", fn := fun _ => fun
  | [d1, d2] => { results := [.lit (.bool true)], args := [d1, d2] }
  | _ => none }
def doubleRunsRow : OpenClaim := { program := "ytcjdpicepjoeoaadoor", sum := "a7eae5178887ee6668d8522b5a0d38e4c9a98d2991f70c03e06fdda63e45a50d", func := "cognate/cognatelaw15.DoubleRuns", spec := "doubleRuns", inPlace := ["internal/bytealg.IndexByteString", "internal/bytealg.IndexString"], unfollowed := true, recurses := true, named := ["unicode/utf8.first", "unicode/utf8.acceptRanges", "internal/bytealg.MaxLen"], apart := false, laid := [("unicode/utf8.acceptRanges", laid_unicode_utf8_acceptRanges), ("unicode/utf8.first", laid_unicode_utf8_first)] }
def DoubleRunsSaid : Prop := doubleRunsRow.holds Tryd.pinned (OpenSpec.ofChange doubleRunsSpec)

/-- ITS FALSE NEIGHBOUR: 'it returns false'. Refute it at one input. -/
def doubleRunsWrong : ChangeSpec := { name := "doubleRuns", fn := fun _ => fun
  | [d1, d2] => { results := [.lit (.bool false)], args := [d1, d2] }
  | _ => none }
def DoubleRunsWrongFalsely : Prop := doubleRunsRow.holds Tryd.pinned (OpenSpec.ofChange doubleRunsWrong)

/-- 'cognatelaw15.DoubleBack': WHATEVER THE INPUT: true; the input reads as it did. -/
def doubleBackSpec : ChangeSpec := { name := "doubleBack", fn := fun _ => fun
  | [d1, d2, d3] => { results := [.lit (.bool true)], args := [d1, d2, d3] }
  | _ => none }
def doubleBackRow : OpenClaim := { program := "ytcjdpicepjoeoaadoor", sum := "a7eae5178887ee6668d8522b5a0d38e4c9a98d2991f70c03e06fdda63e45a50d", func := "cognate/cognatelaw15.DoubleBack", spec := "doubleBack", inPlace := ["internal/bytealg.IndexByteString", "internal/bytealg.IndexString"], unfollowed := true, recurses := true, named := ["unicode/utf8.first", "unicode/utf8.acceptRanges", "internal/bytealg.MaxLen"], apart := false, laid := [("unicode/utf8.acceptRanges", laid_unicode_utf8_acceptRanges), ("unicode/utf8.first", laid_unicode_utf8_first)] }
def DoubleBackSaid : Prop := doubleBackRow.holds Tryd.pinned (OpenSpec.ofChange doubleBackSpec)

/-- ITS FALSE NEIGHBOUR: 'it returns false'. Refute it at one input. -/
def doubleBackWrong : ChangeSpec := { name := "doubleBack", fn := fun _ => fun
  | [d1, d2, d3] => { results := [.lit (.bool false)], args := [d1, d2, d3] }
  | _ => none }
def DoubleBackWrongFalsely : Prop := doubleBackRow.holds Tryd.pinned (OpenSpec.ofChange doubleBackWrong)

/-- 'cognatelaw15.DoubleSquares': WHATEVER THE INPUT: true; the input reads as it did. -/
def doubleSquaresSpec : ChangeSpec := { name := "doubleSquares", fn := fun _ => fun
  | [d1, d2] => { results := [.lit (.bool true)], args := [d1, d2] }
  | _ => none }
def doubleSquaresRow : OpenClaim := { program := "ytcjdpicepjoeoaadoor", sum := "a7eae5178887ee6668d8522b5a0d38e4c9a98d2991f70c03e06fdda63e45a50d", func := "cognate/cognatelaw15.DoubleSquares", spec := "doubleSquares", inPlace := ["internal/bytealg.IndexByteString", "internal/bytealg.IndexString"], unfollowed := true, recurses := true, named := ["unicode/utf8.first", "unicode/utf8.acceptRanges", "internal/bytealg.MaxLen"], apart := false, laid := [("unicode/utf8.acceptRanges", laid_unicode_utf8_acceptRanges), ("unicode/utf8.first", laid_unicode_utf8_first)] }
def DoubleSquaresSaid : Prop := doubleSquaresRow.holds Tryd.pinned (OpenSpec.ofChange doubleSquaresSpec)

/-- ITS FALSE NEIGHBOUR: 'it returns false'. Refute it at one input. -/
def doubleSquaresWrong : ChangeSpec := { name := "doubleSquares", fn := fun _ => fun
  | [d1, d2] => { results := [.lit (.bool false)], args := [d1, d2] }
  | _ => none }
def DoubleSquaresWrongFalsely : Prop := doubleSquaresRow.holds Tryd.pinned (OpenSpec.ofChange doubleSquaresWrong)

/-- 'cognatelaw15.DoubleMade': WHATEVER THE INPUT: true; the input reads as it did. -/
def doubleMadeSpec : ChangeSpec := { name := "doubleMade", fn := fun _ => fun
  | [d1, d2, d3, d4] => { results := [.lit (.bool true)], args := [d1, d2, d3, d4] }
  | _ => none }
def doubleMadeRow : OpenClaim := { program := "ytcjdpicepjoeoaadoor", sum := "a7eae5178887ee6668d8522b5a0d38e4c9a98d2991f70c03e06fdda63e45a50d", func := "cognate/cognatelaw15.DoubleMade", spec := "doubleMade", inPlace := ["internal/bytealg.IndexByteString", "internal/bytealg.IndexString"], unfollowed := true, recurses := true, named := ["unicode/utf8.first", "unicode/utf8.acceptRanges", "internal/bytealg.MaxLen"], apart := false, laid := [("unicode/utf8.acceptRanges", laid_unicode_utf8_acceptRanges), ("unicode/utf8.first", laid_unicode_utf8_first)] }
def DoubleMadeSaid : Prop := doubleMadeRow.holds Tryd.pinned (OpenSpec.ofChange doubleMadeSpec)

/-- ITS FALSE NEIGHBOUR: 'it returns false'. Refute it at one input. -/
def doubleMadeWrong : ChangeSpec := { name := "doubleMade", fn := fun _ => fun
  | [d1, d2, d3, d4] => { results := [.lit (.bool false)], args := [d1, d2, d3, d4] }
  | _ => none }
def DoubleMadeWrongFalsely : Prop := doubleMadeRow.holds Tryd.pinned (OpenSpec.ofChange doubleMadeWrong)

/- THE SECOND FORM. 'bulk': how many values and letters a reading holds, each counted each time it is reached (what is shared counts as often as it is met; a slice's spare places count too). A statement '..UptoSaid' is the law's where the arguments, and the package variables that the reading takes, are together of bulk at most 1048576: NARROWER than '..Said'. Prove '..Said' where nothing that the law and all that it calls make is longer than what came in: it says more and counts as full. Else prove '..UptoSaid'. A law counts once. -/
mutual
def uptoBulk {H : Type} : DataW H → Nat
  | .lit (.string bytes) => bytes.length + 1
  | .lit _ => 1
  | .nil => 1
  | .ptr d => uptoBulk d + 1
  | .slice elems spare => uptoBulkAll elems + uptoBulkAll spare + 1
  | .agg parts => uptoBulkAll parts + 1
  | .iface _ d => uptoBulk d + 1
  | .map entries => uptoBulkEntries entries + 1
  | .held _ => 1
def uptoBulkAll {H : Type} : List (DataW H) → Nat
  | [] => 0
  | d :: r => uptoBulk d + uptoBulkAll r
def uptoBulkEntries {H : Type} : List (Lit × DataW H) → Nat
  | [] => 0
  | x :: r => uptoBulkEntry x + uptoBulkEntries r
def uptoBulkEntry {H : Type} : Lit × DataW H → Nat
  | (.string bytes, d) => bytes.length + uptoBulk d + 1
  | (_, d) => uptoBulk d + 1
 end
def uptoSmall : (H : Type) → List (DataW H) → Bool := fun _ ds => decide (uptoBulkAll ds ≤ 1048576)
def OpenSpec.upto (s : _root_.Go.ChangeSpec) : _root_.Go.OpenSpec := { _root_.Go.OpenSpec.ofChange s with cond := some uptoSmall }

/-- 'cognatelaw15.DoubleRuns', WHERE WHAT IT READS IS OF BULK AT MOST 1048576: true; the input reads as it did. -/
def doubleRunsUptoRow : OpenClaim := { program := "ytcjdpicepjoeoaadoor", sum := "a7eae5178887ee6668d8522b5a0d38e4c9a98d2991f70c03e06fdda63e45a50d", func := "cognate/cognatelaw15.DoubleRuns", spec := "doubleRuns", inPlace := ["internal/bytealg.IndexByteString", "internal/bytealg.IndexString"], unfollowed := true, recurses := true, named := ["unicode/utf8.first", "unicode/utf8.acceptRanges", "internal/bytealg.MaxLen"], apart := false, laid := [("unicode/utf8.acceptRanges", laid_unicode_utf8_acceptRanges), ("unicode/utf8.first", laid_unicode_utf8_first)], narrowed := true }
def DoubleRunsUptoSaid : Prop := doubleRunsUptoRow.holds Tryd.pinned (OpenSpec.upto doubleRunsSpec)

/-- 'cognatelaw15.DoubleBack', WHERE WHAT IT READS IS OF BULK AT MOST 1048576: true; the input reads as it did. -/
def doubleBackUptoRow : OpenClaim := { program := "ytcjdpicepjoeoaadoor", sum := "a7eae5178887ee6668d8522b5a0d38e4c9a98d2991f70c03e06fdda63e45a50d", func := "cognate/cognatelaw15.DoubleBack", spec := "doubleBack", inPlace := ["internal/bytealg.IndexByteString", "internal/bytealg.IndexString"], unfollowed := true, recurses := true, named := ["unicode/utf8.first", "unicode/utf8.acceptRanges", "internal/bytealg.MaxLen"], apart := false, laid := [("unicode/utf8.acceptRanges", laid_unicode_utf8_acceptRanges), ("unicode/utf8.first", laid_unicode_utf8_first)], narrowed := true }
def DoubleBackUptoSaid : Prop := doubleBackUptoRow.holds Tryd.pinned (OpenSpec.upto doubleBackSpec)

/-- 'cognatelaw15.DoubleSquares', WHERE WHAT IT READS IS OF BULK AT MOST 1048576: true; the input reads as it did. -/
def doubleSquaresUptoRow : OpenClaim := { program := "ytcjdpicepjoeoaadoor", sum := "a7eae5178887ee6668d8522b5a0d38e4c9a98d2991f70c03e06fdda63e45a50d", func := "cognate/cognatelaw15.DoubleSquares", spec := "doubleSquares", inPlace := ["internal/bytealg.IndexByteString", "internal/bytealg.IndexString"], unfollowed := true, recurses := true, named := ["unicode/utf8.first", "unicode/utf8.acceptRanges", "internal/bytealg.MaxLen"], apart := false, laid := [("unicode/utf8.acceptRanges", laid_unicode_utf8_acceptRanges), ("unicode/utf8.first", laid_unicode_utf8_first)], narrowed := true }
def DoubleSquaresUptoSaid : Prop := doubleSquaresUptoRow.holds Tryd.pinned (OpenSpec.upto doubleSquaresSpec)

/-- 'cognatelaw15.DoubleMade', WHERE WHAT IT READS IS OF BULK AT MOST 1048576: true; the input reads as it did. -/
def doubleMadeUptoRow : OpenClaim := { program := "ytcjdpicepjoeoaadoor", sum := "a7eae5178887ee6668d8522b5a0d38e4c9a98d2991f70c03e06fdda63e45a50d", func := "cognate/cognatelaw15.DoubleMade", spec := "doubleMade", inPlace := ["internal/bytealg.IndexByteString", "internal/bytealg.IndexString"], unfollowed := true, recurses := true, named := ["unicode/utf8.first", "unicode/utf8.acceptRanges", "internal/bytealg.MaxLen"], apart := false, laid := [("unicode/utf8.acceptRanges", laid_unicode_utf8_acceptRanges), ("unicode/utf8.first", laid_unicode_utf8_first)], narrowed := true }
def DoubleMadeUptoSaid : Prop := doubleMadeUptoRow.holds Tryd.pinned (OpenSpec.upto doubleMadeSpec)

end Rows
end Go.Proofs.YtcjdpicepjoeoaaDoor
