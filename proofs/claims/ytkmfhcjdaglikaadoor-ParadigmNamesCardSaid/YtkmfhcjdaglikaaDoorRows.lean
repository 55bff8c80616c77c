/-
  NARROWER THAN 'FOR EVERY INPUT', by the rows' own cells (each row's printed sentence says how): ParadigmNames: laid · ParadigmChain: laid · ParadigmFind: laid · ParadigmBack: laid · ParadigmTwins: laid.
  DERIVED. THE GIVEN ROWS OF THIS SEAT. 5 by the template 'for every input the law returns true; each argument reads behind the call as it read before'; 0 by the template 'total and deterministic' (their statements: YtkmfhcjdaglikaaDoorTotals.lean).
  GIVEN WITH THE SEED: the statements are not yours to turn. If you find one false, say at which input.
  Laid BY PROGRAM, IN A SANDBOX (cutbox-rows.mjs): the forced cells as the released guide's own fill.sh prints them over the translation 921e12ba493a1878… (all of the seat's roots in one cut). By AI agents, Wed Nov 11 2026. No macro, syntax, notation, axiom, sorry.
-/
import Derived.Test.YtkmfhcjdaglikaaDoorChecked
import GoSem.PinnedTables
import GoSem.Claim
import GoSem.ClaimJoined
import GoSem.ClaimMapViews
import Derived.JoinedTies
import Derived.KernelRfl
namespace Go.Proofs.YtkmfhcjdaglikaaDoor
/- THE CELL 'sum', in the pinned program and in every row, IS THE sha256 OF THE DUMP (.gsa) THAT YtkmfhcjdaglikaaDoorProg.lean LOADS. Nothing in Lean hashes anything: it is a label: what it is worth is what the hold of that sum in a sandbox is worth. -/
noncomputable def Tryd.pinned : Pinned := { name := "ytkmfhcjdaglikaadoor", sum := "921e12ba493a187859e01e9a49c3257ee8d6ac322a8a3d33efdcf0a8477af25a", checked := Tryd.checked }
namespace Rows
def none {H : Type} : Left H := { results := [], args := [] }

/- WHAT THE LISTED PACKAGE-LEVEL VARIABLES READ AS WHEN THE CALL BEGINS. Each datum BY PROGRAM (the guide's laid-datum.mjs) off the statement by which the dump's own 'gosem.cut.vars' lays the variable. In a bare row this is a premise. The card (YtkmfhcjdaglikaaDoorCards.lean) ties it to the program's text. -/
def laid_unicode_utf8_acceptRanges {H : Type} : DataW H := .agg [.agg [.lit (.int .u8 128), .lit (.int .u8 191)], .agg [.lit (.int .u8 160), .lit (.int .u8 191)], .agg [.lit (.int .u8 128), .lit (.int .u8 159)], .agg [.lit (.int .u8 144), .lit (.int .u8 191)], .agg [.lit (.int .u8 128), .lit (.int .u8 143)], .agg [.lit (.int .u8 0), .lit (.int .u8 0)], .agg [.lit (.int .u8 0), .lit (.int .u8 0)], .agg [.lit (.int .u8 0), .lit (.int .u8 0)], .agg [.lit (.int .u8 0), .lit (.int .u8 0)], .agg [.lit (.int .u8 0), .lit (.int .u8 0)], .agg [.lit (.int .u8 0), .lit (.int .u8 0)], .agg [.lit (.int .u8 0), .lit (.int .u8 0)], .agg [.lit (.int .u8 0), .lit (.int .u8 0)], .agg [.lit (.int .u8 0), .lit (.int .u8 0)], .agg [.lit (.int .u8 0), .lit (.int .u8 0)], .agg [.lit (.int .u8 0), .lit (.int .u8 0)]]
/-- One of Go's own tables, pinned by name: the form's constant. -/
def laid_unicode_utf8_first : DataW Unit := Go.Pinned.utf8First

/-- 'cognatelaw17.ParadigmNames': WHATEVER THE INPUT: true; the input reads as it did. -/
def paradigmNamesSpec : ChangeSpec := { name := "paradigmNames", fn := fun _ => fun
  | [] => { results := [.lit (.bool true)], args := [] }
  | _ => none }
def paradigmNamesRow : OpenClaim := { program := "ytkmfhcjdaglikaadoor", sum := "921e12ba493a187859e01e9a49c3257ee8d6ac322a8a3d33efdcf0a8477af25a", func := "cognate/cognatelaw17.ParadigmNames", spec := "paradigmNames", inPlace := ["internal/bytealg.IndexByteString", "internal/bytealg.IndexString"], unfollowed := true, recurses := true, named := ["unicode/utf8.first", "unicode/utf8.acceptRanges", "internal/bytealg.MaxLen"], apart := false, laid := [("unicode/utf8.acceptRanges", laid_unicode_utf8_acceptRanges), ("unicode/utf8.first", laid_unicode_utf8_first)] }
def ParadigmNamesSaid : Prop := paradigmNamesRow.holds Tryd.pinned (OpenSpec.ofChange paradigmNamesSpec)

/-- ITS FALSE NEIGHBOUR: 'it returns false'. Refute it at one input. -/
def paradigmNamesWrong : ChangeSpec := { name := "paradigmNames", fn := fun _ => fun
  | [] => { results := [.lit (.bool false)], args := [] }
  | _ => none }
def ParadigmNamesWrongFalsely : Prop := paradigmNamesRow.holds Tryd.pinned (OpenSpec.ofChange paradigmNamesWrong)

/-- 'cognatelaw17.ParadigmChain': WHATEVER THE INPUT: true; the input reads as it did. -/
def paradigmChainSpec : ChangeSpec := { name := "paradigmChain", fn := fun _ => fun
  | [d1, d2, d3, d4, d5] => { results := [.lit (.bool true)], args := [d1, d2, d3, d4, d5] }
  | _ => none }
def paradigmChainRow : OpenClaim := { program := "ytkmfhcjdaglikaadoor", sum := "921e12ba493a187859e01e9a49c3257ee8d6ac322a8a3d33efdcf0a8477af25a", func := "cognate/cognatelaw17.ParadigmChain", spec := "paradigmChain", inPlace := ["internal/bytealg.IndexByteString", "internal/bytealg.IndexString"], unfollowed := true, recurses := true, named := ["unicode/utf8.first", "unicode/utf8.acceptRanges", "internal/bytealg.MaxLen"], apart := false, laid := [("unicode/utf8.acceptRanges", laid_unicode_utf8_acceptRanges), ("unicode/utf8.first", laid_unicode_utf8_first)] }
def ParadigmChainSaid : Prop := paradigmChainRow.holds Tryd.pinned (OpenSpec.ofChange paradigmChainSpec)

/-- ITS FALSE NEIGHBOUR: 'it returns false'. Refute it at one input. -/
def paradigmChainWrong : ChangeSpec := { name := "paradigmChain", fn := fun _ => fun
  | [d1, d2, d3, d4, d5] => { results := [.lit (.bool false)], args := [d1, d2, d3, d4, d5] }
  | _ => none }
def ParadigmChainWrongFalsely : Prop := paradigmChainRow.holds Tryd.pinned (OpenSpec.ofChange paradigmChainWrong)

/-- 'cognatelaw17.ParadigmFind': WHATEVER THE INPUT: true; the input reads as it did. -/
def paradigmFindSpec : ChangeSpec := { name := "paradigmFind", fn := fun _ => fun
  | [d1, d2] => { results := [.lit (.bool true)], args := [d1, d2] }
  | _ => none }
def paradigmFindRow : OpenClaim := { program := "ytkmfhcjdaglikaadoor", sum := "921e12ba493a187859e01e9a49c3257ee8d6ac322a8a3d33efdcf0a8477af25a", func := "cognate/cognatelaw17.ParadigmFind", spec := "paradigmFind", inPlace := ["internal/bytealg.IndexByteString", "internal/bytealg.IndexString"], unfollowed := true, recurses := true, named := ["unicode/utf8.first", "unicode/utf8.acceptRanges", "internal/bytealg.MaxLen"], apart := false, laid := [("unicode/utf8.acceptRanges", laid_unicode_utf8_acceptRanges), ("unicode/utf8.first", laid_unicode_utf8_first)] }
def ParadigmFindSaid : Prop := paradigmFindRow.holds Tryd.pinned (OpenSpec.ofChange paradigmFindSpec)

/-- ITS FALSE NEIGHBOUR: 'it returns false'. Refute it at one input. -/
def paradigmFindWrong : ChangeSpec := { name := "paradigmFind", fn := fun _ => fun
  | [d1, d2] => { results := [.lit (.bool false)], args := [d1, d2] }
  | _ => none }
def ParadigmFindWrongFalsely : Prop := paradigmFindRow.holds Tryd.pinned (OpenSpec.ofChange paradigmFindWrong)

/-- 'cognatelaw17.ParadigmBack': WHATEVER THE INPUT: true; the input reads as it did. -/
def paradigmBackSpec : ChangeSpec := { name := "paradigmBack", fn := fun _ => fun
  | [d1, d2, d3, d4] => { results := [.lit (.bool true)], args := [d1, d2, d3, d4] }
  | _ => none }
def paradigmBackRow : OpenClaim := { program := "ytkmfhcjdaglikaadoor", sum := "921e12ba493a187859e01e9a49c3257ee8d6ac322a8a3d33efdcf0a8477af25a", func := "cognate/cognatelaw17.ParadigmBack", spec := "paradigmBack", inPlace := ["internal/bytealg.IndexByteString", "internal/bytealg.IndexString"], unfollowed := true, recurses := true, named := ["unicode/utf8.first", "unicode/utf8.acceptRanges", "internal/bytealg.MaxLen"], apart := false, laid := [("unicode/utf8.acceptRanges", laid_unicode_utf8_acceptRanges), ("unicode/utf8.first", laid_unicode_utf8_first)] }
def ParadigmBackSaid : Prop := paradigmBackRow.holds Tryd.pinned (OpenSpec.ofChange paradigmBackSpec)

/-- ITS FALSE NEIGHBOUR: 'it returns false'. Refute it at one input. -/
def paradigmBackWrong : ChangeSpec := { name := "paradigmBack", fn := fun _ => fun
  | [d1, d2, d3, d4] => { results := [.lit (.bool false)], args := [d1, d2, d3, d4] }
  | _ => none }
def ParadigmBackWrongFalsely : Prop := paradigmBackRow.holds Tryd.pinned (OpenSpec.ofChange paradigmBackWrong)

/-- 'cognatelaw17.ParadigmTwins': WHATEVER THE INPUT: true; the input reads as it did. -/
def paradigmTwinsSpec : ChangeSpec := { name := "paradigmTwins", fn := fun _ => fun
  | [d1, d2, d3, d4, d5] => { results := [.lit (.bool true)], args := [d1, d2, d3, d4, d5] }
  | _ => none }
def paradigmTwinsRow : OpenClaim := { program := "ytkmfhcjdaglikaadoor", sum := "921e12ba493a187859e01e9a49c3257ee8d6ac322a8a3d33efdcf0a8477af25a", func := "cognate/cognatelaw17.ParadigmTwins", spec := "paradigmTwins", inPlace := ["internal/bytealg.IndexByteString", "internal/bytealg.IndexString", "internal/bytealg.CountString"], unfollowed := true, recurses := true, named := ["unicode/utf8.first", "unicode/utf8.acceptRanges", "internal/bytealg.MaxLen"], apart := false, laid := [("unicode/utf8.acceptRanges", laid_unicode_utf8_acceptRanges), ("unicode/utf8.first", laid_unicode_utf8_first)] }
def ParadigmTwinsSaid : Prop := paradigmTwinsRow.holds Tryd.pinned (OpenSpec.ofChange paradigmTwinsSpec)

/-- ITS FALSE NEIGHBOUR: 'it returns false'. Refute it at one input. -/
def paradigmTwinsWrong : ChangeSpec := { name := "paradigmTwins", fn := fun _ => fun
  | [d1, d2, d3, d4, d5] => { results := [.lit (.bool false)], args := [d1, d2, d3, d4, d5] }
  | _ => none }
def ParadigmTwinsWrongFalsely : Prop := paradigmTwinsRow.holds Tryd.pinned (OpenSpec.ofChange paradigmTwinsWrong)

/- THE SECOND FORM. 'bulk': how many values and letters a reading holds, each counted each time it is reached (what is shared counts as often as it is met; a slice's spare places count too). A statement '..UptoSaid' is the law's where the arguments, and the package variables that the reading takes, are together of bulk at most 1048576: NARROWER than '..Said'. Prove '..Said' where nothing that the law and all that it calls make is longer than what came in: it says more and counts as full. Else prove '..UptoSaid'. A law counts once. -/
mutual
def uptoBulk {H : Type} : DataW H → Nat
  | .lit (.string bytes) => bytes.length + 1
  | .lit _ => 1
  | .nil => 1
  | .ptr d => uptoBulk d + 1
  | .slice elems spare => uptoBulkAll elems + uptoBulkAll spare + 1
  | .agg parts => uptoBulkAll parts + 1
  | .iface _ d => uptoBulk d + 1
  | .map entries => uptoBulkEntries entries + 1
  | .held _ => 1
def uptoBulkAll {H : Type} : List (DataW H) → Nat
  | [] => 0
  | d :: r => uptoBulk d + uptoBulkAll r
def uptoBulkEntries {H : Type} : List (Lit × DataW H) → Nat
  | [] => 0
  | x :: r => uptoBulkEntry x + uptoBulkEntries r
def uptoBulkEntry {H : Type} : Lit × DataW H → Nat
  | (.string bytes, d) => bytes.length + uptoBulk d + 1
  | (_, d) => uptoBulk d + 1
 end
def uptoSmall : (H : Type) → List (DataW H) → Bool := fun _ ds => decide (uptoBulkAll ds ≤ 1048576)
def OpenSpec.upto (s : _root_.Go.ChangeSpec) : _root_.Go.OpenSpec := { _root_.Go.OpenSpec.ofChange s with cond := some uptoSmall }

/-- 'cognatelaw17.ParadigmNames', WHERE WHAT IT READS IS OF BULK AT MOST 1048576: true; the input reads as it did. -/
def paradigmNamesUptoRow : OpenClaim := { program := "ytkmfhcjdaglikaadoor", sum := "921e12ba493a187859e01e9a49c3257ee8d6ac322a8a3d33efdcf0a8477af25a", func := "cognate/cognatelaw17.ParadigmNames", spec := "paradigmNames", inPlace := ["internal/bytealg.IndexByteString", "internal/bytealg.IndexString"], unfollowed := true, recurses := true, named := ["unicode/utf8.first", "unicode/utf8.acceptRanges", "internal/bytealg.MaxLen"], apart := false, laid := [("unicode/utf8.acceptRanges", laid_unicode_utf8_acceptRanges), ("unicode/utf8.first", laid_unicode_utf8_first)], narrowed := true }
def ParadigmNamesUptoSaid : Prop := paradigmNamesUptoRow.holds Tryd.pinned (OpenSpec.upto paradigmNamesSpec)

/-- 'cognatelaw17.ParadigmChain', WHERE WHAT IT READS IS OF BULK AT MOST 1048576: true; the input reads as it did. -/
def paradigmChainUptoRow : OpenClaim := { program := "ytkmfhcjdaglikaadoor", sum := "921e12ba493a187859e01e9a49c3257ee8d6ac322a8a3d33efdcf0a8477af25a", func := "cognate/cognatelaw17.ParadigmChain", spec := "paradigmChain", inPlace := ["internal/bytealg.IndexByteString", "internal/bytealg.IndexString"], unfollowed := true, recurses := true, named := ["unicode/utf8.first", "unicode/utf8.acceptRanges", "internal/bytealg.MaxLen"], apart := false, laid := [("unicode/utf8.acceptRanges", laid_unicode_utf8_acceptRanges), ("unicode/utf8.first", laid_unicode_utf8_first)], narrowed := true }
def ParadigmChainUptoSaid : Prop := paradigmChainUptoRow.holds Tryd.pinned (OpenSpec.upto paradigmChainSpec)

/-- 'cognatelaw17.ParadigmFind', WHERE WHAT IT READS IS OF BULK AT MOST 1048576: true; the input reads as it did. -/
def paradigmFindUptoRow : OpenClaim := { program := "ytkmfhcjdaglikaadoor", sum := "921e12ba493a187859e01e9a49c3257ee8d6ac322a8a3d33efdcf0a8477af25a", func := "cognate/cognatelaw17.ParadigmFind", spec := "paradigmFind", inPlace := ["internal/bytealg.IndexByteString", "internal/bytealg.IndexString"], unfollowed := true, recurses := true, named := ["unicode/utf8.first", "unicode/utf8.acceptRanges", "internal/bytealg.MaxLen"], apart := false, laid := [("unicode/utf8.acceptRanges", laid_unicode_utf8_acceptRanges), ("unicode/utf8.first", laid_unicode_utf8_first)], narrowed := true }
def ParadigmFindUptoSaid : Prop := paradigmFindUptoRow.holds Tryd.pinned (OpenSpec.upto paradigmFindSpec)

/-- 'cognatelaw17.ParadigmBack', WHERE WHAT IT READS IS OF BULK AT MOST 1048576: true; the input reads as it did. -/
def paradigmBackUptoRow : OpenClaim := { program := "ytkmfhcjdaglikaadoor", sum := "921e12ba493a187859e01e9a49c3257ee8d6ac322a8a3d33efdcf0a8477af25a", func := "cognate/cognatelaw17.ParadigmBack", spec := "paradigmBack", inPlace := ["internal/bytealg.IndexByteString", "internal/bytealg.IndexString"], unfollowed := true, recurses := true, named := ["unicode/utf8.first", "unicode/utf8.acceptRanges", "internal/bytealg.MaxLen"], apart := false, laid := [("unicode/utf8.acceptRanges", laid_unicode_utf8_acceptRanges), ("unicode/utf8.first", laid_unicode_utf8_first)], narrowed := true }
def ParadigmBackUptoSaid : Prop := paradigmBackUptoRow.holds Tryd.pinned (OpenSpec.upto paradigmBackSpec)

/-- 'cognatelaw17.ParadigmTwins', WHERE WHAT IT READS IS OF BULK AT MOST 1048576: true; the input reads as it did. -/
def paradigmTwinsUptoRow : OpenClaim := { program := "ytkmfhcjdaglikaadoor", sum := "921e12ba493a187859e01e9a49c3257ee8d6ac322a8a3d33efdcf0a8477af25a", func := "cognate/cognatelaw17.ParadigmTwins", spec := "paradigmTwins", inPlace := ["internal/bytealg.IndexByteString", "internal/bytealg.IndexString", "internal/bytealg.CountString"], unfollowed := true, recurses := true, named := ["unicode/utf8.first", "unicode/utf8.acceptRanges", "internal/bytealg.MaxLen"], apart := false, laid := [("unicode/utf8.acceptRanges", laid_unicode_utf8_acceptRanges), ("unicode/utf8.first", laid_unicode_utf8_first)], narrowed := true }
def ParadigmTwinsUptoSaid : Prop := paradigmTwinsUptoRow.holds Tryd.pinned (OpenSpec.upto paradigmTwinsSpec)

end Rows
end Go.Proofs.YtkmfhcjdaglikaaDoor
