/-
  NARROWER THAN 'FOR EVERY INPUT', by the rows' own cells (each row's printed sentence says how): FeatureNames: laid · RadicalWords: laid · RadicalShapes: laid · RadicalBack: laid · RadicalNames: laid.
  DERIVED. THE GIVEN ROWS OF THIS SEAT. 5 by the template 'for every input the law returns true; each argument reads behind the call as it read before'; 0 by the template 'total and deterministic' (their statements: YtnngljflnfjppaaDoorTotals.lean).
  GIVEN WITH THE SEED: the statements are not yours to turn. If you find one false, say at which input.
  Laid BY PROGRAM, IN A SANDBOX (cutbox-rows.mjs): the forced cells as the released guide's own fill.sh prints them over the translation 111649c56d683c83… (all of the seat's roots in one cut). By AI agents, Wed Nov 11 2026. No macro, syntax, notation, axiom, sorry.
-/
import Derived.Test.YtnngljflnfjppaaDoorChecked
import GoSem.PinnedTables
import GoSem.Claim
import GoSem.ClaimJoined
import GoSem.ClaimMapViews
import Derived.JoinedTies
import Derived.KernelRfl
namespace Go.Proofs.YtnngljflnfjppaaDoor
/- THE CELL 'sum', in the pinned program and in every row, IS THE sha256 OF THE DUMP (.gsa) THAT YtnngljflnfjppaaDoorProg.lean LOADS. Nothing in Lean hashes anything: it is a label: what it is worth is what the hold of that sum in a sandbox is worth. -/
noncomputable def Tryd.pinned : Pinned := { name := "ytnngljflnfjppaadoor", sum := "111649c56d683c83f1bbab8ffff9de228cdaa40960e8cc9d593b609151d8bd5b", checked := Tryd.checked }
namespace Rows
def none {H : Type} : Left H := { results := [], args := [] }

/- WHAT THE LISTED PACKAGE-LEVEL VARIABLES READ AS WHEN THE CALL BEGINS. Each datum BY PROGRAM (the guide's laid-datum.mjs) off the statement by which the dump's own 'gosem.cut.vars' lays the variable. In a bare row this is a premise. The card (YtnngljflnfjppaaDoorCards.lean) ties it to the program's text. -/
def laid_unicode_utf8_acceptRanges {H : Type} : DataW H := .agg [.agg [.lit (.int .u8 128), .lit (.int .u8 191)], .agg [.lit (.int .u8 160), .lit (.int .u8 191)], .agg [.lit (.int .u8 128), .lit (.int .u8 159)], .agg [.lit (.int .u8 144), .lit (.int .u8 191)], .agg [.lit (.int .u8 128), .lit (.int .u8 143)], .agg [.lit (.int .u8 0), .lit (.int .u8 0)], .agg [.lit (.int .u8 0), .lit (.int .u8 0)], .agg [.lit (.int .u8 0), .lit (.int .u8 0)], .agg [.lit (.int .u8 0), .lit (.int .u8 0)], .agg [.lit (.int .u8 0), .lit (.int .u8 0)], .agg [.lit (.int .u8 0), .lit (.int .u8 0)], .agg [.lit (.int .u8 0), .lit (.int .u8 0)], .agg [.lit (.int .u8 0), .lit (.int .u8 0)], .agg [.lit (.int .u8 0), .lit (.int .u8 0)], .agg [.lit (.int .u8 0), .lit (.int .u8 0)], .agg [.lit (.int .u8 0), .lit (.int .u8 0)]]
/-- One of Go's own tables, pinned by name: the form's constant. -/
def laid_unicode_utf8_first : DataW Unit := Go.Pinned.utf8First

/-- 'cognatelaw02.FeatureNames': WHATEVER THE INPUT: true; the input reads as it did. -/
def featureNamesSpec : ChangeSpec := { name := "featureNames", fn := fun _ => fun
  | [] => { results := [.lit (.bool true)], args := [] }
  | _ => none }
def featureNamesRow : OpenClaim := { program := "ytnngljflnfjppaadoor", sum := "111649c56d683c83f1bbab8ffff9de228cdaa40960e8cc9d593b609151d8bd5b", func := "cognate/cognatelaw02.FeatureNames", spec := "featureNames", inPlace := ["internal/bytealg.IndexByteString", "internal/bytealg.IndexString", "internal/abi.NoEscape"], unfollowed := true, recurses := true, named := ["unicode/utf8.first", "unicode/utf8.acceptRanges", "internal/bytealg.MaxLen"], apart := false, laid := [("unicode/utf8.acceptRanges", laid_unicode_utf8_acceptRanges), ("unicode/utf8.first", laid_unicode_utf8_first)] }
def FeatureNamesSaid : Prop := featureNamesRow.holds Tryd.pinned (OpenSpec.ofChange featureNamesSpec)

/-- ITS FALSE NEIGHBOUR: 'it returns false'. Refute it at one input. -/
def featureNamesWrong : ChangeSpec := { name := "featureNames", fn := fun _ => fun
  | [] => { results := [.lit (.bool false)], args := [] }
  | _ => none }
def FeatureNamesWrongFalsely : Prop := featureNamesRow.holds Tryd.pinned (OpenSpec.ofChange featureNamesWrong)

/-- 'cognatelaw13.RadicalWords': WHATEVER THE INPUT: true; the input reads as it did. -/
def radicalWordsSpec : ChangeSpec := { name := "radicalWords", fn := fun _ => fun
  | [d1, d2, d3, d4] => { results := [.lit (.bool true)], args := [d1, d2, d3, d4] }
  | _ => none }
def radicalWordsRow : OpenClaim := { program := "ytnngljflnfjppaadoor", sum := "111649c56d683c83f1bbab8ffff9de228cdaa40960e8cc9d593b609151d8bd5b", func := "cognate/cognatelaw13.RadicalWords", spec := "radicalWords", inPlace := ["internal/bytealg.IndexByteString", "internal/bytealg.IndexString"], unfollowed := true, recurses := true, named := ["unicode/utf8.first", "unicode/utf8.acceptRanges", "internal/bytealg.MaxLen"], apart := false, laid := [("unicode/utf8.acceptRanges", laid_unicode_utf8_acceptRanges), ("unicode/utf8.first", laid_unicode_utf8_first)] }
def RadicalWordsSaid : Prop := radicalWordsRow.holds Tryd.pinned (OpenSpec.ofChange radicalWordsSpec)

/-- ITS FALSE NEIGHBOUR: 'it returns false'. Refute it at one input. -/
def radicalWordsWrong : ChangeSpec := { name := "radicalWords", fn := fun _ => fun
  | [d1, d2, d3, d4] => { results := [.lit (.bool false)], args := [d1, d2, d3, d4] }
  | _ => none }
def RadicalWordsWrongFalsely : Prop := radicalWordsRow.holds Tryd.pinned (OpenSpec.ofChange radicalWordsWrong)

/-- 'cognatelaw13.RadicalShapes': WHATEVER THE INPUT: true; the input reads as it did. -/
def radicalShapesSpec : ChangeSpec := { name := "radicalShapes", fn := fun _ => fun
  | [d1, d2, d3, d4, d5] => { results := [.lit (.bool true)], args := [d1, d2, d3, d4, d5] }
  | _ => none }
def radicalShapesRow : OpenClaim := { program := "ytnngljflnfjppaadoor", sum := "111649c56d683c83f1bbab8ffff9de228cdaa40960e8cc9d593b609151d8bd5b", func := "cognate/cognatelaw13.RadicalShapes", spec := "radicalShapes", inPlace := ["internal/bytealg.IndexByteString", "internal/bytealg.IndexString", "internal/bytealg.CountString"], unfollowed := true, recurses := true, named := ["unicode/utf8.first", "unicode/utf8.acceptRanges", "internal/bytealg.MaxLen"], apart := false, laid := [("unicode/utf8.acceptRanges", laid_unicode_utf8_acceptRanges), ("unicode/utf8.first", laid_unicode_utf8_first)] }
def RadicalShapesSaid : Prop := radicalShapesRow.holds Tryd.pinned (OpenSpec.ofChange radicalShapesSpec)

/-- ITS FALSE NEIGHBOUR: 'it returns false'. Refute it at one input. -/
def radicalShapesWrong : ChangeSpec := { name := "radicalShapes", fn := fun _ => fun
  | [d1, d2, d3, d4, d5] => { results := [.lit (.bool false)], args := [d1, d2, d3, d4, d5] }
  | _ => none }
def RadicalShapesWrongFalsely : Prop := radicalShapesRow.holds Tryd.pinned (OpenSpec.ofChange radicalShapesWrong)

/-- 'cognatelaw13.RadicalBack': WHATEVER THE INPUT: true; the input reads as it did. -/
def radicalBackSpec : ChangeSpec := { name := "radicalBack", fn := fun _ => fun
  | [d1, d2, d3, d4, d5] => { results := [.lit (.bool true)], args := [d1, d2, d3, d4, d5] }
  | _ => none }
def radicalBackRow : OpenClaim := { program := "ytnngljflnfjppaadoor", sum := "111649c56d683c83f1bbab8ffff9de228cdaa40960e8cc9d593b609151d8bd5b", func := "cognate/cognatelaw13.RadicalBack", spec := "radicalBack", inPlace := ["internal/bytealg.IndexByteString", "internal/bytealg.IndexString", "internal/bytealg.CountString"], unfollowed := true, recurses := true, named := ["unicode/utf8.first", "unicode/utf8.acceptRanges", "internal/bytealg.MaxLen"], apart := false, laid := [("unicode/utf8.acceptRanges", laid_unicode_utf8_acceptRanges), ("unicode/utf8.first", laid_unicode_utf8_first)] }
def RadicalBackSaid : Prop := radicalBackRow.holds Tryd.pinned (OpenSpec.ofChange radicalBackSpec)

/-- ITS FALSE NEIGHBOUR: 'it returns false'. Refute it at one input. -/
def radicalBackWrong : ChangeSpec := { name := "radicalBack", fn := fun _ => fun
  | [d1, d2, d3, d4, d5] => { results := [.lit (.bool false)], args := [d1, d2, d3, d4, d5] }
  | _ => none }
def RadicalBackWrongFalsely : Prop := radicalBackRow.holds Tryd.pinned (OpenSpec.ofChange radicalBackWrong)

/-- 'cognatelaw13.RadicalNames': WHATEVER THE INPUT: true; the input reads as it did. -/
def radicalNamesSpec : ChangeSpec := { name := "radicalNames", fn := fun _ => fun
  | [] => { results := [.lit (.bool true)], args := [] }
  | _ => none }
def radicalNamesRow : OpenClaim := { program := "ytnngljflnfjppaadoor", sum := "111649c56d683c83f1bbab8ffff9de228cdaa40960e8cc9d593b609151d8bd5b", func := "cognate/cognatelaw13.RadicalNames", spec := "radicalNames", inPlace := ["internal/bytealg.IndexByteString", "internal/bytealg.IndexString", "internal/bytealg.CountString"], unfollowed := true, recurses := true, named := ["unicode/utf8.first", "unicode/utf8.acceptRanges", "internal/bytealg.MaxLen"], apart := false, laid := [("unicode/utf8.acceptRanges", laid_unicode_utf8_acceptRanges), ("unicode/utf8.first", laid_unicode_utf8_first)] }
def RadicalNamesSaid : Prop := radicalNamesRow.holds Tryd.pinned (OpenSpec.ofChange radicalNamesSpec)

/-- ITS FALSE NEIGHBOUR: 'it returns false'. Refute it at one input. -/
def radicalNamesWrong : ChangeSpec := { name := "radicalNames", fn := fun _ => fun
  | [] => { results := [.lit (.bool false)], args := [] }
  | _ => none }
def RadicalNamesWrongFalsely : Prop := radicalNamesRow.holds Tryd.pinned (OpenSpec.ofChange radicalNamesWrong)

/- THE SECOND FORM. 'bulk': how many values and letters a reading holds, each counted each time it is reached (what is shared counts as often as it is met; a slice's spare places count too). A statement '..UptoSaid' is the law's where the arguments, and the package variables that the reading takes, are together of bulk at most 1048576: NARROWER than '..Said'. Prove '..Said' where nothing that the law and all that it calls make is longer than what came in: it says more and counts as full. Else prove '..UptoSaid'. A law counts once. -/
mutual
def uptoBulk {H : Type} : DataW H → Nat
  | .lit (.string bytes) => bytes.length + 1
  | .lit _ => 1
  | .nil => 1
  | .ptr d => uptoBulk d + 1
  | .slice elems spare => uptoBulkAll elems + uptoBulkAll spare + 1
  | .agg parts => uptoBulkAll parts + 1
  | .iface _ d => uptoBulk d + 1
  | .map entries => uptoBulkEntries entries + 1
  | .held _ => 1
def uptoBulkAll {H : Type} : List (DataW H) → Nat
  | [] => 0
  | d :: r => uptoBulk d + uptoBulkAll r
def uptoBulkEntries {H : Type} : List (Lit × DataW H) → Nat
  | [] => 0
  | x :: r => uptoBulkEntry x + uptoBulkEntries r
def uptoBulkEntry {H : Type} : Lit × DataW H → Nat
  | (.string bytes, d) => bytes.length + uptoBulk d + 1
  | (_, d) => uptoBulk d + 1
 end
def uptoSmall : (H : Type) → List (DataW H) → Bool := fun _ ds => decide (uptoBulkAll ds ≤ 1048576)
def OpenSpec.upto (s : _root_.Go.ChangeSpec) : _root_.Go.OpenSpec := { _root_.Go.OpenSpec.ofChange s with cond := some uptoSmall }

/-- 'cognatelaw02.FeatureNames', WHERE WHAT IT READS IS OF BULK AT MOST 1048576: true; the input reads as it did. -/
def featureNamesUptoRow : OpenClaim := { program := "ytnngljflnfjppaadoor", sum := "111649c56d683c83f1bbab8ffff9de228cdaa40960e8cc9d593b609151d8bd5b", func := "cognate/cognatelaw02.FeatureNames", spec := "featureNames", inPlace := ["internal/bytealg.IndexByteString", "internal/bytealg.IndexString", "internal/abi.NoEscape"], unfollowed := true, recurses := true, named := ["unicode/utf8.first", "unicode/utf8.acceptRanges", "internal/bytealg.MaxLen"], apart := false, laid := [("unicode/utf8.acceptRanges", laid_unicode_utf8_acceptRanges), ("unicode/utf8.first", laid_unicode_utf8_first)], narrowed := true }
def FeatureNamesUptoSaid : Prop := featureNamesUptoRow.holds Tryd.pinned (OpenSpec.upto featureNamesSpec)

/-- 'cognatelaw13.RadicalWords', WHERE WHAT IT READS IS OF BULK AT MOST 1048576: true; the input reads as it did. -/
def radicalWordsUptoRow : OpenClaim := { program := "ytnngljflnfjppaadoor", sum := "111649c56d683c83f1bbab8ffff9de228cdaa40960e8cc9d593b609151d8bd5b", func := "cognate/cognatelaw13.RadicalWords", spec := "radicalWords", inPlace := ["internal/bytealg.IndexByteString", "internal/bytealg.IndexString"], unfollowed := true, recurses := true, named := ["unicode/utf8.first", "unicode/utf8.acceptRanges", "internal/bytealg.MaxLen"], apart := false, laid := [("unicode/utf8.acceptRanges", laid_unicode_utf8_acceptRanges), ("unicode/utf8.first", laid_unicode_utf8_first)], narrowed := true }
def RadicalWordsUptoSaid : Prop := radicalWordsUptoRow.holds Tryd.pinned (OpenSpec.upto radicalWordsSpec)

/-- 'cognatelaw13.RadicalShapes', WHERE WHAT IT READS IS OF BULK AT MOST 1048576: true; the input reads as it did. -/
def radicalShapesUptoRow : OpenClaim := { program := "ytnngljflnfjppaadoor", sum := "111649c56d683c83f1bbab8ffff9de228cdaa40960e8cc9d593b609151d8bd5b", func := "cognate/cognatelaw13.RadicalShapes", spec := "radicalShapes", inPlace := ["internal/bytealg.IndexByteString", "internal/bytealg.IndexString", "internal/bytealg.CountString"], unfollowed := true, recurses := true, named := ["unicode/utf8.first", "unicode/utf8.acceptRanges", "internal/bytealg.MaxLen"], apart := false, laid := [("unicode/utf8.acceptRanges", laid_unicode_utf8_acceptRanges), ("unicode/utf8.first", laid_unicode_utf8_first)], narrowed := true }
def RadicalShapesUptoSaid : Prop := radicalShapesUptoRow.holds Tryd.pinned (OpenSpec.upto radicalShapesSpec)

/-- 'cognatelaw13.RadicalBack', WHERE WHAT IT READS IS OF BULK AT MOST 1048576: true; the input reads as it did. -/
def radicalBackUptoRow : OpenClaim := { program := "ytnngljflnfjppaadoor", sum := "111649c56d683c83f1bbab8ffff9de228cdaa40960e8cc9d593b609151d8bd5b", func := "cognate/cognatelaw13.RadicalBack", spec := "radicalBack", inPlace := ["internal/bytealg.IndexByteString", "internal/bytealg.IndexString", "internal/bytealg.CountString"], unfollowed := true, recurses := true, named := ["unicode/utf8.first", "unicode/utf8.acceptRanges", "internal/bytealg.MaxLen"], apart := false, laid := [("unicode/utf8.acceptRanges", laid_unicode_utf8_acceptRanges), ("unicode/utf8.first", laid_unicode_utf8_first)], narrowed := true }
def RadicalBackUptoSaid : Prop := radicalBackUptoRow.holds Tryd.pinned (OpenSpec.upto radicalBackSpec)

/-- 'cognatelaw13.RadicalNames', WHERE WHAT IT READS IS OF BULK AT MOST 1048576: true; the input reads as it did. -/
def radicalNamesUptoRow : OpenClaim := { program := "ytnngljflnfjppaadoor", sum := "111649c56d683c83f1bbab8ffff9de228cdaa40960e8cc9d593b609151d8bd5b", func := "cognate/cognatelaw13.RadicalNames", spec := "radicalNames", inPlace := ["internal/bytealg.IndexByteString", "internal/bytealg.IndexString", "internal/bytealg.CountString"], unfollowed := true, recurses := true, named := ["unicode/utf8.first", "unicode/utf8.acceptRanges", "internal/bytealg.MaxLen"], apart := false, laid := [("unicode/utf8.acceptRanges", laid_unicode_utf8_acceptRanges), ("unicode/utf8.first", laid_unicode_utf8_first)], narrowed := true }
def RadicalNamesUptoSaid : Prop := radicalNamesUptoRow.holds Tryd.pinned (OpenSpec.upto radicalNamesSpec)

end Rows
end Go.Proofs.YtnngljflnfjppaaDoor
