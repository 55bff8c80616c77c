/-
  NARROWER THAN 'FOR EVERY INPUT', by the rows' own cells (each row's printed sentence says how): AlignNearest: laid · AlignThree: laid · AlignNear: laid · AlignWords: laid · AlignLeast: laid · HarmonyNames: laid · HarmonyWords: laid · HarmonySets: laid · HarmonyLetters: laid · HarmonyMeets: laid · HarmonyTurned: laid · HarmonyParts: laid.
  DERIVED. THE GIVEN ROWS OF THIS SEAT. 12 by the template 'for every input the law returns true; each argument reads behind the call as it read before'; 0 by the template 'total and deterministic' (their statements: YtobajknhnjceiaaDoorTotals.lean).
  GIVEN WITH THE SEED: the statements are not yours to turn. If you find one false, say at which input.
  Laid BY PROGRAM, IN A SANDBOX (cutbox-rows.mjs): the forced cells as the released guide's own fill.sh prints them over the translation 03a2797f2c049033… (all of the seat's roots in one cut). By AI agents, Wed Nov 11 2026. No macro, syntax, notation, axiom, sorry.
-/
import Derived.Test.YtobajknhnjceiaaDoorChecked
import GoSem.PinnedTables
import GoSem.Claim
import GoSem.ClaimJoined
import GoSem.ClaimMapViews
import Derived.JoinedTies
import Derived.KernelRfl
namespace Go.Proofs.YtobajknhnjceiaaDoor
/- THE CELL 'sum', in the pinned program and in every row, IS THE sha256 OF THE DUMP (.gsa) THAT YtobajknhnjceiaaDoorProg.lean LOADS. Nothing in Lean hashes anything: it is a label: what it is worth is what the hold of that sum in a sandbox is worth. -/
noncomputable def Tryd.pinned : Pinned := { name := "ytobajknhnjceiaadoor", sum := "03a2797f2c049033b0a26cfb30a28c3b5c77ebc45362f1b616245adc89d45b65", checked := Tryd.checked }
namespace Rows
def none {H : Type} : Left H := { results := [], args := [] }

/- WHAT THE LISTED PACKAGE-LEVEL VARIABLES READ AS WHEN THE CALL BEGINS. Each datum BY PROGRAM (the guide's laid-datum.mjs) off the statement by which the dump's own 'gosem.cut.vars' lays the variable. In a bare row this is a premise. The card (YtobajknhnjceiaaDoorCards.lean) ties it to the program's text. -/
def laid_unicode_utf8_acceptRanges {H : Type} : DataW H := .agg [.agg [.lit (.int .u8 128), .lit (.int .u8 191)], .agg [.lit (.int .u8 160), .lit (.int .u8 191)], .agg [.lit (.int .u8 128), .lit (.int .u8 159)], .agg [.lit (.int .u8 144), .lit (.int .u8 191)], .agg [.lit (.int .u8 128), .lit (.int .u8 143)], .agg [.lit (.int .u8 0), .lit (.int .u8 0)], .agg [.lit (.int .u8 0), .lit (.int .u8 0)], .agg [.lit (.int .u8 0), .lit (.int .u8 0)], .agg [.lit (.int .u8 0), .lit (.int .u8 0)], .agg [.lit (.int .u8 0), .lit (.int .u8 0)], .agg [.lit (.int .u8 0), .lit (.int .u8 0)], .agg [.lit (.int .u8 0), .lit (.int .u8 0)], .agg [.lit (.int .u8 0), .lit (.int .u8 0)], .agg [.lit (.int .u8 0), .lit (.int .u8 0)], .agg [.lit (.int .u8 0), .lit (.int .u8 0)], .agg [.lit (.int .u8 0), .lit (.int .u8 0)]]
/-- One of Go's own tables, pinned by name: the form's constant. -/
def laid_unicode_utf8_first : DataW Unit := Go.Pinned.utf8First

/-- 'cognatelaw21.AlignNearest': WHATEVER THE INPUT: true; the input reads as it did. -/
def alignNearestSpec : ChangeSpec := { name := "alignNearest", fn := fun _ => fun
  | [d1, d2, d3, d4, d5] => { results := [.lit (.bool true)], args := [d1, d2, d3, d4, d5] }
  | _ => none }
def alignNearestRow : OpenClaim := { program := "ytobajknhnjceiaadoor", sum := "03a2797f2c049033b0a26cfb30a28c3b5c77ebc45362f1b616245adc89d45b65", func := "cognate/cognatelaw21.AlignNearest", spec := "alignNearest", inPlace := ["internal/bytealg.IndexByteString", "internal/bytealg.IndexString"], unfollowed := true, recurses := true, named := ["unicode/utf8.first", "unicode/utf8.acceptRanges", "internal/bytealg.MaxLen"], plainKeys := false, apart := false, laid := [("unicode/utf8.acceptRanges", laid_unicode_utf8_acceptRanges), ("unicode/utf8.first", laid_unicode_utf8_first)] }
def AlignNearestSaid : Prop := alignNearestRow.holds Tryd.pinned (OpenSpec.ofChange alignNearestSpec)

/-- ITS FALSE NEIGHBOUR: 'it returns false'. Refute it at one input. -/
def alignNearestWrong : ChangeSpec := { name := "alignNearest", fn := fun _ => fun
  | [d1, d2, d3, d4, d5] => { results := [.lit (.bool false)], args := [d1, d2, d3, d4, d5] }
  | _ => none }
def AlignNearestWrongFalsely : Prop := alignNearestRow.holds Tryd.pinned (OpenSpec.ofChange alignNearestWrong)

/-- 'cognatelaw21.AlignThree': WHATEVER THE INPUT: true; the input reads as it did. -/
def alignThreeSpec : ChangeSpec := { name := "alignThree", fn := fun _ => fun
  | [d1, d2, d3, d4] => { results := [.lit (.bool true)], args := [d1, d2, d3, d4] }
  | _ => none }
def alignThreeRow : OpenClaim := { program := "ytobajknhnjceiaadoor", sum := "03a2797f2c049033b0a26cfb30a28c3b5c77ebc45362f1b616245adc89d45b65", func := "cognate/cognatelaw21.AlignThree", spec := "alignThree", inPlace := ["internal/bytealg.IndexByteString", "internal/bytealg.IndexString"], unfollowed := true, recurses := true, named := ["unicode/utf8.first", "unicode/utf8.acceptRanges", "internal/bytealg.MaxLen"], plainKeys := false, apart := false, laid := [("unicode/utf8.acceptRanges", laid_unicode_utf8_acceptRanges), ("unicode/utf8.first", laid_unicode_utf8_first)] }
def AlignThreeSaid : Prop := alignThreeRow.holds Tryd.pinned (OpenSpec.ofChange alignThreeSpec)

/-- ITS FALSE NEIGHBOUR: 'it returns false'. Refute it at one input. -/
def alignThreeWrong : ChangeSpec := { name := "alignThree", fn := fun _ => fun
  | [d1, d2, d3, d4] => { results := [.lit (.bool false)], args := [d1, d2, d3, d4] }
  | _ => none }
def AlignThreeWrongFalsely : Prop := alignThreeRow.holds Tryd.pinned (OpenSpec.ofChange alignThreeWrong)

/-- 'cognatelaw21.AlignNear': WHATEVER THE INPUT: true; the input reads as it did. -/
def alignNearSpec : ChangeSpec := { name := "alignNear", fn := fun _ => fun
  | [d1, d2, d3] => { results := [.lit (.bool true)], args := [d1, d2, d3] }
  | _ => none }
def alignNearRow : OpenClaim := { program := "ytobajknhnjceiaadoor", sum := "03a2797f2c049033b0a26cfb30a28c3b5c77ebc45362f1b616245adc89d45b65", func := "cognate/cognatelaw21.AlignNear", spec := "alignNear", inPlace := ["internal/bytealg.IndexByteString", "internal/bytealg.IndexString"], unfollowed := true, recurses := true, named := ["unicode/utf8.first", "unicode/utf8.acceptRanges", "internal/bytealg.MaxLen"], plainKeys := false, apart := false, laid := [("unicode/utf8.acceptRanges", laid_unicode_utf8_acceptRanges), ("unicode/utf8.first", laid_unicode_utf8_first)] }
def AlignNearSaid : Prop := alignNearRow.holds Tryd.pinned (OpenSpec.ofChange alignNearSpec)

/-- ITS FALSE NEIGHBOUR: 'it returns false'. Refute it at one input. -/
def alignNearWrong : ChangeSpec := { name := "alignNear", fn := fun _ => fun
  | [d1, d2, d3] => { results := [.lit (.bool false)], args := [d1, d2, d3] }
  | _ => none }
def AlignNearWrongFalsely : Prop := alignNearRow.holds Tryd.pinned (OpenSpec.ofChange alignNearWrong)

/-- 'cognatelaw21.AlignWords': WHATEVER THE INPUT: true; the input reads as it did. -/
def alignWordsSpec : ChangeSpec := { name := "alignWords", fn := fun _ => fun
  | [d1, d2, d3, d4, d5] => { results := [.lit (.bool true)], args := [d1, d2, d3, d4, d5] }
  | _ => none }
def alignWordsRow : OpenClaim := { program := "ytobajknhnjceiaadoor", sum := "03a2797f2c049033b0a26cfb30a28c3b5c77ebc45362f1b616245adc89d45b65", func := "cognate/cognatelaw21.AlignWords", spec := "alignWords", inPlace := ["internal/bytealg.IndexByteString", "internal/bytealg.IndexString"], unfollowed := true, recurses := true, named := ["unicode/utf8.first", "unicode/utf8.acceptRanges", "internal/bytealg.MaxLen"], plainKeys := false, apart := false, laid := [("unicode/utf8.acceptRanges", laid_unicode_utf8_acceptRanges), ("unicode/utf8.first", laid_unicode_utf8_first)] }
def AlignWordsSaid : Prop := alignWordsRow.holds Tryd.pinned (OpenSpec.ofChange alignWordsSpec)

/-- ITS FALSE NEIGHBOUR: 'it returns false'. Refute it at one input. -/
def alignWordsWrong : ChangeSpec := { name := "alignWords", fn := fun _ => fun
  | [d1, d2, d3, d4, d5] => { results := [.lit (.bool false)], args := [d1, d2, d3, d4, d5] }
  | _ => none }
def AlignWordsWrongFalsely : Prop := alignWordsRow.holds Tryd.pinned (OpenSpec.ofChange alignWordsWrong)

/-- 'cognatelaw21.AlignLeast': WHATEVER THE INPUT: true; the input reads as it did. -/
def alignLeastSpec : ChangeSpec := { name := "alignLeast", fn := fun _ => fun
  | [d1, d2, d3, d4] => { results := [.lit (.bool true)], args := [d1, d2, d3, d4] }
  | _ => none }
def alignLeastRow : OpenClaim := { program := "ytobajknhnjceiaadoor", sum := "03a2797f2c049033b0a26cfb30a28c3b5c77ebc45362f1b616245adc89d45b65", func := "cognate/cognatelaw21.AlignLeast", spec := "alignLeast", inPlace := ["internal/bytealg.IndexByteString", "internal/bytealg.IndexString"], unfollowed := true, recurses := true, named := ["unicode/utf8.first", "unicode/utf8.acceptRanges", "internal/bytealg.MaxLen"], plainKeys := false, apart := false, laid := [("unicode/utf8.acceptRanges", laid_unicode_utf8_acceptRanges), ("unicode/utf8.first", laid_unicode_utf8_first)] }
def AlignLeastSaid : Prop := alignLeastRow.holds Tryd.pinned (OpenSpec.ofChange alignLeastSpec)

/-- ITS FALSE NEIGHBOUR: 'it returns false'. Refute it at one input. -/
def alignLeastWrong : ChangeSpec := { name := "alignLeast", fn := fun _ => fun
  | [d1, d2, d3, d4] => { results := [.lit (.bool false)], args := [d1, d2, d3, d4] }
  | _ => none }
def AlignLeastWrongFalsely : Prop := alignLeastRow.holds Tryd.pinned (OpenSpec.ofChange alignLeastWrong)

/-- 'cognatelaw14.HarmonyNames': WHATEVER THE INPUT: true; the input reads as it did. -/
def harmonyNamesSpec : ChangeSpec := { name := "harmonyNames", fn := fun _ => fun
  | [] => { results := [.lit (.bool true)], args := [] }
  | _ => none }
def harmonyNamesRow : OpenClaim := { program := "ytobajknhnjceiaadoor", sum := "03a2797f2c049033b0a26cfb30a28c3b5c77ebc45362f1b616245adc89d45b65", func := "cognate/cognatelaw14.HarmonyNames", spec := "harmonyNames", inPlace := ["internal/bytealg.IndexByteString", "internal/bytealg.IndexString"], unfollowed := true, recurses := true, named := ["unicode/utf8.first", "unicode/utf8.acceptRanges", "internal/bytealg.MaxLen"], plainKeys := false, apart := false, laid := [("unicode/utf8.acceptRanges", laid_unicode_utf8_acceptRanges), ("unicode/utf8.first", laid_unicode_utf8_first)] }
def HarmonyNamesSaid : Prop := harmonyNamesRow.holds Tryd.pinned (OpenSpec.ofChange harmonyNamesSpec)

/-- ITS FALSE NEIGHBOUR: 'it returns false'. Refute it at one input. -/
def harmonyNamesWrong : ChangeSpec := { name := "harmonyNames", fn := fun _ => fun
  | [] => { results := [.lit (.bool false)], args := [] }
  | _ => none }
def HarmonyNamesWrongFalsely : Prop := harmonyNamesRow.holds Tryd.pinned (OpenSpec.ofChange harmonyNamesWrong)

/-- 'cognatelaw14.HarmonyWords': WHATEVER THE INPUT: true; the input reads as it did. -/
def harmonyWordsSpec : ChangeSpec := { name := "harmonyWords", fn := fun _ => fun
  | [d1, d2, d3, d4, d5] => { results := [.lit (.bool true)], args := [d1, d2, d3, d4, d5] }
  | _ => none }
def harmonyWordsRow : OpenClaim := { program := "ytobajknhnjceiaadoor", sum := "03a2797f2c049033b0a26cfb30a28c3b5c77ebc45362f1b616245adc89d45b65", func := "cognate/cognatelaw14.HarmonyWords", spec := "harmonyWords", inPlace := ["internal/bytealg.IndexByteString", "internal/bytealg.IndexString"], unfollowed := true, recurses := true, named := ["unicode/utf8.first", "unicode/utf8.acceptRanges", "internal/bytealg.MaxLen"], plainKeys := false, apart := false, laid := [("unicode/utf8.acceptRanges", laid_unicode_utf8_acceptRanges), ("unicode/utf8.first", laid_unicode_utf8_first)] }
def HarmonyWordsSaid : Prop := harmonyWordsRow.holds Tryd.pinned (OpenSpec.ofChange harmonyWordsSpec)

/-- ITS FALSE NEIGHBOUR: 'it returns false'. Refute it at one input. -/
def harmonyWordsWrong : ChangeSpec := { name := "harmonyWords", fn := fun _ => fun
  | [d1, d2, d3, d4, d5] => { results := [.lit (.bool false)], args := [d1, d2, d3, d4, d5] }
  | _ => none }
def HarmonyWordsWrongFalsely : Prop := harmonyWordsRow.holds Tryd.pinned (OpenSpec.ofChange harmonyWordsWrong)

/-- 'cognatelaw14.HarmonySets': WHATEVER THE INPUT: true; the input reads as it did. -/
def harmonySetsSpec : ChangeSpec := { name := "harmonySets", fn := fun _ => fun
  | [d1, d2, d3] => { results := [.lit (.bool true)], args := [d1, d2, d3] }
  | _ => none }
def harmonySetsRow : OpenClaim := { program := "ytobajknhnjceiaadoor", sum := "03a2797f2c049033b0a26cfb30a28c3b5c77ebc45362f1b616245adc89d45b65", func := "cognate/cognatelaw14.HarmonySets", spec := "harmonySets", inPlace := ["internal/bytealg.IndexByteString", "internal/bytealg.IndexString"], unfollowed := true, recurses := true, named := ["unicode/utf8.first", "unicode/utf8.acceptRanges", "internal/bytealg.MaxLen"], plainKeys := false, apart := false, laid := [("unicode/utf8.acceptRanges", laid_unicode_utf8_acceptRanges), ("unicode/utf8.first", laid_unicode_utf8_first)] }
def HarmonySetsSaid : Prop := harmonySetsRow.holds Tryd.pinned (OpenSpec.ofChange harmonySetsSpec)

/-- ITS FALSE NEIGHBOUR: 'it returns false'. Refute it at one input. -/
def harmonySetsWrong : ChangeSpec := { name := "harmonySets", fn := fun _ => fun
  | [d1, d2, d3] => { results := [.lit (.bool false)], args := [d1, d2, d3] }
  | _ => none }
def HarmonySetsWrongFalsely : Prop := harmonySetsRow.holds Tryd.pinned (OpenSpec.ofChange harmonySetsWrong)

/-- 'cognatelaw14.HarmonyLetters': WHATEVER THE INPUT: true; the input reads as it did. -/
def harmonyLettersSpec : ChangeSpec := { name := "harmonyLetters", fn := fun _ => fun
  | [d1, d2, d3, d4] => { results := [.lit (.bool true)], args := [d1, d2, d3, d4] }
  | _ => none }
def harmonyLettersRow : OpenClaim := { program := "ytobajknhnjceiaadoor", sum := "03a2797f2c049033b0a26cfb30a28c3b5c77ebc45362f1b616245adc89d45b65", func := "cognate/cognatelaw14.HarmonyLetters", spec := "harmonyLetters", inPlace := ["internal/bytealg.IndexByteString", "internal/bytealg.IndexString"], unfollowed := true, recurses := true, named := ["unicode/utf8.first", "unicode/utf8.acceptRanges", "internal/bytealg.MaxLen"], plainKeys := false, apart := false, laid := [("unicode/utf8.acceptRanges", laid_unicode_utf8_acceptRanges), ("unicode/utf8.first", laid_unicode_utf8_first)] }
def HarmonyLettersSaid : Prop := harmonyLettersRow.holds Tryd.pinned (OpenSpec.ofChange harmonyLettersSpec)

/-- ITS FALSE NEIGHBOUR: 'it returns false'. Refute it at one input. -/
def harmonyLettersWrong : ChangeSpec := { name := "harmonyLetters", fn := fun _ => fun
  | [d1, d2, d3, d4] => { results := [.lit (.bool false)], args := [d1, d2, d3, d4] }
  | _ => none }
def HarmonyLettersWrongFalsely : Prop := harmonyLettersRow.holds Tryd.pinned (OpenSpec.ofChange harmonyLettersWrong)

/-- 'cognatelaw14.HarmonyMeets': WHATEVER THE INPUT: true; the input reads as it did. -/
def harmonyMeetsSpec : ChangeSpec := { name := "harmonyMeets", fn := fun _ => fun
  | [d1, d2, d3, d4, d5] => { results := [.lit (.bool true)], args := [d1, d2, d3, d4, d5] }
  | _ => none }
def harmonyMeetsRow : OpenClaim := { program := "ytobajknhnjceiaadoor", sum := "03a2797f2c049033b0a26cfb30a28c3b5c77ebc45362f1b616245adc89d45b65", func := "cognate/cognatelaw14.HarmonyMeets", spec := "harmonyMeets", inPlace := ["internal/bytealg.IndexByteString", "internal/bytealg.IndexString"], unfollowed := true, recurses := true, named := ["unicode/utf8.first", "unicode/utf8.acceptRanges", "internal/bytealg.MaxLen"], plainKeys := false, apart := false, laid := [("unicode/utf8.acceptRanges", laid_unicode_utf8_acceptRanges), ("unicode/utf8.first", laid_unicode_utf8_first)] }
def HarmonyMeetsSaid : Prop := harmonyMeetsRow.holds Tryd.pinned (OpenSpec.ofChange harmonyMeetsSpec)

/-- ITS FALSE NEIGHBOUR: 'it returns false'. Refute it at one input. -/
def harmonyMeetsWrong : ChangeSpec := { name := "harmonyMeets", fn := fun _ => fun
  | [d1, d2, d3, d4, d5] => { results := [.lit (.bool false)], args := [d1, d2, d3, d4, d5] }
  | _ => none }
def HarmonyMeetsWrongFalsely : Prop := harmonyMeetsRow.holds Tryd.pinned (OpenSpec.ofChange harmonyMeetsWrong)

/-- 'cognatelaw14.HarmonyTurned': WHATEVER THE INPUT: true; the input reads as it did. -/
def harmonyTurnedSpec : ChangeSpec := { name := "harmonyTurned", fn := fun _ => fun
  | [d1, d2, d3, d4] => { results := [.lit (.bool true)], args := [d1, d2, d3, d4] }
  | _ => none }
def harmonyTurnedRow : OpenClaim := { program := "ytobajknhnjceiaadoor", sum := "03a2797f2c049033b0a26cfb30a28c3b5c77ebc45362f1b616245adc89d45b65", func := "cognate/cognatelaw14.HarmonyTurned", spec := "harmonyTurned", inPlace := ["internal/bytealg.IndexByteString", "internal/bytealg.IndexString"], unfollowed := true, recurses := true, named := ["unicode/utf8.first", "unicode/utf8.acceptRanges", "internal/bytealg.MaxLen"], plainKeys := false, apart := false, laid := [("unicode/utf8.acceptRanges", laid_unicode_utf8_acceptRanges), ("unicode/utf8.first", laid_unicode_utf8_first)] }
def HarmonyTurnedSaid : Prop := harmonyTurnedRow.holds Tryd.pinned (OpenSpec.ofChange harmonyTurnedSpec)

/-- ITS FALSE NEIGHBOUR: 'it returns false'. Refute it at one input. -/
def harmonyTurnedWrong : ChangeSpec := { name := "harmonyTurned", fn := fun _ => fun
  | [d1, d2, d3, d4] => { results := [.lit (.bool false)], args := [d1, d2, d3, d4] }
  | _ => none }
def HarmonyTurnedWrongFalsely : Prop := harmonyTurnedRow.holds Tryd.pinned (OpenSpec.ofChange harmonyTurnedWrong)

/-- 'cognatelaw14.HarmonyParts': WHATEVER THE INPUT: true; the input reads as it did. -/
def harmonyPartsSpec : ChangeSpec := { name := "harmonyParts", fn := fun _ => fun
  | [d1, d2, d3] => { results := [.lit (.bool true)], args := [d1, d2, d3] }
  | _ => none }
def harmonyPartsRow : OpenClaim := { program := "ytobajknhnjceiaadoor", sum := "03a2797f2c049033b0a26cfb30a28c3b5c77ebc45362f1b616245adc89d45b65", func := "cognate/cognatelaw14.HarmonyParts", spec := "harmonyParts", inPlace := ["internal/bytealg.IndexByteString", "internal/bytealg.IndexString"], unfollowed := true, recurses := true, named := ["unicode/utf8.first", "unicode/utf8.acceptRanges", "internal/bytealg.MaxLen"], plainKeys := false, apart := false, laid := [("unicode/utf8.acceptRanges", laid_unicode_utf8_acceptRanges), ("unicode/utf8.first", laid_unicode_utf8_first)] }
def HarmonyPartsSaid : Prop := harmonyPartsRow.holds Tryd.pinned (OpenSpec.ofChange harmonyPartsSpec)

/-- ITS FALSE NEIGHBOUR: 'it returns false'. Refute it at one input. -/
def harmonyPartsWrong : ChangeSpec := { name := "harmonyParts", fn := fun _ => fun
  | [d1, d2, d3] => { results := [.lit (.bool false)], args := [d1, d2, d3] }
  | _ => none }
def HarmonyPartsWrongFalsely : Prop := harmonyPartsRow.holds Tryd.pinned (OpenSpec.ofChange harmonyPartsWrong)

/- THE SECOND FORM. 'bulk': how many values and letters a reading holds, each counted each time it is reached (what is shared counts as often as it is met; a slice's spare places count too). A statement '..UptoSaid' is the law's where the arguments, and the package variables that the reading takes, are together of bulk at most 1048576: NARROWER than '..Said'. Prove '..Said' where nothing that the law and all that it calls make is longer than what came in: it says more and counts as full. Else prove '..UptoSaid'. A law counts once. -/
mutual
def uptoBulk {H : Type} : DataW H → Nat
  | .lit (.string bytes) => bytes.length + 1
  | .lit _ => 1
  | .nil => 1
  | .ptr d => uptoBulk d + 1
  | .slice elems spare => uptoBulkAll elems + uptoBulkAll spare + 1
  | .agg parts => uptoBulkAll parts + 1
  | .iface _ d => uptoBulk d + 1
  | .map entries => uptoBulkEntries entries + 1
  | .held _ => 1
def uptoBulkAll {H : Type} : List (DataW H) → Nat
  | [] => 0
  | d :: r => uptoBulk d + uptoBulkAll r
def uptoBulkEntries {H : Type} : List (Lit × DataW H) → Nat
  | [] => 0
  | x :: r => uptoBulkEntry x + uptoBulkEntries r
def uptoBulkEntry {H : Type} : Lit × DataW H → Nat
  | (.string bytes, d) => bytes.length + uptoBulk d + 1
  | (_, d) => uptoBulk d + 1
 end
def uptoSmall : (H : Type) → List (DataW H) → Bool := fun _ ds => decide (uptoBulkAll ds ≤ 1048576)
def OpenSpec.upto (s : _root_.Go.ChangeSpec) : _root_.Go.OpenSpec := { _root_.Go.OpenSpec.ofChange s with cond := some uptoSmall }

/-- 'cognatelaw21.AlignNearest', WHERE WHAT IT READS IS OF BULK AT MOST 1048576: true; the input reads as it did. -/
def alignNearestUptoRow : OpenClaim := { program := "ytobajknhnjceiaadoor", sum := "03a2797f2c049033b0a26cfb30a28c3b5c77ebc45362f1b616245adc89d45b65", func := "cognate/cognatelaw21.AlignNearest", spec := "alignNearest", inPlace := ["internal/bytealg.IndexByteString", "internal/bytealg.IndexString"], unfollowed := true, recurses := true, named := ["unicode/utf8.first", "unicode/utf8.acceptRanges", "internal/bytealg.MaxLen"], plainKeys := false, apart := false, laid := [("unicode/utf8.acceptRanges", laid_unicode_utf8_acceptRanges), ("unicode/utf8.first", laid_unicode_utf8_first)], narrowed := true }
def AlignNearestUptoSaid : Prop := alignNearestUptoRow.holds Tryd.pinned (OpenSpec.upto alignNearestSpec)

/-- 'cognatelaw21.AlignThree', WHERE WHAT IT READS IS OF BULK AT MOST 1048576: true; the input reads as it did. -/
def alignThreeUptoRow : OpenClaim := { program := "ytobajknhnjceiaadoor", sum := "03a2797f2c049033b0a26cfb30a28c3b5c77ebc45362f1b616245adc89d45b65", func := "cognate/cognatelaw21.AlignThree", spec := "alignThree", inPlace := ["internal/bytealg.IndexByteString", "internal/bytealg.IndexString"], unfollowed := true, recurses := true, named := ["unicode/utf8.first", "unicode/utf8.acceptRanges", "internal/bytealg.MaxLen"], plainKeys := false, apart := false, laid := [("unicode/utf8.acceptRanges", laid_unicode_utf8_acceptRanges), ("unicode/utf8.first", laid_unicode_utf8_first)], narrowed := true }
def AlignThreeUptoSaid : Prop := alignThreeUptoRow.holds Tryd.pinned (OpenSpec.upto alignThreeSpec)

/-- 'cognatelaw21.AlignNear', WHERE WHAT IT READS IS OF BULK AT MOST 1048576: true; the input reads as it did. -/
def alignNearUptoRow : OpenClaim := { program := "ytobajknhnjceiaadoor", sum := "03a2797f2c049033b0a26cfb30a28c3b5c77ebc45362f1b616245adc89d45b65", func := "cognate/cognatelaw21.AlignNear", spec := "alignNear", inPlace := ["internal/bytealg.IndexByteString", "internal/bytealg.IndexString"], unfollowed := true, recurses := true, named := ["unicode/utf8.first", "unicode/utf8.acceptRanges", "internal/bytealg.MaxLen"], plainKeys := false, apart := false, laid := [("unicode/utf8.acceptRanges", laid_unicode_utf8_acceptRanges), ("unicode/utf8.first", laid_unicode_utf8_first)], narrowed := true }
def AlignNearUptoSaid : Prop := alignNearUptoRow.holds Tryd.pinned (OpenSpec.upto alignNearSpec)

/-- 'cognatelaw21.AlignWords', WHERE WHAT IT READS IS OF BULK AT MOST 1048576: true; the input reads as it did. -/
def alignWordsUptoRow : OpenClaim := { program := "ytobajknhnjceiaadoor", sum := "03a2797f2c049033b0a26cfb30a28c3b5c77ebc45362f1b616245adc89d45b65", func := "cognate/cognatelaw21.AlignWords", spec := "alignWords", inPlace := ["internal/bytealg.IndexByteString", "internal/bytealg.IndexString"], unfollowed := true, recurses := true, named := ["unicode/utf8.first", "unicode/utf8.acceptRanges", "internal/bytealg.MaxLen"], plainKeys := false, apart := false, laid := [("unicode/utf8.acceptRanges", laid_unicode_utf8_acceptRanges), ("unicode/utf8.first", laid_unicode_utf8_first)], narrowed := true }
def AlignWordsUptoSaid : Prop := alignWordsUptoRow.holds Tryd.pinned (OpenSpec.upto alignWordsSpec)

/-- 'cognatelaw21.AlignLeast', WHERE WHAT IT READS IS OF BULK AT MOST 1048576: true; the input reads as it did. -/
def alignLeastUptoRow : OpenClaim := { program := "ytobajknhnjceiaadoor", sum := "03a2797f2c049033b0a26cfb30a28c3b5c77ebc45362f1b616245adc89d45b65", func := "cognate/cognatelaw21.AlignLeast", spec := "alignLeast", inPlace := ["internal/bytealg.IndexByteString", "internal/bytealg.IndexString"], unfollowed := true, recurses := true, named := ["unicode/utf8.first", "unicode/utf8.acceptRanges", "internal/bytealg.MaxLen"], plainKeys := false, apart := false, laid := [("unicode/utf8.acceptRanges", laid_unicode_utf8_acceptRanges), ("unicode/utf8.first", laid_unicode_utf8_first)], narrowed := true }
def AlignLeastUptoSaid : Prop := alignLeastUptoRow.holds Tryd.pinned (OpenSpec.upto alignLeastSpec)

/-- 'cognatelaw14.HarmonyNames', WHERE WHAT IT READS IS OF BULK AT MOST 1048576: true; the input reads as it did. -/
def harmonyNamesUptoRow : OpenClaim := { program := "ytobajknhnjceiaadoor", sum := "03a2797f2c049033b0a26cfb30a28c3b5c77ebc45362f1b616245adc89d45b65", func := "cognate/cognatelaw14.HarmonyNames", spec := "harmonyNames", inPlace := ["internal/bytealg.IndexByteString", "internal/bytealg.IndexString"], unfollowed := true, recurses := true, named := ["unicode/utf8.first", "unicode/utf8.acceptRanges", "internal/bytealg.MaxLen"], plainKeys := false, apart := false, laid := [("unicode/utf8.acceptRanges", laid_unicode_utf8_acceptRanges), ("unicode/utf8.first", laid_unicode_utf8_first)], narrowed := true }
def HarmonyNamesUptoSaid : Prop := harmonyNamesUptoRow.holds Tryd.pinned (OpenSpec.upto harmonyNamesSpec)

/-- 'cognatelaw14.HarmonyWords', WHERE WHAT IT READS IS OF BULK AT MOST 1048576: true; the input reads as it did. -/
def harmonyWordsUptoRow : OpenClaim := { program := "ytobajknhnjceiaadoor", sum := "03a2797f2c049033b0a26cfb30a28c3b5c77ebc45362f1b616245adc89d45b65", func := "cognate/cognatelaw14.HarmonyWords", spec := "harmonyWords", inPlace := ["internal/bytealg.IndexByteString", "internal/bytealg.IndexString"], unfollowed := true, recurses := true, named := ["unicode/utf8.first", "unicode/utf8.acceptRanges", "internal/bytealg.MaxLen"], plainKeys := false, apart := false, laid := [("unicode/utf8.acceptRanges", laid_unicode_utf8_acceptRanges), ("unicode/utf8.first", laid_unicode_utf8_first)], narrowed := true }
def HarmonyWordsUptoSaid : Prop := harmonyWordsUptoRow.holds Tryd.pinned (OpenSpec.upto harmonyWordsSpec)

/-- 'cognatelaw14.HarmonySets', WHERE WHAT IT READS IS OF BULK AT MOST 1048576: true; the input reads as it did. -/
def harmonySetsUptoRow : OpenClaim := { program := "ytobajknhnjceiaadoor", sum := "03a2797f2c049033b0a26cfb30a28c3b5c77ebc45362f1b616245adc89d45b65", func := "cognate/cognatelaw14.HarmonySets", spec := "harmonySets", inPlace := ["internal/bytealg.IndexByteString", "internal/bytealg.IndexString"], unfollowed := true, recurses := true, named := ["unicode/utf8.first", "unicode/utf8.acceptRanges", "internal/bytealg.MaxLen"], plainKeys := false, apart := false, laid := [("unicode/utf8.acceptRanges", laid_unicode_utf8_acceptRanges), ("unicode/utf8.first", laid_unicode_utf8_first)], narrowed := true }
def HarmonySetsUptoSaid : Prop := harmonySetsUptoRow.holds Tryd.pinned (OpenSpec.upto harmonySetsSpec)

/-- 'cognatelaw14.HarmonyLetters', WHERE WHAT IT READS IS OF BULK AT MOST 1048576: true; the input reads as it did. -/
def harmonyLettersUptoRow : OpenClaim := { program := "ytobajknhnjceiaadoor", sum := "03a2797f2c049033b0a26cfb30a28c3b5c77ebc45362f1b616245adc89d45b65", func := "cognate/cognatelaw14.HarmonyLetters", spec := "harmonyLetters", inPlace := ["internal/bytealg.IndexByteString", "internal/bytealg.IndexString"], unfollowed := true, recurses := true, named := ["unicode/utf8.first", "unicode/utf8.acceptRanges", "internal/bytealg.MaxLen"], plainKeys := false, apart := false, laid := [("unicode/utf8.acceptRanges", laid_unicode_utf8_acceptRanges), ("unicode/utf8.first", laid_unicode_utf8_first)], narrowed := true }
def HarmonyLettersUptoSaid : Prop := harmonyLettersUptoRow.holds Tryd.pinned (OpenSpec.upto harmonyLettersSpec)

/-- 'cognatelaw14.HarmonyMeets', WHERE WHAT IT READS IS OF BULK AT MOST 1048576: true; the input reads as it did. -/
def harmonyMeetsUptoRow : OpenClaim := { program := "ytobajknhnjceiaadoor", sum := "03a2797f2c049033b0a26cfb30a28c3b5c77ebc45362f1b616245adc89d45b65", func := "cognate/cognatelaw14.HarmonyMeets", spec := "harmonyMeets", inPlace := ["internal/bytealg.IndexByteString", "internal/bytealg.IndexString"], unfollowed := true, recurses := true, named := ["unicode/utf8.first", "unicode/utf8.acceptRanges", "internal/bytealg.MaxLen"], plainKeys := false, apart := false, laid := [("unicode/utf8.acceptRanges", laid_unicode_utf8_acceptRanges), ("unicode/utf8.first", laid_unicode_utf8_first)], narrowed := true }
def HarmonyMeetsUptoSaid : Prop := harmonyMeetsUptoRow.holds Tryd.pinned (OpenSpec.upto harmonyMeetsSpec)

/-- 'cognatelaw14.HarmonyTurned', WHERE WHAT IT READS IS OF BULK AT MOST 1048576: true; the input reads as it did. -/
def harmonyTurnedUptoRow : OpenClaim := { program := "ytobajknhnjceiaadoor", sum := "03a2797f2c049033b0a26cfb30a28c3b5c77ebc45362f1b616245adc89d45b65", func := "cognate/cognatelaw14.HarmonyTurned", spec := "harmonyTurned", inPlace := ["internal/bytealg.IndexByteString", "internal/bytealg.IndexString"], unfollowed := true, recurses := true, named := ["unicode/utf8.first", "unicode/utf8.acceptRanges", "internal/bytealg.MaxLen"], plainKeys := false, apart := false, laid := [("unicode/utf8.acceptRanges", laid_unicode_utf8_acceptRanges), ("unicode/utf8.first", laid_unicode_utf8_first)], narrowed := true }
def HarmonyTurnedUptoSaid : Prop := harmonyTurnedUptoRow.holds Tryd.pinned (OpenSpec.upto harmonyTurnedSpec)

/-- 'cognatelaw14.HarmonyParts', WHERE WHAT IT READS IS OF BULK AT MOST 1048576: true; the input reads as it did. -/
def harmonyPartsUptoRow : OpenClaim := { program := "ytobajknhnjceiaadoor", sum := "03a2797f2c049033b0a26cfb30a28c3b5c77ebc45362f1b616245adc89d45b65", func := "cognate/cognatelaw14.HarmonyParts", spec := "harmonyParts", inPlace := ["internal/bytealg.IndexByteString", "internal/bytealg.IndexString"], unfollowed := true, recurses := true, named := ["unicode/utf8.first", "unicode/utf8.acceptRanges", "internal/bytealg.MaxLen"], plainKeys := false, apart := false, laid := [("unicode/utf8.acceptRanges", laid_unicode_utf8_acceptRanges), ("unicode/utf8.first", laid_unicode_utf8_first)], narrowed := true }
def HarmonyPartsUptoSaid : Prop := harmonyPartsUptoRow.holds Tryd.pinned (OpenSpec.upto harmonyPartsSpec)

end Rows
end Go.Proofs.YtobajknhnjceiaaDoor
