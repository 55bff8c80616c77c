/-
  NARROWER THAN 'FOR EVERY INPUT', by the rows' own cells (each row's printed sentence says how): HarmonyNames: laid · HarmonyWords: laid · HarmonySets: laid · HarmonyLetters: laid · HarmonyMeets: laid · HarmonyTurned: laid · HarmonyParts: laid.
  DERIVED. THE GIVEN ROWS OF THIS SEAT. 7 by the template 'for every input the law returns true; each argument reads behind the call as it read before'; 0 by the template 'total and deterministic' (their statements: YtcnjgfadihimiaaDoorTotals.lean).
  GIVEN WITH THE SEED: the statements are not yours to turn. If you find one false, say at which input.
  Laid BY PROGRAM, IN A SANDBOX (cutbox-rows.mjs): the forced cells as the released guide's own fill.sh prints them over the translation 1d8bc0f32248908e… (all of the seat's roots in one cut). By AI agents, Wed Nov 11 2026. No macro, syntax, notation, axiom, sorry.
-/
import Derived.Test.YtcnjgfadihimiaaDoorChecked
import GoSem.PinnedTables
import GoSem.Claim
import GoSem.ClaimJoined
import GoSem.ClaimMapViews
import Derived.JoinedTies
import Derived.KernelRfl
namespace Go.Proofs.YtcnjgfadihimiaaDoor
/- THE CELL 'sum', in the pinned program and in every row, IS THE sha256 OF THE DUMP (.gsa) THAT YtcnjgfadihimiaaDoorProg.lean LOADS. Nothing in Lean hashes anything: it is a label: what it is worth is what the hold of that sum in a sandbox is worth. -/
noncomputable def Tryd.pinned : Pinned := { name := "ytcnjgfadihimiaadoor", sum := "1d8bc0f32248908e93f08186b712d50beb28d3e69f5a11f27918a860420b2ba6", checked := Tryd.checked }
namespace Rows
def none {H : Type} : Left H := { results := [], args := [] }

/- WHAT THE LISTED PACKAGE-LEVEL VARIABLES READ AS WHEN THE CALL BEGINS. Each datum BY PROGRAM (the guide's laid-datum.mjs) off the statement by which the dump's own 'gosem.cut.vars' lays the variable. In a bare row this is a premise. The card (YtcnjgfadihimiaaDoorCards.lean) ties it to the program's text. -/
def laid_unicode_utf8_acceptRanges {H : Type} : DataW H := .agg [.agg [.lit (.int .u8 128), .lit (.int .u8 191)], .agg [.lit (.int .u8 160), .lit (.int .u8 191)], .agg [.lit (.int .u8 128), .lit (.int .u8 159)], .agg [.lit (.int .u8 144), .lit (.int .u8 191)], .agg [.lit (.int .u8 128), .lit (.int .u8 143)], .agg [.lit (.int .u8 0), .lit (.int .u8 0)], .agg [.lit (.int .u8 0), .lit (.int .u8 0)], .agg [.lit (.int .u8 0), .lit (.int .u8 0)], .agg [.lit (.int .u8 0), .lit (.int .u8 0)], .agg [.lit (.int .u8 0), .lit (.int .u8 0)], .agg [.lit (.int .u8 0), .lit (.int .u8 0)], .agg [.lit (.int .u8 0), .lit (.int .u8 0)], .agg [.lit (.int .u8 0), .lit (.int .u8 0)], .agg [.lit (.int .u8 0), .lit (.int .u8 0)], .agg [.lit (.int .u8 0), .lit (.int .u8 0)], .agg [.lit (.int .u8 0), .lit (.int .u8 0)]]
/-- One of Go's own tables, pinned by name: the form's constant. -/
def laid_unicode_utf8_first : DataW Unit := Go.Pinned.utf8First

/-- 'cognatelaw14.HarmonyNames': WHATEVER THE INPUT: true; the input reads as it did. -/
def harmonyNamesSpec : ChangeSpec := { name := "harmonyNames", fn := fun _ => fun
  | [] => { results := [.lit (.bool true)], args := [] }
  | _ => none }
def harmonyNamesRow : OpenClaim := { program := "ytcnjgfadihimiaadoor", sum := "1d8bc0f32248908e93f08186b712d50beb28d3e69f5a11f27918a860420b2ba6", func := "cognate/cognatelaw14.HarmonyNames", spec := "harmonyNames", inPlace := ["internal/bytealg.IndexByteString", "internal/bytealg.IndexString"], unfollowed := true, recurses := true, named := ["unicode/utf8.first", "unicode/utf8.acceptRanges", "internal/bytealg.MaxLen"], plainKeys := false, apart := false, laid := [("unicode/utf8.acceptRanges", laid_unicode_utf8_acceptRanges), ("unicode/utf8.first", laid_unicode_utf8_first)] }
def HarmonyNamesSaid : Prop := harmonyNamesRow.holds Tryd.pinned (OpenSpec.ofChange harmonyNamesSpec)

/-- ITS FALSE NEIGHBOUR: 'it returns false'. Refute it at one input. -/
def harmonyNamesWrong : ChangeSpec := { name := "harmonyNames", fn := fun _ => fun
  | [] => { results := [.lit (.bool false)], args := [] }
  | _ => none }
def HarmonyNamesWrongFalsely : Prop := harmonyNamesRow.holds Tryd.pinned (OpenSpec.ofChange harmonyNamesWrong)

/-- 'cognatelaw14.HarmonyWords': WHATEVER THE INPUT: true; the input reads as it did. -/
def harmonyWordsSpec : ChangeSpec := { name := "harmonyWords", fn := fun _ => fun
  | [d1, d2, d3, d4, d5] => { results := [.lit (.bool true)], args := [d1, d2, d3, d4, d5] }
  | _ => none }
def harmonyWordsRow : OpenClaim := { program := "ytcnjgfadihimiaadoor", sum := "1d8bc0f32248908e93f08186b712d50beb28d3e69f5a11f27918a860420b2ba6", func := "cognate/cognatelaw14.HarmonyWords", spec := "harmonyWords", inPlace := ["internal/bytealg.IndexByteString", "internal/bytealg.IndexString"], unfollowed := true, recurses := true, named := ["unicode/utf8.first", "unicode/utf8.acceptRanges", "internal/bytealg.MaxLen"], plainKeys := false, apart := false, laid := [("unicode/utf8.acceptRanges", laid_unicode_utf8_acceptRanges), ("unicode/utf8.first", laid_unicode_utf8_first)] }
def HarmonyWordsSaid : Prop := harmonyWordsRow.holds Tryd.pinned (OpenSpec.ofChange harmonyWordsSpec)

/-- ITS FALSE NEIGHBOUR: 'it returns false'. Refute it at one input. -/
def harmonyWordsWrong : ChangeSpec := { name := "harmonyWords", fn := fun _ => fun
  | [d1, d2, d3, d4, d5] => { results := [.lit (.bool false)], args := [d1, d2, d3, d4, d5] }
  | _ => none }
def HarmonyWordsWrongFalsely : Prop := harmonyWordsRow.holds Tryd.pinned (OpenSpec.ofChange harmonyWordsWrong)

/-- 'cognatelaw14.HarmonySets': WHATEVER THE INPUT: true; the input reads as it did. -/
def harmonySetsSpec : ChangeSpec := { name := "harmonySets", fn := fun _ => fun
  | [d1, d2, d3] => { results := [.lit (.bool true)], args := [d1, d2, d3] }
  | _ => none }
def harmonySetsRow : OpenClaim := { program := "ytcnjgfadihimiaadoor", sum := "1d8bc0f32248908e93f08186b712d50beb28d3e69f5a11f27918a860420b2ba6", func := "cognate/cognatelaw14.HarmonySets", spec := "harmonySets", inPlace := ["internal/bytealg.IndexByteString", "internal/bytealg.IndexString"], unfollowed := true, recurses := true, named := ["unicode/utf8.first", "unicode/utf8.acceptRanges", "internal/bytealg.MaxLen"], plainKeys := false, apart := false, laid := [("unicode/utf8.acceptRanges", laid_unicode_utf8_acceptRanges), ("unicode/utf8.first", laid_unicode_utf8_first)] }
def HarmonySetsSaid : Prop := harmonySetsRow.holds Tryd.pinned (OpenSpec.ofChange harmonySetsSpec)

/-- ITS FALSE NEIGHBOUR: 'it returns false'. Refute it at one input. -/
def harmonySetsWrong : ChangeSpec := { name := "harmonySets", fn := fun _ => fun
  | [d1, d2, d3] => { results := [.lit (.bool false)], args := [d1, d2, d3] }
  | _ => none }
def HarmonySetsWrongFalsely : Prop := harmonySetsRow.holds Tryd.pinned (OpenSpec.ofChange harmonySetsWrong)

/-- 'cognatelaw14.HarmonyLetters': WHATEVER THE INPUT: true; the input reads as it did. -/
def harmonyLettersSpec : ChangeSpec := { name := "harmonyLetters", fn := fun _ => fun
  | [d1, d2, d3, d4] => { results := [.lit (.bool true)], args := [d1, d2, d3, d4] }
  | _ => none }
def harmonyLettersRow : OpenClaim := { program := "ytcnjgfadihimiaadoor", sum := "1d8bc0f32248908e93f08186b712d50beb28d3e69f5a11f27918a860420b2ba6", func := "cognate/cognatelaw14.HarmonyLetters", spec := "harmonyLetters", inPlace := ["internal/bytealg.IndexByteString", "internal/bytealg.IndexString"], unfollowed := true, recurses := true, named := ["unicode/utf8.first", "unicode/utf8.acceptRanges", "internal/bytealg.MaxLen"], plainKeys := false, apart := false, laid := [("unicode/utf8.acceptRanges", laid_unicode_utf8_acceptRanges), ("unicode/utf8.first", laid_unicode_utf8_first)] }
def HarmonyLettersSaid : Prop := harmonyLettersRow.holds Tryd.pinned (OpenSpec.ofChange harmonyLettersSpec)

/-- ITS FALSE NEIGHBOUR: 'it returns false'. Refute it at one input. -/
def harmonyLettersWrong : ChangeSpec := { name := "harmonyLetters", fn := fun _ => fun
  | [d1, d2, d3, d4] => { results := [.lit (.bool false)], args := [d1, d2, d3, d4] }
  | _ => none }
def HarmonyLettersWrongFalsely : Prop := harmonyLettersRow.holds Tryd.pinned (OpenSpec.ofChange harmonyLettersWrong)

/-- 'cognatelaw14.HarmonyMeets': WHATEVER THE INPUT: true; the input reads as it did. -/
def harmonyMeetsSpec : ChangeSpec := { name := "harmonyMeets", fn := fun _ => fun
  | [d1, d2, d3, d4, d5] => { results := [.lit (.bool true)], args := [d1, d2, d3, d4, d5] }
  | _ => none }
def harmonyMeetsRow : OpenClaim := { program := "ytcnjgfadihimiaadoor", sum := "1d8bc0f32248908e93f08186b712d50beb28d3e69f5a11f27918a860420b2ba6", func := "cognate/cognatelaw14.HarmonyMeets", spec := "harmonyMeets", inPlace := ["internal/bytealg.IndexByteString", "internal/bytealg.IndexString"], unfollowed := true, recurses := true, named := ["unicode/utf8.first", "unicode/utf8.acceptRanges", "internal/bytealg.MaxLen"], plainKeys := false, apart := false, laid := [("unicode/utf8.acceptRanges", laid_unicode_utf8_acceptRanges), ("unicode/utf8.first", laid_unicode_utf8_first)] }
def HarmonyMeetsSaid : Prop := harmonyMeetsRow.holds Tryd.pinned (OpenSpec.ofChange harmonyMeetsSpec)

/-- ITS FALSE NEIGHBOUR: 'it returns false'. Refute it at one input. -/
def harmonyMeetsWrong : ChangeSpec := { name := "harmonyMeets", fn := fun _ => fun
  | [d1, d2, d3, d4, d5] => { results := [.lit (.bool false)], args := [d1, d2, d3, d4, d5] }
  | _ => none }
def HarmonyMeetsWrongFalsely : Prop := harmonyMeetsRow.holds Tryd.pinned (OpenSpec.ofChange harmonyMeetsWrong)

/-- 'cognatelaw14.HarmonyTurned': WHATEVER THE INPUT: true; the input reads as it did. -/
def harmonyTurnedSpec : ChangeSpec := { name := "harmonyTurned", fn := fun _ => fun
  | [d1, d2, d3, d4] => { results := [.lit (.bool true)], args := [d1, d2, d3, d4] }
  | _ => none }
def harmonyTurnedRow : OpenClaim := { program := "ytcnjgfadihimiaadoor", sum := "1d8bc0f32248908e93f08186b712d50beb28d3e69f5a11f27918a860420b2ba6", func := "cognate/cognatelaw14.HarmonyTurned", spec := "harmonyTurned", inPlace := ["internal/bytealg.IndexByteString", "internal/bytealg.IndexString"], unfollowed := true, recurses := true, named := ["unicode/utf8.first", "unicode/utf8.acceptRanges", "internal/bytealg.MaxLen"], plainKeys := false, apart := false, laid := [("unicode/utf8.acceptRanges", laid_unicode_utf8_acceptRanges), ("unicode/utf8.first", laid_unicode_utf8_first)] }
def HarmonyTurnedSaid : Prop := harmonyTurnedRow.holds Tryd.pinned (OpenSpec.ofChange harmonyTurnedSpec)

/-- ITS FALSE NEIGHBOUR: 'it returns false'. Refute it at one input. -/
def harmonyTurnedWrong : ChangeSpec := { name := "harmonyTurned", fn := fun _ => fun
  | [d1, d2, d3, d4] => { results := [.lit (.bool false)], args := [d1, d2, d3, d4] }
  | _ => none }
def HarmonyTurnedWrongFalsely : Prop := harmonyTurnedRow.holds Tryd.pinned (OpenSpec.ofChange harmonyTurnedWrong)

/-- 'cognatelaw14.HarmonyParts': WHATEVER THE INPUT: true; the input reads as it did. -/
def harmonyPartsSpec : ChangeSpec := { name := "harmonyParts", fn := fun _ => fun
  | [d1, d2, d3] => { results := [.lit (.bool true)], args := [d1, d2, d3] }
  | _ => none }
def harmonyPartsRow : OpenClaim := { program := "ytcnjgfadihimiaadoor", sum := "1d8bc0f32248908e93f08186b712d50beb28d3e69f5a11f27918a860420b2ba6", func := "cognate/cognatelaw14.HarmonyParts", spec := "harmonyParts", inPlace := ["internal/bytealg.IndexByteString", "internal/bytealg.IndexString"], unfollowed := true, recurses := true, named := ["unicode/utf8.first", "unicode/utf8.acceptRanges", "internal/bytealg.MaxLen"], plainKeys := false, apart := false, laid := [("unicode/utf8.acceptRanges", laid_unicode_utf8_acceptRanges), ("unicode/utf8.first", laid_unicode_utf8_first)] }
def HarmonyPartsSaid : Prop := harmonyPartsRow.holds Tryd.pinned (OpenSpec.ofChange harmonyPartsSpec)

/-- ITS FALSE NEIGHBOUR: 'it returns false'. Refute it at one input. -/
def harmonyPartsWrong : ChangeSpec := { name := "harmonyParts", fn := fun _ => fun
  | [d1, d2, d3] => { results := [.lit (.bool false)], args := [d1, d2, d3] }
  | _ => none }
def HarmonyPartsWrongFalsely : Prop := harmonyPartsRow.holds Tryd.pinned (OpenSpec.ofChange harmonyPartsWrong)

/- THE SECOND FORM. 'bulk': how many values and letters a reading holds, each counted each time it is reached (what is shared counts as often as it is met; a slice's spare places count too). A statement '..UptoSaid' is the law's where the arguments, and the package variables that the reading takes, are together of bulk at most 1048576: NARROWER than '..Said'. Prove '..Said' where nothing that the law and all that it calls make is longer than what came in: it says more and counts as full. Else prove '..UptoSaid'. A law counts once. -/
mutual
def uptoBulk {H : Type} : DataW H → Nat
  | .lit (.string bytes) => bytes.length + 1
  | .lit _ => 1
  | .nil => 1
  | .ptr d => uptoBulk d + 1
  | .slice elems spare => uptoBulkAll elems + uptoBulkAll spare + 1
  | .agg parts => uptoBulkAll parts + 1
  | .iface _ d => uptoBulk d + 1
  | .map entries => uptoBulkEntries entries + 1
  | .held _ => 1
def uptoBulkAll {H : Type} : List (DataW H) → Nat
  | [] => 0
  | d :: r => uptoBulk d + uptoBulkAll r
def uptoBulkEntries {H : Type} : List (Lit × DataW H) → Nat
  | [] => 0
  | x :: r => uptoBulkEntry x + uptoBulkEntries r
def uptoBulkEntry {H : Type} : Lit × DataW H → Nat
  | (.string bytes, d) => bytes.length + uptoBulk d + 1
  | (_, d) => uptoBulk d + 1
 end
def uptoSmall : (H : Type) → List (DataW H) → Bool := fun _ ds => decide (uptoBulkAll ds ≤ 1048576)
def OpenSpec.upto (s : _root_.Go.ChangeSpec) : _root_.Go.OpenSpec := { _root_.Go.OpenSpec.ofChange s with cond := some uptoSmall }

/-- 'cognatelaw14.HarmonyNames', WHERE WHAT IT READS IS OF BULK AT MOST 1048576: true; the input reads as it did. -/
def harmonyNamesUptoRow : OpenClaim := { program := "ytcnjgfadihimiaadoor", sum := "1d8bc0f32248908e93f08186b712d50beb28d3e69f5a11f27918a860420b2ba6", func := "cognate/cognatelaw14.HarmonyNames", spec := "harmonyNames", inPlace := ["internal/bytealg.IndexByteString", "internal/bytealg.IndexString"], unfollowed := true, recurses := true, named := ["unicode/utf8.first", "unicode/utf8.acceptRanges", "internal/bytealg.MaxLen"], plainKeys := false, apart := false, laid := [("unicode/utf8.acceptRanges", laid_unicode_utf8_acceptRanges), ("unicode/utf8.first", laid_unicode_utf8_first)], narrowed := true }
def HarmonyNamesUptoSaid : Prop := harmonyNamesUptoRow.holds Tryd.pinned (OpenSpec.upto harmonyNamesSpec)

/-- 'cognatelaw14.HarmonyWords', WHERE WHAT IT READS IS OF BULK AT MOST 1048576: true; the input reads as it did. -/
def harmonyWordsUptoRow : OpenClaim := { program := "ytcnjgfadihimiaadoor", sum := "1d8bc0f32248908e93f08186b712d50beb28d3e69f5a11f27918a860420b2ba6", func := "cognate/cognatelaw14.HarmonyWords", spec := "harmonyWords", inPlace := ["internal/bytealg.IndexByteString", "internal/bytealg.IndexString"], unfollowed := true, recurses := true, named := ["unicode/utf8.first", "unicode/utf8.acceptRanges", "internal/bytealg.MaxLen"], plainKeys := false, apart := false, laid := [("unicode/utf8.acceptRanges", laid_unicode_utf8_acceptRanges), ("unicode/utf8.first", laid_unicode_utf8_first)], narrowed := true }
def HarmonyWordsUptoSaid : Prop := harmonyWordsUptoRow.holds Tryd.pinned (OpenSpec.upto harmonyWordsSpec)

/-- 'cognatelaw14.HarmonySets', WHERE WHAT IT READS IS OF BULK AT MOST 1048576: true; the input reads as it did. -/
def harmonySetsUptoRow : OpenClaim := { program := "ytcnjgfadihimiaadoor", sum := "1d8bc0f32248908e93f08186b712d50beb28d3e69f5a11f27918a860420b2ba6", func := "cognate/cognatelaw14.HarmonySets", spec := "harmonySets", inPlace := ["internal/bytealg.IndexByteString", "internal/bytealg.IndexString"], unfollowed := true, recurses := true, named := ["unicode/utf8.first", "unicode/utf8.acceptRanges", "internal/bytealg.MaxLen"], plainKeys := false, apart := false, laid := [("unicode/utf8.acceptRanges", laid_unicode_utf8_acceptRanges), ("unicode/utf8.first", laid_unicode_utf8_first)], narrowed := true }
def HarmonySetsUptoSaid : Prop := harmonySetsUptoRow.holds Tryd.pinned (OpenSpec.upto harmonySetsSpec)

/-- 'cognatelaw14.HarmonyLetters', WHERE WHAT IT READS IS OF BULK AT MOST 1048576: true; the input reads as it did. -/
def harmonyLettersUptoRow : OpenClaim := { program := "ytcnjgfadihimiaadoor", sum := "1d8bc0f32248908e93f08186b712d50beb28d3e69f5a11f27918a860420b2ba6", func := "cognate/cognatelaw14.HarmonyLetters", spec := "harmonyLetters", inPlace := ["internal/bytealg.IndexByteString", "internal/bytealg.IndexString"], unfollowed := true, recurses := true, named := ["unicode/utf8.first", "unicode/utf8.acceptRanges", "internal/bytealg.MaxLen"], plainKeys := false, apart := false, laid := [("unicode/utf8.acceptRanges", laid_unicode_utf8_acceptRanges), ("unicode/utf8.first", laid_unicode_utf8_first)], narrowed := true }
def HarmonyLettersUptoSaid : Prop := harmonyLettersUptoRow.holds Tryd.pinned (OpenSpec.upto harmonyLettersSpec)

/-- 'cognatelaw14.HarmonyMeets', WHERE WHAT IT READS IS OF BULK AT MOST 1048576: true; the input reads as it did. -/
def harmonyMeetsUptoRow : OpenClaim := { program := "ytcnjgfadihimiaadoor", sum := "1d8bc0f32248908e93f08186b712d50beb28d3e69f5a11f27918a860420b2ba6", func := "cognate/cognatelaw14.HarmonyMeets", spec := "harmonyMeets", inPlace := ["internal/bytealg.IndexByteString", "internal/bytealg.IndexString"], unfollowed := true, recurses := true, named := ["unicode/utf8.first", "unicode/utf8.acceptRanges", "internal/bytealg.MaxLen"], plainKeys := false, apart := false, laid := [("unicode/utf8.acceptRanges", laid_unicode_utf8_acceptRanges), ("unicode/utf8.first", laid_unicode_utf8_first)], narrowed := true }
def HarmonyMeetsUptoSaid : Prop := harmonyMeetsUptoRow.holds Tryd.pinned (OpenSpec.upto harmonyMeetsSpec)

/-- 'cognatelaw14.HarmonyTurned', WHERE WHAT IT READS IS OF BULK AT MOST 1048576: true; the input reads as it did. -/
def harmonyTurnedUptoRow : OpenClaim := { program := "ytcnjgfadihimiaadoor", sum := "1d8bc0f32248908e93f08186b712d50beb28d3e69f5a11f27918a860420b2ba6", func := "cognate/cognatelaw14.HarmonyTurned", spec := "harmonyTurned", inPlace := ["internal/bytealg.IndexByteString", "internal/bytealg.IndexString"], unfollowed := true, recurses := true, named := ["unicode/utf8.first", "unicode/utf8.acceptRanges", "internal/bytealg.MaxLen"], plainKeys := false, apart := false, laid := [("unicode/utf8.acceptRanges", laid_unicode_utf8_acceptRanges), ("unicode/utf8.first", laid_unicode_utf8_first)], narrowed := true }
def HarmonyTurnedUptoSaid : Prop := harmonyTurnedUptoRow.holds Tryd.pinned (OpenSpec.upto harmonyTurnedSpec)

/-- 'cognatelaw14.HarmonyParts', WHERE WHAT IT READS IS OF BULK AT MOST 1048576: true; the input reads as it did. -/
def harmonyPartsUptoRow : OpenClaim := { program := "ytcnjgfadihimiaadoor", sum := "1d8bc0f32248908e93f08186b712d50beb28d3e69f5a11f27918a860420b2ba6", func := "cognate/cognatelaw14.HarmonyParts", spec := "harmonyParts", inPlace := ["internal/bytealg.IndexByteString", "internal/bytealg.IndexString"], unfollowed := true, recurses := true, named := ["unicode/utf8.first", "unicode/utf8.acceptRanges", "internal/bytealg.MaxLen"], plainKeys := false, apart := false, laid := [("unicode/utf8.acceptRanges", laid_unicode_utf8_acceptRanges), ("unicode/utf8.first", laid_unicode_utf8_first)], narrowed := true }
def HarmonyPartsUptoSaid : Prop := harmonyPartsUptoRow.holds Tryd.pinned (OpenSpec.upto harmonyPartsSpec)

end Rows
end Go.Proofs.YtcnjgfadihimiaaDoor
