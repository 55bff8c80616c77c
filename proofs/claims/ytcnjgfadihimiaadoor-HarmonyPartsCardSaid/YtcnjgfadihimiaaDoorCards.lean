/-
  DERIVED. GIVEN WITH THE SEED: THE CARDS: each row of YtcnjgfadihimiaaDoorRows.lean that lists a variable, with what it lists TIED to the program's text (the seventh form; the later family's looks); each row that meets fmt, with fmt's text TOLD by the authors' own Lean function (tested against real Go, not proved from fmt's source: count such statements apart). THE CARD IS WHAT COUNTS. Prove the row's statement (the work); the ties are given (YtcnjgfadihimiaaDoorTie.lean); close each card by the builder's one call (the guide's Derived/Test/ToyasCard.lean, 'card_holds'). Laid BY PROGRAM, IN A SANDBOX (cutbox-door.mjs). By AI agents, Wed Nov 11 2026. No macro, syntax, notation, axiom, sorry.
-/
import Derived.Test.YtcnjgfadihimiaaDoorRows
import GoSem.ClaimSeven
namespace Go.Proofs.YtcnjgfadihimiaaDoor
namespace Rows

/-- THE TIED CARD OF 'cognatelaw14.HarmonyNames'. -/
def harmonyNamesCard : Claim7 := { stood := { row := harmonyNamesRow, standIns := [], harness := (true, "36b82133f3b56197db3b2c56abf70224982ffe549c47f9233de3dd8c7421b9fb"), looks := false }, kinds := [], alts := [], laidByText := true, laidKinds := [.data, .pinned], laidTests := true, laidLooks := .later }
def HarmonyNamesCardSaid : Prop := Claim7.holds Tryd.pinned (.plain (OpenSpec.ofChange harmonyNamesSpec)) harmonyNamesCard

/-- THE TIED CARD OF 'cognatelaw14.HarmonyWords'. -/
def harmonyWordsCard : Claim7 := { stood := { row := harmonyWordsRow, standIns := [], harness := (true, "36b82133f3b56197db3b2c56abf70224982ffe549c47f9233de3dd8c7421b9fb"), looks := false }, kinds := [], alts := [], laidByText := true, laidKinds := [.data, .pinned], laidTests := true, laidLooks := .later }
def HarmonyWordsCardSaid : Prop := Claim7.holds Tryd.pinned (.plain (OpenSpec.ofChange harmonyWordsSpec)) harmonyWordsCard

/-- THE TIED CARD OF 'cognatelaw14.HarmonySets'. -/
def harmonySetsCard : Claim7 := { stood := { row := harmonySetsRow, standIns := [], harness := (true, "36b82133f3b56197db3b2c56abf70224982ffe549c47f9233de3dd8c7421b9fb"), looks := false }, kinds := [], alts := [], laidByText := true, laidKinds := [.data, .pinned], laidTests := true, laidLooks := .later }
def HarmonySetsCardSaid : Prop := Claim7.holds Tryd.pinned (.plain (OpenSpec.ofChange harmonySetsSpec)) harmonySetsCard

/-- THE TIED CARD OF 'cognatelaw14.HarmonyLetters'. -/
def harmonyLettersCard : Claim7 := { stood := { row := harmonyLettersRow, standIns := [], harness := (true, "36b82133f3b56197db3b2c56abf70224982ffe549c47f9233de3dd8c7421b9fb"), looks := false }, kinds := [], alts := [], laidByText := true, laidKinds := [.data, .pinned], laidTests := true, laidLooks := .later }
def HarmonyLettersCardSaid : Prop := Claim7.holds Tryd.pinned (.plain (OpenSpec.ofChange harmonyLettersSpec)) harmonyLettersCard

/-- THE TIED CARD OF 'cognatelaw14.HarmonyMeets'. -/
def harmonyMeetsCard : Claim7 := { stood := { row := harmonyMeetsRow, standIns := [], harness := (true, "36b82133f3b56197db3b2c56abf70224982ffe549c47f9233de3dd8c7421b9fb"), looks := false }, kinds := [], alts := [], laidByText := true, laidKinds := [.data, .pinned], laidTests := true, laidLooks := .later }
def HarmonyMeetsCardSaid : Prop := Claim7.holds Tryd.pinned (.plain (OpenSpec.ofChange harmonyMeetsSpec)) harmonyMeetsCard

/-- THE TIED CARD OF 'cognatelaw14.HarmonyTurned'. -/
def harmonyTurnedCard : Claim7 := { stood := { row := harmonyTurnedRow, standIns := [], harness := (true, "36b82133f3b56197db3b2c56abf70224982ffe549c47f9233de3dd8c7421b9fb"), looks := false }, kinds := [], alts := [], laidByText := true, laidKinds := [.data, .pinned], laidTests := true, laidLooks := .later }
def HarmonyTurnedCardSaid : Prop := Claim7.holds Tryd.pinned (.plain (OpenSpec.ofChange harmonyTurnedSpec)) harmonyTurnedCard

/-- THE TIED CARD OF 'cognatelaw14.HarmonyParts'. -/
def harmonyPartsCard : Claim7 := { stood := { row := harmonyPartsRow, standIns := [], harness := (true, "36b82133f3b56197db3b2c56abf70224982ffe549c47f9233de3dd8c7421b9fb"), looks := false }, kinds := [], alts := [], laidByText := true, laidKinds := [.data, .pinned], laidTests := true, laidLooks := .later }
def HarmonyPartsCardSaid : Prop := Claim7.holds Tryd.pinned (.plain (OpenSpec.ofChange harmonyPartsSpec)) harmonyPartsCard

/-- THE SECOND FORM's CARD OF 'cognatelaw14.HarmonyNames'. -/
def harmonyNamesUptoCard : Claim7 := { stood := { row := harmonyNamesUptoRow, standIns := [], harness := (true, "36b82133f3b56197db3b2c56abf70224982ffe549c47f9233de3dd8c7421b9fb"), looks := false }, kinds := [], alts := [], laidByText := true, laidKinds := [.data, .pinned], laidTests := true, laidLooks := .later }
def HarmonyNamesUptoCardSaid : Prop := Claim7.holds Tryd.pinned (.plain (OpenSpec.upto harmonyNamesSpec)) harmonyNamesUptoCard

/-- THE SECOND FORM's CARD OF 'cognatelaw14.HarmonyWords'. -/
def harmonyWordsUptoCard : Claim7 := { stood := { row := harmonyWordsUptoRow, standIns := [], harness := (true, "36b82133f3b56197db3b2c56abf70224982ffe549c47f9233de3dd8c7421b9fb"), looks := false }, kinds := [], alts := [], laidByText := true, laidKinds := [.data, .pinned], laidTests := true, laidLooks := .later }
def HarmonyWordsUptoCardSaid : Prop := Claim7.holds Tryd.pinned (.plain (OpenSpec.upto harmonyWordsSpec)) harmonyWordsUptoCard

/-- THE SECOND FORM's CARD OF 'cognatelaw14.HarmonySets'. -/
def harmonySetsUptoCard : Claim7 := { stood := { row := harmonySetsUptoRow, standIns := [], harness := (true, "36b82133f3b56197db3b2c56abf70224982ffe549c47f9233de3dd8c7421b9fb"), looks := false }, kinds := [], alts := [], laidByText := true, laidKinds := [.data, .pinned], laidTests := true, laidLooks := .later }
def HarmonySetsUptoCardSaid : Prop := Claim7.holds Tryd.pinned (.plain (OpenSpec.upto harmonySetsSpec)) harmonySetsUptoCard

/-- THE SECOND FORM's CARD OF 'cognatelaw14.HarmonyLetters'. -/
def harmonyLettersUptoCard : Claim7 := { stood := { row := harmonyLettersUptoRow, standIns := [], harness := (true, "36b82133f3b56197db3b2c56abf70224982ffe549c47f9233de3dd8c7421b9fb"), looks := false }, kinds := [], alts := [], laidByText := true, laidKinds := [.data, .pinned], laidTests := true, laidLooks := .later }
def HarmonyLettersUptoCardSaid : Prop := Claim7.holds Tryd.pinned (.plain (OpenSpec.upto harmonyLettersSpec)) harmonyLettersUptoCard

/-- THE SECOND FORM's CARD OF 'cognatelaw14.HarmonyMeets'. -/
def harmonyMeetsUptoCard : Claim7 := { stood := { row := harmonyMeetsUptoRow, standIns := [], harness := (true, "36b82133f3b56197db3b2c56abf70224982ffe549c47f9233de3dd8c7421b9fb"), looks := false }, kinds := [], alts := [], laidByText := true, laidKinds := [.data, .pinned], laidTests := true, laidLooks := .later }
def HarmonyMeetsUptoCardSaid : Prop := Claim7.holds Tryd.pinned (.plain (OpenSpec.upto harmonyMeetsSpec)) harmonyMeetsUptoCard

/-- THE SECOND FORM's CARD OF 'cognatelaw14.HarmonyTurned'. -/
def harmonyTurnedUptoCard : Claim7 := { stood := { row := harmonyTurnedUptoRow, standIns := [], harness := (true, "36b82133f3b56197db3b2c56abf70224982ffe549c47f9233de3dd8c7421b9fb"), looks := false }, kinds := [], alts := [], laidByText := true, laidKinds := [.data, .pinned], laidTests := true, laidLooks := .later }
def HarmonyTurnedUptoCardSaid : Prop := Claim7.holds Tryd.pinned (.plain (OpenSpec.upto harmonyTurnedSpec)) harmonyTurnedUptoCard

/-- THE SECOND FORM's CARD OF 'cognatelaw14.HarmonyParts'. -/
def harmonyPartsUptoCard : Claim7 := { stood := { row := harmonyPartsUptoRow, standIns := [], harness := (true, "36b82133f3b56197db3b2c56abf70224982ffe549c47f9233de3dd8c7421b9fb"), looks := false }, kinds := [], alts := [], laidByText := true, laidKinds := [.data, .pinned], laidTests := true, laidLooks := .later }
def HarmonyPartsUptoCardSaid : Prop := Claim7.holds Tryd.pinned (.plain (OpenSpec.upto harmonyPartsSpec)) harmonyPartsUptoCard
end Rows
end Go.Proofs.YtcnjgfadihimiaaDoor
