/-
  DERIVED. GIVEN WITH THE SEED: THE CARDS: each row of YtobajknhnjceiaaDoorRows.lean that lists a variable, with what it lists TIED to the program's text (the seventh form; the later family's looks); each row that meets fmt, with fmt's text TOLD by the authors' own Lean function (tested against real Go, not proved from fmt's source: count such statements apart). THE CARD IS WHAT COUNTS. Prove the row's statement (the work); the ties are given (YtobajknhnjceiaaDoorTie.lean); close each card by the builder's one call (the guide's Derived/Test/ToyasCard.lean, 'card_holds'). Laid BY PROGRAM, IN A SANDBOX (cutbox-door.mjs). By AI agents, Wed Nov 11 2026. No macro, syntax, notation, axiom, sorry.
-/
import Derived.Test.YtobajknhnjceiaaDoorRows
import GoSem.ClaimSeven
namespace Go.Proofs.YtobajknhnjceiaaDoor
namespace Rows

/-- THE TIED CARD OF 'cognatelaw21.AlignNearest'. -/
def alignNearestCard : Claim7 := { stood := { row := alignNearestRow, standIns := [], harness := (true, "97c72b7b07d74d8a80ebb2c553db1ccf8160ed5e9e4924bec45ed2fd38b9de11"), looks := false }, kinds := [], alts := [], laidByText := true, laidKinds := [.data, .pinned], laidTests := true, laidLooks := .later }
def AlignNearestCardSaid : Prop := Claim7.holds Tryd.pinned (.plain (OpenSpec.ofChange alignNearestSpec)) alignNearestCard

/-- THE TIED CARD OF 'cognatelaw21.AlignThree'. -/
def alignThreeCard : Claim7 := { stood := { row := alignThreeRow, standIns := [], harness := (true, "97c72b7b07d74d8a80ebb2c553db1ccf8160ed5e9e4924bec45ed2fd38b9de11"), looks := false }, kinds := [], alts := [], laidByText := true, laidKinds := [.data, .pinned], laidTests := true, laidLooks := .later }
def AlignThreeCardSaid : Prop := Claim7.holds Tryd.pinned (.plain (OpenSpec.ofChange alignThreeSpec)) alignThreeCard

/-- THE TIED CARD OF 'cognatelaw21.AlignNear'. -/
def alignNearCard : Claim7 := { stood := { row := alignNearRow, standIns := [], harness := (true, "97c72b7b07d74d8a80ebb2c553db1ccf8160ed5e9e4924bec45ed2fd38b9de11"), looks := false }, kinds := [], alts := [], laidByText := true, laidKinds := [.data, .pinned], laidTests := true, laidLooks := .later }
def AlignNearCardSaid : Prop := Claim7.holds Tryd.pinned (.plain (OpenSpec.ofChange alignNearSpec)) alignNearCard

/-- THE TIED CARD OF 'cognatelaw21.AlignWords'. -/
def alignWordsCard : Claim7 := { stood := { row := alignWordsRow, standIns := [], harness := (true, "97c72b7b07d74d8a80ebb2c553db1ccf8160ed5e9e4924bec45ed2fd38b9de11"), looks := false }, kinds := [], alts := [], laidByText := true, laidKinds := [.data, .pinned], laidTests := true, laidLooks := .later }
def AlignWordsCardSaid : Prop := Claim7.holds Tryd.pinned (.plain (OpenSpec.ofChange alignWordsSpec)) alignWordsCard

/-- THE TIED CARD OF 'cognatelaw21.AlignLeast'. -/
def alignLeastCard : Claim7 := { stood := { row := alignLeastRow, standIns := [], harness := (true, "97c72b7b07d74d8a80ebb2c553db1ccf8160ed5e9e4924bec45ed2fd38b9de11"), looks := false }, kinds := [], alts := [], laidByText := true, laidKinds := [.data, .pinned], laidTests := true, laidLooks := .later }
def AlignLeastCardSaid : Prop := Claim7.holds Tryd.pinned (.plain (OpenSpec.ofChange alignLeastSpec)) alignLeastCard

/-- THE TIED CARD OF 'cognatelaw14.HarmonyNames'. -/
def harmonyNamesCard : Claim7 := { stood := { row := harmonyNamesRow, standIns := [], harness := (true, "97c72b7b07d74d8a80ebb2c553db1ccf8160ed5e9e4924bec45ed2fd38b9de11"), looks := false }, kinds := [], alts := [], laidByText := true, laidKinds := [.data, .pinned], laidTests := true, laidLooks := .later }
def HarmonyNamesCardSaid : Prop := Claim7.holds Tryd.pinned (.plain (OpenSpec.ofChange harmonyNamesSpec)) harmonyNamesCard

/-- THE TIED CARD OF 'cognatelaw14.HarmonyWords'. -/
def harmonyWordsCard : Claim7 := { stood := { row := harmonyWordsRow, standIns := [], harness := (true, "97c72b7b07d74d8a80ebb2c553db1ccf8160ed5e9e4924bec45ed2fd38b9de11"), looks := false }, kinds := [], alts := [], laidByText := true, laidKinds := [.data, .pinned], laidTests := true, laidLooks := .later }
def HarmonyWordsCardSaid : Prop := Claim7.holds Tryd.pinned (.plain (OpenSpec.ofChange harmonyWordsSpec)) harmonyWordsCard

/-- THE TIED CARD OF 'cognatelaw14.HarmonySets'. -/
def harmonySetsCard : Claim7 := { stood := { row := harmonySetsRow, standIns := [], harness := (true, "97c72b7b07d74d8a80ebb2c553db1ccf8160ed5e9e4924bec45ed2fd38b9de11"), looks := false }, kinds := [], alts := [], laidByText := true, laidKinds := [.data, .pinned], laidTests := true, laidLooks := .later }
def HarmonySetsCardSaid : Prop := Claim7.holds Tryd.pinned (.plain (OpenSpec.ofChange harmonySetsSpec)) harmonySetsCard

/-- THE TIED CARD OF 'cognatelaw14.HarmonyLetters'. -/
def harmonyLettersCard : Claim7 := { stood := { row := harmonyLettersRow, standIns := [], harness := (true, "97c72b7b07d74d8a80ebb2c553db1ccf8160ed5e9e4924bec45ed2fd38b9de11"), looks := false }, kinds := [], alts := [], laidByText := true, laidKinds := [.data, .pinned], laidTests := true, laidLooks := .later }
def HarmonyLettersCardSaid : Prop := Claim7.holds Tryd.pinned (.plain (OpenSpec.ofChange harmonyLettersSpec)) harmonyLettersCard

/-- THE TIED CARD OF 'cognatelaw14.HarmonyMeets'. -/
def harmonyMeetsCard : Claim7 := { stood := { row := harmonyMeetsRow, standIns := [], harness := (true, "97c72b7b07d74d8a80ebb2c553db1ccf8160ed5e9e4924bec45ed2fd38b9de11"), looks := false }, kinds := [], alts := [], laidByText := true, laidKinds := [.data, .pinned], laidTests := true, laidLooks := .later }
def HarmonyMeetsCardSaid : Prop := Claim7.holds Tryd.pinned (.plain (OpenSpec.ofChange harmonyMeetsSpec)) harmonyMeetsCard

/-- THE TIED CARD OF 'cognatelaw14.HarmonyTurned'. -/
def harmonyTurnedCard : Claim7 := { stood := { row := harmonyTurnedRow, standIns := [], harness := (true, "97c72b7b07d74d8a80ebb2c553db1ccf8160ed5e9e4924bec45ed2fd38b9de11"), looks := false }, kinds := [], alts := [], laidByText := true, laidKinds := [.data, .pinned], laidTests := true, laidLooks := .later }
def HarmonyTurnedCardSaid : Prop := Claim7.holds Tryd.pinned (.plain (OpenSpec.ofChange harmonyTurnedSpec)) harmonyTurnedCard

/-- THE TIED CARD OF 'cognatelaw14.HarmonyParts'. -/
def harmonyPartsCard : Claim7 := { stood := { row := harmonyPartsRow, standIns := [], harness := (true, "97c72b7b07d74d8a80ebb2c553db1ccf8160ed5e9e4924bec45ed2fd38b9de11"), looks := false }, kinds := [], alts := [], laidByText := true, laidKinds := [.data, .pinned], laidTests := true, laidLooks := .later }
def HarmonyPartsCardSaid : Prop := Claim7.holds Tryd.pinned (.plain (OpenSpec.ofChange harmonyPartsSpec)) harmonyPartsCard

/-- THE SECOND FORM's CARD OF 'cognatelaw21.AlignNearest'. -/
def alignNearestUptoCard : Claim7 := { stood := { row := alignNearestUptoRow, standIns := [], harness := (true, "97c72b7b07d74d8a80ebb2c553db1ccf8160ed5e9e4924bec45ed2fd38b9de11"), looks := false }, kinds := [], alts := [], laidByText := true, laidKinds := [.data, .pinned], laidTests := true, laidLooks := .later }
def AlignNearestUptoCardSaid : Prop := Claim7.holds Tryd.pinned (.plain (OpenSpec.upto alignNearestSpec)) alignNearestUptoCard

/-- THE SECOND FORM's CARD OF 'cognatelaw21.AlignThree'. -/
def alignThreeUptoCard : Claim7 := { stood := { row := alignThreeUptoRow, standIns := [], harness := (true, "97c72b7b07d74d8a80ebb2c553db1ccf8160ed5e9e4924bec45ed2fd38b9de11"), looks := false }, kinds := [], alts := [], laidByText := true, laidKinds := [.data, .pinned], laidTests := true, laidLooks := .later }
def AlignThreeUptoCardSaid : Prop := Claim7.holds Tryd.pinned (.plain (OpenSpec.upto alignThreeSpec)) alignThreeUptoCard

/-- THE SECOND FORM's CARD OF 'cognatelaw21.AlignNear'. -/
def alignNearUptoCard : Claim7 := { stood := { row := alignNearUptoRow, standIns := [], harness := (true, "97c72b7b07d74d8a80ebb2c553db1ccf8160ed5e9e4924bec45ed2fd38b9de11"), looks := false }, kinds := [], alts := [], laidByText := true, laidKinds := [.data, .pinned], laidTests := true, laidLooks := .later }
def AlignNearUptoCardSaid : Prop := Claim7.holds Tryd.pinned (.plain (OpenSpec.upto alignNearSpec)) alignNearUptoCard

/-- THE SECOND FORM's CARD OF 'cognatelaw21.AlignWords'. -/
def alignWordsUptoCard : Claim7 := { stood := { row := alignWordsUptoRow, standIns := [], harness := (true, "97c72b7b07d74d8a80ebb2c553db1ccf8160ed5e9e4924bec45ed2fd38b9de11"), looks := false }, kinds := [], alts := [], laidByText := true, laidKinds := [.data, .pinned], laidTests := true, laidLooks := .later }
def AlignWordsUptoCardSaid : Prop := Claim7.holds Tryd.pinned (.plain (OpenSpec.upto alignWordsSpec)) alignWordsUptoCard

/-- THE SECOND FORM's CARD OF 'cognatelaw21.AlignLeast'. -/
def alignLeastUptoCard : Claim7 := { stood := { row := alignLeastUptoRow, standIns := [], harness := (true, "97c72b7b07d74d8a80ebb2c553db1ccf8160ed5e9e4924bec45ed2fd38b9de11"), looks := false }, kinds := [], alts := [], laidByText := true, laidKinds := [.data, .pinned], laidTests := true, laidLooks := .later }
def AlignLeastUptoCardSaid : Prop := Claim7.holds Tryd.pinned (.plain (OpenSpec.upto alignLeastSpec)) alignLeastUptoCard

/-- THE SECOND FORM's CARD OF 'cognatelaw14.HarmonyNames'. -/
def harmonyNamesUptoCard : Claim7 := { stood := { row := harmonyNamesUptoRow, standIns := [], harness := (true, "97c72b7b07d74d8a80ebb2c553db1ccf8160ed5e9e4924bec45ed2fd38b9de11"), looks := false }, kinds := [], alts := [], laidByText := true, laidKinds := [.data, .pinned], laidTests := true, laidLooks := .later }
def HarmonyNamesUptoCardSaid : Prop := Claim7.holds Tryd.pinned (.plain (OpenSpec.upto harmonyNamesSpec)) harmonyNamesUptoCard

/-- THE SECOND FORM's CARD OF 'cognatelaw14.HarmonyWords'. -/
def harmonyWordsUptoCard : Claim7 := { stood := { row := harmonyWordsUptoRow, standIns := [], harness := (true, "97c72b7b07d74d8a80ebb2c553db1ccf8160ed5e9e4924bec45ed2fd38b9de11"), looks := false }, kinds := [], alts := [], laidByText := true, laidKinds := [.data, .pinned], laidTests := true, laidLooks := .later }
def HarmonyWordsUptoCardSaid : Prop := Claim7.holds Tryd.pinned (.plain (OpenSpec.upto harmonyWordsSpec)) harmonyWordsUptoCard

/-- THE SECOND FORM's CARD OF 'cognatelaw14.HarmonySets'. -/
def harmonySetsUptoCard : Claim7 := { stood := { row := harmonySetsUptoRow, standIns := [], harness := (true, "97c72b7b07d74d8a80ebb2c553db1ccf8160ed5e9e4924bec45ed2fd38b9de11"), looks := false }, kinds := [], alts := [], laidByText := true, laidKinds := [.data, .pinned], laidTests := true, laidLooks := .later }
def HarmonySetsUptoCardSaid : Prop := Claim7.holds Tryd.pinned (.plain (OpenSpec.upto harmonySetsSpec)) harmonySetsUptoCard

/-- THE SECOND FORM's CARD OF 'cognatelaw14.HarmonyLetters'. -/
def harmonyLettersUptoCard : Claim7 := { stood := { row := harmonyLettersUptoRow, standIns := [], harness := (true, "97c72b7b07d74d8a80ebb2c553db1ccf8160ed5e9e4924bec45ed2fd38b9de11"), looks := false }, kinds := [], alts := [], laidByText := true, laidKinds := [.data, .pinned], laidTests := true, laidLooks := .later }
def HarmonyLettersUptoCardSaid : Prop := Claim7.holds Tryd.pinned (.plain (OpenSpec.upto harmonyLettersSpec)) harmonyLettersUptoCard

/-- THE SECOND FORM's CARD OF 'cognatelaw14.HarmonyMeets'. -/
def harmonyMeetsUptoCard : Claim7 := { stood := { row := harmonyMeetsUptoRow, standIns := [], harness := (true, "97c72b7b07d74d8a80ebb2c553db1ccf8160ed5e9e4924bec45ed2fd38b9de11"), looks := false }, kinds := [], alts := [], laidByText := true, laidKinds := [.data, .pinned], laidTests := true, laidLooks := .later }
def HarmonyMeetsUptoCardSaid : Prop := Claim7.holds Tryd.pinned (.plain (OpenSpec.upto harmonyMeetsSpec)) harmonyMeetsUptoCard

/-- THE SECOND FORM's CARD OF 'cognatelaw14.HarmonyTurned'. -/
def harmonyTurnedUptoCard : Claim7 := { stood := { row := harmonyTurnedUptoRow, standIns := [], harness := (true, "97c72b7b07d74d8a80ebb2c553db1ccf8160ed5e9e4924bec45ed2fd38b9de11"), looks := false }, kinds := [], alts := [], laidByText := true, laidKinds := [.data, .pinned], laidTests := true, laidLooks := .later }
def HarmonyTurnedUptoCardSaid : Prop := Claim7.holds Tryd.pinned (.plain (OpenSpec.upto harmonyTurnedSpec)) harmonyTurnedUptoCard

/-- THE SECOND FORM's CARD OF 'cognatelaw14.HarmonyParts'. -/
def harmonyPartsUptoCard : Claim7 := { stood := { row := harmonyPartsUptoRow, standIns := [], harness := (true, "97c72b7b07d74d8a80ebb2c553db1ccf8160ed5e9e4924bec45ed2fd38b9de11"), looks := false }, kinds := [], alts := [], laidByText := true, laidKinds := [.data, .pinned], laidTests := true, laidLooks := .later }
def HarmonyPartsUptoCardSaid : Prop := Claim7.holds Tryd.pinned (.plain (OpenSpec.upto harmonyPartsSpec)) harmonyPartsUptoCard
end Rows
end Go.Proofs.YtobajknhnjceiaaDoor
