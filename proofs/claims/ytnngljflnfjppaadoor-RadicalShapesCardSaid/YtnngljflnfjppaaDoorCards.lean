/-
  DERIVED. GIVEN WITH THE SEED: THE CARDS: each row of YtnngljflnfjppaaDoorRows.lean that lists a variable, with what it lists TIED to the program's text (the seventh form; the later family's looks); each row that meets fmt, with fmt's text TOLD by the authors' own Lean function (tested against real Go, not proved from fmt's source: count such statements apart). THE CARD IS WHAT COUNTS. Prove the row's statement (the work); the ties are given (YtnngljflnfjppaaDoorTie.lean); close each card by the builder's one call (the guide's Derived/Test/ToyasCard.lean, 'card_holds'). Laid BY PROGRAM, IN A SANDBOX (cutbox-door.mjs). By AI agents, Wed Nov 11 2026. No macro, syntax, notation, axiom, sorry.
-/
import Derived.Test.YtnngljflnfjppaaDoorRows
import GoSem.ClaimSeven
namespace Go.Proofs.YtnngljflnfjppaaDoor
namespace Rows

/-- THE TIED CARD OF 'cognatelaw02.FeatureNames'. -/
def featureNamesCard : Claim7 := { stood := { row := featureNamesRow, standIns := [], harness := (true, "c3060a0bbd30b0175794cbd9301124fff3d1d15a969da440141173dc90d0a5ba"), looks := false }, kinds := [], alts := [], laidByText := true, laidKinds := [.data, .pinned], laidTests := true, laidLooks := .later }
def FeatureNamesCardSaid : Prop := Claim7.holds Tryd.pinned (.plain (OpenSpec.ofChange featureNamesSpec)) featureNamesCard

/-- THE TIED CARD OF 'cognatelaw13.RadicalWords'. -/
def radicalWordsCard : Claim7 := { stood := { row := radicalWordsRow, standIns := [], harness := (true, "c3060a0bbd30b0175794cbd9301124fff3d1d15a969da440141173dc90d0a5ba"), looks := false }, kinds := [], alts := [], laidByText := true, laidKinds := [.data, .pinned], laidTests := true, laidLooks := .later }
def RadicalWordsCardSaid : Prop := Claim7.holds Tryd.pinned (.plain (OpenSpec.ofChange radicalWordsSpec)) radicalWordsCard

/-- THE TIED CARD OF 'cognatelaw13.RadicalShapes'. -/
def radicalShapesCard : Claim7 := { stood := { row := radicalShapesRow, standIns := [], harness := (true, "c3060a0bbd30b0175794cbd9301124fff3d1d15a969da440141173dc90d0a5ba"), looks := false }, kinds := [], alts := [], laidByText := true, laidKinds := [.data, .pinned], laidTests := true, laidLooks := .later }
def RadicalShapesCardSaid : Prop := Claim7.holds Tryd.pinned (.plain (OpenSpec.ofChange radicalShapesSpec)) radicalShapesCard

/-- THE TIED CARD OF 'cognatelaw13.RadicalBack'. -/
def radicalBackCard : Claim7 := { stood := { row := radicalBackRow, standIns := [], harness := (true, "c3060a0bbd30b0175794cbd9301124fff3d1d15a969da440141173dc90d0a5ba"), looks := false }, kinds := [], alts := [], laidByText := true, laidKinds := [.data, .pinned], laidTests := true, laidLooks := .later }
def RadicalBackCardSaid : Prop := Claim7.holds Tryd.pinned (.plain (OpenSpec.ofChange radicalBackSpec)) radicalBackCard

/-- THE TIED CARD OF 'cognatelaw13.RadicalNames'. -/
def radicalNamesCard : Claim7 := { stood := { row := radicalNamesRow, standIns := [], harness := (true, "c3060a0bbd30b0175794cbd9301124fff3d1d15a969da440141173dc90d0a5ba"), looks := false }, kinds := [], alts := [], laidByText := true, laidKinds := [.data, .pinned], laidTests := true, laidLooks := .later }
def RadicalNamesCardSaid : Prop := Claim7.holds Tryd.pinned (.plain (OpenSpec.ofChange radicalNamesSpec)) radicalNamesCard

/-- THE SECOND FORM's CARD OF 'cognatelaw02.FeatureNames'. -/
def featureNamesUptoCard : Claim7 := { stood := { row := featureNamesUptoRow, standIns := [], harness := (true, "c3060a0bbd30b0175794cbd9301124fff3d1d15a969da440141173dc90d0a5ba"), looks := false }, kinds := [], alts := [], laidByText := true, laidKinds := [.data, .pinned], laidTests := true, laidLooks := .later }
def FeatureNamesUptoCardSaid : Prop := Claim7.holds Tryd.pinned (.plain (OpenSpec.upto featureNamesSpec)) featureNamesUptoCard

/-- THE SECOND FORM's CARD OF 'cognatelaw13.RadicalWords'. -/
def radicalWordsUptoCard : Claim7 := { stood := { row := radicalWordsUptoRow, standIns := [], harness := (true, "c3060a0bbd30b0175794cbd9301124fff3d1d15a969da440141173dc90d0a5ba"), looks := false }, kinds := [], alts := [], laidByText := true, laidKinds := [.data, .pinned], laidTests := true, laidLooks := .later }
def RadicalWordsUptoCardSaid : Prop := Claim7.holds Tryd.pinned (.plain (OpenSpec.upto radicalWordsSpec)) radicalWordsUptoCard

/-- THE SECOND FORM's CARD OF 'cognatelaw13.RadicalShapes'. -/
def radicalShapesUptoCard : Claim7 := { stood := { row := radicalShapesUptoRow, standIns := [], harness := (true, "c3060a0bbd30b0175794cbd9301124fff3d1d15a969da440141173dc90d0a5ba"), looks := false }, kinds := [], alts := [], laidByText := true, laidKinds := [.data, .pinned], laidTests := true, laidLooks := .later }
def RadicalShapesUptoCardSaid : Prop := Claim7.holds Tryd.pinned (.plain (OpenSpec.upto radicalShapesSpec)) radicalShapesUptoCard

/-- THE SECOND FORM's CARD OF 'cognatelaw13.RadicalBack'. -/
def radicalBackUptoCard : Claim7 := { stood := { row := radicalBackUptoRow, standIns := [], harness := (true, "c3060a0bbd30b0175794cbd9301124fff3d1d15a969da440141173dc90d0a5ba"), looks := false }, kinds := [], alts := [], laidByText := true, laidKinds := [.data, .pinned], laidTests := true, laidLooks := .later }
def RadicalBackUptoCardSaid : Prop := Claim7.holds Tryd.pinned (.plain (OpenSpec.upto radicalBackSpec)) radicalBackUptoCard

/-- THE SECOND FORM's CARD OF 'cognatelaw13.RadicalNames'. -/
def radicalNamesUptoCard : Claim7 := { stood := { row := radicalNamesUptoRow, standIns := [], harness := (true, "c3060a0bbd30b0175794cbd9301124fff3d1d15a969da440141173dc90d0a5ba"), looks := false }, kinds := [], alts := [], laidByText := true, laidKinds := [.data, .pinned], laidTests := true, laidLooks := .later }
def RadicalNamesUptoCardSaid : Prop := Claim7.holds Tryd.pinned (.plain (OpenSpec.upto radicalNamesSpec)) radicalNamesUptoCard
end Rows
end Go.Proofs.YtnngljflnfjppaaDoor
