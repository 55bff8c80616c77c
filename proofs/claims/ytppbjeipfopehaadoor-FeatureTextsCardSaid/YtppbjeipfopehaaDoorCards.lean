/-
  DERIVED. GIVEN WITH THE SEED: THE CARDS: each row of YtppbjeipfopehaaDoorRows.lean that lists a variable, with what it lists TIED to the program's text (the seventh form; the later family's looks); each row that meets fmt, with fmt's text TOLD by the authors' own Lean function (tested against real Go, not proved from fmt's source: count such statements apart). THE CARD IS WHAT COUNTS. Prove the row's statement (the work); the ties are given (YtppbjeipfopehaaDoorTie.lean); close each card by the builder's one call (the guide's Derived/Test/ToyasCard.lean, 'card_holds'). Laid BY PROGRAM, IN A SANDBOX (cutbox-door.mjs). By AI agents, Wed Nov 11 2026. No macro, syntax, notation, axiom, sorry.
-/
import Derived.Test.YtppbjeipfopehaaDoorRows
import GoSem.ClaimSeven
namespace Go.Proofs.YtppbjeipfopehaaDoor
namespace Rows

/-- THE TIED CARD OF 'cognatelaw02.FeatureNames'. -/
def featureNamesCard : Claim7 := { stood := { row := featureNamesRow, standIns := [], harness := (true, "517fd4a92e9570f3ebb7a2e5a647b4acda9e062d4875a9d45b8f6e8bdb0235e6"), looks := false }, kinds := [], alts := [], laidByText := true, laidKinds := [.data, .pinned], laidTests := true, laidLooks := .later }
def FeatureNamesCardSaid : Prop := Claim7.holds Tryd.pinned (.plain (OpenSpec.ofChange featureNamesSpec)) featureNamesCard

/-- THE TIED CARD OF 'cognatelaw02.FeatureClasses'. -/
def featureClassesCard : Claim7 := { stood := { row := featureClassesRow, standIns := [], harness := (true, "517fd4a92e9570f3ebb7a2e5a647b4acda9e062d4875a9d45b8f6e8bdb0235e6"), looks := false }, kinds := [], alts := [], laidByText := true, laidKinds := [.data, .pinned], laidTests := true, laidLooks := .later }
def FeatureClassesCardSaid : Prop := Claim7.holds Tryd.pinned (.plain (OpenSpec.ofChange featureClassesSpec)) featureClassesCard

/-- THE TIED CARD OF 'cognatelaw02.FeatureNearest'. -/
def featureNearestCard : Claim7 := { stood := { row := featureNearestRow, standIns := [], harness := (true, "517fd4a92e9570f3ebb7a2e5a647b4acda9e062d4875a9d45b8f6e8bdb0235e6"), looks := false }, kinds := [], alts := [], laidByText := true, laidKinds := [.data, .pinned], laidTests := true, laidLooks := .later }
def FeatureNearestCardSaid : Prop := Claim7.holds Tryd.pinned (.plain (OpenSpec.ofChange featureNearestSpec)) featureNearestCard

/-- THE TIED CARD OF 'cognatelaw02.FeatureFar'. -/
def featureFarCard : Claim7 := { stood := { row := featureFarRow, standIns := [], harness := (true, "517fd4a92e9570f3ebb7a2e5a647b4acda9e062d4875a9d45b8f6e8bdb0235e6"), looks := false }, kinds := [], alts := [], laidByText := true, laidKinds := [.data, .pinned], laidTests := true, laidLooks := .later }
def FeatureFarCardSaid : Prop := Claim7.holds Tryd.pinned (.plain (OpenSpec.ofChange featureFarSpec)) featureFarCard

/-- THE TIED CARD OF 'cognatelaw02.FeatureLeast'. -/
def featureLeastCard : Claim7 := { stood := { row := featureLeastRow, standIns := [], harness := (true, "517fd4a92e9570f3ebb7a2e5a647b4acda9e062d4875a9d45b8f6e8bdb0235e6"), looks := false }, kinds := [], alts := [], laidByText := true, laidKinds := [.data, .pinned], laidTests := true, laidLooks := .later }
def FeatureLeastCardSaid : Prop := Claim7.holds Tryd.pinned (.plain (OpenSpec.ofChange featureLeastSpec)) featureLeastCard

/-- THE TIED CARD OF 'cognatelaw02.FeatureBack'. -/
def featureBackCard : Claim7 := { stood := { row := featureBackRow, standIns := [], harness := (true, "517fd4a92e9570f3ebb7a2e5a647b4acda9e062d4875a9d45b8f6e8bdb0235e6"), looks := false }, kinds := [], alts := [], laidByText := true, laidKinds := [.data, .pinned], laidTests := true, laidLooks := .later }
def FeatureBackCardSaid : Prop := Claim7.holds Tryd.pinned (.plain (OpenSpec.ofChange featureBackSpec)) featureBackCard

/-- THE TIED CARD OF 'cognatelaw02.FeatureTexts'. -/
def featureTextsCard : Claim7 := { stood := { row := featureTextsRow, standIns := [], harness := (true, "517fd4a92e9570f3ebb7a2e5a647b4acda9e062d4875a9d45b8f6e8bdb0235e6"), looks := false }, kinds := [], alts := [], laidByText := true, laidKinds := [.data, .pinned], laidTests := true, laidLooks := .later }
def FeatureTextsCardSaid : Prop := Claim7.holds Tryd.pinned (.plain (OpenSpec.ofChange featureTextsSpec)) featureTextsCard

/-- THE SECOND FORM's CARD OF 'cognatelaw02.FeatureNames'. -/
def featureNamesUptoCard : Claim7 := { stood := { row := featureNamesUptoRow, standIns := [], harness := (true, "517fd4a92e9570f3ebb7a2e5a647b4acda9e062d4875a9d45b8f6e8bdb0235e6"), looks := false }, kinds := [], alts := [], laidByText := true, laidKinds := [.data, .pinned], laidTests := true, laidLooks := .later }
def FeatureNamesUptoCardSaid : Prop := Claim7.holds Tryd.pinned (.plain (OpenSpec.upto featureNamesSpec)) featureNamesUptoCard

/-- THE SECOND FORM's CARD OF 'cognatelaw02.FeatureClasses'. -/
def featureClassesUptoCard : Claim7 := { stood := { row := featureClassesUptoRow, standIns := [], harness := (true, "517fd4a92e9570f3ebb7a2e5a647b4acda9e062d4875a9d45b8f6e8bdb0235e6"), looks := false }, kinds := [], alts := [], laidByText := true, laidKinds := [.data, .pinned], laidTests := true, laidLooks := .later }
def FeatureClassesUptoCardSaid : Prop := Claim7.holds Tryd.pinned (.plain (OpenSpec.upto featureClassesSpec)) featureClassesUptoCard

/-- THE SECOND FORM's CARD OF 'cognatelaw02.FeatureNearest'. -/
def featureNearestUptoCard : Claim7 := { stood := { row := featureNearestUptoRow, standIns := [], harness := (true, "517fd4a92e9570f3ebb7a2e5a647b4acda9e062d4875a9d45b8f6e8bdb0235e6"), looks := false }, kinds := [], alts := [], laidByText := true, laidKinds := [.data, .pinned], laidTests := true, laidLooks := .later }
def FeatureNearestUptoCardSaid : Prop := Claim7.holds Tryd.pinned (.plain (OpenSpec.upto featureNearestSpec)) featureNearestUptoCard

/-- THE SECOND FORM's CARD OF 'cognatelaw02.FeatureFar'. -/
def featureFarUptoCard : Claim7 := { stood := { row := featureFarUptoRow, standIns := [], harness := (true, "517fd4a92e9570f3ebb7a2e5a647b4acda9e062d4875a9d45b8f6e8bdb0235e6"), looks := false }, kinds := [], alts := [], laidByText := true, laidKinds := [.data, .pinned], laidTests := true, laidLooks := .later }
def FeatureFarUptoCardSaid : Prop := Claim7.holds Tryd.pinned (.plain (OpenSpec.upto featureFarSpec)) featureFarUptoCard

/-- THE SECOND FORM's CARD OF 'cognatelaw02.FeatureLeast'. -/
def featureLeastUptoCard : Claim7 := { stood := { row := featureLeastUptoRow, standIns := [], harness := (true, "517fd4a92e9570f3ebb7a2e5a647b4acda9e062d4875a9d45b8f6e8bdb0235e6"), looks := false }, kinds := [], alts := [], laidByText := true, laidKinds := [.data, .pinned], laidTests := true, laidLooks := .later }
def FeatureLeastUptoCardSaid : Prop := Claim7.holds Tryd.pinned (.plain (OpenSpec.upto featureLeastSpec)) featureLeastUptoCard

/-- THE SECOND FORM's CARD OF 'cognatelaw02.FeatureBack'. -/
def featureBackUptoCard : Claim7 := { stood := { row := featureBackUptoRow, standIns := [], harness := (true, "517fd4a92e9570f3ebb7a2e5a647b4acda9e062d4875a9d45b8f6e8bdb0235e6"), looks := false }, kinds := [], alts := [], laidByText := true, laidKinds := [.data, .pinned], laidTests := true, laidLooks := .later }
def FeatureBackUptoCardSaid : Prop := Claim7.holds Tryd.pinned (.plain (OpenSpec.upto featureBackSpec)) featureBackUptoCard

/-- THE SECOND FORM's CARD OF 'cognatelaw02.FeatureTexts'. -/
def featureTextsUptoCard : Claim7 := { stood := { row := featureTextsUptoRow, standIns := [], harness := (true, "517fd4a92e9570f3ebb7a2e5a647b4acda9e062d4875a9d45b8f6e8bdb0235e6"), looks := false }, kinds := [], alts := [], laidByText := true, laidKinds := [.data, .pinned], laidTests := true, laidLooks := .later }
def FeatureTextsUptoCardSaid : Prop := Claim7.holds Tryd.pinned (.plain (OpenSpec.upto featureTextsSpec)) featureTextsUptoCard
end Rows
end Go.Proofs.YtppbjeipfopehaaDoor
