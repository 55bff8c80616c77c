/-
  DERIVED. GIVEN WITH THE SEED: THE CARDS: each row of YtkmfhcjdaglikaaDoorRows.lean that lists a variable, with what it lists TIED to the program's text (the seventh form; the later family's looks); each row that meets fmt, with fmt's text TOLD by the authors' own Lean function (tested against real Go, not proved from fmt's source: count such statements apart). THE CARD IS WHAT COUNTS. Prove the row's statement (the work); the ties are given (YtkmfhcjdaglikaaDoorTie.lean); close each card by the builder's one call (the guide's Derived/Test/ToyasCard.lean, 'card_holds'). Laid BY PROGRAM, IN A SANDBOX (cutbox-door.mjs). By AI agents, Wed Nov 11 2026. No macro, syntax, notation, axiom, sorry.
-/
import Derived.Test.YtkmfhcjdaglikaaDoorRows
import GoSem.ClaimSeven
namespace Go.Proofs.YtkmfhcjdaglikaaDoor
namespace Rows

/-- THE TIED CARD OF 'cognatelaw17.ParadigmNames'. -/
def paradigmNamesCard : Claim7 := { stood := { row := paradigmNamesRow, standIns := [], harness := (true, "708a1e74ee0575f31e765b925581d35e7e0ce5c7e8cca3e3d22585fa632764b1"), looks := true }, kinds := [], alts := [], laidByText := true, laidKinds := [.data, .pinned], laidTests := true, laidLooks := .later }
def ParadigmNamesCardSaid : Prop := Claim7.holds Tryd.pinned (.plain (OpenSpec.ofChange paradigmNamesSpec)) paradigmNamesCard

/-- THE TIED CARD OF 'cognatelaw17.ParadigmChain'. -/
def paradigmChainCard : Claim7 := { stood := { row := paradigmChainRow, standIns := [], harness := (true, "708a1e74ee0575f31e765b925581d35e7e0ce5c7e8cca3e3d22585fa632764b1"), looks := true }, kinds := [], alts := [], laidByText := true, laidKinds := [.data, .pinned], laidTests := true, laidLooks := .later }
def ParadigmChainCardSaid : Prop := Claim7.holds Tryd.pinned (.plain (OpenSpec.ofChange paradigmChainSpec)) paradigmChainCard

/-- THE TIED CARD OF 'cognatelaw17.ParadigmFind'. -/
def paradigmFindCard : Claim7 := { stood := { row := paradigmFindRow, standIns := [], harness := (true, "708a1e74ee0575f31e765b925581d35e7e0ce5c7e8cca3e3d22585fa632764b1"), looks := true }, kinds := [], alts := [], laidByText := true, laidKinds := [.data, .pinned], laidTests := true, laidLooks := .later }
def ParadigmFindCardSaid : Prop := Claim7.holds Tryd.pinned (.plain (OpenSpec.ofChange paradigmFindSpec)) paradigmFindCard

/-- THE TIED CARD OF 'cognatelaw17.ParadigmBack'. -/
def paradigmBackCard : Claim7 := { stood := { row := paradigmBackRow, standIns := [], harness := (true, "708a1e74ee0575f31e765b925581d35e7e0ce5c7e8cca3e3d22585fa632764b1"), looks := true }, kinds := [], alts := [], laidByText := true, laidKinds := [.data, .pinned], laidTests := true, laidLooks := .later }
def ParadigmBackCardSaid : Prop := Claim7.holds Tryd.pinned (.plain (OpenSpec.ofChange paradigmBackSpec)) paradigmBackCard

/-- THE TIED CARD OF 'cognatelaw17.ParadigmTwins'. -/
def paradigmTwinsCard : Claim7 := { stood := { row := paradigmTwinsRow, standIns := [], harness := (true, "708a1e74ee0575f31e765b925581d35e7e0ce5c7e8cca3e3d22585fa632764b1"), looks := true }, kinds := [], alts := [], laidByText := true, laidKinds := [.data, .pinned], laidTests := true, laidLooks := .later }
def ParadigmTwinsCardSaid : Prop := Claim7.holds Tryd.pinned (.plain (OpenSpec.ofChange paradigmTwinsSpec)) paradigmTwinsCard

/-- THE SECOND FORM's CARD OF 'cognatelaw17.ParadigmNames'. -/
def paradigmNamesUptoCard : Claim7 := { stood := { row := paradigmNamesUptoRow, standIns := [], harness := (true, "708a1e74ee0575f31e765b925581d35e7e0ce5c7e8cca3e3d22585fa632764b1"), looks := true }, kinds := [], alts := [], laidByText := true, laidKinds := [.data, .pinned], laidTests := true, laidLooks := .later }
def ParadigmNamesUptoCardSaid : Prop := Claim7.holds Tryd.pinned (.plain (OpenSpec.upto paradigmNamesSpec)) paradigmNamesUptoCard

/-- THE SECOND FORM's CARD OF 'cognatelaw17.ParadigmChain'. -/
def paradigmChainUptoCard : Claim7 := { stood := { row := paradigmChainUptoRow, standIns := [], harness := (true, "708a1e74ee0575f31e765b925581d35e7e0ce5c7e8cca3e3d22585fa632764b1"), looks := true }, kinds := [], alts := [], laidByText := true, laidKinds := [.data, .pinned], laidTests := true, laidLooks := .later }
def ParadigmChainUptoCardSaid : Prop := Claim7.holds Tryd.pinned (.plain (OpenSpec.upto paradigmChainSpec)) paradigmChainUptoCard

/-- THE SECOND FORM's CARD OF 'cognatelaw17.ParadigmFind'. -/
def paradigmFindUptoCard : Claim7 := { stood := { row := paradigmFindUptoRow, standIns := [], harness := (true, "708a1e74ee0575f31e765b925581d35e7e0ce5c7e8cca3e3d22585fa632764b1"), looks := true }, kinds := [], alts := [], laidByText := true, laidKinds := [.data, .pinned], laidTests := true, laidLooks := .later }
def ParadigmFindUptoCardSaid : Prop := Claim7.holds Tryd.pinned (.plain (OpenSpec.upto paradigmFindSpec)) paradigmFindUptoCard

/-- THE SECOND FORM's CARD OF 'cognatelaw17.ParadigmBack'. -/
def paradigmBackUptoCard : Claim7 := { stood := { row := paradigmBackUptoRow, standIns := [], harness := (true, "708a1e74ee0575f31e765b925581d35e7e0ce5c7e8cca3e3d22585fa632764b1"), looks := true }, kinds := [], alts := [], laidByText := true, laidKinds := [.data, .pinned], laidTests := true, laidLooks := .later }
def ParadigmBackUptoCardSaid : Prop := Claim7.holds Tryd.pinned (.plain (OpenSpec.upto paradigmBackSpec)) paradigmBackUptoCard

/-- THE SECOND FORM's CARD OF 'cognatelaw17.ParadigmTwins'. -/
def paradigmTwinsUptoCard : Claim7 := { stood := { row := paradigmTwinsUptoRow, standIns := [], harness := (true, "708a1e74ee0575f31e765b925581d35e7e0ce5c7e8cca3e3d22585fa632764b1"), looks := true }, kinds := [], alts := [], laidByText := true, laidKinds := [.data, .pinned], laidTests := true, laidLooks := .later }
def ParadigmTwinsUptoCardSaid : Prop := Claim7.holds Tryd.pinned (.plain (OpenSpec.upto paradigmTwinsSpec)) paradigmTwinsUptoCard
end Rows
end Go.Proofs.YtkmfhcjdaglikaaDoor
