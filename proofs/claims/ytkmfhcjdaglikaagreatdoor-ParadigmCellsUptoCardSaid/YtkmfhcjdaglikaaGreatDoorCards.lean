/-
  DERIVED. GIVEN WITH THE SEED: THE CARDS: each row of YtkmfhcjdaglikaaGreatDoorRows.lean that lists a variable, with what it lists TIED to the program's text (the seventh form; the later family's looks); each row that meets fmt, with fmt's text TOLD by the authors' own Lean function (tested against real Go, not proved from fmt's source: count such statements apart). THE CARD IS WHAT COUNTS. Prove the row's statement (the work); the ties are given (YtkmfhcjdaglikaaGreatDoorTie.lean); close each card by the builder's one call (the guide's Derived/Test/ToyasCard.lean, 'card_holds'). Laid BY PROGRAM, IN A SANDBOX (cutbox-door.mjs). By AI agents, Wed Nov 11 2026. No macro, syntax, notation, axiom, sorry.
-/
import Derived.Test.YtkmfhcjdaglikaaGreatDoorRows
import GoSem.ClaimSeven
namespace Go.Proofs.YtkmfhcjdaglikaaGreatDoor
namespace Rows

/-- THE TIED CARD OF 'cognatelaw17.ParadigmAffixes'. -/
def paradigmAffixesCard : Claim7 := { stood := { row := paradigmAffixesRow, standIns := [], harness := (true, "9800e52bd0e839b7b4e952580a863c519c8b787185142e052d197922f0b51347"), looks := true }, kinds := [], alts := [], laidByText := true, laidKinds := [.data, .pinned], laidTests := true, laidLooks := .later }
def ParadigmAffixesCardSaid : Prop := Claim7.holds Tryz.pinned (.plain (OpenSpec.ofChange paradigmAffixesSpec)) paradigmAffixesCard

/-- THE TIED CARD OF 'cognatelaw17.ParadigmCells'. -/
def paradigmCellsCard : Claim7 := { stood := { row := paradigmCellsRow, standIns := [], harness := (true, "9800e52bd0e839b7b4e952580a863c519c8b787185142e052d197922f0b51347"), looks := true }, kinds := [], alts := [], laidByText := true, laidKinds := [.data, .pinned], laidTests := true, laidLooks := .later }
def ParadigmCellsCardSaid : Prop := Claim7.holds Tryz.pinned (.plain (OpenSpec.ofChange paradigmCellsSpec)) paradigmCellsCard

/-- THE SECOND FORM's CARD OF 'cognatelaw17.ParadigmAffixes'. -/
def paradigmAffixesUptoCard : Claim7 := { stood := { row := paradigmAffixesUptoRow, standIns := [], harness := (true, "9800e52bd0e839b7b4e952580a863c519c8b787185142e052d197922f0b51347"), looks := true }, kinds := [], alts := [], laidByText := true, laidKinds := [.data, .pinned], laidTests := true, laidLooks := .later }
def ParadigmAffixesUptoCardSaid : Prop := Claim7.holds Tryz.pinned (.plain (OpenSpec.upto paradigmAffixesSpec)) paradigmAffixesUptoCard

/-- THE SECOND FORM's CARD OF 'cognatelaw17.ParadigmCells'. -/
def paradigmCellsUptoCard : Claim7 := { stood := { row := paradigmCellsUptoRow, standIns := [], harness := (true, "9800e52bd0e839b7b4e952580a863c519c8b787185142e052d197922f0b51347"), looks := true }, kinds := [], alts := [], laidByText := true, laidKinds := [.data, .pinned], laidTests := true, laidLooks := .later }
def ParadigmCellsUptoCardSaid : Prop := Claim7.holds Tryz.pinned (.plain (OpenSpec.upto paradigmCellsSpec)) paradigmCellsUptoCard
end Rows
end Go.Proofs.YtkmfhcjdaglikaaGreatDoor
