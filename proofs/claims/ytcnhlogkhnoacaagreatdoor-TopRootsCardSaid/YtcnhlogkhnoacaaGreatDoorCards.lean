/-
  DERIVED. GIVEN WITH THE SEED: THE CARDS: each row of YtcnhlogkhnoacaaGreatDoorRows.lean that lists a variable, with what it lists TIED to the program's text (the seventh form; the later family's looks); each row that meets fmt, with fmt's text TOLD by the authors' own Lean function (tested against real Go, not proved from fmt's source: count such statements apart). THE CARD IS WHAT COUNTS. Prove the row's statement (the work); the ties are given (YtcnhlogkhnoacaaGreatDoorTie.lean); close each card by the builder's one call (the guide's Derived/Test/ToyasCard.lean, 'card_holds'). Laid BY PROGRAM, IN A SANDBOX (cutbox-door.mjs). By AI agents, Wed Nov 11 2026. No macro, syntax, notation, axiom, sorry.
-/
import Derived.Test.YtcnhlogkhnoacaaGreatDoorRows
import GoSem.ClaimSeven
namespace Go.Proofs.YtcnhlogkhnoacaaGreatDoor
namespace Rows

/-- THE TIED CARD OF 'cognatetop.TopAligned'. -/
def topAlignedCard : Claim7 := { stood := { row := topAlignedRow, standIns := [], harness := (true, "5d2c26d134450e1bd7d860a0c0987c276ab6c22f4f807fac4a73140fa30e5058"), looks := true }, kinds := [], alts := [], laidByText := true, laidKinds := [.data, .pinned], laidTests := true, laidLooks := .later }
def TopAlignedCardSaid : Prop := Claim7.holds Tryz.pinned (.plain (OpenSpec.ofChange topAlignedSpec)) topAlignedCard

/-- THE TIED CARD OF 'cognatetop.TopRoots'. -/
def topRootsCard : Claim7 := { stood := { row := topRootsRow, standIns := [], harness := (true, "5d2c26d134450e1bd7d860a0c0987c276ab6c22f4f807fac4a73140fa30e5058"), looks := true }, kinds := [], alts := [], laidByText := true, laidKinds := [.data, .pinned], laidTests := true, laidLooks := .later }
def TopRootsCardSaid : Prop := Claim7.holds Tryz.pinned (.plain (OpenSpec.ofChange topRootsSpec)) topRootsCard

/-- THE TIED CARD OF 'cognatetop.TopBytes'. -/
def topBytesCard : Claim7 := { stood := { row := topBytesRow, standIns := [], harness := (true, "5d2c26d134450e1bd7d860a0c0987c276ab6c22f4f807fac4a73140fa30e5058"), looks := true }, kinds := [], alts := [], laidByText := true, laidKinds := [.data, .data, .data, .data, .sentinel, .sentinel, .pinned], laidTests := true, laidLooks := .later }
def TopBytesCardSaid : Prop := Claim7.holds Tryz.pinned (.plain (OpenSpec.ofChange topBytesSpec)) topBytesCard

/-- THE SECOND FORM's CARD OF 'cognatetop.TopAligned'. -/
def topAlignedUptoCard : Claim7 := { stood := { row := topAlignedUptoRow, standIns := [], harness := (true, "5d2c26d134450e1bd7d860a0c0987c276ab6c22f4f807fac4a73140fa30e5058"), looks := true }, kinds := [], alts := [], laidByText := true, laidKinds := [.data, .pinned], laidTests := true, laidLooks := .later }
def TopAlignedUptoCardSaid : Prop := Claim7.holds Tryz.pinned (.plain (OpenSpec.upto topAlignedSpec)) topAlignedUptoCard

/-- THE SECOND FORM's CARD OF 'cognatetop.TopRoots'. -/
def topRootsUptoCard : Claim7 := { stood := { row := topRootsUptoRow, standIns := [], harness := (true, "5d2c26d134450e1bd7d860a0c0987c276ab6c22f4f807fac4a73140fa30e5058"), looks := true }, kinds := [], alts := [], laidByText := true, laidKinds := [.data, .pinned], laidTests := true, laidLooks := .later }
def TopRootsUptoCardSaid : Prop := Claim7.holds Tryz.pinned (.plain (OpenSpec.upto topRootsSpec)) topRootsUptoCard

/-- THE SECOND FORM's CARD OF 'cognatetop.TopBytes'. -/
def topBytesUptoCard : Claim7 := { stood := { row := topBytesUptoRow, standIns := [], harness := (true, "5d2c26d134450e1bd7d860a0c0987c276ab6c22f4f807fac4a73140fa30e5058"), looks := true }, kinds := [], alts := [], laidByText := true, laidKinds := [.data, .data, .data, .data, .sentinel, .sentinel, .pinned], laidTests := true, laidLooks := .later }
def TopBytesUptoCardSaid : Prop := Claim7.holds Tryz.pinned (.plain (OpenSpec.upto topBytesSpec)) topBytesUptoCard
end Rows
end Go.Proofs.YtcnhlogkhnoacaaGreatDoor
