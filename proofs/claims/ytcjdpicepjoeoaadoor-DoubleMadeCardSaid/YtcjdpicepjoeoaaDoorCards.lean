/-
  DERIVED. GIVEN WITH THE SEED: THE CARDS: each row of YtcjdpicepjoeoaaDoorRows.lean that lists a variable, with what it lists TIED to the program's text (the seventh form; the later family's looks); each row that meets fmt, with fmt's text TOLD by the authors' own Lean function (tested against real Go, not proved from fmt's source: count such statements apart). THE CARD IS WHAT COUNTS. Prove the row's statement (the work); the ties are given (YtcjdpicepjoeoaaDoorTie.lean); close each card by the builder's one call (the guide's Derived/Test/ToyasCard.lean, 'card_holds'). Laid BY PROGRAM, IN A SANDBOX (cutbox-door.mjs). By AI agents, Wed Nov 11 2026. No macro, syntax, notation, axiom, sorry.
-/
import Derived.Test.YtcjdpicepjoeoaaDoorRows
import GoSem.ClaimSeven
namespace Go.Proofs.YtcjdpicepjoeoaaDoor
namespace Rows

/-- THE TIED CARD OF 'cognatelaw15.DoubleRuns'. -/
def doubleRunsCard : Claim7 := { stood := { row := doubleRunsRow, standIns := [], harness := (true, "2402e2bc2638b2f816f62a2ebaa7d164cd08fd92eecbc9f5227a3d51b0e93afd"), looks := false }, kinds := [], alts := [], laidByText := true, laidKinds := [.data, .pinned], laidTests := true, laidLooks := .later }
def DoubleRunsCardSaid : Prop := Claim7.holds Tryd.pinned (.plain (OpenSpec.ofChange doubleRunsSpec)) doubleRunsCard

/-- THE TIED CARD OF 'cognatelaw15.DoubleBack'. -/
def doubleBackCard : Claim7 := { stood := { row := doubleBackRow, standIns := [], harness := (true, "2402e2bc2638b2f816f62a2ebaa7d164cd08fd92eecbc9f5227a3d51b0e93afd"), looks := false }, kinds := [], alts := [], laidByText := true, laidKinds := [.data, .pinned], laidTests := true, laidLooks := .later }
def DoubleBackCardSaid : Prop := Claim7.holds Tryd.pinned (.plain (OpenSpec.ofChange doubleBackSpec)) doubleBackCard

/-- THE TIED CARD OF 'cognatelaw15.DoubleSquares'. -/
def doubleSquaresCard : Claim7 := { stood := { row := doubleSquaresRow, standIns := [], harness := (true, "2402e2bc2638b2f816f62a2ebaa7d164cd08fd92eecbc9f5227a3d51b0e93afd"), looks := false }, kinds := [], alts := [], laidByText := true, laidKinds := [.data, .pinned], laidTests := true, laidLooks := .later }
def DoubleSquaresCardSaid : Prop := Claim7.holds Tryd.pinned (.plain (OpenSpec.ofChange doubleSquaresSpec)) doubleSquaresCard

/-- THE TIED CARD OF 'cognatelaw15.DoubleMade'. -/
def doubleMadeCard : Claim7 := { stood := { row := doubleMadeRow, standIns := [], harness := (true, "2402e2bc2638b2f816f62a2ebaa7d164cd08fd92eecbc9f5227a3d51b0e93afd"), looks := false }, kinds := [], alts := [], laidByText := true, laidKinds := [.data, .pinned], laidTests := true, laidLooks := .later }
def DoubleMadeCardSaid : Prop := Claim7.holds Tryd.pinned (.plain (OpenSpec.ofChange doubleMadeSpec)) doubleMadeCard

/-- THE SECOND FORM's CARD OF 'cognatelaw15.DoubleRuns'. -/
def doubleRunsUptoCard : Claim7 := { stood := { row := doubleRunsUptoRow, standIns := [], harness := (true, "2402e2bc2638b2f816f62a2ebaa7d164cd08fd92eecbc9f5227a3d51b0e93afd"), looks := false }, kinds := [], alts := [], laidByText := true, laidKinds := [.data, .pinned], laidTests := true, laidLooks := .later }
def DoubleRunsUptoCardSaid : Prop := Claim7.holds Tryd.pinned (.plain (OpenSpec.upto doubleRunsSpec)) doubleRunsUptoCard

/-- THE SECOND FORM's CARD OF 'cognatelaw15.DoubleBack'. -/
def doubleBackUptoCard : Claim7 := { stood := { row := doubleBackUptoRow, standIns := [], harness := (true, "2402e2bc2638b2f816f62a2ebaa7d164cd08fd92eecbc9f5227a3d51b0e93afd"), looks := false }, kinds := [], alts := [], laidByText := true, laidKinds := [.data, .pinned], laidTests := true, laidLooks := .later }
def DoubleBackUptoCardSaid : Prop := Claim7.holds Tryd.pinned (.plain (OpenSpec.upto doubleBackSpec)) doubleBackUptoCard

/-- THE SECOND FORM's CARD OF 'cognatelaw15.DoubleSquares'. -/
def doubleSquaresUptoCard : Claim7 := { stood := { row := doubleSquaresUptoRow, standIns := [], harness := (true, "2402e2bc2638b2f816f62a2ebaa7d164cd08fd92eecbc9f5227a3d51b0e93afd"), looks := false }, kinds := [], alts := [], laidByText := true, laidKinds := [.data, .pinned], laidTests := true, laidLooks := .later }
def DoubleSquaresUptoCardSaid : Prop := Claim7.holds Tryd.pinned (.plain (OpenSpec.upto doubleSquaresSpec)) doubleSquaresUptoCard

/-- THE SECOND FORM's CARD OF 'cognatelaw15.DoubleMade'. -/
def doubleMadeUptoCard : Claim7 := { stood := { row := doubleMadeUptoRow, standIns := [], harness := (true, "2402e2bc2638b2f816f62a2ebaa7d164cd08fd92eecbc9f5227a3d51b0e93afd"), looks := false }, kinds := [], alts := [], laidByText := true, laidKinds := [.data, .pinned], laidTests := true, laidLooks := .later }
def DoubleMadeUptoCardSaid : Prop := Claim7.holds Tryd.pinned (.plain (OpenSpec.upto doubleMadeSpec)) doubleMadeUptoCard
end Rows
end Go.Proofs.YtcjdpicepjoeoaaDoor
