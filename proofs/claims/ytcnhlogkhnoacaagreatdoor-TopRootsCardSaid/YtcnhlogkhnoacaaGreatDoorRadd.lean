/- Contracts: radical.Skip, cognateref03.SameInts. -/
import Derived.Test.YtcnhlogkhnoacaaGreatDoorRadc
namespace Go.Proofs.YtcnhlogkhnoacaaGreatDoor
open Go.RowKit Go.Cg Go.Shelf Go.Maps

def skE (A : Alpha) (r s : ByteArray) : Int := if (spell A r).2 ≠ 0 then (spell A r).2 else (spell A s).2
def skB (A : Alpha) (r s : ByteArray) : Bool := decide (skE A r s = 0) && decide ((skipTo (spell A r).1 (spell A s).1 (spell A s).1.length).length = (spell A r).1.length)
def skL (A : Alpha) (r s : ByteArray) : List Nat := if skB A r s = true then skipTo (spell A r).1 (spell A s).1 (spell A s).1.length else []
theorem skE_eq (A : Alpha) (r s : ByteArray) : skE A r s = if (spell A r).2 ≠ 0 then (spell A r).2 else (spell A s).2 := rfl
theorem skB_eq (A : Alpha) (r s : ByteArray) : skB A r s = (decide (skE A r s = 0) && decide ((skipTo (spell A r).1 (spell A s).1 (spell A s).1.length).length = (spell A r).1.length)) := rfl
theorem skL_eq (A : Alpha) (r s : ByteArray) : skL A r s = if skB A r s = true then skipTo (spell A r).1 (spell A s).1 (spell A s).1.length else [] := rfl

end Go.Proofs.YtcnhlogkhnoacaaGreatDoor
