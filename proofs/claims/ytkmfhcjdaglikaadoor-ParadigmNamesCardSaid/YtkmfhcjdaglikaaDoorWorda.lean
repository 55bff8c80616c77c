/- Contracts: the reference's Number, Read, Letters. -/
import Derived.Test.YtkmfhcjdaglikaaDoorFeatc
import Derived.Test.YtkmfhcjdaglikaaDoorFeatd
import Derived.Test.YtkmfhcjdaglikaaDoorWordz
import Derived.Test.YtkmfhcjdaglikaaDoorShelf
namespace Go.Proofs.YtkmfhcjdaglikaaDoor
open Go.RowKit Go.Cg Go.Shelf

/-- the library's two tables lie in memory -/
def Tabs (w : World) : Prop := Lib.Utf8Tabs (Tryd.lays197_ren.g 3) (Tryd.lays197_ren.g 4) w
theorem Tabs.ext {w w' : World} (h : Tabs w) (hx : Ext w w') : Tabs w' := Utf8Tabs_below h hx

theorem decode_any (s : ByteArray) (a : Nat) (ha : a < s.size) (w : World) (hT : Tabs w) :
    Calls Tryd.prog 78 #[.string (s.extract a s.size)] w fun e w' => e = .returned (.tuple #[.int .i32 (runeAt s a), .int .i64 ((Utf8.decode s a).2 : Nat)]) ∧ Ext w w' := by
  have h := Any.utf8_DecodeRuneInString Tryd.lays197 (s.extract a s.size) w hT
  rw [decodeGo_tail s a ha] at h
  exact h

theorem infoR : (Tryd.prog.info? 21).map (fun i => (i.zero, i.size, i.bytes)) = some (some (.int .i32 0), 1, 4) := by kernel_rfl

theorem bad_true {s : ByteArray} {pos : Nat} (h : badAt s pos = true) : (runeAt s pos == 65533) = true ∧ (((Utf8.decode s pos).2 : Int) == 1) = true := by
  unfold badAt at h; unfold runeAt; simp only [Bool.and_eq_true, beq_iff_eq] at *; omega
theorem bad_false {s : ByteArray} {pos : Nat} (h : badAt s pos = false) : (runeAt s pos == 65533) = false ∨ (runeAt s pos == 65533) = true ∧ (((Utf8.decode s pos).2 : Int) == 1) = false := by
  unfold badAt at h; unfold runeAt; simp only [Bool.and_eq_false_iff, beq_eq_false_iff_ne, beq_iff_eq, ne_eq] at *; omega

end Go.Proofs.YtkmfhcjdaglikaaDoor
