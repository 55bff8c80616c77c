/- Contracts of feature's and its reference's small functions: each call returns the plain number or truth value named, and leaves what was in memory as it was. -/
import Derived.Test.YtcnhlogkhnoacaaGreatDoorProg
import Derived.Test.YtcnhlogkhnoacaaGreatDoorBase
namespace Go.Proofs.YtcnhlogkhnoacaaGreatDoor
open Go.RowKit Go.Cg

set_option maxHeartbeats 400000 in
theorem lettered_any (r : Int) (w : World) (h1 : -2147483648 ≤ r) (h2 : r ≤ 2147483647) :
    Calls Tryz.prog 64 #[.int .i32 r] w fun e w' => e = .returned (.bool (runeOk r)) ∧ w' = w := by
  go_enter Tryz.func64, Tryz.ntmps64
  go_wp2
  all_goals go_ret
  all_goals (refine ⟨ret_bool ?_, rfl⟩; unfold runeOk; rw [Bool.eq_iff_iff]; simp only [decide_eq_true_eq, beq_iff_eq, ne_eq, beq_eq_false_iff_ne, Bool.false_eq_true, eq_self, true_iff, false_iff] at *; omega)

set_option maxHeartbeats 400000 in
theorem letter_any (r : Int) (w : World) (h1 : -2147483648 ≤ r) (h2 : r ≤ 2147483647) :
    Calls Tryz.prog 48 #[.int .i32 r] w fun e w' => e = .returned (.bool (runeOk r)) ∧ w' = w := by
  go_enter Tryz.func48, Tryz.ntmps48
  go_wp2
  all_goals go_ret
  all_goals (refine ⟨ret_bool ?_, rfl⟩; unfold runeOk; rw [Bool.eq_iff_iff]; simp only [decide_eq_true_eq, bne_iff_ne, ne_eq, Bool.and_eq_true, Bool.or_eq_true, Bool.false_eq_true, eq_self, true_iff, false_iff] at *; omega)

set_option maxHeartbeats 400000 in
theorem within_any (fp : Option Addr) (n c : Nat) (ls : Value) (p m : Nat) (hp : p < 4294967296) (hm : m < 4294967296) (_hn : n ≤ 8796093022208) (w : World) :
    Calls Tryz.prog 65 #[.agg #[.slice fp n c, ls], .int .u32 p, .int .u32 m] w fun e w' => e = .returned (.bool (mayB n p m)) ∧ Ext w w' := by
  have e1 := Lib.hid (u32_or_nat p m hp hm)
  have e2 := Lib.hid (u32_and_nat p m hp hm)
  have e3 := Lib.hid (cg_within_iff (n := n) hp hm)
  go_enter Tryz.func65, Tryz.ntmps65
  go_wp2
  all_goals go_ret
  all_goals (refine ⟨ret_bool ?_, (Ext.refl _).alloc _⟩; have E1 := e1.out; have E2 := e2.out; have E3 := e3.out; rw [Bool.eq_iff_iff]; simp only [mayB, decide_eq_true_eq, beq_iff_eq, Bool.false_eq_true, false_iff] at *; have E4 : bits BinOp.or IntKind.u32 (p : Int) (m : Int) / 2 ^ min n 32 = (((p ||| m) / 2 ^ min n 32 : Nat) : Int) := (by rw [E1]; simp); omega)

set_option maxHeartbeats 400000 in
theorem like_any (r : Int) (lp lm p m : Nat) (hlp : lp < 4294967296) (hlm : lm < 4294967296) (hp : p < 4294967296) (hm : m < 4294967296) (w : World) :
    Calls Tryz.prog 149 #[.agg #[.int .i32 r, .int .u32 lp, .int .u32 lm], .int .u32 p, .int .u32 m] w fun e w' => e = .returned (.bool (likeB lp lm p m)) ∧ Ext w w' := by
  have e1 := Lib.hid (u32_andNot_nat p lp hp hlp)
  have e2 := Lib.hid (u32_andNot_nat m lm hm hlm)
  have e3 := Lib.hid (andNot_iff hp hlp)
  have e4 := Lib.hid (andNot_iff hm hlm)
  go_enter Tryz.func149, Tryz.ntmps149
  go_wp2
  all_goals go_ret
  all_goals (refine ⟨ret_bool ?_, (Ext.refl _).alloc _⟩; have E1 := e1.out; have E2 := e2.out; have E3 := e3.out; have E4 := e4.out; rw [Bool.eq_iff_iff]; simp only [likeB, decide_eq_true_eq, beq_iff_eq, Bool.false_eq_true, false_iff] at *; omega)

end Go.Proofs.YtcnhlogkhnoacaaGreatDoor
