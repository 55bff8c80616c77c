/- Contracts of the counting of unlike signs: bits.OnesCount32, feature.unlike and its reference; the reference's mask of all features, its May, its names. -/
import Derived.Test.YtcnhlogkhnoacaaGreatDoorFeata
namespace Go.Proofs.YtcnhlogkhnoacaaGreatDoor
open Go.RowKit Go.Cg

def popTab : ByteArray := ⟨#[0, 1, 1, 2, 1, 2, 2, 3, 1, 2, 2, 3, 2, 3, 3, 4, 1, 2, 2, 3, 2, 3, 3, 4, 2, 3, 3, 4, 3, 4, 4, 5, 1, 2, 2, 3, 2, 3, 3, 4, 2, 3, 3, 4, 3, 4, 4, 5, 2, 3, 3, 4, 3, 4, 4, 5, 3, 4, 4, 5, 4, 5, 5, 6, 1, 2, 2, 3, 2, 3, 3, 4, 2, 3, 3, 4, 3, 4, 4, 5, 2, 3, 3, 4, 3, 4, 4, 5, 3, 4, 4, 5, 4, 5, 5, 6, 2, 3, 3, 4, 3, 4, 4, 5, 3, 4, 4, 5, 4, 5, 5, 6, 3, 4, 4, 5, 4, 5, 5, 6, 4, 5, 5, 6, 5, 6, 6, 7, 1, 2, 2, 3, 2, 3, 3, 4, 2, 3, 3, 4, 3, 4, 4, 5, 2, 3, 3, 4, 3, 4, 4, 5, 3, 4, 4, 5, 4, 5, 5, 6, 2, 3, 3, 4, 3, 4, 4, 5, 3, 4, 4, 5, 4, 5, 5, 6, 3, 4, 4, 5, 4, 5, 5, 6, 4, 5, 5, 6, 5, 6, 6, 7, 2, 3, 3, 4, 3, 4, 4, 5, 3, 4, 4, 5, 4, 5, 5, 6, 3, 4, 4, 5, 4, 5, 5, 6, 4, 5, 5, 6, 5, 6, 6, 7, 3, 4, 4, 5, 4, 5, 5, 6, 4, 5, 5, 6, 5, 6, 6, 7, 4, 5, 5, 6, 5, 6, 6, 7, 5, 6, 6, 7, 6, 7, 7, 8]⟩
theorem popTab_fin : ∀ i : Fin 256, (popTab.data.toList.getD i.val 0).toNat = pop 8 i.val := by decide +kernel
theorem popTab_size : popTab.size = 256 := by decide +kernel
theorem popTab_at (i : Nat) (h : i < popTab.size) : popTab[i].toNat = pop 8 i := by
  have hs : popTab.size = 256 := popTab_size
  have := popTab_fin ⟨i, by omega⟩
  have e : popTab[i] = popTab.data.toList.getD i 0 := by
    have hl : i < popTab.data.toList.length := h
    simp only [List.getD, List.getElem?_eq_getElem hl, Option.getD_some]
    rfl
  rw [e]; exact this
theorem pop32 (p : Nat) : pop 32 p = pop 8 (p / 16777216) + pop 8 (p / 65536 % 256) + pop 8 (p / 256 % 256) + pop 8 (p % 256) := by
  have h1 := pop_add 8 24 p
  have h2 := pop_add 8 16 (p / 2 ^ 8)
  have h3 := pop_add 8 8 (p / 2 ^ 8 / 2 ^ 8)
  have m1 := pop_mod 8 p
  have m2 := pop_mod 8 (p / 2 ^ 8)
  have m3 := pop_mod 8 (p / 2 ^ 8 / 2 ^ 8)
  simp only [Nat.div_div_eq_div_mul, Nat.reduceAdd, Nat.reducePow, Nat.reduceMul] at h1 h2 h3 m1 m2 m3
  omega
theorem ones_fin (p : Nat) (x y z : Int) (_hp : p < 4294967296) (i : Nat) (hi : i < popTab.size) (ei : i = p / 16777216) (hx : x = ((p / 65536 % 256 : Nat) : Int)) (hy : y = ((p / 256 % 256 : Nat) : Int)) (hz : z = ((p % 256 : Nat) : Int))
    (h1 : x.toNat < popTab.size) (h2 : y.toNat < popTab.size) (h3 : z.toNat < popTab.size) :
    ((popTab[i].toNat : Int) + (popTab[x.toNat].toNat : Int) + (popTab[y.toNat].toNat : Int) + (popTab[z.toNat].toNat : Int)) % 256 = (pop 32 p : Nat) := by
  rw [popTab_at i hi, popTab_at _ h1, popTab_at _ h2, popTab_at _ h3]
  subst ei hx hy hz
  simp only [Int.toNat_natCast]
  have := pop32 p
  have l1 := pop_le 8 (p / 16777216)
  have l2 := pop_le 8 (p / 65536 % 256)
  have l3 := pop_le 8 (p / 256 % 256)
  have l4 := pop_le 8 (p % 256)
  omega

theorem and255 (q : Nat) (hq : q < 4294967296) : bits BinOp.and IntKind.u32 (q : Int) 255 = ((q % 256 : Nat) : Int) := by
  have := u32_and_nat q 255 hq (by decide)
  rw [show (255 : Nat) = 2 ^ 8 - 1 from rfl, Nat.and_two_pow_sub_one_eq_mod] at this
  simpa using this

set_option maxRecDepth 100000 in
set_option maxHeartbeats 800000 in
theorem ones_any (p : Nat) (hp : p < 4294967296) (w : World) :
    Calls Tryz.prog 168 #[.int .u32 p] w fun e w' => e = .returned (.int .i64 (pop 32 p : Nat)) ∧ ∃ q, w' = w.drewN q := by
  have E1 : bits BinOp.and IntKind.u32 ((p : Int) / 65536) 255 = ((p / 65536 % 256 : Nat) : Int) := by
    have := and255 (p / 65536) (by omega); simpa using this
  have E2 : bits BinOp.and IntKind.u32 ((p : Int) / 256) 255 = ((p / 256 % 256 : Nat) : Int) := by
    have := and255 (p / 256) (by omega); simpa using this
  have E3 : bits BinOp.and IntKind.u32 (p : Int) 255 = ((p % 256 : Nat) : Int) := and255 p hp
  have h1 : (0:Int) ≤ p / 16777216 := by omega
  have h2 : (p:Int) / 16777216 < 256 := by omega
  have h3 : (0:Int) ≤ bits BinOp.and IntKind.u32 ((p : Int) / 65536) 255 := by rw [E1]; omega
  have h4 : bits BinOp.and IntKind.u32 ((p : Int) / 65536) 255 < 256 := by rw [E1]; omega
  have h5 : (0:Int) ≤ bits BinOp.and IntKind.u32 ((p : Int) / 256) 255 := by rw [E2]; omega
  have h6 : bits BinOp.and IntKind.u32 ((p : Int) / 256) 255 < 256 := by rw [E2]; omega
  have h7 : (0:Int) ≤ bits BinOp.and IntKind.u32 (p : Int) 255 := by rw [E3]; omega
  have h8 : bits BinOp.and IntKind.u32 (p : Int) 255 < 256 := by rw [E3]; omega
  have H1 := Lib.hid E1; clear E1
  have H2 := Lib.hid E2; clear E2
  have H3 := Lib.hid E3; clear E3
  go_enter Tryz.func168, Tryz.ntmps168
  go_wp2
  go_quiet (fail)
  go_wp2
  go_ret
  exact ⟨ret_int (ones_fin p _ _ _ hp _ _ rfl H1.out H2.out H3.out _ _ _), _, rfl⟩

set_option maxHeartbeats 400000 in
theorem unlike_any (r r' : Int) (xp xm yp ym : Nat) (h1 : xp < 4294967296) (h2 : xm < 4294967296) (h3 : yp < 4294967296) (h4 : ym < 4294967296) (w : World) :
    Calls Tryz.prog 141 #[.agg #[.int .i32 r, .int .u32 xp, .int .u32 xm], .agg #[.int .i32 r', .int .u32 yp, .int .u32 ym]] w fun e w' => e = .returned (.int .i64 (unlikeN xp xm yp ym : Nat)) ∧ Ext w w' := by
  have l1 : xp ^^^ yp < 4294967296 := Nat.xor_lt_two_pow (n := 32) (by omega) (by omega)
  have l2 : xm ^^^ ym < 4294967296 := Nat.xor_lt_two_pow (n := 32) (by omega) (by omega)
  have l3 : (xp ^^^ yp) ||| (xm ^^^ ym) < 4294967296 := Nat.or_lt_two_pow (n := 32) (by omega) (by omega)
  have E : bits BinOp.or IntKind.u32 (bits BinOp.xor IntKind.u32 (xp : Int) (yp : Int)) (bits BinOp.xor IntKind.u32 (xm : Int) (ym : Int)) = (((xp ^^^ yp) ||| (xm ^^^ ym) : Nat) : Int) := by
    rw [u32_xor_nat xp yp h1 h3, u32_xor_nat xm ym h2 h4, u32_or_nat _ _ l1 l2]
  have H := Lib.hid E; clear E
  go_enter Tryz.func141, Tryz.ntmps141
  go_wp2_with fail
  rw [H.out]
  refine (ones_any _ l3 _).mono ?_
  rintro e w1 ⟨rfl, q, rfl⟩
  go_wp2
  go_ret
  exact ⟨rfl, (((Ext.refl _).alloc _).alloc _).drewN _⟩

theorem pop24 {xp xm yp ym : Nat} (h1 : xp < 16777216) (h2 : xm < 16777216) (h3 : yp < 16777216) (h4 : ym < 16777216) : unlikeN xp xm yp ym = pop 24 ((xp ^^^ yp) ||| (xm ^^^ ym)) :=
  pop_of_lt (by omega) (Nat.or_lt_two_pow (Nat.xor_lt_two_pow h1 h3) (Nat.xor_lt_two_pow h2 h4))
theorem and_bit (x k : Nat) : x &&& 2 ^ k = if x.testBit k then 2 ^ k else 0 := by
  apply Nat.eq_of_testBit_eq
  intro i
  rw [Nat.testBit_and, Nat.testBit_two_pow]
  by_cases h : k = i
  · subst h; cases hx : x.testBit k <;> simp
  · cases hx : x.testBit k <;> simp [h]
theorem and_bit_ne (x y k : Nat) : (x &&& 2 ^ k ≠ y &&& 2 ^ k) ↔ (x ^^^ y).testBit k = true := by
  rw [and_bit, and_bit, Nat.testBit_xor]
  have := Nat.two_pow_pos k
  cases x.testBit k <;> cases y.testBit k <;> simp <;> omega
theorem pop_step (x y z t k : Nat) : pop (k + 1) ((x ^^^ y) ||| (z ^^^ t)) = pop k ((x ^^^ y) ||| (z ^^^ t)) + if (x &&& 2 ^ k ≠ y &&& 2 ^ k) ∨ (z &&& 2 ^ k ≠ t &&& 2 ^ k) then 1 else 0 := by
  have e1 := and_bit_ne x y k
  have e2 := and_bit_ne z t k
  rw [pop_succ]
  congr 1
  by_cases h : (x &&& 2 ^ k ≠ y &&& 2 ^ k) ∨ (z &&& 2 ^ k ≠ t &&& 2 ^ k)
  · rw [if_pos h, if_pos (by rw [Nat.testBit_or, Bool.or_eq_true, ← e1, ← e2]; exact h)]
  · rw [if_neg h, if_neg (by rw [Nat.testBit_or, Bool.or_eq_true, ← e1, ← e2]; exact h)]

end Go.Proofs.YtcnhlogkhnoacaaGreatDoor
