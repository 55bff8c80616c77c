/- Plain: the pieces of a text, byte by byte, as the reference reads them. -/
import Derived.Test.YtnngljflnfjppaaDoorRadz
import Derived.Test.YtnngljflnfjppaaDoorCodez
import Derived.Lib.DecodeN
namespace Go.Cg
open Go.RowKit Go.Lib

def bt (s : ByteArray) (i : Nat) : Nat := (s.get! i).toNat
theorem bt_lt (s : ByteArray) (i : Nat) : bt s i < 256 := (s.get! i).toNat_lt
theorem bt_eq {s : ByteArray} {i : Nat} (h : i < s.size) : bt s i = (s[i]'h).toNat := by unfold bt; rw [Go.Proofs.Utf8W.get!_of_lt _ _ h]
/-- the value of a rune's first bytes -/
def pv (s : ByteArray) (pos base : Nat) : Nat → Nat
  | 0 => bt s pos - base
  | k + 1 => 64 * pv s pos base k + (bt s (pos + (k + 1)) - 128)
def contB (s : ByteArray) (pos n : Nat) : Prop := ∀ j, 1 ≤ j → j < n → 128 ≤ bt s (pos + j) ∧ bt s (pos + j) < 192
set_option maxRecDepth 100000 in
theorem pv_le {s : ByteArray} {pos base : Nat} (h : bt s pos - base ≤ 31) {d : Nat} (hc : contB s pos (d + 1)) : (d ≤ 3 → pv s pos base d ≤ 8388607) ∧ (d ≤ 2 → pv s pos base d ≤ 131071) := by
  have c1 := hc 1 (by omega)
  have c2 := hc 2 (by omega)
  have c3 := hc 3 (by omega)
  have e0 : pv s pos base 0 = bt s pos - base := rfl
  have e1 : pv s pos base 1 = 64 * pv s pos base 0 + (bt s (pos + 1) - 128) := rfl
  have e2 : pv s pos base 2 = 64 * pv s pos base 1 + (bt s (pos + 2) - 128) := rfl
  have e3 : pv s pos base 3 = 64 * pv s pos base 2 + (bt s (pos + 3) - 128) := rfl
  constructor
  · intro hd
    rcases (show d = 0 ∨ d = 1 ∨ d = 2 ∨ d = 3 by omega) with rfl | rfl | rfl | rfl
    · omega
    · have := c1 (by omega); omega
    · have := c1 (by omega); have := c2 (by omega); omega
    · have := c1 (by omega); have := c2 (by omega); have := c3 (by omega); omega
  · intro hd
    rcases (show d = 0 ∨ d = 1 ∨ d = 2 by omega) with rfl | rfl | rfl
    · omega
    · have := c1 (by omega); omega
    · have := c1 (by omega); have := c2 (by omega); omega
theorem valid_nat (v : Nat) : Utf8.valid (v : Int) = true ↔ v < 55296 ∨ (57344 ≤ v ∧ v ≤ 1114111) := by
  unfold Utf8.valid
  simp only [Bool.or_eq_true, Bool.and_eq_true, decide_eq_true_eq]
  omega

theorem dec_none {s : ByteArray} {pos : Nat} (h : 128 ≤ bt s pos) (h2 : bt s pos < 192 ∨ 248 ≤ bt s pos) : Utf8.decode s pos = (65533, 1) := by
  have hb := bt_lt s pos
  rw [Lib.decode_at]
  unfold bt at *
  generalize (s.get! pos).toNat = b0 at *
  unfold decodeN
  repeat' split
  all_goals first | (exfalso; omega) | with_reducible rfl
set_option maxRecDepth 100000 in
theorem dec2 {s : ByteArray} {pos : Nat} (h : 192 ≤ bt s pos ∧ bt s pos < 224) :
    (pos + 2 ≤ s.size ∧ contB s pos 2 ∧ 128 ≤ pv s pos 192 1 ∧ Utf8.valid (pv s pos 192 1 : Nat) = true → Utf8.decode s pos = (pv s pos 192 1, 2)) ∧ (¬ (pos + 2 ≤ s.size ∧ contB s pos 2 ∧ 128 ≤ pv s pos 192 1 ∧ Utf8.valid (pv s pos 192 1 : Nat) = true) → Utf8.decode s pos = (65533, 1)) := by
  have q1 := bt_lt s (pos + 1)
  have hcon : contB s pos 2 ↔ (128 ≤ bt s (pos + 1) ∧ bt s (pos + 1) < 192) := ⟨fun k => k 1 (by omega) (by omega), fun k j h1 h2 => by
    have e : j = 1 := (by omega)
    rw [e]; exact k⟩
  have e1 : pv s pos 192 1 = 64 * (bt s pos - 192) + (bt s (pos + 1) - 128) := rfl
  rw [hcon, valid_nat, Lib.decode_at, e1]
  unfold bt at *
  generalize (s.get! pos).toNat = b0 at *
  generalize (s.get! (pos + 1)).toNat = b1 at *
  generalize (s.get! (pos + 2)).toNat = b2 at *
  generalize (s.get! (pos + 3)).toNat = b3 at *
  have g1 : ¬ b0 < 128 := by omega
  have g2 : b0 / 32 = 6 := by omega
  unfold decodeN
  rw [if_neg g1]
  by_cases g3 : 1 < s.size - pos ∧ b1 / 64 = 2
  · rw [if_pos ⟨g2, g3⟩]
    constructor
    · intro k
      rw [if_pos (by omega)]
      apply Prod.ext
      · show b0 % 32 * 64 + b1 % 64 = 64 * (b0 - 192) + (b1 - 128); omega
      · rfl
    · intro k
      rw [if_neg (by omega)]
  · rw [if_neg (fun h => g3 h.2), if_neg (fun h => absurd h.1 (by omega)), if_neg (fun h => absurd h.1 (by omega))]
    exact ⟨fun k => by exfalso; omega, fun _ => rfl⟩
set_option maxRecDepth 100000 in
theorem dec3 {s : ByteArray} {pos : Nat} (h : 224 ≤ bt s pos ∧ bt s pos < 240) :
    (pos + 3 ≤ s.size ∧ contB s pos 3 ∧ 2048 ≤ pv s pos 224 2 ∧ Utf8.valid (pv s pos 224 2 : Nat) = true → Utf8.decode s pos = (pv s pos 224 2, 3)) ∧ (¬ (pos + 3 ≤ s.size ∧ contB s pos 3 ∧ 2048 ≤ pv s pos 224 2 ∧ Utf8.valid (pv s pos 224 2 : Nat) = true) → Utf8.decode s pos = (65533, 1)) := by
  have q1 := bt_lt s (pos + 1)
  have q2 := bt_lt s (pos + 2)
  have hcon : contB s pos 3 ↔ (128 ≤ bt s (pos + 1) ∧ bt s (pos + 1) < 192) ∧ (128 ≤ bt s (pos + 2) ∧ bt s (pos + 2) < 192) := ⟨fun k => ⟨k 1 (by omega) (by omega), k 2 (by omega) (by omega)⟩, fun k j h1 h2 => by
    have e : j = 1 ∨ j = 2 := (by omega)
    cases e with
    | inl e => rw [e]; exact k.1
    | inr e => rw [e]; exact k.2⟩
  have e1 : pv s pos 224 2 = 64 * (64 * (bt s pos - 224) + (bt s (pos + 1) - 128)) + (bt s (pos + 2) - 128) := rfl
  rw [hcon, valid_nat, Lib.decode_at, e1]
  unfold bt at *
  generalize (s.get! pos).toNat = b0 at *
  generalize (s.get! (pos + 1)).toNat = b1 at *
  generalize (s.get! (pos + 2)).toNat = b2 at *
  generalize (s.get! (pos + 3)).toNat = b3 at *
  have g1 : ¬ b0 < 128 := by omega
  have g2 : ¬ b0 / 32 = 6 := by omega
  have g4 : b0 / 16 = 14 := by omega
  have g5 : ¬ b0 / 8 = 30 := by omega
  unfold decodeN
  rw [if_neg g1, if_neg (fun h => g2 h.1)]
  by_cases g3 : (1 < s.size - pos ∧ b1 / 64 = 2) ∧ 2 < s.size - pos ∧ b2 / 64 = 2
  · rw [if_pos ⟨g4, g3⟩]
    constructor
    · intro k
      rw [if_pos (by omega)]
      apply Prod.ext
      · show b0 % 16 * 4096 + b1 % 64 * 64 + b2 % 64 = 64 * (64 * (b0 - 224) + (b1 - 128)) + (b2 - 128); omega
      · rfl
    · intro k
      rw [if_neg (by omega)]
  · rw [if_neg (fun h => g3 h.2), if_neg (fun h => g5 h.1)]
    exact ⟨fun k => by exfalso; omega, fun _ => rfl⟩
set_option maxRecDepth 100000 in
theorem dec4 {s : ByteArray} {pos : Nat} (h : 240 ≤ bt s pos ∧ bt s pos < 248) :
    (pos + 4 ≤ s.size ∧ contB s pos 4 ∧ 65536 ≤ pv s pos 240 3 ∧ Utf8.valid (pv s pos 240 3 : Nat) = true → Utf8.decode s pos = (pv s pos 240 3, 4)) ∧ (¬ (pos + 4 ≤ s.size ∧ contB s pos 4 ∧ 65536 ≤ pv s pos 240 3 ∧ Utf8.valid (pv s pos 240 3 : Nat) = true) → Utf8.decode s pos = (65533, 1)) := by
  have q1 := bt_lt s (pos + 1)
  have q2 := bt_lt s (pos + 2)
  have q3 := bt_lt s (pos + 3)
  have hcon : contB s pos 4 ↔ (128 ≤ bt s (pos + 1) ∧ bt s (pos + 1) < 192) ∧ (128 ≤ bt s (pos + 2) ∧ bt s (pos + 2) < 192) ∧ (128 ≤ bt s (pos + 3) ∧ bt s (pos + 3) < 192) := ⟨fun k => ⟨k 1 (by omega) (by omega), k 2 (by omega) (by omega), k 3 (by omega) (by omega)⟩, fun k j h1 h2 => by
    have e : j = 1 ∨ j = 2 ∨ j = 3 := (by omega)
    cases e with
    | inl e => rw [e]; exact k.1
    | inr e =>
      cases e with
      | inl e => rw [e]; exact k.2.1
      | inr e => rw [e]; exact k.2.2⟩
  have e1 : pv s pos 240 3 = 64 * (64 * (64 * (bt s pos - 240) + (bt s (pos + 1) - 128)) + (bt s (pos + 2) - 128)) + (bt s (pos + 3) - 128) := rfl
  rw [hcon, valid_nat, Lib.decode_at, e1]
  unfold bt at *
  generalize (s.get! pos).toNat = b0 at *
  generalize (s.get! (pos + 1)).toNat = b1 at *
  generalize (s.get! (pos + 2)).toNat = b2 at *
  generalize (s.get! (pos + 3)).toNat = b3 at *
  have g1 : ¬ b0 < 128 := by omega
  have g2 : ¬ b0 / 32 = 6 := by omega
  have g4 : ¬ b0 / 16 = 14 := by omega
  have g5 : b0 / 8 = 30 := by omega
  unfold decodeN
  rw [if_neg g1, if_neg (fun h => g2 h.1), if_neg (fun h => g4 h.1)]
  by_cases g3 : (1 < s.size - pos ∧ b1 / 64 = 2) ∧ (2 < s.size - pos ∧ b2 / 64 = 2) ∧ 3 < s.size - pos ∧ b3 / 64 = 2
  · rw [if_pos ⟨g5, g3⟩]
    constructor
    · intro k
      rw [if_pos (by omega)]
      apply Prod.ext
      · show b0 % 8 * 262144 + b1 % 64 * 4096 + b2 % 64 * 64 + b3 % 64 = 64 * (64 * (64 * (b0 - 240) + (b1 - 128)) + (b2 - 128)) + (b3 - 128); omega
      · rfl
    · intro k
      rw [if_neg (by omega)]
  · rw [if_neg (fun h => g3 h.2)]
    exact ⟨fun k => by exfalso; omega, fun _ => rfl⟩
/-- a piece, as the reference gives it -/
def pieceV (s : ByteArray) (pos : Nat) : Value := .agg #[.int .i32 (runeAt s pos), .int .i64 (pos : Int), .int .i64 ((Utf8.decode s pos).2 : Nat), .bool (badAt s pos)]
theorem piece_bad {s : ByteArray} {pos : Nat} (h : Utf8.decode s pos = (65533, 1)) : pieceV s pos = .agg #[.int .i32 65533, .int .i64 (pos : Int), .int .i64 1, .bool true] := by
  unfold pieceV runeAt badAt; rw [h]; rfl
theorem piece_good {s : ByteArray} {pos v n : Nat} (h : Utf8.decode s pos = (v, n)) (hn : n ≠ 1) : pieceV s pos = .agg #[.int .i32 (v : Int), .int .i64 (pos : Int), .int .i64 (n : Int), .bool false] := by
  have e : badAt s pos = false := by
    unfold badAt; rw [h]
    have : (n == 1) = false := by rw [beq_eq_false_iff_ne]; exact hn
    show ((v == 65533) && (n == 1)) = false
    rw [this, Bool.and_false]
  unfold pieceV runeAt; rw [e, h]
theorem piece_ascii {s : ByteArray} {pos : Nat} (hp : pos < s.size) (h : bt s pos < 128) : pieceV s pos = .agg #[.int .i32 (bt s pos : Nat), .int .i64 (pos : Int), .int .i64 1, .bool false] := by
  have hd : Utf8.decode s pos = (bt s pos, 1) := by
    rw [Lib.decode_at]; unfold bt at *; unfold decodeN; rw [if_pos h]
  have e : badAt s pos = false := by
    unfold badAt; rw [hd]
    have : (bt s pos == 65533) = false := by rw [beq_eq_false_iff_ne]; omega
    show ((bt s pos == 65533) && (1 == 1)) = false
    rw [this, Bool.false_and]
  unfold pieceV runeAt; rw [e, hd]; rfl
theorem four_cells {w : World} {b : Nat} {v0 v1 v2 v3 : Value} {T : TypeId} (h : w.heap[b]? = some (.cells #[v0, v1, v2, v3] T (0, 0))) : w.cell? ⟨b, 0, none⟩ = some v0 ∧ w.cell? ⟨b, 1, none⟩ = some v1 ∧ w.cell? ⟨b, 2, none⟩ = some v2 ∧ w.cell? ⟨b, 3, none⟩ = some v3 ∧ b < w.heap.size := by
  refine ⟨?_, ?_, ?_, ?_, (Array.getElem?_eq_some_iff.1 h).1⟩
  all_goals (simp only [World.cell?, h]; rfl)
theorem four_froz {w : World} {b : Nat} {cs : Array Value} {T : TypeId} (h : w.heap[b]? = some (.cells cs T (0, 0))) (j : Nat) : w.frozen? ⟨b, j, none⟩ = false := by
  simp [World.frozen?, h]
theorem set_four {w : World} {b : Nat} {a0 a1 a2 a3 v0 v1 v2 v3 : Value} {T : TypeId} (h : w.heap[b]? = some (.cells #[a0, a1, a2, a3] T (0, 0))) : ((((w.setCell ⟨b, 0, none⟩ v0).setCell ⟨b, 1, none⟩ v1).setCell ⟨b, 2, none⟩ v2).setCell ⟨b, 3, none⟩ v3).heap[b]? = some (.cells #[v0, v1, v2, v3] T (0, 0)) := by
  have h1 := heap_setCell_same w b 0 _ _ v0 h
  have h2 := heap_setCell_same _ b 1 _ _ v1 h1
  have h3 := heap_setCell_same _ b 2 _ _ v2 h2
  exact heap_setCell_same _ b 3 _ _ v3 h3
end Go.Cg
