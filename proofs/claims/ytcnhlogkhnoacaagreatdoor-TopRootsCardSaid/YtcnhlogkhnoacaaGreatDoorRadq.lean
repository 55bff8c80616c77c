/- The reference's pieces byte by byte; cognateref13.name, Holes, cognateref01.tail. -/
import Derived.Test.YtcnhlogkhnoacaaGreatDoorRadz
import Derived.Test.YtcnhlogkhnoacaaGreatDoorCodez
import Derived.Lib.DecodeN
import Derived.Test.YtcnhlogkhnoacaaGreatDoorRadg
import Derived.Test.YtcnhlogkhnoacaaGreatDoorRada
import Derived.Laws.ResultCell
namespace Go.Cg
open Go.RowKit Go.Lib

def bt (s : ByteArray) (i : Nat) : Nat := (s.get! i).toNat
theorem bt_lt (s : ByteArray) (i : Nat) : bt s i < 256 := (s.get! i).toNat_lt
theorem bt_eq {s : ByteArray} {i : Nat} (h : i < s.size) : bt s i = (s[i]'h).toNat := by unfold bt; rw [Go.Proofs.Utf8W.get!_of_lt _ _ h]
/-- the value of a rune's first bytes -/
def pv (s : ByteArray) (pos base : Nat) : Nat → Nat
  | 0 => bt s pos - base
  | k + 1 => 64 * pv s pos base k + (bt s (pos + (k + 1)) - 128)
def contB (s : ByteArray) (pos n : Nat) : Prop := ∀ j, 1 ≤ j → j < n → 128 ≤ bt s (pos + j) ∧ bt s (pos + j) < 192
set_option maxRecDepth 100000 in
theorem pv_le {s : ByteArray} {pos base : Nat} (h : bt s pos - base ≤ 31) {d : Nat} (hc : contB s pos (d + 1)) : (d ≤ 3 → pv s pos base d ≤ 8388607) ∧ (d ≤ 2 → pv s pos base d ≤ 131071) := by
  have c1 := hc 1 (by omega)
  have c2 := hc 2 (by omega)
  have c3 := hc 3 (by omega)
  have e0 : pv s pos base 0 = bt s pos - base := rfl
  have e1 : pv s pos base 1 = 64 * pv s pos base 0 + (bt s (pos + 1) - 128) := rfl
  have e2 : pv s pos base 2 = 64 * pv s pos base 1 + (bt s (pos + 2) - 128) := rfl
  have e3 : pv s pos base 3 = 64 * pv s pos base 2 + (bt s (pos + 3) - 128) := rfl
  constructor
  · intro hd
    rcases (show d = 0 ∨ d = 1 ∨ d = 2 ∨ d = 3 by omega) with rfl | rfl | rfl | rfl
    · omega
    · have := c1 (by omega); omega
    · have := c1 (by omega); have := c2 (by omega); omega
    · have := c1 (by omega); have := c2 (by omega); have := c3 (by omega); omega
  · intro hd
    rcases (show d = 0 ∨ d = 1 ∨ d = 2 by omega) with rfl | rfl | rfl
    · omega
    · have := c1 (by omega); omega
    · have := c1 (by omega); have := c2 (by omega); omega
theorem valid_nat (v : Nat) : Utf8.valid (v : Int) = true ↔ v < 55296 ∨ (57344 ≤ v ∧ v ≤ 1114111) := by
  unfold Utf8.valid
  simp only [Bool.or_eq_true, Bool.and_eq_true, decide_eq_true_eq]
  omega

theorem dec_none {s : ByteArray} {pos : Nat} (h : 128 ≤ bt s pos) (h2 : bt s pos < 192 ∨ 248 ≤ bt s pos) : Utf8.decode s pos = (65533, 1) := by
  have hb := bt_lt s pos
  rw [Lib.decode_at]
  unfold bt at *
  generalize (s.get! pos).toNat = b0 at *
  unfold decodeN
  repeat' split
  all_goals first | (exfalso; omega) | with_reducible rfl
set_option maxRecDepth 100000 in
theorem dec2 {s : ByteArray} {pos : Nat} (h : 192 ≤ bt s pos ∧ bt s pos < 224) :
    (pos + 2 ≤ s.size ∧ contB s pos 2 ∧ 128 ≤ pv s pos 192 1 ∧ Utf8.valid (pv s pos 192 1 : Nat) = true → Utf8.decode s pos = (pv s pos 192 1, 2)) ∧ (¬ (pos + 2 ≤ s.size ∧ contB s pos 2 ∧ 128 ≤ pv s pos 192 1 ∧ Utf8.valid (pv s pos 192 1 : Nat) = true) → Utf8.decode s pos = (65533, 1)) := by
  have q1 := bt_lt s (pos + 1)
  have hcon : contB s pos 2 ↔ (128 ≤ bt s (pos + 1) ∧ bt s (pos + 1) < 192) := ⟨fun k => k 1 (by omega) (by omega), fun k j h1 h2 => by
    have e : j = 1 := (by omega)
    rw [e]; exact k⟩
  have e1 : pv s pos 192 1 = 64 * (bt s pos - 192) + (bt s (pos + 1) - 128) := rfl
  rw [hcon, valid_nat, Lib.decode_at, e1]
  unfold bt at *
  generalize (s.get! pos).toNat = b0 at *
  generalize (s.get! (pos + 1)).toNat = b1 at *
  generalize (s.get! (pos + 2)).toNat = b2 at *
  generalize (s.get! (pos + 3)).toNat = b3 at *
  have g1 : ¬ b0 < 128 := by omega
  have g2 : b0 / 32 = 6 := by omega
  unfold decodeN
  rw [if_neg g1]
  by_cases g3 : 1 < s.size - pos ∧ b1 / 64 = 2
  · rw [if_pos ⟨g2, g3⟩]
    constructor
    · intro k
      rw [if_pos (by omega)]
      apply Prod.ext
      · show b0 % 32 * 64 + b1 % 64 = 64 * (b0 - 192) + (b1 - 128); omega
      · rfl
    · intro k
      rw [if_neg (by omega)]
  · rw [if_neg (fun h => g3 h.2), if_neg (fun h => absurd h.1 (by omega)), if_neg (fun h => absurd h.1 (by omega))]
    exact ⟨fun k => by exfalso; omega, fun _ => rfl⟩
set_option maxRecDepth 100000 in
theorem dec3 {s : ByteArray} {pos : Nat} (h : 224 ≤ bt s pos ∧ bt s pos < 240) :
    (pos + 3 ≤ s.size ∧ contB s pos 3 ∧ 2048 ≤ pv s pos 224 2 ∧ Utf8.valid (pv s pos 224 2 : Nat) = true → Utf8.decode s pos = (pv s pos 224 2, 3)) ∧ (¬ (pos + 3 ≤ s.size ∧ contB s pos 3 ∧ 2048 ≤ pv s pos 224 2 ∧ Utf8.valid (pv s pos 224 2 : Nat) = true) → Utf8.decode s pos = (65533, 1)) := by
  have q1 := bt_lt s (pos + 1)
  have q2 := bt_lt s (pos + 2)
  have hcon : contB s pos 3 ↔ (128 ≤ bt s (pos + 1) ∧ bt s (pos + 1) < 192) ∧ (128 ≤ bt s (pos + 2) ∧ bt s (pos + 2) < 192) := ⟨fun k => ⟨k 1 (by omega) (by omega), k 2 (by omega) (by omega)⟩, fun k j h1 h2 => by
    have e : j = 1 ∨ j = 2 := (by omega)
    cases e with
    | inl e => rw [e]; exact k.1
    | inr e => rw [e]; exact k.2⟩
  have e1 : pv s pos 224 2 = 64 * (64 * (bt s pos - 224) + (bt s (pos + 1) - 128)) + (bt s (pos + 2) - 128) := rfl
  rw [hcon, valid_nat, Lib.decode_at, e1]
  unfold bt at *
  generalize (s.get! pos).toNat = b0 at *
  generalize (s.get! (pos + 1)).toNat = b1 at *
  generalize (s.get! (pos + 2)).toNat = b2 at *
  generalize (s.get! (pos + 3)).toNat = b3 at *
  have g1 : ¬ b0 < 128 := by omega
  have g2 : ¬ b0 / 32 = 6 := by omega
  have g4 : b0 / 16 = 14 := by omega
  have g5 : ¬ b0 / 8 = 30 := by omega
  unfold decodeN
  rw [if_neg g1, if_neg (fun h => g2 h.1)]
  by_cases g3 : (1 < s.size - pos ∧ b1 / 64 = 2) ∧ 2 < s.size - pos ∧ b2 / 64 = 2
  · rw [if_pos ⟨g4, g3⟩]
    constructor
    · intro k
      rw [if_pos (by omega)]
      apply Prod.ext
      · show b0 % 16 * 4096 + b1 % 64 * 64 + b2 % 64 = 64 * (64 * (b0 - 224) + (b1 - 128)) + (b2 - 128); omega
      · rfl
    · intro k
      rw [if_neg (by omega)]
  · rw [if_neg (fun h => g3 h.2), if_neg (fun h => g5 h.1)]
    exact ⟨fun k => by exfalso; omega, fun _ => rfl⟩
set_option maxRecDepth 100000 in
theorem dec4 {s : ByteArray} {pos : Nat} (h : 240 ≤ bt s pos ∧ bt s pos < 248) :
    (pos + 4 ≤ s.size ∧ contB s pos 4 ∧ 65536 ≤ pv s pos 240 3 ∧ Utf8.valid (pv s pos 240 3 : Nat) = true → Utf8.decode s pos = (pv s pos 240 3, 4)) ∧ (¬ (pos + 4 ≤ s.size ∧ contB s pos 4 ∧ 65536 ≤ pv s pos 240 3 ∧ Utf8.valid (pv s pos 240 3 : Nat) = true) → Utf8.decode s pos = (65533, 1)) := by
  have q1 := bt_lt s (pos + 1)
  have q2 := bt_lt s (pos + 2)
  have q3 := bt_lt s (pos + 3)
  have hcon : contB s pos 4 ↔ (128 ≤ bt s (pos + 1) ∧ bt s (pos + 1) < 192) ∧ (128 ≤ bt s (pos + 2) ∧ bt s (pos + 2) < 192) ∧ (128 ≤ bt s (pos + 3) ∧ bt s (pos + 3) < 192) := ⟨fun k => ⟨k 1 (by omega) (by omega), k 2 (by omega) (by omega), k 3 (by omega) (by omega)⟩, fun k j h1 h2 => by
    have e : j = 1 ∨ j = 2 ∨ j = 3 := (by omega)
    cases e with
    | inl e => rw [e]; exact k.1
    | inr e =>
      cases e with
      | inl e => rw [e]; exact k.2.1
      | inr e => rw [e]; exact k.2.2⟩
  have e1 : pv s pos 240 3 = 64 * (64 * (64 * (bt s pos - 240) + (bt s (pos + 1) - 128)) + (bt s (pos + 2) - 128)) + (bt s (pos + 3) - 128) := rfl
  rw [hcon, valid_nat, Lib.decode_at, e1]
  unfold bt at *
  generalize (s.get! pos).toNat = b0 at *
  generalize (s.get! (pos + 1)).toNat = b1 at *
  generalize (s.get! (pos + 2)).toNat = b2 at *
  generalize (s.get! (pos + 3)).toNat = b3 at *
  have g1 : ¬ b0 < 128 := by omega
  have g2 : ¬ b0 / 32 = 6 := by omega
  have g4 : ¬ b0 / 16 = 14 := by omega
  have g5 : b0 / 8 = 30 := by omega
  unfold decodeN
  rw [if_neg g1, if_neg (fun h => g2 h.1), if_neg (fun h => g4 h.1)]
  by_cases g3 : (1 < s.size - pos ∧ b1 / 64 = 2) ∧ (2 < s.size - pos ∧ b2 / 64 = 2) ∧ 3 < s.size - pos ∧ b3 / 64 = 2
  · rw [if_pos ⟨g5, g3⟩]
    constructor
    · intro k
      rw [if_pos (by omega)]
      apply Prod.ext
      · show b0 % 8 * 262144 + b1 % 64 * 4096 + b2 % 64 * 64 + b3 % 64 = 64 * (64 * (64 * (b0 - 240) + (b1 - 128)) + (b2 - 128)) + (b3 - 128); omega
      · rfl
    · intro k
      rw [if_neg (by omega)]
  · rw [if_neg (fun h => g3 h.2)]
    exact ⟨fun k => by exfalso; omega, fun _ => rfl⟩
/-- a piece, as the reference gives it -/
def pieceV (s : ByteArray) (pos : Nat) : Value := .agg #[.int .i32 (runeAt s pos), .int .i64 (pos : Int), .int .i64 ((Utf8.decode s pos).2 : Nat), .bool (badAt s pos)]
theorem piece_bad {s : ByteArray} {pos : Nat} (h : Utf8.decode s pos = (65533, 1)) : pieceV s pos = .agg #[.int .i32 65533, .int .i64 (pos : Int), .int .i64 1, .bool true] := by
  unfold pieceV runeAt badAt; rw [h]; rfl
theorem piece_good {s : ByteArray} {pos v n : Nat} (h : Utf8.decode s pos = (v, n)) (hn : n ≠ 1) : pieceV s pos = .agg #[.int .i32 (v : Int), .int .i64 (pos : Int), .int .i64 (n : Int), .bool false] := by
  have e : badAt s pos = false := by
    unfold badAt; rw [h]
    have : (n == 1) = false := by rw [beq_eq_false_iff_ne]; exact hn
    show ((v == 65533) && (n == 1)) = false
    rw [this, Bool.and_false]
  unfold pieceV runeAt; rw [e, h]
theorem piece_ascii {s : ByteArray} {pos : Nat} (_hp : pos < s.size) (h : bt s pos < 128) : pieceV s pos = .agg #[.int .i32 (bt s pos : Nat), .int .i64 (pos : Int), .int .i64 1, .bool false] := by
  have hd : Utf8.decode s pos = (bt s pos, 1) := by
    rw [Lib.decode_at]; unfold bt at *; unfold decodeN; rw [if_pos h]
  have e : badAt s pos = false := by
    unfold badAt; rw [hd]
    have : (bt s pos == 65533) = false := by rw [beq_eq_false_iff_ne]; omega
    show ((bt s pos == 65533) && (1 == 1)) = false
    rw [this, Bool.false_and]
  unfold pieceV runeAt; rw [e, hd]; rfl
theorem four_cells {w : World} {b : Nat} {v0 v1 v2 v3 : Value} {T : TypeId} (h : w.heap[b]? = some (.cells #[v0, v1, v2, v3] T (0, 0))) : w.cell? ⟨b, 0, none⟩ = some v0 ∧ w.cell? ⟨b, 1, none⟩ = some v1 ∧ w.cell? ⟨b, 2, none⟩ = some v2 ∧ w.cell? ⟨b, 3, none⟩ = some v3 ∧ b < w.heap.size := by
  refine ⟨?_, ?_, ?_, ?_, (Array.getElem?_eq_some_iff.1 h).1⟩
  all_goals (simp only [World.cell?, h]; rfl)
theorem four_froz {w : World} {b : Nat} {cs : Array Value} {T : TypeId} (h : w.heap[b]? = some (.cells cs T (0, 0))) (j : Nat) : w.frozen? ⟨b, j, none⟩ = false := by
  simp [World.frozen?, h]
theorem set_four {w : World} {b : Nat} {a0 a1 a2 a3 v0 v1 v2 v3 : Value} {T : TypeId} (h : w.heap[b]? = some (.cells #[a0, a1, a2, a3] T (0, 0))) : ((((w.setCell ⟨b, 0, none⟩ v0).setCell ⟨b, 1, none⟩ v1).setCell ⟨b, 2, none⟩ v2).setCell ⟨b, 3, none⟩ v3).heap[b]? = some (.cells #[v0, v1, v2, v3] T (0, 0)) := by
  have h1 := heap_setCell_same w b 0 _ _ v0 h
  have h2 := heap_setCell_same _ b 1 _ _ v1 h1
  have h3 := heap_setCell_same _ b 2 _ _ v2 h2
  exact heap_setCell_same _ b 3 _ _ v3 h3
end Go.Cg

namespace Go.Proofs.YtcnhlogkhnoacaaGreatDoor
open Go.RowKit Go.Cg Go.Shelf Go.Maps

set_option maxHeartbeats 1000000 in
theorem name13_any (s : ByteArray) (w : World) (hs : s.size ≤ 140737488351232) :
    Calls Tryz.prog 67 #[.string s] w fun e w' => e = .returned (.bool (nmB s)) ∧ w' = w := by
  have hno := fun k (h : k < s.size) hp => nm_at (s := s) h hp
  have hall := fun h => nm_all (s := s) h
  obtain ⟨B, hB⟩ : ∃ B, nmB s = B := ⟨_, rfl⟩
  rw [hB] at hno hall ⊢
  have HNO := Lib.hid hno
  have HALL := Lib.hid hall
  clear hno hall hB
  go_enter Tryz.func67, Tryz.ntmps67
  go_wp2
  go_loop [3] (fun i => ∃ k : Nat, k ≤ s.size ∧ Hid (∀ j, (hj : j < s.size) → j < k → isNm s[j] = true) ∧ i = .int .i64 k) (fun i => s.size - (intOf i).toNat)
  case atStart => exact ⟨0, Nat.zero_le _, fun j hj h => by omega, rfl⟩
  case round =>
    obtain ⟨k, hk, HN, rfl⟩ := hrel
    by_cases hlt : k < s.size
    · have hgo : isNm s[k] = true → ∀ j, (hj : j < s.size) → j < k + 1 → isNm s[j] = true := fun h j hj hjk => by
        rcases Nat.lt_or_eq_of_le (Nat.le_of_lt_succ hjk) with h2 | rfl
        · exact HN.out j hj h2
        · exact h
      have HGO := Lib.hid hgo
      have HK := Lib.hid (HNO.out k hlt)
      clear hgo
      by_cases a1 : s[k].toNat < 97
      · by_cases a2 : s[k].toNat < 48
        · by_cases a3 : s[k].toNat = 45
          · have hok : isNm s[k] = true := by unfold isNm; exact decide_eq_true (by omega)
            go_wp2
            exact ⟨⟨k + 1, by omega, HGO.out hok, by go_num⟩, by simp [intOf]; omega⟩
          · have hno : isNm s[k] = false := by unfold isNm; exact decide_eq_false (by omega)
            have hb := HK.out hno
            subst hb
            have g : ((s[k].toNat : Int) == 45) = false := by simp; omega
            go_wp2
            go_ret
            exact ⟨rfl, rfl⟩
        · by_cases a4 : 57 < s[k].toNat
          · have hno : isNm s[k] = false := by unfold isNm; exact decide_eq_false (by omega)
            have hb := HK.out hno
            subst hb
            have a3 : ¬ s[k].toNat = 45 := by omega
            have g5 : decide ((s[k].toNat : Int) ≤ 57) = false := decide_eq_false (by omega)
            have g : ((s[k].toNat : Int) == 45) = false := by simp; omega
            go_wp2
            go_ret
            exact ⟨rfl, rfl⟩
          · have hok : isNm s[k] = true := by unfold isNm; exact decide_eq_true (by omega)
            go_wp2
            exact ⟨⟨k + 1, by omega, HGO.out hok, by go_num⟩, by simp [intOf]; omega⟩
      · by_cases a5 : 122 < s[k].toNat
        · have hno : isNm s[k] = false := by unfold isNm; exact decide_eq_false (by omega)
          have hb := HK.out hno
          subst hb
          have a3 : ¬ s[k].toNat = 45 := by omega
          have g5 : decide ((s[k].toNat : Int) ≤ 57) = false := decide_eq_false (by omega)
          have g6 : decide ((s[k].toNat : Int) ≤ 122) = false := decide_eq_false (by omega)
          have g : ((s[k].toNat : Int) == 45) = false := by simp; omega
          go_wp2
          go_ret
          exact ⟨rfl, rfl⟩
        · have hok : isNm s[k] = true := by unfold isNm; exact decide_eq_true (by omega)
          go_wp2
          exact ⟨⟨k + 1, by omega, HGO.out hok, by go_num⟩, by simp [intOf]; omega⟩
    · have hb := HALL.out fun j hj => HN.out j hj (by omega)
      subst hb
      by_cases hle : s.size ≤ 32
      · go_wp2
        go_ret
        exact ⟨ret_bool (decide_eq_true (by omega)), rfl⟩
      · go_wp2
        go_ret
        exact ⟨ret_bool (decide_eq_false (by omega)), rfl⟩

theorem take_count {s : ByteArray} {k : Nat} (h : k < s.size) : (s.data.toList.take (k + 1)).count 95 = (s.data.toList.take k).count 95 + if s[k].toNat = 95 then 1 else 0 := by
  have hl : k < s.data.toList.length := by simpa using h
  rw [List.take_succ_eq_append_getElem hl, List.count_append, List.count_singleton]
  have e : s.data.toList[k] = s[k] := by simp; rfl
  rw [e]
  by_cases e2 : s[k].toNat = 95
  · have : s[k] = 95 := UInt8.toNat_inj.1 e2
    simp [this]
  · have : ¬ s[k] = 95 := fun h => e2 (by rw [h]; rfl)
    simp [this, e2]
def cntTo (s : ByteArray) (k : Nat) : Nat := (s.data.toList.take k).count 95
theorem cntTo_yes {s : ByteArray} {k : Nat} (h : k < s.size) (e : s[k].toNat = 95) : cntTo s (k + 1) = cntTo s k + 1 := by unfold cntTo; rw [take_count h, if_pos e]
theorem cntTo_no {s : ByteArray} {k : Nat} (h : k < s.size) (e : s[k].toNat ≠ 95) : cntTo s (k + 1) = cntTo s k := by unfold cntTo; rw [take_count h, if_neg e, Nat.add_zero]
theorem cntTo_all (s : ByteArray) : cntTo s s.size = txtHoles s := by
  unfold cntTo txtHoles
  rw [List.take_of_length_le (by simp)]
theorem cntTo_le (s : ByteArray) (k : Nat) : cntTo s k ≤ k := by
  unfold cntTo; exact Nat.le_trans (List.count_le_length ..) (by rw [List.length_take]; omega)

theorem tail01_any (b : Nat) (hb : b < 256) (w : World) :
    Calls Tryz.prog 102 #[.int .u8 (b : Int)] w fun e w' => e = .returned (.bool (decide (128 ≤ b ∧ b < 192))) ∧ w' = w := by
  by_cases h1 : 128 ≤ b
  · by_cases h2 : b < 192
    · rw [decide_eq_true ⟨h1, h2⟩]
      go_enter Tryz.func102, Tryz.ntmps102
      go_wp2
      all_goals go_ret
      all_goals exact ⟨ret_bool (decide_eq_true (by omega)), rfl⟩
    · rw [decide_eq_false (fun h => h2 h.2)]
      go_enter Tryz.func102, Tryz.ntmps102
      go_wp2
      all_goals go_ret
      all_goals exact ⟨ret_bool (decide_eq_false (by omega)), rfl⟩
  · rw [decide_eq_false (fun h => h1 h.1)]
    go_enter Tryz.func102, Tryz.ntmps102
    go_wp2
    all_goals go_ret
    all_goals exact ⟨rfl, rfl⟩

end Go.Proofs.YtcnhlogkhnoacaaGreatDoor
