/- Contracts: cognateref13.name, Holes; cognateref01.tail, At. -/
import Derived.Test.YtnngljflnfjppaaDoorRadp
import Derived.Test.YtnngljflnfjppaaDoorRadg
import Derived.Test.YtnngljflnfjppaaDoorRada
import Derived.Laws.ResultCell
namespace Go.Proofs.YtnngljflnfjppaaDoor
open Go.RowKit Go.Cg Go.Shelf Go.Maps

set_option maxHeartbeats 1000000 in
theorem name13_any (s : ByteArray) (w : World) (hs : s.size ≤ 140737488351232) :
    Calls Tryd.prog 75 #[.string s] w fun e w' => e = .returned (.bool (nmB s)) ∧ w' = w := by
  have hno := fun k (h : k < s.size) hp => nm_at (s := s) h hp
  have hall := fun h => nm_all (s := s) h
  obtain ⟨B, hB⟩ : ∃ B, nmB s = B := ⟨_, rfl⟩
  rw [hB] at hno hall ⊢
  have HNO := Lib.hid hno
  have HALL := Lib.hid hall
  clear hno hall hB
  go_enter Tryd.func75, Tryd.ntmps75
  go_wp2
  go_loop [3] (fun i => ∃ k : Nat, k ≤ s.size ∧ Hid (∀ j, (hj : j < s.size) → j < k → isNm s[j] = true) ∧ i = .int .i64 k) (fun i => s.size - (intOf i).toNat)
  case atStart => exact ⟨0, Nat.zero_le _, fun j hj h => by omega, rfl⟩
  case round =>
    obtain ⟨k, hk, HN, rfl⟩ := hrel
    by_cases hlt : k < s.size
    · have hgo : isNm s[k] = true → ∀ j, (hj : j < s.size) → j < k + 1 → isNm s[j] = true := fun h j hj hjk => by
        rcases Nat.lt_or_eq_of_le (Nat.le_of_lt_succ hjk) with h2 | rfl
        · exact HN.out j hj h2
        · exact h
      have HGO := Lib.hid hgo
      have HK := Lib.hid (HNO.out k hlt)
      clear hgo
      by_cases a1 : s[k].toNat < 97
      · by_cases a2 : s[k].toNat < 48
        · by_cases a3 : s[k].toNat = 45
          · have hok : isNm s[k] = true := by unfold isNm; exact decide_eq_true (by omega)
            go_wp2
            exact ⟨⟨k + 1, by omega, HGO.out hok, by go_num⟩, by simp [intOf]; omega⟩
          · have hno : isNm s[k] = false := by unfold isNm; exact decide_eq_false (by omega)
            have hb := HK.out hno
            subst hb
            have g : ((s[k].toNat : Int) == 45) = false := by simp; omega
            go_wp2
            go_ret
            exact ⟨rfl, rfl⟩
        · by_cases a4 : 57 < s[k].toNat
          · have hno : isNm s[k] = false := by unfold isNm; exact decide_eq_false (by omega)
            have hb := HK.out hno
            subst hb
            have a3 : ¬ s[k].toNat = 45 := by omega
            have g5 : decide ((s[k].toNat : Int) ≤ 57) = false := decide_eq_false (by omega)
            have g : ((s[k].toNat : Int) == 45) = false := by simp; omega
            go_wp2
            go_ret
            exact ⟨rfl, rfl⟩
          · have hok : isNm s[k] = true := by unfold isNm; exact decide_eq_true (by omega)
            go_wp2
            exact ⟨⟨k + 1, by omega, HGO.out hok, by go_num⟩, by simp [intOf]; omega⟩
      · by_cases a5 : 122 < s[k].toNat
        · have hno : isNm s[k] = false := by unfold isNm; exact decide_eq_false (by omega)
          have hb := HK.out hno
          subst hb
          have a3 : ¬ s[k].toNat = 45 := by omega
          have g5 : decide ((s[k].toNat : Int) ≤ 57) = false := decide_eq_false (by omega)
          have g6 : decide ((s[k].toNat : Int) ≤ 122) = false := decide_eq_false (by omega)
          have g : ((s[k].toNat : Int) == 45) = false := by simp; omega
          go_wp2
          go_ret
          exact ⟨rfl, rfl⟩
        · have hok : isNm s[k] = true := by unfold isNm; exact decide_eq_true (by omega)
          go_wp2
          exact ⟨⟨k + 1, by omega, HGO.out hok, by go_num⟩, by simp [intOf]; omega⟩
    · have hb := HALL.out fun j hj => HN.out j hj (by omega)
      subst hb
      by_cases hle : s.size ≤ 32
      · go_wp2
        go_ret
        exact ⟨ret_bool (decide_eq_true (by omega)), rfl⟩
      · go_wp2
        go_ret
        exact ⟨ret_bool (decide_eq_false (by omega)), rfl⟩

theorem take_count {s : ByteArray} {k : Nat} (h : k < s.size) : (s.data.toList.take (k + 1)).count 95 = (s.data.toList.take k).count 95 + if s[k].toNat = 95 then 1 else 0 := by
  have hl : k < s.data.toList.length := by simpa using h
  rw [List.take_succ_eq_append_getElem hl, List.count_append, List.count_singleton]
  have e : s.data.toList[k] = s[k] := by simp; rfl
  rw [e]
  by_cases e2 : s[k].toNat = 95
  · have : s[k] = 95 := UInt8.toNat_inj.1 e2
    simp [this]
  · have : ¬ s[k] = 95 := fun h => e2 (by rw [h]; rfl)
    simp [this, e2]
def cntTo (s : ByteArray) (k : Nat) : Nat := (s.data.toList.take k).count 95
theorem cntTo_yes {s : ByteArray} {k : Nat} (h : k < s.size) (e : s[k].toNat = 95) : cntTo s (k + 1) = cntTo s k + 1 := by unfold cntTo; rw [take_count h, if_pos e]
theorem cntTo_no {s : ByteArray} {k : Nat} (h : k < s.size) (e : s[k].toNat ≠ 95) : cntTo s (k + 1) = cntTo s k := by unfold cntTo; rw [take_count h, if_neg e, Nat.add_zero]
theorem cntTo_all (s : ByteArray) : cntTo s s.size = txtHoles s := by
  unfold cntTo txtHoles
  rw [List.take_of_length_le (by simp)]
theorem cntTo_le (s : ByteArray) (k : Nat) : cntTo s k ≤ k := by
  unfold cntTo; exact Nat.le_trans (List.count_le_length ..) (by rw [List.length_take]; omega)

set_option maxHeartbeats 1000000 in
theorem holes13_any (nm fm : ByteArray) (hf : fm.size ≤ 140737488351232) (w : World) :
    Calls Tryd.prog 30 #[.agg #[.string nm, .string fm]] w fun e w' => e = .returned (.int .i64 ((txtHoles fm : Nat) : Int)) ∧ Ext w w' := by
  rw [← cntTo_all]
  go_enter Tryd.func30, Tryd.ntmps30
  go_wp2_with fail
  go_loopw [3, 4] (fun n i wr => ∃ k : Nat, k ≤ fm.size ∧ i = .int .i64 k ∧ n = .int .i64 (cntTo fm k : Nat) ∧ Ext (w.alloc (.cells #[.string nm, .string fm] 41)) wr) (fun _ i _ => fm.size - (intOf i).toNat)
  case atStart => exact ⟨0, Nat.zero_le _, rfl, rfl, Ext.refl _⟩
  case round =>
    obtain ⟨k, hk, rfl, rfl, hx⟩ := hrel
    have e1 := hx.cell0 1
    have l0 := hx.lt0
    simp at e1
    have hc := cntTo_le fm k
    by_cases hlt : k < fm.size
    · by_cases he : fm[k].toNat = 95
      · have g : ((fm[k].toNat : Int) == 95) = true := by simp; omega
        have HS := Lib.hid (cntTo_yes hlt he)
        clear he
        go_wp2_with fail
        exact ⟨⟨k + 1, by omega, by go_num, by rw [HS.out]; go_num, hx⟩, by simp [intOf]; omega⟩
      · have g : ((fm[k].toNat : Int) == 95) = false := by simp; omega
        have HS := Lib.hid (cntTo_no hlt he)
        clear he
        go_wp2_with fail
        exact ⟨⟨k + 1, by omega, by go_num, by rw [HS.out], hx⟩, by simp [intOf]; omega⟩
    · have e : k = fm.size := by omega
      subst e
      go_wp2_with fail
      go_ret
      exact ⟨rfl, ((Ext.refl _).alloc _).trans hx⟩

theorem tail01_any (b : Nat) (hb : b < 256) (w : World) :
    Calls Tryd.prog 98 #[.int .u8 (b : Int)] w fun e w' => e = .returned (.bool (decide (128 ≤ b ∧ b < 192))) ∧ w' = w := by
  by_cases h1 : 128 ≤ b
  · by_cases h2 : b < 192
    · rw [decide_eq_true ⟨h1, h2⟩]
      go_enter Tryd.func98, Tryd.ntmps98
      go_wp2
      all_goals go_ret
      all_goals exact ⟨ret_bool (decide_eq_true (by omega)), rfl⟩
    · rw [decide_eq_false (fun h => h2 h.2)]
      go_enter Tryd.func98, Tryd.ntmps98
      go_wp2
      all_goals go_ret
      all_goals exact ⟨ret_bool (decide_eq_false (by omega)), rfl⟩
  · rw [decide_eq_false (fun h => h1 h.1)]
    go_enter Tryd.func98, Tryd.ntmps98
    go_wp2
    all_goals go_ret
    all_goals exact ⟨rfl, rfl⟩

end Go.Proofs.YtnngljflnfjppaaDoor
