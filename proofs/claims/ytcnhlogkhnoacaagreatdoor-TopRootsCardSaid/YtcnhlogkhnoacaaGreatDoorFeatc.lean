/- Contracts: feature.named and the reference's name; the reference's mask, May, Find (and word's Number), asked. -/
import Derived.Test.YtcnhlogkhnoacaaGreatDoorFeatb
import Derived.Test.YtcnhlogkhnoacaaGreatDoorShelf
namespace Go.Proofs.YtcnhlogkhnoacaaGreatDoor
open Go.RowKit Go.Cg Go.Shelf

set_option maxHeartbeats 400000 in
theorem named_any (s : ByteArray) (w : World) (hs : s.size ≤ 140737488351232) :
    Calls Tryz.prog 63 #[.string s] w fun e w' => e = .returned (.bool (nameOk s)) ∧ Ext w w' := by
  have hcon := fun W => Any.strings_Trim_laid Tryz.lays160 (by kernel_rfl) s ⟨#[97, 98, 99, 100, 101, 102, 103, 104, 105, 106, 107, 108, 109, 110, 111, 112, 113, 114, 115, 116, 117, 118, 119, 120, 121, 122]⟩ W (by omega) (by decide) (ascii_of_all (by decide))
  change ∀ W, Calls Tryz.prog 72 _ _ _ at hcon
  generalize hr : (⟨(Lib.trimS s.data.toList (⟨#[97, 98, 99, 100, 101, 102, 103, 104, 105, 106, 107, 108, 109, 110, 111, 112, 113, 114, 115, 116, 117, 118, 119, 120, 121, 122]⟩ : ByteArray).data.toList).toArray⟩ : ByteArray) = r at hcon
  have HC := Lib.hid hcon
  clear hcon
  have HR := Lib.hid (trim_name s r hr)
  clear hr
  have HE := Lib.hid (toList_isEmpty s)
  by_cases hle : s.size ≤ 32
  · cases hz : s.toList.isEmpty
    · go_enter Tryz.func63, Tryz.ntmps63
      go_wp2_with (go_at_call 72; refine (HC.out _).mono ?_; rintro e w1 ⟨rfl, hx⟩)
      go_ret
      refine ⟨ret_bool ?_, hx⟩
      rw [HE.out] at hz
      have hz' : 1 ≤ s.size := by have := of_decide_eq_false hz; omega
      simp only [HR.out, nameOk, hz', hle, decide_true, Bool.true_and]
      try simp
    · go_enter Tryz.func63, Tryz.ntmps63
      go_wp2_with fail
      go_ret
      refine ⟨ret_bool ?_, Ext.refl _⟩
      rw [HE.out] at hz
      have hz' : s.size = 0 := of_decide_eq_true hz
      simp [nameOk, hz']
  · cases hz : s.toList.isEmpty
    all_goals
      go_enter Tryz.func63, Tryz.ntmps63
      go_wp2_with fail
      go_ret
      refine ⟨ret_bool ?_, Ext.refl _⟩
      simp [nameOk, hle]

theorem all_at {l : List UInt8} {p : UInt8 → Bool} {k : Nat} {c : UInt8} (h : l[k]? = some c) (hp : p c = false) : l.all p = false := by
  rw [List.all_eq_false]
  exact ⟨c, List.mem_of_getElem? h, by simp [hp]⟩
theorem name_no {s : ByteArray} {k : Nat} (h : k < s.size) (hp : isAz s[k] = false) : nameOk s = false := by
  have : s.data.toList.all isAz = false := all_at (k := k) (c := s[k]) (by
    rw [List.getElem?_eq_getElem (by simpa using h)]; rfl) hp
  simp [nameOk, this]
theorem name_yes {s : ByteArray} (h1 : 1 ≤ s.size) (h2 : s.size ≤ 32) (h : ∀ j, (hj : j < s.size) → isAz s[j] = true) : nameOk s = true := by
  have : s.data.toList.all isAz = true := by
    rw [List.all_eq_true]
    intro c hc
    obtain ⟨j, hj, rfl⟩ := List.getElem_of_mem hc
    exact h j hj
  simp [nameOk, this, h1, h2]

set_option maxHeartbeats 400000 in
theorem name_any (s : ByteArray) (w : World) (hs : s.size ≤ 140737488351232) :
    Calls Tryz.prog 47 #[.string s] w fun e w' => e = .returned (.bool (nameOk s)) ∧ w' = w := by
  by_cases hz : 1 ≤ s.size
  · by_cases hle : s.size ≤ 32
    · go_enter Tryz.func47, Tryz.ntmps47
      go_wp2
      go_loop [3] (fun i => ∃ k : Nat, k ≤ s.size ∧ Hid (∀ j, (hj : j < s.size) → j < k → isAz s[j] = true) ∧ i = .int .i64 k) (fun i => s.size - (intOf i).toNat)
      case atStart => exact ⟨0, Nat.zero_le _, fun j hj h => by omega, rfl⟩
      case round =>
        obtain ⟨k, hk, HN, rfl⟩ := hrel
        by_cases hlt : k < s.size
        · by_cases h1 : s[k].toNat < 97
          · go_wp2
            go_ret
            exact ⟨ret_bool (name_no hlt (by simp [isAz]; omega)).symm, rfl⟩
          · by_cases h2 : 122 < s[k].toNat
            · go_wp2
              go_ret
              exact ⟨ret_bool (name_no hlt (by simp [isAz]; omega)).symm, rfl⟩
            · have hok : isAz s[k] = true := by simp [isAz]; omega
              go_wp2
              refine ⟨⟨k + 1, by omega, ?_, by go_num⟩, by simp [intOf]; omega⟩
              intro j hj hjk
              rcases Nat.lt_or_eq_of_le (Nat.le_of_lt_succ hjk) with h | rfl
              · exact HN.out j hj h
              · exact hok
        · go_wp2
          go_ret
          exact ⟨ret_bool (name_yes hz hle fun j hj => HN.out j hj (by omega)).symm, rfl⟩
    · go_enter Tryz.func47, Tryz.ntmps47
      go_wp2
      go_ret
      exact ⟨ret_bool (by simp [nameOk, hle]), rfl⟩
  · go_enter Tryz.func47, Tryz.ntmps47
    go_wp2
    go_ret
    exact ⟨ret_bool (by simp [nameOk]; omega), rfl⟩

set_option maxHeartbeats 400000 in
theorem all_any (fp : Option Addr) (n c : Nat) (ls : Value) (hn : n ≤ 8796093022208) (w : World) :
    Calls Tryz.prog 83 #[.agg #[.slice fp n c, ls]] w fun e w' => e = .returned (.int .u32 (maskN n : Nat)) ∧ Ext w w' := by
  have H := Lib.hid (mask_wrap n)
  go_enter Tryz.func83, Tryz.ntmps83
  go_wp2
  go_ret
  exact ⟨ret_int H.out, (Ext.refl _).alloc _⟩

set_option maxHeartbeats 400000 in
theorem May_any (fp : Option Addr) (n c : Nat) (ls : Value) (p m : Nat) (hp : p < 4294967296) (hm : m < 4294967296) (hn : n ≤ 8796093022208) (w : World) :
    Calls Tryz.prog 49 #[.agg #[.slice fp n c, ls], .int .u32 p, .int .u32 m] w fun e w' => e = .returned (.bool (mayB n p m)) ∧ Ext w w' := by
  have l1 : p ||| m < 4294967296 := Nat.or_lt_two_pow (n := 32) (by omega) (by omega)
  have e1 := Lib.hid (u32_or_nat p m hp hm)
  have e2 := Lib.hid (u32_and_nat p m hp hm)
  have e3 := Lib.hid (u32_and_nat (p ||| m) (maskN n) l1 (maskN_lt n))
  have e4 := Lib.hid (and_maskN (n := n) l1)
  have e5 := Lib.hid (@or_lt_iff p m n)
  go_enter Tryz.func49, Tryz.ntmps49
  go_wp2_with (go_at_call 83; refine (all_any _ _ _ _ hn _).mono ?_; rintro e w1 ⟨rfl, hx⟩)
  all_goals go_ret
  all_goals (refine ⟨ret_bool ?_, ((Ext.refl _).alloc _).trans hx⟩; have E1 := e1.out; have E2 := e2.out; have E3 := e3.out; have E4 := e4.out; have E5 := e5.out; rw [Bool.eq_iff_iff]; simp only [E1, E2, E3, mayB, decide_eq_true_eq, beq_iff_eq, Bool.false_eq_true, eq_self, false_iff] at *; omega)

set_option maxHeartbeats 400000 in
theorem Find_any (fp lp : Option Addr) (fc lc : Nat) (A : Alpha) (r : Int) (w : World) (hA : AlphaAt w fp lp A) :
    Calls Tryz.prog 69 #[.agg #[.slice fp A.feats.length fc, .slice lp A.lets.length lc], .int .i32 r] w fun e w' => e = .returned (.int .i64 (findLetter A r)) ∧ Ext w w' := by
  have hb := hA.lbig
  go_enter Tryz.func69, Tryz.ntmps69
  go_wp2
  go_loop [5] (fun i => ∃ k : Nat, k ≤ A.lets.length ∧ Hid (∀ j, j < k → (A.at_ j).rune ≠ r) ∧ i = .int .i64 k) (fun i => A.lets.length - (intOf i).toNat)
  case atStart => exact ⟨0, Nat.zero_le _, fun j hj => by omega, rfl⟩
  case round =>
    obtain ⟨k, hk, HN, rfl⟩ := hrel
    by_cases hlt : k < A.lets.length
    · obtain ⟨b, off, rfl, hbw, c0, c1, c2⟩ := hA.cells hlt
      cases he : ((A.at_ k).rune == r)
      · go_wp2
        refine ⟨⟨k + 1, by omega, ?_, by go_num⟩, by simp [intOf]; omega⟩
        intro j hj
        rcases Nat.lt_or_eq_of_le (Nat.le_of_lt_succ hj) with h | rfl
        · exact HN.out j h
        · simpa using he
      · go_wp2
        go_ret
        exact ⟨ret_int (findLetter_at hlt HN.out (by simpa using he)).symm, (Ext.refl _).alloc _⟩
    · go_wp2
      go_ret
      exact ⟨ret_int (findLetter_none fun j hj => HN.out j (by omega)).symm, (Ext.refl _).alloc _⟩

end Go.Proofs.YtcnhlogkhnoacaaGreatDoor
