/- Contracts: cognateref01.Rune, one, Text: what runes' text is. -/
import Derived.Test.YtcnhlogkhnoacaaGreatDoorRadz
import Derived.Test.YtcnhlogkhnoacaaGreatDoorWorda
import Derived.Laws.IdiomStrings
import Derived.Laws.BytesArg
namespace Go.Cg
open Go.RowKit Go.Lib
/-- the cells of a text's bytes -/
def byteCells (s : ByteArray) : List Value := s.data.toList.map fun x => .int .u8 (x.toNat : Int)
theorem byteCells_len (s : ByteArray) : (byteCells s).length = s.size := by unfold byteCells; rw [List.length_map, Array.length_toList]; rfl
theorem byteCells_append (a b : ByteArray) : byteCells (a ++ b) = byteCells a ++ byteCells b := by simp [byteCells]
theorem byteCells_one (s : ByteArray) : ∀ u ∈ byteCells s, u.oneCell' = true := by
  intro u hu
  obtain ⟨x, _, rfl⟩ := List.mem_map.1 hu
  rfl
theorem enc_size_le (r : Int) : (Utf8.encode r).size ≤ 4 := by
  unfold Utf8.encode
  simp only
  repeat' split
  all_goals exact Nat.le_of_ble_eq_true rfl
theorem encode_bad {r : Int} (h : Utf8.valid r = false) : Utf8.encode r = ⟨#[239, 191, 189]⟩ := by
  unfold Utf8.encode
  simp only [h, Bool.false_eq_true, if_false]
  decide
theorem cells_news {w : World} {cs : Array Value} {T : TypeId} {fr : Nat × Nat} {b : Nat} (hb : w.heap[b]? = some (.cells cs T fr)) {xs : List Value} (h : cs.toList = xs) : ∀ (j : Nat) (u : Value), xs[j]? = some u → w.cell? ((⟨b, 0, none⟩ : Addr).add j) = some u := by
  intro j u hu
  have e0 : ((⟨b, 0, none⟩ : Addr).add j) = ⟨b, j, none⟩ := by simp [Addr.add]; exact fun h => h.symm
  rw [e0]
  have : w.cell? ⟨b, j, none⟩ = cs[j]? := by simp [World.cell?, hb]
  rw [this, ← hu, ← h]; simp
theorem mod256 {n : Nat} (h : n < 256) : ((UInt8.ofNat n).toNat : Int) = n := by
  have : (UInt8.ofNat n).toNat = n := u8_toNat h
  omega
theorem u8v (n : Nat) : (((UInt8.ofNat n).toNat : Nat) : Int) = (n : Int) % 256 := by
  have : (UInt8.ofNat n).toNat = n % 256 := UInt8.toNat_ofNat'
  omega
theorem w32_in {q : Nat} (h : q ≤ 1114111) : wrap32 (q : Int) = q := IntWalk.wrap32_in _ (by omega)
theorem wlead (k d c : Nat) (hk : k ≤ 240) (hc : c ≤ 1114111) : wrap32 ((k : Int) + wrap32 ((c : Int) / (d : Int))) % 256 = (((UInt8.ofNat (k + c / d)).toNat : Nat) : Int) := by
  have h1 : c / d ≤ c := Nat.div_le_self c d
  have e : (c : Int) / (d : Int) = ((c / d : Nat) : Int) := rfl
  rw [u8v, e]
  generalize c / d = q at *
  rw [w32_in (by omega), IntWalk.wrap32_in _ (by omega)]
  omega
theorem wmid (d c : Nat) (hc : c ≤ 1114111) : wrap32 (128 + (wrap32 ((c : Int) / (d : Int))).tmod 64) % 256 = (((UInt8.ofNat (128 + c / d % 64)).toNat : Nat) : Int) := by
  have h1 : c / d ≤ c := Nat.div_le_self c d
  have e : (c : Int) / (d : Int) = ((c / d : Nat) : Int) := rfl
  have e2 : ((c / d : Nat) : Int).tmod 64 = ((c / d % 64 : Nat) : Int) := rfl
  rw [u8v, e, w32_in (by omega), e2, IntWalk.wrap32_in _ (by omega)]
  omega
theorem wlast (c : Nat) : 128 + (c : Int) % 64 = (((UInt8.ofNat (128 + c % 64)).toNat : Nat) : Int) := by
  rw [u8v]; omega
end Go.Cg
namespace Go.Proofs.YtcnhlogkhnoacaaGreatDoor
open Go.RowKit Go.Cg Go.Shelf Go.Maps

theorem valid_eq (r : Int) : Utf8.valid r = decide ((0 ≤ r ∧ r < 55296) ∨ (57344 ≤ r ∧ r ≤ 1114111)) := by
  unfold Utf8.valid
  rw [Bool.eq_iff_iff]
  simp

theorem Rune01_any (r : Int) (h1 : -2147483648 ≤ r) (h2 : r ≤ 2147483647) (w : World) :
    Calls Tryz.prog 103 #[.int .i32 r] w fun e w' => e = .returned (.bool (Utf8.valid r)) ∧ w' = w := by
  have hV := valid_eq r
  obtain ⟨V, hV2⟩ : ∃ V, Utf8.valid r = V := ⟨_, rfl⟩
  rw [hV2] at hV ⊢
  have HV := Lib.hid hV
  clear hV hV2
  go_enter Tryz.func103, Tryz.ntmps103
  go_wp2
  all_goals go_ret
  all_goals (refine ⟨ret_bool ?_, rfl⟩; rw [HV.out]; first | exact (decide_eq_true (by omega)).symm | exact (decide_eq_false (by omega)).symm | (rw [Bool.eq_iff_iff]; simp only [Bool.or_eq_true, decide_eq_true_eq]; omega))

theorem infoB : (Tryz.prog.info? 5).map (fun i => (i.zero, i.size, i.bytes)) = some (some (.int .u8 0), 1, 1) := by kernel_rfl

end Go.Proofs.YtcnhlogkhnoacaaGreatDoor
