/- Contracts: feature.named and the reference's name; the reference's mask, May, Find (and word's Number), asked. -/
import Derived.Test.YtkmfhcjdaglikaaDoorFeatb
import Derived.Test.YtkmfhcjdaglikaaDoorShelf
namespace Go.Proofs.YtkmfhcjdaglikaaDoor
open Go.RowKit Go.Cg Go.Shelf

set_option maxHeartbeats 400000 in
theorem named_any (s : ByteArray) (w : World) (hs : s.size ≤ 140737488351232) :
    Calls Tryd.prog 39 #[.string s] w fun e w' => e = .returned (.bool (nameOk s)) ∧ Ext w w' := by
  have hcon := fun W => Any.strings_Trim_laid Tryd.lays160 (by kernel_rfl) s ⟨#[97, 98, 99, 100, 101, 102, 103, 104, 105, 106, 107, 108, 109, 110, 111, 112, 113, 114, 115, 116, 117, 118, 119, 120, 121, 122]⟩ W (by omega) (by decide) (ascii_of_all (by decide))
  change ∀ W, Calls Tryd.prog 51 _ _ _ at hcon
  generalize hr : (⟨(Lib.trimS s.data.toList (⟨#[97, 98, 99, 100, 101, 102, 103, 104, 105, 106, 107, 108, 109, 110, 111, 112, 113, 114, 115, 116, 117, 118, 119, 120, 121, 122]⟩ : ByteArray).data.toList).toArray⟩ : ByteArray) = r at hcon
  have HC := Lib.hid hcon
  clear hcon
  have HR := Lib.hid (trim_name s r hr)
  clear hr
  have HE := Lib.hid (toList_isEmpty s)
  by_cases hle : s.size ≤ 32
  · cases hz : s.toList.isEmpty
    · go_enter Tryd.func39, Tryd.ntmps39
      go_wp2_with (go_at_call 51; refine (HC.out _).mono ?_; rintro e w1 ⟨rfl, hx⟩)
      go_ret
      refine ⟨ret_bool ?_, hx⟩
      rw [HE.out] at hz
      have hz' : 1 ≤ s.size := by have := of_decide_eq_false hz; omega
      simp only [HR.out, nameOk, hz', hle, decide_true, Bool.true_and]
      try simp
    · go_enter Tryd.func39, Tryd.ntmps39
      go_wp2_with fail
      go_ret
      refine ⟨ret_bool ?_, Ext.refl _⟩
      rw [HE.out] at hz
      have hz' : s.size = 0 := of_decide_eq_true hz
      simp [nameOk, hz']
  · cases hz : s.toList.isEmpty
    all_goals
      go_enter Tryd.func39, Tryd.ntmps39
      go_wp2_with fail
      go_ret
      refine ⟨ret_bool ?_, Ext.refl _⟩
      simp [nameOk, hle]

theorem all_at {l : List UInt8} {p : UInt8 → Bool} {k : Nat} {c : UInt8} (h : l[k]? = some c) (hp : p c = false) : l.all p = false := by
  rw [List.all_eq_false]
  exact ⟨c, List.mem_of_getElem? h, by simp [hp]⟩
theorem name_no {s : ByteArray} {k : Nat} (h : k < s.size) (hp : isAz s[k] = false) : nameOk s = false := by
  have : s.data.toList.all isAz = false := all_at (k := k) (c := s[k]) (by
    rw [List.getElem?_eq_getElem (by simpa using h)]; rfl) hp
  simp [nameOk, this]
theorem name_yes {s : ByteArray} (h1 : 1 ≤ s.size) (h2 : s.size ≤ 32) (h : ∀ j, (hj : j < s.size) → isAz s[j] = true) : nameOk s = true := by
  have : s.data.toList.all isAz = true := by
    rw [List.all_eq_true]
    intro c hc
    obtain ⟨j, hj, rfl⟩ := List.getElem_of_mem hc
    exact h j hj
  simp [nameOk, this, h1, h2]

end Go.Proofs.YtkmfhcjdaglikaaDoor
