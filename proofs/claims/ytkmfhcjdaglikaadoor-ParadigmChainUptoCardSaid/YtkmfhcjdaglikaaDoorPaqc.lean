/- Contracts: cognatelaw17.much; the law ParadigmChain, walked (PRINTED by mkchain.py). -/
import Derived.Test.YtkmfhcjdaglikaaDoorPaqb
namespace Go.Proofs.YtkmfhcjdaglikaaDoor
open Go.RowKit Go.Cg Go.Shelf Go.Maps

def muchB (P : Para) (s : ByteArray) : Bool := decide (2000 < s.size) || decide (600 < P.cells.length) || P.cells.any fun c => decide (60 < c.affs.length)
theorem muchB_1 {P : Para} {s : ByteArray} (h : 2000 < s.size) : muchB P s = true := by unfold muchB; rw [decide_eq_true h]; rfl
theorem muchB_2 {P : Para} {s : ByteArray} (h : 600 < P.cells.length) : muchB P s = true := by unfold muchB; rw [decide_eq_true h]; simp
theorem muchB_3 {P : Para} {s : ByteArray} {k : Nat} (hk : k < P.cells.length) (h : 60 < (cx P.cells k).affs.length) : muchB P s = true := by
  unfold muchB
  rw [Bool.or_eq_true]
  right
  rw [List.any_eq_true]
  refine ⟨_, List.getElem_mem hk, ?_⟩
  rw [← cx_eq hk]; exact decide_eq_true h
theorem muchB_no {P : Para} {s : ByteArray} (h1 : ¬ 2000 < s.size) (h2 : ¬ 600 < P.cells.length) (h : ∀ k, k < P.cells.length → ¬ 60 < (cx P.cells k).affs.length) : muchB P s = false := by
  unfold muchB
  rw [decide_eq_false h1, decide_eq_false h2, Bool.false_or, Bool.false_or, Bool.eq_false_iff]
  intro h3
  rw [List.any_eq_true] at h3
  obtain ⟨c, hc, hd⟩ := h3
  obtain ⟨k, hk, e⟩ := List.getElem_of_mem hc
  have := h k hk
  rw [cx_eq hk, e] at this
  exact this (of_decide_eq_true hd)
theorem upto9 {q : Nat → Prop} {k : Nat} (h : ∀ j, j < k → q j) (hk : q k) : ∀ j, j < k + 1 → q j := fun j hj => by
  by_cases e : j = k
  · subst e; exact hk
  · exact h j (by omega)

set_option maxRecDepth 100000 in
set_option maxHeartbeats 2000000 in
theorem much_any (pp : Option Addr) (pc : Nat) (P : Para) (g : Nat → Option Addr × Nat) (s : ByteArray) (hs : s.size ≤ 140737488351232) (w : World) (hP : CellsAt w pp P.cells g) :
    Calls Tryd.prog 17 #[.agg #[.string P.name, .slice pp P.cells.length pc], .string s] w fun e w' => e = .returned (.bool (muchB P s)) ∧ Ext w w' := by
  have hpb := hP.big
  by_cases h1 : 2000 < s.size
  · rw [muchB_1 h1]
    go_enter Tryd.func17, Tryd.ntmps17
    go_wp2_with fail
    go_ret
    exact ⟨rfl, (Ext.refl _).alloc _⟩
  by_cases h2 : 600 < P.cells.length
  · rw [muchB_2 h2]
    go_enter Tryd.func17, Tryd.ntmps17
    go_wp2_with fail
    go_ret
    exact ⟨rfl, (Ext.refl _).alloc _⟩
  have HY := Lib.hid (fun k (hk : k < P.cells.length) (h : 60 < (cx P.cells k).affs.length) => muchB_3 (s := s) hk h)
  have HN := Lib.hid (muchB_no (P := P) (s := s) h1 h2)
  obtain ⟨B, hB⟩ : ∃ B, muchB P s = B := ⟨_, rfl⟩
  rw [hB] at HY HN ⊢
  clear hB
  go_enter Tryd.func17, Tryd.ntmps17
  go_wp2_with fail
  go_loopw [5] (fun i wr => ∃ k : Nat, k ≤ P.cells.length ∧ i = .int .i64 k ∧ Ext (w.alloc (.cells #[.string P.name, .slice pp P.cells.length pc] 32)) wr ∧ Hid (∀ j, j < k → ¬ 60 < (cx P.cells j).affs.length)) (fun i _ => P.cells.length - (intOf i).toNat)
  case atStart => exact ⟨0, Nat.zero_le _, rfl, Ext.refl _, Lib.hid fun j hj => absurd hj (by omega)⟩
  case round =>
    obtain ⟨k, hk, rfl, hx, HJ⟩ := hrel
    have hx0 : Ext w wr := ((Ext.refl w).alloc _).trans hx
    have c0 := hx.cell0 0
    have c1 := hx.cell0 1
    have l0 := hx.lt0
    simp at c0 c1
    by_cases hlt : k < P.cells.length
    · obtain ⟨b, off, e0, hbw, k0, k1⟩ := (hP.mono hx0).cells hlt
      have hab := (hP.affs k hlt).big
      have HJ2 := Lib.hid (fun h => upto9 (q := fun j => ¬ 60 < (cx P.cells j).affs.length) HJ.out (k := k) h)
      have HY2 := Lib.hid (HY.out k hlt)
      obtain ⟨xs, hxs⟩ : ∃ xs, g k = xs := ⟨_, rfl⟩
      obtain ⟨xp, xc⟩ := xs
      rw [hxs] at k1
      obtain ⟨m, hm⟩ : ∃ m, (cx P.cells k).affs.length = m := ⟨_, rfl⟩
      obtain ⟨tg, htg⟩ : ∃ tg, (cx P.cells k).tags = tg := ⟨_, rfl⟩
      rw [hm] at k1 hab HY2 HJ2
      rw [htg] at k0
      dsimp only at k1
      subst e0
      clear hxs hm htg
      by_cases h60 : 60 < m
      · have hBt := HY2.out h60
        subst hBt
        go_wp2_with fail
        go_ret
        exact ⟨rfl, hx0⟩
      · go_wp2_with fail
        exact ⟨⟨k + 1, by omega, by go_num, hx, Lib.hid (HJ2.out h60)⟩, by simp [intOf]; omega⟩
    · have e : k = P.cells.length := by omega
      subst e
      have hBf := HN.out HJ.out
      subst hBf
      go_wp2_with fail
      go_ret
      exact ⟨rfl, hx0⟩
end Go.Proofs.YtkmfhcjdaglikaaDoor
