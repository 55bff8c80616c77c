/- The chain of a cell's affixes, one Put behind the other: plain laws. -/
import Derived.Test.YtkmfhcjdaglikaaDoorPary
namespace Go.Proofs.YtkmfhcjdaglikaaDoor
open Go.RowKit Go.Cg Go.Shelf Go.Maps

/-- is there a shape among the first k affixes? -/
def shpTo (xs : List Aff) : Nat → Bool
  | 0 => false
  | k + 1 => shpTo xs k || decide ((ax xs k).kind = 5)
theorem shpTo_no {xs : List Aff} : ∀ {k : Nat}, shpTo xs k = false → ∀ j, j < k → (ax xs j).kind ≠ 5
  | 0, _, j, hj => absurd hj (by omega)
  | k + 1, h, j, hj => by
    unfold shpTo at h
    rw [Bool.or_eq_false_iff] at h
    by_cases e : j = k
    · subst e; exact of_decide_eq_false h.2
    · exact shpTo_no h.1 j (by omega)
/-- what stands ahead of affix k -/
def ChainI (A : Alpha) (v : Nat) (xs : List Aff) (l0 : List Int) (k : Nat) (c : List Int) : Prop :=
  InA A c ∧ c.length ≤ 256 ∧ putUp A v xs l0 = putUp A v (xs.drop k) c ∧ (shpTo xs k = false → offDn A v xs k c = some l0)
theorem chain_0 {A : Alpha} {v : Nat} {xs : List Aff} {l0 : List Int} (h : InA A l0) (h2 : l0.length ≤ 256) : ChainI A v xs l0 0 l0 := ⟨h, h2, by rw [List.drop_zero], fun _ => rfl⟩
theorem chain_next {A : Alpha} {v : Nat} {xs : List Aff} {l0 c : List Int} {k : Nat} (h : ChainI A v xs l0 k c) (hk : k < xs.length) (hx : affB A (ax xs k) = true) (hp : (putC A v (ax xs k) c).2 = 0) : ChainI A v xs l0 (k + 1) (putC A v (ax xs k) c).1 := by
  obtain ⟨h1, h2, h3, h4⟩ := h
  refine ⟨putC_in hx h1, putC_len _ _ _ _, h3.trans (putUp_ok hk hp), fun h5 => ?_⟩
  obtain ⟨m0, m1, m2⟩ := putC_ok hp
  have hmk : mkL A v (ax xs k) c = ((putC A v (ax xs k) c).1, 0) := by rw [m2]; exact Prod.ext rfl m0
  have := mk_off hx hmk
  rw [if_neg (shpTo_no h5 k (Nat.lt_succ_self _))] at this
  rw [offDn_some this]
  exact h4 (by unfold shpTo at h5; rw [Bool.or_eq_false_iff] at h5; exact h5.1)
theorem chain_bad {A : Alpha} {v : Nat} {xs : List Aff} {l0 c : List Int} {k : Nat} (h : ChainI A v xs l0 k c) (hk : k < xs.length) (hp : (putC A v (ax xs k) c).2 ≠ 0) : (putUp A v xs l0).2 ≠ 0 := by
  rw [h.2.2.1, putUp_err hk hp]; exact hp
theorem chain_end {A : Alpha} {v : Nat} {xs : List Aff} {l0 c : List Int} (h : ChainI A v xs l0 xs.length c) : putUp A v xs l0 = (c, 0) := by
  rw [h.2.2.1, putUp_end (by omega)]
/-- Put of what stands there -/
theorem chain_put {A : Alpha} {v : Nat} {c : List Int} {x : Aff} (h1 : classE A v 0 = 0) (hin : InA A c) (hx : affB A x = true) (h64 : c.length ≤ 64) : putE A v (runesBytes c) x = (putC A v x c).2 ∧ ((putC A v x c).2 = 0 → putS A v (runesBytes c) x = runesBytes (putC A v x c).1) := by
  have hsp := spell_rb (classE_ok1 h1) hin h64
  have hone : oneE A v (runesBytes c) x = 0 := oneE_mk h1 (by rw [hsp]) hx
  have he : putE A v (runesBytes c) x = (putC A v x c).2 := by unfold putE; rw [hone, hsp, if_neg (by simp)]
  refine ⟨he, fun h => ?_⟩
  unfold putS
  rw [if_pos (he.trans h), hsp]
theorem chain_long {A : Alpha} {v : Nat} {c : List Int} {x : Aff} (h1 : classE A v 0 = 0) (hin : InA A c) (h64 : ¬ c.length ≤ 64) : putE A v (runesBytes c) x ≠ 0 := by
  have h2 := spell_long (classE_ok1 h1) hin (by omega)
  have h3 : oneE A v (runesBytes c) x ≠ 0 := by unfold oneE; rw [if_neg (fun k => k h1), if_pos h2]; exact h2
  unfold putE; rw [if_pos h3]; exact h3
/-- what a cell's form is, behind the chain -/
theorem chain_form {A : Alpha} {v : Nat} {P : Para} {n : Nat} {w : ByteArray} {c : List Int} (hc : cellE A v P (n : Int) w = 0) (h : ChainI A v (cx P.cells n).affs (spell A w).1 (cx P.cells n).affs.length c) : formE A v P (n : Int) w = 0 ∧ formS A v P (n : Int) w = runesBytes c ∧
    (shpTo (cx P.cells n).affs (cx P.cells n).affs.length = false → (spell A (runesBytes c)).2 = 0 → stemS A v P (n : Int) (runesBytes c) = [w] ∧ cellE A v P (n : Int) (runesBytes c) = 0) := by
  have hu := chain_end h
  have he : formE A v P (n : Int) w = 0 := by unfold formE; rw [if_neg (fun k => k hc), Int.toNat_natCast, hu]
  obtain ⟨c1, c2, c3, c4, c5⟩ := cellE_ok hc
  refine ⟨he, ?_, fun h5 hs => ?_⟩
  · unfold formS; rw [if_pos he, Int.toNat_natCast, hu]
  · have hce : cellE A v P (n : Int) (runesBytes c) = 0 := by rw [cellE_mk c1 c2 c3 c4]; exact hs
    refine ⟨?_, hce⟩
    obtain ⟨_, e1, e2, e3⟩ := spell_ok hs
    have ec : (spell A (runesBytes c)).1 = c := (rb_inj_in (classE_ok1 c1) e2 h.1).1 e1
    unfold stemS
    rw [if_pos hce, Int.toNat_natCast, ec, h.2.2.2 h5]
    show [runesBytes (spell A w).1] = [w]
    rw [(spell_ok c5).2.1]
theorem chain_no {A : Alpha} {v : Nat} {P : Para} {n : Nat} {w : ByteArray} {c : List Int} {k : Nat} (hc : cellE A v P (n : Int) w = 0) (h : ChainI A v (cx P.cells n).affs (spell A w).1 k c) (hk : k < (cx P.cells n).affs.length) (hp : (putC A v (ax (cx P.cells n).affs k) c).2 ≠ 0) : formE A v P (n : Int) w ≠ 0 := by
  have := chain_bad h hk hp
  unfold formE; rw [if_neg (fun k => k hc), Int.toNat_natCast]; exact this
theorem stem_len (A : Alpha) (v : Nat) (P : Para) (n : Int) (w : ByteArray) : (stemS A v P n w).length ≤ 1 := by
  unfold stemS; split
  · exact optS_len _
  · simp
theorem stem_err9 {A : Alpha} {v : Nat} {P : Para} {n : Int} {w : ByteArray} (h : cellE A v P n w ≠ 0) : stemS A v P n w = [] ∧ formE A v P n w ≠ 0 := by
  refine ⟨if_neg h, ?_⟩
  unfold formE; rw [if_pos h]; exact h
theorem stem_size {A : Alpha} {v : Nat} {P : Para} {n : Int} {w s : ByteArray} (h : stemS A v P n w = [s]) : s.size ≤ 256 := by
  have h1 : cellE A v P n w = 0 := by
    by_cases h1 : cellE A v P n w = 0
    · exact h1
    · rw [(stem_err9 h1).1] at h; cases h
  obtain ⟨c1, c2, c3, c4, c5⟩ := cellE_ok h1
  unfold stemS at h
  rw [if_pos h1] at h
  cases hc : offDn A v (cx P.cells n.toNat).affs (cx P.cells n.toNat).affs.length (spell A w).1 with
  | none => rw [hc] at h; cases h
  | some t =>
    rw [hc] at h
    have hs : runesBytes t = s := by simpa [optS] using h
    have h64 := (spell_ok c5).2.2.2
    have h2 := (off_up _ _ _ (Nat.le_refl _) (by omega) hc).2
    have h4 := rb_size_le t
    rw [← hs]; omega
end Go.Proofs.YtkmfhcjdaglikaaDoor
