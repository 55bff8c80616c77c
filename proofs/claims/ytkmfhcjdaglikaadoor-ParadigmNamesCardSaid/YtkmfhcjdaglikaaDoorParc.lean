/- Put, Off, Form, Stems, Check, Find as plain functions on texts, and the laws of layer 17 on them. -/
import Derived.Test.YtkmfhcjdaglikaaDoorPara
import Derived.Test.YtkmfhcjdaglikaaDoorRadb
import Derived.Test.YtkmfhcjdaglikaaDoorRadc
namespace Go.Cg
/-- the cells below k that have all of some tags -/
def findTo (P : List PCell) (t : Nat) : Nat → List Nat
  | 0 => []
  | k + 1 => if t &&& (cx P k).tags = t then findTo P t k ++ [k] else findTo P t k
theorem findTo_yes {P : List PCell} {t k : Nat} (h : t &&& (cx P k).tags = t) : findTo P t (k + 1) = findTo P t k ++ [k] := by rw [findTo, if_pos h]
theorem findTo_no {P : List PCell} {t k : Nat} (h : ¬ t &&& (cx P k).tags = t) : findTo P t (k + 1) = findTo P t k := by rw [findTo, if_neg h]
theorem findTo_len (P : List PCell) (t : Nat) : ∀ k, (findTo P t k).length ≤ k
  | 0 => Nat.le_refl _
  | k + 1 => by
    have := findTo_len P t k
    rw [findTo]; split
    · simp; omega
    · omega
end Go.Cg
namespace Go.Proofs.YtkmfhcjdaglikaaDoor
open Go.RowKit Go.Cg Go.Shelf Go.Maps

def oneE (A : Alpha) (v : Nat) (w : ByteArray) (x : Aff) : Int := if classE A v 0 ≠ 0 then classE A v 0 else if (spell A w).2 ≠ 0 then (spell A w).2 else if affB A x = true then 0 else 170
def putE (A : Alpha) (v : Nat) (w : ByteArray) (x : Aff) : Int := if oneE A v w x ≠ 0 then oneE A v w x else (putC A v x (spell A w).1).2
def putS (A : Alpha) (v : Nat) (w : ByteArray) (x : Aff) : ByteArray := if putE A v w x = 0 then runesBytes (putC A v x (spell A w).1).1 else ⟨#[]⟩
/-- an answer of at most one text -/
def optS : Option (List Int) → List ByteArray
  | none => []
  | some s => [runesBytes s]
def offS (A : Alpha) (v : Nat) (w : ByteArray) (x : Aff) : List ByteArray := if oneE A v w x = 0 then optS (offL A v x (spell A w).1) else []
/-- may a paradigm be? -/
def parB (A : Alpha) (P : Para) : Bool := nmB P.name && decide (1 ≤ P.cells.length) && decide (P.cells.length ≤ 256) && P.cells.all fun c => decide (c.affs.length ≤ 8) && c.affs.all (affB A)
def parE (A : Alpha) (P : Para) : Int := if A.Ok then (if parB A P = true then 0 else 170) else 7
def cellE (A : Alpha) (v : Nat) (P : Para) (n : Int) (w : ByteArray) : Int :=
  if classE A v 0 ≠ 0 then classE A v 0 else if parE A P ≠ 0 then parE A P else if n < 0 ∨ (P.cells.length : Int) ≤ n then 8 else (spell A w).2
def formE (A : Alpha) (v : Nat) (P : Para) (n : Int) (w : ByteArray) : Int := if cellE A v P n w ≠ 0 then cellE A v P n w else (putUp A v (cx P.cells n.toNat).affs (spell A w).1).2
def formS (A : Alpha) (v : Nat) (P : Para) (n : Int) (w : ByteArray) : ByteArray := if formE A v P n w = 0 then runesBytes (putUp A v (cx P.cells n.toNat).affs (spell A w).1).1 else ⟨#[]⟩
def stemS (A : Alpha) (v : Nat) (P : Para) (n : Int) (w : ByteArray) : List ByteArray := if cellE A v P n w = 0 then optS (offDn A v (cx P.cells n.toNat).affs (cx P.cells n.toNat).affs.length (spell A w).1) else []

theorem classE_ok1 {A : Alpha} {p m : Nat} (h : classE A p m = 0) : A.Ok := by
  unfold classE at h
  by_cases hA : A.Ok
  · exact hA
  · rw [if_neg hA] at h; cases h
theorem oneE_ok {A : Alpha} {v : Nat} {w : ByteArray} {x : Aff} (h : oneE A v w x = 0) : classE A v 0 = 0 ∧ (spell A w).2 = 0 ∧ affB A x = true := by
  unfold oneE at h
  by_cases h1 : classE A v 0 = 0
  · rw [if_neg (fun c => c h1)] at h
    by_cases h2 : (spell A w).2 = 0
    · rw [if_neg (fun c => c h2)] at h
      by_cases h3 : affB A x = true
      · exact ⟨h1, h2, h3⟩
      · rw [if_neg h3] at h; cases h
    · rw [if_pos h2] at h; exact absurd h h2
  · rw [if_pos h1] at h; exact absurd h h1
theorem oneE_mk {A : Alpha} {v : Nat} {w : ByteArray} {x : Aff} (h1 : classE A v 0 = 0) (h2 : (spell A w).2 = 0) (h3 : affB A x = true) : oneE A v w x = 0 := by
  unfold oneE; rw [if_neg (fun c => c h1), if_neg (fun c => c h2), if_pos h3]
theorem putE_ok {A : Alpha} {v : Nat} {w : ByteArray} {x : Aff} (h : putE A v w x = 0) : oneE A v w x = 0 ∧ (putC A v x (spell A w).1).2 = 0 := by
  unfold putE at h
  by_cases h1 : oneE A v w x = 0
  · rw [if_neg (fun c => c h1)] at h; exact ⟨h1, h⟩
  · rw [if_pos h1] at h; exact absurd h h1
theorem optS_len (o : Option (List Int)) : (optS o).length ≤ 1 := by cases o <;> simp [optS]
theorem offS_len (A : Alpha) (v : Nat) (w : ByteArray) (x : Aff) : (offS A v w x).length ≤ 1 := by
  unfold offS; split
  · exact optS_len _
  · simp
theorem offS_err {A : Alpha} {v : Nat} {w : ByteArray} {x : Aff} (h : oneE A v w x ≠ 0) : offS A v w x = [] := if_neg h
theorem putS_err {A : Alpha} {v : Nat} {w : ByteArray} {x : Aff} (h : putE A v w x ≠ 0) : putS A v w x = ⟨#[]⟩ := if_neg h
theorem putS_ok {A : Alpha} {v : Nat} {w : ByteArray} {x : Aff} (h : putE A v w x = 0) : putS A v w x = runesBytes (putC A v x (spell A w).1).1 ∧ InA A (putC A v x (spell A w).1).1 ∧ (putC A v x (spell A w).1).1.length ≤ 256 := by
  obtain ⟨h1, h2⟩ := putE_ok h
  obtain ⟨_, h4, h5⟩ := oneE_ok h1
  exact ⟨if_pos h, putC_in h5 (spell_ok h4).2.2.1, putC_len _ _ _ _⟩
/-- what an affix made is taken off again: its text, as a word -/
theorem put_off {A : Alpha} {v : Nat} {w : ByteArray} {x : Aff} (h : putE A v w x = 0) (h64 : (putC A v x (spell A w).1).1.length ≤ 64) :
    oneE A v (putS A v w x) x = 0 ∧ offS A v (putS A v w x) x = [if x.kind = 5 then runesBytes (rootL A v (spell A w).1) else w] := by
  obtain ⟨h1, h2⟩ := putE_ok h
  obtain ⟨c1, c2, c3⟩ := oneE_ok h1
  obtain ⟨s1, s2, s3⟩ := putS_ok h
  have hA := classE_ok1 c1
  obtain ⟨m0, m1, m2⟩ := putC_ok h2
  have hsp := spell_rb hA s2 h64
  have hone : oneE A v (putS A v w x) x = 0 := oneE_mk c1 (by rw [s1, hsp]) c3
  refine ⟨hone, ?_⟩
  unfold offS
  rw [if_pos hone, s1, hsp]
  have hmk : mkL A v x (spell A w).1 = ((putC A v x (spell A w).1).1, 0) := by rw [m2]; exact Prod.ext rfl m0
  rw [mk_off c3 hmk]
  by_cases hk : x.kind = 5
  · rw [if_pos hk, if_pos hk]; rfl
  · rw [if_neg hk, if_neg hk]
    show [runesBytes (spell A w).1] = [w]
    rw [(spell_ok c2).2.1]
/-- what is taken off, put, is the word -/
theorem off_put {A : Alpha} {v : Nat} {w s : ByteArray} {x : Aff} (h : offS A v w x = [s]) : putE A v s x = 0 ∧ putS A v s x = w ∧ oneE A v w x = 0 := by
  have h1 : oneE A v w x = 0 := by
    by_cases h1 : oneE A v w x = 0
    · exact h1
    · rw [offS_err h1] at h; cases h
  obtain ⟨c1, c2, c3⟩ := oneE_ok h1
  have hA := classE_ok1 c1
  obtain ⟨_, hw, hin, h64⟩ := spell_ok c2
  unfold offS at h
  rw [if_pos h1] at h
  cases hc : offL A v x (spell A w).1 with
  | none => rw [hc] at h; cases h
  | some t =>
    rw [hc] at h
    have hs : runesBytes t = s := by simpa [optS] using h
    have ht := offL_in hc hin
    have htl := offL_len hc
    have hsp : spell A s = (t, 0) := by rw [← hs]; exact spell_rb hA ht (by omega)
    have hmk := (offL_back hc).2
    have hpc : putC A v x t = ((spell A w).1, 0) := by
      unfold putC
      rw [hmk, if_neg (by simp), if_neg (by show ¬ 256 < (spell A w).1.length; omega)]
    have hone : oneE A v s x = 0 := oneE_mk c1 (by rw [hsp]) c3
    have hp : putE A v s x = 0 := by unfold putE; rw [hone, hsp, if_neg (by simp), hpc]
    refine ⟨hp, ?_, h1⟩
    unfold putS
    rw [if_pos hp, hsp, hpc, hw]
/-- the root of a word: radical's Radicals -/
theorem rad_root {A : Alpha} {v : Nat} {w : ByteArray} (h1 : classE A v 0 = 0) (h2 : (spell A w).2 = 0) : radE A w v = 0 ∧ radS A w v = runesBytes (rootL A v (spell A w).1) := by
  have h : radE A w v = 0 := by unfold radE; rw [if_neg (fun c => c h2)]; exact h1
  exact ⟨h, if_pos h⟩

/-! ### cells -/
theorem parB_affs {A : Alpha} {P : Para} (h : parB A P = true) : nmB P.name = true ∧ 1 ≤ P.cells.length ∧ P.cells.length ≤ 256 ∧ ∀ k, k < P.cells.length → (cx P.cells k).affs.length ≤ 8 ∧ ∀ j, j < (cx P.cells k).affs.length → affB A (ax (cx P.cells k).affs j) = true := by
  unfold parB at h
  simp only [Bool.and_eq_true, decide_eq_true_eq, List.all_eq_true] at h
  refine ⟨h.1.1.1, h.1.1.2, h.1.2, fun k hk => ?_⟩
  have := h.2 _ (List.getElem_mem hk)
  rw [← cx_eq hk] at this
  refine ⟨this.1, fun j hj => ?_⟩
  have := this.2 _ (List.getElem_mem hj)
  rwa [← ax_eq hj] at this
theorem parB_mk {A : Alpha} {P : Para} (h0 : nmB P.name = true) (h1 : 1 ≤ P.cells.length) (h2 : P.cells.length ≤ 256) (h : ∀ k, k < P.cells.length → (cx P.cells k).affs.length ≤ 8 ∧ ∀ j, j < (cx P.cells k).affs.length → affB A (ax (cx P.cells k).affs j) = true) : parB A P = true := by
  unfold parB
  simp only [Bool.and_eq_true, decide_eq_true_eq, List.all_eq_true]
  refine ⟨⟨⟨h0, h1⟩, h2⟩, fun c hc => ?_⟩
  obtain ⟨k, hk, e⟩ := List.getElem_of_mem hc
  have := h k hk
  rw [cx_eq hk, e] at this
  refine ⟨this.1, fun x hx => ?_⟩
  obtain ⟨j, hj, e2⟩ := List.getElem_of_mem hx
  have := this.2 j hj
  rwa [ax_eq hj, e2] at this
theorem parE_ok {A : Alpha} {P : Para} (h : parE A P = 0) : A.Ok ∧ parB A P = true := by
  unfold parE at h
  by_cases hA : A.Ok
  · rw [if_pos hA] at h
    by_cases hB : parB A P = true
    · exact ⟨hA, hB⟩
    · rw [if_neg hB] at h; cases h
  · rw [if_neg hA] at h; cases h
theorem parE_yes {A : Alpha} {P : Para} (h1 : A.Ok) (h2 : parB A P = true) : parE A P = 0 := by unfold parE; rw [if_pos h1, if_pos h2]
theorem parE_no {A : Alpha} {P : Para} (h1 : A.Ok) (h2 : ¬ parB A P = true) : parE A P = 170 := by unfold parE; rw [if_pos h1, if_neg h2]
theorem parE_bad {A : Alpha} {P : Para} (h1 : ¬ A.Ok) : parE A P = 7 := by unfold parE; rw [if_neg h1]
theorem cellE_ok {A : Alpha} {v : Nat} {P : Para} {n : Int} {w : ByteArray} (h : cellE A v P n w = 0) : classE A v 0 = 0 ∧ parE A P = 0 ∧ 0 ≤ n ∧ n < P.cells.length ∧ (spell A w).2 = 0 := by
  unfold cellE at h
  by_cases h1 : classE A v 0 = 0
  · rw [if_neg (fun c => c h1)] at h
    by_cases h2 : parE A P = 0
    · rw [if_neg (fun c => c h2)] at h
      by_cases h3 : n < 0 ∨ (P.cells.length : Int) ≤ n
      · rw [if_pos h3] at h; cases h
      · rw [if_neg h3] at h
        exact ⟨h1, h2, by omega, by omega, h⟩
    · rw [if_pos h2] at h; exact absurd h h2
  · rw [if_pos h1] at h; exact absurd h h1
theorem cellE_mk {A : Alpha} {v : Nat} {P : Para} {n : Int} {w : ByteArray} (h1 : classE A v 0 = 0) (h2 : parE A P = 0) (h3 : 0 ≤ n) (h4 : n < P.cells.length) : cellE A v P n w = (spell A w).2 := by
  unfold cellE; rw [if_neg (fun c => c h1), if_neg (fun c => c h2), if_neg (by omega)]
/-- affixes taken off, put again -/
theorem off_up {A : Alpha} {v : Nat} {xs : List Aff} : ∀ (k : Nat) (l s : List Int), k ≤ xs.length → l.length ≤ 256 → offDn A v xs k l = some s → putUp A v xs s = putUp A v (xs.drop k) l ∧ s.length ≤ l.length
  | 0, l, s, _, _, h => by cases h; exact ⟨rfl, Nat.le_refl _⟩
  | k + 1, l, s, hk, hl, h => by
    cases ho : offL A v (ax xs k) l with
    | none => rw [offDn_none ho] at h; cases h
    | some t =>
      rw [offDn_some ho] at h
      have htl := offL_len ho
      obtain ⟨i1, i2⟩ := off_up k t s (by omega) (by omega) h
      refine ⟨?_, by omega⟩
      rw [i1]
      have hmk := (offL_back ho).2
      have hpc : putC A v (ax xs k) t = (l, 0) := by
        unfold putC
        rw [hmk, if_neg (by simp), if_neg (by show ¬ 256 < l.length; omega)]
      rw [putUp_ok (by omega) (by rw [hpc]), hpc]
theorem offDn_in {A : Alpha} {v : Nat} {xs : List Aff} : ∀ (k : Nat) (l s : List Int), InA A l → offDn A v xs k l = some s → InA A s
  | 0, l, s, hl, h => by cases h; exact hl
  | k + 1, l, s, hl, h => by
    cases ho : offL A v (ax xs k) l with
    | none => rw [offDn_none ho] at h; cases h
    | some t => rw [offDn_some ho] at h; exact offDn_in k t s (offL_in ho hl) h
/-- a cell's stems, put, make the word -/
theorem stem_form {A : Alpha} {v : Nat} {P : Para} {n : Int} {w s : ByteArray} (h : stemS A v P n w = [s]) : formE A v P n s = 0 ∧ formS A v P n s = w := by
  have h1 : cellE A v P n w = 0 := by
    by_cases h1 : cellE A v P n w = 0
    · exact h1
    · unfold stemS at h; rw [if_neg h1] at h; cases h
  obtain ⟨c1, c2, c3, c4, c5⟩ := cellE_ok h1
  obtain ⟨_, hw, hin, h64⟩ := spell_ok c5
  unfold stemS at h
  rw [if_pos h1] at h
  cases hc : offDn A v (cx P.cells n.toNat).affs (cx P.cells n.toNat).affs.length (spell A w).1 with
  | none => rw [hc] at h; cases h
  | some t =>
    rw [hc] at h
    have hs : runesBytes t = s := by simpa [optS] using h
    obtain ⟨u1, u2⟩ := off_up _ _ _ (Nat.le_refl _) (by omega) hc
    have ht := offDn_in _ _ _ hin hc
    have hsp : spell A s = (t, 0) := by rw [← hs]; exact spell_rb (classE_ok1 c1) ht (by omega)
    rw [List.drop_length, putUp] at u1
    have hce : cellE A v P n s = 0 := by rw [cellE_mk c1 c2 c3 c4, hsp]
    have hf : formE A v P n s = 0 := by unfold formE; rw [hce, hsp, if_neg (by simp)]; dsimp only; rw [u1]
    refine ⟨hf, ?_⟩
    unfold formS
    rw [if_pos hf, hsp]; dsimp only; rw [u1, hw]
/-! ### affix by affix -/
theorem spell_long {A : Alpha} (hA : A.Ok) {l : List Int} (hl : InA A l) (h : 64 < l.length) : (spell A (runesBytes l)).2 ≠ 0 := fun h0 => by
  obtain ⟨_, h1, h2, h3⟩ := spell_ok h0
  have := (rb_inj_in hA h2 hl).1 h1
  rw [this] at h3; omega
/-- what one affix more makes of a chain -/
theorem chain_step {A : Alpha} {v : Nat} {xs : List Aff} {k : Nat} {l0 c : List Int} (hk : k < xs.length) (hx : affB A (ax xs k) = true) (hp : (putC A v (ax xs k) c).2 = 0) (hU : putUp A v xs l0 = putUp A v (xs.drop k) c)
    (hO : (∀ j, j < k → (ax xs j).kind ≠ 5) → offDn A v xs k c = some l0) :
    putUp A v xs l0 = putUp A v (xs.drop (k + 1)) (putC A v (ax xs k) c).1 ∧ ((∀ j, j < k + 1 → (ax xs j).kind ≠ 5) → offDn A v xs (k + 1) (putC A v (ax xs k) c).1 = some l0) := by
  refine ⟨hU.trans (putUp_ok hk hp), fun h5 => ?_⟩
  obtain ⟨m0, m1, m2⟩ := putC_ok hp
  have hmk : mkL A v (ax xs k) c = ((putC A v (ax xs k) c).1, 0) := by rw [m2]; exact Prod.ext rfl m0
  have := mk_off hx hmk
  rw [if_neg (h5 k (Nat.lt_succ_self _))] at this
  rw [offDn_some this]
  exact hO fun j hj => h5 j (by omega)

end Go.Proofs.YtkmfhcjdaglikaaDoor
