/- Affixes as plain functions: which may be, what they make of letters, what they are taken off. -/
import Derived.Test.YtkmfhcjdaglikaaDoorRady
import Derived.Test.YtkmfhcjdaglikaaDoorLetz
namespace Go.Cg
open Go.RowKit Go.Lib
structure Aff where
  kind : Nat
  form : ByteArray
  other : ByteArray
  pos : Int
def Aff.wf (x : Aff) : Prop := x.kind < 256 ∧ x.form.size ≤ 140737488351232 ∧ x.other.size ≤ 140737488351232 ∧ -9223372036854775808 ≤ x.pos ∧ x.pos ≤ 9223372036854775807
def Aff.small (x : Aff) : Prop := x.form.size ≤ 1048576 ∧ x.other.size ≤ 1048576
def Aff.val (x : Aff) : Value := .agg #[.int .u8 (x.kind : Int), .string x.form, .string x.other, .int .i64 x.pos]
def ax (xs : List Aff) (k : Nat) : Aff := xs.getD k ⟨0, ByteArray.empty, ByteArray.empty, 0⟩
theorem ax_eq {xs : List Aff} {k : Nat} (h : k < xs.length) : ax xs k = xs[k] := by simp [ax, List.getD, h]
/-- cell j of a row of affixes -/
def affCell (xs : List Aff) (j : Nat) : Value :=
  if j % 4 = 0 then .int .u8 ((ax xs (j / 4)).kind : Int)
  else if j % 4 = 1 then .string (ax xs (j / 4)).form
  else if j % 4 = 2 then .string (ax xs (j / 4)).other
  else .int .i64 (ax xs (j / 4)).pos
structure AffsAt (w : World) (p : Option Addr) (xs : List Aff) : Prop where
  reads : Reads w p (xs.length * 4) (affCell xs)
  wf : ∀ i, i < xs.length → (ax xs i).wf
  big : xs.length ≤ 4398046511104
theorem AffsAt.mono {w w' : World} {p : Option Addr} {xs : List Aff} (h : AffsAt w p xs) (hx : Ext w w') : AffsAt w' p xs := ⟨h.reads.mono hx, h.wf, h.big⟩
theorem affCell_at (xs : List Aff) (i : Nat) : affCell xs (i * 4) = .int .u8 ((ax xs i).kind : Int) ∧ affCell xs (i * 4 + 1) = .string (ax xs i).form ∧ affCell xs (i * 4 + 2) = .string (ax xs i).other ∧ affCell xs (i * 4 + 3) = .int .i64 (ax xs i).pos := by
  unfold affCell
  refine ⟨?_, ?_, ?_, ?_⟩
  · rw [show i * 4 / 4 = i by omega, show i * 4 % 4 = 0 by omega]; rfl
  · rw [show (i * 4 + 1) / 4 = i by omega, show (i * 4 + 1) % 4 = 1 by omega]; rfl
  · rw [show (i * 4 + 2) / 4 = i by omega, show (i * 4 + 2) % 4 = 2 by omega]; rfl
  · rw [show (i * 4 + 3) / 4 = i by omega, show (i * 4 + 3) % 4 = 3 by omega]; rfl
theorem AffsAt.cells {w : World} {p : Option Addr} {xs : List Aff} (h : AffsAt w p xs) {i : Nat} (hi : i < xs.length) :
    ∃ b off, p = some ⟨b, off, none⟩ ∧ b < w.heap.size ∧ w.cell? ⟨b, off + i * 4, none⟩ = some (.int .u8 ((ax xs i).kind : Int)) ∧ w.cell? ⟨b, off + i * 4 + 1, none⟩ = some (.string (ax xs i).form) ∧
      w.cell? ⟨b, off + i * 4 + 2, none⟩ = some (.string (ax xs i).other) ∧ w.cell? ⟨b, off + i * 4 + 3, none⟩ = some (.int .i64 (ax xs i).pos) := by
  rcases h.reads with h0 | ⟨b, off, hp, hlt, hc⟩
  · omega
  · obtain ⟨e0, e1, e2, e3⟩ := affCell_at xs i
    exact ⟨b, off, hp, hlt, (hc (i * 4) (by omega)).trans (by rw [e0]), (hc (i * 4 + 1) (by omega)).trans (by rw [e1]), (hc (i * 4 + 2) (by omega)).trans (by rw [e2]), (hc (i * 4 + 3) (by omega)).trans (by rw [e3])⟩
/-- a cell of a paradigm -/
structure PCell where
  tags : Nat
  affs : List Aff
structure Para where
  name : ByteArray
  cells : List PCell
def cx (P : List PCell) (k : Nat) : PCell := P.getD k ⟨0, []⟩
theorem cx_eq {P : List PCell} {k : Nat} (h : k < P.length) : cx P k = P[k] := by simp [cx, List.getD, h]
/-- cell j of a row of a paradigm's cells -/
def parCell (cs : List PCell) (g : Nat → Option Addr × Nat) (j : Nat) : Value :=
  if j % 2 = 0 then .int .u64 ((cx cs (j / 2)).tags : Int) else .slice (g (j / 2)).1 (cx cs (j / 2)).affs.length (g (j / 2)).2
structure CellsAt (w : World) (p : Option Addr) (cs : List PCell) (g : Nat → Option Addr × Nat) : Prop where
  reads : Reads w p (cs.length * 2) (parCell cs g)
  affs : ∀ i, i < cs.length → AffsAt w (g i).1 (cx cs i).affs
  tags : ∀ i, i < cs.length → (cx cs i).tags < 18446744073709551616
  big : cs.length ≤ 4398046511104
theorem CellsAt.mono {w w' : World} {p : Option Addr} {cs : List PCell} {g : Nat → Option Addr × Nat} (h : CellsAt w p cs g) (hx : Ext w w') : CellsAt w' p cs g := ⟨h.reads.mono hx, fun i hi => (h.affs i hi).mono hx, h.tags, h.big⟩
theorem parCell_at (cs : List PCell) (g : Nat → Option Addr × Nat) (i : Nat) : parCell cs g (i * 2) = .int .u64 ((cx cs i).tags : Int) ∧ parCell cs g (i * 2 + 1) = .slice (g i).1 (cx cs i).affs.length (g i).2 := by
  unfold parCell
  refine ⟨?_, ?_⟩
  · rw [show i * 2 / 2 = i by omega, show i * 2 % 2 = 0 by omega]; rfl
  · rw [show (i * 2 + 1) / 2 = i by omega, show (i * 2 + 1) % 2 = 1 by omega]; rfl
theorem CellsAt.cells {w : World} {p : Option Addr} {cs : List PCell} {g : Nat → Option Addr × Nat} (h : CellsAt w p cs g) {i : Nat} (hi : i < cs.length) :
    ∃ b off, p = some ⟨b, off, none⟩ ∧ b < w.heap.size ∧ w.cell? ⟨b, off + i * 2, none⟩ = some (.int .u64 ((cx cs i).tags : Int)) ∧ w.cell? ⟨b, off + i * 2 + 1, none⟩ = some (.slice (g i).1 (cx cs i).affs.length (g i).2) := by
  rcases h.reads with h0 | ⟨b, off, hp, hlt, hc⟩
  · omega
  · obtain ⟨e0, e1⟩ := parCell_at cs g i
    exact ⟨b, off, hp, hlt, (hc (i * 2) (by omega)).trans (by rw [e0]), (hc (i * 2 + 1) (by omega)).trans (by rw [e1])⟩
end Go.Cg
namespace Go.Proofs.YtkmfhcjdaglikaaDoor
open Go.RowKit Go.Cg Go.Shelf Go.Maps

/-- may a text be a word? -/
def wdB (A : Alpha) (s : ByteArray) : Bool := decide ((spell A s).2 = 0)
/-- may an affix be? -/
def affB (A : Alpha) (x : Aff) : Bool := match x.kind with
  | 1 => wdB A x.form && decide (x.other.size = 0) && decide (x.pos = 0)
  | 2 => wdB A x.form && decide (x.other.size = 0) && decide (x.pos = 0)
  | 3 => wdB A x.form && wdB A x.other && decide (x.pos = 0)
  | 4 => wdB A x.form && decide (x.other.size = 0) && decide (0 ≤ x.pos ∧ x.pos ≤ 64)
  | 5 => formB A x.form && decide (x.other.size = 0) && decide (x.pos = 0)
  | 6 => decide (x.form.size = 0) && decide (x.other.size = 0) && decide (0 ≤ x.pos ∧ x.pos ≤ 64)
  | _ => false
/-- the letters that are no vowels -/
def rootL (A : Alpha) (v : Nat) (l : List Int) : List Int := l.filter fun r => !hasL A v 0 r
/-- what an affix makes of letters; its error -/
def mkL (A : Alpha) (v : Nat) (x : Aff) (l : List Int) : List Int × Int := match x.kind with
  | 1 => ((spell A x.form).1 ++ l, 0)
  | 2 => (l ++ (spell A x.form).1, 0)
  | 3 => ((spell A x.form).1 ++ l ++ (spell A x.other).1, 0)
  | 4 => (l.take x.pos.toNat ++ (spell A x.form).1 ++ l.drop x.pos.toNat, 0)
  | 5 => if holeN (formL A x.form) = (rootL A v l).length then (fillTo (rootL A v l) (formL A x.form) (formL A x.form).length, 0) else ([], 130)
  | 6 => if l.length < x.pos.toNat then ([], 150) else if x.pos.toNat = 0 then (l ++ l, 0) else (l.take x.pos.toNat ++ l, 0)
  | _ => ([], 0)
/-- the same, no longer than may be -/
def putC (A : Alpha) (v : Nat) (x : Aff) (l : List Int) : List Int × Int :=
  if (mkL A v x l).2 ≠ 0 then ([], (mkL A v x l).2) else if 256 < (mkL A v x l).1.length then ([], 9) else mkL A v x l
/-- affixes put to letters, one behind the other -/
def putUp (A : Alpha) (v : Nat) : List Aff → List Int → List Int × Int
  | [], l => (l, 0)
  | x :: xs, l => if (putC A v x l).2 ≠ 0 then ([], (putC A v x l).2) else putUp A v xs (putC A v x l).1
/-- are the letters that stand at a form's holes no vowels? -/
def consB (A : Alpha) (v : Nat) (l f : List Int) : Bool := decide (∀ i, i < f.length → rn f i = 95 → hasL A v 0 (rn l i) = false)
/-- what is left of letters if an affix is taken off -/
def offC (A : Alpha) (v : Nat) (x : Aff) (l : List Int) : Option (List Int) := match x.kind with
  | 1 => if (spell A x.form).1.length ≤ l.length then some (l.drop (spell A x.form).1.length) else none
  | 2 => if (spell A x.form).1.length ≤ l.length then some (l.take (l.length - (spell A x.form).1.length)) else none
  | 3 => if (spell A x.form).1.length + (spell A x.other).1.length ≤ l.length then some ((l.drop (spell A x.form).1.length).take (l.length - (spell A x.form).1.length - (spell A x.other).1.length)) else none
  | 4 => if (spell A x.form).1.length ≤ l.length then some (l.take (min x.pos.toNat (l.length - (spell A x.form).1.length)) ++ l.drop (min x.pos.toNat (l.length - (spell A x.form).1.length) + (spell A x.form).1.length)) else none
  | 5 => if l.length = (formL A x.form).length ∧ consB A v l (formL A x.form) = true then some (atHoles l (formL A x.form) (formL A x.form).length) else none
  | 6 => if x.pos.toNat = 0 then some (l.drop (l.length / 2)) else if 2 * x.pos.toNat ≤ l.length then some (l.drop x.pos.toNat) else none
  | _ => none
/-- the letters of which an affix makes these -/
def offL (A : Alpha) (v : Nat) (x : Aff) (l : List Int) : Option (List Int) := match offC A v x l with
  | none => none
  | some s => if mkL A v x s = (l, 0) then some s else none
/-- the first k affixes taken off, the last one first -/
def offDn (A : Alpha) (v : Nat) (xs : List Aff) : Nat → List Int → Option (List Int)
  | 0, l => some l
  | k + 1, l => match offL A v (ax xs k) l with
    | none => none
    | some s => offDn A v xs k s
theorem offDn_none {A : Alpha} {v : Nat} {xs : List Aff} {k : Nat} {l : List Int} (h : offL A v (ax xs k) l = none) : offDn A v xs (k + 1) l = none := by rw [offDn, h]
theorem offDn_some {A : Alpha} {v : Nat} {xs : List Aff} {k : Nat} {l s : List Int} (h : offL A v (ax xs k) l = some s) : offDn A v xs (k + 1) l = offDn A v xs k s := by rw [offDn, h]
theorem putUp_err {A : Alpha} {v : Nat} {xs : List Aff} {k : Nat} {l : List Int} (hk : k < xs.length) (h : (putC A v (ax xs k) l).2 ≠ 0) : putUp A v (xs.drop k) l = ([], (putC A v (ax xs k) l).2) := by
  rw [List.drop_eq_getElem_cons hk, ← ax_eq hk, putUp, if_pos h]
theorem putUp_ok {A : Alpha} {v : Nat} {xs : List Aff} {k : Nat} {l : List Int} (hk : k < xs.length) (h : (putC A v (ax xs k) l).2 = 0) : putUp A v (xs.drop k) l = putUp A v (xs.drop (k + 1)) (putC A v (ax xs k) l).1 := by
  rw [List.drop_eq_getElem_cons hk, ← ax_eq hk, putUp, if_neg (by rw [h]; decide)]
theorem putUp_end {A : Alpha} {v : Nat} {xs : List Aff} {k : Nat} {l : List Int} (hk : ¬ k < xs.length) : putUp A v (xs.drop k) l = (l, 0) := by
  rw [List.drop_eq_nil_of_le (by omega), putUp]

/-! ### what an affix that may be is -/
theorem aff1 {A : Alpha} {x : Aff} (hk : x.kind = 1) (h : affB A x = true) : (spell A x.form).2 = 0 ∧ x.other.size = 0 ∧ x.pos = 0 := by
  unfold affB wdB at h; rw [hk] at h; simp only [Bool.and_eq_true, decide_eq_true_eq] at h; exact ⟨h.1.1, h.1.2, h.2⟩
theorem aff2 {A : Alpha} {x : Aff} (hk : x.kind = 2) (h : affB A x = true) : (spell A x.form).2 = 0 ∧ x.other.size = 0 ∧ x.pos = 0 := by
  unfold affB wdB at h; rw [hk] at h; simp only [Bool.and_eq_true, decide_eq_true_eq] at h; exact ⟨h.1.1, h.1.2, h.2⟩
theorem aff3 {A : Alpha} {x : Aff} (hk : x.kind = 3) (h : affB A x = true) : (spell A x.form).2 = 0 ∧ (spell A x.other).2 = 0 ∧ x.pos = 0 := by
  unfold affB wdB at h; rw [hk] at h; simp only [Bool.and_eq_true, decide_eq_true_eq] at h; exact ⟨h.1.1, h.1.2, h.2⟩
theorem aff4 {A : Alpha} {x : Aff} (hk : x.kind = 4) (h : affB A x = true) : (spell A x.form).2 = 0 ∧ x.other.size = 0 ∧ 0 ≤ x.pos ∧ x.pos ≤ 64 := by
  unfold affB wdB at h; rw [hk] at h; simp only [Bool.and_eq_true, decide_eq_true_eq] at h; exact ⟨h.1.1, h.1.2, h.2⟩
theorem aff5 {A : Alpha} {x : Aff} (hk : x.kind = 5) (h : affB A x = true) : formB A x.form = true ∧ x.other.size = 0 ∧ x.pos = 0 := by
  unfold affB at h; rw [hk] at h; simp only [Bool.and_eq_true, decide_eq_true_eq] at h; exact ⟨h.1.1, h.1.2, h.2⟩
theorem aff6 {A : Alpha} {x : Aff} (hk : x.kind = 6) (h : affB A x = true) : x.form.size = 0 ∧ x.other.size = 0 ∧ 0 ≤ x.pos ∧ x.pos ≤ 64 := by
  unfold affB at h; rw [hk] at h; simp only [Bool.and_eq_true, decide_eq_true_eq] at h; exact ⟨h.1.1, h.1.2, h.2⟩
theorem aff_kind {A : Alpha} {x : Aff} (h : affB A x = true) : x.kind = 1 ∨ x.kind = 2 ∨ x.kind = 3 ∨ x.kind = 4 ∨ x.kind = 5 ∨ x.kind = 6 := by
  unfold affB at h
  split at h <;> simp_all
theorem rootL_in {A : Alpha} {v : Nat} {l : List Int} (h : InA A l) : InA A (rootL A v l) := fun r hr => h r (List.mem_filter.1 hr).1
theorem rootL_len (A : Alpha) (v : Nat) (l : List Int) : (rootL A v l).length ≤ l.length := List.length_filter_le ..
theorem rootL_keep (A : Alpha) (v : Nat) (l : List Int) : rootL A v l = keepTo l (hasL A v 0) l.length := (keepTo_all l _).symm
theorem fillTo_mem9 {l f : List Int} (h : holeN f ≤ l.length) : ∀ r ∈ fillTo l f f.length, r ∈ l ∨ (r ∈ f ∧ r ≠ 95) := by
  intro r hr
  obtain ⟨i, hi, e⟩ := List.getElem_of_mem hr
  have hi2 : i < f.length := by rw [fillTo_len] at hi; exact hi
  have := fillTo_at l f f.length i hi2
  rw [rn_eq hi, e] at this
  by_cases h95 : rn f i = 95
  · rw [if_pos h95] at this
    have hlt : holeN (f.take i) < l.length := by
      have h1 : holeN (f.take (i + 1)) ≤ holeN (f.take f.length) := holeN_take_mono (by omega)
      rw [List.take_length] at h1
      rw [take_rn hi2] at h1
      unfold holeN at h1 h ⊢
      rw [List.count_append, h95] at h1
      simp at h1
      omega
    left
    rw [this, rn_eq hlt]; exact List.getElem_mem hlt
  · rw [if_neg h95] at this
    right
    rw [this]
    exact ⟨by rw [rn_eq hi2]; exact List.getElem_mem hi2, h95⟩
theorem form_in {A : Alpha} {s : ByteArray} (h : formB A s = true) : ∀ r ∈ formL A s, r ≠ 95 → 0 ≤ findLetter A r := fun r hr h95 => by
  rcases ((form_ok h).2.1 r hr).1 with e | e
  · exact absurd e h95
  · exact e
/-- what an affix makes are letters -/
theorem mkL_in {A : Alpha} {v : Nat} {x : Aff} {l : List Int} (hx : affB A x = true) (hl : InA A l) : InA A (mkL A v x l).1 := by
  rcases aff_kind hx with k | k | k | k | k | k
  · have := (spell_ok (aff1 k hx).1).2.2.1
    unfold mkL; rw [k]; exact InA_app this hl
  · have := (spell_ok (aff2 k hx).1).2.2.1
    unfold mkL; rw [k]; exact InA_app hl this
  · have h1 := (spell_ok (aff3 k hx).1).2.2.1
    have h2 := (spell_ok (aff3 k hx).2.1).2.2.1
    unfold mkL; rw [k]; exact InA_app (InA_app h1 hl) h2
  · have h1 := (spell_ok (aff4 k hx).1).2.2.1
    unfold mkL; rw [k]; exact InA_app (InA_app (InA_take hl _) h1) (InA_drop hl _)
  · have h1 := (aff5 k hx).1
    unfold mkL; rw [k]
    simp only
    split
    · rename_i hh
      intro r hr
      rcases fillTo_mem9 (by omega) r hr with h | ⟨h, h9⟩
      · exact rootL_in hl r h
      · exact form_in h1 r h h9
    · intro r hr; cases hr
  · unfold mkL; rw [k]
    simp only
    split
    · intro r hr; cases hr
    · split
      · exact InA_app hl hl
      · exact InA_app (InA_take hl _) hl
theorem putC_in {A : Alpha} {v : Nat} {x : Aff} {l : List Int} (hx : affB A x = true) (hl : InA A l) : InA A (putC A v x l).1 := by
  unfold putC
  split
  · intro r hr; cases hr
  · split
    · intro r hr; cases hr
    · exact mkL_in hx hl
theorem putC_len (A : Alpha) (v : Nat) (x : Aff) (l : List Int) : (putC A v x l).1.length ≤ 256 := by
  unfold putC
  split
  · exact Nat.zero_le _
  · split
    · exact Nat.zero_le _
    · omega
theorem putC_ok {A : Alpha} {v : Nat} {x : Aff} {l : List Int} (h : (putC A v x l).2 = 0) : (mkL A v x l).2 = 0 ∧ (mkL A v x l).1.length ≤ 256 ∧ putC A v x l = mkL A v x l := by
  unfold putC at h ⊢
  by_cases h1 : (mkL A v x l).2 = 0
  · rw [if_neg (fun c => c h1)] at h ⊢
    by_cases h2 : 256 < (mkL A v x l).1.length
    · rw [if_pos h2] at h; cases h
    · rw [if_neg h2]; exact ⟨h1, by omega, rfl⟩
  · rw [if_pos h1] at h; exact absurd h h1
theorem putC_err {A : Alpha} {v : Nat} {x : Aff} {l : List Int} (h : (putC A v x l).2 ≠ 0) : (putC A v x l).1 = [] := by
  unfold putC at h ⊢
  by_cases h1 : (mkL A v x l).2 = 0
  · rw [if_neg (fun c => c h1)] at h ⊢
    by_cases h2 : 256 < (mkL A v x l).1.length
    · rw [if_pos h2]
    · rw [if_neg h2] at h; exact absurd h1 h
  · rw [if_pos h1]
theorem atHoles_mem (l f : List Int) : ∀ k, ∀ r, r ∈ atHoles l f k ↔ ∃ i, i < k ∧ rn f i = 95 ∧ r = rn l i
  | 0, r => by
    constructor
    · intro h; cases h
    · rintro ⟨i, h, _⟩; omega
  | k + 1, r => by
    have ih := atHoles_mem l f k r
    by_cases h : rn f k = 95
    · rw [atHoles_yes h, List.mem_append, ih, List.mem_singleton]
      constructor
      · rintro (⟨i, a, b⟩ | e)
        · exact ⟨i, by omega, b⟩
        · exact ⟨k, Nat.lt_succ_self _, h, e⟩
      · rintro ⟨i, a, b, c⟩
        by_cases e : i = k
        · subst e; exact .inr c
        · exact .inl ⟨i, by omega, b, c⟩
    · rw [atHoles_no h, ih]
      constructor
      · rintro ⟨i, a, b⟩; exact ⟨i, by omega, b⟩
      · rintro ⟨i, a, b, c⟩
        have : i ≠ k := fun e => h (e ▸ b)
        exact ⟨i, by omega, b, c⟩
theorem filter_all {l : List Int} {q : Int → Bool} : (l.filter q).length = l.length ↔ ∀ r ∈ l, q r = true := by
  rw [← List.countP_eq_length_filter, List.countP_eq_length]
/-- the letters at the holes are no vowels just if all of them stay as a root -/
theorem consB_iff (A : Alpha) (v : Nat) (l f : List Int) : consB A v l f = true ↔ (rootL A v (atHoles l f f.length)).length = (atHoles l f f.length).length := by
  unfold consB rootL
  rw [filter_all, decide_eq_true_iff]
  constructor
  · intro h r hr
    obtain ⟨i, a, b, rfl⟩ := (atHoles_mem l f _ r).1 hr
    rw [h i a b]; rfl
  · intro h i a b
    have := h _ ((atHoles_mem l f _ _).2 ⟨i, a, b, rfl⟩)
    simpa using this
theorem rootL_same {A : Alpha} {v : Nat} {l : List Int} (h : (rootL A v l).length = l.length) : rootL A v l = l := by
  unfold rootL at h ⊢
  exact List.filter_eq_self.2 (filter_all.1 h)
theorem rootL_root (A : Alpha) (v : Nat) (l : List Int) : rootL A v (rootL A v l) = rootL A v l := by
  unfold rootL
  rw [List.filter_filter]
  congr 1
  funext r
  simp
theorem offL_back {A : Alpha} {v : Nat} {x : Aff} {l s : List Int} (h : offL A v x l = some s) : offC A v x l = some s ∧ mkL A v x s = (l, 0) := by
  unfold offL at h
  cases hc : offC A v x l with
  | none => rw [hc] at h; cases h
  | some t =>
    rw [hc] at h
    simp only at h
    split at h
    · rename_i hm
      cases h; exact ⟨rfl, hm⟩
    · cases h
theorem offC_sub {A : Alpha} {v : Nat} {x : Aff} {l s : List Int} (h : offC A v x l = some s) : (∀ r ∈ s, r ∈ l ∨ False) ∧ s.length ≤ l.length := by
  unfold offC at h
  split at h
  · split at h
    · cases h; exact ⟨fun r hr => .inl (List.mem_of_mem_drop hr), by rw [List.length_drop]; omega⟩
    · cases h
  · split at h
    · cases h; exact ⟨fun r hr => .inl (List.mem_of_mem_take hr), by rw [List.length_take]; omega⟩
    · cases h
  · split at h
    · cases h; exact ⟨fun r hr => .inl (List.mem_of_mem_drop (List.mem_of_mem_take hr)), by rw [List.length_take]; omega⟩
    · cases h
  · split at h
    · cases h
      refine ⟨fun r hr => .inl ?_, by rw [List.length_append, List.length_take, List.length_drop]; omega⟩
      rcases List.mem_append.1 hr with hr | hr
      · exact List.mem_of_mem_take hr
      · exact List.mem_of_mem_drop hr
    · cases h
  · split at h
    · rename_i hh
      cases h
      refine ⟨fun r hr => .inl ?_, by have := atHoles_le l (formL A x.form) (formL A x.form).length; omega⟩
      obtain ⟨i, a, b, rfl⟩ := (atHoles_mem _ _ _ r).1 hr
      rw [rn_eq (by omega)]; exact List.getElem_mem _
    · cases h
  · split at h
    · cases h; exact ⟨fun r hr => .inl (List.mem_of_mem_drop hr), by rw [List.length_drop]; omega⟩
    · split at h
      · cases h; exact ⟨fun r hr => .inl (List.mem_of_mem_drop hr), by rw [List.length_drop]; omega⟩
      · cases h
  · cases h
theorem offC_in {A : Alpha} {v : Nat} {x : Aff} {l s : List Int} (h : offC A v x l = some s) (hl : InA A l) : InA A s := fun r hr => hl r (((offC_sub h).1 r hr).elim id False.elim)
theorem offL_in {A : Alpha} {v : Nat} {x : Aff} {l s : List Int} (h : offL A v x l = some s) (hl : InA A l) : InA A s := offC_in (offL_back h).1 hl
theorem offL_len {A : Alpha} {v : Nat} {x : Aff} {l s : List Int} (h : offL A v x l = some s) : s.length ≤ l.length := (offC_sub (offL_back h).1).2

/-! ### what an affix made is taken off again -/
theorem mk_off {A : Alpha} {v : Nat} {x : Aff} {l m : List Int} (hx : affB A x = true) (h : mkL A v x l = (m, 0)) : offL A v x m = some (if x.kind = 5 then rootL A v l else l) := by
  have hc : offC A v x m = some (if x.kind = 5 then rootL A v l else l) ∧ mkL A v x (if x.kind = 5 then rootL A v l else l) = (m, 0) := by
    rcases aff_kind hx with k | k | k | k | k | k
    · rw [if_neg (by omega)]
      refine ⟨?_, h⟩
      unfold mkL at h; rw [k] at h; cases h
      unfold offC; rw [k]
      simp only
      rw [if_pos (by rw [List.length_append]; omega), List.drop_left]
    · rw [if_neg (by omega)]
      refine ⟨?_, h⟩
      unfold mkL at h; rw [k] at h; cases h
      unfold offC; rw [k]
      simp only
      rw [if_pos (by rw [List.length_append]; omega), List.length_append, Nat.add_sub_cancel, List.take_left]
    · rw [if_neg (by omega)]
      refine ⟨?_, h⟩
      unfold mkL at h; rw [k] at h; cases h
      unfold offC; rw [k]
      simp only
      rw [if_pos (by rw [List.length_append, List.length_append]; omega), List.append_assoc, List.drop_left]
      congr 1
      rw [List.length_append, List.length_append, show (spell A x.form).1.length + (l.length + (spell A x.other).1.length) - (spell A x.form).1.length - (spell A x.other).1.length = l.length by omega, List.take_left]
    · rw [if_neg (by omega)]
      refine ⟨?_, h⟩
      unfold mkL at h; rw [k] at h; cases h
      unfold offC; rw [k]
      simp only
      have hlen : (l.take x.pos.toNat ++ (spell A x.form).1 ++ l.drop x.pos.toNat).length = l.length + (spell A x.form).1.length := by
        rw [List.length_append, List.length_append, List.length_take, List.length_drop]; omega
      rw [if_pos (by rw [hlen]; omega), hlen, Nat.add_sub_cancel]
      congr 1
      have h1 : (l.take x.pos.toNat).length = min x.pos.toNat l.length := List.length_take ..
      rw [List.append_assoc, ← h1, List.take_left, ← List.append_assoc, ← List.length_append, List.drop_left, List.take_append_drop]
    · have h1 := (aff5 k hx).1
      rw [if_pos k]
      unfold mkL at h; rw [k] at h
      simp only at h
      split at h
      · rename_i hh
        have hm : fillTo (rootL A v l) (formL A x.form) (formL A x.form).length = m := congrArg Prod.fst h
        have hb := fill_back hh
        rw [hm] at hb
        have hlen : m.length = (formL A x.form).length := by rw [← hm, fillTo_len]
        have hcons : consB A v m (formL A x.form) = true := by
          rw [consB_iff, hb, rootL_root]
        refine ⟨?_, ?_⟩
        · unfold offC; rw [k]
          simp only
          rw [if_pos ⟨hlen, hcons⟩, hb]
        · unfold mkL; rw [k]
          simp only
          rw [rootL_root, if_pos hh, hm]
      · cases h
    · rw [if_neg (by omega)]
      refine ⟨?_, h⟩
      unfold mkL at h; rw [k] at h
      simp only at h
      split at h
      · cases h
      · rename_i hle
        unfold offC; rw [k]
        simp only
        split at h
        · rename_i h0
          cases h
          rw [if_pos h0]
          congr 1
          rw [List.length_append, show (l.length + l.length) / 2 = l.length by omega, List.drop_left]
        · rename_i h0
          cases h
          have h1 : (l.take x.pos.toNat).length = x.pos.toNat := by rw [List.length_take]; omega
          rw [if_neg h0, if_pos (by rw [List.length_append, h1]; omega)]
          congr 1
          rw [List.drop_append_of_le_length (by omega), List.drop_of_length_le (by omega), List.nil_append]
  unfold offL
  rw [hc.1]
  simp only
  rw [if_pos hc.2]
end Go.Proofs.YtkmfhcjdaglikaaDoor
