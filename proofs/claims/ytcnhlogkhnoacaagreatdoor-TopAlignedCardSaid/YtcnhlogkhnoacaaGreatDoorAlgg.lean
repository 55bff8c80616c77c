/- Contracts: word.Check, align.Nearest. -/
import Derived.Test.YtcnhlogkhnoacaaGreatDoorAlgf
import Derived.Test.YtcnhlogkhnoacaaGreatDoorAlgq
import Derived.Laws.IdiomStrings
namespace Go.Cg
open Go.RowKit Go.Lib
/-- the first error of words -/
def errL (A : Alpha) : List ByteArray → Int
  | [] => 0
  | s :: L => if ltrE A s ≠ 0 then ltrE A s else errL A L
theorem errL_at {A : Alpha} : ∀ {L : List ByteArray} {k : Nat}, k < L.length → (∀ j, j < k → ltrE A (txt L j) = 0) → ltrE A (txt L k) ≠ 0 → errL A L = ltrE A (txt L k)
  | [], k, h, _, _ => by simp at h
  | s :: L, 0, _, _, h => by unfold errL; exact if_pos h
  | s :: L, k + 1, hk, h0, h => by
    have h1 : ltrE A s = 0 := h0 0 (by omega)
    have ih := errL_at (A := A) (L := L) (k := k) (by simpa using hk) (fun j hj => h0 (j + 1) (by omega)) h
    unfold errL
    rw [if_neg (by omega), ih]; rfl
theorem errL_none {A : Alpha} : ∀ {L : List ByteArray}, (∀ j, j < L.length → ltrE A (txt L j) = 0) → errL A L = 0
  | [], _ => rfl
  | s :: L, h0 => by
    have h1 : ltrE A s = 0 := h0 0 (by simp)
    have ih := errL_none (A := A) (L := L) (fun j hj => h0 (j + 1) (by simpa using hj))
    unfold errL
    rw [if_neg (by omega), ih]
theorem errL_all {A : Alpha} : ∀ {L : List ByteArray}, errL A L = 0 → ∀ j, j < L.length → ltrE A (txt L j) = 0
  | [], _, j, h => by simp at h
  | s :: L, h0, j, hj => by
    unfold errL at h0
    by_cases h1 : ltrE A s = 0
    · rw [if_neg (by omega)] at h0
      match j, hj with
      | 0, _ => exact h1
      | j + 1, hj => exact errL_all h0 j (by simpa using hj)
    · rw [if_pos h1] at h0; exact absurd h0 h1
/-- the first least one of the first k, and what it costs -/
def bN (f : Nat → Nat) (k : Nat) : Nat := if k = 0 then 0 else bestIdx f (k - 1)
def bC (f : Nat → Nat) (k : Nat) : Nat := if k = 0 then 0 else f (bestIdx f (k - 1))
theorem bN_succ (f : Nat → Nat) (k : Nat) : bN f (k + 1) = if k = 0 ∨ f k < bC f k then k else bN f k := by
  match k with
  | 0 => rfl
  | k + 1 =>
    show (if f (k + 1) < f (bestIdx f k) then k + 1 else bestIdx f k) = _
    have e : bC f (k + 1) = f (bestIdx f k) := rfl
    have e2 : bN f (k + 1) = bestIdx f k := rfl
    rw [e, e2]
    by_cases h : f (k + 1) < f (bestIdx f k)
    · rw [if_pos h, if_pos (.inr h)]
    · rw [if_neg h, if_neg (fun q => q.elim (by omega) h)]
theorem bC_succ (f : Nat → Nat) (k : Nat) : bC f (k + 1) = if k = 0 ∨ f k < bC f k then f k else bC f k := by
  have h := bN_succ f k
  have e : bC f (k + 1) = f (bN f (k + 1)) := rfl
  rw [e, h]
  by_cases c : k = 0 ∨ f k < bC f k
  · rw [if_pos c, if_pos c]
  · rw [if_neg c, if_neg c]
    have h0 : k ≠ 0 := fun q => c (.inl q)
    unfold bN bC; rw [if_neg h0, if_neg h0]
def lnE (A : Alpha) (s : ByteArray) (L : List ByteArray) : Int := if ltrE A s ≠ 0 then ltrE A s else if 4096 < L.length then 4 else if errL A L ≠ 0 then errL A L else if L.length = 0 then 8 else 0
def lnF (A : Alpha) (s : ByteArray) (L : List ByteArray) (i : Nat) : Nat := twoC A s (txt L i)
def lnN (A : Alpha) (s : ByteArray) (L : List ByteArray) : Nat := if lnE A s L = 0 then bN (lnF A s L) L.length else 0
def lnC (A : Alpha) (s : ByteArray) (L : List ByteArray) : Nat := if lnE A s L = 0 then bC (lnF A s L) L.length else 0
theorem spellFrom_conv (A : Alpha) (s : ByteArray) : ∀ (f pos : Nat) (acc : List Int), s.size ≤ pos + f → acc.length ≤ 64 → (spellFrom A s f pos acc).2 = 0 → ∃ l, (spellFrom A s f pos acc).1 = acc ++ l ∧ ∀ v, Conv.runesFrom s f pos v = v ++ (l.map (Value.int .i32)).toArray
  | 0, pos, acc, _, _, _ => ⟨[], by simp [spellFrom], fun v => by simp [Conv.runesFrom]⟩
  | f + 1, pos, acc, hf, hl, h0 => by
    by_cases hlt : pos < s.size
    · cases hb : badAt s pos
      · by_cases hn : findLetter A (runeAt s pos) < 0
        · rw [spellFrom_none A s f pos acc hlt hb hn] at h0; cases h0
        · by_cases h64 : acc.length = 64
          · rw [spellFrom_many A s f pos acc hlt hb hn h64] at h0; cases h0
          · have hw := width_pos s pos hlt
            rw [spellFrom_step A s f pos acc hlt hb hn h64] at h0 ⊢
            obtain ⟨l, h1, h2⟩ := spellFrom_conv A s f _ _ (by omega) (by simp; omega) h0
            refine ⟨runeAt s pos :: l, by rw [h1]; simp, fun v => ?_⟩
            rw [Conv.runesFrom, if_pos hlt]
            have e : Conv.runesFrom s f (pos + (Utf8.decode s pos).2) (v.push (.int .i32 (Int.ofNat (Utf8.decode s pos).1))) = _ := h2 _
            show Conv.runesFrom s f (pos + (Utf8.decode s pos).2) (v.push (.int .i32 (Int.ofNat (Utf8.decode s pos).1))) = _
            rw [e]
            show v.push (.int .i32 (runeAt s pos)) ++ _ = _
            simp
      · rw [spellFrom_bad A s f pos acc hlt hb] at h0; cases h0
    · rw [spellFrom_end A s _ pos acc hlt]
      refine ⟨[], by simp, fun v => ?_⟩
      rw [Conv.runesFrom, if_neg hlt]; simp
theorem ltr_conv {A : Alpha} {s : ByteArray} (h : ltrE A s = 0) : Conv.runesFrom s s.size 0 #[] = ((ltr A s).map (Value.int .i32)).toArray := by
  have hA := (ltr_ok h).1
  unfold ltrE at h
  unfold ltr
  unfold spell at h ⊢
  rw [if_pos hA] at h ⊢
  obtain ⟨l, h1, h2⟩ := spellFrom_conv A s s.size 0 [] (by omega) (by simp) h
  rw [List.nil_append] at h1
  rw [h1, h2]; simp
end Go.Cg
namespace Go.Proofs.YtcnhlogkhnoacaaGreatDoor
open Go.RowKit Go.Cg Go.Shelf Go.Maps

theorem runeOk_range {r : Int} (h : runeOk r = true) : 0 ≤ r ∧ r ≤ 1114111 := by
  unfold runeOk at h
  have := of_decide_eq_true h
  omega
theorem ltr_wf {A : Alpha} {s : ByteArray} (h : ltrE A s = 0) : ∀ r ∈ ltr A s, -2147483648 ≤ r ∧ r ≤ 2147483647 := fun r hr => by
  obtain ⟨hA, _, hi, _⟩ := ltr_ok h
  have := runeOk_range (letter_rune hA (hi r hr))
  omega
/-- '[]rune(word)' -/
theorem word_row {A : Alpha} {s : ByteArray} (h : ltrE A s = 0) (W : World) : ∃ c W', (convert 9 36 (.string s)).run Tryz.prog W = .ok (.slice (some ⟨W.heap.size, 0, none⟩) (ltr A s).length c) W' ∧ OwnRunes 21 W.heap.size W' (some ⟨W.heap.size, 0, none⟩) c (ltr A s) ∧ Ext W W' := by
  have h4 := ltr_conv h
  have h3 := (ltr_ok h).2.2.2
  have hz : (Conv.runesFrom s s.size 0 #[]).size = (ltr A s).length := by rw [h4]; simp
  have hrun := run_runes_of_string (P := Tryz.prog) W 9 36 21 s Tryz.underlying9 Tryz.underlying36 Tryz.underlying21 (by rw [hz]; omega)
  rw [hz] at hrun
  have hge := grownCap_ge W (ltr A s).length 0 21
  have hle := grownCap_le_maxLen W (ltr A s).length 0 21 (by unfold maxLen; omega)
  refine ⟨_, _, hrun, ⟨⟨by simp, .inr ⟨W.heap.size, _, _, rfl, Nat.le_refl _, heap_alloc_new W.drew _, hge, hle, ?_, ?_⟩⟩, by omega, ?_⟩, ((Ext.refl W).drew).alloc _⟩
  · rw [h4]; simp; omega
  · rw [h4]; simp
  · exact mem_rn (q := fun r => -2147483648 ≤ r ∧ r ≤ 2147483647) (ltr_wf h)

end Go.Proofs.YtcnhlogkhnoacaaGreatDoor
