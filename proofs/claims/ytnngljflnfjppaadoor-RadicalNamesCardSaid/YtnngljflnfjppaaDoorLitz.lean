/- Alphabets written out in memory: rows of texts and of letters, read off the blocks that hold them. -/
import Derived.Test.YtnngljflnfjppaaDoorOwnb
namespace Go.Cg
open Go.RowKit

theorem reads_heap {W : World} {b off k : Nat} {cs : Array Value} {T : TypeId} {fr : Nat × Nat} {f : Nat → Value} (hb : W.heap[b]? = some (.cells cs T fr)) (h : ∀ j, j < k → cs[off + j]? = some (f j)) : Reads W (some ⟨b, off, none⟩) k f :=
  .inr ⟨b, off, rfl, (Array.getElem?_eq_some_iff.1 hb).1, fun j hj => by
    have e : W.cell? ⟨b, off + j, none⟩ = cs[off + j]? := by simp [World.cell?, hb]
    rw [e]; exact h j hj⟩
/-- the cells of a row of letters -/
def letRow (L : List Letter) : List Value := L.flatMap fun l => [.int .i32 l.rune, .int .u32 (l.plus : Int), .int .u32 (l.minus : Int)]
theorem letRow_at : ∀ (L : List Letter) (j : Nat), j < L.length * 3 → (letRow L)[j]? = some (Alpha.letCell ⟨[], L⟩ j)
  | [], j, h => by simp at h
  | x :: L, j, h => by
    have e : letRow (x :: L) = .int .i32 x.rune :: .int .u32 (x.plus : Int) :: .int .u32 (x.minus : Int) :: letRow L := rfl
    rw [e]
    match j, h with
    | 0, _ => rfl
    | 1, _ => rfl
    | 2, _ => rfl
    | j + 3, h =>
      have h2 : j < L.length * 3 := by simp only [List.length_cons] at h; omega
      have ih := letRow_at L j h2
      simp only [List.getElem?_cons_succ]
      rw [ih]
      have hat : Alpha.at_ ⟨[], x :: L⟩ ((j + 3) / 3) = Alpha.at_ ⟨[], L⟩ (j / 3) := by
        rw [show (j + 3) / 3 = j / 3 + 1 by omega]; rfl
      unfold Alpha.letCell
      rw [hat, show (j + 3) % 3 = j % 3 by omega]
theorem letCell_feats (F : List ByteArray) (L : List Letter) (j : Nat) : Alpha.letCell ⟨F, L⟩ j = Alpha.letCell ⟨[], L⟩ j := rfl
def Letter.wfB (l : Letter) : Bool := decide (-2147483648 ≤ l.rune ∧ l.rune ≤ 2147483647 ∧ l.plus < 4294967296 ∧ l.minus < 4294967296)
/-- an alphabet of letters written out, without features -/
theorem alpha_lets {W : World} {b : Nat} {T : TypeId} {L : List Letter} (hl : W.heap[b]? = some (.cells (letRow L).toArray T (0, 0))) (hw : L.all Letter.wfB = true) (hn : L.length ≤ 1000) : AlphaAt W none (some ⟨b, 0, none⟩) ⟨[], L⟩ := by
  refine ⟨.inl rfl, reads_heap hl (fun j hj => by rw [Nat.zero_add, List.getElem?_toArray]; exact letRow_at L j hj), by simp, by show L.length ≤ _; omega, fun i hi => ?_, fun i hi => absurd hi (by simp)⟩
  have hi' : i < L.length := hi
  have := List.all_eq_true.1 hw _ (List.getElem_mem hi')
  unfold Letter.wfB at this
  have e : Alpha.at_ ⟨[], L⟩ i = L[i] := by simp [Alpha.at_, List.getD, hi']
  rw [e]
  unfold Letter.wf
  exact of_decide_eq_true this
/-- .. with features -/
theorem alpha_lit {W : World} {bF oF b oL : Nat} {TF T : TypeId} {F : List ByteArray} {L : List Letter} {csF csL : Array Value} (hf : W.heap[bF]? = some (.cells csF TF (0, 0))) (hl : W.heap[b]? = some (.cells csL T (0, 0)))
    (hF : ∀ j, j < F.length → csF[oF + j]? = some (.string (F.getD j ByteArray.empty))) (hL : ∀ j, j < L.length * 3 → csL[oL + j]? = (letRow L)[j]?) (hw : L.all Letter.wfB = true) (hn : L.length ≤ 1000) (hm : F.length ≤ 1000) (hs : F.all (fun s => decide (s.size ≤ 140737488351232)) = true) :
    AlphaAt W (some ⟨bF, oF, none⟩) (some ⟨b, oL, none⟩) ⟨F, L⟩ := by
  refine ⟨reads_heap hf (fun j hj => hF j hj), reads_heap hl (fun j hj => by rw [hL j hj, letRow_at L j hj]; rfl), by show F.length ≤ _; omega, by show L.length ≤ _; omega, fun i hi => ?_, fun i hi => ?_⟩
  · have hi' : i < L.length := hi
    have := List.all_eq_true.1 hw _ (List.getElem_mem hi')
    unfold Letter.wfB at this
    have e : Alpha.at_ ⟨F, L⟩ i = L[i] := by simp [Alpha.at_, List.getD, hi']
    rw [e]
    unfold Letter.wf
    exact of_decide_eq_true this
  · have hi' : i < F.length := hi
    have := List.all_eq_true.1 hs _ (List.getElem_mem hi')
    have e : Alpha.ft ⟨F, L⟩ i = F[i] := by simp [Alpha.ft, List.getD, hi']
    rw [e]
    exact of_decide_eq_true this
end Go.Cg
