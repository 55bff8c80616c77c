/- Rows of rows of runes that a call makes by append, each row in a block of its own; keys of two numbers; a map's block kept while another block is written. -/
import Derived.Test.YtcnjgfadihimiaaDoorOwnb
import Derived.Laws.OwnMore
import Derived.WideKeyPair
import Derived.Deep.AppendLies
namespace Go.Cg
open Go.RowKit Go.Maps
def pl (ls : List (List Int)) (i : Nat) : List Int := ls.getD i []
def pv (vs : List Value) (i : Nat) : Value := vs.getD i undef
theorem pl_eq {ls : List (List Int)} {i : Nat} (h : i < ls.length) : pl ls i = ls[i] := by simp [pl, List.getD, h]
theorem pv_eq {vs : List Value} {i : Nat} (h : i < vs.length) : pv vs i = vs[i] := by simp [pv, List.getD, h]
theorem pl_set (ls : List (List Int)) (i : Nat) (x : List Int) (j : Nat) (hi : i < ls.length) : pl (ls.set i x) j = if j = i then x else pl ls j := by
  unfold pl
  rw [List.getD_eq_getElem?_getD, List.getElem?_set]
  by_cases e : j = i
  · subst e; simp [hi]
  · rw [if_neg (fun h => e h.symm), if_neg e, List.getD_eq_getElem?_getD]
theorem pv_set (vs : List Value) (i : Nat) (x : Value) (j : Nat) (hi : i < vs.length) : pv (vs.set i x) j = if j = i then x else pv vs j := by
  unfold pv
  rw [List.getD_eq_getElem?_getD, List.getElem?_set]
  by_cases e : j = i
  · subst e; simp [hi]
  · rw [if_neg (fun h => e h.symm), if_neg e, List.getD_eq_getElem?_getD]
theorem pl_app (ls : List (List Int)) (x : List Int) (j : Nat) : pl (ls ++ [x]) j = if j = ls.length then x else pl ls j := by
  unfold pl
  rw [List.getD_eq_getElem?_getD, List.getD_eq_getElem?_getD]
  by_cases e : j = ls.length
  · subst e; simp
  · rw [if_neg e]
    by_cases h : j < ls.length
    · rw [List.getElem?_append_left h]
    · rw [List.getElem?_eq_none (by simp; omega), List.getElem?_eq_none (by omega)]
theorem pv_app (vs : List Value) (x : Value) (j : Nat) : pv (vs ++ [x]) j = if j = vs.length then x else pv vs j := by
  unfold pv
  rw [List.getD_eq_getElem?_getD, List.getD_eq_getElem?_getD]
  by_cases e : j = vs.length
  · subst e; simp
  · rw [if_neg e]
    by_cases h : j < vs.length
    · rw [List.getElem?_append_left h]
    · rw [List.getElem?_eq_none (by simp; omega), List.getElem?_eq_none (by omega)]
structure PartsAt (w : World) (B : Nat) (To Ti : TypeId) (v : Value) (vs : List Value) (ls : List (List Int)) : Prop where
  len : vs.length = ls.length
  out : w.ownsRow B To 1 v vs.length vs
  row : ∀ i, i < ls.length → w.ownsRow B Ti 1 (pv vs i) (pl ls i).length ((pl ls i).map (Value.int .i32))
  apart : ∀ i, i < ls.length → ∀ g, (pv vs i).ownBlock = some g → v.ownBlock ≠ some g ∧ ∀ j, j < ls.length → j ≠ i → (pv vs j).ownBlock ≠ some g
section
variable {w w' : World} {B : Nat} {To Ti : TypeId} {v : Value} {vs : List Value} {ls : List (List Int)}
theorem PartsAt.nil (w : World) (B : Nat) (To Ti : TypeId) : PartsAt w B To Ti (.slice none 0 0) [] [] :=
  ⟨rfl, World.ownsRow_nil w B To 1, fun i hi => absurd hi (by simp), fun i hi => absurd hi (by simp)⟩
theorem PartsAt.ext (h : PartsAt w B To Ti v vs ls) (hx : Ext w w') : PartsAt w' B To Ti v vs ls :=
  ⟨h.len, ownsRow_ext h.out hx, fun i hi => ownsRow_ext (h.row i hi) hx, h.apart⟩
theorem PartsAt.base {B' : Nat} (h : PartsAt w B To Ti v vs ls) (hB : B' ≤ B) : PartsAt w B' To Ti v vs ls :=
  ⟨h.len, ownsRow_base h.out hB, fun i hi => ownsRow_base (h.row i hi) hB, h.apart⟩
/-- kept while a block below is written -/
theorem PartsAt.kept {row : Option Nat} (h : PartsAt w B To Ti v vs ls) (hg : w.grownBy w' row) (hr : ∀ k, row = some k → k < B) : PartsAt w' B To Ti v vs ls := by
  have hne : ∀ {e size x n xs}, w.ownsRow B e size x n xs → x.ownBlock = none ∨ x.ownBlock ≠ row := fun {e size x n xs} ho => by
    cases hx : x.ownBlock with
    | none => exact .inl rfl
    | some g =>
      refine .inr fun e => ?_
      have h1 := hr g e.symm
      have h2 := (ho.lt g hx).1
      omega
  exact ⟨h.len, h.out.kept hg (hne h.out), fun i hi => (h.row i hi).kept hg (hne (h.row i hi)), h.apart⟩
theorem PartsAt.blk (h : PartsAt w B To Ti v vs ls) {i : Nat} (hi : i < ls.length) : ∀ g, (pv vs i).ownBlock = some g → B ≤ g ∧ g < w.heap.size := (h.row i hi).lt
/-- a part as a slice -/
theorem PartsAt.part (h : PartsAt w B To Ti v vs ls) {i : Nat} (hi : i < ls.length) : ∃ p c, pv vs i = .slice p (pl ls i).length c := ownsRow_slice (h.row i hi)
/-- the outer row's cell -/
theorem PartsAt.cell (h : PartsAt w B To Ti v vs ls) {i : Nat} (hi : i < ls.length) : ∃ g c, v = .slice (some ⟨g, 0, none⟩) ls.length c ∧ B ≤ g ∧ g < w.heap.size ∧ w.cell? ⟨g, i, none⟩ = some (pv vs i) ∧ w.frozen? ⟨g, i, none⟩ = false := by
  have hl := h.len
  have ho := h.out
  rcases ho.2 with ⟨rfl, h0⟩ | ⟨g, cap, cur, rfl, hb, hg, _⟩
  · omega
  · refine ⟨g, cap, by rw [hl], hb, (Array.getElem?_eq_some_iff.1 hg).1, ?_, ho.frozenAt i⟩
    rw [ho.cellAt i (by omega), pv_eq (by omega), List.getElem?_eq_getElem (by omega)]
theorem apart_ne {x y : Value} (h : ∀ g, x.ownBlock = some g → y.ownBlock ≠ some g) : x.ownBlock = none ∨ x.ownBlock ≠ y.ownBlock := by
  cases hx : x.ownBlock with
  | none => exact .inl rfl
  | some g => exact .inr fun e => h g hx e.symm
/-- behind 'out = append(out, nil)' -/
theorem PartsAt.addNil (h : PartsAt w B To Ti v vs ls) {g cap : Nat} (_hB : B ≤ w.heap.size) (ho : w'.ownsRow B To 1 (.slice (some ⟨g, 0, none⟩) (vs.length + 1) cap) (vs.length + 1) (vs ++ [.slice none 0 0])) (hg : w.grownBy w' v.ownBlock) (hn : v.ownBlock = some g ∨ g = w.heap.size) :
    PartsAt w' B To Ti (.slice (some ⟨g, 0, none⟩) (vs.length + 1) cap) (vs ++ [.slice none 0 0]) (ls ++ [[]]) := by
  have hl := h.len
  refine ⟨by simp [hl], by rw [List.length_append, List.length_singleton]; exact ho, fun i hi => ?_, fun i hi k hk => ?_⟩
  · rw [pl_app, pv_app]
    by_cases e : i = ls.length
    · rw [if_pos e, if_pos (by omega)]
      exact World.ownsRow_nil w' B Ti 1
    · rw [if_neg e, if_neg (by omega)]
      have hi' : i < ls.length := by simp at hi; omega
      exact (h.row i hi').kept hg (apart_ne fun k hk => (h.apart i hi' k hk).1)
  · by_cases e : i = ls.length
    · rw [pv_app, if_pos (by omega)] at hk; cases hk
    · rw [pv_app, if_neg (by omega)] at hk
      have hi' : i < ls.length := by simp at hi; omega
      obtain ⟨a1, a2⟩ := h.apart i hi' k hk
      have hlt := h.blk hi' k hk
      refine ⟨fun e2 => ?_, fun j hj hne => ?_⟩
      · simp only [Value.ownBlock, Option.some.injEq] at e2
        subst e2
        rcases hn with hn | hn
        · exact a1 hn
        · omega
      · rw [pv_app]
        by_cases e3 : j = vs.length
        · rw [if_pos e3]; intro h9; cases h9
        · rw [if_neg e3]
          exact a2 j (by simp at hj; omega) hne
/-- behind 'out[i] = append(out[i], x)' -/
theorem PartsAt.push {go c : Nat} (h : PartsAt w B To Ti (.slice (some ⟨go, 0, none⟩) vs.length c) vs ls) {i : Nat} (hi : i < ls.length) {g cap : Nat} {x : Int}
    (ho : w'.ownsRow B Ti 1 (.slice (some ⟨g, 0, none⟩) ((pl ls i).length + 1) cap) ((pl ls i).length + 1) ((pl ls i).map (Value.int .i32) ++ [.int .i32 x])) (hg : w.grownBy w' (pv vs i).ownBlock) (hn : (pv vs i).ownBlock = some g ∨ g = w.heap.size) :
    PartsAt (w'.setCell ⟨go, i, none⟩ (.slice (some ⟨g, 0, none⟩) ((pl ls i).length + 1) cap)) B To Ti (.slice (some ⟨go, 0, none⟩) vs.length c) (vs.set i (.slice (some ⟨g, 0, none⟩) ((pl ls i).length + 1) cap)) (ls.set i (pl ls i ++ [x])) := by
  have hl := h.len
  have hout : w'.ownsRow B To 1 (.slice (some ⟨go, 0, none⟩) vs.length c) vs.length vs := h.out.kept hg (.inr fun e => (h.apart i hi go e.symm).1 rfl)
  have hgo := (h.out.lt go rfl)
  obtain ⟨hs1, hs2⟩ := hout.stored i (.slice (some ⟨g, 0, none⟩) ((pl ls i).length + 1) cap)
  have hgg : some go ≠ some g := by
    rcases hn with e | e
    · intro e2; exact (h.apart i hi g e).1 e2
    · intro e2; simp only [Option.some.injEq] at e2; omega
  refine ⟨by simp [hl], by rw [List.length_set]; exact hs1, fun j hj => ?_, fun j hj k hk => ?_⟩
  · rw [pl_set _ _ _ _ hi, pv_set _ _ _ _ (by omega)]
    by_cases e : j = i
    · rw [if_pos e, if_pos e]
      have : (pl ls i ++ [x]).length = (pl ls i).length + 1 := by simp
      rw [this, List.map_append]
      exact ho.kept hs2 (.inr fun e2 => hgg e2.symm)
    · rw [if_neg e, if_neg e]
      have hj' : j < ls.length := by simpa using hj
      exact ((h.row j hj').kept hg (apart_ne fun k hk => (h.apart j hj' k hk).2 i hi (fun e2 => e e2.symm))).kept hs2 (by
        cases hx : (pv vs j).ownBlock with
        | none => exact .inl rfl
        | some k => exact .inr fun e2 => (h.apart j hj' k hx).1 e2.symm)
  · have hj' : j < ls.length := by simpa using hj
    rw [pv_set _ _ _ _ (by omega)] at hk
    by_cases e : j = i
    · rw [if_pos e] at hk
      simp only [Value.ownBlock, Option.some.injEq] at hk
      subst hk
      refine ⟨hgg, fun t ht hne => ?_⟩
      rw [pv_set _ _ _ _ (by omega), if_neg (fun e2 => hne (e2.trans e.symm))]
      have ht' : t < ls.length := by simpa using ht
      rcases hn with e2 | e2
      · exact (h.apart i hi _ e2).2 t ht' (fun e3 => hne (e3.trans e.symm))
      · intro e3
        have := h.blk ht' _ e3
        omega
    · rw [if_neg e] at hk
      obtain ⟨a1, a2⟩ := h.apart j hj' k hk
      refine ⟨a1, fun t ht hne => ?_⟩
      rw [pv_set _ _ _ _ (by omega)]
      by_cases e2 : t = i
      · rw [if_pos e2]
        intro e3
        simp only [Value.ownBlock, Option.some.injEq] at e3
        subst e3
        rcases hn with e4 | e4
        · exact a2 i hi (fun e5 => e e5.symm) e4
        · have := h.blk hj' _ hk
          omega
      · rw [if_neg e2]
        exact a2 t (by simpa using ht) hne
end
theorem MapFn.kept {P : Program} {w w' : World} {K E : TypeId} {b n : Nat} {f : Lit → Option Lit} {row : Option Nat} (h : MapFn P w K E b n f) (hg : w.grownBy w' row) (hne : some b ≠ row) : MapFn P w' K E b n f := by
  obtain ⟨D, hD, hf⟩ := h
  refine ⟨D, ?_, hf⟩
  obtain ⟨es, clock, hb, r⟩ := hD
  exact ⟨es, clock, (hg.block b (Array.getElem?_eq_some_iff.1 hb).1 hne).trans hb, r⟩
/-- a key of two numbers -/
def klit (a b : Nat) : Lit := .string (keyBytes [.int .u32 (a : Int), .int .u32 (b : Int)])
theorem wf_u32 {a : Nat} (h : a < 4294967296) : (Lit.int .u32 (a : Int)).wf = true := by
  simp only [Lit.wf, IntKind.min, IntKind.max, IntKind.signed, IntKind.bits, Bool.and_eq_true, decide_eq_true_eq, Bool.false_eq_true, if_false]; omega
theorem klit_inj {a b c d : Nat} (ha : a < 4294967296) (hb : b < 4294967296) (hc : c < 4294967296) (hd : d < 4294967296) (h : klit a b = klit c d) : a = c ∧ b = d := by
  have e : keyBytes [.int .u32 (a : Int), .int .u32 (b : Int)] = keyBytes [.int .u32 (c : Int), .int .u32 (d : Int)] := by simpa [klit] using h
  have := keyBytes_inj (l := [.int .u32 (a : Int), .int .u32 (b : Int)]) (l' := [.int .u32 (c : Int), .int .u32 (d : Int)]) ⟨rfl, rfl, trivial⟩
    (by intro x hx; simp at hx; rcases hx with rfl | rfl; exact wf_u32 ha; exact wf_u32 hb) (by intro x hx; simp at hx; rcases hx with rfl | rfl; exact wf_u32 hc; exact wf_u32 hd) e
  simp only [List.cons.injEq, Lit.int.injEq, true_and, and_true] at this
  omega
theorem put_klit {f : Lit → Option Lit} {a b c d : Nat} {v : Lit} (ha : a < 4294967296) (hb : b < 4294967296) (hc : c < 4294967296) (hd : d < 4294967296) : putFn f (klit c d) v (klit a b) = if (a, b) = (c, d) then some v else f (klit a b) := by
  unfold putFn
  by_cases e : (a, b) = (c, d)
  · simp only [Prod.mk.injEq] at e
    obtain ⟨rfl, rfl⟩ := e
    rw [if_pos rfl, if_pos (by simp [klit, Lit.sameKey])]
  · rw [if_neg e, if_neg]
    intro h
    refine e ?_
    have : klit a b = klit c d := by
      simp only [klit, Lit.sameKey, beq_iff_eq] at h
      simp only [klit, h]
    obtain ⟨h1, h2⟩ := klit_inj ha hb hc hd this
    rw [h1, h2]
end Go.Cg
