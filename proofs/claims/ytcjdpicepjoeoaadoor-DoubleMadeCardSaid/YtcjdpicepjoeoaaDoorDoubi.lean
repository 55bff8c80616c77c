/- Doublings undone, as plain laws: what was doubled is single again; what is single, doubled, is the word. -/
import Derived.Test.YtcjdpicepjoeoaaDoorDoubg
namespace Go.Proofs.YtcjdpicepjoeoaaDoor
open Go.RowKit Go.Cg

theorem sq_twice (a : List Int) : sq (a ++ a) = true := by
  rw [sq_iff]
  have e : (a ++ a).length / 2 = a.length := by rw [List.length_append]; omega
  refine ⟨by rw [List.length_append]; omega, ?_⟩
  rw [e, List.take_left, List.drop_left]
theorem sq_halves {l : List Int} (h : sq l = true) : l = l.take (l.length / 2) ++ l.take (l.length / 2) := by
  obtain ⟨_, h2⟩ := sq_iff.1 h
  conv => lhs; rw [← List.take_append_drop (l.length / 2) l, ← h2]
theorem InA_app {A : Alpha} {a b : List Int} (ha : InA A a) (hb : InA A b) : InA A (a ++ b) := fun r hr => (List.mem_append.1 hr).elim (ha r) (hb r)
theorem InA_take {A : Alpha} {a : List Int} (ha : InA A a) (n : Nat) : InA A (a.take n) := fun r hr => ha r (List.mem_of_mem_take hr)
theorem InA_drop {A : Alpha} {a : List Int} (ha : InA A a) (n : Nat) : InA A (a.drop n) := fun r hr => ha r (List.mem_of_mem_drop hr)

/-- single, of letters' text -/
theorem single_of {A : Alpha} (hA : A.Ok) {l : List Int} (hl : InA A l) (h64 : l.length ≤ 64) {m : Nat} (hm : m ≤ 64) :
    singleE A (runesBytes l) m = 0 ∧ singleB A (runesBytes l) m = isDbl l m ∧ (isDbl l m = true → singleS A (runesBytes l) m = runesBytes (l.drop (cutN l m))) := by
  have hs := spell_rb hA hl h64
  have e1 : singleE A (runesBytes l) m = 0 := by rw [singleE_eq, hs, if_neg (by simp), if_neg (by omega)]
  have e2 : singleB A (runesBytes l) m = isDbl l m := by rw [singleB_eq, e1, decide_eq_true rfl, Bool.true_and, hs, Int.toNat_natCast]
  exact ⟨e1, e2, fun h => by rw [singleS_eq, e2, if_pos h, hs, Int.toNat_natCast]⟩
theorem back1 {A : Alpha} (hA : A.Ok) {l : List Int} (hl : InA A l) {m : Nat} (h64 : l.length + m ≤ 64) (h0 : 0 < m) (hm : m ≤ l.length) :
    singleE A (runesBytes (l.take m ++ l)) m = 0 ∧ singleB A (runesBytes (l.take m ++ l)) m = true ∧ singleS A (runesBytes (l.take m ++ l)) m = runesBytes l := by
  have hlen : (l.take m ++ l).length = m + l.length := by rw [List.length_append, List.length_take]; omega
  obtain ⟨e1, e2, e3⟩ := single_of hA (InA_app (InA_take hl m) hl) (m := m) (by omega) (by omega)
  have hcut : cutN (l.take m ++ l) m = m := if_neg (by omega)
  have htl : (l.take m).length = m := by rw [List.length_take]; omega
  have hd : isDbl (l.take m ++ l) m = true := by
    unfold isDbl
    rw [hcut, hlen, decide_eq_true ⟨by omega, by omega, fun h => by omega⟩, Bool.true_and]
    have : (l.take m ++ l).take (2 * m) = l.take m ++ l.take m := by
      rw [List.take_append, htl, List.take_of_length_le (by omega), show 2 * m - m = m by omega]
    rw [this]; exact sq_twice _
  refine ⟨e1, e2.trans hd, ?_⟩
  rw [e3 hd, hcut]
  congr 1
  rw [List.drop_append, htl, List.drop_of_length_le (by omega), Nat.sub_self]; rfl
theorem back2 {A : Alpha} (hA : A.Ok) {l : List Int} (hl : InA A l) (h0 : 0 < l.length) (h64 : 2 * l.length ≤ 64) :
    singleE A (runesBytes (l ++ l)) 0 = 0 ∧ singleB A (runesBytes (l ++ l)) 0 = true ∧ singleS A (runesBytes (l ++ l)) 0 = runesBytes l := by
  have hlen : (l ++ l).length = 2 * l.length := by rw [List.length_append]; omega
  obtain ⟨e1, e2, e3⟩ := single_of hA (InA_app hl hl) (m := 0) (by omega) (by omega)
  have hcut : cutN (l ++ l) 0 = l.length := by unfold cutN; rw [if_pos rfl, hlen]; omega
  have hd : isDbl (l ++ l) 0 = true := by
    unfold isDbl
    rw [hcut, hlen, decide_eq_true ⟨by omega, by omega, fun h => by omega⟩, Bool.true_and, ← hlen, List.take_length]
    exact sq_twice _
  refine ⟨e1, e2.trans hd, ?_⟩
  have := e3 hd
  rw [hcut, List.drop_left] at this
  exact this
theorem runsTo_first {l : List Int} {x : Nat × Nat} (h : runsTo l 1 = [x]) : ∀ k, 1 ≤ k → ∃ r, runsTo l k = x :: r
  | 0, hk => by omega
  | 1, _ => ⟨[], h⟩
  | k + 2, _ => by
    obtain ⟨r, hr⟩ := runsTo_first h (k + 1) (by omega)
    rw [runsTo, hr]
    split
    · exact ⟨r, rfl⟩
    · exact ⟨r ++ [(k + 1, lastSq l (k + 1) l.length)], rfl⟩
theorem runs_twice (l : List Int) (h0 : 0 < l.length) : ∃ r, runsL (l ++ l) = (0, 2 * l.length) :: r := by
  have hlen : (l ++ l).length = 2 * l.length := by rw [List.length_append]; omega
  have hsq : sq (cutL (l ++ l) 0 (l ++ l).length) = true := by rw [cutL_drop]; exact sq_twice l
  have hl := lastSq_yes (l := l ++ l) (i := 0) (k := (l ++ l).length) (by omega) hsq
  have h1 : runsTo (l ++ l) 1 = [(0, 2 * l.length)] := by
    rw [runsTo_some (by rw [hl]; omega), hl, hlen]; rfl
  exact runsTo_first h1 _ (by omega)
theorem back3 {A : Alpha} {s : ByteArray} (he : (spell A s).2 = 0) (hb : singleB A s 0 = true) :
    (spell A (singleS A s 0)).2 = 0 ∧ wholeS A (singleS A s 0) = s := by
  obtain ⟨hA, hs, hin, h64⟩ := spell_ok he
  have hS := singleS_eq A s 0
  rw [if_pos hb] at hS
  obtain ⟨l, hl⟩ : ∃ l, (spell A s).1 = l := ⟨_, rfl⟩
  have hb2 : isDbl l 0 = true := by
    rw [singleB_eq, Bool.and_eq_true, hl] at hb
    exact hb.2
  rw [hl] at hS hs hin h64
  clear hb
  have hcut : cutN l 0 = l.length / 2 := if_pos rfl
  unfold isDbl at hb2
  rw [hcut, Bool.and_eq_true, decide_eq_true_iff] at hb2
  obtain ⟨⟨c1, c2, c3⟩, c4⟩ := hb2
  have hev : l.length % 2 = 0 := by omega
  rw [List.take_of_length_le (by omega)] at c4
  obtain ⟨_, hh⟩ := sq_iff.1 c4
  have hS2 : singleS A s 0 = runesBytes (l.drop (l.length / 2)) := by
    rw [hS]; rfl
  have hsp := spell_rb hA (InA_drop hin (l.length / 2)) (by rw [List.length_drop]; omega)
  refine ⟨by rw [hS2, hsp], ?_⟩
  rw [hS2, wholeS_eq, hsp, if_pos rfl]
  show runesBytes (l.drop (l.length / 2) ++ l.drop (l.length / 2)) = s
  conv => lhs; rw [← hh, ← sq_halves c4]
  exact hs
theorem back4 {A : Alpha} {s : ByteArray} {m : Nat} (h0 : 0 < m) (hm : m ≤ 64) (he : (spell A s).2 = 0) (hb : singleB A s m = true) :
    frontE A (singleS A s m) m = 0 ∧ frontS A (singleS A s m) m = s := by
  obtain ⟨hA, hs, hin, h64⟩ := spell_ok he
  have hS := singleS_eq A s m
  rw [if_pos hb] at hS
  obtain ⟨l, hl⟩ : ∃ l, (spell A s).1 = l := ⟨_, rfl⟩
  have hb2 : isDbl l m = true := by
    rw [singleB_eq, Bool.and_eq_true, hl, Int.toNat_natCast] at hb
    exact hb.2
  rw [hl, Int.toNat_natCast] at hS
  rw [hl] at hs hin h64
  clear hb
  have hcut : cutN l m = m := if_neg (by omega)
  unfold isDbl at hb2
  rw [hcut, Bool.and_eq_true, decide_eq_true_iff] at hb2
  obtain ⟨⟨c1, c2, c3⟩, c4⟩ := hb2
  rw [hcut] at hS
  obtain ⟨_, hh⟩ := sq_iff.1 c4
  have ht : (l.take (2 * m)).length = 2 * m := by rw [List.length_take]; omega
  rw [ht, show 2 * m / 2 = m by omega, List.take_take, Nat.min_eq_left (by omega)] at hh
  have hdt : (l.drop m).take m = l.take m := by
    rw [hh, List.drop_take]; congr 1; omega
  have hsp := spell_rb hA (InA_drop hin m) (by rw [List.length_drop]; omega)
  have hdl : (l.drop m).length = l.length - m := List.length_drop
  have hE : frontE A (singleS A s m) m = 0 := by
    rw [hS, frontE_eq, hsp, if_neg (by simp), if_neg (by omega), if_neg (by simp only [hdl]; omega)]
  refine ⟨hE, ?_⟩
  rw [frontS_eq, hE, if_pos rfl, hS, hsp, Int.toNat_natCast]
  show runesBytes ((l.drop m).take m ++ l.drop m) = s
  rw [hdt, List.take_append_drop]
  exact hs
theorem singleS_none {A : Alpha} {s : ByteArray} {n : Int} (h : singleB A s n = false) : singleS A s n = ⟨#[]⟩ := by rw [singleS_eq, h]; rfl
theorem singleB_err {A : Alpha} {s : ByteArray} {n : Int} (h : singleE A s n ≠ 0) : singleB A s n = false := by rw [singleB_eq, decide_eq_false h]; rfl
theorem single_err {A : Alpha} {s : ByteArray} (n : Int) (h : (spell A s).2 ≠ 0) : singleE A s n = (spell A s).2 := by rw [singleE_eq, if_pos h]
theorem front_err {A : Alpha} {s : ByteArray} (n : Int) (h : (spell A s).2 ≠ 0) : frontE A s n = (spell A s).2 := by rw [frontE_eq, if_pos h]
theorem single_range {A : Alpha} {s : ByteArray} {n : Int} (h : (spell A s).2 = 0) (hn : singleE A s n = 0) : 0 ≤ n ∧ n ≤ 64 := by
  rw [singleE_eq, if_neg (by simp [h])] at hn
  by_cases e : n < 0 ∨ 64 < n
  · rw [if_pos e] at hn; cases hn
  · omega
/-- what front answers where it answers -/
theorem front_ok {A : Alpha} {s : ByteArray} {n : Int} (h : (spell A s).2 = 0) (hn : frontE A s n = 0) : 0 ≤ n ∧ n ≤ 64 ∧ n ≤ (spell A s).1.length ∧ frontS A s n = runesBytes ((spell A s).1.take n.toNat ++ (spell A s).1) := by
  have hS := frontS_eq A s n
  rw [if_pos hn] at hS
  rw [frontE_eq, if_neg (by simp [h])] at hn
  by_cases e : n < 0 ∨ 64 < n
  · rw [if_pos e] at hn; cases hn
  · rw [if_neg e] at hn
    by_cases e2 : ((spell A s).1.length : Int) < n
    · rw [if_pos e2] at hn; cases hn
    · exact ⟨by omega, by omega, by omega, hS⟩
end Go.Proofs.YtcjdpicepjoeoaaDoor
