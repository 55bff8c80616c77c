/- The law TopAligned, walked: the cost that is told is the least of all alignments (reckoned from the words' beginnings), and the alignment that is told costs it. -/
import Derived.Test.YtcnhlogkhnoacaaGreatDoorAlz
import Derived.Test.YtcnhlogkhnoacaaGreatDoorAlgg
import Derived.Test.YtcnhlogkhnoacaaGreatDoorAlgh
import Derived.Test.YtcnhlogkhnoacaaGreatDoorTpab
namespace Go.Cg
open Go.RowKit
theorem lefts_rev (l : List (Int × Int)) : lefts l.reverse = (lefts l).reverse := by unfold lefts; rw [List.map_reverse, List.filter_reverse]
theorem rights_rev (l : List (Int × Int)) : rights l.reverse = (rights l).reverse := by unfold rights; rw [List.map_reverse, List.filter_reverse]
theorem sumC_append (fr : Int → Int → Nat) : ∀ l m : List (Int × Int), sumC fr (l ++ m) = sumC fr l + sumC fr m
  | [], m => by simp [sumC]
  | p :: l, m => by
    have h := sumC_append fr l m
    simp only [List.cons_append, sumC]
    omega
theorem sumC_rev (fr : Int → Int → Nat) : ∀ l : List (Int × Int), sumC fr l.reverse = sumC fr l
  | [] => rfl
  | p :: l => by
    rw [List.reverse_cons, sumC_append, sumC_rev fr l]
    simp only [sumC]
    omega
theorem al_rev_le {fr : Int → Int → Nat} (h0 : ∀ x, fr x x = 0) {x y : List Int} (hx : ∀ r ∈ x, r ≠ 0) (hy : ∀ r ∈ y, r ≠ 0) : al fr x.reverse y.reverse ≤ al fr x y := by
  obtain ⟨h1, h2, h3, _⟩ := fst1_ok h0 x y hx hy
  have h := al_least h0 (fst1 fr x y).reverse
  rw [lefts_rev, rights_rev, sumC_rev, h1, h2, h3] at h
  exact h
theorem al_rev {fr : Int → Int → Nat} (h0 : ∀ x, fr x x = 0) {x y : List Int} (hx : ∀ r ∈ x, r ≠ 0) (hy : ∀ r ∈ y, r ≠ 0) : al fr x.reverse y.reverse = al fr x y := by
  refine Nat.le_antisymm (al_rev_le h0 hx hy) ?_
  have h := al_rev_le h0 (x := x.reverse) (y := y.reverse) (fun r hr => hx r (List.mem_reverse.1 hr)) (fun r hr => hy r (List.mem_reverse.1 hr))
  rwa [List.reverse_reverse, List.reverse_reverse] at h
/-- what the first i letters of the one and the first k of the other cost -/
def pf (fr : Int → Int → Nat) (x y : List Int) (i k : Nat) : Nat := al fr (x.take i) (y.take k)
theorem take_more {l : List Int} {i : Nat} (h : i < l.length) : l.take (i + 1) = l.take i ++ [rn l i] := by
  rw [List.take_succ_eq_append_getElem h]
  congr 2
  simp [rn, List.getD, h]
theorem take_rev {l : List Int} {i : Nat} (h : i < l.length) : (l.take (i + 1)).reverse = rn l i :: (l.take i).reverse := by rw [take_more h]; simp
theorem take_ne {l : List Int} (h : ∀ r ∈ l, r ≠ 0) (i : Nat) : ∀ r ∈ l.take i, r ≠ 0 := fun r hr => h r (List.mem_of_mem_take hr)
theorem pf_zero (fr : Int → Int → Nat) (x y : List Int) : pf fr x y 0 0 = 0 := by unfold pf; rw [List.take_zero, List.take_zero, al_nil]
theorem pf_end (fr : Int → Int → Nat) (x y : List Int) : pf fr x y x.length y.length = al fr x y := by unfold pf; rw [List.take_length, List.take_length]
theorem pf_rev {fr : Int → Int → Nat} (h0 : ∀ x, fr x x = 0) {x y : List Int} (hx : ∀ r ∈ x, r ≠ 0) (hy : ∀ r ∈ y, r ≠ 0) (i k : Nat) : pf fr x y i k = al fr (x.take i).reverse (y.take k).reverse := (al_rev h0 (take_ne hx i) (take_ne hy k)).symm
theorem pf_left {fr : Int → Int → Nat} (h0 : ∀ x, fr x x = 0) {x y : List Int} (hx : ∀ r ∈ x, r ≠ 0) (hy : ∀ r ∈ y, r ≠ 0) {i : Nat} (hi : i < x.length) : pf fr x y (i + 1) 0 = pf fr x y i 0 + 5 := by
  rw [pf_rev h0 hx hy, pf_rev h0 hx hy, take_rev hi, List.take_zero, List.reverse_nil, al_left, Nat.add_comm]
theorem pf_right {fr : Int → Int → Nat} (h0 : ∀ x, fr x x = 0) {x y : List Int} (hx : ∀ r ∈ x, r ≠ 0) (hy : ∀ r ∈ y, r ≠ 0) {k : Nat} (hk : k < y.length) : pf fr x y 0 (k + 1) = pf fr x y 0 k + 5 := by
  rw [pf_rev h0 hx hy, pf_rev h0 hx hy, take_rev hk, List.take_zero, List.reverse_nil, al_right, Nat.add_comm]
theorem pf_both {fr : Int → Int → Nat} (h0 : ∀ x, fr x x = 0) {x y : List Int} (hx : ∀ r ∈ x, r ≠ 0) (hy : ∀ r ∈ y, r ≠ 0) {i k : Nat} (hi : i < x.length) (hk : k < y.length) :
    pf fr x y (i + 1) (k + 1) = min (pf fr x y i k + fr (rn x i) (rn y k)) (min (pf fr x y i (k + 1) + 5) (pf fr x y (i + 1) k + 5)) := by
  rw [pf_rev h0 hx hy, pf_rev h0 hx hy (i := i) (k := k), pf_rev h0 hx hy (i := i) (k := k + 1), pf_rev h0 hx hy (i := i + 1) (k := k), take_rev hi, take_rev hk, al_both]
  omega
theorem pf_le (fr : Int → Int → Nat) {x y : List Int} (hx : x.length ≤ 64) (hy : y.length ≤ 64) (i k : Nat) : pf fr x y i k ≤ 640 := by
  have h := al_le_len fr (x.take i) (y.take k)
  rw [List.length_take, List.length_take] at h
  unfold pf
  omega
end Go.Cg

namespace Go.Cg
open Go.RowKit Go.Lib
theorem fst1_one_ (fr : Int → Int → Nat) : ∀ (x y : List Int), ∀ p ∈ fst1 fr x y, p.1 ∈ x ∨ p.2 ∈ y
  | [], [], p, h => by rw [fst1_nil] at h; cases h
  | x :: xs, [], p, h => by
    rw [fst1_left] at h
    rcases List.mem_cons.1 h with rfl | h
    · exact .inl (List.mem_cons_self ..)
    · exact (fst1_one_ fr xs [] p h).imp (List.mem_cons_of_mem _) id
  | [], y :: ys, p, h => by
    rw [fst1_right] at h
    rcases List.mem_cons.1 h with rfl | h
    · exact .inr (List.mem_cons_self ..)
    · exact (fst1_one_ fr [] ys p h).imp id (List.mem_cons_of_mem _)
  | x :: xs, y :: ys, p, h => by
    rw [fst1_both] at h
    split at h
    · rcases List.mem_cons.1 h with rfl | h
      · exact .inl (List.mem_cons_self ..)
      · exact (fst1_one_ fr xs ys p h).imp (List.mem_cons_of_mem _) (List.mem_cons_of_mem _)
    · split at h
      · rcases List.mem_cons.1 h with rfl | h
        · exact .inl (List.mem_cons_self ..)
        · exact (fst1_one_ fr xs (y :: ys) p h).imp (List.mem_cons_of_mem _) id
      · rcases List.mem_cons.1 h with rfl | h
        · exact .inr (List.mem_cons_self ..)
        · exact (fst1_one_ fr (x :: xs) ys p h).imp id (List.mem_cons_of_mem _)
termination_by x y => x.length + y.length
theorem two_made_ {A : Alpha} {x y : ByteArray} (h : twoE A x y = 0) : sumE A (twoP A x y) = 0 ∧ sumN A (twoP A x y) = twoC A x y ∧ bothX A (twoP A x y) = x ∧ bothY A (twoP A x y) = y := by
  obtain ⟨h1, h2⟩ := twoE_zero h
  obtain ⟨hA, rx, ix, lx⟩ := ltr_ok h1
  obtain ⟨_, ry, iy, ly⟩ := ltr_ok h2
  have hC : twoC A x y = al (farC A) (ltr A x) (ltr A y) := if_pos h
  have hP : twoP A x y = fst1 (farC A) (ltr A x) (ltr A y) := if_pos h
  obtain ⟨f1, f2, f3, f4⟩ := fst1_ok (farC_same A) _ _ (InA_ne hA ix) (InA_ne hA iy)
  have m1 := fst1_mem (farC A) (ltr A x) (ltr A y)
  have m2 := fst1_one_ (farC A) (ltr A x) (ltr A y)
  rw [← hP] at f1 f2 f3 f4 m1 m2
  have hE : sumE A (twoP A x y) = 0 := by
    unfold sumE
    rw [if_pos hA, if_neg (by omega)]
    refine errP_mem fun p hp => ?_
    have a1 : p.1 ≠ 0 → 0 ≤ findLetter A p.1 := fun k => (m1 p hp).1.elim (fun e => absurd e k) (fun e => ix _ e)
    have a2 : p.2 ≠ 0 → 0 ≤ findLetter A p.2 := fun k => (m1 p hp).2.elim (fun e => absurd e k) (fun e => iy _ e)
    unfold pairE
    rw [if_neg (fun k => k.2 (a1 k.1)), if_neg (fun k => k.2 (a2 k.1)), if_neg]
    rintro ⟨k1, k2⟩
    rcases m2 p hp with e | e
    · exact InA_ne hA ix _ e k1
    · exact InA_ne hA iy _ e k2
  refine ⟨hE, ?_, ?_, ?_⟩
  · unfold sumN; rw [if_pos hE, sumTo_all, f3, hC]
  · unfold bothX; rw [if_pos hE, f1, rx]
  · unfold bothY; rw [if_pos hE, f2, ry]
theorem cost_left {A : Alpha} (hA : A.Ok) {x : Int} (h : 0 ≤ findLetter A x) : costE A x 0 = 0 ∧ farC A x 0 = 5 := by
  have hx := letter_ne hA h
  refine ⟨?_, farC_gap hx (.inr rfl)⟩
  unfold costE pairE
  rw [if_pos hA, if_neg (fun k => k.2 h), if_neg (fun k => k.1 rfl), if_neg (fun k => hx k.1)]
theorem cost_right {A : Alpha} (hA : A.Ok) {y : Int} (h : 0 ≤ findLetter A y) : costE A 0 y = 0 ∧ farC A 0 y = 5 := by
  have hy := letter_ne hA h
  refine ⟨?_, farC_gap (fun e => hy e.symm) (.inl rfl)⟩
  unfold costE pairE
  rw [if_pos hA, if_neg (fun k => k.1 rfl), if_neg (fun k => k.2 h), if_neg (fun k => hy k.2)]
theorem cost_both {A : Alpha} (hA : A.Ok) {x y : Int} (hx : 0 ≤ findLetter A x) (hy : 0 ≤ findLetter A y) : costE A x y = 0 := by
  unfold costE pairE
  rw [if_pos hA, if_neg (fun k => k.2 hx), if_neg (fun k => k.2 hy), if_neg (fun k => letter_ne hA hx k.1)]
theorem row_full {w : World} {base B e n : Nat} {xs : List Value} (h : w.ownsRow base e 1 (.slice (some ⟨B, 0, none⟩) n n) n xs) (hn : 0 < n) : Row w B e xs ∧ xs.length = n := by
  obtain ⟨hl, h⟩ := h
  rcases h with ⟨_, h0⟩ | ⟨g, cap, cur, h, _, hb, _, _, hs, ht⟩
  · omega
  · simp only [Value.slice.injEq, Option.some.injEq, Addr.mk.injEq, and_true, true_and] at h
    obtain ⟨rfl, rfl⟩ := h
    refine ⟨?_, by omega⟩
    have : cur = xs.toArray := by
      rw [← ht, List.take_of_length_le (by rw [Array.length_toList]; omega)]
    rw [this] at hb
    exact hb
end Go.Cg
namespace Go.Proofs.YtcnhlogkhnoacaaGreatDoor
open Go.RowKit Go.Cg Go.Shelf Go.Maps

set_option maxHeartbeats 1000000 in
theorem price_any (fp lp : Option Addr) (fc lc : Nat) (A : Alpha) (x y : Int) (n : Nat) (h0 : costE A x y = 0) (hn : farC A x y = n) (w : World) (hA : AlphaAt w fp lp A) :
    Calls Tryz.prog 11 #[.agg #[.slice fp A.feats.length fc, .slice lp A.lets.length lc], .int .i32 x, .int .i32 y] w fun e w' => e = .returned (.int .i64 (n : Nat)) ∧ Ext w w' := by
  have hx0 : Ext w (w.alloc (.cells #[.slice fp A.feats.length fc, .slice lp A.lets.length lc] 25)) := (Ext.refl _).alloc _
  have hc := Cost_any fp lp fc lc A x y (w.alloc (.cells #[.slice fp A.feats.length fc, .slice lp A.lets.length lc] 25)) (hA.mono hx0)
  rw [h0, show costN A x y = n from by unfold costN; rw [if_pos h0, hn]] at hc
  have hle := farC_le A x y
  rw [hn] at hle
  have HC := Lib.hid hc
  have HX0 := Lib.hid hx0
  clear hc hx0 h0 hn hA
  go_enter Tryz.func11, Tryz.ntmps11
  go_wp2_with fail
  refine HC.out.mono ?_
  rintro e w1 ⟨rfl, hx1⟩
  have h9 := HX0.out.trans hx1
  clear HC hx1
  go_wp2_with fail
  go_ret
  exact ⟨rfl, h9⟩
end Go.Proofs.YtcnhlogkhnoacaaGreatDoor

namespace Go.Proofs.YtcnhlogkhnoacaaGreatDoor
open Go.RowKit Go.Cg Go.Shelf Go.Maps

theorem infoI9 : (Tryz.prog.info? 3).map (fun i => (i.zero, i.size, i.bytes)) = some (some (.int .i64 0), 1, 8) := by kernel_rfl

set_option maxRecDepth 100000 in
set_option maxHeartbeats 4000000 in
theorem topAligned_any (fp lp : Option Addr) (fc lc : Nat) (A : Alpha) (x y : ByteArray) (hx : x.size ≤ 140737488351232) (hy : y.size ≤ 140737488351232) (w : World) (hA : AlphaAt w fp lp A) (hT : Tabs w) :
    Calls Tryz.prog 3 #[.agg #[.slice fp A.feats.length fc, .slice lp A.lets.length lc], .string x, .string y] w fun e w' => e = .returned (.bool true) ∧ Ext w w' := by
  obtain ⟨s, hs⟩ : ∃ s, w.heap.size = s := ⟨_, rfl⟩
  obtain ⟨W1, hW1⟩ : ∃ W, w.alloc (.cells #[.slice fp A.feats.length fc, .slice lp A.lets.length lc] 25) = W := ⟨_, rfl⟩
  have hx1 : Ext w W1 := by rw [← hW1]; exact (Ext.refl _).alloc _
  have HB := Lib.hid (fun W (hW : Ext W1 W) => (by
    have h := ext_cells hs (W := W) (by rw [hW1]; exact hW : Ext (w.alloc (.cells #[.slice fp A.feats.length fc, .slice lp A.lets.length lc] 25)) W)
    exact ⟨h.1 0, h.1 1, h.2⟩ : W.cell? ⟨s, 0, none⟩ = some (.slice fp A.feats.length fc) ∧ W.cell? ⟨s, 1, none⟩ = some (.slice lp A.lets.length lc) ∧ s < W.heap.size))
  have HTU := Lib.hid (turns_any W1 (hT.ext hx1))
  have HCX := Lib.hid (fun W (hW : Ext W1 W) => Check03_any fp lp fc lc A x hx W (hA.mono (hx1.trans hW)) (hT.ext (hx1.trans hW)))
  have HCY := Lib.hid (fun W (hW : Ext W1 W) => Check03_any fp lp fc lc A y hy W (hA.mono (hx1.trans hW)) (hT.ext (hx1.trans hW)))
  have HWO := Lib.hid (fun W (hW : Ext W1 W) => words_any fp lp fc lc A x y hx hy W (hA.mono (hx1.trans hW)) (hT.ext (hx1.trans hW)))
  have HSU := Lib.hid (fun p c l W (hW : Ext W1 W) (hP : PairsAt W p l) => sum_any fp lp p fc lc c A l W (hA.mono (hx1.trans hW)) hP)
  have HBO := Lib.hid (fun p c l W (hW : Ext W1 W) (hP : PairsAt W p l) => both_any fp lp p fc lc c A l W (hA.mono (hx1.trans hW)) hP)
  have HPR := Lib.hid (fun a b n (h0 : costE A a b = 0) (hn : farC A a b = n) W (hW : Ext W1 W) => price_any fp lp fc lc A a b n h0 hn W (hA.mono (hx1.trans hW)))
  have HX := Lib.hid (fun W (hW : Ext W1 W) => hx1.trans hW)
  have HW1 := Lib.hid hW1
  clear hW1 hx1 hA hT hx hy
  by_cases h1 : ltrE A x = 0
  · by_cases h2 : ltrE A y = 0
    · have h0 : twoE A x y = 0 := by unfold twoE; rw [if_neg (by omega), h2]
      obtain ⟨m1, m2, m3, m4⟩ := two_made_ h0
      obtain ⟨hok, rx, ix, lx⟩ := ltr_ok h1
      obtain ⟨_, ry, iy, ly⟩ := ltr_ok h2
      have hC : twoC A x y = al (farC A) (ltr A x) (ltr A y) := if_pos h0
      rw [show (spell A x).2 = 0 from h1] at HCX
      rw [show (spell A y).2 = 0 from h2] at HCY
      have HWX := Lib.hid (fun W => word_row h1 W)
      have HWY := Lib.hid (fun W => word_row h2 W)
      rw [h0, hC] at HWO
      obtain ⟨Z, hZ⟩ : ∃ Z, twoP A x y = Z := ⟨_, rfl⟩
      rw [hZ] at HWO m1 m2 m3 m4
      rw [hC] at m2
      have HS2 := Lib.hid (fun p c W (hW : Ext W1 W) (hP : PairsAt W p Z) => (by rw [← m2, ← m1]; exact HSU.out p c Z W hW hP : Calls Tryz.prog 9 #[.agg #[.slice fp A.feats.length fc, .slice lp A.lets.length lc], .slice p Z.length c] W fun e w' => e = .returned (.tuple #[.int .i64 ((al (farC A) (ltr A x) (ltr A y) : Nat) : Int), .int .i64 0]) ∧ Ext W w'))
      have HB2 := Lib.hid (fun p c W (hW : Ext W1 W) (hP : PairsAt W p Z) => (by have h := HBO.out p c Z W hW hP; rw [m1, m3, m4] at h; exact h : Calls Tryz.prog 10 #[.agg #[.slice fp A.feats.length fc, .slice lp A.lets.length lc], .slice p Z.length c] W fun e w' => e = .returned (.tuple #[.string x, .string y, .int .i64 0]) ∧ Ext W w'))
      have HIX := Lib.hid (fun i (hi : i < (ltr A x).length) => cost_left hok (ix (rn (ltr A x) i) (by rw [rn_eq hi]; exact List.getElem_mem hi)))
      have HIY := Lib.hid (fun i (hi : i < (ltr A y).length) => cost_right hok (iy (rn (ltr A y) i) (by rw [rn_eq hi]; exact List.getElem_mem hi)))
      have HIB := Lib.hid (fun i k (hi : i < (ltr A x).length) (hk : k < (ltr A y).length) => cost_both hok (ix (rn (ltr A x) i) (by rw [rn_eq hi]; exact List.getElem_mem hi)) (iy (rn (ltr A y) k) (by rw [rn_eq hk]; exact List.getElem_mem hk)))
      have hnx := InA_ne hok ix
      have hny := InA_ne hok iy
      have HP0 := Lib.hid (pf_zero (farC A) (ltr A x) (ltr A y))
      have HPL := Lib.hid (fun i (hi : i < (ltr A x).length) => pf_left (farC_same A) hnx hny hi)
      have HPT := Lib.hid (fun k (hk : k < (ltr A y).length) => pf_right (farC_same A) hnx hny hk)
      have HPB := Lib.hid (fun i k (hi : i < (ltr A x).length) (hk : k < (ltr A y).length) => pf_both (farC_same A) hnx hny hi hk)
      have HPE := Lib.hid (pf_end (farC A) (ltr A x) (ltr A y))
      have HPM := Lib.hid (fun i k => pf_le (farC A) lx ly i k)
      have HFM := Lib.hid (fun a b => farC_le A a b)
      clear h0 h1 h2 m1 m2 m3 m4 hC hZ HSU HBO ix iy rx ry hok hnx hny
      obtain ⟨X, hX⟩ : ∃ X, ltr A x = X := ⟨_, rfl⟩
      obtain ⟨Y, hY⟩ : ∃ Y, ltr A y = Y := ⟨_, rfl⟩
      rw [hX] at HWX HIX HIB HPL HPB HPT lx
      rw [hY] at HWY HIY HIB HPT HPB HPL ly
      rw [hX, hY] at HWO HS2 HP0 HPE HPM
      obtain ⟨P, hP⟩ : ∃ P, pf (farC A) X Y = P := ⟨_, rfl⟩
      obtain ⟨T, hT⟩ : ∃ T, al (farC A) X Y = T := ⟨_, rfl⟩
      rw [hP] at HP0 HPL HPT HPB HPE HPM
      rw [hT] at HWO HS2 HPE
      obtain ⟨fr, hfr⟩ : ∃ fr, farC A = fr := ⟨_, rfl⟩
      rw [hfr] at HIX HIY HPB HPR HFM
      clear hX hY hP hT hfr
      go_enter Tryz.func3, Tryz.ntmps3
      go_wp2_with fail
      rw [HW1.out]
      refine HTU.out.mono ?_
      rintro e w1 ⟨rfl, hx1⟩
      obtain ⟨b0, b1, bl⟩ := HB.out _ hx1
      have HX1 := Lib.hid hx1
      clear hx1
      go_wp2_with fail
      refine (HCX.out _ HX1.out).mono ?_
      rintro e w2 ⟨rfl, hx2⟩
      have hx := HX1.out.trans hx2
      clear b0 b1 bl hx2
      obtain ⟨b0, b1, bl⟩ := HB.out _ hx
      have HX2 := Lib.hid hx
      clear hx
      go_wp2_with fail
      refine (HCY.out _ HX2.out).mono ?_
      rintro e w3 ⟨rfl, hx3⟩
      have hx := HX2.out.trans hx3
      clear b0 b1 bl hx3
      obtain ⟨b0, b1, bl⟩ := HB.out _ hx
      have HX3 := Lib.hid hx
      clear hx
      go_wp2_with fail
      refine (HWO.out _ HX3.out).mono ?_
      rintro e w4 ⟨zp, zc, rfl, hOP, hx4⟩
      have hx := HX3.out.trans hx4
      clear b0 b1 bl hx4
      obtain ⟨b0, b1, bl⟩ := HB.out _ hx
      have HX4 := Lib.hid hx
      have HZ := Lib.hid hOP.at_
      clear hx hOP
      go_wp2_with fail
      refine (HS2.out zp zc _ HX4.out HZ.out).mono ?_
      rintro e w5 ⟨rfl, hx5⟩
      have hx := HX4.out.trans hx5
      have HZ5 := Lib.hid (HZ.out.mono hx5)
      clear b0 b1 bl hx5
      obtain ⟨b0, b1, bl⟩ := HB.out _ hx
      have HX5 := Lib.hid hx
      clear hx
      go_wp2_with fail
      refine (HB2.out zp zc _ HX5.out HZ5.out).mono ?_
      rintro e w6 ⟨rfl, hx6⟩
      have hx := HX5.out.trans hx6
      clear b0 b1 bl hx6
      obtain ⟨xc, W7, hcv1, hO1, hx7⟩ := HWX.out w6
      obtain ⟨yc, W8, hcv2, hO2, hx8⟩ := HWY.out W7
      have HR1 := Lib.hid (hO1.at_.mono hx8)
      have HR2 := Lib.hid hO2.at_
      have HX8 := Lib.hid (hx.trans (hx7.trans hx8))
      obtain ⟨Bx, hBx⟩ : ∃ Bx, w6.heap.size = Bx := ⟨_, rfl⟩
      obtain ⟨By, hBy⟩ : ∃ By, W7.heap.size = By := ⟨_, rfl⟩
      obtain ⟨n, hn⟩ : ∃ n, Y.length = n := ⟨_, rfl⟩
      obtain ⟨m, hm⟩ : ∃ m, X.length = m := ⟨_, rfl⟩
      rw [hBx] at HR1 hcv1
      rw [hBy] at HR2 hcv2
      clear hx hx7 hx8 hO1 hO2
      obtain ⟨j0, ji, jz0, jz1, jz2⟩ := info_parts infoI9
      go_wp2_with (at_make; refine wpList_make_full _ rfl _ _ 37 rfl W8.heap.size 3 j0 (.int .i64 0) 1 Tryz.underlying37 ji jz0 jz1 .i64 .i64 _ _ (n + 1) rfl rfl (by omega) (by omega) (by rw [jz2]; omega) (by unfold maxLen; omega) (Nat.le_refl _) ?_; intro w9 hown9 hg9)
      obtain ⟨hrow9, hlen9⟩ := row_full hown9 (by omega)
      have hx9 : Ext W8 w9 := Ext.grown (Ext.refl _) hg9 (fun _ e => by cases e)
      obtain ⟨L0, hL0⟩ : ∃ L0, (madeCells (Value.int .i64 0).cells ((n + 1) * 1)).toList = L0 := ⟨_, rfl⟩
      rw [hL0] at hrow9 hlen9
      have HROW9 := Lib.hid hrow9
      have HLEN9 := Lib.hid hlen9
      have HX9 := Lib.hid hx9
      clear hown9 hg9 hrow9 hlen9 hx9 hL0 hcv1 hcv2 HS2 HB2 HWO HWX HWY HCX HCY HTU HZ HZ5
      go_loopw [18, 19] (fun row i wr => ∃ (k : Nat) (B : Nat) (L : List Value), k ≤ m + 1 ∧ i = .int .i64 k ∧ row = .slice (some ⟨B, 0, none⟩) (n + 1) (n + 1) ∧ Ext W8 wr ∧ Row wr B 3 L ∧ L.length = n + 1 ∧ Hid (0 < k → ∀ j, j ≤ n → L[j]? = some (.int .i64 (P (k - 1) j : Nat)))) (fun _ i _ => m + 1 - (intOf i).toNat)
      case atStart => exact ⟨0, W8.heap.size, L0, Nat.zero_le _, rfl, rfl, HX9.out, HROW9.out, HLEN9.out, fun h => absurd h (by decide)⟩
      case round =>
        obtain ⟨k, B, L, hk, rfl, rfl, hx, hrow, hlen, HL⟩ := hrel
        by_cases hlt : k ≤ m
        · generalize wr = wo at *
          have HXO := Lib.hid hx
          have HROW := Lib.hid hrow
          have HLEN := Lib.hid hlen
          clear hx hrow hlen
          go_wp2_with (at_make; refine wpList_make_full _ rfl _ _ 37 rfl wo.heap.size 3 j0 (.int .i64 0) 1 Tryz.underlying37 ji jz0 jz1 .i64 .i64 _ _ (n + 1) rfl rfl (by omega) (by omega) (by rw [jz2]; omega) (by unfold maxLen; omega) (Nat.le_refl _) ?_; intro w10 hown10 hg10)
          obtain ⟨hrow10, hlen10⟩ := row_full hown10 (by omega)
          have hx10 : Ext wo w10 := Ext.grown (Ext.refl _) hg10 (fun _ e => by cases e)
          obtain ⟨L1, hL1⟩ : ∃ L1, (madeCells (Value.int .i64 0).cells ((n + 1) * 1)).toList = L1 := ⟨_, rfl⟩
          rw [hL1] at hrow10 hlen10
          obtain ⟨C, hC⟩ : ∃ C, wo.heap.size = C := ⟨_, rfl⟩
          rw [hC] at hrow10
          have HROW10 := Lib.hid hrow10
          have HLEN10 := Lib.hid hlen10
          have HX10 := Lib.hid hx10
          have HBC := Lib.hid (by rw [← hC]; exact HROW.out.lt : B < C)
          clear hown10 hg10 hrow10 hlen10 hx10 hL1
          go_loopw [21] (fun kk w' => ∃ (j : Nat) (M : List Value), j ≤ n + 1 ∧ kk = .int .i64 j ∧ Ext wo w' ∧ Row w' C 3 M ∧ M.length = n + 1 ∧ Hid (∀ q, q < j → M[q]? = some (.int .i64 (P k q : Nat)))) (fun kk _ => n + 1 - (intOf kk).toNat)
          case atStart => exact ⟨0, L1, Nat.zero_le _, rfl, HX10.out, HROW10.out, HLEN10.out, fun q h => absurd h (by omega)⟩
          case round =>
            obtain ⟨j, M, hj, rfl, hx, hrow, hlen, HM⟩ := hrel
            by_cases hlj : j ≤ n
            · generalize wr = wp at *
              have HX11 := Lib.hid hx
              have HROW11 := Lib.hid hrow
              have HLEN11 := Lib.hid hlen
              have hw11 : Ext W1 wp := HX8.out.trans (HXO.out.trans hx)
              have HPUT := Lib.hid (fun W (v : Int) (hW : Ext wp W) (hv : v = ((P k j : Nat) : Int)) => (by
                subst hv
                have hr := (hrow.ext hW).set j (.int .i64 (P k j : Nat))
                refine ⟨(hx.trans hW).setCell (p := ⟨C, j, none⟩) (by show wo.heap.size ≤ C; omega) _, hr, by rw [List.length_set]; exact hlen, fun q hq => ?_⟩
                rw [List.getElem?_set]
                by_cases e : j = q
                · subst e; rw [if_pos rfl, if_pos (by omega)]
                · rw [if_neg e]; exact HM.out q (by omega) : Ext wo (W.setCell ⟨C, j, none⟩ (.int .i64 v)) ∧ Row (W.setCell ⟨C, j, none⟩ (.int .i64 v)) C 3 (M.set j (.int .i64 (P k j : Nat))) ∧ (M.set j (.int .i64 (P k j : Nat))).length = n + 1 ∧ (∀ q, q < j + 1 → (M.set j (.int .i64 (P k j : Nat)))[q]? = some (.int .i64 (P k q : Nat)))))
              have HCC := Lib.hid (fun W (hW : Ext wp W) => (by
                obtain ⟨v, hv⟩ : ∃ v, M[j]? = some v := ⟨_, List.getElem?_eq_getElem (by omega)⟩
                exact ⟨v, by rw [(hrow.ext hW).cell]; exact hv, (hrow.ext hW).froz j, (hrow.ext hW).lt⟩ : ∃ v, W.cell? ⟨C, j, none⟩ = some v ∧ W.frozen? ⟨C, j, none⟩ = false ∧ C < W.heap.size))
              have HBW := Lib.hid (fun W (hW : Ext wp W) => HB.out _ (hw11.trans hW))
              have HPW := Lib.hid (fun a b c h0 hn W (hW : Ext wp W) => HPR.out a b c h0 hn W (hw11.trans hW))
              have HXC := Lib.hid (fun i (hi : i < m) W (hW : Ext wp W) => (by
                obtain ⟨b, off, hp, hl, hc⟩ := (HR1.out.mono (HXO.out.trans (hx.trans hW))).cells (i := i) (by omega)
                simp only [Option.some.injEq, Addr.mk.injEq, and_true] at hp
                obtain ⟨rfl, rfl⟩ := hp
                rw [Nat.zero_add] at hc
                exact ⟨hc, hl⟩ : W.cell? ⟨Bx, i, none⟩ = some (.int .i32 (rn X i)) ∧ Bx < W.heap.size))
              have HYC := Lib.hid (fun i (hi : i < n) W (hW : Ext wp W) => (by
                obtain ⟨b, off, hp, hl, hc⟩ := (HR2.out.mono (HXO.out.trans (hx.trans hW))).cells (i := i) (by omega)
                simp only [Option.some.injEq, Addr.mk.injEq, and_true] at hp
                obtain ⟨rfl, rfl⟩ := hp
                rw [Nat.zero_add] at hc
                exact ⟨hc, hl⟩ : W.cell? ⟨By, i, none⟩ = some (.int .i32 (rn Y i)) ∧ By < W.heap.size))
              have HLC := Lib.hid (fun k' (hk' : k = k' + 1) q (hq : q ≤ n) W (hW : Ext wp W) => (by
                subst hk'
                exact ⟨((HROW.out.ext (hx.trans hW)).cell q).trans (HL.out (by omega) q hq), (HROW.out.ext (hx.trans hW)).lt⟩ : W.cell? ⟨B, q, none⟩ = some (.int .i64 (P k' q : Nat)) ∧ B < W.heap.size))
              have HMC := Lib.hid (fun q (hq : q < j) W (hW : Ext wp W) => (((hrow.ext hW).cell q).trans (HM.out q hq) : W.cell? ⟨C, q, none⟩ = some (.int .i64 (P k q : Nat))))
              clear hx hrow hlen hw11
              rw [hC]
              by_cases hk0 : k = 0
              · subst hk0
                by_cases hj0 : j = 0
                · subst hj0
                  obtain ⟨v, c0, c1, c2⟩ := HCC.out _ (Ext.refl _)
                  have hfin := HPUT.out wp 0 (Ext.refl _) (by rw [HP0.out]; rfl)
                  have HFIN := Lib.hid hfin
                  clear hfin
                  go_wp2_with fail
                  exact ⟨⟨1, _, by omega, rfl, HFIN.out.1, HFIN.out.2.1, HFIN.out.2.2.1, HFIN.out.2.2.2⟩, by simp [intOf]⟩
                · obtain ⟨j', rfl⟩ : ∃ j', j = j' + 1 := ⟨j - 1, by omega⟩
                  obtain ⟨b0, b1, bl⟩ := HBW.out _ (Ext.refl _)
                  obtain ⟨cy, ly2⟩ := HYC.out j' (by omega) _ (Ext.refl _)
                  have cr := HMC.out j' (by omega) _ (Ext.refl _)
                  obtain ⟨e0, e1⟩ := HIY.out j' (by omega)
                  have HPK := Lib.hid (fun W (hW : Ext wp W) => HPW.out 0 (rn Y j') 5 e0 e1 W hW)
                  have hpt := HPT.out j' (by omega)
                  have hpm := HPM.out 0 j'
                  obtain ⟨u, hu⟩ : ∃ u, P 0 j' = u := ⟨_, rfl⟩
                  rw [hu] at cr hpt hpm
                  have hj1 : j' < n := by omega
                  have HV := Lib.hid hpt
                  clear e0 e1 hpt hu
                  go_wp2_with fail
                  (refine wp_region_ext (by kernel_rfl) (by kernel_rfl) ?_; intro ι hι g hg; have q_b0 := hg.cell b0; have q_b1 := hg.cell b1; have q_cy := hg.cell cy; have q_cr := hg.cell cr; clear b0 b1 cy cr; (repeat (go_big_quiet_step ((go_at_call 11; exact hg.call (HPK.out _ (hg.ext _)))))); refine wpQuiet_nil ?_; rintro w2 ⟨i2, rfl⟩; have hq := hg.ext i2; generalize g i2 = w2 at hq ⊢; clear q_b0 q_b1 q_cy q_cr i2 hg g hι ι)
                  obtain ⟨v, c0, c1, c2⟩ := HCC.out _ hq
                  have hfin := HPUT.out w2 (min 1099511627776 ((u : Int) + 5)) hq (by rw [HV.out]; omega)
                  have HFIN := Lib.hid hfin
                  clear hfin hq
                  go_wp2_with fail
                  exact ⟨⟨j' + 1 + 1, _, by omega, by go_num, HFIN.out.1, HFIN.out.2.1, HFIN.out.2.2.1, HFIN.out.2.2.2⟩, by simp [intOf]; omega⟩
              · obtain ⟨k', rfl⟩ : ∃ k', k = k' + 1 := ⟨k - 1, by omega⟩
                obtain ⟨b0, b1, bl⟩ := HBW.out _ (Ext.refl _)
                obtain ⟨cx, lx2⟩ := HXC.out k' (by omega) _ (Ext.refl _)
                obtain ⟨cl, lb2⟩ := HLC.out k' rfl j hlj _ (Ext.refl _)
                obtain ⟨e0, e1⟩ := HIX.out k' (by omega)
                have HPK := Lib.hid (fun W (hW : Ext wp W) => HPW.out (rn X k') 0 5 e0 e1 W hW)
                have hk1 : k' < m := by omega
                clear e0 e1
                by_cases hj0 : j = 0
                · subst hj0
                  have hpl := HPL.out k' (by omega)
                  have hpm := HPM.out k' 0
                  obtain ⟨u, hu⟩ : ∃ u, P k' 0 = u := ⟨_, rfl⟩
                  rw [hu] at cl hpl hpm
                  have HV := Lib.hid hpl
                  clear hpl hu
                  go_wp2_with fail
                  (refine wp_region_ext (by kernel_rfl) (by kernel_rfl) ?_; intro ι hι g hg; have q_b0 := hg.cell b0; have q_b1 := hg.cell b1; have q_cx := hg.cell cx; have q_cl := hg.cell cl; clear b0 b1 cx cl; (repeat (go_big_quiet_step ((go_at_call 11; exact hg.call (HPK.out _ (hg.ext _)))))); refine wpQuiet_nil ?_; rintro w2 ⟨i2, rfl⟩; have hq := hg.ext i2; generalize g i2 = w2 at hq ⊢; clear q_b0 q_b1 q_cx q_cl i2 hg g hι ι)
                  obtain ⟨v, c0, c1, c2⟩ := HCC.out _ hq
                  have hfin := HPUT.out w2 (min 1099511627776 ((u : Int) + 5)) hq (by rw [HV.out]; omega)
                  have HFIN := Lib.hid hfin
                  clear hfin hq
                  go_wp2_with fail
                  exact ⟨⟨1, _, by omega, by go_num, HFIN.out.1, HFIN.out.2.1, HFIN.out.2.2.1, HFIN.out.2.2.2⟩, by simp [intOf]⟩
                · obtain ⟨j', rfl⟩ : ∃ j', j = j' + 1 := ⟨j - 1, by omega⟩
                  have hj1 : j' < n := by omega
                  obtain ⟨f0, f1⟩ := HIY.out j' (by omega)
                  have HPK2 := Lib.hid (fun W (hW : Ext wp W) => HPW.out 0 (rn Y j') 5 f0 f1 W hW)
                  have HPK3 := Lib.hid (fun W (hW : Ext wp W) => HPW.out (rn X k') (rn Y j') _ (HIB.out k' j' (by omega) (by omega)) rfl W hW)
                  have hpb := HPB.out k' j' (by omega) (by omega)
                  have hpm1 := HPM.out k' (j' + 1)
                  have hpm2 := HPM.out (k' + 1) j'
                  have hpm3 := HPM.out k' j'
                  have hfm := HFM.out (rn X k') (rn Y j')
                  have HMC2 := Lib.hid (fun W (hW : Ext wp W) => HMC.out j' (by omega) W hW)
                  have HLC2 := Lib.hid (fun W (hW : Ext wp W) => HLC.out k' rfl j' (by omega) W hW)
                  obtain ⟨u1, hu1⟩ : ∃ u, P k' (j' + 1) = u := ⟨_, rfl⟩
                  obtain ⟨u2, hu2⟩ : ∃ u, P (k' + 1) j' = u := ⟨_, rfl⟩
                  obtain ⟨u3, hu3⟩ : ∃ u, P k' j' = u := ⟨_, rfl⟩
                  obtain ⟨u4, hu4⟩ : ∃ u, fr (rn X k') (rn Y j') = u := ⟨_, rfl⟩
                  rw [hu1] at cl hpb hpm1
                  rw [hu2] at HMC2 hpb hpm2
                  rw [hu3] at HLC2 hpb hpm3
                  rw [hu4] at HPK3 hpb hfm
                  have HV := Lib.hid hpb
                  clear hpb hu1 hu2 hu3 hu4 f0 f1
                  go_wp2_with fail
                  (refine wp_region_ext (by kernel_rfl) (by kernel_rfl) ?_; intro ι hι g hg; have q_b0 := hg.cell b0; have q_b1 := hg.cell b1; have q_cx := hg.cell cx; have q_cl := hg.cell cl; clear b0 b1 cx cl; (repeat (go_big_quiet_step ((go_at_call 11; exact hg.call (HPK.out _ (hg.ext _)))))); refine wpQuiet_nil ?_; rintro w2 ⟨i2, rfl⟩; have hq := hg.ext i2; generalize g i2 = w2 at hq ⊢; clear q_b0 q_b1 q_cx q_cl i2 hg g hι ι)
                  obtain ⟨b0, b1, bl⟩ := HBW.out _ hq
                  obtain ⟨cy, ly2⟩ := HYC.out j' hj1 _ hq
                  have cr := HMC2.out _ hq
                  have HQ := Lib.hid hq
                  clear hq
                  go_wp2_with fail
                  (refine wp_region_ext (by kernel_rfl) (by kernel_rfl) ?_; intro ι hι g hg; have q_b0 := hg.cell b0; have q_b1 := hg.cell b1; have q_cy := hg.cell cy; have q_cr := hg.cell cr; clear b0 b1 cy cr; (repeat (go_big_quiet_step ((go_at_call 11; exact hg.call (HPK2.out _ (HQ.out.trans (hg.ext _))))))); refine wpQuiet_nil ?_; rintro w3 ⟨i2, rfl⟩; have hq3 := hg.ext i2; generalize g i2 = w3 at hq3 ⊢; clear q_b0 q_b1 q_cy q_cr i2 hg g hι ι)
                  have HQ3 := Lib.hid (HQ.out.trans hq3)
                  clear hq3
                  obtain ⟨b0, b1, bl⟩ := HBW.out _ HQ3.out
                  obtain ⟨cy, ly3⟩ := HYC.out j' hj1 _ HQ3.out
                  obtain ⟨cx, lx3⟩ := HXC.out k' hk1 _ HQ3.out
                  obtain ⟨cl, lb3⟩ := HLC2.out _ HQ3.out
                  go_wp2_with fail
                  (refine wp_region_ext (by kernel_rfl) (by kernel_rfl) ?_; intro ι hι g hg; have q_b0 := hg.cell b0; have q_b1 := hg.cell b1; have q_cx := hg.cell cx; have q_cy := hg.cell cy; have q_cl := hg.cell cl; clear b0 b1 cx cy cl; (repeat (go_big_quiet_step ((go_at_call 11; exact hg.call (HPK3.out _ (HQ3.out.trans (hg.ext _))))))); refine wpQuiet_nil ?_; rintro w4 ⟨i2, rfl⟩; have hq4 := hg.ext i2; generalize g i2 = w4 at hq4 ⊢; clear q_b0 q_b1 q_cx q_cy q_cl i2 hg g hι ι)
                  have hq5 := HQ3.out.trans hq4
                  obtain ⟨v, c0, c1, c2⟩ := HCC.out _ hq5
                  have hfin := HPUT.out w4 (min 1099511627776 (min (min (u1 : Int) (u2 : Int) + 5) ((u3 : Int) + (u4 : Int)))) hq5 (by rw [HV.out]; omega)
                  have HFIN := Lib.hid hfin
                  clear hfin hq4 hq5
                  go_wp2_with fail
                  exact ⟨⟨j' + 1 + 1, _, by omega, by go_num, HFIN.out.1, HFIN.out.2.1, HFIN.out.2.2.1, HFIN.out.2.2.2⟩, by simp [intOf]; omega⟩
            · obtain rfl : j = n + 1 := by omega
              generalize wr = wp at *
              have HXE := Lib.hid (HXO.out.trans hx)
              have HRE := Lib.hid hrow
              have HLE := Lib.hid hlen
              clear hx hrow hlen
              go_wp2_with fail
              exact ⟨⟨k + 1, wo.heap.size, M, by omega, by go_num, rfl, HXE.out, by rw [hC]; exact HRE.out, HLE.out, fun _ j hj => HM.out j (by omega)⟩, by simp [intOf]; omega⟩
        · obtain rfl : k = m + 1 := by omega
          have hcell := (hrow.cell n).trans (HL.out (by omega) n (Nat.le_refl _))
          rw [show m + 1 - 1 = m by omega] at hcell
          have hbl := hrow.lt
          have hPE : P m n = T := by have h := HPE.out; rw [hm, hn] at h; exact h
          rw [hPE] at hcell
          have HXE := Lib.hid (HX.out _ (HX8.out.trans hx))
          clear hrow hx
          go_wp2_with fail
          go_ret
          exact ⟨ret_bool (by simp), HXE.out⟩
    · rw [show (spell A x).2 = 0 from h1] at HCX
      have h2' : ((spell A y).2 != 0) = true := by
        have h : (spell A y).2 ≠ 0 := h2
        simpa using h
      clear h1 h2 HWO HSU HBO HPR
      go_enter Tryz.func3, Tryz.ntmps3
      go_wp2_with fail
      rw [HW1.out]
      refine HTU.out.mono ?_
      rintro e w1 ⟨rfl, hx1⟩
      obtain ⟨b0, b1, bl⟩ := HB.out _ hx1
      have HX1 := Lib.hid hx1
      clear hx1
      go_wp2_with fail
      refine (HCX.out _ HX1.out).mono ?_
      rintro e w2 ⟨rfl, hx2⟩
      have hx := HX1.out.trans hx2
      clear b0 b1 bl hx2
      obtain ⟨b0, b1, bl⟩ := HB.out _ hx
      have HX2 := Lib.hid hx
      clear hx
      go_wp2_with fail
      refine (HCY.out _ HX2.out).mono ?_
      rintro e w3 ⟨rfl, hx3⟩
      have hx := HX.out _ (HX2.out.trans hx3)
      clear b0 b1 bl hx3
      go_wp2_with fail
      go_ret
      exact ⟨rfl, hx⟩
  · have h1' : ((spell A x).2 != 0) = true := by
      have h : (spell A x).2 ≠ 0 := h1
      simpa using h
    clear h1 HWO HSU HBO HPR
    go_enter Tryz.func3, Tryz.ntmps3
    go_wp2_with fail
    rw [HW1.out]
    refine HTU.out.mono ?_
    rintro e w1 ⟨rfl, hx1⟩
    obtain ⟨b0, b1, bl⟩ := HB.out _ hx1
    have HX1 := Lib.hid hx1
    clear hx1
    go_wp2_with fail
    refine (HCX.out _ HX1.out).mono ?_
    rintro e w2 ⟨rfl, hx2⟩
    have hx := HX.out _ (HX1.out.trans hx2)
    clear b0 b1 bl hx2
    go_wp2_with fail
    go_ret
    exact ⟨rfl, hx⟩

theorem topAligned_row (fp lp : Option Addr) (fc lc : Nat) (A : Alpha) (x : ByteArray) (hx : x.size ≤ 140737488351232) (y : ByteArray) (hy : y.size ≤ 140737488351232) (w : World) (hA : AlphaAt w fp lp A) (hT : Tabs w) :
    Calls Tryz.prog 3 #[.agg #[.slice fp A.feats.length fc, .slice lp A.lets.length lc], .string x, .string y] w fun e w' => e = .returned (.bool true) ∧ Ext w w' := topAligned_any fp lp fc lc A x y hx hy w hA hT
end Go.Proofs.YtcnhlogkhnoacaaGreatDoor
