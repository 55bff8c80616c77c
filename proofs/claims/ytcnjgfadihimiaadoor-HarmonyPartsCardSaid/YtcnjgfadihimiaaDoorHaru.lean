/- Plain laws of harmony; contract of cognatelaw14.taken. -/
import Derived.Test.YtcnjgfadihimiaaDoorHarmc
namespace Go.Cg
open Go.RowKit Go.Lib
theorem ltr_rb {A : Alpha} (hA : A.Ok) {l : List Int} (hl : InA A l) (hn : l.length ≤ 64) : ltr A (runesBytes l) = l ∧ ltrE A (runesBytes l) = 0 := by
  have := spell_rb hA hl hn
  unfold ltr ltrE; rw [this]; exact ⟨rfl, rfl⟩
theorem sgn_length (A : Alpha) (s : ByteArray) : (sgn A s).length = (ltr A s).length := by unfold sgn; simp
theorem la_rune {A : Alpha} {s : ByteArray} (h : ltrE A s = 0) {i : Nat} (hi : i < (sgn A s).length) : (la (sgn A s) i).rune = rn (ltr A s) i := by
  have h2 : i < (ltr A s).length := by rw [← sgn_length]; exact hi
  rw [la_sgn hi]
  exact (letOf_rune ((ltr_ok h).2.2.1 _ (by rw [rn_eq h2]; exact List.getElem_mem h2))).1
theorem maskE_lt {A : Alpha} {ms : List Nat} (h : maskE A ms = 0) {m : Nat} (hm : m ∈ ms) : m < 2 ^ A.feats.length := by
  unfold maskE at h
  split at h
  · rename_i h2
    simpa using List.all_eq_true.1 h2 m hm
  · cases h
theorem has_zero {A : Alpha} (hA : A.Ok) {i : Nat} (hi : i < A.lets.length) {p m : Nat} (hm : mayB A.feats.length p m = true) : hasE A (A.at_ i).rune p m = 0 ∧ hasB A (A.at_ i).rune p m = likeB (A.at_ i).plus (A.at_ i).minus p m := by
  have hE : hasE A (A.at_ i).rune p m = 0 := by
    unfold hasE
    rw [if_pos (ofE_ok hA (by rw [find_at hA hi]; omega)), if_pos hm]
  refine ⟨hE, ?_⟩
  unfold hasB
  rw [hE, ofL_ok hA (find_at hA hi)]
  simp
theorem takR_in {A : Alpha} (hA : A.Ok) {i j : Nat} (hi : i < A.lets.length) (hj : j < A.lets.length) (k : Nat) : ∃ t, t < A.lets.length ∧ takR A (A.at_ i) (A.at_ j) k = (A.at_ t).rune := by
  unfold takR
  split
  · exact ⟨i, hi, rfl⟩
  · unfold nearR
    rw [if_pos (has_zero hA hi (may_part hA hj k)).1]
    refine ⟨_, ?_, rfl⟩
    unfold nearIdx
    have := bestIdx_le (fun t => unlikeN (A.at_ t).plus (A.at_ t).minus (wantP (ofL A (A.at_ i).rune) ((A.at_ j).plus &&& k) ((A.at_ j).minus &&& k)) (wantM (ofL A (A.at_ i).rune) ((A.at_ j).plus &&& k) ((A.at_ j).minus &&& k))) (A.lets.length - 1)
    omega
theorem inA_at {A : Alpha} (hA : A.Ok) {t : Nat} (ht : t < A.lets.length) : 0 ≤ findLetter A (A.at_ t).rune := by rw [find_at hA ht]; omega
theorem sprL_inA {A : Alpha} (hA : A.Ok) {L : List Letter} (hF : FromA A L) {fr : Nat} (hfr : fr < L.length) (p k : Nat) : InA A (sprL A L p k fr) := fun r hr => by
  unfold sprL at hr
  obtain ⟨i, hi, rfl⟩ := List.mem_map.1 hr
  have hi' := List.mem_range.1 hi
  obtain ⟨t, ht, e⟩ := hF i hi'
  obtain ⟨u, hu, e2⟩ := hF fr hfr
  unfold sprR
  split
  · rw [e, e2]
    obtain ⟨x, hx, e3⟩ := takR_in hA ht hu k
    rw [e3]; exact inA_at hA hx
  · rw [e]; exact inA_at hA ht
theorem metL_inA {A : Alpha} (hA : A.Ok) {L : List Letter} (hF : FromA A L) (p c k : Nat) : InA A (metL A L p c k) := fun r hr => by
  unfold metL at hr
  obtain ⟨i, hi, rfl⟩ := List.mem_map.1 hr
  have hi' := List.mem_range.1 hi
  obtain ⟨t, ht, e⟩ := hF i hi'
  unfold metR
  cases hn : nxtR L c (L.length - 1 - i) with
  | none => show 0 ≤ findLetter A (la L i).rune; rw [e]; exact inA_at hA ht
  | some j =>
    have hj := nxtR_lt (by omega) hn
    obtain ⟨u, hu, e2⟩ := hF j hj
    show 0 ≤ findLetter A (if ofB (la L i) p = true then takR A (la L i) (la L j) k else (la L i).rune)
    split
    · rw [e, e2]
      obtain ⟨x, hx, e3⟩ := takR_in hA ht hu k
      rw [e3]; exact inA_at hA hx
    · rw [e]; exact inA_at hA ht
/-- the first of a class among the first j letters -/
def ft (L : List Letter) (p : Nat) : Nat → Option Nat
  | 0 => none
  | j + 1 => match ft L p j with
    | some f => some f
    | none => if ofB (la L j) p = true then some j else none
theorem ft_spec (L : List Letter) (p : Nat) : ∀ j, j ≤ L.length → (∀ f, ft L p j = some f → firstI L p = some f ∧ f < j) ∧ (ft L p j = none → ∀ t, t < j → ofB (la L t) p = false)
  | 0, _ => ⟨fun f h => (by cases h), fun _ t ht => absurd ht (by omega)⟩
  | j + 1, hj => by
    obtain ⟨h1, h2⟩ := ft_spec L p j (by omega)
    unfold ft
    cases hf : ft L p j with
    | some f =>
      refine ⟨fun g hg => ?_, fun h => by cases h⟩
      cases hg
      exact ⟨(h1 f hf).1, by have := (h1 f hf).2; omega⟩
    | none =>
      have h3 := h2 hf
      by_cases hB : ofB (la L j) p = true
      · refine ⟨fun g hg => ?_, fun h => ?_⟩
        · simp only [hB, if_true, Option.some.injEq] at hg
          subst hg
          exact ⟨firstI_at (by omega) h3 hB, by omega⟩
        · simp only [hB, if_true] at h; cases h
      · refine ⟨fun g hg => ?_, fun _ t ht => ?_⟩
        · simp only [hB] at hg; cases hg
        · by_cases e : t = j
          · subst e; simpa using hB
          · exact h3 t (by omega)
/-- the letters of what has spread -/
def sprM (A : Alpha) (s : ByteArray) (p k : Nat) : List Int := match firstI (sgn A s) p with
  | none => ltr A s
  | some f => sprL A (sgn A s) p k f
theorem firstI_lt {L : List Letter} {p f : Nat} (h : firstI L p = some f) : f < L.length := (List.findIdx?_eq_some_iff_getElem.1 h).1
theorem sprM_len (A : Alpha) (s : ByteArray) (p k : Nat) : (sprM A s p k).length = (ltr A s).length := by
  unfold sprM
  split
  · rfl
  · rw [sprL_len, sgn_length]
theorem sprS_ltr {A : Alpha} {s : ByteArray} {p k : Nat} (h : signE A s [p, k] = 0) : ltr A (sprS A s p k) = sprM A s p k ∧ ltrE A (sprS A s p k) = 0 := by
  have hl0 := (signE_zero h).1
  have hok := (ltr_ok hl0).1
  unfold sprS sprM
  rw [if_pos h]
  cases hf : firstI (sgn A s) p with
  | none => exact ⟨rfl, hl0⟩
  | some f => exact ltr_rb hok (sprL_inA hok (sgn_fromA hl0) (firstI_lt hf) p k) (by rw [sprL_len]; exact sgn_len hl0)
theorem sprM_at {A : Alpha} {s : ByteArray} {p k : Nat} (h : ltrE A s = 0) {j : Nat} (hj : j < (sgn A s).length) :
    (ofB (la (sgn A s) j) p = false → rn (sprM A s p k) j = rn (ltr A s) j ∧ ft (sgn A s) p (j + 1) = ft (sgn A s) p j) ∧
    (ofB (la (sgn A s) j) p = true → ft (sgn A s) p j = none → rn (sprM A s p k) j = rn (ltr A s) j ∧ ft (sgn A s) p (j + 1) = some j) ∧
    (ofB (la (sgn A s) j) p = true → ∀ f, ft (sgn A s) p j = some f → f < (sgn A s).length ∧ rn (sprM A s p k) j = takR A (la (sgn A s) j) (la (sgn A s) f) k ∧ ft (sgn A s) p (j + 1) = some f) := by
  obtain ⟨h1, h2⟩ := ft_spec (sgn A s) p j (Nat.le_of_lt hj)
  have hs : ft (sgn A s) p (j + 1) = match ft (sgn A s) p j with | some f => some f | none => if ofB (la (sgn A s) j) p = true then some j else none := rfl
  have hrn := la_rune h hj
  refine ⟨fun hB => ⟨?_, ?_⟩, fun hB hn => ⟨?_, ?_⟩, fun hB f hf => ⟨?_, ?_, ?_⟩⟩
  · unfold sprM
    cases hf : firstI (sgn A s) p with
    | none => rfl
    | some f =>
      show rn (sprL A (sgn A s) p k f) j = _
      rw [sprL_at _ _ _ _ _ hj]
      unfold sprR
      rw [if_neg (fun hc => by rw [hB] at hc; cases hc.2), hrn]
  · rw [hs, hB]
    cases ft (sgn A s) p j <;> simp
  · have hf := firstI_at hj (h2 hn) hB
    unfold sprM
    rw [hf]
    show rn (sprL A (sgn A s) p k j) j = _
    rw [sprL_at _ _ _ _ _ hj]
    unfold sprR
    rw [if_neg (fun hc => hc.1 rfl), hrn]
  · rw [hs, hn, hB]; rfl
  · have := (h1 f hf).2; omega
  · obtain ⟨h3, h4⟩ := h1 f hf
    unfold sprM
    rw [h3]
    show rn (sprL A (sgn A s) p k f) j = _
    rw [sprL_at _ _ _ _ _ hj]
    unfold sprR
    rw [if_pos ⟨by omega, hB⟩]
  · rw [hs, hf]
theorem takR_zero (A : Alpha) (l f : Letter) : takR A l f 0 = l.rune := by
  unfold takR
  rw [if_pos (by simp [likeB])]
theorem sprL_same {A : Alpha} {s : ByteArray} (h : ltrE A s = 0) {p k fr : Nat} (hs : ∀ i, i < (sgn A s).length → sprR A (sgn A s) p k fr i = (la (sgn A s) i).rune) : runesBytes (sprL A (sgn A s) p k fr) = s := by
  have e : sprL A (sgn A s) p k fr = ltr A s := by
    unfold sprL
    apply List.ext_getElem
    · simp [sgn_length]
    · intro i h1 h2
      have hi : i < (sgn A s).length := by simpa using h1
      simp only [List.getElem_map, List.getElem_range]
      rw [hs i hi, la_rune h hi, rn_eq h2]
  rw [e]
  exact (ltr_ok h).2.1
theorem sprS_zero {A : Alpha} {s : ByteArray} {p : Nat} (h : signE A s [p, 0] = 0) : sprS A s p 0 = s := by
  have hl0 := (signE_zero h).1
  unfold sprS
  rw [if_pos h]
  cases hf : firstI (sgn A s) p with
  | none => rfl
  | some f =>
    refine sprL_same hl0 fun i hi => ?_
    unfold sprR
    split
    · exact takR_zero _ _ _
    · rfl
end Go.Cg
namespace Go.Proofs.YtcnjgfadihimiaaDoor
open Go.RowKit Go.Cg Go.Shelf Go.Maps

set_option maxRecDepth 100000 in
set_option maxHeartbeats 2000000 in
theorem taken_any (fp lp : Option Addr) (fc lc : Nat) (A : Alpha) (hok : A.Ok) (i j : Nat) (hi : i < A.lets.length) (hj : j < A.lets.length) (k : Nat) (hk : k < 4294967296) (w : World) (hA : AlphaAt w fp lp A) :
    Calls Tryd.prog 26 #[.agg #[.slice fp A.feats.length fc, .slice lp A.lets.length lc], .int .i32 (takR A (A.at_ i) (A.at_ j) k), .int .i32 (A.at_ i).rune, .int .i32 (A.at_ j).rune, .int .u32 k] w fun e w' => e = .returned (.bool true) ∧ Ext w w' := by
  have hx0 : Ext w (w.alloc (.cells #[.slice fp A.feats.length fc, .slice lp A.lets.length lc] 26)) := (Ext.refl _).alloc _
  obtain ⟨b1, b2, b3, b4⟩ := hA.wf j hj
  have e1 := u32_and_nat (A.at_ j).plus k b3 hk
  have e2 := u32_and_nat (A.at_ j).minus k b4 hk
  have hmay := may_part hok hj k
  have hpl : (A.at_ j).plus &&& k < 4294967296 := Nat.lt_of_le_of_lt Nat.and_le_left b3
  have hml : (A.at_ j).minus &&& k < 4294967296 := Nat.lt_of_le_of_lt Nat.and_le_left b4
  have hof := fun W (hW : Ext w W) => of_any fp lp fc lc A (A.at_ j).rune W (hA.mono hW)
  rw [ofL_ok hok (find_at hok hj), ofE_ok hok (inA_at hok hj)] at hof
  have hhas := fun W (hW : Ext w W) => has_any fp lp fc lc A (A.at_ i).rune _ _ hpl hml W (hA.mono hW)
  have hnear := fun W (hW : Ext w W) => near_any fp lp fc lc A (A.at_ i).rune _ _ hpl hml W (hA.mono hW)
  obtain ⟨hz1, hz2⟩ := has_zero hok hi hmay
  rw [hz1, hz2] at hhas
  rw [hz1] at hnear
  have ht : takR A (A.at_ i) (A.at_ j) k = if likeB (A.at_ i).plus (A.at_ i).minus ((A.at_ j).plus &&& k) ((A.at_ j).minus &&& k) = true then (A.at_ i).rune else nearR A (A.at_ i).rune ((A.at_ j).plus &&& k) ((A.at_ j).minus &&& k) := rfl
  rw [ht]
  clear ht hz1 hz2 hmay
  obtain ⟨p, hp⟩ : ∃ p, (A.at_ j).plus &&& k = p := ⟨_, rfl⟩
  obtain ⟨m, hm⟩ : ∃ m, (A.at_ j).minus &&& k = m := ⟨_, rfl⟩
  rw [hp] at e1 hhas hnear hpl ⊢
  rw [hm] at e2 hhas hnear hml ⊢
  clear hp hm
  obtain ⟨b, hb⟩ : ∃ b, likeB (A.at_ i).plus (A.at_ i).minus p m = b := ⟨_, rfl⟩
  obtain ⟨N, hN⟩ : ∃ N, nearR A (A.at_ i).rune p m = N := ⟨_, rfl⟩
  rw [hb] at hhas ⊢
  rw [hN] at hnear ⊢
  have HOF := Lib.hid hof
  have HH := Lib.hid hhas
  have HN := Lib.hid hnear
  have HBX := Lib.hid (fun W (hW : Ext (w.alloc (.cells #[.slice fp A.feats.length fc, .slice lp A.lets.length lc] 26)) W) => (⟨hW.cell0 0, hW.cell0 1, hW.lt0⟩ : W.cell? ⟨w.heap.size, 0, none⟩ = some (.slice fp A.feats.length fc) ∧ W.cell? ⟨w.heap.size, 1, none⟩ = some (.slice lp A.lets.length lc) ∧ w.heap.size < W.heap.size))
  clear hb hN hof hhas hnear
  cases b
  · rw [if_neg (by decide)]
    go_enter Tryd.func26, Tryd.ntmps26
    go_wp2_with fail
    refine (HOF.out _ hx0).mono ?_
    rintro e w1 ⟨rfl, hx1⟩
    obtain ⟨d0, d1, l0⟩ := HBX.out _ hx1
    go_wp2_with fail
    have hy1 := hx1.alloc (.cells #[.int .i32 (A.at_ j).rune, .int .u32 ((A.at_ j).plus : Int), .int .u32 ((A.at_ j).minus : Int)] 52)
    refine (HH.out _ (hx0.trans hy1)).mono ?_
    rintro e w2 ⟨rfl, hx2⟩
    have hy2 := hy1.trans hx2
    obtain ⟨d0, d1, l0⟩ := HBX.out _ hy2
    go_wp2_with fail
    refine (HN.out _ (hx0.trans hy2)).mono ?_
    rintro e w3 ⟨rfl, hx3⟩
    go_wp2_with fail
    go_ret
    exact ⟨rfl, (hx0.trans hy2).trans hx3⟩
  · rw [if_pos rfl]
    go_enter Tryd.func26, Tryd.ntmps26
    go_wp2_with fail
    refine (HOF.out _ hx0).mono ?_
    rintro e w1 ⟨rfl, hx1⟩
    obtain ⟨d0, d1, l0⟩ := HBX.out _ hx1
    go_wp2_with fail
    have hy1 := hx1.alloc (.cells #[.int .i32 (A.at_ j).rune, .int .u32 ((A.at_ j).plus : Int), .int .u32 ((A.at_ j).minus : Int)] 52)
    refine (HH.out _ (hx0.trans hy1)).mono ?_
    rintro e w2 ⟨rfl, hx2⟩
    go_wp2_with fail
    go_ret
    exact ⟨rfl, (hx0.trans hy1).trans hx2⟩

end Go.Proofs.YtcnjgfadihimiaaDoor
