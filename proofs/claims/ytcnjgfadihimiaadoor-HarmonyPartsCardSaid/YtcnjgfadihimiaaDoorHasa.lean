/- Plain laws of the parts of a class. -/
import Derived.Test.YtcnjgfadihimiaaDoorHars
import Derived.Test.YtcnjgfadihimiaaDoorHaru
namespace Go.Cg
open Go.RowKit Go.Lib
def pg (ps : List (List Letter)) (i : Nat) : List Letter := ps.getD i []
theorem pg_eq {ps : List (List Letter)} {i : Nat} (h : i < ps.length) : pg ps i = ps[i] := by simp [pg, List.getD, h]
theorem pg_set (ps : List (List Letter)) (i : Nat) (x : List Letter) (j : Nat) (hi : i < ps.length) : pg (ps.set i x) j = if j = i then x else pg ps j := by
  unfold pg
  rw [List.getD_eq_getElem?_getD, List.getElem?_set]
  by_cases e : j = i
  · subst e; simp [hi]
  · rw [if_neg (fun h => e h.symm), if_neg e, List.getD_eq_getElem?_getD]
theorem pg_app (ps : List (List Letter)) (x : List Letter) (j : Nat) : pg (ps ++ [x]) j = if j = ps.length then x else pg ps j := by
  unfold pg
  rw [List.getD_eq_getElem?_getD, List.getD_eq_getElem?_getD]
  by_cases e : j = ps.length
  · subst e; simp
  · rw [if_neg e]
    by_cases h : j < ps.length
    · rw [List.getElem?_append_left h]
    · rw [List.getElem?_eq_none (by simp; omega), List.getElem?_eq_none (by omega)]
/-- how many letters the first i parts hold -/
def sumTo (ps : List (List Letter)) : Nat → Nat
  | 0 => 0
  | i + 1 => sumTo ps i + (pg ps i).length
theorem sumTo_app (ps : List (List Letter)) (x : List Letter) : ∀ i, i ≤ ps.length → sumTo (ps ++ [x]) i = sumTo ps i
  | 0, _ => rfl
  | i + 1, h => by
    unfold sumTo
    rw [sumTo_app ps x i (by omega), pg_app, if_neg (by omega)]
theorem sumTo_set (ps : List (List Letter)) (i : Nat) (hi : i < ps.length) (x : Letter) : ∀ n, sumTo (ps.set i (pg ps i ++ [x])) n = sumTo ps n + if i < n then 1 else 0
  | 0 => by simp [sumTo]
  | n + 1 => by
    unfold sumTo
    rw [sumTo_set ps i hi x n, pg_set _ _ _ _ hi]
    by_cases e : n = i
    · subst e
      rw [if_neg (Nat.lt_irrefl _), if_pos rfl, if_pos (Nat.lt_succ_self _), List.length_append]
      simp; omega
    · rw [if_neg e]
      by_cases h : i < n
      · rw [if_pos h, if_pos (by omega)]; omega
      · rw [if_neg h, if_neg (by omega)]; omega
/-- what the parts of the first j letters are -/
structure PartI (A : Alpha) (p k j : Nat) (ps : List (List Letter)) : Prop where
  ne : ∀ q ∈ ps, q ≠ []
  mem : ∀ i, i < ps.length → ∀ y, y ∈ pg ps i → findP k ps (mkey y k) = some i
  all : ∀ t, t < j → ofB (A.at_ t) p = true → ∃ i, i < ps.length ∧ A.at_ t ∈ pg ps i
  sum : sumTo ps ps.length = (classTo A p 0 j).length
  first : ∀ q, ps[0]? = some q → (classTo A p 0 j)[0]? = some (hdL q).rune
  none_ : ps = [] → classTo A p 0 j = []
theorem partI (A : Alpha) (p k : Nat) : ∀ j, PartI A p k j (setsTo A p k j)
  | 0 => ⟨fun q hq => (by cases hq), fun i hi => absurd hi (by simp [setsTo]), fun t ht => absurd ht (by omega), rfl, fun q hq => (by cases hq), fun _ => rfl⟩
  | j + 1 => by
    have ih := partI A p k j
    have hc : classTo A p 0 (j + 1) = if ofB (A.at_ j) p = true then classTo A p 0 j ++ [(A.at_ j).rune] else classTo A p 0 j := by
      rw [classTo, likeB_zero]
    unfold setsTo
    by_cases hB : ofB (A.at_ j) p = true
    · rw [if_pos hB]
      rw [if_pos hB] at hc
      have hadd := fun key => findP_add (k := k) ih.ne (A.at_ j) key
      cases hf : findP k (setsTo A p k j) (mkey (A.at_ j) k) with
      | some i =>
        have hi := findP_lt hf
        have e : addP k (setsTo A p k j) (A.at_ j) = (setsTo A p k j).set i (pg (setsTo A p k j) i ++ [A.at_ j]) := by unfold addP; rw [hf]; rfl
        rw [hf] at hadd
        rw [e] at hadd ⊢
        generalize setsTo A p k j = ps at *
        refine ⟨fun q hq => ?_, fun a ha y hy => ?_, fun t ht hBt => ?_, ?_, fun q hq => ?_, fun h => ?_⟩
        · rcases List.mem_or_eq_of_mem_set hq with h | h
          · exact ih.ne q h
          · subst h; simp
        · rw [List.length_set] at ha
          rw [pg_set _ _ _ _ hi] at hy
          rw [hadd]
          by_cases e2 : a = i
          · rw [if_pos e2] at hy
            subst e2
            rcases List.mem_append.1 hy with h | h
            · rw [ih.mem a ha y h]; split <;> rfl
            · simp at h; subst h; rw [if_pos rfl]; rfl
          · rw [if_neg e2] at hy
            have h1 := ih.mem a ha y hy
            rw [if_neg (fun e3 => by rw [e3, hf] at h1; exact e2 (by simpa using h1.symm)), h1]
        · by_cases e2 : t = j
          · subst e2
            exact ⟨i, by rw [List.length_set]; exact hi, by rw [pg_set _ _ _ _ hi, if_pos rfl]; simp⟩
          · obtain ⟨a, h1, h2⟩ := ih.all t (by omega) hBt
            refine ⟨a, by rw [List.length_set]; exact h1, ?_⟩
            rw [pg_set _ _ _ _ hi]
            split
            · rename_i e3; subst e3; exact List.mem_append_left _ h2
            · exact h2
        · rw [List.length_set, sumTo_set _ _ hi, if_pos hi, ih.sum, hc, List.length_append]; rfl
        · rw [List.getElem?_set] at hq
          rw [hc]
          by_cases e2 : i = 0
          · subst e2
            rw [if_pos rfl, if_pos hi] at hq
            simp only [Option.some.injEq] at hq
            subst hq
            have h0 : ps[0]? = some (pg ps 0) := by rw [List.getElem?_eq_getElem hi, pg_eq hi]
            have := ih.first _ h0
            rw [hd_app (ih.ne _ (by rw [pg_eq hi]; exact List.getElem_mem hi))]
            rw [List.getElem?_append_left (by
              rcases Nat.lt_or_ge 0 (classTo A p 0 j).length with h | h
              · exact h
              · rw [List.getElem?_eq_none (by omega)] at this; cases this)]
            exact this
          · rw [if_neg e2] at hq
            have := ih.first _ hq
            rw [List.getElem?_append_left (by
              rcases Nat.lt_or_ge 0 (classTo A p 0 j).length with h | h
              · exact h
              · rw [List.getElem?_eq_none (by omega)] at this; cases this)]
            exact this
        · have := congrArg List.length h
          simp at this
          subst this
          exact absurd hi (by simp)
      | none =>
        have e : addP k (setsTo A p k j) (A.at_ j) = setsTo A p k j ++ [[A.at_ j]] := by unfold addP; rw [hf]
        rw [hf] at hadd
        rw [e] at hadd ⊢
        generalize setsTo A p k j = ps at *
        refine ⟨fun q hq => ?_, fun a ha y hy => ?_, fun t ht hBt => ?_, ?_, fun q hq => ?_, fun h => absurd h (by simp)⟩
        · rcases List.mem_append.1 hq with h | h
          · exact ih.ne q h
          · simp at h; subst h; simp
        · rw [hadd]
          rw [pg_app] at hy
          by_cases e2 : a = ps.length
          · rw [if_pos e2] at hy
            simp at hy; subst hy
            rw [if_pos rfl, e2]; rfl
          · rw [if_neg e2] at hy
            have h1 := ih.mem a (by simp at ha; omega) y hy
            rw [if_neg (fun e3 => by rw [e3, hf] at h1; cases h1), h1]
        · by_cases e2 : t = j
          · subst e2
            exact ⟨ps.length, by simp, by rw [pg_app, if_pos rfl]; simp⟩
          · obtain ⟨a, h1, h2⟩ := ih.all t (by omega) hBt
            exact ⟨a, by simp; omega, by rw [pg_app, if_neg (by omega)]; exact h2⟩
        · rw [List.length_append, List.length_singleton]
          unfold sumTo
          rw [sumTo_app _ _ _ (Nat.le_refl _), pg_app, if_pos rfl, ih.sum, hc, List.length_append]; rfl
        · rw [hc]
          cases hps : ps with
          | nil =>
            rw [hps] at hq
            simp at hq
            subst hq
            rw [ih.none_ hps]; rfl
          | cons a r =>
            rw [hps] at hq
            simp at hq
            subst hq
            have := ih.first a (by rw [hps]; rfl)
            rw [List.getElem?_append_left (by
              rcases Nat.lt_or_ge 0 (classTo A p 0 j).length with h | h
              · exact h
              · rw [List.getElem?_eq_none (by omega)] at this; cases this)]
            exact this
    · rw [if_neg hB]
      rw [if_neg hB] at hc
      refine ⟨ih.ne, ih.mem, fun t ht hBt => ?_, by rw [hc]; exact ih.sum, by rw [hc]; exact ih.first, by rw [hc]; exact ih.none_⟩
      by_cases e2 : t = j
      · subst e2; exact absurd hBt hB
      · exact ih.all t (by omega) hBt
/-- the number of the part of letter j of the class -/
def ixO (A : Alpha) (p k j : Nat) : Nat := (findP k (setsTo A p k A.lets.length) (mkey (letOf A (rn (classTo A p 0 A.lets.length) j)) k)).getD 0
theorem letOf_at {A : Alpha} (hA : A.Ok) {t : Nat} (ht : t < A.lets.length) : letOf A (A.at_ t).rune = A.at_ t := by
  unfold letOf; rw [find_at hA ht]; rfl
theorem class_let {A : Alpha} (hA : A.Ok) (p : Nat) {j : Nat} (hj : j < (classTo A p 0 A.lets.length).length) : ∃ t, t < A.lets.length ∧ rn (classTo A p 0 A.lets.length) j = (A.at_ t).rune ∧ ofB (A.at_ t) p = true ∧ letOf A (rn (classTo A p 0 A.lets.length) j) = A.at_ t := by
  have hm : rn (classTo A p 0 A.lets.length) j ∈ classTo A p 0 A.lets.length := by rw [rn_eq hj]; exact List.getElem_mem hj
  obtain ⟨t, ht, hr, hl⟩ := Go.Proofs.YtcnjgfadihimiaaDoor.classTo_of A p 0 _ _ hm
  rw [likeB_zero] at hl
  exact ⟨t, ht, hr.symm, hl, by rw [← hr]; exact letOf_at hA ht⟩
theorem ixO_spec {A : Alpha} (hA : A.Ok) (p k : Nat) {j : Nat} (hj : j < (classTo A p 0 A.lets.length).length) :
    findP k (setsTo A p k A.lets.length) (mkey (letOf A (rn (classTo A p 0 A.lets.length) j)) k) = some (ixO A p k j) ∧ ixO A p k j < (setsTo A p k A.lets.length).length ∧ letOf A (rn (classTo A p 0 A.lets.length) j) ∈ pg (setsTo A p k A.lets.length) (ixO A p k j) := by
  obtain ⟨t, ht, hr, hB, hl⟩ := class_let hA p hj
  have hI := partI A p k A.lets.length
  obtain ⟨i, h1, h2⟩ := hI.all t ht hB
  have h3 := hI.mem i h1 _ h2
  unfold ixO
  rw [hl, h3]
  exact ⟨rfl, h1, h2⟩
theorem ixO_of {A : Alpha} (hA : A.Ok) (p k : Nat) {j i u : Nat} (hi : i < (setsTo A p k A.lets.length).length) (hu : u < (pl (runesP (setsTo A p k A.lets.length)) i).length) (he : rn (classTo A p 0 A.lets.length) j = rn (pl (runesP (setsTo A p k A.lets.length)) i) u) : ixO A p k j = i := by
  have hI := partI A p k A.lets.length
  rw [pl_runes] at hu he
  rw [List.length_map] at hu
  have hu2 : u < (pg (setsTo A p k A.lets.length) i).length := hu
  have hm : (pg (setsTo A p k A.lets.length) i)[u] ∈ pg (setsTo A p k A.lets.length) i := List.getElem_mem hu2
  have hq : pg (setsTo A p k A.lets.length) i ∈ setsTo A p k A.lets.length := by rw [pg_eq hi]; exact List.getElem_mem hi
  obtain ⟨t, ht, e⟩ := setsTo_from A p k _ (Nat.le_refl _) _ hq _ hm
  have hr : rn (classTo A p 0 A.lets.length) j = (A.at_ t).rune := by
    rw [he, rn_eq (by rw [List.length_map]; exact hu), List.getElem_map]
    show ((pg (setsTo A p k A.lets.length) i)[u]).rune = _
    rw [e]
  have hl : letOf A (rn (classTo A p 0 A.lets.length) j) = A.at_ t := by rw [hr]; exact letOf_at hA ht
  unfold ixO
  rw [hl, ← e, hI.mem i hi _ hm]
  rfl
theorem ixO_in {A : Alpha} (hA : A.Ok) (p k : Nat) {j : Nat} (hj : j < (classTo A p 0 A.lets.length).length) : rn (classTo A p 0 A.lets.length) j ∈ pl (runesP (setsTo A p k A.lets.length)) (ixO A p k j) := by
  obtain ⟨t, ht, hr, hB, hl⟩ := class_let hA p hj
  obtain ⟨_, _, h3⟩ := ixO_spec hA p k hj
  rw [pl_runes, hr]
  rw [hl] at h3
  exact List.mem_map_of_mem h3
/-- what stands for letter j of the class when the parts below i, and k' letters of part i, have been met -/
def VA (A : Alpha) (p k i k' j : Nat) : Int := if ixO A p k j < i ∨ (ixO A p k j = i ∧ rn (classTo A p 0 A.lets.length) j ∈ (pl (runesP (setsTo A p k A.lets.length)) i).take k') then (ixO A p k j : Int) + 1 else 0
theorem VA_zero (A : Alpha) (p k j : Nat) : VA A p k 0 0 j = 0 := by unfold VA; rw [if_neg (by simp)]
theorem VA_step {A : Alpha} (hA : A.Ok) (p k : Nat) {i u j : Nat} (hi : i < (setsTo A p k A.lets.length).length) (hu : u < (pl (runesP (setsTo A p k A.lets.length)) i).length) :
    VA A p k i (u + 1) j = if rn (classTo A p 0 A.lets.length) j = rn (pl (runesP (setsTo A p k A.lets.length)) i) u then (i : Int) + 1 else VA A p k i u j := by
  unfold VA
  have ht : (pl (runesP (setsTo A p k A.lets.length)) i).take (u + 1) = (pl (runesP (setsTo A p k A.lets.length)) i).take u ++ [rn (pl (runesP (setsTo A p k A.lets.length)) i) u] := by
    rw [List.take_succ_eq_append_getElem hu, rn_eq hu]
  by_cases e : rn (classTo A p 0 A.lets.length) j = rn (pl (runesP (setsTo A p k A.lets.length)) i) u
  · have h1 := ixO_of hA p k hi hu e
    rw [if_pos e, if_pos (.inr ⟨h1, by rw [ht, e]; simp⟩), h1]
  · rw [if_neg e, ht]
    simp only [List.mem_append, List.mem_singleton, e, or_false]
theorem VA_next {A : Alpha} (hA : A.Ok) (p k : Nat) {i j : Nat} (hj : j < (classTo A p 0 A.lets.length).length) : VA A p k (i + 1) 0 j = VA A p k i (pl (runesP (setsTo A p k A.lets.length)) i).length j := by
  unfold VA
  rw [List.take_length]
  have hin := ixO_in hA p k hj
  by_cases e : ixO A p k j = i
  · rw [if_pos (.inl (by omega)), if_pos (.inr ⟨e, by rw [← e]; exact hin⟩)]
  · by_cases h : ixO A p k j < i
    · rw [if_pos (.inl (by omega)), if_pos (.inl h)]
    · rw [if_neg (by rintro (h1 | ⟨_, h1⟩); omega; simp at h1), if_neg (by rintro (h1 | ⟨h1, _⟩); exact h h1; exact e h1)]
theorem VA_end {A : Alpha} (hA : A.Ok) (p k : Nat) {j : Nat} (hj : j < (classTo A p 0 A.lets.length).length) : VA A p k (setsTo A p k A.lets.length).length 0 j = (ixO A p k j : Int) + 1 := by
  unfold VA
  rw [if_pos (.inl (ixO_spec hA p k hj).2.1)]
theorem ixO_first {A : Alpha} (hA : A.Ok) (p k : Nat) (h0 : 0 < (classTo A p 0 A.lets.length).length) : ixO A p k 0 = 0 := by
  have hI := partI A p k A.lets.length
  cases hps : setsTo A p k A.lets.length with
  | nil => rw [hI.none_ hps] at h0; exact absurd h0 (by simp)
  | cons q r =>
    have hf := hI.first q (by rw [hps]; rfl)
    have hq : q ∈ setsTo A p k A.lets.length := by rw [hps]; exact List.mem_cons_self
    have hne := hI.ne q hq
    have hh : hdL q ∈ q := by
      cases q with
      | nil => exact absurd rfl hne
      | cons a r => exact List.mem_cons_self
    obtain ⟨t, ht, e⟩ := setsTo_from A p k _ (Nat.le_refl _) q hq _ hh
    have hr : rn (classTo A p 0 A.lets.length) 0 = (A.at_ t).rune := by
      rw [rn_eq h0]
      rw [List.getElem?_eq_getElem h0] at hf
      rw [← e]; simpa using hf
    have hm := hI.mem 0 (by rw [hps]; simp) (hdL q) (by rw [hps]; exact hh)
    unfold ixO
    rw [hr, letOf_at hA ht, ← e, hm]; rfl
theorem ixO_same {A : Alpha} (hA : A.Ok) (p k : Nat) {i j : Nat} (hi : i < (classTo A p 0 A.lets.length).length) (hj : j < (classTo A p 0 A.lets.length).length) :
    al2 (letOf A (rn (classTo A p 0 A.lets.length) i)) (letOf A (rn (classTo A p 0 A.lets.length) j)) k = decide (ixO A p k i = ixO A p k j) := by
  have h1 := (ixO_spec hA p k hi).1
  have h2 := (ixO_spec hA p k hj).1
  rw [al2_key]
  apply decide_eq_decide.2
  constructor
  · intro e
    rw [e, h2] at h1
    simpa using h1.symm
  · intro e
    unfold findP at h1 h2
    obtain ⟨_, a1, _⟩ := List.findIdx?_eq_some_iff_getElem.1 h1
    obtain ⟨_, a2, _⟩ := List.findIdx?_eq_some_iff_getElem.1 h2
    simp only [decide_eq_true_eq] at a1 a2
    rw [← a1, ← a2]
    simp only [e]
theorem keepL_two {x y : Letter} {p k : Nat} (hx : ofB x p = true) (hy : ofB y p = true) : keepL [x, y] p k = al2 y x k := by
  cases h : al2 y x k
  · exact keepL_bad (t := 1) (u := 0) (by simp) (by omega) (by
      have e0 : la [x, y] 0 = x := rfl
      have e1 : la [x, y] 1 = y := rfl
      unfold badB
      rw [e0, e1, hx, hy, h]; rfl)
  · refine keepL_all fun t ht u hu => ?_
    have ht1 : t = 1 := by simp at ht; omega
    have hu0 : u = 0 := by omega
    subst ht1 hu0
    have e0 : la [x, y] 0 = x := rfl
    have e1 : la [x, y] 1 = y := rfl
    unfold badB
    rw [e0, e1, hx, hy, h]; rfl
/-- two letters of the class as a word -/
theorem two_keeps {A : Alpha} {p k : Nat} (h : setsE A p k = 0) {i j : Nat} (hi : i < (classTo A p 0 A.lets.length).length) (hj : j < (classTo A p 0 A.lets.length).length) :
    signE A (runesBytes [rn (classTo A p 0 A.lets.length) i, rn (classTo A p 0 A.lets.length) j]) [p, k] = 0 ∧ keepsB A (runesBytes [rn (classTo A p 0 A.lets.length) i, rn (classTo A p 0 A.lets.length) j]) p k = decide (ixO A p k j = ixO A p k i) := by
  have hA : A.Ok := by
    by_cases h9 : A.Ok
    · exact h9
    · unfold setsE at h; rw [if_neg h9] at h; cases h
  have hm : maskE A [p, k] = 0 := by unfold setsE at h; rwa [if_pos hA] at h
  obtain ⟨t, ht, hr, hB, hl⟩ := class_let hA p hi
  obtain ⟨u, hu, hr2, hB2, hl2⟩ := class_let hA p hj
  obtain ⟨q1, q2⟩ := ltr_rb hA (l := [rn (classTo A p 0 A.lets.length) i, rn (classTo A p 0 A.lets.length) j]) (fun r hr9 => by
    simp only [List.mem_cons, List.not_mem_nil, or_false] at hr9
    rcases hr9 with rfl | rfl
    · rw [hr]; exact inA_at hA ht
    · rw [hr2]; exact inA_at hA hu) (by simp)
  have hs : signE A (runesBytes [rn (classTo A p 0 A.lets.length) i, rn (classTo A p 0 A.lets.length) j]) [p, k] = 0 := by
    unfold signE; rw [q2, if_neg (by decide)]; exact hm
  refine ⟨hs, ?_⟩
  unfold keepsB
  rw [if_pos hs]
  have e : sgn A (runesBytes [rn (classTo A p 0 A.lets.length) i, rn (classTo A p 0 A.lets.length) j]) = [letOf A (rn (classTo A p 0 A.lets.length) i), letOf A (rn (classTo A p 0 A.lets.length) j)] := by
    unfold sgn; rw [q1]; rfl
  rw [e, keepL_two (by rw [hl]; exact hB) (by rw [hl2]; exact hB2), ixO_same hA p k hj hi]
end Go.Cg
