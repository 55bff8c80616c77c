/- Words' letters and classes: rows of letters searched, the class of a letter, the reference's Class and Has. -/
import Derived.Test.YtcnhlogkhnoacaaGreatDoorWordc
import Derived.Test.YtcnhlogkhnoacaaGreatDoorDoubz
import Derived.Test.YtcnhlogkhnoacaaGreatDoorFeati
import Derived.Test.YtcnhlogkhnoacaaGreatDoorFeatg
namespace Go.Proofs.YtcnhlogkhnoacaaGreatDoor
open Go.RowKit Go.Cg Go.Shelf Go.Maps

theorem OwnRunes_some {T B : Nat} {w : World} {p : Option Addr} {c : Nat} {l : List Int} (h : OwnRunes T B w p c l) (h0 : 0 < l.length) : ∃ g, p = some ⟨g, 0, none⟩ ∧ l.length ≤ c ∧ B ≤ g := by
  rcases h.1.2 with ⟨_, hn⟩ | ⟨g, cap, cur, hv, hb, hg, hn, hc, _⟩
  · omega
  · simp only [Value.slice.injEq, true_and] at hv
    obtain ⟨rfl, rfl⟩ := hv
    exact ⟨g, rfl, hn, hb⟩

theorem spell_len (A : Alpha) (s : ByteArray) : (spell A s).1.length ≤ 64 := by
  unfold spell
  split
  · exact (spellFrom_rune A s _ _ _ (fun r hr => by cases hr) (by simp)).2
  · simp

theorem spell_runes {A : Alpha} {s : ByteArray} (h : (spell A s).2 = 0) : ∀ r ∈ (spell A s).1, runeOk r = true := by
  obtain ⟨hA, _, hin, _⟩ := spell_ok h
  exact fun r hr => letter_ok hA (hin r hr)

theorem cut_mem {l : List Int} {i j : Nat} {q : Int → Prop} (h : ∀ r ∈ l, q r) : ∀ r ∈ cutL l i j, q r := fun r hr => h r (List.mem_of_mem_drop (List.mem_of_mem_take hr))

theorem OwnRunes_form {T B : Nat} {w : World} {p : Option Addr} {c : Nat} {l : List Int} (h : OwnRunes T B w p c l) : ((∃ b off, p = some ⟨b, off, none⟩) ∨ (p = none ∧ c = 0)) ∧ l.length ≤ c := by
  rcases h.1.2 with ⟨hv, hn⟩ | ⟨g, cap, cur, hv, hb, hg, hn, hc, _⟩
  · simp only [Value.slice.injEq] at hv
    exact ⟨.inr ⟨hv.1, hv.2.2⟩, by omega⟩
  · simp only [Value.slice.injEq, true_and] at hv
    obtain ⟨rfl, rfl⟩ := hv
    exact ⟨.inl ⟨g, 0, rfl⟩, hn⟩

theorem InA_app {A : Alpha} {a b : List Int} (ha : InA A a) (hb : InA A b) : InA A (a ++ b) := fun r hr => (List.mem_append.1 hr).elim (ha r) (hb r)

theorem InA_take {A : Alpha} {a : List Int} (ha : InA A a) (n : Nat) : InA A (a.take n) := fun r hr => ha r (List.mem_of_mem_take hr)

theorem InA_drop {A : Alpha} {a : List Int} (ha : InA A a) (n : Nat) : InA A (a.drop n) := fun r hr => ha r (List.mem_of_mem_drop hr)

theorem mem_of_rn {l : List Int} {r : Int} {k : Nat} (hk : k < l.length) (h : rn l k = r) : r ∈ l := by
  rw [rn_eq hk] at h; rw [← h]; exact List.getElem_mem hk

theorem not_mem_rn {l : List Int} {r : Int} (h : ∀ j, j < l.length → rn l j ≠ r) : ¬ r ∈ l := fun hm => by
  obtain ⟨j, hj, e⟩ := List.getElem_of_mem hm
  exact h j hj (by rw [rn_eq hj]; exact e)

set_option maxHeartbeats 1000000 in
theorem Index_any (p : Option Addr) (c : Nat) (l : List Int) (r : Int) (w : World) (h : RunesAt w p l) :
    Calls Tryz.prog 150 #[.slice p l.length c, .int .i32 r] w fun e w' => (∃ v : Int, e = .returned (.int .i64 v) ∧ -1 ≤ v ∧ v ≤ 35184372088832 ∧ decide (0 ≤ v) = decide (r ∈ l)) ∧ Ext w w' := by
  have hb := h.big
  go_enter Tryz.func150, Tryz.ntmps150
  go_wp2_with fail
  go_loopw [8] (fun i wr => ∃ k : Nat, k ≤ l.length ∧ Hid (∀ j, j < k → rn l j ≠ r) ∧ i = .int .i64 k ∧ Ext w wr) (fun i _ => l.length - (intOf i).toNat)
  case atStart => exact ⟨0, Nat.zero_le _, fun j hj => by omega, rfl, Ext.refl _⟩
  case round =>
    obtain ⟨k, hk, HN, rfl, hx⟩ := hrel
    by_cases hlt : k < l.length
    · obtain ⟨b, off, rfl, hbw, c0⟩ := (h.mono hx).cells hlt
      cases he : (r == rn l k)
      · go_wp2_with fail
        refine ⟨⟨k + 1, by omega, upto_succ HN.out (fun e => by rw [e] at he; simp at he), by go_num, hx⟩, by simp [intOf]; omega⟩
      · go_wp2_with fail
        go_ret
        refine ⟨⟨k, rfl, by omega, by omega, ?_⟩, hx⟩
        rw [decide_eq_true (by omega), decide_eq_true (mem_of_rn hlt (by simp at he; exact he.symm))]
    · go_wp2_with fail
      go_ret
      refine ⟨⟨-1, rfl, by omega, by omega, ?_⟩, hx⟩
      rw [decide_eq_false (not_mem_rn fun j hj => HN.out j (by omega))]; rfl

set_option maxHeartbeats 1000000 in
theorem Contains_any (p : Option Addr) (c : Nat) (l : List Int) (r : Int) (w : World) (h : RunesAt w p l) :
    Calls Tryz.prog 116 #[.slice p l.length c, .int .i32 r] w fun e w' => e = .returned (.bool (decide (r ∈ l))) ∧ Ext w w' := by
  go_enter Tryz.func116, Tryz.ntmps116
  go_wp2_with (go_at_call 150; refine (Index_any _ _ _ _ _ h).mono ?_; rintro e w1 ⟨⟨v, rfl, hv1, hv2, hv⟩, hx⟩)
  go_ret
  exact ⟨rfl, hx⟩

theorem runes_news {w : World} {b off : Nat} {l : List Int} (h : RunesAt w (some ⟨b, off, none⟩) l) : ∀ (j : Nat) (u : Value), (l.map (Value.int .i32))[j]? = some u → w.cell? ((⟨b, off, none⟩ : Addr).add j) = some u := by
  intro j u hu
  have e : ((⟨b, off, none⟩ : Addr).add j) = ⟨b, off + j, none⟩ := by simp [Addr.add]
  rw [List.getElem?_map] at hu
  by_cases hj : j < l.length
  · rw [List.getElem?_eq_getElem hj] at hu
    rw [e, (h.cell hj).2, rn_eq hj, ← hu]; rfl
  · rw [List.getElem?_eq_none (by omega)] at hu; cases hu

theorem news_one (l : List Int) : ∀ u ∈ l.map (Value.int .i32), u.oneCell' = true := by
  intro u hu
  obtain ⟨r, _, rfl⟩ := List.mem_map.1 hu
  rfl

theorem findLetter_bits {A : Alpha} {r : Int} (h : 0 ≤ findLetter A r) : ∃ i : Nat, findLetter A r = i ∧ i < A.lets.length ∧ (A.at_ i).rune = r := by
  obtain ⟨i, h1, h2, h3, _⟩ := findLetter_some h
  exact ⟨i, h1, h2, h3⟩

/-- has a rune the class? -/
def hasL (A : Alpha) (p m : Nat) (r : Int) : Bool := decide (0 ≤ findLetter A r) && likeB (A.at_ (findLetter A r).toNat).plus (A.at_ (findLetter A r).toNat).minus p m

theorem asked_nil (A : Alpha) : askedN A [] = if A.Ok then 0 else 7 := by
  unfold askedN
  split
  · rw [if_pos fun i hi => absurd hi (by simp)]
  · rfl

set_option maxHeartbeats 1000000 in
theorem Check03_any (fp lp : Option Addr) (fc lc : Nat) (A : Alpha) (s : ByteArray) (hs : s.size ≤ 140737488351232) (w : World) (hA : AlphaAt w fp lp A) (hT : Tabs w) :
    Calls Tryz.prog 7 #[.agg #[.slice fp A.feats.length fc, .slice lp A.lets.length lc], .string s] w fun e w' => e = .returned (.int .i64 (spell A s).2) ∧ Ext w w' := by
  have hx3 : Ext w (w.alloc (.cells #[.slice fp A.feats.length fc, .slice lp A.lets.length lc] 25)) := (Ext.refl _).alloc _
  have hcon := Letters_any fp lp fc lc A s hs _ (hA.mono hx3) (hT.ext hx3)
  go_enter Tryz.func7, Tryz.ntmps7
  go_wp2_with (go_at_call 30; refine hcon.mono ?_; rintro e w1 ⟨lrp, lrc, rfl, ho, hx1⟩)
  go_ret
  exact ⟨rfl, hx3.trans hx1⟩

theorem text_take {T B : Nat} {w : World} {g c : Nat} {l : List Int} {m : Nat} (h : OwnRunes T B w (some ⟨g, 0, none⟩) c l) (hm : m ≤ l.length) :
    (convert 36 9 (.slice (some ⟨g, 0, none⟩) m c)).run Tryz.prog w = .ok (.string (runesBytes (l.take m))) w := by
  have := (h.at_.take m).text (P := Tryz.prog) (src := 36) (dst := 9) Tryz.underlying36 Tryz.underlying21 Tryz.underlying9 c
  rw [List.length_take, Nat.min_eq_left hm] at this
  exact this

theorem classTo_has (A : Alpha) (p m : Nat) : ∀ k i, i < k → likeB (A.at_ i).plus (A.at_ i).minus p m = true → (A.at_ i).rune ∈ classTo A p m k
  | 0, i, h, _ => by omega
  | k + 1, i, h, hl => by
    rw [classTo]
    by_cases e : i = k
    · subst e; rw [if_pos hl]; exact List.mem_append_right _ (List.mem_singleton.2 rfl)
    · have := classTo_has A p m k i (by omega) hl
      split
      · exact List.mem_append_left _ this
      · exact this

theorem classTo_of (A : Alpha) (p m : Nat) : ∀ k, ∀ r ∈ classTo A p m k, ∃ i, i < k ∧ (A.at_ i).rune = r ∧ likeB (A.at_ i).plus (A.at_ i).minus p m = true
  | 0, r, h => by cases h
  | k + 1, r, h => by
    rw [classTo] at h
    split at h
    · rename_i hl
      rcases List.mem_append.1 h with h | h
      · obtain ⟨i, a, b⟩ := classTo_of A p m k r h; exact ⟨i, by omega, b⟩
      · rw [List.mem_singleton.1 h]; exact ⟨k, Nat.lt_succ_self _, rfl, hl⟩
    · obtain ⟨i, a, b⟩ := classTo_of A p m k r h; exact ⟨i, by omega, b⟩

theorem class_has {A : Alpha} (hA : A.Ok) {p m : Nat} (hc : classE A p m = 0) {r : Int} (hr : 0 ≤ findLetter A r) : decide (r ∈ classL A p m) = hasL A p m r := by
  obtain ⟨i, h1, h2, h3⟩ := findLetter_bits hr
  have hL : classL A p m = classTo A p m A.lets.length := by unfold classL; rw [if_pos hc]
  have hh : hasL A p m r = likeB (A.at_ i).plus (A.at_ i).minus p m := by unfold hasL; rw [decide_eq_true hr, Bool.true_and, h1, Int.toNat_natCast]
  rw [hL, hh]
  cases hl : likeB (A.at_ i).plus (A.at_ i).minus p m
  · apply decide_eq_false
    intro hm
    obtain ⟨j, a, b, c⟩ := classTo_of A p m _ _ hm
    have hd := (hA.2.2.2.2 i h2).2.2
    have hd2 := (hA.2.2.2.2 j a).2.2
    have e : i = j := by
      rcases Nat.lt_trichotomy i j with h | h | h
      · exact absurd (h3.trans b.symm) (hd2 i h)
      · exact h
      · exact absurd (b.trans h3.symm) (hd j h)
    subst e
    rw [c] at hl; cases hl
  · apply decide_eq_true
    rw [← h3]; exact classTo_has A p m _ i h2 hl

end Go.Proofs.YtcnhlogkhnoacaaGreatDoor
