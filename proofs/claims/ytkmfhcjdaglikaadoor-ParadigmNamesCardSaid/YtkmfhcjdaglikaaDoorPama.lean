/- Contracts: the affixes' methods put and off, by themselves and through the interface; stemmed.put; begun. -/
import Derived.Test.YtkmfhcjdaglikaaDoorPare
import Derived.Test.YtkmfhcjdaglikaaDoorRegt
import Derived.Test.YtkmfhcjdaglikaaDoorParf
import Derived.Deep.CutRange
import Derived.Test.YtkmfhcjdaglikaaDoorParc
namespace Go.Cg
open Go.RowKit
/-- a slice of runes, its address and its room -/
structure SlAt (w : World) (p : Option Addr) (l : List Int) (c : Nat) : Prop where
  at_ : RunesAt w p l
  form : (∃ b off, p = some ⟨b, off, none⟩) ∨ (p = none ∧ c = 0)
  room : l.length ≤ c
theorem SlAt.mono {w w' : World} {p : Option Addr} {l : List Int} {c : Nat} (h : SlAt w p l c) (hx : Ext w w') : SlAt w' p l c := ⟨h.at_.mono hx, h.form, h.room⟩
theorem RunesAt.drop_ {w : World} {b off : Nat} {l : List Int} (h : RunesAt w (some ⟨b, off, none⟩) l) (k : Nat) : RunesAt w (some ⟨b, off + k, none⟩) (l.drop k) := by
  by_cases hk : k ≤ l.length
  · have := h.cut k l.length (Nat.le_refl _)
    unfold cutL at this
    rwa [List.take_of_length_le (by rw [List.length_drop]; omega)] at this
  · rw [List.drop_eq_nil_of_le (by omega)]; exact RunesAt.nil _ _
theorem sl_len {l : List Int} {n : Nat} (h : n ≤ l.length) : (l.take n).length = n := by rw [List.length_take]; omega
/-- what is sliced off a slice -/
theorem SlAt.sub {w : World} {b off : Nat} {l : List Int} {c : Nat} (h : SlAt w (some ⟨b, off, none⟩) l c) (i n : Nat) (S : List Int) (hS : (l.drop i).take n = S) : ∀ c', S.length ≤ c' → SlAt w (some ⟨b, off + i, none⟩) S c' := fun c' hc => by
  rw [← hS] at hc ⊢
  exact ⟨(h.at_.drop_ i).take n, .inl ⟨_, _, rfl⟩, hc⟩
theorem SlAt.nil_ {w : World} {b off : Nat} (S : List Int) (hS : S.length = 0) : ∀ c', S.length ≤ c' → SlAt w (some ⟨b, off, none⟩) S c' := fun c' hc => by
  have e := List.length_eq_zero_iff.1 hS
  subst e
  exact ⟨RunesAt.nil _ _, .inl ⟨_, _, rfl⟩, hc⟩
theorem SlAt.nil0 {w : World} (S : List Int) (hS : S.length = 0) : SlAt w none S 0 := by
  have e := List.length_eq_zero_iff.1 hS
  subst e
  exact ⟨RunesAt.nil _ _, .inr ⟨rfl, rfl⟩, Nat.le_refl _⟩
theorem SlAt.zero {w : World} {l : List Int} {c : Nat} (h : SlAt w none l c) : l = [] := h.at_.none_

end Go.Cg
namespace Go.Proofs.YtkmfhcjdaglikaaDoor
open Go.RowKit Go.Cg Go.Shelf Go.Maps

theorem SlAt.own {B : Nat} {w : World} {p : Option Addr} {c : Nat} {l : List Int} (h : OwnRunes 21 B w p c l) : SlAt w p l c := ⟨h.at_, (OwnRunes_form h).1, (OwnRunes_form h).2⟩

theorem Concat3_any (B : Nat) (p1 p2 p3 : Option Addr) (c1 c2 c3 : Nat) (l1 l2 l3 : List Int) (b1 : l1.length ≤ 4096) (b2 : l2.length ≤ 4096) (b3 : l3.length ≤ 4096) (w : World) (hB : B < w.heap.size)
    (hR : ∀ j, w.cell? ⟨B, j, none⟩ = #[Value.slice p1 l1.length c1, .slice p2 l2.length c2, .slice p3 l3.length c3][j]?) (h1 : RunesAt w p1 l1) (h2 : RunesAt w p2 l2) (h3 : RunesAt w p3 l3) :
    Calls Tryd.prog 112 #[.slice (some ⟨B, 0, none⟩) 3 3] w fun e w' => ∃ rp rc, e = .returned (.slice rp (l1 ++ l2 ++ l3).length rc) ∧ OwnRunes 21 w.heap.size w' rp rc (l1 ++ l2 ++ l3) ∧ Ext w w' := by
  have e : [l1, l2, l3].flatten = l1 ++ l2 ++ l3 := by simp
  rw [← e]
  refine Concat_any (some ⟨B, 0, none⟩) 3 [l1, l2, l3] (fun j => [p1, p2, p3].getD j none) (fun j => [c1, c2, c3].getD j 0) (by simp) (fun j hj => ?_) w (.inr ⟨B, 0, rfl, hB, fun j hj => ?_⟩) (fun j hj => ?_)
  · match j, hj with
    | 0, _ => exact b1
    | 1, _ => exact b2
    | 2, _ => exact b3
  · rw [Nat.zero_add, hR]
    match j, hj with
    | 0, _ => rfl
    | 1, _ => rfl
    | 2, _ => rfl
  · match j, hj with
    | 0, _ => exact h1
    | 1, _ => exact h2
    | 2, _ => exact h3
theorem Concat2_any (B : Nat) (p1 p2 : Option Addr) (c1 c2 : Nat) (l1 l2 : List Int) (b1 : l1.length ≤ 4096) (b2 : l2.length ≤ 4096) (w : World) (hB : B < w.heap.size)
    (hR : ∀ j, w.cell? ⟨B, j, none⟩ = #[Value.slice p1 l1.length c1, .slice p2 l2.length c2][j]?) (h1 : RunesAt w p1 l1) (h2 : RunesAt w p2 l2) :
    Calls Tryd.prog 112 #[.slice (some ⟨B, 0, none⟩) 2 2] w fun e w' => ∃ rp rc, e = .returned (.slice rp (l1 ++ l2).length rc) ∧ OwnRunes 21 w.heap.size w' rp rc (l1 ++ l2) ∧ Ext w w' := by
  have e : [l1, l2].flatten = l1 ++ l2 := by simp
  rw [← e]
  refine Concat_any (some ⟨B, 0, none⟩) 2 [l1, l2] (fun j => [p1, p2].getD j none) (fun j => [c1, c2].getD j 0) (by simp) (fun j hj => ?_) w (.inr ⟨B, 0, rfl, hB, fun j hj => ?_⟩) (fun j hj => ?_)
  · match j, hj with
    | 0, _ => exact b1
    | 1, _ => exact b2
  · rw [Nat.zero_add, hR]
    match j, hj with
    | 0, _ => rfl
    | 1, _ => rfl
  · match j, hj with
    | 0, _ => exact h1
    | 1, _ => exact h2

def PutRes (B : Nat) (r : List Int × Int) (e : Ending) (w' : World) : Prop := ∃ rp rc, e = .returned (.tuple #[.slice rp r.1.length rc, .int .i64 r.2]) ∧ OwnRunes 21 B w' rp rc r.1
def OffRes (o : Option (List Int)) (e : Ending) (w' : World) : Prop := match o with
  | none => e = .returned (.tuple #[.slice none 0 0, .bool false])
  | some s => ∃ rp rc, e = .returned (.tuple #[.slice rp s.length rc, .bool true]) ∧ SlAt w' rp s rc
theorem off_mk {S : List Int} {w' : World} {p : Option Addr} {n c : Nat} (hn : n = S.length) (h : SlAt w' p S c) : OffRes (some S) (.returned (.tuple #[.slice p n c, .bool true])) w' := ⟨p, c, by rw [hn], h⟩
theorem off_no {w' : World} : OffRes none (.returned (.tuple #[.slice none 0 0, .bool false])) w' := rfl
theorem put_mk {B : Nat} {R : List Int} {w' : World} {p : Option Addr} {c : Nat} (h : OwnRunes 21 B w' p c R) : PutRes B (R, 0) (.returned (.tuple #[.slice p R.length c, .int .i64 0])) w' := ⟨p, c, rfl, h⟩
theorem put_no {B : Nat} {w' : World} (E : Int) : PutRes B ([], E) (.returned (.tuple #[.slice none 0 0, .int .i64 E])) w' := ⟨none, 0, rfl, OwnRunes.nil _ _ _⟩
set_option maxRecDepth 100000 in
set_option maxHeartbeats 1000000 in
theorem around_put (p1 p2 lp : Option Addr) (c1 c2 lc : Nat) (f b l : List Int) (sa sb sc : Value) (hf : f.length ≤ 4096) (hb : b.length ≤ 4096) (hl : l.length ≤ 4096) (w : World) (h1 : RunesAt w p1 f) (h2 : RunesAt w p2 b) (h3 : RunesAt w lp l) :
    Calls Tryd.prog 111 #[.agg #[.slice p1 f.length c1, .slice p2 b.length c2], .agg #[sa, sb, sc], .slice lp l.length lc] w fun e w' => PutRes w.heap.size (f ++ l ++ b, 0) e w' ∧ Ext w w' := by
  have hx : Ext w ((w.alloc (.cells #[.slice p1 f.length c1, .slice p2 b.length c2] 96)).alloc (.cells #[sa, sb, sc] 74)) := ((Ext.refl _).alloc _).alloc _
  have hc := fun (W : World) (B : Nat) (hB : W.heap.size = B) (hW : Ext w W) => Concat3_any B p1 lp p2 c1 lc c2 f l b hf hl hb (W.alloc (.cells #[.slice p1 f.length c1, .slice lp l.length lc, .slice p2 b.length c2] 75)) (by rw [size_alloc]; omega) (fun j => by rw [← hB]; exact (Ext.refl _).cell0 j) (h1.mono (hW.alloc _)) (h3.mono (hW.alloc _)) (h2.mono (hW.alloc _))
  obtain ⟨R, hR⟩ : ∃ R, f ++ l ++ b = R := ⟨_, rfl⟩
  rw [hR] at hc ⊢
  have HC := Lib.hid hc
  have HX := Lib.hid hx
  clear hc hx hR
  go_enter Tryd.func111, Tryd.ntmps111
  go_wp2_with fail
  refine (HC.out _ _ (by rw [size_alloc, size_alloc]) HX.out).mono ?_
  rintro e w1 ⟨rp, rc, rfl, ho, hx1⟩
  go_wp2_with fail
  go_ret2
  have hy := (HX.out.alloc (.cells #[.slice p1 f.length c1, .slice lp l.length lc, .slice p2 b.length c2] 75))
  exact ⟨put_mk (OwnRunes_base ho hy.le), hy.trans hx1⟩

set_option maxRecDepth 100000 in
set_option maxHeartbeats 1000000 in
theorem around_off (p1 p2 lp : Option Addr) (c1 c2 lc : Nat) (f b l : List Int) (sa sb sc : Value) (hf : f.length ≤ 4096) (hb : b.length ≤ 4096) (hl : l.length ≤ 4096) (w : World) (h3 : SlAt w lp l lc) :
    Calls Tryd.prog 110 #[.agg #[.slice p1 f.length c1, .slice p2 b.length c2], .agg #[sa, sb, sc], .slice lp l.length lc] w fun e w' => OffRes (if f.length + b.length ≤ l.length then some ((l.drop f.length).take (l.length - f.length - b.length)) else none) e w' ∧ Ext w w' := by
  have hx : Ext w ((w.alloc (.cells #[.slice p1 f.length c1, .slice p2 b.length c2] 96)).alloc (.cells #[sa, sb, sc] 74)) := ((Ext.refl _).alloc _).alloc _
  have h4 := h3.mono hx
  have HX := Lib.hid hx
  have hroom := h3.room
  clear hx
  by_cases hn : f.length + b.length ≤ l.length
  · rw [if_pos hn]
    have hlen : ((l.drop f.length).take (l.length - f.length - b.length)).length = l.length - f.length - b.length := by rw [List.length_take, List.length_drop]; omega
    have g2 : ((l.length : Int) - (f.length : Int) - (b.length : Int)) = ((l.length - f.length - b.length : Nat) : Int) := by omega
    obtain ⟨S, hS⟩ : ∃ S, (l.drop f.length).take (l.length - f.length - b.length) = S := ⟨_, rfl⟩
    rw [hS] at hlen ⊢
    have HL := Lib.hid hlen
    rcases h3.form with ⟨b0, off, rfl⟩ | ⟨rfl, rfl⟩
    · by_cases hcc : lc = f.length
      · have HR := Lib.hid (SlAt.nil_ (w := (w.alloc (.cells #[.slice p1 f.length c1, .slice p2 b.length c2] 96)).alloc (.cells #[sa, sb, sc] 74)) (b := b0) (off := off) S (by omega))
        clear hlen hS h4 h3
        go_enter Tryd.func110, Tryd.ntmps110
        go_wp2_with fail
        go_ret2
        exact ⟨off_mk (by have := HL.out; omega) (HR.out _ (by rw [HL.out]; omega)), HX.out⟩
      · have HR := Lib.hid (h4.sub f.length _ S hS)
        clear hlen hS h4 h3
        go_enter Tryd.func110, Tryd.ntmps110
        go_wp2_with fail
        go_ret2
        exact ⟨off_mk (by have := HL.out; omega) (HR.out _ (by rw [HL.out]; omega)), HX.out⟩
    · have e := h3.zero
      subst e
      have HR := Lib.hid (fun W => SlAt.nil0 (w := W) S (by rw [hlen]; simp))
      have hf0 : f.length = 0 := by simp at hn; omega
      have hb0 : b.length = 0 := by simp at hn; omega
      rw [hf0, hb0] at HX
      clear hlen hS h4 h3 g2
      go_enter Tryd.func110, Tryd.ntmps110
      go_wp2_with fail
      go_ret2
      exact ⟨off_mk (by rw [HL.out]; simp) (HR.out _), HX.out⟩
  · rw [if_neg hn]
    have g1 : (l.length : Int) - (f.length : Int) - (b.length : Int) < 0 := by omega
    clear h4
    go_enter Tryd.func110, Tryd.ntmps110
    go_wp2_with fail
    go_ret2
    exact ⟨off_no, HX.out⟩

set_option maxRecDepth 100000 in
set_option maxHeartbeats 1000000 in
theorem doubled_put (lp : Option Addr) (lc : Nat) (l : List Int) (n : Nat) (hn : n ≤ 64) (sa sb sc : Value) (hl : l.length ≤ 4096) (w : World) (h3 : SlAt w lp l lc) :
    Calls Tryd.prog 120 #[.agg #[.int .i64 (n : Int)], .agg #[sa, sb, sc], .slice lp l.length lc] w fun e w' => PutRes w.heap.size (if l.length < n then ([], 150) else if n = 0 then (l ++ l, 0) else (l.take n ++ l, 0)) e w' ∧ Ext w w' := by
  have hx : Ext w ((w.alloc (.cells #[.int .i64 (n : Int)] 103)).alloc (.cells #[sa, sb, sc] 74)) := ((Ext.refl _).alloc _).alloc _
  have HX := Lib.hid hx
  have hroom := h3.room
  clear hx
  by_cases g1 : l.length < n
  · rw [if_pos g1]
    clear h3
    go_enter Tryd.func120, Tryd.ntmps120
    go_wp2_with fail
    go_ret2
    exact ⟨put_no _, HX.out⟩
  · rw [if_neg g1]
    by_cases g2 : n = 0
    · rw [if_pos g2]
      subst g2
      have hc := fun (W : World) (B : Nat) (hB : W.heap.size = B) (hW : Ext w W) => Concat2_any B lp lp lc lc l l hl hl (W.alloc (.cells #[.slice lp l.length lc, .slice lp l.length lc] 75)) (by rw [size_alloc]; omega) (fun j => by rw [← hB]; exact (Ext.refl _).cell0 j) (h3.at_.mono (hW.alloc _)) (h3.at_.mono (hW.alloc _))
      rcases h3.form with ⟨b0, off, rfl⟩ | ⟨rfl, rfl⟩
      · obtain ⟨R, hR⟩ : ∃ R, l ++ l = R := ⟨_, rfl⟩
        rw [hR] at hc ⊢
        have HC := Lib.hid hc
        clear hc hR h3
        go_enter Tryd.func120, Tryd.ntmps120
        go_wp2_with fail
        refine (HC.out _ _ (by rw [size_alloc, size_alloc]) HX.out).mono ?_
        rintro e w1 ⟨rp, rc, rfl, ho, hx1⟩
        go_wp2_with fail
        go_ret2
        have hy := (HX.out.alloc (.cells #[.slice (some ⟨b0, off, none⟩) l.length lc, .slice (some ⟨b0, off, none⟩) l.length lc] 75))
        exact ⟨put_mk (OwnRunes_base ho hy.le), hy.trans hx1⟩
      · have e := h3.zero
        subst e
        obtain ⟨R, hR⟩ : ∃ R, ([] : List Int) ++ [] = R := ⟨_, rfl⟩
        rw [hR] at hc ⊢
        simp only [List.length_nil] at hc ⊢
        have HC := Lib.hid hc
        clear hc hR h3
        go_enter Tryd.func120, Tryd.ntmps120
        go_wp2_with fail
        refine (HC.out _ _ (by rw [size_alloc, size_alloc]) HX.out).mono ?_
        rintro e w1 ⟨rp, rc, rfl, ho, hx1⟩
        go_wp2_with fail
        go_ret2
        have hy := (HX.out.alloc (.cells #[.slice none 0 0, .slice none 0 0] 75))
        exact ⟨put_mk (OwnRunes_base ho hy.le), hy.trans hx1⟩
    · rw [if_neg g2]
      have hc := fun (W : World) (B : Nat) (hB : W.heap.size = B) (hW : Ext w W) => Concat2_any B lp lp lc lc (l.take n) l (by rw [List.length_take]; omega) hl (W.alloc (.cells #[.slice lp (l.take n).length lc, .slice lp l.length lc] 75)) (by rw [size_alloc]; omega) (fun j => by rw [← hB]; exact (Ext.refl _).cell0 j) ((h3.at_.take n).mono (hW.alloc _)) (h3.at_.mono (hW.alloc _))
      rw [sl_len (by omega : n ≤ l.length)] at hc
      obtain ⟨R, hR⟩ : ∃ R, l.take n ++ l = R := ⟨_, rfl⟩
      rw [hR] at hc ⊢
      have HC := Lib.hid hc
      have g3 : ((n : Int) == 0) = false := by rw [beq_eq_false_iff_ne]; omega
      clear hc hR
      have h9 := h3.form
      have hlc : n ≤ lc := by omega
      clear h3
      rcases h9 with ⟨b0, off, rfl⟩ | ⟨rfl, rfl⟩
      · go_enter Tryd.func120, Tryd.ntmps120
        go_wp2_with fail
        refine (HC.out _ _ (by rw [size_alloc, size_alloc]) HX.out).mono ?_
        rintro e w1 ⟨rp, rc, rfl, ho, hx1⟩
        go_wp2_with fail
        go_ret2
        have hy := (HX.out.alloc (.cells #[.slice (some ⟨b0, off, none⟩) n lc, .slice (some ⟨b0, off, none⟩) l.length lc] 75))
        exact ⟨put_mk (OwnRunes_base ho hy.le), hy.trans hx1⟩
      · omega

set_option maxRecDepth 100000 in
set_option maxHeartbeats 1000000 in
theorem doubled_off (lp : Option Addr) (lc : Nat) (l : List Int) (n : Nat) (hn : n ≤ 64) (sa sb sc : Value) (hl : l.length ≤ 4096) (w : World) (h3 : SlAt w lp l lc) :
    Calls Tryd.prog 119 #[.agg #[.int .i64 (n : Int)], .agg #[sa, sb, sc], .slice lp l.length lc] w fun e w' => OffRes (if n = 0 then some (l.drop (l.length / 2)) else if 2 * n ≤ l.length then some (l.drop n) else none) e w' ∧ Ext w w' := by
  have hx : Ext w ((w.alloc (.cells #[.int .i64 (n : Int)] 103)).alloc (.cells #[sa, sb, sc] 74)) := ((Ext.refl _).alloc _).alloc _
  have h4 := h3.mono hx
  have HX := Lib.hid hx
  have hroom := h3.room
  clear hx
  by_cases g2 : n = 0
  · rw [if_pos g2]
    subst g2
    have hlen : (l.drop (l.length / 2)).length = l.length - l.length / 2 := List.length_drop ..
    obtain ⟨S, hS⟩ : ∃ S, l.drop (l.length / 2) = S := ⟨_, rfl⟩
    rw [hS] at hlen ⊢
    have HL := Lib.hid hlen
    have hS2 : (l.drop (l.length / 2)).take (l.length - l.length / 2) = S := by rw [← hS]; exact List.take_of_length_le (by rw [List.length_drop]; omega)
    rcases h3.form with ⟨b0, off, rfl⟩ | ⟨rfl, rfl⟩
    · by_cases hcc : lc = l.length / 2
      · have HR := Lib.hid (SlAt.nil_ (w := (w.alloc (.cells #[.int .i64 ((0 : Nat) : Int)] 103)).alloc (.cells #[sa, sb, sc] 74)) (b := b0) (off := off) S (by omega))
        have h0 : l.length = 0 := by omega
        have hc0 : lc = 0 := by omega
        clear hlen hS hS2 h4 h3 hcc
        go_enter Tryd.func119, Tryd.ntmps119
        go_wp2_with fail
        go_ret2
        exact ⟨off_mk (by have := HL.out; omega) (HR.out _ (by rw [HL.out]; omega)), HX.out⟩
      · have HR := Lib.hid (h4.sub (l.length / 2) _ S hS2)
        have g4 : (2 : Int) * ((l.length / 2 : Nat) : Int) ≤ l.length := by omega
        clear hlen hS hS2 h4 h3
        go_enter Tryd.func119, Tryd.ntmps119
        go_wp2_with fail
        go_ret2
        exact ⟨off_mk (by have := HL.out; omega) (HR.out _ (by rw [HL.out]; omega)), HX.out⟩
    · have e := h3.zero
      subst e
      have HR := Lib.hid (SlAt.nil0 (w := (w.alloc (.cells #[.int .i64 ((0 : Nat) : Int)] 103)).alloc (.cells #[sa, sb, sc] 74)) S (by rw [hlen]; simp))
      clear hlen hS hS2 h4 h3
      go_enter Tryd.func119, Tryd.ntmps119
      go_wp2_with fail
      go_ret2
      exact ⟨off_mk (by rw [HL.out]; rfl) HR.out, HX.out⟩
  · rw [if_neg g2]
    have g3 : ((n : Int) == 0) = false := by rw [beq_eq_false_iff_ne]; omega
    by_cases g1 : 2 * n ≤ l.length
    · rw [if_pos g1]
      have hlen : (l.drop n).length = l.length - n := List.length_drop ..
      obtain ⟨S, hS⟩ : ∃ S, l.drop n = S := ⟨_, rfl⟩
      rw [hS] at hlen ⊢
      have HL := Lib.hid hlen
      have hS2 : (l.drop n).take (l.length - n) = S := by rw [← hS]; exact List.take_of_length_le (by rw [List.length_drop]; omega)
      have g5 : ¬ ((l.length : Int) < 2 * (n : Int)) := by omega
      rcases h3.form with ⟨b0, off, rfl⟩ | ⟨rfl, rfl⟩
      · have hcc : ¬ lc = n := by omega
        have HR := Lib.hid (h4.sub n _ S hS2)
        clear hlen hS hS2 h4 h3
        go_enter Tryd.func119, Tryd.ntmps119
        go_wp2_with fail
        go_ret2
        exact ⟨off_mk (by rw [HL.out]) (HR.out _ (by rw [HL.out]; omega)), HX.out⟩
      · omega
    · rw [if_neg g1]
      have g5 : (l.length : Int) < 2 * (n : Int) := by omega
      clear h4 h3
      go_enter Tryd.func119, Tryd.ntmps119
      go_wp2_with fail
      go_ret2
      exact ⟨off_no, HX.out⟩
end Go.Proofs.YtkmfhcjdaglikaaDoor

namespace Go.Proofs.YtkmfhcjdaglikaaDoor
open Go.RowKit Go.Cg Go.Shelf Go.Maps

theorem own_some {w : World} {B : Nat} {e : TypeId} {size n : Nat} {p : Option Addr} {c : Nat} {xs : List Value} (h : w.ownsRow B e size (.slice p n c) n xs) (h0 : 0 < n) : ∃ g, p = some ⟨g, 0, none⟩ ∧ n ≤ c ∧ B ≤ g := by
  rcases h.2 with ⟨_, hn⟩ | ⟨g, cap, cur, hv, hb, hg, hn, hc, _⟩
  · omega
  · simp only [Value.slice.injEq, true_and] at hv
    obtain ⟨rfl, rfl⟩ := hv
    exact ⟨g, rfl, hn, hb⟩
theorem Reads.setCell_ne {w : World} {p : Option Addr} {k : Nat} {f : Nat → Value} (h : Reads w p k f) {a : Addr} (hb : ∀ b off, p = some ⟨b, off, none⟩ → b ≠ a.block) (u : Value) : Reads (w.setCell a u) p k f := by
  rcases h with h | ⟨b, off, e, hlt, hc⟩
  · exact .inl h
  · refine .inr ⟨b, off, e, by rw [show (w.setCell a u).heap.size = w.heap.size from by simp [World.setCell]]; exact hlt, fun j hj => ?_⟩
    rw [World.cell?_of_block (w := w) (w' := w.setCell a u) (a := ⟨b, off + j, none⟩) (heap_setCell_other _ _ _ _ (hb b off e))]
    exact hc j hj
theorem RunesAt.setCell_ne {w : World} {p : Option Addr} {l : List Int} (h : RunesAt w p l) {a : Addr} (hb : ∀ b off, p = some ⟨b, off, none⟩ → b ≠ a.block) (u : Value) : RunesAt (w.setCell a u) p l := ⟨Reads.setCell_ne h.reads hb u, h.big, h.wf⟩
theorem rn_set_ne {l : List Int} {i j : Nat} {x : Int} (h : i ≠ j) : rn (l.set j x) i = rn l i := by
  unfold rn
  rw [List.getD_eq_getElem?_getD, List.getD_eq_getElem?_getD, List.getElem?_set_ne (fun e => h e.symm)]
/-- the first k letters: are they consonants? -/
def consF (A : Alpha) (v : Nat) : Nat → Lit → Option Lit
  | 0 => fun _ => none
  | k + 1 => putFn (consF A v k) (.int .i32 (A.at_ k).rune) (.bool (!hasL A v 0 (A.at_ k).rune))
theorem consF_at {A : Alpha} (hA : A.Ok) {v i : Nat} : ∀ k, k ≤ A.lets.length → i < k → consF A v k (.int .i32 (A.at_ i).rune) = some (.bool (!hasL A v 0 (A.at_ i).rune))
  | k + 1, hk, h => by
    unfold consF putFn
    by_cases e : i = k
    · subst e
      rw [if_pos (by simp [Lit.sameKey])]
    · have hne : (A.at_ i).rune ≠ (A.at_ k).rune := (hA.2.2.2.2 k (by omega)).2.2 i (by omega)
      rw [if_neg (by simp [Lit.sameKey, hne])]
      exact consF_at hA k (by omega) (by omega)
theorem consF_get {A : Alpha} (hA : A.Ok) (v : Nat) {r : Int} (hr : 0 ≤ findLetter A r) : (consF A v A.lets.length (.int .i32 r)).getD (.bool false) = .bool (!hasL A v 0 r) := by
  obtain ⟨i, h1, h2, h3⟩ := findLetter_bits hr
  have := consF_at hA (v := v) A.lets.length (Nat.le_refl _) h2
  rw [h3] at this
  rw [this]; rfl
/-- the map of consonants in memory -/
def ConsAt (w : World) (mb : Nat) (A : Alpha) (v : Nat) : Prop := MapFn Tryd.prog w 21 4 mb A.lets.length (consF A v A.lets.length)
theorem ConsAt.mono {w w' : World} {mb : Nat} {A : Alpha} {v : Nat} (h : ConsAt w mb A v) (hx : Ext w w') : ConsAt w' mb A v := MapFn.ext h hx
theorem ConsAt.look {w : World} {mb : Nat} {A : Alpha} {v : Nat} (h : ConsAt w mb A v) (hA : A.Ok) {r : Int} (hr : 0 ≤ findLetter A r) (h1 : -2147483648 ≤ r) (h2 : r ≤ 2147483647) :
    (Instr.lookup 72 (.map (some mb)) (.int .i32 r) false).run Tryd.prog w = .ok (.bool (!hasL A v 0 r)) w :=
  MapFn.look_bool h lawR Tryd.underlying72 Tryd.underlying4 zBool (keyR h1 h2) (consF_get hA v hr)

set_option maxRecDepth 100000 in
set_option maxHeartbeats 1000000 in
theorem within_put (p1 lp : Option Addr) (c1 lc : Nat) (f l : List Int) (n : Nat) (_hn : n ≤ 64) (sa sb sc : Value) (hf : f.length ≤ 4096) (hl : l.length ≤ 4096) (w : World) (h1 : RunesAt w p1 f) (h3 : SlAt w lp l lc) :
    Calls Tryd.prog 115 #[.agg #[.slice p1 f.length c1, .int .i64 (n : Int)], .agg #[sa, sb, sc], .slice lp l.length lc] w fun e w' => PutRes w.heap.size (l.take n ++ f ++ l.drop n, 0) e w' ∧ Ext w w' := by
  have hx : Ext w ((w.alloc (.cells #[.slice p1 f.length c1, .int .i64 (n : Int)] 98)).alloc (.cells #[sa, sb, sc] 74)) := ((Ext.refl _).alloc _).alloc _
  have HX := Lib.hid hx
  have hroom := h3.room
  obtain ⟨m, hm⟩ : ∃ m, min n l.length = m := ⟨_, rfl⟩
  have hml : m ≤ l.length := by omega
  have e1 : l.take n = l.take m := by rw [← hm]; exact List.take_eq_take_min ..
  have e2 : l.drop n = l.drop m := by
    by_cases h : n ≤ l.length
    · rw [← hm, Nat.min_eq_left h]
    · rw [← hm, Nat.min_eq_right (by omega), List.drop_length, List.drop_eq_nil_of_le (by omega)]
  rw [e1, e2]
  have hlt : (l.take m).length = m := sl_len hml
  have hld : (l.drop m).length = l.length - m := List.length_drop ..
  have gm : min (n : Int) (l.length : Int) = (m : Int) := by omega
  have hc := fun (W : World) (B : Nat) (lq : Option Addr) (cq : Nat) (hB : W.heap.size = B) (hW : Ext w W) (hq : RunesAt w lq (l.drop m)) => Concat3_any B lp p1 lq lc c1 cq (l.take m) f (l.drop m) (by omega) hf (by omega) (W.alloc (.cells #[.slice lp (l.take m).length lc, .slice p1 f.length c1, .slice lq (l.drop m).length cq] 75)) (by rw [size_alloc]; omega) (fun j => by rw [← hB]; exact (Ext.refl _).cell0 j) ((h3.at_.take m).mono (hW.alloc _)) (h1.mono (hW.alloc _)) (hq.mono (hW.alloc _))
  rw [hlt, hld] at hc
  obtain ⟨R, hR⟩ : ∃ R, l.take m ++ f ++ l.drop m = R := ⟨_, rfl⟩
  rw [hR] at hc ⊢
  have HC := Lib.hid hc
  clear hc hR e1 e2 hx
  have hxb : Ext (w.alloc (.cells #[.slice p1 f.length c1, .int .i64 (n : Int)] 98)) ((w.alloc (.cells #[.slice p1 f.length c1, .int .i64 (n : Int)] 98)).alloc (.cells #[sa, sb, sc] 74)) := (Ext.refl _).alloc _
  have d0 := hxb.cell0 0
  simp only [List.getElem?_toArray, List.getElem?_cons_zero] at d0
  clear hxb
  rcases h3.form with ⟨b0, off, rfl⟩ | ⟨rfl, rfl⟩
  · by_cases hcc : lc = m
    · subst hcc
      have HQ := Lib.hid (fun W (hW : Ext w W) => (by rw [List.length_eq_zero_iff.1 (show (l.drop lc).length = 0 by omega)]; exact RunesAt.nil _ _ : RunesAt W (some ⟨b0, off, none⟩) (l.drop lc)))
      have hc0 := HC.out
      simp only [show l.length - lc = 0 by omega] at hc0
      have HC0 := Lib.hid hc0
      clear h3 h1 hlt hld hm hc0 HC
      go_enter Tryd.func115, Tryd.ntmps115
      go_wp2_with fail
      (refine wp_region_ext_tail 8 (by kernel_rfl) (by kernel_rfl) ?_; intro ι hι g hg; simp only [List.take_succ_cons, List.take_zero, List.drop_succ_cons, List.drop_zero]; have q_d0 := hg.cell d0; clear d0; (repeat (go_big_quiet_step (fail))); refine wpQuiet_nil ?_; rintro w2 ⟨i2, rfl⟩; have hq := hg.ext i2; generalize g i2 = w2 at hq ⊢; clear q_d0 i2 hg g hι ι)
      go_wp2_with fail
      refine (HC0.out w2 _ (some ⟨b0, off, none⟩) (0) rfl (HX.out.trans hq) (HQ.out _ (Ext.refl _))).mono ?_
      rintro e w3 ⟨rp, rc, rfl, ho, hx1⟩
      go_wp2_with fail
      go_ret2
      have hy := (HX.out.trans hq).alloc (.cells #[.slice (some ⟨b0, off, none⟩) lc lc, .slice p1 f.length c1, .slice (some ⟨b0, off, none⟩) 0 0] 75)
      exact ⟨put_mk (OwnRunes_base ho hy.le), hy.trans hx1⟩
    · have HQ := Lib.hid (fun W (hW : Ext w W) => ((h3.at_.drop_ m).mono hW : RunesAt W (some ⟨b0, off + m, none⟩) (l.drop m)))
      clear h3 h1 hlt hld hm
      go_enter Tryd.func115, Tryd.ntmps115
      go_wp2_with fail
      (refine wp_region_ext_tail 8 (by kernel_rfl) (by kernel_rfl) ?_; intro ι hι g hg; simp only [List.take_succ_cons, List.take_zero, List.drop_succ_cons, List.drop_zero]; have q_d0 := hg.cell d0; clear d0; (repeat (go_big_quiet_step (fail))); refine wpQuiet_nil ?_; rintro w2 ⟨i2, rfl⟩; have hq := hg.ext i2; generalize g i2 = w2 at hq ⊢; clear q_d0 i2 hg g hι ι)
      go_wp2_with fail
      refine (HC.out w2 _ (some ⟨b0, off + m, none⟩) (lc - m) rfl (HX.out.trans hq) (HQ.out _ (Ext.refl _))).mono ?_
      rintro e w3 ⟨rp, rc, rfl, ho, hx1⟩
      go_wp2_with fail
      go_ret2
      have hy := (HX.out.trans hq).alloc (.cells #[.slice (some ⟨b0, off, none⟩) m lc, .slice p1 f.length c1, .slice (some ⟨b0, off + m, none⟩) (l.length - m) (lc - m)] 75)
      exact ⟨put_mk (OwnRunes_base ho hy.le), hy.trans hx1⟩
  · have e := h3.zero
    subst e
    have hm0 : m = 0 := by simp at hml; exact hml
    subst hm0
    have gm2 : min (n : Int) 0 = 0 := by omega
    have hc3 := HC.out
    simp only [List.length_nil, Nat.sub_zero] at hc3
    have HC3 := Lib.hid hc3
    clear hc3 HC gm
    have HQ := Lib.hid (fun W (hW : Ext w W) => (RunesAt.nil _ _ : RunesAt W none []))
    clear h3 h1 hlt hld hm
    go_enter Tryd.func115, Tryd.ntmps115
    go_wp2_with fail
    (refine wp_region_ext_tail 8 (by kernel_rfl) (by kernel_rfl) ?_; intro ι hι g hg; simp only [List.take_succ_cons, List.take_zero, List.drop_succ_cons, List.drop_zero]; have q_d0 := hg.cell d0; clear d0; (repeat (go_big_quiet_step (fail))); refine wpQuiet_nil ?_; rintro w2 ⟨i2, rfl⟩; have hq := hg.ext i2; generalize g i2 = w2 at hq ⊢; clear q_d0 i2 hg g hι ι)
    go_wp2_with fail
    refine (HC3.out w2 _ (none) (0) rfl (HX.out.trans hq) (HQ.out _ (Ext.refl _))).mono ?_
    rintro e w3 ⟨rp, rc, rfl, ho, hx1⟩
    go_wp2_with fail
    go_ret2
    have hy := (HX.out.trans hq).alloc (.cells #[.slice none 0 0, .slice p1 f.length c1, .slice none 0 0] 75)
    exact ⟨put_mk (OwnRunes_base ho hy.le), hy.trans hx1⟩

set_option maxRecDepth 100000 in
set_option maxHeartbeats 1000000 in
theorem within_off (p1 lp : Option Addr) (c1 lc : Nat) (f l : List Int) (n : Nat) (_hn : n ≤ 64) (sa sb sc : Value) (hf : f.length ≤ 4096) (hl : l.length ≤ 4096) (w : World) (h3 : SlAt w lp l lc) :
    Calls Tryd.prog 114 #[.agg #[.slice p1 f.length c1, .int .i64 (n : Int)], .agg #[sa, sb, sc], .slice lp l.length lc] w fun e w' => OffRes (if f.length ≤ l.length then some (l.take (min n (l.length - f.length)) ++ l.drop (min n (l.length - f.length) + f.length)) else none) e w' ∧ Ext w w' := by
  have hx : Ext w ((w.alloc (.cells #[.slice p1 f.length c1, .int .i64 (n : Int)] 98)).alloc (.cells #[sa, sb, sc] 74)) := ((Ext.refl _).alloc _).alloc _
  have HX := Lib.hid hx
  have hroom := h3.room
  have hxb : Ext (w.alloc (.cells #[.slice p1 f.length c1, .int .i64 (n : Int)] 98)) ((w.alloc (.cells #[.slice p1 f.length c1, .int .i64 (n : Int)] 98)).alloc (.cells #[sa, sb, sc] 74)) := (Ext.refl _).alloc _
  have d0 := hxb.cell0 0
  simp only [List.getElem?_toArray, List.getElem?_cons_zero] at d0
  clear hxb
  by_cases hfl : f.length ≤ l.length
  · rw [if_pos hfl]
    obtain ⟨k, hk⟩ : ∃ k, l.length - f.length = k := ⟨_, rfl⟩
    have g0 : (l.length : Int) - (f.length : Int) = (k : Int) := by omega
    obtain ⟨m, hm⟩ : ∃ m, min n k = m := ⟨_, rfl⟩
    rw [hk, hm]
    have gm : min (n : Int) (k : Int) = (m : Int) := by omega
    have g1 : ¬ ((k : Int) < 0) := by omega
    have hmk : m + f.length ≤ l.length := by omega
    have hlt : (l.take m).length = m := sl_len (by omega)
    have hld : (l.drop (m + f.length)).length = l.length - (m + f.length) := List.length_drop ..
    have hc := fun (W : World) (B : Nat) (lq : Option Addr) (cq : Nat) (hB : W.heap.size = B) (hW : Ext w W) (hq : RunesAt w lq (l.drop (m + f.length))) => Concat2_any B lp lq lc cq (l.take m) (l.drop (m + f.length)) (by omega) (by omega) (W.alloc (.cells #[.slice lp (l.take m).length lc, .slice lq (l.drop (m + f.length)).length cq] 75)) (by rw [size_alloc]; omega) (fun j => by rw [← hB]; exact (Ext.refl _).cell0 j) ((h3.at_.take m).mono (hW.alloc _)) (hq.mono (hW.alloc _))
    rw [hlt, hld] at hc
    obtain ⟨R, hR⟩ : ∃ R, l.take m ++ l.drop (m + f.length) = R := ⟨_, rfl⟩
    rw [hR] at hc ⊢
    have HC := Lib.hid hc
    clear hc hR hx
    rcases h3.form with ⟨b0, off, rfl⟩ | ⟨rfl, rfl⟩
    · by_cases hcc : lc = m + f.length
      · subst hcc
        have HQ := Lib.hid ((by rw [List.length_eq_zero_iff.1 (show (l.drop (m + f.length)).length = 0 by omega)]; exact RunesAt.nil _ _ : RunesAt w (some ⟨b0, off, none⟩) (l.drop (m + f.length))))
        have hc0 := HC.out
        simp only [show l.length - (m + f.length) = 0 by omega] at hc0
        have HC0 := Lib.hid hc0
        clear h3 hlt hld hm hk hc0 HC
        go_enter Tryd.func114, Tryd.ntmps114
        go_wp2_with fail
        (refine wp_region_ext_tail 10 (by kernel_rfl) (by kernel_rfl) ?_; intro ι hι g hg; simp only [List.take_succ_cons, List.take_zero, List.drop_succ_cons, List.drop_zero]; have q_d0 := hg.cell d0; clear d0; (repeat (go_big_quiet_step (fail))); refine wpQuiet_nil ?_; rintro w2 ⟨i2, rfl⟩; have hq := hg.ext i2; generalize g i2 = w2 at hq ⊢; clear q_d0 i2 hg g hι ι)
        go_wp2_with fail
        refine (HC0.out w2 _ (some ⟨b0, off, none⟩) 0 rfl (HX.out.trans hq) HQ.out).mono ?_
        rintro e w3 ⟨rp, rc, rfl, ho, hx1⟩
        go_wp2_with fail
        go_ret2
        have hy := (HX.out.trans hq).alloc (.cells #[.slice (some ⟨b0, off, none⟩) m (m + f.length), .slice (some ⟨b0, off, none⟩) 0 0] 75)
        have ho2 := OwnRunes_base ho hy.le
        exact ⟨off_mk rfl (SlAt.own ho2), hy.trans hx1⟩
      · have HQ := Lib.hid (h3.at_.drop_ (m + f.length))
        clear h3 hlt hld hm hk
        go_enter Tryd.func114, Tryd.ntmps114
        go_wp2_with fail
        (refine wp_region_ext_tail 10 (by kernel_rfl) (by kernel_rfl) ?_; intro ι hι g hg; simp only [List.take_succ_cons, List.take_zero, List.drop_succ_cons, List.drop_zero]; have q_d0 := hg.cell d0; clear d0; (repeat (go_big_quiet_step (fail))); refine wpQuiet_nil ?_; rintro w2 ⟨i2, rfl⟩; have hq := hg.ext i2; generalize g i2 = w2 at hq ⊢; clear q_d0 i2 hg g hι ι)
        go_wp2_with fail
        refine (HC.out w2 _ (some ⟨b0, off + (m + f.length), none⟩) (lc - (m + f.length)) rfl (HX.out.trans hq) HQ.out).mono ?_
        rintro e w3 ⟨rp, rc, rfl, ho, hx1⟩
        go_wp2_with fail
        go_ret2
        have hy := (HX.out.trans hq).alloc (.cells #[.slice (some ⟨b0, off, none⟩) m lc, .slice (some ⟨b0, off + (m + f.length), none⟩) (l.length - (m + f.length)) (lc - (m + f.length))] 75)
        have ho2 := OwnRunes_base ho hy.le
        exact ⟨off_mk rfl (SlAt.own ho2), hy.trans hx1⟩
    · have e := h3.zero
      subst e
      have hf0 : f.length = 0 := by simpa using hfl
      have hk0 : k = 0 := by rw [← hk]; simp
      have hm0 : m = 0 := by omega
      subst hk0
      subst hm0
      have gm2 : min (n : Int) 0 = 0 := by omega
      have hc0 := HC.out
      simp only [List.length_nil, Nat.zero_sub] at hc0
      have HC0 := Lib.hid hc0
      have HQ := Lib.hid (RunesAt.nil w none)
      rw [hf0] at d0 HX
      clear h3 hlt hld hm gm g0 g1 hfl hroom hmk hl hc0 HC hk
      go_enter Tryd.func114, Tryd.ntmps114
      go_wp2_with fail
      (refine wp_region_ext_tail 10 (by kernel_rfl) (by kernel_rfl) ?_; intro ι hι g hg; simp only [List.take_succ_cons, List.take_zero, List.drop_succ_cons, List.drop_zero]; have q_d0 := hg.cell d0; clear d0; (repeat (go_big_quiet_step (fail))); refine wpQuiet_nil ?_; rintro w2 ⟨i2, rfl⟩; have hq := hg.ext i2; generalize g i2 = w2 at hq ⊢; clear q_d0 i2 hg g hι ι)
      go_wp2_with fail
      refine (HC0.out w2 _ none 0 rfl (HX.out.trans hq) (by rw [List.drop_nil]; exact HQ.out)).mono ?_
      rintro e w3 ⟨rp, rc, rfl, ho, hx1⟩
      go_wp2_with fail
      go_ret2
      have hy := (HX.out.trans hq).alloc (.cells #[.slice none 0 0, .slice none 0 0] 75)
      have ho2 := OwnRunes_base ho hy.le
      exact ⟨off_mk rfl (SlAt.own ho2), hy.trans hx1⟩
  · rw [if_neg hfl]
    have g1 : (l.length : Int) - (f.length : Int) < 0 := by omega
    clear h3 hx
    go_enter Tryd.func114, Tryd.ntmps114
    go_wp2_with fail
    go_ret2
    exact ⟨off_no, HX.out⟩

set_option maxRecDepth 100000 in
set_option maxHeartbeats 2000000 in
theorem shaped_put (p1 lp fp ap : Option Addr) (c1 lc fc ac mb : Nat) (A : Alpha) (v : Nat) (f l : List Int) (hok : A.Ok) (hA : InA A l) (hf : f.length ≤ 4096) (hl : l.length ≤ 4096) (w : World) (h1 : RunesAt w p1 f) (h3 : RunesAt w lp l) (hM : ConsAt w mb A v) :
    Calls Tryd.prog 117 #[.agg #[.slice p1 f.length c1], .agg #[.slice fp A.feats.length fc, .slice ap A.lets.length ac, .map (some mb)], .slice lp l.length lc] w fun e w' => PutRes w.heap.size (if holeN f = (rootL A v l).length then (fillTo (rootL A v l) f f.length, 0) else ([], 130)) e w' ∧ Ext w w' := by
  obtain ⟨i0, hi, hz0, hz1, hz2⟩ := info_parts infoR
  have hx : Ext w ((w.alloc (.cells #[.slice p1 f.length c1] 100)).alloc (.cells #[.slice fp A.feats.length fc, .slice ap A.lets.length ac, .map (some mb)] 74)) := ((Ext.refl _).alloc _).alloc _
  have hbx : ∀ W, Ext ((w.alloc (.cells #[.slice p1 f.length c1] 100)).alloc (.cells #[.slice fp A.feats.length fc, .slice ap A.lets.length ac, .map (some mb)] 74)) W → W.cell? ⟨w.heap.size + 1, 2, none⟩ = some (.map (some mb)) ∧ w.heap.size + 1 < W.heap.size := fun W hW => by
    have e2 := hW.cell0 2
    have l0 := hW.lt0
    rw [size_alloc] at e2 l0
    exact ⟨e2, l0⟩
  have HBX := Lib.hid hbx
  have HX := Lib.hid hx
  have hcl := fun W (hW : Ext w W) => Clone_any p1 c1 f (by omega) W (h1.mono hW)
  have HCL := Lib.hid hcl
  have HW := Lib.hid (runesAt_all h1)
  have hrk := rootL_keep A v l
  have hrl := rootL_len A v l
  obtain ⟨R, hR⟩ : ∃ R, rootL A v l = R := ⟨_, rfl⟩
  rw [hR] at hrk hrl ⊢
  obtain ⟨RES, hRES⟩ : ∃ RES : List Int × Int, (if holeN f = R.length then (fillTo R f f.length, 0) else ([], 130)) = RES := ⟨_, rfl⟩
  rw [hRES]
  have HRES := Lib.hid hRES
  clear hRES
  obtain ⟨q, hq⟩ : ∃ q, hasL A v 0 = q := ⟨_, rfl⟩
  have hlk := fun k (hk : k < l.length) W (hW : Ext w W) => (hM.mono hW).look hok (hA (rn l k) (by rw [rn_eq hk]; exact List.getElem_mem hk)) (h3.wf k hk).1 (h3.wf k hk).2
  rw [hq] at hrk hlk
  have HLK := Lib.hid hlk
  have HRK := Lib.hid hrk
  have HRR := Lib.hid hrl
  clear hbx hx hcl hrk hrl hR hq hlk hM hok hA h1
  go_enter Tryd.func117, Tryd.ntmps117
  go_wp2_with fail
  refine (HCL.out _ HX.out).mono ?_
  rintro e w1 ⟨rp, rc, rfl, ho, hx1⟩
  have HO := Lib.hid ho
  clear ho
  go_wp2_with fail
  have hx1w := HX.out.trans hx1
  go_loopw [10, 20] (fun out i wr => ∃ k : Nat, k ≤ l.length ∧ i = .int .i64 k ∧ Ext w1 wr ∧ wr.ownsRow w1.heap.size 21 1 out (keepTo l q k).length ((keepTo l q k).map (Value.int .i32))) (fun _ i _ => l.length - (intOf i).toNat)
  case atStart => exact ⟨0, Nat.zero_le _, rfl, Ext.refl _, World.ownsRow_nil _ _ _ _⟩
  case round =>
    obtain ⟨k, hk, rfl, hx2, hown⟩ := hrel
    obtain ⟨rp2, rc2, rfl⟩ := ownsRow_slice hown
    by_cases hlt : k < l.length
    · obtain ⟨b, off, e0, hbw, c0⟩ := (h3.mono (hx1w.trans hx2)).cells hlt
      subst e0
      have hlen := keepTo_len l q k
      obtain ⟨d2, l2⟩ := HBX.out _ (hx1.trans hx2)
      have hlook := HLK.out k hlt wr (hx1w.trans hx2)
      cases hq : q (rn l k)
      · rw [hq] at hlook
        have HS := Lib.hid (keepTo_yes hlt hq)
        go_wp2_with (at_builtin; go_loud (refine wpList_append_own _ rfl _ _ 75 rfl w1.heap.size 21 i0 (.int .i32 0) 1 4 Tryd.underlying75 hi hz0 hz1 hz2 rfl (by decide) _ _ _ rfl (hown.alloc _) ⟨wr.heap.size, 0, none⟩ 1 1 [.int .i32 (rn l k)] rfl rfl (one_cell _ _ _) (by simp [Value.oneCell']) (by unfold maxLen; omega) (by omega) (by simp; have := hx2.le; omega) ?_); intro v' w4 hown4 hgrow _)
        refine ⟨⟨k + 1, by omega, by go_num, Ext.append (hx2.alloc _) (hown.alloc _) hgrow (Nat.le_refl _), ?_⟩, by simp [intOf]; omega⟩
        rw [HS.out, List.length_append, List.map_append]; exact hown4
      · rw [hq] at hlook
        have HS := Lib.hid (keepTo_no hlt hq)
        go_wp2_with fail
        refine ⟨⟨k + 1, by omega, by go_num, hx2, ?_⟩, by simp [intOf]; omega⟩
        rw [HS.out]; exact hown
    · have e : k = l.length := by omega
      subst e
      rw [← HRK.out] at hown ⊢
      have hrw : ∀ r ∈ R, -2147483648 ≤ r ∧ r ≤ 2147483647 := fun r hr => by
        rw [HRK.out] at hr
        exact runesAt_all h3 r (keepTo_mem hr)
      have hRA : RunesAt wr rp2 R := (ownRunes_mk hown (by have := HRR.out; omega) hrw).at_
      have hRN : ∀ b off, rp2 = some ⟨b, off, none⟩ → w1.heap.size ≤ b := fun b off e => by
        rcases hown.2 with ⟨hv, _⟩ | ⟨g2, cap, cur, hv, hb2, _⟩
        · rw [e] at hv; cases hv
        · rw [e] at hv
          simp only [Value.slice.injEq, Option.some.injEq, Addr.mk.injEq] at hv
          omega
      have hOG : ∀ g1, rp = some ⟨g1, 0, none⟩ → w.heap.size ≤ g1 ∧ g1 < w1.heap.size := fun g1 e => by
        have h0 := HO.out.1
        rw [e] at h0
        have := h0.lt g1 rfl
        have := HX.out.le
        omega
      have HOG := Lib.hid hOG
      have HRN := Lib.hid hRN
      have HRA := Lib.hid hRA
      have HRW := Lib.hid hrw
      have HOW := Lib.hid (ownsRow_base (ownsRow_ext HO.out.1 hx2) HX.out.le)
      have hxr := hx1w.trans hx2
      have HRLE := HRR.out
      clear hRA hRN hOG hrw hown hx1 hx1w hx2 HLK HBX HRK HCL
      go_wp2_with fail
      go_loopw [9, 35] (fun hv i wq => ∃ (j : Nat) (M : List Int), j ≤ f.length ∧ i = .int .i64 j ∧ hv = .int .i64 ((holeN (f.take j) : Nat) : Int) ∧ Ext w wq ∧ wq.ownsRow w.heap.size 21 1 (.slice rp f.length rc) f.length (M.map (Value.int .i32)) ∧ Hid (RunesAt wq rp2 R) ∧ Hid (M.length = f.length) ∧ Hid (∀ i, j ≤ i → i < f.length → rn M i = rn f i) ∧ Hid (holeN f ≤ R.length → M = fillMix R f j)) (fun _ i _ => f.length - (intOf i).toNat)
      case atStart => exact ⟨0, f, Nat.zero_le _, rfl, rfl, hxr, HOW.out, HRA.out, rfl, fun _ _ _ => rfl, fun _ => rfl⟩
      case round =>
        obtain ⟨j, M, hj, rfl, rfl, hy, hown, HRQ, HML, HMT, HMF⟩ := hrel
        have hkle := holeN_take_le f j
        have hkf : holeN (f.take j) ≤ f.length := Nat.le_trans hkle (show holeN f ≤ f.length from List.count_le_length)
        by_cases hlt : j < f.length
        · obtain ⟨g1, e0, hgc, hgb⟩ := own_some hown (by omega)
          subst e0
          obtain ⟨hg1, hg2⟩ := HOG.out g1 rfl
          have c0 := hown.cellAt j (by omega)
          have f0 := hown.frozenAt j
          have hlw := (hown.lt g1 rfl).2
          rw [List.getElem?_map, List.getElem?_eq_getElem (by rw [HML.out]; exact hlt)] at c0
          have c0' : wr.cell? ⟨g1, j, none⟩ = some (.int .i32 (rn f j)) := by
            rw [c0, ← HMT.out j (Nat.le_refl _) hlt, rn_eq (by rw [HML.out]; exact hlt)]; rfl
          clear c0
          have htk := holeN_take hlt
          cases he : (rn f j == 95)
          · rw [if_neg (by simpa using he)] at htk
            have hne : rn f j ≠ 95 := by simpa using he
            have HTK := Lib.hid htk
            have HNE := Lib.hid hne
            clear htk hne
            go_wp2_with fail
            refine ⟨⟨j + 1, M, by omega, by go_num, by rw [HTK.out]; rfl, hy, hown, HRQ.out, HML.out, fun i h5 h6 => HMT.out i (by omega) h6, fun h5 => by rw [fillMix_same hlt HNE.out]; exact HMF.out h5⟩, by simp [intOf]; omega⟩
          · have he' : rn f j = 95 := by simpa using he
            rw [if_pos he'] at htk
            have hkl := holeN_lt hlt he'
            have HE' := Lib.hid he'
            have HTK := Lib.hid htk
            clear htk
            by_cases hr : holeN (f.take j) < R.length
            · obtain ⟨b, off, e0, hbw, c2⟩ := HRQ.out.cells hr
              subst e0
              have hbg := HRN.out b off rfl
              have hne : b ≠ g1 := by omega
              obtain ⟨kk, hkk⟩ : ∃ kk, holeN (f.take j) = kk := ⟨_, rfl⟩
              have HKK := Lib.hid hkk
              rw [hkk] at hr hkle hkl hkf c2 ⊢
              have HNE := Lib.hid hne
              clear hkk he' hne
              go_wp2_with fail
              refine ⟨⟨j + 1, M.set j (rn R kk), by omega, by go_num, by rw [HTK.out, HKK.out]; go_num, hy.setCell hg1 _, ?_, ?_, ?_, fun i h5 h6 => ?_, fun h5 => ?_⟩, by simp [intOf]; omega⟩
              · rw [List.map_set]; exact (hown.stored j _).1
              · exact RunesAt.setCell_ne HRQ.out (fun b' off' e => by cases e; exact HNE.out) _
              · rw [List.length_set]; exact HML.out
              · rw [rn_set_ne (by omega)]; exact HMT.out i (by omega) h6
              · rw [HMF.out h5, fillMix_hole hlt HE'.out, HKK.out]
            · have g5 : ¬ ((holeN (f.take j) : Int) < (R.length : Int)) := by omega
              obtain ⟨kk, hkk⟩ : ∃ kk, holeN (f.take j) = kk := ⟨_, rfl⟩
              have HKK := Lib.hid hkk
              rw [hkk] at hr hkle hkl hkf g5 ⊢
              have HBAD := Lib.hid (show ¬ holeN f ≤ R.length by omega)
              clear hkk he'
              go_wp2_with fail
              exact ⟨⟨j + 1, M, by omega, by go_num, by rw [HTK.out, HKK.out]; go_num, hy, hown, HRQ.out, HML.out, fun i h5 h6 => HMT.out i (by omega) h6, fun h5 => absurd h5 HBAD.out⟩, by simp [intOf]; omega⟩
        · have e : j = f.length := by omega
          subst e
          have hft : holeN (f.take f.length) = holeN f := by rw [List.take_length]
          rw [hft]
          by_cases hh : holeN f = R.length
          · have HR9 := Lib.hid (HRES.out.symm.trans (if_pos hh))
            have hM := HMF.out (by omega)
            rw [fillMix_all] at hM
            have hlen := fillTo_len R f f.length
            have hwf : ∀ r ∈ fillTo R f f.length, -2147483648 ≤ r ∧ r ≤ 2147483647 := fun r hr => by
              rcases fillTo_mem9 (by omega) r hr with h | h
              · exact HRW.out r h
              · exact HW.out r h.1
            rw [hM] at hown
            obtain ⟨N, hN⟩ : ∃ N, fillTo R f f.length = N := ⟨_, rfl⟩
            rw [hN] at hown hlen hwf HR9
            rw [← hlen] at hown
            have HOR := Lib.hid (ownRunes_mk hown (by omega) hwf)
            have HLN := Lib.hid hlen
            have g6 : ((holeN f : Int) != (R.length : Int)) = false := by rw [hh]; simp
            clear hM hlen hwf hN hh hown hft
            go_wp2_with fail
            go_ret2
            rw [HR9.out, ← HLN.out]
            exact ⟨put_mk HOR.out, hy⟩
          · have HR9 := Lib.hid (HRES.out.symm.trans (if_neg hh))
            have g6 : ((holeN f : Int) != (R.length : Int)) = true := by rw [bne_iff_ne]; omega
            clear hh hft
            go_wp2_with fail
            go_ret2
            rw [HR9.out]
            exact ⟨put_no _, hy⟩

set_option maxRecDepth 100000 in
set_option maxHeartbeats 2000000 in
theorem shaped_off (p1 lp fp ap : Option Addr) (c1 lc fc ac mb : Nat) (A : Alpha) (v : Nat) (f l : List Int) (hok : A.Ok) (hA : InA A l) (hf : f.length ≤ 4096) (_hl : l.length ≤ 4096) (w : World) (h1 : RunesAt w p1 f) (h3 : RunesAt w lp l) (hM : ConsAt w mb A v) :
    Calls Tryd.prog 116 #[.agg #[.slice p1 f.length c1], .agg #[.slice fp A.feats.length fc, .slice ap A.lets.length ac, .map (some mb)], .slice lp l.length lc] w fun e w' => OffRes (if l.length = f.length ∧ consB A v l f = true then some (atHoles l f f.length) else none) e w' ∧ Ext w w' := by
  obtain ⟨i0, hi, hz0, hz1, hz2⟩ := info_parts infoR
  have hx : Ext w ((w.alloc (.cells #[.slice p1 f.length c1] 100)).alloc (.cells #[.slice fp A.feats.length fc, .slice ap A.lets.length ac, .map (some mb)] 74)) := ((Ext.refl _).alloc _).alloc _
  have hbx : ∀ W, Ext ((w.alloc (.cells #[.slice p1 f.length c1] 100)).alloc (.cells #[.slice fp A.feats.length fc, .slice ap A.lets.length ac, .map (some mb)] 74)) W → W.cell? ⟨w.heap.size + 1, 2, none⟩ = some (.map (some mb)) ∧ w.heap.size + 1 < W.heap.size := fun W hW => by
    have e2 := hW.cell0 2
    have l0 := hW.lt0
    rw [size_alloc] at e2 l0
    exact ⟨e2, l0⟩
  have HBX := Lib.hid hbx
  have HX := Lib.hid hx
  by_cases hlen : l.length = f.length
  · have hlw := runesAt_all h3
    have hlk := fun k (hk : k < l.length) W (hW : Ext w W) => (hM.mono hW).look hok (hA (rn l k) (by rw [rn_eq hk]; exact List.getElem_mem hk)) (h3.wf k hk).1 (h3.wf k hk).2
    have hcy := fun (h : ∀ i, i < f.length → rn f i = 95 → hasL A v 0 (rn l i) = false) => (show consB A v l f = true from decide_eq_true h)
    have hcn := fun i (hi : i < f.length) (h5 : rn f i = 95) (hq : hasL A v 0 (rn l i) = true) => (show ¬ consB A v l f = true from fun h => by have := (of_decide_eq_true h) i hi h5; rw [hq] at this; cases this)
    obtain ⟨CB, hCB⟩ : ∃ CB, consB A v l f = CB := ⟨_, rfl⟩
    rw [hCB] at hcy hcn ⊢
    obtain ⟨RES, hRES⟩ : ∃ RES : Option (List Int), (if l.length = f.length ∧ CB = true then some (atHoles l f f.length) else none) = RES := ⟨_, rfl⟩
    rw [hRES]
    have HRY := Lib.hid (fun (h : CB = true) => hRES.symm.trans (if_pos ⟨hlen, h⟩))
    have HRN := Lib.hid (fun (h : ¬ CB = true) => hRES.symm.trans (if_neg (fun c => h c.2)))
    obtain ⟨q, hq⟩ : ∃ q, hasL A v 0 = q := ⟨_, rfl⟩
    rw [hq] at hlk hcy hcn
    have HLK := Lib.hid hlk
    have HCY := Lib.hid hcy
    have HCN := Lib.hid hcn
    have HLW := Lib.hid hlw
    have HLEN := Lib.hid hlen
    have g1 : ((l.length : Int) != (f.length : Int)) = false := by rw [hlen]; simp
    clear hbx hx hlk hcy hcn hlw hRES hCB hq hM hok hA hlen
    go_enter Tryd.func116, Tryd.ntmps116
    go_wp2_with fail
    go_loopw [8, 20] (fun out i wr => ∃ k : Nat, k ≤ f.length ∧ i = .int .i64 k ∧ Ext ((w.alloc (.cells #[.slice p1 f.length c1] 100)).alloc (.cells #[.slice fp A.feats.length fc, .slice ap A.lets.length ac, .map (some mb)] 74)) wr ∧ wr.ownsRow (w.heap.size + 1 + 1) 21 1 out (atHoles l f k).length ((atHoles l f k).map (Value.int .i32)) ∧ Hid (∀ i, i < k → rn f i = 95 → q (rn l i) = false)) (fun _ i _ => f.length - (intOf i).toNat)
    case atStart => exact ⟨0, Nat.zero_le _, rfl, Ext.refl _, World.ownsRow_nil _ _ _ _, fun i hi => by omega⟩
    case round =>
      obtain ⟨k, hk, rfl, hx2, hown, HNV⟩ := hrel
      obtain ⟨rp2, rc2, rfl⟩ := ownsRow_slice hown
      have hxw := HX.out.trans hx2
      by_cases hlt : k < f.length
      · have hltl : k < l.length := by have := HLEN.out; omega
        obtain ⟨b, off, e0, hbw, c0⟩ := (h1.mono hxw).cells hlt
        subst e0
        obtain ⟨b2, off2, e2, hbw2, c2⟩ := (h3.mono hxw).cells hltl
        subst e2
        obtain ⟨d2, l2⟩ := HBX.out _ hx2
        have hale := atHoles_le l f k
        cases he : (rn f k == 95)
        · have hne : rn f k ≠ 95 := by simpa using he
          have HS := Lib.hid (atHoles_no (l := l) hne)
          have HV := Lib.hid (upto_succ HNV.out (fun h => absurd h hne) : ∀ i, i < k + 1 → rn f i = 95 → q (rn l i) = false)
          clear hne
          go_wp2_with fail
          refine ⟨⟨k + 1, by omega, by go_num, hx2, ?_, HV.out⟩, by simp [intOf]; omega⟩
          rw [HS.out]; exact hown
        · have he' : rn f k = 95 := by simpa using he
          have hlook := fun W (hW : Ext wr W) => HLK.out k hltl W (hxw.trans hW)
          cases hq : q (rn l k)
          · have HS := Lib.hid (atHoles_yes (l := l) he')
            have HV := Lib.hid (upto_succ HNV.out (fun _ => hq) : ∀ i, i < k + 1 → rn f i = 95 → q (rn l i) = false)
            rw [hq] at hlook
            clear he' hq
            have c2k := c2
            go_wp2_with fail
            (refine wp_region_ext (by kernel_rfl) (by kernel_rfl) ?_; intro ι hι g hg; have q_d2 := hg.cell d2; have q_c2 := hg.cell c2; have q_hlook := fun i => hlook _ (hg.ext i); clear d2 c2 hlook; (repeat (go_big_quiet_step (fail))); refine wpQuiet_nil ?_; rintro w5 ⟨i2, rfl⟩; have hq5 := hg.ext i2; generalize g i2 = w5 at hq5 ⊢; clear q_d2 q_c2 q_hlook i2 hg g hι ι)
            have hown5 := ownsRow_ext hown hq5
            obtain ⟨d2, l2⟩ := HBX.out _ (hx2.trans hq5)
            have c2 := (hq5.facts.1 b2 (off2 + k) hbw2).trans c2k
            go_wp2_with (at_builtin; go_loud (refine wpList_append_own _ rfl _ _ 75 rfl (w.heap.size + 1 + 1) 21 i0 (.int .i32 0) 1 4 Tryd.underlying75 hi hz0 hz1 hz2 rfl (by decide) _ _ _ rfl (hown5.alloc _) ⟨w5.heap.size, 0, none⟩ 1 1 [.int .i32 (rn l k)] rfl rfl (one_cell _ _ _) (by simp [Value.oneCell']) (by unfold maxLen; omega) (by omega) (by simp; omega) ?_); intro v' w4 hown4 hgrow _)
            refine ⟨⟨k + 1, by omega, by go_num, ?_, ?_, HV.out⟩, by simp [intOf]; omega⟩
            · exact Ext.append ((hx2.trans hq5).alloc _) (hown5.alloc _) hgrow (by rw [size_alloc, size_alloc]; exact Nat.le_refl _)
            · rw [HS.out, List.length_append, List.map_append]; exact hown4
          · have HB := Lib.hid (HRN.out (HCN.out k hlt he' hq))
            rw [hq] at hlook
            clear he' hq
            go_wp2_with fail
            (refine wp_region_ext (by kernel_rfl) (by kernel_rfl) ?_; intro ι hι g hg; have q_d2 := hg.cell d2; have q_c2 := hg.cell c2; have q_hlook := fun i => hlook _ (hg.ext i); clear d2 c2 hlook; (repeat (go_big_quiet_step (fail))); refine wpQuiet_nil ?_; rintro w5 ⟨i2, rfl⟩; have hq5 := hg.ext i2; generalize g i2 = w5 at hq5 ⊢; clear q_d2 q_c2 q_hlook i2 hg g hι ι)
            go_wp2_with fail
            go_ret2
            rw [HB.out]
            exact ⟨off_no, hxw.trans hq5⟩
      · have e : k = f.length := by omega
        subst e
        have HB := Lib.hid (HRY.out (HCY.out HNV.out))
        have hale := atHoles_le l f f.length
        have hwf : ∀ r ∈ atHoles l f f.length, -2147483648 ≤ r ∧ r ≤ 2147483647 := fun r hr => by
          obtain ⟨i, a, _, rfl⟩ := (atHoles_mem l f _ r).1 hr
          exact HLW.out _ (by rw [rn_eq (by have := HLEN.out; omega)]; exact List.getElem_mem _)
        have HOR := Lib.hid (ownRunes_mk hown (by omega) hwf)
        clear hwf hale
        go_wp2_with fail
        go_ret2
        rw [HB.out]
        exact ⟨off_mk rfl (SlAt.own HOR.out), hxw⟩
  · rw [if_neg (fun h => hlen h.1)]
    have g1 : ((l.length : Int) != (f.length : Int)) = true := by rw [bne_iff_ne]; omega
    clear hbx hx hlen h1 h3 hM hA
    go_enter Tryd.func116, Tryd.ntmps116
    go_wp2_with fail
    go_ret2
    exact ⟨off_no, HX.out⟩
end Go.Proofs.YtkmfhcjdaglikaaDoor

namespace Go.Proofs.YtkmfhcjdaglikaaDoor
open Go.RowKit Go.Cg Go.Shelf Go.Maps

theorem met_around_put (k : Nat) (v : Value) (w : World) : (method (k + 1) 96 v "cognate/paradigm.put").run Tryd.prog w = .ok (111, v) w := by kernel_rfl
theorem met_around_off (k : Nat) (v : Value) (w : World) : (method (k + 1) 96 v "cognate/paradigm.off").run Tryd.prog w = .ok (110, v) w := by kernel_rfl
theorem met_within_put (k : Nat) (v : Value) (w : World) : (method (k + 1) 98 v "cognate/paradigm.put").run Tryd.prog w = .ok (115, v) w := by kernel_rfl
theorem met_within_off (k : Nat) (v : Value) (w : World) : (method (k + 1) 98 v "cognate/paradigm.off").run Tryd.prog w = .ok (114, v) w := by kernel_rfl
theorem met_shaped_put (k : Nat) (v : Value) (w : World) : (method (k + 1) 100 v "cognate/paradigm.put").run Tryd.prog w = .ok (117, v) w := by kernel_rfl
theorem met_shaped_off (k : Nat) (v : Value) (w : World) : (method (k + 1) 100 v "cognate/paradigm.off").run Tryd.prog w = .ok (116, v) w := by kernel_rfl
theorem met_doubled_put (k : Nat) (v : Value) (w : World) : (method (k + 1) 103 v "cognate/paradigm.put").run Tryd.prog w = .ok (120, v) w := by kernel_rfl
theorem met_doubled_off (k : Nat) (v : Value) (w : World) : (method (k + 1) 103 v "cognate/paradigm.off").run Tryd.prog w = .ok (119, v) w := by kernel_rfl

theorem cf_around_put (args : Array Value) (w : World) : (callFunc 111 args).run Tryd.prog w = .ok (.enter 111 args) w := by kernel_rfl
theorem cf_around_off (args : Array Value) (w : World) : (callFunc 110 args).run Tryd.prog w = .ok (.enter 110 args) w := by kernel_rfl
theorem cf_within_put (args : Array Value) (w : World) : (callFunc 115 args).run Tryd.prog w = .ok (.enter 115 args) w := by kernel_rfl
theorem cf_within_off (args : Array Value) (w : World) : (callFunc 114 args).run Tryd.prog w = .ok (.enter 114 args) w := by kernel_rfl
theorem cf_shaped_put (args : Array Value) (w : World) : (callFunc 117 args).run Tryd.prog w = .ok (.enter 117 args) w := by kernel_rfl
theorem cf_shaped_off (args : Array Value) (w : World) : (callFunc 116 args).run Tryd.prog w = .ok (.enter 116 args) w := by kernel_rfl
theorem cf_doubled_put (args : Array Value) (w : World) : (callFunc 120 args).run Tryd.prog w = .ok (.enter 120 args) w := by kernel_rfl
theorem cf_doubled_off (args : Array Value) (w : World) : (callFunc 119 args).run Tryd.prog w = .ok (.enter 119 args) w := by kernel_rfl

/-- what an affix that may be makes, by its runes -/
theorem mk1 {A : Alpha} {v : Nat} {f o : ByteArray} {n : Int} {l : List Int} (h : affB A ⟨1, f, o, n⟩ = true) : (strR f ++ l ++ [], 0) = mkL A v ⟨1, f, o, n⟩ l := by
  have := strR_word (aff1 rfl h).1
  rw [this, List.append_nil]; rfl
theorem mk2 {A : Alpha} {v : Nat} {f o : ByteArray} {n : Int} {l : List Int} (h : affB A ⟨2, f, o, n⟩ = true) : ([] ++ l ++ strR f, 0) = mkL A v ⟨2, f, o, n⟩ l := by
  have := strR_word (aff2 rfl h).1
  rw [this, List.nil_append]; rfl
theorem mk3 {A : Alpha} {v : Nat} {f o : ByteArray} {n : Int} {l : List Int} (h : affB A ⟨3, f, o, n⟩ = true) : (strR f ++ l ++ strR o, 0) = mkL A v ⟨3, f, o, n⟩ l := by
  rw [strR_word (aff3 rfl h).1, strR_word (aff3 rfl h).2.1]; rfl
theorem mk4 {A : Alpha} {v : Nat} {f o : ByteArray} {n : Nat} {l : List Int} (h : affB A ⟨4, f, o, (n : Int)⟩ = true) : (l.take n ++ strR f ++ l.drop n, 0) = mkL A v ⟨4, f, o, (n : Int)⟩ l := by
  rw [strR_word (aff4 rfl h).1]; rfl
theorem mk5 {A : Alpha} {v : Nat} {f o : ByteArray} {n : Int} {l : List Int} (h : affB A ⟨5, f, o, n⟩ = true) : (if holeN (strR f) = (rootL A v l).length then (fillTo (rootL A v l) (strR f) (strR f).length, 0) else ([], 130)) = mkL A v ⟨5, f, o, n⟩ l := by
  rw [strR_form (aff5 rfl h).1]; rfl
theorem mk6 {A : Alpha} {v : Nat} {f o : ByteArray} {n : Nat} {l : List Int} (_h : affB A ⟨6, f, o, (n : Int)⟩ = true) : (if l.length < n then ([], 150) else if n = 0 then (l ++ l, 0) else (l.take n ++ l, 0)) = mkL A v ⟨6, f, o, (n : Int)⟩ l := rfl
theorem strR_le {A : Alpha} {x : Aff} (h : affB A x = true) : (strR x.form).length ≤ 64 ∨ 6 = x.kind := by
  rcases aff_kind h with k | k | k | k | k | k
  · left; rw [strR_word (aff1 k h).1]; exact spell_len A _
  · left; rw [strR_word (aff2 k h).1]; exact spell_len A _
  · left; rw [strR_word (aff3 k h).1]; exact spell_len A _
  · left; rw [strR_word (aff4 k h).1]; exact spell_len A _
  · left; rw [strR_form (aff5 k h).1]; exact (form_ok (aff5 k h).1).2.2.1
  · right; exact k.symm

theorem strR_small {A : Alpha} {x : Aff} (h : affB A x = true) (h6 : x.kind ≠ 6) : (strR x.form).length ≤ 4096 := by
  rcases strR_le h with h | h
  · omega
  · exact absurd h.symm h6
theorem strR_small3 {A : Alpha} {f o : ByteArray} {n : Int} (h : affB A ⟨3, f, o, n⟩ = true) : (strR o).length ≤ 4096 := by
  have h2 : (spell A o).2 = 0 := (aff3 rfl h).2.1
  rw [strR_word h2]
  exact Nat.le_trans (spell_len A o) (by decide)

/-- what an affix that may be is taken off, by its runes -/
theorem of1 {A : Alpha} {v : Nat} {f o : ByteArray} {n : Int} {l : List Int} (h : affB A ⟨1, f, o, n⟩ = true) : (if (strR f).length + ([] : List Int).length ≤ l.length then some ((l.drop (strR f).length).take (l.length - (strR f).length - ([] : List Int).length)) else none) = offC A v ⟨1, f, o, n⟩ l := by
  have h2 : (spell A f).2 = 0 := (aff1 rfl h).1
  rw [strR_word h2]
  show _ = if (spell A f).1.length ≤ l.length then some (l.drop (spell A f).1.length) else none
  rw [List.length_nil, Nat.add_zero, Nat.sub_zero]
  by_cases hc : (spell A f).1.length ≤ l.length
  · rw [if_pos hc, if_pos hc, List.take_of_length_le (by rw [List.length_drop]; exact Nat.le_refl _)]
  · rw [if_neg hc, if_neg hc]
theorem of2 {A : Alpha} {v : Nat} {f o : ByteArray} {n : Int} {l : List Int} (h : affB A ⟨2, f, o, n⟩ = true) : (if ([] : List Int).length + (strR f).length ≤ l.length then some ((l.drop ([] : List Int).length).take (l.length - ([] : List Int).length - (strR f).length)) else none) = offC A v ⟨2, f, o, n⟩ l := by
  have h2 : (spell A f).2 = 0 := (aff2 rfl h).1
  rw [strR_word h2]
  show _ = if (spell A f).1.length ≤ l.length then some (l.take (l.length - (spell A f).1.length)) else none
  rw [List.length_nil, Nat.zero_add, Nat.sub_zero, List.drop_zero]
theorem of3 {A : Alpha} {v : Nat} {f o : ByteArray} {n : Int} {l : List Int} (h : affB A ⟨3, f, o, n⟩ = true) : (if (strR f).length + (strR o).length ≤ l.length then some ((l.drop (strR f).length).take (l.length - (strR f).length - (strR o).length)) else none) = offC A v ⟨3, f, o, n⟩ l := by
  have h1 : (spell A f).2 = 0 := (aff3 rfl h).1
  have h2 : (spell A o).2 = 0 := (aff3 rfl h).2.1
  rw [strR_word h1, strR_word h2]; rfl
theorem of4 {A : Alpha} {v : Nat} {f o : ByteArray} {n : Nat} {l : List Int} (h : affB A ⟨4, f, o, (n : Int)⟩ = true) : (if (strR f).length ≤ l.length then some (l.take (min n (l.length - (strR f).length)) ++ l.drop (min n (l.length - (strR f).length) + (strR f).length)) else none) = offC A v ⟨4, f, o, (n : Int)⟩ l := by
  have h1 : (spell A f).2 = 0 := (aff4 rfl h).1
  rw [strR_word h1]; rfl
theorem of5 {A : Alpha} {v : Nat} {f o : ByteArray} {n : Int} {l : List Int} (h : affB A ⟨5, f, o, n⟩ = true) : (if l.length = (strR f).length ∧ consB A v l (strR f) = true then some (atHoles l (strR f) (strR f).length) else none) = offC A v ⟨5, f, o, n⟩ l := by
  have h1 : formB A f = true := (aff5 rfl h).1
  rw [strR_form h1]; rfl
theorem of6 {A : Alpha} {v : Nat} {f o : ByteArray} {n : Nat} {l : List Int} (_h : affB A ⟨6, f, o, (n : Int)⟩ = true) : (if n = 0 then some (l.drop (l.length / 2)) else if 2 * n ≤ l.length then some (l.drop n) else none) = offC A v ⟨6, f, o, (n : Int)⟩ l := rfl

/-- what a call of an affix's put, through the interface, gives -/
theorem put_call {fp ap : Option Addr} {fc ac mb B : Nat} {A : Alpha} {v : Nat} {x : Aff} {yv : Value} {w : World} (hok : A.Ok) (hx : affB A x = true) (hyv : AffV B w x yv) (hM : ConsAt w mb A v) :
    ∃ (T : TypeId) (val : Value) (F : FuncId), yv = .iface T val ∧ (∀ w : World, (method 285 T val "cognate/paradigm.put").run Tryd.prog w = .ok (F, val) w) ∧ (∀ (args : Array Value) (w : World), (callFunc F args).run Tryd.prog w = .ok (.enter F args) w) ∧
      ∀ (W : World) (c : List Int) (cp : Option Addr) (cc : Nat), Ext w W → SlAt W cp c cc → InA A c → c.length ≤ 256 → Calls Tryd.prog F #[val, .agg #[.slice fp A.feats.length fc, .slice ap A.lets.length ac, .map (some mb)], .slice cp c.length cc] W fun e w' => PutRes W.heap.size (mkL A v x c) e w' ∧ Ext W w' := by
  rcases aff_kind hx with hk1 | hk1 | hk1 | hk1 | hk1 | hk1
  · obtain ⟨xk, f, o, n⟩ := x
    dsimp only at hk1
    subst hk1
    unfold AffV at hyv
    dsimp only at hyv
    obtain ⟨p, pc, rfl, hof⟩ := hyv
    have hfl := strR_small hx (by intro h; cases h)
    dsimp only at hfl
    refine ⟨_, _, _, rfl, fun w => met_around_put 284 _ w, cf_around_put, fun W c cp cc hW hS hI hl => ?_⟩
    have hcall := around_put p none cp pc 0 cc (strR f) [] c (.slice fp A.feats.length fc) (.slice ap A.lets.length ac) (.map (some mb)) hfl (by simp) (by omega) W (hof.at_.mono hW) (RunesAt.nil _ _) hS.at_
    rw [mk1 hx] at hcall
    exact hcall
  · obtain ⟨xk, f, o, n⟩ := x
    dsimp only at hk1
    subst hk1
    unfold AffV at hyv
    dsimp only at hyv
    obtain ⟨p, pc, rfl, hof⟩ := hyv
    have hfl := strR_small hx (by intro h; cases h)
    dsimp only at hfl
    refine ⟨_, _, _, rfl, fun w => met_around_put 284 _ w, cf_around_put, fun W c cp cc hW hS hI hl => ?_⟩
    have hcall := around_put none p cp 0 pc cc [] (strR f) c (.slice fp A.feats.length fc) (.slice ap A.lets.length ac) (.map (some mb)) (by simp) hfl (by omega) W (RunesAt.nil _ _) (hof.at_.mono hW) hS.at_
    rw [mk2 hx] at hcall
    exact hcall
  · obtain ⟨xk, f, o, n⟩ := x
    dsimp only at hk1
    subst hk1
    unfold AffV at hyv
    dsimp only at hyv
    obtain ⟨p, pc, p2, pc2, rfl, hof, hof2⟩ := hyv
    have hfl := strR_small hx (by intro h; cases h)
    dsimp only at hfl
    refine ⟨_, _, _, rfl, fun w => met_around_put 284 _ w, cf_around_put, fun W c cp cc hW hS hI hl => ?_⟩
    have hcall := around_put p p2 cp pc pc2 cc (strR f) (strR o) c (.slice fp A.feats.length fc) (.slice ap A.lets.length ac) (.map (some mb)) hfl (strR_small3 hx) (by omega) W (hof.at_.mono hW) (hof2.at_.mono hW) hS.at_
    rw [mk3 hx] at hcall
    exact hcall
  · obtain ⟨xk, f, o, n⟩ := x
    dsimp only at hk1
    subst hk1
    unfold AffV at hyv
    dsimp only at hyv
    obtain ⟨p, pc, rfl, hof⟩ := hyv
    have hfl := strR_small hx (by intro h; cases h)
    dsimp only at hfl
    have h4 := aff4 rfl hx
    dsimp only at h4
    obtain ⟨n, rfl⟩ : ∃ m : Nat, n = (m : Int) := ⟨n.toNat, by have := h4.2.2.1; omega⟩
    have hn4 : n ≤ 64 := by have := h4.2.2.2; omega
    refine ⟨_, _, _, rfl, fun w => met_within_put 284 _ w, cf_within_put, fun W c cp cc hW hS hI hl => ?_⟩
    have hcall := within_put p cp pc cc (strR f) c n hn4 (.slice fp A.feats.length fc) (.slice ap A.lets.length ac) (.map (some mb)) hfl (by omega) W (hof.at_.mono hW) hS
    rw [mk4 hx] at hcall
    exact hcall
  · obtain ⟨xk, f, o, n⟩ := x
    dsimp only at hk1
    subst hk1
    unfold AffV at hyv
    dsimp only at hyv
    obtain ⟨p, pc, rfl, hof⟩ := hyv
    have hfl := strR_small hx (by intro h; cases h)
    dsimp only at hfl
    refine ⟨_, _, _, rfl, fun w => met_shaped_put 284 _ w, cf_shaped_put, fun W c cp cc hW hS hI hl => ?_⟩
    have hcall := shaped_put p cp fp ap pc cc fc ac mb A v (strR f) c hok hI hfl (by omega) W (hof.at_.mono hW) hS.at_ (hM.mono hW)
    rw [mk5 hx] at hcall
    exact hcall
  · obtain ⟨xk, f, o, n⟩ := x
    dsimp only at hk1
    subst hk1
    unfold AffV at hyv
    dsimp only at hyv
    obtain rfl := hyv
    have h6 := aff6 rfl hx
    dsimp only at h6
    obtain ⟨n, rfl⟩ : ∃ m : Nat, n = (m : Int) := ⟨n.toNat, by have := h6.2.2.1; omega⟩
    have hn6 : n ≤ 64 := by have := h6.2.2.2; omega
    refine ⟨_, _, _, rfl, fun w => met_doubled_put 284 _ w, cf_doubled_put, fun W c cp cc hW hS hI hl => ?_⟩
    have hcall := doubled_put cp cc c n hn6 (.slice fp A.feats.length fc) (.slice ap A.lets.length ac) (.map (some mb)) (by omega) W hS
    rw [mk6 hx] at hcall
    exact hcall

/-- what a call of an affix's off, through the interface, gives -/
theorem off_call {fp ap : Option Addr} {fc ac mb B : Nat} {A : Alpha} {v : Nat} {x : Aff} {yv : Value} {w : World} (hok : A.Ok) (hx : affB A x = true) (hyv : AffV B w x yv) (hM : ConsAt w mb A v) :
    ∃ (T : TypeId) (val : Value) (F : FuncId), yv = .iface T val ∧ (∀ w : World, (method 285 T val "cognate/paradigm.off").run Tryd.prog w = .ok (F, val) w) ∧ (∀ (args : Array Value) (w : World), (callFunc F args).run Tryd.prog w = .ok (.enter F args) w) ∧
      ∀ (W : World) (c : List Int) (cp : Option Addr) (cc : Nat), Ext w W → SlAt W cp c cc → InA A c → c.length ≤ 256 → Calls Tryd.prog F #[val, .agg #[.slice fp A.feats.length fc, .slice ap A.lets.length ac, .map (some mb)], .slice cp c.length cc] W fun e w' => OffRes (offC A v x c) e w' ∧ Ext W w' := by
  rcases aff_kind hx with hk1 | hk1 | hk1 | hk1 | hk1 | hk1
  · obtain ⟨xk, f, o, n⟩ := x
    dsimp only at hk1
    subst hk1
    unfold AffV at hyv
    dsimp only at hyv
    obtain ⟨p, pc, rfl, hof⟩ := hyv
    have hfl := strR_small hx (by intro h; cases h)
    dsimp only at hfl
    refine ⟨_, _, _, rfl, fun w => met_around_off 284 _ w, cf_around_off, fun W c cp cc hW hS hI hl => ?_⟩
    have hcall := around_off p none cp pc 0 cc (strR f) [] c (.slice fp A.feats.length fc) (.slice ap A.lets.length ac) (.map (some mb)) hfl (by simp) (by omega) W hS
    rw [of1 hx] at hcall
    exact hcall
  · obtain ⟨xk, f, o, n⟩ := x
    dsimp only at hk1
    subst hk1
    unfold AffV at hyv
    dsimp only at hyv
    obtain ⟨p, pc, rfl, hof⟩ := hyv
    have hfl := strR_small hx (by intro h; cases h)
    dsimp only at hfl
    refine ⟨_, _, _, rfl, fun w => met_around_off 284 _ w, cf_around_off, fun W c cp cc hW hS hI hl => ?_⟩
    have hcall := around_off none p cp 0 pc cc [] (strR f) c (.slice fp A.feats.length fc) (.slice ap A.lets.length ac) (.map (some mb)) (by simp) hfl (by omega) W hS
    rw [of2 hx] at hcall
    exact hcall
  · obtain ⟨xk, f, o, n⟩ := x
    dsimp only at hk1
    subst hk1
    unfold AffV at hyv
    dsimp only at hyv
    obtain ⟨p, pc, p2, pc2, rfl, hof, hof2⟩ := hyv
    have hfl := strR_small hx (by intro h; cases h)
    dsimp only at hfl
    refine ⟨_, _, _, rfl, fun w => met_around_off 284 _ w, cf_around_off, fun W c cp cc hW hS hI hl => ?_⟩
    have hcall := around_off p p2 cp pc pc2 cc (strR f) (strR o) c (.slice fp A.feats.length fc) (.slice ap A.lets.length ac) (.map (some mb)) hfl (strR_small3 hx) (by omega) W hS
    rw [of3 hx] at hcall
    exact hcall
  · obtain ⟨xk, f, o, n⟩ := x
    dsimp only at hk1
    subst hk1
    unfold AffV at hyv
    dsimp only at hyv
    obtain ⟨p, pc, rfl, hof⟩ := hyv
    have hfl := strR_small hx (by intro h; cases h)
    dsimp only at hfl
    have h4 := aff4 rfl hx
    dsimp only at h4
    obtain ⟨n, rfl⟩ : ∃ m : Nat, n = (m : Int) := ⟨n.toNat, by have := h4.2.2.1; omega⟩
    have hn4 : n ≤ 64 := by have := h4.2.2.2; omega
    refine ⟨_, _, _, rfl, fun w => met_within_off 284 _ w, cf_within_off, fun W c cp cc hW hS hI hl => ?_⟩
    have hcall := within_off p cp pc cc (strR f) c n hn4 (.slice fp A.feats.length fc) (.slice ap A.lets.length ac) (.map (some mb)) hfl (by omega) W hS
    rw [of4 hx] at hcall
    exact hcall
  · obtain ⟨xk, f, o, n⟩ := x
    dsimp only at hk1
    subst hk1
    unfold AffV at hyv
    dsimp only at hyv
    obtain ⟨p, pc, rfl, hof⟩ := hyv
    have hfl := strR_small hx (by intro h; cases h)
    dsimp only at hfl
    refine ⟨_, _, _, rfl, fun w => met_shaped_off 284 _ w, cf_shaped_off, fun W c cp cc hW hS hI hl => ?_⟩
    have hcall := shaped_off p cp fp ap pc cc fc ac mb A v (strR f) c hok hI hfl (by omega) W (hof.at_.mono hW) hS.at_ (hM.mono hW)
    rw [of5 hx] at hcall
    exact hcall
  · obtain ⟨xk, f, o, n⟩ := x
    dsimp only at hk1
    subst hk1
    unfold AffV at hyv
    dsimp only at hyv
    obtain rfl := hyv
    have h6 := aff6 rfl hx
    dsimp only at h6
    obtain ⟨n, rfl⟩ : ∃ m : Nat, n = (m : Int) := ⟨n.toNat, by have := h6.2.2.1; omega⟩
    have hn6 : n ≤ 64 := by have := h6.2.2.2; omega
    refine ⟨_, _, _, rfl, fun w => met_doubled_off 284 _ w, cf_doubled_off, fun W c cp cc hW hS hI hl => ?_⟩
    have hcall := doubled_off cp cc c n hn6 (.slice fp A.feats.length fc) (.slice ap A.lets.length ac) (.map (some mb)) (by omega) W hS
    rw [of6 hx] at hcall
    exact hcall
end Go.Proofs.YtkmfhcjdaglikaaDoor

namespace Go.Proofs.YtkmfhcjdaglikaaDoor
open Go.RowKit Go.Cg Go.Shelf Go.Maps

set_option maxRecDepth 100000 in
set_option maxHeartbeats 8000000 in
theorem sput_any (fp ap lp xp : Option Addr) (fc ac lc xc mb : Nat) (A : Alpha) (v : Nat) (l : List Int) (xs : List Aff) (hok : A.Ok) (hl : InA A l) (hl2 : l.length ≤ 256) (hsm : ∀ i, i < xs.length → (ax xs i).small) (hxs : ∀ i, i < xs.length → affB A (ax xs i) = true) (w : World) (hA : AlphaAt w fp ap A) (hT : Tabs w) (hM : ConsAt w mb A v) (hL : SlAt w lp l lc) (hX : AffsAt w xp xs) :
    Calls Tryd.prog 30 #[.agg #[.slice fp A.feats.length fc, .slice ap A.lets.length ac, .map (some mb)], .slice lp l.length lc, .slice xp xs.length xc] w fun e w' => e = .returned (.tuple #[.string (runesBytes (putUp A v xs l).1), .int .i64 (putUp A v xs l).2]) ∧ Ext w w' := by
  have hx : Ext w (w.alloc (.cells #[.slice fp A.feats.length fc, .slice ap A.lets.length ac, .map (some mb)] 74)) := (Ext.refl _).alloc _
  have HX := Lib.hid hx
  have HBX := Lib.hid (fun W (hW : Ext (w.alloc (.cells #[.slice fp A.feats.length fc, .slice ap A.lets.length ac, .map (some mb)] 74)) W) => (⟨hW.cell0 0, hW.cell0 1, hW.cell0 2, hW.lt0⟩ : W.cell? ⟨w.heap.size, 0, none⟩ = some (.slice fp A.feats.length fc) ∧ W.cell? ⟨w.heap.size, 1, none⟩ = some (.slice ap A.lets.length ac) ∧ W.cell? ⟨w.heap.size, 2, none⟩ = some (.map (some mb)) ∧ w.heap.size < W.heap.size))
  have HMD := Lib.hid (fun i (hi : i < xs.length) W (hW : Ext w W) => made_any fp ap fc ac A (ax xs i) (hX.wf i hi) (hsm i hi) hok W (hA.mono hW) (hT.ext hW))
  have HXS := Lib.hid hxs
  have HOK := Lib.hid hok
  have HL := Lib.hid hl
  have HL2 := Lib.hid hl2
  have hxb := hX.big
  obtain ⟨PU, hPU⟩ : ∃ PU, putUp A v xs l = PU := ⟨_, rfl⟩
  rw [hPU]
  have HPU := Lib.hid hPU
  clear hx hsm hxs hl hl2 hok hPU
  go_enter Tryd.func30, Tryd.ntmps30
  go_wp2_with fail
  go_loopw [1, 16] (fun lv i wr => ∃ (k : Nat) (c : List Int) (cp : Option Addr) (cc : Nat), k ≤ xs.length ∧ i = .int .i64 k ∧ lv = .slice cp c.length cc ∧ Ext (w.alloc (.cells #[.slice fp A.feats.length fc, .slice ap A.lets.length ac, .map (some mb)] 74)) wr ∧ SlAt wr cp c cc ∧ Hid (InA A c) ∧ Hid (c.length ≤ 256) ∧ Hid (PU = putUp A v (xs.drop k) c)) (fun _ i _ => xs.length - (intOf i).toNat)
  case atStart => exact ⟨0, l, lp, lc, Nat.zero_le _, rfl, rfl, Ext.refl _, hL.mono HX.out, HL.out, HL2.out, HPU.out.symm⟩
  case round =>
    obtain ⟨k, c, cp, cc, hk, rfl, rfl, hy, hC, HIC, HLC, HU⟩ := hrel
    by_cases hlt : k < xs.length
    · obtain ⟨b, off, e0, hbw, c0, c1, c2, c3⟩ := (hX.mono (HX.out.trans hy)).cells hlt
      subst e0
      have hmd := HMD.out k hlt
      have HXK := Lib.hid (HXS.out k hlt)
      have HUE := Lib.hid (fun h => putUp_err (A := A) (v := v) (l := c) hlt h)
      have HUO := Lib.hid (fun h => putUp_ok (A := A) (v := v) (l := c) hlt h)
      obtain ⟨x, hxx⟩ : ∃ x, ax xs k = x := ⟨_, rfl⟩
      rw [hxx] at hmd HXK c0 c1 c2 c3 HUE HUO
      have HMK := Lib.hid hmd
      have hya := hy.alloc (.cells #[.int .u8 (x.kind : Int), .string x.form, .string x.other, .int .i64 x.pos] 36)
      have hwa := (Ext.refl wr).alloc (.cells #[.int .u8 (x.kind : Int), .string x.form, .string x.other, .int .i64 x.pos] 36)
      have x0 := (Ext.refl (wr.alloc (.cells #[.int .u8 (x.kind : Int), .string x.form, .string x.other, .int .i64 x.pos] 36))).lt0
      obtain ⟨d0, d1, d2, l2⟩ := HBX.out _ hya
      clear hmd
      go_wp2_with fail
      refine (HMK.out _ (HX.out.trans hya)).mono ?_
      rintro e w2 ⟨⟨yv, rfl, hyv⟩, hx2⟩
      rw [HXK.out]
      obtain ⟨T, val, F, rfl, hmet, hcf, hcall⟩ := put_call HOK.out HXK.out (hyv HXK.out) (hM.mono ((HX.out.trans hya).trans hx2)) (fp := fp) (ap := ap) (fc := fc) (ac := ac)
      have hc2 := hcall w2 c cp cc (Ext.refl _) (hC.mono (hwa.trans hx2)) HIC.out HLC.out
      have hy2 := hya.trans hx2
      obtain ⟨d0, d1, d2, l2⟩ := HBX.out _ hy2
      have hpe : putC A v x c = if (mkL A v x c).2 ≠ 0 then ([], (mkL A v x c).2) else if 256 < (mkL A v x c).1.length then ([], 9) else mkL A v x c := rfl
      have hmi := mkL_in (v := v) HXK.out HIC.out
      obtain ⟨MR, hMR⟩ : ∃ MR, mkL A v x c = MR := ⟨_, rfl⟩
      rw [hMR] at hc2 hpe hmi
      obtain ⟨R, E⟩ := MR
      dsimp only at hpe hmi
      have HC2 := Lib.hid hc2
      have HMI := Lib.hid hmi
      clear hyv hcall hc2 hMR hmi
      by_cases hE : E = 0
      · rw [if_neg (fun h => h hE)] at hpe
        subst hE
        by_cases hbig : 256 < R.length
        · rw [if_pos hbig] at hpe
          have HRES := Lib.hid (HU.out.trans (HUE.out (by rw [hpe]; decide)))
          have HPE := Lib.hid hpe
          clear hpe
          go_wp2_with fail
          refine HC2.out.mono ?_
          rintro e w3 ⟨⟨rp, rc, rfl, hof3⟩, hx3⟩
          dsimp only
          go_wp2_with fail
          go_ret2
          refine ⟨?_, HX.out.trans (hy2.trans hx3)⟩
          rw [HRES.out, HPE.out]; rfl
        · rw [if_neg hbig] at hpe
          have HRES := Lib.hid (HU.out.trans (HUO.out (by rw [hpe])))
          have HPE := Lib.hid hpe
          clear hpe
          go_wp2_with fail
          refine HC2.out.mono ?_
          rintro e w3 ⟨⟨rp, rc, rfl, hof3⟩, hx3⟩
          dsimp only at hof3 ⊢
          go_wp2_with fail
          exact ⟨⟨k + 1, R, rp, rc, by omega, by go_num, rfl, hy2.trans hx3, SlAt.own hof3, HMI.out, Nat.le_of_not_lt hbig, show PU = _ from by rw [HRES.out, HPE.out]⟩, by simp [intOf]; omega⟩
      · rw [if_pos hE] at hpe
        have HRES := Lib.hid (HU.out.trans (HUE.out (by rw [hpe]; exact hE)))
        have HPE := Lib.hid hpe
        have gE : (E != 0) = true := by rw [bne_iff_ne]; exact hE
        clear hpe hE
        go_wp2_with fail
        refine HC2.out.mono ?_
        rintro e w3 ⟨⟨rp, rc, rfl, hof3⟩, hx3⟩
        dsimp only
        go_wp2_with fail
        go_ret2
        refine ⟨?_, HX.out.trans (hy2.trans hx3)⟩
        rw [HRES.out, HPE.out]; rfl
    · have HRES := Lib.hid (HU.out.trans (putUp_end hlt))
      have hcv := hC.at_.text (P := Tryd.prog) (src := 75) (dst := 9) Tryd.underlying75 Tryd.underlying21 Tryd.underlying9 cc
      go_wp2_with fail
      go_ret2
      refine ⟨?_, HX.out.trans hy⟩
      rw [HRES.out]; rfl
end Go.Proofs.YtkmfhcjdaglikaaDoor

namespace Go.Cg
open Go.RowKit Go.Lib
theorem set_three {w : World} {b : Nat} {a0 a1 a2 v0 v1 v2 : Value} {T : TypeId} (h : w.heap[b]? = some (.cells #[a0, a1, a2] T (0, 0))) : (((w.setCell ⟨b, 0, none⟩ v0).setCell ⟨b, 1, none⟩ v1).setCell ⟨b, 2, none⟩ v2).heap[b]? = some (.cells #[v0, v1, v2] T (0, 0)) := by
  have h1 := heap_setCell_same w b 0 _ _ v0 h
  have h2 := heap_setCell_same _ b 1 _ _ v1 h1
  exact heap_setCell_same _ b 2 _ _ v2 h2
/-- what a block of three cells gives a walk -/
structure Box3 (W : World) (b : Nat) (a0 a1 a2 : Value) (T : TypeId) : Prop where
  blk : W.heap[b]? = some (.cells #[a0, a1, a2] T (0, 0))
theorem Box3.ext {W W' : World} {b : Nat} {a0 a1 a2 : Value} {T : TypeId} (h : Box3 W b a0 a1 a2 T) (hx : Ext W W') : Box3 W' b a0 a1 a2 T := ⟨(Below.block hx b (Array.getElem?_eq_some_iff.1 h.blk).1).trans h.blk⟩
theorem Box3.facts {W : World} {b : Nat} {a0 a1 a2 : Value} {T : TypeId} (h : Box3 W b a0 a1 a2 T) : W.cell? ⟨b, 0, none⟩ = some a0 ∧ W.cell? ⟨b, 1, none⟩ = some a1 ∧ W.cell? ⟨b, 2, none⟩ = some a2 ∧ W.frozen? ⟨b, 0, none⟩ = false ∧ W.frozen? ⟨b, 1, none⟩ = false ∧ W.frozen? ⟨b, 2, none⟩ = false ∧ b < W.heap.size :=
  ⟨by rw [Lib.cell_of_heap h.blk]; rfl, by rw [Lib.cell_of_heap h.blk]; rfl, by rw [Lib.cell_of_heap h.blk]; rfl, Lib.frozen_of_heap h.blk 0, Lib.frozen_of_heap h.blk 1, Lib.frozen_of_heap h.blk 2, (Array.getElem?_eq_some_iff.1 h.blk).1⟩
end Go.Cg
namespace Go.Proofs.YtkmfhcjdaglikaaDoor
open Go.RowKit Go.Cg Go.Shelf Go.Maps

theorem findLetter_lt {A : Alpha} (hA : A.Ok) {k : Nat} (hk : k < A.lets.length) : 0 ≤ findLetter A (A.at_ k).rune := by
  rw [findLetter_at hk (fun j hj => (hA.2.2.2.2 k hk).2.2 j hj) rfl]; omega

def BegRes (B : Nat) (fp ap : Option Addr) (fc ac : Nat) (A : Alpha) (v : Nat) (E : Int) (e : Ending) (w' : World) : Prop :=
  (E = 0 → ∃ mb, e = .returned (.tuple #[.agg #[.slice fp A.feats.length fc, .slice ap A.lets.length ac, .map (some mb)], .int .i64 0]) ∧ ConsAt w' mb A v ∧ B ≤ mb) ∧
  (E ≠ 0 → e = .returned (.tuple #[.agg #[.slice none 0 0, .slice none 0 0, .map none], .int .i64 E]))

set_option maxRecDepth 100000 in
set_option maxHeartbeats 4000000 in
theorem begun_any (fp ap : Option Addr) (fc ac : Nat) (A : Alpha) (v : Nat) (hv : v < 4294967296) (w : World) (hA : AlphaAt w fp ap A) :
    Calls Tryd.prog 43 #[.agg #[.slice fp A.feats.length fc, .slice ap A.lets.length ac], .int .u32 v] w fun e w' => BegRes w.heap.size fp ap fc ac A v (classE A v 0) e w' ∧ Ext w w' := by
  have hx : Ext w ((w.alloc (.cells #[.slice fp A.feats.length fc, .slice ap A.lets.length ac] 26)).alloc (.cells #[.slice none 0 0, .slice none 0 0, .map none] 74)) := ((Ext.refl _).alloc _).alloc _
  have hxb : Ext (w.alloc (.cells #[.slice fp A.feats.length fc, .slice ap A.lets.length ac] 26)) ((w.alloc (.cells #[.slice fp A.feats.length fc, .slice ap A.lets.length ac] 26)).alloc (.cells #[.slice none 0 0, .slice none 0 0, .map none] 74)) := (Ext.refl _).alloc _
  have hcl := class_any fp ap fc ac A v 0 hv (by decide) _ (hA.mono hx)
  have HX := Lib.hid hx
  have HBX := Lib.hid (fun W (hW : Ext ((w.alloc (.cells #[.slice fp A.feats.length fc, .slice ap A.lets.length ac] 26)).alloc (.cells #[.slice none 0 0, .slice none 0 0, .map none] 74)) W) => (⟨(hxb.trans hW).cell0 0, (hxb.trans hW).cell0 1, (hxb.trans hW).lt0⟩ : W.cell? ⟨w.heap.size, 0, none⟩ = some (.slice fp A.feats.length fc) ∧ W.cell? ⟨w.heap.size, 1, none⟩ = some (.slice ap A.lets.length ac) ∧ w.heap.size < W.heap.size))
  have HBY := Lib.hid (fun W (hW : Ext ((w.alloc (.cells #[.slice fp A.feats.length fc, .slice ap A.lets.length ac] 26)).alloc (.cells #[.slice none 0 0, .slice none 0 0, .map none] 74)) W) => (Box3.ext ⟨heap_alloc2_new _ _ _⟩ hW : Box3 W (w.heap.size + 1) (.slice none 0 0) (.slice none 0 0) (.map none) 74))
  clear hx hxb
  by_cases h0 : classE A v 0 = 0
  · obtain ⟨hok, _⟩ : A.Ok ∧ True := ⟨classE_ok1 h0, trivial⟩
    have hch := fun r (hr : 0 ≤ findLetter A r) => class_has hok h0 hr
    have hfl := fun k (hk : k < A.lets.length) => findLetter_lt hok hk
    rw [h0] at hcl ⊢
    obtain ⟨CL, hCL⟩ : ∃ CL, classL A v 0 = CL := ⟨_, rfl⟩
    rw [hCL] at hcl hch
    have HCH := Lib.hid (fun k (hk : k < A.lets.length) => hch _ (hfl k hk))
    have HOK := Lib.hid hok
    have hlb := hA.lbig
    have hmm := @run_makeMap Tryd.prog
    clear h0 hok hch hfl
    go_enter Tryd.func43, Tryd.ntmps43
    go_wp2_with fail
    refine hcl.mono ?_
    rintro e w1 ⟨rp, rc, rfl, ho, hx1⟩
    obtain ⟨d0, d1, l1⟩ := HBX.out _ hx1
    have HO := Lib.hid ho
    clear ho hcl hCL
    go_wp2_with fail
    have hb0 : Box3 ((w1.alloc (.map #[] 0)).alloc (.cells #[.slice fp A.feats.length fc, .slice ap A.lets.length ac, .map (some w1.heap.size)] 74)) (w1.heap.size + 1) (.slice fp A.feats.length fc) (.slice ap A.lets.length ac) (.map (some w1.heap.size)) 74 := ⟨by have := heap_alloc_new (w1.alloc (.map #[] 0)) (.cells #[.slice fp A.feats.length fc, .slice ap A.lets.length ac, .map (some w1.heap.size)] 74); rw [size_alloc] at this; exact this⟩
    have hm0 := (MapFn.made Tryd.prog w1 21 4).ext ((Ext.refl _).alloc (.cells #[.slice fp A.feats.length fc, .slice ap A.lets.length ac, .map (some w1.heap.size)] 74))
    have HB0 := Lib.hid hb0
    have HM0 := Lib.hid hm0
    clear hb0 hm0 d0 d1 l1
    go_loopw [27] (fun i wr => ∃ k : Nat, k ≤ A.lets.length ∧ i = .int .i64 k ∧ Ext w1 wr ∧ Box3 wr (w1.heap.size + 1) (.slice fp A.feats.length fc) (.slice ap A.lets.length ac) (.map (some w1.heap.size)) 74 ∧ MapFn Tryd.prog wr 21 4 w1.heap.size k (consF A v k)) (fun i _ => A.lets.length - (intOf i).toNat)
    case atStart => exact ⟨0, Nat.zero_le _, rfl, ((Ext.refl _).alloc _).alloc _, HB0.out, HM0.out⟩
    case round =>
      obtain ⟨k, hk, rfl, hx2, hB3, hMp⟩ := hrel
      by_cases hlt : k < A.lets.length
      · obtain ⟨b, off, rfl, hbw, c0, c1, c2⟩ := (hA.mono (HX.out.trans (hx1.trans hx2))).cells hlt
        obtain ⟨wf1, wf2, wf3, wf4⟩ := hA.wf k hlt
        have hch := HCH.out k hlt
        obtain ⟨q, hq⟩ : ∃ q, hasL A v 0 (A.at_ k).rune = q := ⟨_, rfl⟩
        have hcf : consF A v (k + 1) = putFn (consF A v k) (.int .i32 (A.at_ k).rune) (.bool (!q)) := by rw [← hq]; rfl
        have HCF := Lib.hid hcf
        have hcn := fun W (hW : Ext wr W) => Contains_any rp rc CL (A.at_ k).rune W (HO.out.at_.mono (hx2.trans hW))
        rw [hch, hq] at hcn
        have HCN := Lib.hid hcn
        have hwa := (Ext.refl wr).alloc (.cells #[.int .i32 (A.at_ k).rune, .int .u32 ((A.at_ k).plus : Int), .int .u32 ((A.at_ k).minus : Int)] 64)
        have hB4 := hB3.ext hwa
        obtain ⟨_, _, m2, _, _, _, lm⟩ := hB4.facts
        have HB4 := Lib.hid hB4
        have HMP := Lib.hid hMp
        have r0 := (Ext.refl (wr.alloc (.cells #[.int .i32 (A.at_ k).rune, .int .u32 ((A.at_ k).plus : Int), .int .u32 ((A.at_ k).minus : Int)] 64))).cell0 0
        simp only [List.getElem?_toArray, List.getElem?_cons_zero] at r0
        have hlw : w1.heap.size < wr.heap.size := by have := (hB3.facts).2.2.2.2.2.2; omega
        clear hch hq hcf hcn hMp hB3 hB4
        go_wp2_with fail
        (refine wp_region_ext_tail 9 (by kernel_rfl) (by kernel_rfl) ?_; intro ι hι g hg; simp only [List.take_succ_cons, List.take_zero, List.drop_succ_cons, List.drop_zero]; have q_m2 := hg.cell m2; have q_r0 := hg.cell r0; clear m2 r0; (repeat (go_big_quiet_step ((go_at_call 56; exact hg.call (HCN.out _ (hwa.trans (hg.ext _))))))); refine wpQuiet_nil ?_; rintro w5 ⟨i2, rfl⟩; have hq5 := hg.ext i2; generalize g i2 = w5 at hq5 ⊢; clear q_m2 q_r0 i2 hg g hι ι)
        have hM5 := HMP.out.ext (hwa.trans hq5)
        have hB5 := HB4.out.ext hq5
        go_wp2_with (at_mapUpdate; refine wpList_mapUpdate_fn _ rfl _ _ _ 72 rfl 21 4 w1.heap.size k (consF A v k) hM5 lawR Tryd.underlying72 (by unfold maxLen; omega) rfl _ _ _ (.bool (!q)) rfl rfl (keyR wf1 wf2) (plainElem_bool Tryd.underlying4 (!q)) ?_; intro w6 hM6 hg6 hs6)
        refine ⟨⟨k + 1, by omega, by go_num, (hx2.trans (hwa.trans hq5)).grown hg6 (by rintro j ⟨⟩; exact Nat.le_refl _), ?_, ?_⟩, by simp [intOf]; omega⟩
        · exact ⟨(hg6.block _ (by have := hB5.facts.2.2.2.2.2.2; exact this) (by simp)).trans hB5.blk⟩
        · rw [HCF.out]; exact hM6
      · have e : k = A.lets.length := by omega
        subst e
        obtain ⟨m0, m1, m2, _, _, _, lm⟩ := hB3.facts
        obtain ⟨c0, c1, c2, f0, f1, f2, l2⟩ := (HBY.out _ (hx1.trans hx2)).facts
        have hbk := Lib.hid (set_three (v0 := .slice fp A.feats.length fc) (v1 := .slice ap A.lets.length ac) (v2 := .map (some w1.heap.size)) (HBY.out _ (hx1.trans hx2)).blk)
        have hy := HX.out.trans (hx1.trans hx2)
        have hmb : w.heap.size + 1 < w1.heap.size := by
          have := hx1.le
          rw [size_alloc, size_alloc] at this; omega
        have HMC := Lib.hid (((MapFn.setCell hMp (a := ⟨w.heap.size + 1, 0, none⟩) (by show w1.heap.size ≠ w.heap.size + 1; omega) (.slice fp A.feats.length fc)).setCell (a := ⟨w.heap.size + 1, 1, none⟩) (by show w1.heap.size ≠ w.heap.size + 1; omega) (.slice ap A.lets.length ac)).setCell (a := ⟨w.heap.size + 1, 2, none⟩) (by show w1.heap.size ≠ w.heap.size + 1; omega) (.map (some w1.heap.size)))
        have hmb2 := Lib.hid (show w.heap.size ≤ w1.heap.size by omega)
        clear hMp hmb
        go_wp2_with fail
        refine bodyPost_ret (results_cell_row2 rfl _ _ (w.heap.size + 1) 74 #[.slice fp A.feats.length fc, .slice ap A.lets.length ac, .map (some w1.heap.size)] (0, 0) _ _ rfl hbk.out Tryd.underlying74 rfl (by kernel_rfl) rfl) rfl ⟨⟨fun _ => ⟨_, rfl, HMC.out, hmb2.out⟩, fun h => absurd rfl h⟩, ?_⟩
        exact ((hy.setCell (p := ⟨w.heap.size + 1, 0, none⟩) (by simp) _).setCell (p := ⟨w.heap.size + 1, 1, none⟩) (by simp) _).setCell (p := ⟨w.heap.size + 1, 2, none⟩) (by simp) _
  · have gE : (classE A v 0 != 0) = true := by rw [bne_iff_ne]; exact h0
    have HB : ∀ mp e w', e = .returned (.tuple #[.agg #[.slice none 0 0, .slice none 0 0, mp], .int .i64 (classE A v 0)]) → mp = .map none → BegRes w.heap.size fp ap fc ac A v (classE A v 0) e w' := fun mp e w' h hm => ⟨fun h9 => absurd h9 h0, fun _ => by rw [h, hm]⟩
    obtain ⟨E, hE⟩ : ∃ E, classE A v 0 = E := ⟨_, rfl⟩
    rw [hE] at hcl gE HB ⊢
    have HB2 := Lib.hid HB
    clear h0 HB hE
    go_enter Tryd.func43, Tryd.ntmps43
    go_wp2_with fail
    refine hcl.mono ?_
    rintro e w1 ⟨rp, rc, rfl, ho, hx1⟩
    obtain ⟨d0, d1, l1⟩ := HBX.out _ hx1
    obtain ⟨c0, c1, c2, f0, f1, f2, l2⟩ := (HBY.out _ hx1).facts
    have hbk := Lib.hid (set_three (v0 := .slice none 0 0) (v1 := .slice none 0 0) (v2 := .map none) (HBY.out _ hx1).blk)
    have hy := HX.out.trans hx1
    go_wp2_with fail
    refine bodyPost_ret (results_cell_row2 rfl _ _ (w.heap.size + 1) 74 #[.slice none 0 0, .slice none 0 0, .map none] (0, 0) _ _ rfl hbk.out Tryd.underlying74 rfl (by kernel_rfl) rfl) rfl ⟨HB2.out _ _ _ rfl rfl, ?_⟩
    exact ((hy.setCell (p := ⟨w.heap.size + 1, 0, none⟩) (by simp) _).setCell (p := ⟨w.heap.size + 1, 1, none⟩) (by simp) _).setCell (p := ⟨w.heap.size + 1, 2, none⟩) (by simp) _
end Go.Proofs.YtkmfhcjdaglikaaDoor
