/- Contracts for cognatetop.turns, from the leaves up: its letters; the rule package's and the pattern package's functions at its rule; a maker made ready. -/
import Derived.Test.YtcnhlogkhnoacaaGreatDoorFeatf
import Derived.Test.YtcnhlogkhnoacaaGreatDoorFeati
import Derived.Test.YtcnhlogkhnoacaaGreatDoorAccb
import Derived.Test.YtcnhlogkhnoacaaGreatDoorWordb
import Derived.Test.YtcnhlogkhnoacaaGreatDoorMapg
import Derived.WideKeyPair
import Derived.Laws.EntriesVeiled
namespace Go.Proofs.YtcnhlogkhnoacaaGreatDoor
open Go.RowKit Go.Cg Go.Shelf Go.Maps

def topA : Alpha := ⟨[⟨#[118]⟩], [⟨97, 1, 0⟩, ⟨98, 0, 1⟩, ⟨99, 0, 1⟩]⟩

set_option maxHeartbeats 1000000 in
theorem tletters_any (w : World) :
    Calls Tryz.prog 29 #[] w fun e w' => ∃ fp lp fc lc, e = .returned (.agg #[.slice fp topA.feats.length fc, .slice lp topA.lets.length lc]) ∧ AlphaAt w' fp lp topA ∧ Ext w w' := by
  go_enter Tryz.func29, Tryz.ntmps29
  go_wp2_with fail
  obtain ⟨W1, hW1⟩ : ∃ W1, w.alloc (.cells #[.slice (some ⟨w.heap.size + 1, 0, none⟩) 1 1, .slice (some ⟨w.heap.size + 1 + 1, 0, none⟩) 3 3] 25) = W1 := ⟨_, rfl⟩
  have hz1 : W1.heap.size = w.heap.size + 1 := by rw [← hW1, size_alloc]
  have hb1 : W1.heap[w.heap.size]? = some (.cells #[.slice (some ⟨w.heap.size + 1, 0, none⟩) 1 1, .slice (some ⟨w.heap.size + 1 + 1, 0, none⟩) 3 3] 25 (0, 0)) := by rw [← hW1]; exact heap_alloc_new _ _
  have hx1 : Ext w W1 := by rw [← hW1]; exact (Ext.refl _).alloc _
  rw [hW1]
  clear hW1
  obtain ⟨W2, hW2⟩ : ∃ W2, W1.alloc (.cells #[.string ⟨#[118]⟩] 9) = W2 := ⟨_, rfl⟩
  have hz2 : W2.heap.size = w.heap.size + 1 + 1 := by rw [← hW2, size_alloc, hz1]
  have hc2 : ∀ j, W2.cell? ⟨w.heap.size + 1, j, none⟩ = #[Value.string ⟨#[118]⟩][j]? := by
    intro j
    have := (Ext.refl (W1.alloc (.cells #[.string ⟨#[118]⟩] 9))).cell0 j
    rw [hW2, hz1] at this; exact this
  have hx2 : Ext W1 W2 := by rw [← hW2]; exact (Ext.refl _).alloc _
  rw [hW2]
  clear hW2
  obtain ⟨W3, hW3⟩ : ∃ W3, W2.alloc (.cells #[.int .i32 97, .int .u32 1, .int .u32 0, .int .i32 98, .int .u32 0, .int .u32 1, .int .i32 99, .int .u32 0, .int .u32 1] 114) = W3 := ⟨_, rfl⟩
  have hc3 : ∀ j, W3.cell? ⟨w.heap.size + 1 + 1, j, none⟩ = #[Value.int .i32 97, .int .u32 1, .int .u32 0, .int .i32 98, .int .u32 0, .int .u32 1, .int .i32 99, .int .u32 0, .int .u32 1][j]? := by
    intro j
    have := (Ext.refl (W2.alloc (.cells #[.int .i32 97, .int .u32 1, .int .u32 0, .int .i32 98, .int .u32 0, .int .u32 1, .int .i32 99, .int .u32 0, .int .u32 1] 114))).cell0 j
    rw [hW3, hz2] at this; exact this
  have hz3 : W3.heap.size = w.heap.size + 1 + 1 + 1 := by rw [← hW3, size_alloc, hz2]
  have hx3 : Ext W2 W3 := by rw [← hW3]; exact (Ext.refl _).alloc _
  rw [hW3]
  clear hW3
  refine bodyPost_ret (results_cell_row rfl _ _ w.heap.size 25 #[.slice (some ⟨w.heap.size + 1, 0, none⟩) 1 1, .slice (some ⟨w.heap.size + 1 + 1, 0, none⟩) 3 3] (0, 0) _ rfl ((Below.block (hx2.trans hx3) w.heap.size (by omega)).trans hb1) Tryz.underlying25 rfl (by kernel_rfl)) rfl ?_
  refine ⟨_, _, _, _, rfl, ⟨.inr ⟨w.heap.size + 1, 0, rfl, by omega, fun j hj => ?_⟩, .inr ⟨w.heap.size + 1 + 1, 0, rfl, by omega, fun j hj => ?_⟩, by decide, by decide, ?_, ?_⟩, (hx1.trans hx2).trans hx3⟩
  · have h1 : j < 1 := hj
    rw [Nat.zero_add, hx3.facts.1 _ _ (by omega), hc2]
    match j, h1 with
    | 0, _ => rfl
  · have h1 : j < 9 := hj
    rw [Nat.zero_add, hc3]
    match j, h1 with
    | 0, _ => rfl
    | 1, _ => rfl
    | 2, _ => rfl
    | 3, _ => rfl
    | 4, _ => rfl
    | 5, _ => rfl
    | 6, _ => rfl
    | 7, _ => rfl
    | 8, _ => rfl
  · intro i hi
    have h1 : i < 3 := hi
    unfold Letter.wf
    match i, h1 with
    | 0, _ => decide
    | 1, _ => decide
    | 2, _ => decide
  · intro i hi
    have h1 : i < 1 := hi
    match i, h1 with
    | 0, _ => decide


theorem tletter_any (fp lp : Option Addr) (fc lc : Nat) (A : Alpha) (r : Int) (E : Int) (hE : ofE A r = E) (w : World) (hA : AlphaAt w fp lp A) :
    Calls Tryz.prog 128 #[.agg #[.slice fp A.feats.length fc, .slice lp A.lets.length lc], .int .i32 r] w fun e w' => e = .returned (.bool (E == 0)) ∧ Ext w w' := by
  have HO := Lib.hid (fun W (hW : Ext w W) => of_any fp lp fc lc A r W (hA.mono hW))
  have hx0 : Ext w (w.alloc (.cells #[.slice fp A.feats.length fc, .slice lp A.lets.length lc] 25)) := (Ext.refl _).alloc _
  have HX0 := Lib.hid hx0
  clear hx0
  go_enter Tryz.func128, Tryz.ntmps128
  go_wp2_with fail
  refine (HO.out _ HX0.out).mono ?_
  rw [hE]
  rintro e w1 ⟨rfl, hx1⟩
  go_wp2_with fail
  go_ret
  exact ⟨rfl, (HX0.out.trans hx1).alloc _⟩

theorem teither_any (fp lp : Option Addr) (fc lc : Nat) (A : Alpha) (r : Int) (hr : (r != 0) = true) (hE : ofE A r = 0) (w : World) (hA : AlphaAt w fp lp A) :
    Calls Tryz.prog 125 #[.agg #[.slice fp A.feats.length fc, .slice lp A.lets.length lc], .int .i32 r, .int .u32 0, .int .u32 0] w fun e w' => e = .returned (.bool true) ∧ Ext w w' := by
  have HO := Lib.hid (fun W (hW : Ext w W) => tletter_any fp lp fc lc A r 0 hE W (hA.mono hW))
  have hx0 : Ext w (w.alloc (.cells #[.slice fp A.feats.length fc, .slice lp A.lets.length lc] 25)) := (Ext.refl _).alloc _
  have HX0 := Lib.hid hx0
  clear hx0
  go_enter Tryz.func125, Tryz.ntmps125
  go_wp2_with fail
  refine (HO.out _ HX0.out).mono ?_
  rintro e w1 ⟨rfl, hx1⟩
  go_wp2_with fail
  go_ret
  exact ⟨rfl, HX0.out.trans hx1⟩

theorem tswap_any (fp lp : Option Addr) (fc lc : Nat) (A : Alpha) (r : Int) (hr : (r != 0) = true) (hE : ofE A r = 0) (w : World) (hA : AlphaAt w fp lp A) :
    Calls Tryz.prog 126 #[.agg #[.slice fp A.feats.length fc, .slice lp A.lets.length lc], .agg #[.int .i32 r, .int .i64 0, .int .u32 0, .int .u32 0], .int .i64 1] w fun e w' => e = .returned (.bool true) ∧ Ext w w' := by
  have HO := Lib.hid (fun W (hW : Ext w W) => teither_any fp lp fc lc A r hr hE W (hA.mono hW))
  have hx0 : Ext w ((w.alloc (.cells #[.slice fp A.feats.length fc, .slice lp A.lets.length lc] 25)).alloc (.cells #[.int .i32 r, .int .i64 0, .int .u32 0, .int .u32 0] 76)) := ((Ext.refl _).alloc _).alloc _
  have HX0 := Lib.hid hx0
  clear hx0
  have hr2 : (r == 0) = false := by simpa using hr
  go_enter Tryz.func126, Tryz.ntmps126
  go_wp2_with fail
  refine (HO.out _ HX0.out).mono ?_
  rintro e w1 ⟨rfl, hx1⟩
  go_wp2_with fail
  go_ret
  exact ⟨rfl, HX0.out.trans hx1⟩

theorem tnamed_any (w : World) : Calls Tryz.prog 124 #[.string ⟨#[]⟩] w fun e w' => e = .returned (.bool true) ∧ Ext w w' := by
  have hcon := fun W => Any.strings_Trim_laid Tryz.lays160 (by kernel_rfl) ⟨#[]⟩ ⟨#[97, 98, 99, 100, 101, 102, 103, 104, 105, 106, 107, 108, 109, 110, 111, 112, 113, 114, 115, 116, 117, 118, 119, 120, 121, 122, 48, 49, 50, 51, 52, 53, 54, 55, 56, 57, 45]⟩ W (by decide) (by decide) (ascii_of_all (by decide))
  change ∀ W, Calls Tryz.prog 72 _ _ _ at hcon
  generalize hr : (⟨(Lib.trimS (⟨#[]⟩ : ByteArray).data.toList (⟨#[97, 98, 99, 100, 101, 102, 103, 104, 105, 106, 107, 108, 109, 110, 111, 112, 113, 114, 115, 116, 117, 118, 119, 120, 121, 122, 48, 49, 50, 51, 52, 53, 54, 55, 56, 57, 45]⟩ : ByteArray).data.toList).toArray⟩ : ByteArray) = r at hcon
  have hr2 : r = ⟨#[]⟩ := by rw [← hr]; decide +kernel
  subst hr2
  have HC := Lib.hid hcon
  clear hcon hr
  go_enter Tryz.func124, Tryz.ntmps124
  go_wp2_with fail
  refine (HC.out _).mono ?_
  rintro e w1 ⟨rfl, hx⟩
  go_wp2_with fail
  go_ret
  exact ⟨rfl, hx⟩

end Go.Proofs.YtcnhlogkhnoacaaGreatDoor

namespace Go.Cg
open Go.RowKit Go.Lib
/-- block B holds just these values -/
def Row (w : World) (B T : Nat) (l : List Value) : Prop := w.heap[B]? = some (.cells l.toArray T (0, 0))
theorem Row.lt {w : World} {B T : Nat} {l : List Value} (h : Row w B T l) : B < w.heap.size := (Array.getElem?_eq_some_iff.1 h).1
theorem Row.ext {w w' : World} {B T : Nat} {l : List Value} (h : Row w B T l) (hx : Ext w w') : Row w' B T l := (Below.block hx B h.lt).trans h
theorem Row.cell {w : World} {B T : Nat} {l : List Value} (h : Row w B T l) (j : Nat) : w.cell? ⟨B, j, none⟩ = l[j]? := by
  have h' : w.heap[B]? = some (.cells l.toArray T (0, 0)) := h
  simp [World.cell?, h']
theorem Row.froz {w : World} {B T : Nat} {l : List Value} (h : Row w B T l) (j : Nat) : w.frozen? ⟨B, j, none⟩ = false := by
  have h' : w.heap[B]? = some (.cells l.toArray T (0, 0)) := h
  simp [World.frozen?, h']
theorem Row.set {w : World} {B T : Nat} {l : List Value} (h : Row w B T l) (j : Nat) (v : Value) : Row (w.setCell ⟨B, j, none⟩ v) B T (l.set j v) := by
  have := heap_setCell_same w B j l.toArray T v h
  unfold Row
  rw [this]
  simp
theorem Row.set_ne {w : World} {B T : Nat} {l : List Value} (h : Row w B T l) {a : Addr} (ha : B ≠ a.block) (v : Value) : Row (w.setCell a v) B T l := by
  have h' : w.heap[B]? = some (.cells l.toArray T (0, 0)) := h
  unfold Row
  rw [heap_setCell_other w a B v (fun e => ha e)]; exact h'
theorem Row.new (w : World) (T : Nat) (l : List Value) : Row (w.alloc (.cells l.toArray T (0, 0))) w.heap.size T l := heap_alloc_new w _
theorem Row.reads {w : World} {B T : Nat} {l : List Value} (h : Row w B T l) (f : Nat → Value) (hf : ∀ j, j < l.length → l[j]? = some (f j)) : Reads w (some ⟨B, 0, none⟩) l.length f :=
  .inr ⟨B, 0, rfl, h.lt, fun j hj => by rw [Nat.zero_add, h.cell]; exact hf j hj⟩
end Go.Cg
namespace Go.Proofs.YtcnhlogkhnoacaaGreatDoor
open Go.RowKit Go.Cg Go.Shelf Go.Maps

theorem tindex_any (p : Option Addr) (c : Nat) (l : List Bool) (x : Bool) (hl : l.length ≤ 1000) (w : World) (h : Reads w p l.length (fun j => .bool (l.getD j false))) :
    Calls Tryz.prog 181 #[.slice p l.length c, .bool x] w fun e w' => ∃ r : Int, e = .returned (.int .i64 r) ∧ decide (0 ≤ r) = l.contains x ∧ Ext w w' := by
  go_enter Tryz.func181, Tryz.ntmps181
  go_wp2_with fail
  go_loopw [8] (fun i wr => ∃ k : Nat, k ≤ l.length ∧ Hid (∀ j, j < k → l.getD j false ≠ x) ∧ i = .int .i64 k ∧ Ext w wr) (fun i _ => l.length - (intOf i).toNat)
  case atStart => exact ⟨0, Nat.zero_le _, fun j hj => by omega, rfl, Ext.refl _⟩
  case round =>
    obtain ⟨k, hk, HN, rfl, hx⟩ := hrel
    by_cases hlt : k < l.length
    · rcases h.mono hx with h0 | ⟨b, off, rfl, hbw, hc⟩
      · omega
      have c0 : wr.cell? ⟨b, off + k, none⟩ = some (.bool (l.getD k false)) := hc k hlt
      have HX := Lib.hid hx
      clear hx h
      cases he : (x == l.getD k false)
      · have HE := Lib.hid he
        generalize hq : l.getD k false = q at *
        have hq2 : q ≠ x := fun e => by rw [e] at he; simp at he
        have HQ := Lib.hid hq
        have HQ2 := Lib.hid hq2
        clear hq hq2 hc
        cases x <;> cases q <;> simp at he
        all_goals
          go_wp2_with fail
          refine ⟨⟨k + 1, by omega, ?_, by go_num, HX.out⟩, by simp [intOf]; omega⟩
          exact upto_succ HN.out (by rw [HQ.out]; exact HQ2.out)
      · have hq : l.getD k false = x := by simpa using (beq_iff_eq.1 he).symm
        rw [hq] at c0
        have HQ := Lib.hid hq
        clear he hq hc
        cases x
        all_goals
          go_wp2_with fail
          go_ret
          refine ⟨(k : Int), rfl, ?_, HX.out⟩
          rw [decide_eq_true (by omega)]
          symm
          have hq := HQ.out
          rw [List.getD_eq_getElem?_getD, List.getElem?_eq_getElem hlt, Option.getD_some] at hq
          rw [List.contains_iff_mem, ← hq]
          exact List.getElem_mem hlt
    · go_wp2_with fail
      go_ret
      refine ⟨-1, rfl, ?_, hx⟩
      symm
      rw [show decide ((0 : Int) ≤ -1) = false from rfl, ← Bool.not_eq_true, List.contains_iff_mem]
      intro hm
      obtain ⟨j, hj, hje⟩ := List.getElem_of_mem hm
      refine HN.out j (by omega) ?_
      rw [List.getD_eq_getElem?_getD, List.getElem?_eq_getElem hj, Option.getD_some]; exact hje

theorem tcontains_any (p : Option Addr) (c : Nat) (l : List Bool) (x : Bool) (hl : l.length ≤ 1000) (w : World) (h : Reads w p l.length (fun j => .bool (l.getD j false))) :
    Calls Tryz.prog 166 #[.slice p l.length c, .bool x] w fun e w' => e = .returned (.bool (l.contains x)) ∧ Ext w w' := by
  have HC := Lib.hid (tindex_any p c l x hl w h)
  go_enter Tryz.func166, Tryz.ntmps166
  go_wp2_with fail
  refine HC.out.mono ?_
  rintro e w1 ⟨r, rfl, hr, hx⟩
  have HR := Lib.hid hr
  have HX := Lib.hid hx
  clear HC hr h hx
  by_cases h0 : 0 ≤ r
  · go_wp2_with fail
    go_ret
    exact ⟨ret_bool (by rw [← HR.out] <;> simp [h0]), HX.out⟩
  · go_wp2_with fail
    go_ret
    exact ⟨ret_bool (by rw [← HR.out] <;> simp [h0]), HX.out⟩
end Go.Proofs.YtcnhlogkhnoacaaGreatDoor

namespace Go.Proofs.YtcnhlogkhnoacaaGreatDoor
open Go.RowKit Go.Cg Go.Shelf Go.Maps

/-- block b holds the one node of the pattern of nothing -/
structure NodeAt (w : World) (b : Nat) : Prop where
  lt : b < w.heap.size
  c0 : w.cell? ⟨b, 0, none⟩ = some (.int .u8 1)
  c1 : w.cell? ⟨b, 1, none⟩ = some (.int .i32 0)
  c2 : w.cell? ⟨b, 2, none⟩ = some (.int .u32 0)
  c3 : w.cell? ⟨b, 3, none⟩ = some (.int .u32 0)
  c4 : w.cell? ⟨b, 4, none⟩ = some (.slice none 0 0)
theorem NodeAt.ext {w w' : World} {b : Nat} (h : NodeAt w b) (hx : Ext w w') : NodeAt w' b :=
  ⟨Nat.lt_of_lt_of_le h.lt hx.le, (Below.cell hx (p := ⟨b, 0, none⟩) h.lt).trans h.c0, (Below.cell hx (p := ⟨b, 1, none⟩) h.lt).trans h.c1, (Below.cell hx (p := ⟨b, 2, none⟩) h.lt).trans h.c2, (Below.cell hx (p := ⟨b, 3, none⟩) h.lt).trans h.c3, (Below.cell hx (p := ⟨b, 4, none⟩) h.lt).trans h.c4⟩

theorem mkb1 (W : World) : (Instr.makeSlice 213 (.int .i64 1) (.int .i64 1)).run Tryz.prog W = .ok (.slice (some ⟨W.heap.size, 0, none⟩) 1 1) (W.alloc (.cells #[.bool false] 4 (0, 0))) := by kernel_rfl

set_option maxHeartbeats 1000000 in
theorem nothing_any (w : World) : Calls Tryz.prog 27 #[] w fun e w' => ∃ b, e = .returned (.agg #[.slice (some ⟨b, 0, none⟩) 1 1]) ∧ NodeAt w' b ∧ Ext w w' := by
  go_enter Tryz.func27, Tryz.ntmps27
  go_wp2_with fail
  obtain ⟨W1, hW1⟩ : ∃ W1, w.alloc (.cells #[.slice (some ⟨w.heap.size + 1, 0, none⟩) 1 1] 80) = W1 := ⟨_, rfl⟩
  have hz1 : W1.heap.size = w.heap.size + 1 := by rw [← hW1, size_alloc]
  have hb1 : W1.heap[w.heap.size]? = some (.cells #[.slice (some ⟨w.heap.size + 1, 0, none⟩) 1 1] 80 (0, 0)) := by rw [← hW1]; exact heap_alloc_new _ _
  have hx1 : Ext w W1 := by rw [← hW1]; exact (Ext.refl _).alloc _
  rw [hW1]
  clear hW1
  obtain ⟨W2, hW2⟩ : ∃ W2, W1.alloc (.cells #[.int .u8 1, .int .i32 0, .int .u32 0, .int .u32 0, .slice none 0 0] 134) = W2 := ⟨_, rfl⟩
  have hc2 : ∀ j, W2.cell? ⟨w.heap.size + 1, j, none⟩ = #[Value.int .u8 1, .int .i32 0, .int .u32 0, .int .u32 0, .slice none 0 0][j]? := by
    intro j
    have := (Ext.refl (W1.alloc (.cells #[.int .u8 1, .int .i32 0, .int .u32 0, .int .u32 0, .slice none 0 0] 134))).cell0 j
    rw [hW2, hz1] at this; exact this
  have hz2 : W2.heap.size = w.heap.size + 1 + 1 := by rw [← hW2, size_alloc, hz1]
  have hx2 : Ext W1 W2 := by rw [← hW2]; exact (Ext.refl _).alloc _
  rw [hW2]
  clear hW2
  refine bodyPost_ret (results_cell_row rfl _ _ w.heap.size 80 #[.slice (some ⟨w.heap.size + 1, 0, none⟩) 1 1] (0, 0) _ rfl ((Below.block hx2 w.heap.size (by omega)).trans hb1) Tryz.underlying80 rfl (by kernel_rfl)) rfl ?_
  exact ⟨w.heap.size + 1, rfl, ⟨by omega, hc2 0, hc2 1, hc2 2, hc2 3, hc2 4⟩, hx1.trans hx2⟩

set_option maxRecDepth 100000 in
set_option maxHeartbeats 4000000 in
theorem ttree_any (b : Nat) (w : World) (hN : NodeAt w b) : Calls Tryz.prog 160 #[.agg #[.slice (some ⟨b, 0, none⟩) 1 1]] w fun e w' => e = .returned (.bool true) ∧ Ext w w' := by
  have hmk := mkb1
  obtain ⟨W1, hW1⟩ : ∃ W, w.alloc (.cells #[.slice (some ⟨b, 0, none⟩) 1 1] 80) = W := ⟨_, rfl⟩
  have hz1 : W1.heap.size = w.heap.size + 1 := by rw [← hW1, size_alloc]
  have hx1 : Ext w W1 := by rw [← hW1]; exact (Ext.refl _).alloc _
  have hb1 : W1.heap[w.heap.size]? = some (.cells #[.slice (some ⟨b, 0, none⟩) 1 1] 80 (0, 0)) := by rw [← hW1]; exact heap_alloc_new _ _
  obtain ⟨W2, hW2⟩ : ∃ W, W1.alloc (.cells #[.bool false] 4 (0, 0)) = W := ⟨_, rfl⟩
  have hx2 : Ext W1 W2 := by rw [← hW2]; exact (Ext.refl _).alloc _
  have HK := Lib.hid (fun W (_ : Ext W2 W) => tcontains_any (some ⟨w.heap.size + 1, 0, none⟩) 0 [] false (by simp) W (.inl rfl))
  have HW1 := Lib.hid hW1
  have HW2 := Lib.hid hW2
  obtain ⟨d0, d1, d2⟩ := heap_cell0 hb1
  have HN := Lib.hid (fun W (hW : Ext W2 W) => hN.ext ((hx1.trans hx2).trans hW))
  have HX := Lib.hid (hx1.trans hx2)
  have hb2 := (Below.block hx2 _ (by omega)).trans hb1
  have HZ := Lib.hid (fun W (hW : Ext W2 W) => heap_cell0 ((Below.block hW _ (by have := hx2.le; omega)).trans hb2))
  clear hW1 hW2 hb1 hx1 hx2 hN hb2
  go_enter Tryz.func160, Tryz.ntmps160
  go_wp2_with fail
  rw [HW1.out]
  go_wp2_with fail
  rw [HW2.out]
  obtain ⟨e0, e1, e2⟩ := HZ.out _ (Ext.refl _)
  clear d0 d1 d2
  go_wp2_with fail
  go_loopw [23] (fun i wr => ∃ k : Nat, k ≤ 1 ∧ i = .int .i64 k ∧ Ext W2 wr) (fun i _ => 1 - (intOf i).toNat)
  case atStart => exact ⟨0, by decide, rfl, Ext.refl _⟩
  case round =>
    obtain ⟨k, hk, rfl, hx⟩ := hrel
    by_cases hlt : k < 1
    · obtain rfl : k = 0 := by omega
      have hn := HN.out _ hx
      obtain ⟨l0, c0, c1, c2, c3, c4⟩ := hn
      generalize wr = wo at *
      have HX1 := Lib.hid (hx.alloc (.cells #[.int .u8 1, .int .i32 0, .int .u32 0, .int .u32 0, .slice none 0 0] 134))
      clear hx
      go_wp2_with fail
      go_loopw [74] (fun i wr => i = .int .i64 0 ∧ Ext W2 wr) (fun _ _ => 0)
      case atStart => exact ⟨rfl, HX1.out⟩
      case round =>
        obtain ⟨rfl, hy⟩ := hrel
        go_wp2_with fail
        exact ⟨⟨1, by decide, by go_num, hy⟩, by simp [intOf]⟩
    · obtain rfl : k = 1 := by omega
      obtain ⟨e0, e1, e2⟩ := HZ.out _ hx
      go_wp2_with fail
      refine (tcontains_any _ 0 [] false (by simp) _ (.inl rfl)).mono ?_
      rintro e w5 ⟨rfl, hy⟩
      have h5 := (HX.out.trans hx).trans hy
      simp only [List.contains_nil]
      go_wp2_with fail
      go_ret
      exact ⟨rfl, h5⟩

set_option maxHeartbeats 4000000 in
theorem tpcheck_any (fp lp : Option Addr) (fc lc : Nat) (A : Alpha) (hok : A.Ok) (b : Nat) (w : World) (hA : AlphaAt w fp lp A) (hN : NodeAt w b) :
    Calls Tryz.prog 127 #[.agg #[.slice fp A.feats.length fc, .slice lp A.lets.length lc], .agg #[.slice (some ⟨b, 0, none⟩) 1 1]] w fun e w' => e = .returned (.int .i64 0) ∧ Ext w w' := by
  have hC := checkN_ok hok
  obtain ⟨W1, hW1⟩ : ∃ W, w.alloc (.cells #[.slice fp A.feats.length fc, .slice lp A.lets.length lc] 25) = W := ⟨_, rfl⟩
  obtain ⟨W2, hW2⟩ : ∃ W, W1.alloc (.cells #[.slice (some ⟨b, 0, none⟩) 1 1] 80) = W := ⟨_, rfl⟩
  have hz1 : W1.heap.size = w.heap.size + 1 := by rw [← hW1, size_alloc]
  have hx1 : Ext w W1 := by rw [← hW1]; exact (Ext.refl _).alloc _
  have hx2 : Ext W1 W2 := by rw [← hW2]; exact (Ext.refl _).alloc _
  have hb2 : W2.heap[w.heap.size + 1]? = some (.cells #[.slice (some ⟨b, 0, none⟩) 1 1] 80 (0, 0)) := by rw [← hW2, ← hz1]; exact heap_alloc_new _ _
  have HZ := Lib.hid (fun W (hW : Ext W2 W) => heap_cell0 ((Below.block hW _ (Array.getElem?_eq_some_iff.1 hb2).1).trans hb2))
  have HA := Lib.hid (fun W (hW : Ext W2 W) => hA.mono ((hx1.trans hx2).trans hW))
  have HN := Lib.hid (fun W (hW : Ext W2 W) => hN.ext ((hx1.trans hx2).trans hW))
  have HX := Lib.hid (hx1.trans hx2)
  have hck := check_any fp lp fc lc A W2 (HA.out _ (Ext.refl _))
  rw [hC] at hck
  have HCK := Lib.hid hck
  have HW1 := Lib.hid hW1
  have HW2 := Lib.hid hW2
  clear hW1 hW2 hx1 hx2 hb2 hA hN hck
  go_enter Tryz.func127, Tryz.ntmps127
  go_wp2_with fail
  rw [HW1.out, HW2.out]
  refine HCK.out.mono ?_
  rintro e w1 ⟨rfl, hx1⟩
  obtain ⟨e0, e1, e2⟩ := HZ.out _ hx1
  have HX1 := Lib.hid hx1
  have HT := Lib.hid (ttree_any b w1 (HN.out _ hx1))
  clear hx1
  go_wp2_with fail
  refine HT.out.mono ?_
  rintro e w2 ⟨rfl, hx2⟩
  have HX2 := Lib.hid (HX1.out.trans hx2)
  clear e0 e1 e2 hx2
  obtain ⟨e0, e1, e2⟩ := HZ.out _ HX2.out
  go_wp2_with fail
  go_loopw [23] (fun i wr => ∃ k : Nat, k ≤ 1 ∧ i = .int .i64 k ∧ Ext W2 wr) (fun i _ => 1 - (intOf i).toNat)
  case atStart => exact ⟨0, by decide, rfl, HX2.out⟩
  case round =>
    obtain ⟨k, hk, rfl, hx⟩ := hrel
    by_cases hlt : k < 1
    · obtain rfl : k = 0 := by omega
      have hn := HN.out _ hx
      obtain ⟨l0, c0, c1, c2, c3, c4⟩ := hn
      generalize wr = wo at *
      have HX3 := Lib.hid (hx.alloc (.cells #[.int .u8 1, .int .i32 0, .int .u32 0, .int .u32 0, .slice none 0 0] 134))
      clear hx
      go_wp2_with fail
      exact ⟨⟨1, by decide, by go_num, HX3.out⟩, by simp [intOf]⟩
    · obtain rfl : k = 1 := by omega
      go_wp2_with fail
      go_ret
      exact ⟨rfl, HX.out.trans hx⟩
end Go.Proofs.YtcnhlogkhnoacaaGreatDoor

namespace Go.Proofs.YtcnhlogkhnoacaaGreatDoor
open Go.RowKit Go.Cg Go.Shelf Go.Maps

/-- the rule's rows: block t holds its slot, i its swap, l and r its patterns' nodes -/
structure TR (w : World) (t i l r : Nat) : Prop where
  tl : t < w.heap.size
  t0 : w.cell? ⟨t, 0, none⟩ = some (.int .i32 98)
  t1 : w.cell? ⟨t, 1, none⟩ = some (.int .u32 0)
  t2 : w.cell? ⟨t, 2, none⟩ = some (.int .u32 0)
  il : i < w.heap.size
  i0 : w.cell? ⟨i, 0, none⟩ = some (.int .i32 99)
  i1 : w.cell? ⟨i, 1, none⟩ = some (.int .i64 0)
  i2 : w.cell? ⟨i, 2, none⟩ = some (.int .u32 0)
  i3 : w.cell? ⟨i, 3, none⟩ = some (.int .u32 0)
  nl : NodeAt w l
  nr : NodeAt w r
theorem TR.ext {w w' : World} {t i l r : Nat} (h : TR w t i l r) (hx : Ext w w') : TR w' t i l r :=
  ⟨Nat.lt_of_lt_of_le h.tl hx.le, (Below.cell hx (p := ⟨t, 0, none⟩) h.tl).trans h.t0, (Below.cell hx (p := ⟨t, 1, none⟩) h.tl).trans h.t1, (Below.cell hx (p := ⟨t, 2, none⟩) h.tl).trans h.t2,
    Nat.lt_of_lt_of_le h.il hx.le, (Below.cell hx (p := ⟨i, 0, none⟩) h.il).trans h.i0, (Below.cell hx (p := ⟨i, 1, none⟩) h.il).trans h.i1, (Below.cell hx (p := ⟨i, 2, none⟩) h.il).trans h.i2, (Below.cell hx (p := ⟨i, 3, none⟩) h.il).trans h.i3, h.nl.ext hx, h.nr.ext hx⟩

/-- cells of a block that was made before -/
theorem ext_cells {w W : World} {cs : Array Value} {T : TypeId} {B : Nat} (hB : w.heap.size = B) (h : Ext (w.alloc (.cells cs T)) W) : (∀ j, W.cell? ⟨B, j, none⟩ = cs[j]?) ∧ B < W.heap.size := by
  subst hB
  exact ⟨fun j => h.cell0 j, h.lt0⟩

set_option maxRecDepth 100000 in
set_option maxHeartbeats 4000000 in
theorem tcheck_any (fp lp : Option Addr) (fc lc : Nat) (A : Alpha) (hok : A.Ok) (h98 : ofE A 98 = 0) (h99 : ofE A 99 = 0) (t i l r : Nat) (w : World) (hA : AlphaAt w fp lp A) (hR : TR w t i l r) :
    Calls Tryz.prog 92 #[.agg #[.slice fp A.feats.length fc, .slice lp A.lets.length lc], .agg #[.string ⟨#[]⟩, .slice (some ⟨t, 0, none⟩) 1 1, .slice (some ⟨i, 0, none⟩) 1 1, .slice (some ⟨l, 0, none⟩) 1 1, .slice (some ⟨r, 0, none⟩) 1 1, .int .u8 1, .bool false]] w fun e w' => e = .returned (.int .i64 0) ∧ Ext w w' := by
  have hC := checkN_ok hok
  obtain ⟨W1, hW1⟩ : ∃ W, w.alloc (.cells #[.slice fp A.feats.length fc, .slice lp A.lets.length lc] 25) = W := ⟨_, rfl⟩
  obtain ⟨W2, hW2⟩ : ∃ W, W1.alloc (.cells #[.string ⟨#[]⟩, .slice (some ⟨t, 0, none⟩) 1 1, .slice (some ⟨i, 0, none⟩) 1 1, .slice (some ⟨l, 0, none⟩) 1 1, .slice (some ⟨r, 0, none⟩) 1 1, .int .u8 1, .bool false] 83) = W := ⟨_, rfl⟩
  have hz1 : W1.heap.size = w.heap.size + 1 := by rw [← hW1, size_alloc]
  have hx1 : Ext w W1 := by rw [← hW1]; exact (Ext.refl _).alloc _
  have hx2 : Ext W1 W2 := by rw [← hW2]; exact (Ext.refl _).alloc _
  have HBa := Lib.hid (fun W (hW : Ext W2 W) => (by
    have h := ext_cells rfl (W := W) (by rw [hW1]; exact hx2.trans hW : Ext (w.alloc (.cells #[.slice fp A.feats.length fc, .slice lp A.lets.length lc] 25)) W)
    exact ⟨h.1 0, h.1 1, h.2⟩ : W.cell? ⟨w.heap.size, 0, none⟩ = some (.slice fp A.feats.length fc) ∧ W.cell? ⟨w.heap.size, 1, none⟩ = some (.slice lp A.lets.length lc) ∧ w.heap.size < W.heap.size))
  have HBr := Lib.hid (fun W (hW : Ext W2 W) => (by
    have h := ext_cells hz1 (W := W) (by rw [hW2]; exact hW : Ext (W1.alloc (.cells #[.string ⟨#[]⟩, .slice (some ⟨t, 0, none⟩) 1 1, .slice (some ⟨i, 0, none⟩) 1 1, .slice (some ⟨l, 0, none⟩) 1 1, .slice (some ⟨r, 0, none⟩) 1 1, .int .u8 1, .bool false] 83)) W)
    exact ⟨h.1 0, h.1 1, h.1 2, h.1 3, h.1 4, h.1 5, h.2⟩ : W.cell? ⟨w.heap.size + 1, 0, none⟩ = some (.string ⟨#[]⟩) ∧ W.cell? ⟨w.heap.size + 1, 1, none⟩ = some (.slice (some ⟨t, 0, none⟩) 1 1) ∧ W.cell? ⟨w.heap.size + 1, 2, none⟩ = some (.slice (some ⟨i, 0, none⟩) 1 1) ∧ W.cell? ⟨w.heap.size + 1, 3, none⟩ = some (.slice (some ⟨l, 0, none⟩) 1 1) ∧ W.cell? ⟨w.heap.size + 1, 4, none⟩ = some (.slice (some ⟨r, 0, none⟩) 1 1) ∧ W.cell? ⟨w.heap.size + 1, 5, none⟩ = some (.int .u8 1) ∧ w.heap.size + 1 < W.heap.size))
  have hck := check_any fp lp fc lc A W2 (hA.mono (hx1.trans hx2))
  rw [hC] at hck
  have HCK := Lib.hid hck
  have HE := Lib.hid (fun W (hW : Ext W2 W) => teither_any fp lp fc lc A 98 rfl h98 W (hA.mono ((hx1.trans hx2).trans hW)))
  have HS := Lib.hid (fun W (hW : Ext W2 W) => tswap_any fp lp fc lc A 99 rfl h99 W (hA.mono ((hx1.trans hx2).trans hW)))
  have HP := Lib.hid (fun b W (hW : Ext W2 W) hN => tpcheck_any fp lp fc lc A hok b W (hA.mono ((hx1.trans hx2).trans hW)) hN)
  have HR := Lib.hid (fun W (hW : Ext W2 W) => hR.ext ((hx1.trans hx2).trans hW))
  have HX := Lib.hid (hx1.trans hx2)
  have HW1 := Lib.hid hW1
  have HW2 := Lib.hid hW2
  clear hW1 hW2 hx1 hx2 hz1 hA hR hck hok h98 h99 hC
  go_enter Tryz.func92, Tryz.ntmps92
  go_wp2_with fail
  rw [HW1.out, HW2.out]
  refine HCK.out.mono ?_
  rintro e w1 ⟨rfl, hx1⟩
  have HX1 := Lib.hid hx1
  obtain ⟨f0, f1, f2, f3, f4, f5, fl⟩ := HBr.out _ hx1
  clear hx1
  go_wp2_with fail
  refine (tnamed_any w1).mono ?_
  rintro e w2 ⟨rfl, hx2⟩
  have HX2 := Lib.hid (HX1.out.trans hx2)
  clear f0 f1 f2 f3 f4 f5 fl hx2
  obtain ⟨f0, f1, f2, f3, f4, f5, fl⟩ := HBr.out _ HX2.out
  go_wp2_with fail
  clear f0 f1 f2 f3 f4 f5 fl
  go_loopw [54] (fun i wr => ∃ k : Nat, k ≤ 1 ∧ i = .int .i64 k ∧ Ext W2 wr) (fun i _ => 1 - (intOf i).toNat)
  case atStart => exact ⟨0, by decide, rfl, HX2.out⟩
  case round =>
    obtain ⟨k, hk, rfl, hx⟩ := hrel
    by_cases hlt : k < 1
    · obtain rfl : k = 0 := by omega
      obtain ⟨tl, t0, t1, t2, _, _, _, _, _, _, _⟩ := HR.out _ hx
      obtain ⟨a0, a1, al⟩ := HBa.out _ hx
      generalize wr = wo at *
      have HX3 := Lib.hid (hx.alloc (.cells #[.int .i32 98, .int .u32 0, .int .u32 0] 73))
      clear hx
      go_wp2_with fail
      refine (HE.out _ HX3.out).mono ?_
      rintro e w3 ⟨rfl, hx3⟩
      have h3 := HX3.out.trans hx3
      clear hx3
      go_wp2_with fail
      exact ⟨⟨1, by decide, by go_num, h3⟩, by simp [intOf]⟩
    · obtain rfl : k = 1 := by omega
      obtain ⟨f0, f1, f2, f3, f4, f5, fl⟩ := HBr.out _ hx
      generalize wr = wo at *
      have HX4 := Lib.hid hx
      clear hx
      go_wp2_with fail
      clear f0 f1 f2 f3 f4 f5 fl
      go_loopw [71] (fun i wr => ∃ k : Nat, k ≤ 1 ∧ i = .int .i64 k ∧ Ext W2 wr) (fun i _ => 1 - (intOf i).toNat)
      case atStart => exact ⟨0, by decide, rfl, HX4.out⟩
      case round =>
        obtain ⟨k, hk, rfl, hx⟩ := hrel
        by_cases hlt : k < 1
        · obtain rfl : k = 0 := by omega
          obtain ⟨_, _, _, _, il, i0, i1, i2, i3, _, _⟩ := HR.out _ hx
          obtain ⟨a0, a1, al⟩ := HBa.out _ hx
          obtain ⟨f0, f1, f2, f3, f4, f5, fl⟩ := HBr.out _ hx
          generalize wr = wp at *
          have HX3 := Lib.hid (hx.alloc (.cells #[.int .i32 99, .int .i64 0, .int .u32 0, .int .u32 0] 76))
          clear hx
          go_wp2_with fail
          refine (HS.out _ HX3.out).mono ?_
          rintro e w3 ⟨rfl, hx3⟩
          have h3 := HX3.out.trans hx3
          clear hx3
          go_wp2_with fail
          exact ⟨⟨_, _, _, _, _, _, _, _, _, _, _, _, _, _, ⟨1, by decide, rfl, h3⟩, rfl⟩, by simp [intOf]⟩
        · obtain rfl : k = 1 := by omega
          obtain ⟨f0, f1, f2, f3, f4, f5, fl⟩ := HBr.out _ hx
          obtain ⟨a0, a1, al⟩ := HBa.out _ hx
          generalize wr = wp at *
          have HX5 := Lib.hid hx
          have HPL := Lib.hid (HP.out l _ hx (HR.out _ hx).nl)
          clear hx
          go_wp2_with fail
          refine HPL.out.mono ?_
          rintro e w5 ⟨rfl, hx5⟩
          have h5 := HX5.out.trans hx5
          clear f0 f1 f2 f3 f4 f5 fl a0 a1 al hx5
          obtain ⟨f0, f1, f2, f3, f4, f5, fl⟩ := HBr.out _ h5
          obtain ⟨a0, a1, al⟩ := HBa.out _ h5
          have HX6 := Lib.hid h5
          have HPR := Lib.hid (HP.out r _ h5 (HR.out _ h5).nr)
          clear h5
          go_wp2_with fail
          refine HPR.out.mono ?_
          rintro e w6 ⟨rfl, hx6⟩
          have h6 := HX.out.trans (HX6.out.trans hx6)
          clear f0 f1 f2 f3 f4 f5 fl a0 a1 al hx6
          go_wp2_with fail
          go_ret
          exact ⟨rfl, h6⟩

end Go.Proofs.YtcnhlogkhnoacaaGreatDoor

namespace Go.Proofs.YtcnhlogkhnoacaaGreatDoor
open Go.RowKit Go.Cg Go.Shelf Go.Maps

def strLen : Value → Nat
  | .string b => b.size
  | _ => 0

theorem dec1_any (s : ByteArray) (hs : 0 < s.size) (r : Int) (n : Nat) (hr : runeAt s 0 = r) (hn : (Utf8.decode s 0).2 = n) (he : s.extract 0 s.size = s) (w : World) (hT : Tabs w) :
    Calls Tryz.prog 82 #[.string s] w fun e w' => e = .returned (.tuple #[.int .i32 r, .int .i64 (n : Nat)]) ∧ Ext w w' := by
  have h := decode_any s 0 hs w hT
  rw [he, hr, hn] at h
  exact h

def tA : Nat → ByteArray
  | 0 => ⟨#[97, 98, 97]⟩
  | 1 => ⟨#[98, 97]⟩
  | 2 => ⟨#[97]⟩
  | _ => ⟨#[]⟩

theorem infoR9 : (Tryz.prog.info? 21).map (fun i => (i.zero, i.size, i.bytes)) = some (some (.int .i32 0), 1, 4) := by kernel_rfl

set_option maxRecDepth 100000 in
set_option maxHeartbeats 4000000 in
theorem tread_any (fp lp : Option Addr) (fc lc : Nat) (A : Alpha) (h97 : ofE A 97 = 0) (h98 : ofE A 98 = 0) (w : World) (hA : AlphaAt w fp lp A) (hT : Tabs w) :
    Calls Tryz.prog 93 #[.agg #[.slice fp A.feats.length fc, .slice lp A.lets.length lc], .string ⟨#[97, 98, 97]⟩] w fun e w' => ∃ rp rc, e = .returned (.tuple #[.slice rp 3 rc, .int .i64 0]) ∧ OwnRunes 21 w.heap.size w' rp rc [97, 98, 97] ∧ Ext w w' := by
  obtain ⟨i0, hi, hz0, hz1, hz2⟩ := info_parts infoR9
  obtain ⟨W1, hW1⟩ : ∃ W, w.alloc (.cells #[.slice fp A.feats.length fc, .slice lp A.lets.length lc] 25) = W := ⟨_, rfl⟩
  have hx1 : Ext w W1 := by rw [← hW1]; exact (Ext.refl _).alloc _
  have hz1' : W1.heap.size = w.heap.size + 1 := by rw [← hW1, size_alloc]
  have HBa := Lib.hid (fun W (hW : Ext W1 W) => (by
    have h := ext_cells rfl (W := W) (by rw [hW1]; exact hW : Ext (w.alloc (.cells #[.slice fp A.feats.length fc, .slice lp A.lets.length lc] 25)) W)
    exact ⟨h.1 0, h.1 1, h.2⟩ : W.cell? ⟨w.heap.size, 0, none⟩ = some (.slice fp A.feats.length fc) ∧ W.cell? ⟨w.heap.size, 1, none⟩ = some (.slice lp A.lets.length lc) ∧ w.heap.size < W.heap.size))
  have HD0 := Lib.hid (fun W (hW : Ext W1 W) => dec1_any ⟨#[97, 98, 97]⟩ (by decide) 97 1 (by decide +kernel) (by decide +kernel) (by decide +kernel) W (hT.ext (hx1.trans hW)))
  have HD1 := Lib.hid (fun W (hW : Ext W1 W) => dec1_any ⟨#[98, 97]⟩ (by decide) 98 1 (by decide +kernel) (by decide +kernel) (by decide +kernel) W (hT.ext (hx1.trans hW)))
  have HD2 := Lib.hid (fun W (hW : Ext W1 W) => dec1_any ⟨#[97]⟩ (by decide) 97 1 (by decide +kernel) (by decide +kernel) (by decide +kernel) W (hT.ext (hx1.trans hW)))
  have HL0 := Lib.hid (fun W (hW : Ext W1 W) => tletter_any fp lp fc lc A 97 0 h97 W (hA.mono (hx1.trans hW)))
  have HL1 := Lib.hid (fun W (hW : Ext W1 W) => tletter_any fp lp fc lc A 98 0 h98 W (hA.mono (hx1.trans hW)))
  have HX := Lib.hid hx1
  have HW1 := Lib.hid hW1
  clear hW1 hx1 hA hT h97 h98
  go_enter Tryz.func93, Tryz.ntmps93
  go_wp2_with fail
  rw [HW1.out]
  go_loopw [1, 6] (fun s out wr => ∃ k : Nat, k ≤ 3 ∧ s = .string (tA k) ∧ Ext W1 wr ∧ wr.ownsRow (w.heap.size + 1) 21 1 out k (([97, 98, 97].take k).map (Value.int .i32))) (fun s _ _ => strLen s)
  case atStart => exact ⟨0, by decide, rfl, Ext.refl _, World.ownsRow_nil _ _ _ _⟩
  case round =>
    obtain ⟨k, hk, rfl, hx, hown⟩ := hrel
    obtain ⟨rp, rc, rfl⟩ := ownsRow_slice hown
    have h0 : k = 0 ∨ k = 1 ∨ k = 2 ∨ k = 3 := by omega
    rcases h0 with rfl | rfl | rfl | rfl
    · rw [show tA 0 = ⟨#[97, 98, 97]⟩ from rfl]
      have HX1 := Lib.hid hx
      have HO := Lib.hid hown
      clear hx hown
      go_wp2_with fail
      refine (HD0.out _ HX1.out).mono ?_
      rintro e w3 ⟨rfl, hx3⟩
      have HX3 := Lib.hid hx3
      have HX4 := Lib.hid (HX1.out.trans hx3)
      clear hx3
      obtain ⟨a0, a1, al⟩ := HBa.out _ HX4.out
      go_wp2_with fail
      refine (HL0.out _ HX4.out).mono ?_
      rintro e w5 ⟨rfl, hx5⟩
      have hx6 : Ext W1 w5 := HX4.out.trans hx5
      have ho6 := ownsRow_ext HO.out (HX3.out.trans hx5)
      clear a0 a1 al hx5
      go_wp2_with (at_builtin; refine wpList_append_own _ rfl _ _ 36 rfl (w.heap.size + 1) 21 i0 (.int .i32 0) 1 4 Tryz.underlying36 hi hz0 hz1 hz2 rfl (by decide) _ _ _ rfl (ho6.alloc _) ⟨w5.heap.size, 0, none⟩ 1 1 [.int .i32 97] rfl rfl (one_cell _ _ _) (by simp [Value.oneCell']) (by unfold maxLen; omega) (by omega) (by have := hx6.le; simp; omega) ?_; intro v' w7 hown7 hgrow _)
      exact ⟨⟨1, by decide, by first | rfl | (congr 1) | simp [tA], Ext.append (hx6.alloc _) (ho6.alloc _) hgrow (by have := hx6.le; simp; omega), hown7⟩, by decide⟩
    · rw [show tA 1 = ⟨#[98, 97]⟩ from rfl]
      have HX1 := Lib.hid hx
      have HO := Lib.hid hown
      clear hx hown
      go_wp2_with fail
      refine (HD1.out _ HX1.out).mono ?_
      rintro e w3 ⟨rfl, hx3⟩
      have HX3 := Lib.hid hx3
      have HX4 := Lib.hid (HX1.out.trans hx3)
      clear hx3
      obtain ⟨a0, a1, al⟩ := HBa.out _ HX4.out
      go_wp2_with fail
      refine (HL1.out _ HX4.out).mono ?_
      rintro e w5 ⟨rfl, hx5⟩
      have hx6 : Ext W1 w5 := HX4.out.trans hx5
      have ho6 := ownsRow_ext HO.out (HX3.out.trans hx5)
      clear a0 a1 al hx5
      go_wp2_with (at_builtin; refine wpList_append_own _ rfl _ _ 36 rfl (w.heap.size + 1) 21 i0 (.int .i32 0) 1 4 Tryz.underlying36 hi hz0 hz1 hz2 rfl (by decide) _ _ _ rfl (ho6.alloc _) ⟨w5.heap.size, 0, none⟩ 1 1 [.int .i32 98] rfl rfl (one_cell _ _ _) (by simp [Value.oneCell']) (by unfold maxLen; omega) (by omega) (by have := hx6.le; simp; omega) ?_; intro v' w7 hown7 hgrow _)
      exact ⟨⟨2, by decide, by first | rfl | (congr 1) | simp [tA], Ext.append (hx6.alloc _) (ho6.alloc _) hgrow (by have := hx6.le; simp; omega), hown7⟩, by decide⟩
    · rw [show tA 2 = ⟨#[97]⟩ from rfl]
      have HX1 := Lib.hid hx
      have HO := Lib.hid hown
      clear hx hown
      go_wp2_with fail
      refine (HD2.out _ HX1.out).mono ?_
      rintro e w3 ⟨rfl, hx3⟩
      have HX3 := Lib.hid hx3
      have HX4 := Lib.hid (HX1.out.trans hx3)
      clear hx3
      obtain ⟨a0, a1, al⟩ := HBa.out _ HX4.out
      go_wp2_with fail
      refine (HL0.out _ HX4.out).mono ?_
      rintro e w5 ⟨rfl, hx5⟩
      have hx6 : Ext W1 w5 := HX4.out.trans hx5
      have ho6 := ownsRow_ext HO.out (HX3.out.trans hx5)
      clear a0 a1 al hx5
      go_wp2_with (at_builtin; refine wpList_append_own _ rfl _ _ 36 rfl (w.heap.size + 1) 21 i0 (.int .i32 0) 1 4 Tryz.underlying36 hi hz0 hz1 hz2 rfl (by decide) _ _ _ rfl (ho6.alloc _) ⟨w5.heap.size, 0, none⟩ 1 1 [.int .i32 97] rfl rfl (one_cell _ _ _) (by simp [Value.oneCell']) (by unfold maxLen; omega) (by omega) (by have := hx6.le; simp; omega) ?_; intro v' w7 hown7 hgrow _)
      exact ⟨⟨3, by decide, by first | rfl | (congr 1) | simp [tA], Ext.append (hx6.alloc _) (ho6.alloc _) hgrow (by have := hx6.le; simp; omega), hown7⟩, by decide⟩
    · rw [show tA 3 = ⟨#[]⟩ from rfl]
      go_wp2_with fail
      go_ret2
      exact ⟨rp, rc, rfl, ⟨ownsRow_base hown (by omega), by decide, by decide⟩, HX.out.trans hx⟩
end Go.Proofs.YtcnhlogkhnoacaaGreatDoor

namespace Go.Cg
open Go.RowKit Go.Maps
theorem gq_refl (w : World) (row : Option Nat) : w.grownBy w row := ⟨rfl, rfl, rfl, Nat.le_refl _, fun _ _ _ => rfl⟩
theorem gq_ext {w w' w'' : World} {row : Option Nat} (h : w.grownBy w' row) (hx : Ext w' w'') : w.grownBy w'' row :=
  ⟨hx.os.trans h.os, hx.tape.trans h.tape, hx.output.trans h.output, Nat.le_trans h.size hx.le, fun k hk hr => (Below.block hx k (Nat.lt_of_lt_of_le hk h.size)).trans (h.block k hk hr)⟩
theorem gq_trans {a b c : World} {row : Option Nat} (h : a.grownBy b row) (k : b.grownBy c row) : a.grownBy c row :=
  ⟨k.os.trans h.os, k.tape.trans h.tape, k.output.trans h.output, Nat.le_trans h.size k.size, fun i hi hr => (k.block i (Nat.lt_of_lt_of_le hi h.size) hr).trans (h.block i hi hr)⟩
theorem gq_cell {a b : World} {M : Nat} (h : a.grownBy b (some M)) {B j : Nat} (hB : B < a.heap.size) (hne : B ≠ M) : b.cell? ⟨B, j, none⟩ = a.cell? ⟨B, j, none⟩ :=
  World.cell?_of_block (h.block B hB (fun e => hne (Option.some.inj e)))
theorem gq_of_ext {a b c : World} {M : Nat} (h : Ext a b) (k : b.grownBy c (some M)) (hM : a.heap.size ≤ M) : Ext a c :=
  Ext.grown h k fun _ e => by cases e; exact hM
/-- a reader that reads whatever value as the same -/
def anyR : Value → Option (DataW Unit × List MemPlace) := fun _ => some (.lit (.bool true), [])
end Go.Cg
namespace Go.Proofs.YtcnhlogkhnoacaaGreatDoor
open Go.RowKit Go.Cg Go.Shelf Go.Maps

theorem arr29 : WideMaps.ArrKey Tryz.prog 205 42 2 := ⟨Tryz.underlying205, by kernel_rfl, by kernel_rfl, by kernel_rfl⟩
theorem keyd29 : Keyed Tryz.prog 205 := Keyed.of_law arr29.law
theorem types_some9 : ∃ m, Tryz.prog.types.size = m + 1 := by
  have : 0 < Tryz.prog.types.size := of_decide_eq_true (by kernel_rfl)
  exact ⟨Tryz.prog.types.size - 1, by omega⟩
theorem key29 : ∃ kl, keyOf Tryz.prog 205 (.agg #[.int .u32 0, .int .u32 0]) = some kl :=
  ⟨_, WideMaps.keyOf_pair arr29 Tryz.underlying42 types_some9 (by decide) (by decide)⟩

set_option maxRecDepth 100000 in
set_option maxHeartbeats 4000000 in
theorem tadd_any (fp lp : Option Addr) (fc lc : Nat) (A : Alpha) (a v g M n : Nat) (f : Lit → Option (DataW Unit)) (hn : n ≤ 1000) (w : World) (hA : AlphaAt w fp lp A) (hv : v < w.heap.size) (hg : g < w.heap.size)
    (a0 : w.cell? ⟨a, 0, none⟩ = some (.slice fp A.feats.length fc)) (a1 : w.cell? ⟨a, 1, none⟩ = some (.slice lp A.lets.length lc)) (v0 : w.cell? ⟨v, 0, none⟩ = some (.pointer (some ⟨g, 0, none⟩)))
    (g7 : w.cell? ⟨g, 7, none⟩ = some (.map (some M))) (hM : MapG Tryz.prog w 205 anyR M n f) :
    Calls Tryz.prog 129 #[.int .u32 0, .int .u32 0, .pointer (some ⟨a, 0, none⟩), .pointer (some ⟨v, 0, none⟩)] w fun e w' => e = .returned (.tuple #[]) ∧ w.grownBy w' (some M) ∧ ∃ f', MapG Tryz.prog w' 205 anyR M (n + 1) f' := by
  have hmm := @run_makeMap Tryz.prog
  obtain ⟨kl, hkl⟩ := key29
  obtain ⟨L, hL⟩ : ∃ L, classL A 0 0 = L := ⟨_, rfl⟩
  have hcl := class_any fp lp fc lc A 0 0 (by decide) (by decide) w hA
  rw [hL] at hcl
  have HCL := Lib.hid hcl
  have HKL := Lib.hid hkl
  have HA := Lib.hid (fun W (hW : Ext w W) => (⟨(Below.cell hW (p := ⟨v, 0, none⟩) hv).trans v0, (Below.cell hW (p := ⟨g, 7, none⟩) hg).trans g7, Nat.lt_of_lt_of_le hv hW.le, Nat.lt_of_lt_of_le hg hW.le⟩ : W.cell? ⟨v, 0, none⟩ = some (.pointer (some ⟨g, 0, none⟩)) ∧ W.cell? ⟨g, 7, none⟩ = some (.map (some M)) ∧ v < W.heap.size ∧ g < W.heap.size))
  have HM := Lib.hid (fun W (hW : Ext w W) => hM.ext hW)
  clear hcl hkl hL v0 g7
  go_enter Tryz.func129, Tryz.ntmps129
  go_wp2_with fail
  refine HCL.out.mono ?_
  rintro e w1 ⟨rp, rc, rfl, hO, hx1⟩
  have HX1 := Lib.hid hx1
  have hmd := MapG.made Tryz.prog w1 21 anyR
  have HMD := Lib.hid hmd
  have HL := Lib.hid (fun k (hk : k < L.length) => (hO.2.2 k hk : -2147483648 ≤ rn L k ∧ rn L k ≤ 2147483647))
  have HLN := Lib.hid hO.2.1
  obtain ⟨v1, g1, hvl, hgl⟩ := HA.out _ (hx1.alloc (.map #[] 0))
  clear hmd
  go_wp2_with fail
  clear v1 g1 hvl hgl
  go_loopw [21] (fun i wr => ∃ (k : Nat) (f2 : Lit → Option (DataW Unit)), k ≤ L.length ∧ i = .int .i64 k ∧ Ext w1 wr ∧ MapG Tryz.prog wr 21 anyR w1.heap.size k f2) (fun i _ => L.length - (intOf i).toNat)
  case atStart => exact ⟨0, _, Nat.zero_le _, rfl, (Ext.refl _).alloc _, HMD.out⟩
  case round =>
    obtain ⟨k, f2, hk, rfl, hx, hM2⟩ := hrel
    by_cases hlt : k < L.length
    · obtain ⟨b, off, rfl, hbw, c0⟩ := (hO.at_.mono hx).cells hlt
      obtain ⟨h1, h2⟩ := HL.out k hlt
      have hln := HLN.out
      go_wp2_with (at_mapUpdate; refine wpList_mapUpdate_g _ rfl _ _ _ 131 rfl 21 4 anyR w1.heap.size k f2 hM2 lawR Tryz.underlying131 (by unfold maxLen; omega) rfl _ _ _ (.lit (.bool true)) [] rfl rfl (keyR h1 h2) rfl ?_; intro w5 hM5 hg5 hs5)
      exact ⟨⟨k + 1, _, by omega, by go_num, Ext.grown hx hg5 (fun _ e => by cases e; exact Nat.le_refl _), hM5⟩, by simp [intOf]; omega⟩
    · have hxx := HX1.out.trans hx
      obtain ⟨v1, g1, hvl, hgl⟩ := HA.out _ hxx
      have HXX := Lib.hid hxx
      have hMM := HM.out _ hxx
      clear hxx hx
      go_wp2_with (at_mapUpdate; refine wpList_mapUpdate_g _ rfl _ _ _ 201 rfl 205 131 anyR M n f hMM keyd29 Tryz.underlying201 (by unfold maxLen; omega) rfl _ _ kl (.lit (.bool true)) [] rfl rfl HKL.out rfl ?_; intro w5 hM5 hg5 hs5)
      go_end0
      exact ⟨rfl, gq_trans (gq_ext (gq_refl _ _) HXX.out) hg5, _, hM5⟩
end Go.Proofs.YtcnhlogkhnoacaaGreatDoor

namespace Go.Proofs.YtcnhlogkhnoacaaGreatDoor
open Go.RowKit Go.Cg Go.Shelf Go.Maps

theorem cell_set_off (w : World) (g i j : Nat) (v : Value) (h : i ≠ j) : (w.setCell ⟨g, i, none⟩ v).cell? ⟨g, j, none⟩ = w.cell? ⟨g, j, none⟩ := by
  exact World.cell?_setCell_other _ _ _ _ (fun e => h (congrArg Addr.off e))

/-- block g holds a maker of the rule whose rows are t i l r -/
structure MakerAt (w : World) (g t i l r : Nat) : Prop where
  lt : g < w.heap.size
  g1 : w.cell? ⟨g, 1, none⟩ = some (.slice (some ⟨t, 0, none⟩) 1 1)
  g2 : w.cell? ⟨g, 2, none⟩ = some (.slice (some ⟨i, 0, none⟩) 1 1)
  g3 : w.cell? ⟨g, 3, none⟩ = some (.slice (some ⟨l, 0, none⟩) 1 1)
  g4 : w.cell? ⟨g, 4, none⟩ = some (.slice (some ⟨r, 0, none⟩) 1 1)
theorem MakerAt.ext {w w' : World} {g t i l r : Nat} (h : MakerAt w g t i l r) (hx : Ext w w') : MakerAt w' g t i l r :=
  ⟨Nat.lt_of_lt_of_le h.lt hx.le, (Below.cell hx (p := ⟨g, 1, none⟩) h.lt).trans h.g1, (Below.cell hx (p := ⟨g, 2, none⟩) h.lt).trans h.g2, (Below.cell hx (p := ⟨g, 3, none⟩) h.lt).trans h.g3, (Below.cell hx (p := ⟨g, 4, none⟩) h.lt).trans h.g4⟩

/-- what ready's frame reads, in whatever world that its loops leave -/
structure Rdy (W : World) (s : Nat) (fp lp : Option Addr) (fn fc ln lc t i l r : Nat) : Prop where
  a0 : W.cell? ⟨s, 0, none⟩ = some (.slice fp fn fc)
  a1 : W.cell? ⟨s, 1, none⟩ = some (.slice lp ln lc)
  r1 : W.cell? ⟨s + 1, 1, none⟩ = some (.slice (some ⟨t, 0, none⟩) 1 1)
  r3 : W.cell? ⟨s + 1, 3, none⟩ = some (.slice (some ⟨l, 0, none⟩) 1 1)
  r4 : W.cell? ⟨s + 1, 4, none⟩ = some (.slice (some ⟨r, 0, none⟩) 1 1)
  g1 : W.cell? ⟨s + 1 + 1 + 1, 1, none⟩ = some (.slice (some ⟨t, 0, none⟩) 1 1)
  g2 : W.cell? ⟨s + 1 + 1 + 1, 2, none⟩ = some (.slice (some ⟨i, 0, none⟩) 1 1)
  g3 : W.cell? ⟨s + 1 + 1 + 1, 3, none⟩ = some (.slice (some ⟨l, 0, none⟩) 1 1)
  g4 : W.cell? ⟨s + 1 + 1 + 1, 4, none⟩ = some (.slice (some ⟨r, 0, none⟩) 1 1)
  g7 : W.cell? ⟨s + 1 + 1 + 1, 7, none⟩ = some (.map (some (s + 1 + 1)))
  g8 : W.cell? ⟨s + 1 + 1 + 1, 8, none⟩ = some .nilFunc
  gf : W.frozen? ⟨s + 1 + 1 + 1, 8, none⟩ = false
  v0 : W.cell? ⟨s + 1 + 1 + 1 + 1, 0, none⟩ = some (.pointer (some ⟨s + 1 + 1 + 1, 0, none⟩))
  lt : s + 1 + 1 + 1 + 1 < W.heap.size
theorem Rdy.grown {W W' : World} {s : Nat} {fp lp : Option Addr} {fn fc ln lc t i l r : Nat} (h : Rdy W s fp lp fn fc ln lc t i l r) (hg : W.grownBy W' (some (s + 1 + 1))) : Rdy W' s fp lp fn fc ln lc t i l r := by
  have hl := h.lt
  exact ⟨(gq_cell hg (by omega) (by omega)).trans h.a0, (gq_cell hg (by omega) (by omega)).trans h.a1, (gq_cell hg (by omega) (by omega)).trans h.r1, (gq_cell hg (by omega) (by omega)).trans h.r3, (gq_cell hg (by omega) (by omega)).trans h.r4,
    (gq_cell hg (by omega) (by omega)).trans h.g1, (gq_cell hg (by omega) (by omega)).trans h.g2, (gq_cell hg (by omega) (by omega)).trans h.g3, (gq_cell hg (by omega) (by omega)).trans h.g4, (gq_cell hg (by omega) (by omega)).trans h.g7, (gq_cell hg (by omega) (by omega)).trans h.g8,
    (World.frozen?_of_block (a := ⟨s + 1 + 1 + 1, 8, none⟩) (hg.block (s + 1 + 1 + 1) (by omega) (fun e => by simp at e))).trans h.gf, (gq_cell hg (by omega) (by omega)).trans h.v0, Nat.lt_of_lt_of_le hl hg.size⟩

set_option maxRecDepth 100000 in
set_option maxHeartbeats 4000000 in
theorem tready_any (fp lp : Option Addr) (fc lc : Nat) (A : Alpha) (t i l r : Nat) (w : World) (hA : AlphaAt w fp lp A) (hR : TR w t i l r) :
    Calls Tryz.prog 94 #[.agg #[.slice fp A.feats.length fc, .slice lp A.lets.length lc], .agg #[.string ⟨#[]⟩, .slice (some ⟨t, 0, none⟩) 1 1, .slice (some ⟨i, 0, none⟩) 1 1, .slice (some ⟨l, 0, none⟩) 1 1, .slice (some ⟨r, 0, none⟩) 1 1, .int .u8 1, .bool false]] w fun e w' => ∃ g, e = .returned (.pointer (some ⟨g, 0, none⟩)) ∧ MakerAt w' g t i l r ∧ Ext w w' := by
  have hmm := @run_makeMap Tryz.prog
  have eg : ∀ args W, (callFunc 129 args).run Tryz.prog W = .ok (.enter 129 args) W := @enters_of Tryz.prog 129 _ _ Tryz.func129 (by kernel_rfl) rfl
  obtain ⟨s, hs⟩ : ∃ s, w.heap.size = s := ⟨_, rfl⟩
  obtain ⟨W1, hW1⟩ : ∃ W, w.alloc (.cells #[.slice fp A.feats.length fc, .slice lp A.lets.length lc] 25) = W := ⟨_, rfl⟩
  obtain ⟨W2, hW2⟩ : ∃ W, W1.alloc (.cells #[.string ⟨#[]⟩, .slice (some ⟨t, 0, none⟩) 1 1, .slice (some ⟨i, 0, none⟩) 1 1, .slice (some ⟨l, 0, none⟩) 1 1, .slice (some ⟨r, 0, none⟩) 1 1, .int .u8 1, .bool false] 83) = W := ⟨_, rfl⟩
  obtain ⟨W3, hW3⟩ : ∃ W, W2.alloc (.map #[] 0) = W := ⟨_, rfl⟩
  obtain ⟨W4, hW4⟩ : ∃ W, W3.alloc (.cells #[.string ⟨#[]⟩, .slice (some ⟨t, 0, none⟩) 1 1, .slice (some ⟨i, 0, none⟩) 1 1, .slice (some ⟨l, 0, none⟩) 1 1, .slice (some ⟨r, 0, none⟩) 1 1, .int .u8 1, .bool false, .map (some (s + 1 + 1)), .nilFunc] 204) = W := ⟨_, rfl⟩
  obtain ⟨W5, hW5⟩ : ∃ W, W4.alloc (.cells #[.pointer (some ⟨s + 1 + 1 + 1, 0, none⟩)] 166) = W := ⟨_, rfl⟩
  have hz1 : W1.heap.size = s + 1 := by rw [← hW1, size_alloc, hs]
  have hz2 : W2.heap.size = s + 1 + 1 := by rw [← hW2, size_alloc, hz1]
  have hz3 : W3.heap.size = s + 1 + 1 + 1 := by rw [← hW3, size_alloc, hz2]
  have hz4 : W4.heap.size = s + 1 + 1 + 1 + 1 := by rw [← hW4, size_alloc, hz3]
  have hx1 : Ext w W1 := by rw [← hW1]; exact (Ext.refl _).alloc _
  have hx2 : Ext W1 W2 := by rw [← hW2]; exact (Ext.refl _).alloc _
  have hx3 : Ext W2 W3 := by rw [← hW3]; exact (Ext.refl _).alloc _
  have hx4 : Ext W3 W4 := by rw [← hW4]; exact (Ext.refl _).alloc _
  have hx5 : Ext W4 W5 := by rw [← hW5]; exact (Ext.refl _).alloc _
  have h1 := ext_cells hs (W := W5) (by rw [hW1]; exact hx2.trans (hx3.trans (hx4.trans hx5)) : Ext (w.alloc (.cells #[.slice fp A.feats.length fc, .slice lp A.lets.length lc] 25)) W5)
  have h2 := ext_cells hz1 (W := W5) (by rw [hW2]; exact hx3.trans (hx4.trans hx5) : Ext (W1.alloc (.cells #[.string ⟨#[]⟩, .slice (some ⟨t, 0, none⟩) 1 1, .slice (some ⟨i, 0, none⟩) 1 1, .slice (some ⟨l, 0, none⟩) 1 1, .slice (some ⟨r, 0, none⟩) 1 1, .int .u8 1, .bool false] 83)) W5)
  have h4 := ext_cells hz3 (W := W5) (by rw [hW4]; exact hx5 : Ext (W3.alloc (.cells #[.string ⟨#[]⟩, .slice (some ⟨t, 0, none⟩) 1 1, .slice (some ⟨i, 0, none⟩) 1 1, .slice (some ⟨l, 0, none⟩) 1 1, .slice (some ⟨r, 0, none⟩) 1 1, .int .u8 1, .bool false, .map (some (s + 1 + 1)), .nilFunc] 204)) W5)
  have h5 := ext_cells hz4 (W := W5) (by rw [hW5]; exact Ext.refl _ : Ext (W4.alloc (.cells #[.pointer (some ⟨s + 1 + 1 + 1, 0, none⟩)] 166)) W5)
  have hf8 : W5.frozen? ⟨s + 1 + 1 + 1, 8, none⟩ = false := by
    have := (by rw [hW4]; exact hx5 : Ext (W3.alloc (.cells #[.string ⟨#[]⟩, .slice (some ⟨t, 0, none⟩) 1 1, .slice (some ⟨i, 0, none⟩) 1 1, .slice (some ⟨l, 0, none⟩) 1 1, .slice (some ⟨r, 0, none⟩) 1 1, .int .u8 1, .bool false, .map (some (s + 1 + 1)), .nilFunc] 204)) W5).froz0 8
    rw [hz3] at this; exact this
  have hrd : Rdy W5 s fp lp A.feats.length fc A.lets.length lc t i l r := ⟨h1.1 0, h1.1 1, h2.1 1, h2.1 3, h2.1 4, h4.1 1, h4.1 2, h4.1 3, h4.1 4, h4.1 7, h4.1 8, hf8, h5.1 0, h5.2⟩
  have hmd := ((MapG.made Tryz.prog W2 205 anyR).ext (by rw [hW3]; exact hx4.trans hx5 : Ext (W2.alloc (.map #[] 0)) W5))
  rw [hz2] at hmd
  have hX5 := hx1.trans (hx2.trans (hx3.trans (hx4.trans hx5)))
  have HX := Lib.hid (fun W (hW : W5.grownBy W (some (s + 1 + 1))) => gq_of_ext hX5 hW (by omega))
  have HRD := Lib.hid (fun W (hW : W5.grownBy W (some (s + 1 + 1))) => hrd.grown hW)
  have HR := Lib.hid (fun W (hW : Ext w W) => hR.ext hW)
  have HMD := Lib.hid hmd
  have HAD := Lib.hid (fun n f (hn : n ≤ 1000) W (hW : Ext w W) (hd : Rdy W s fp lp A.feats.length fc A.lets.length lc t i l r) (hM : MapG Tryz.prog W 205 anyR (s + 1 + 1) n f) =>
    tadd_any fp lp fc lc A s (s + 1 + 1 + 1 + 1) (s + 1 + 1 + 1) (s + 1 + 1) n f hn W (hA.mono hW) (by have := hd.lt; omega) (by have := hd.lt; omega) hd.a0 hd.a1 hd.v0 hd.g7 hM)
  have HW1 := Lib.hid hW1
  have HW2 := Lib.hid hW2
  have HW3 := Lib.hid hW3
  have HW4 := Lib.hid hW4
  have HW5 := Lib.hid hW5
  clear hW1 hW2 hW3 hW4 hW5 hx1 hx2 hx3 hx4 hx5 h1 h2 h4 h5 hrd hmd hX5 hR hA hf8 hz1 hz2 hz3 hz4
  go_enter Tryz.func94, Tryz.ntmps94
  go_wp2_with fail
  rw [HW1.out, HW2.out, HW3.out, HW4.out, HW5.out]
  clear HW1 HW2 HW3 HW4 HW5
  go_loopw [21] (fun i wr => ∃ (k : Nat) (f : Lit → Option (DataW Unit)), k ≤ 1 ∧ i = .int .i64 k ∧ W5.grownBy wr (some (s + 1 + 1)) ∧ MapG Tryz.prog wr 205 anyR (s + 1 + 1) k f) (fun i _ => 1 - (intOf i).toNat)
  case atStart => exact ⟨0, _, by decide, rfl, gq_refl _ _, HMD.out⟩
  case round =>
    obtain ⟨k, f, hk, rfl, hg, hM⟩ := hrel
    have HG := Lib.hid hg
    have HMk := Lib.hid hM
    have HD := Lib.hid (HRD.out _ hg)
    have HTR := Lib.hid (HR.out _ (HX.out _ hg))
    clear hg hM
    by_cases hlt : k < 1
    · obtain rfl : k = 0 := by omega
      obtain ⟨tl, t0, t1, t2, _, _, _, _, _, _, _⟩ := HTR.out
      generalize wr = wo at *
      have hA1 := (Ext.refl wo).alloc (.cells #[.int .i32 98, .int .u32 0, .int .u32 0] 73)
      have hg1 := gq_ext HG.out hA1
      have HC := Lib.hid (HAD.out 0 f (by decide) _ (HX.out _ hg1) (HRD.out _ hg1) (HMk.out.ext hA1))
      have HG1 := Lib.hid hg1
      clear hA1 hg1
      go_wp2_with fail
      refine HC.out.mono ?_
      rintro e w3 ⟨rfl, hg3, f3, hM3⟩
      go_wp2_with fail
      exact ⟨⟨1, f3, by decide, by go_num, gq_trans HG1.out hg3, hM3⟩, by simp [intOf]⟩
    · obtain rfl : k = 1 := by omega
      have hr3 := HD.out.r3
      have hr4 := HD.out.r4
      have hrl := HD.out.lt
      generalize wr = wo at *
      obtain ⟨B, hB⟩ : ∃ B, wo.heap.size = B := ⟨_, rfl⟩
      obtain ⟨W6, hW6⟩ : ∃ W, wo.alloc (.cells #[.slice (some ⟨l, 0, none⟩) 1 1, .slice (some ⟨r, 0, none⟩) 1 1] 80) = W := ⟨_, rfl⟩
      have HW6 := Lib.hid hW6
      have hx6 : Ext wo W6 := by rw [← hW6]; exact (Ext.refl _).alloc _
      have h6 := ext_cells hB (W := W6) (by rw [hW6]; exact Ext.refl _ : Ext (wo.alloc (.cells #[.slice (some ⟨l, 0, none⟩) 1 1, .slice (some ⟨r, 0, none⟩) 1 1] 80)) W6)
      have H6 := Lib.hid (fun W (hW : W6.grownBy W (some (s + 1 + 1))) => (⟨(gq_cell hW h6.2 (by omega)).trans (h6.1 0), (gq_cell hW h6.2 (by omega)).trans (h6.1 1), Nat.lt_of_lt_of_le h6.2 hW.size⟩ : W.cell? ⟨B, 0, none⟩ = some (.slice (some ⟨l, 0, none⟩) 1 1) ∧ W.cell? ⟨B, 1, none⟩ = some (.slice (some ⟨r, 0, none⟩) 1 1) ∧ B < W.heap.size))
      have HG6 := Lib.hid (fun W (hW : W6.grownBy W (some (s + 1 + 1))) => gq_trans (gq_ext HG.out hx6) hW)
      have HM6 := Lib.hid (HMk.out.ext hx6)
      clear hW6 hx6 h6
      go_wp2_with fail
      rw [HW6.out]
      clear hr3 hr4 hrl HW6 hB
      go_loopw [38] (fun i wr => ∃ (k : Nat) (f : Lit → Option (DataW Unit)), k ≤ 2 ∧ i = .int .i64 k ∧ W6.grownBy wr (some (s + 1 + 1)) ∧ MapG Tryz.prog wr 205 anyR (s + 1 + 1) (1 + k) f) (fun i _ => 2 - (intOf i).toNat)
      case atStart => exact ⟨0, _, by decide, rfl, gq_refl _ _, HM6.out⟩
      case round =>
        obtain ⟨k, f2, hk, rfl, hg, hM⟩ := hrel
        by_cases hlt : k < 2
        · obtain ⟨b, hb⟩ : ∃ b, (if k = 0 then l else r) = b := ⟨_, rfl⟩
          have hcb : wr.cell? ⟨B, k, none⟩ = some (.slice (some ⟨b, 0, none⟩) 1 1) := by
            obtain ⟨c0, c1, _⟩ := H6.out _ hg
            have h01 : k = 0 ∨ k = 1 := by omega
            rcases h01 with rfl | rfl
            · rw [c0, ← hb]; rfl
            · rw [c1, ← hb]; rfl
          have HNB := Lib.hid (fun W (hW : Ext w W) => (by
            rw [← hb]; split
            · exact (HR.out W hW).nl
            · exact (HR.out W hW).nr : NodeAt W b))
          have hBl := (H6.out _ hg).2.2
          clear hb
          generalize wr = wp at *
          obtain ⟨D, hD⟩ : ∃ D, wp.heap.size = D := ⟨_, rfl⟩
          obtain ⟨W7, hW7⟩ : ∃ W, wp.alloc (.cells #[.slice (some ⟨b, 0, none⟩) 1 1] 80) = W := ⟨_, rfl⟩
          have HW7 := Lib.hid hW7
          have hx7 : Ext wp W7 := by rw [← hW7]; exact (Ext.refl _).alloc _
          have HG7 := Lib.hid (fun W (hW : W7.grownBy W (some (s + 1 + 1))) => gq_trans (gq_ext hg hx7) hW)
          have HM7 := Lib.hid (hM.ext hx7)
          clear hW7 hx7 hg hM
          go_wp2_with fail
          rw [HW7.out, show decide ((k : Int) < 2) = true from decide_eq_true (by omega)]
          clear HW7 hcb hBl
          go_loopw [45] (fun i wr => ∃ (j : Nat) (f : Lit → Option (DataW Unit)), j ≤ 1 ∧ i = .int .i64 j ∧ W7.grownBy wr (some (s + 1 + 1)) ∧ MapG Tryz.prog wr 205 anyR (s + 1 + 1) (1 + k + j) f) (fun i _ => 1 - (intOf i).toNat)
          case atStart => exact ⟨0, _, by decide, rfl, gq_refl _ _, HM7.out⟩
          case round =>
            obtain ⟨j, f3, hj, rfl, hg, hM⟩ := hrel
            by_cases hlj : j < 1
            · obtain rfl : j = 0 := by omega
              have hg5 := HG6.out _ (HG7.out _ hg)
              obtain ⟨nl, n0, n1, n2, n3, n4⟩ := HNB.out _ (HX.out _ hg5)
              generalize wr = wq at *
              have hA1 := (Ext.refl wq).alloc (.cells #[.int .u8 1, .int .i32 0, .int .u32 0, .int .u32 0, .slice none 0 0] 134)
              have hg1 := gq_ext hg5 hA1
              have HC := Lib.hid (HAD.out _ f3 (by omega) _ (HX.out _ hg1) (HRD.out _ hg1) (hM.ext hA1))
              have HG1 := Lib.hid (gq_ext hg hA1)
              clear hA1 hg1 hg5 hg hM
              go_wp2_with fail
              refine HC.out.mono ?_
              rintro e w3 ⟨rfl, hg3, f4, hM3⟩
              have hgq := gq_trans HG1.out hg3
              clear hg3
              go_wp2_with fail
              exact ⟨⟨_, _, _, _, _, _, _, _, _, _, _, _, ⟨1, f4, by decide, rfl, hgq, hM3⟩, rfl⟩, by simp [intOf]⟩
            · obtain rfl : j = 1 := by omega
              have hg6 := HG7.out _ hg
              clear hg
              go_wp2_with fail
              exact ⟨⟨k + 1, f3, by omega, by go_num, hg6, by rw [show 1 + (k + 1) = 1 + k + 1 by omega]; exact hM⟩, by simp [intOf]; omega⟩
        · obtain rfl : k = 2 := by omega
          have hg5 := HG6.out _ hg
          have hx := HX.out _ hg5
          have hrd := HRD.out _ hg5
          obtain ⟨a0, a1, r1, r3, r4, g1, g2, g3, g4, g7, g8, gf, v0, lt⟩ := hrd
          generalize wr = wp at *
          have HX9 := Lib.hid hx
          clear hx hg hg5 hM
          go_wp2_with fail
          go_ret
          refine ⟨s + 1 + 1 + 1, rfl, ⟨by simp [World.setCell]; omega, ?_, ?_, ?_, ?_⟩, HX9.out.setCell (by show w.heap.size ≤ s + 1 + 1 + 1; omega) _⟩
          · rw [cell_set_off _ _ _ _ _ (by decide)]; exact g1
          · rw [cell_set_off _ _ _ _ _ (by decide)]; exact g2
          · rw [cell_set_off _ _ _ _ _ (by decide)]; exact g3
          · rw [cell_set_off _ _ _ _ _ (by decide)]; exact g4
end Go.Proofs.YtcnhlogkhnoacaaGreatDoor
