/- Contract: paradigm.made. -/
import Derived.Test.YtkmfhcjdaglikaaDoorPare
import Derived.Deep.RegionHeld3
namespace Go.Proofs.YtkmfhcjdaglikaaDoor
open Go.RowKit Go.Cg Go.Shelf Go.Maps

theorem wdB_nil {A : Alpha} (hok : A.Ok) {o : ByteArray} (h : o.size = 0) : wdB A o = true := by
  unfold wdB spell
  rw [if_pos hok, spellFrom_end _ _ _ _ _ (by omega)]; rfl
theorem aff1_eq {A : Alpha} (hok : A.Ok) {f o : ByteArray} {n : Int} {wb : Bool} (hwb : (wdB A f && wdB A o) = wb) : affB A ⟨1, f, o, n⟩ = (wb && decide (n = 0) && decide ((strR o).length = 0)) := by
  show (wdB A f && decide (o.size = 0) && decide (n = 0)) = _
  rw [← hwb, decide_eq_decide.2 (strR_zero (s := o))]
  by_cases h : o.size = 0
  · rw [wdB_nil hok h, decide_eq_true h]; simp
  · rw [decide_eq_false h]; simp
theorem aff2_eq {A : Alpha} (hok : A.Ok) {f o : ByteArray} {n : Int} {wb : Bool} (hwb : (wdB A f && wdB A o) = wb) : affB A ⟨2, f, o, n⟩ = (wb && decide (n = 0) && decide ((strR o).length = 0)) := (show affB A ⟨2, f, o, n⟩ = affB A ⟨1, f, o, n⟩ from rfl).trans (aff1_eq hok hwb)
theorem aff3_eq {A : Alpha} {f o : ByteArray} {n : Int} {wb : Bool} (hwb : (wdB A f && wdB A o) = wb) : affB A ⟨3, f, o, n⟩ = (wb && decide (n = 0)) := by rw [← hwb]; rfl
theorem aff4_eq {A : Alpha} (hok : A.Ok) {f o : ByteArray} {n : Int} {wb pl : Bool} (hwb : (wdB A f && wdB A o) = wb) (hpl : decide (0 ≤ n ∧ n ≤ 64) = pl) : affB A ⟨4, f, o, n⟩ = (wb && pl && decide ((strR o).length = 0)) := by
  show (wdB A f && decide (o.size = 0) && decide (0 ≤ n ∧ n ≤ 64)) = _
  rw [hpl, ← hwb, decide_eq_decide.2 (strR_zero (s := o))]
  by_cases h : o.size = 0
  · rw [wdB_nil hok h, decide_eq_true h]; simp
  · rw [decide_eq_false h]; simp
theorem aff5_eq (A : Alpha) (f o : ByteArray) (n : Int) : affB A ⟨5, f, o, n⟩ = (formB A f && decide (o.size = 0) && decide (n = 0)) := rfl
theorem aff6_eq (A : Alpha) (f o : ByteArray) {n : Int} {pl : Bool} (hpl : decide (0 ≤ n ∧ n ≤ 64) = pl) : affB A ⟨6, f, o, n⟩ = (pl && decide (f.size = 0) && decide (o.size = 0)) := by
  show (decide (f.size = 0) && decide (o.size = 0) && decide (0 ≤ n ∧ n ≤ 64)) = _
  rw [hpl, Bool.and_comm, Bool.and_assoc]
theorem aff0_eq (A : Alpha) {k : Nat} (f o : ByteArray) (n : Int) (k1 : ¬ k = 1) (k2 : ¬ k = 2) (k3 : ¬ k = 3) (k4 : ¬ k = 4) (k5 : ¬ k = 5) (k6 : ¬ k = 6) : affB A ⟨k, f, o, n⟩ = false := by
  unfold affB
  dsimp only
  split <;> first | rfl | omega
theorem empty_yes {s : ByteArray} (h : s.size = 0) : s.toList.isEmpty = true := by rw [toList_isEmpty]; exact decide_eq_true h
theorem empty_no {s : ByteArray} (h : ¬ s.size = 0) : s.toList.isEmpty = false := by rw [toList_isEmpty]; exact decide_eq_false h
theorem nmB_nil : nmB ⟨#[]⟩ = true := by decide
theorem affRes {B : Nat} {A : Alpha} {x : Aff} {v : Value} {b : Bool} {w' : World} (h : affB A x = b) (hv : b = true → AffV B w' x v) : AffRes B A x (.returned (.tuple #[v, .bool b])) w' := ⟨v, by rw [h], fun h2 => hv (h.symm.trans h2)⟩
theorem affV1 {B : Nat} {w : World} {f o : ByteArray} {n : Int} {p : Option Addr} {c : Nat} (h : OwnRunes 21 B w p c (strR f)) : AffV B w ⟨1, f, o, n⟩ (.iface 96 (.agg #[.slice p (strR f).length c, .slice none 0 0])) := by unfold AffV; exact ⟨_, _, rfl, h⟩
theorem affV2 {B : Nat} {w : World} {f o : ByteArray} {n : Int} {p : Option Addr} {c : Nat} (h : OwnRunes 21 B w p c (strR f)) : AffV B w ⟨2, f, o, n⟩ (.iface 96 (.agg #[.slice none 0 0, .slice p (strR f).length c])) := by unfold AffV; exact ⟨_, _, rfl, h⟩
theorem affV3 {B : Nat} {w : World} {f o : ByteArray} {n : Int} {p p2 : Option Addr} {c c2 : Nat} (h : OwnRunes 21 B w p c (strR f)) (h2 : OwnRunes 21 B w p2 c2 (strR o)) : AffV B w ⟨3, f, o, n⟩ (.iface 96 (.agg #[.slice p (strR f).length c, .slice p2 (strR o).length c2])) := by unfold AffV; exact ⟨_, _, _, _, rfl, h, h2⟩
theorem affV4 {B : Nat} {w : World} {f o : ByteArray} {n : Int} {p : Option Addr} {c : Nat} (h : OwnRunes 21 B w p c (strR f)) : AffV B w ⟨4, f, o, n⟩ (.iface 98 (.agg #[.slice p (strR f).length c, .int .i64 n])) := by unfold AffV; exact ⟨_, _, rfl, h⟩
theorem affV5 {B : Nat} {w : World} {f o : ByteArray} {n : Int} {p : Option Addr} {c : Nat} (h : OwnRunes 21 B w p c (strR f)) : AffV B w ⟨5, f, o, n⟩ (.iface 100 (.agg #[.slice p (strR f).length c])) := by unfold AffV; exact ⟨_, _, rfl, h⟩
theorem affV6 {B : Nat} {w : World} {f o : ByteArray} {n : Int} : AffV B w ⟨6, f, o, n⟩ (.iface 103 (.agg #[.int .i64 n])) := by unfold AffV; rfl
theorem ta_yes96 (v : Value) (w : World) : (Instr.typeAssert (.iface 96 v) 68 96 true).run Tryd.prog w = .ok (.tuple #[v, .bool true]) w := by kernel_rfl
theorem ta_yes98 (v : Value) (w : World) : (Instr.typeAssert (.iface 98 v) 68 98 true).run Tryd.prog w = .ok (.tuple #[v, .bool true]) w := by kernel_rfl
theorem ta_yes100 (v : Value) (w : World) : (Instr.typeAssert (.iface 100 v) 68 100 true).run Tryd.prog w = .ok (.tuple #[v, .bool true]) w := by kernel_rfl
theorem ta_yes103 (v : Value) (w : World) : (Instr.typeAssert (.iface 103 v) 68 103 true).run Tryd.prog w = .ok (.tuple #[v, .bool true]) w := by kernel_rfl
theorem ta_no98 (v : Value) (w : World) : (Instr.typeAssert (.iface 98 v) 68 96 true).run Tryd.prog w = .ok (.tuple #[.agg #[.slice none 0 0, .slice none 0 0], .bool false]) w := by kernel_rfl
theorem ta_no100a (v : Value) (w : World) : (Instr.typeAssert (.iface 100 v) 68 96 true).run Tryd.prog w = .ok (.tuple #[.agg #[.slice none 0 0, .slice none 0 0], .bool false]) w := by kernel_rfl
theorem ta_no100b (v : Value) (w : World) : (Instr.typeAssert (.iface 100 v) 68 98 true).run Tryd.prog w = .ok (.tuple #[.agg #[.slice none 0 0, .int .i64 0], .bool false]) w := by kernel_rfl
theorem ta_no103a (v : Value) (w : World) : (Instr.typeAssert (.iface 103 v) 68 96 true).run Tryd.prog w = .ok (.tuple #[.agg #[.slice none 0 0, .slice none 0 0], .bool false]) w := by kernel_rfl
theorem ta_no103b (v : Value) (w : World) : (Instr.typeAssert (.iface 103 v) 68 98 true).run Tryd.prog w = .ok (.tuple #[.agg #[.slice none 0 0, .int .i64 0], .bool false]) w := by kernel_rfl
theorem ta_no103c (v : Value) (w : World) : (Instr.typeAssert (.iface 103 v) 68 100 true).run Tryd.prog w = .ok (.tuple #[.agg #[.slice none 0 0], .bool false]) w := by kernel_rfl

set_option maxRecDepth 100000 in
set_option maxHeartbeats 8000000 in
theorem made_any (fp lp : Option Addr) (fc lc : Nat) (A : Alpha) (x : Aff) (hx : x.wf) (hs : x.small) (hok : A.Ok) (w : World) (hA : AlphaAt w fp lp A) (hT : Tabs w) :
    Calls Tryd.prog 28 #[.agg #[.slice fp A.feats.length fc, .slice lp A.lets.length lc], .agg #[.int .u8 (x.kind : Int), .string x.form, .string x.other, .int .i64 x.pos]] w fun e w' => AffRes w.heap.size A x e w' ∧ Ext w w' := by
  obtain ⟨k, f, o, n⟩ := x
  obtain ⟨hk, hf, ho, hn1, hn2⟩ := hx
  obtain ⟨hs1, hs2⟩ := hs
  dsimp only at hk hf ho hn1 hn2 hs1 hs2
  have hx4 : Ext w ((w.alloc (.cells #[.slice fp A.feats.length fc, .slice lp A.lets.length lc] 26)).alloc (.cells #[.int .u8 (k : Int), .string f, .string o, .int .i64 n] 36)) := ((Ext.refl _).alloc _).alloc _
  have hxb : Ext (w.alloc (.cells #[.slice fp A.feats.length fc, .slice lp A.lets.length lc] 26)) ((w.alloc (.cells #[.slice fp A.feats.length fc, .slice lp A.lets.length lc] 26)).alloc (.cells #[.int .u8 (k : Int), .string f, .string o, .int .i64 n] 36)) := (Ext.refl _).alloc _
  have hbx : ∀ W, Ext ((w.alloc (.cells #[.slice fp A.feats.length fc, .slice lp A.lets.length lc] 26)).alloc (.cells #[.int .u8 (k : Int), .string f, .string o, .int .i64 n] 36)) W → W.cell? ⟨w.heap.size + 1, 0, none⟩ = some (.int .u8 (k : Int)) ∧ W.cell? ⟨w.heap.size + 1, 1, none⟩ = some (.string f) ∧ W.cell? ⟨w.heap.size + 1, 2, none⟩ = some (.string o) ∧ W.cell? ⟨w.heap.size + 1, 3, none⟩ = some (.int .i64 n) ∧ W.cell? ⟨w.heap.size, 0, none⟩ = some (.slice fp A.feats.length fc) ∧ W.cell? ⟨w.heap.size, 1, none⟩ = some (.slice lp A.lets.length lc) ∧ w.heap.size + 1 < W.heap.size ∧ w.heap.size < W.heap.size := fun W hW => by
    have e0 := hW.cell0 0
    have e1 := hW.cell0 1
    have e2 := hW.cell0 2
    have e3 := hW.cell0 3
    have b0 := (hxb.trans hW).cell0 0
    have b1 := (hxb.trans hW).cell0 1
    have l0 := hW.lt0
    rw [size_alloc] at e0 e1 e2 e3 l0
    exact ⟨e0, e1, e2, e3, b0, b1, l0, by omega⟩
  have HBX := Lib.hid hbx
  have hwc := fun s (hs : s.size ≤ 1048576) W (hW : Ext w W) => wdcheck_any fp lp fc lc A s (by omega) W (hA.mono hW) (hT.ext hW)
  have HWC := Lib.hid hwc
  have hsc := fun s (hs : s.size ≤ 1048576) W (hW : Ext w W) => shapeCheck_any fp lp fc lc A ⟨#[]⟩ s (by decide) (by omega) W (hA.mono hW) (hT.ext hW)
  have HSC := Lib.hid hsc
  have HS1 := Lib.hid hs1
  have HS2 := Lib.hid hs2
  have HOK := Lib.hid hok
  clear hbx hwc hsc hs1 hs2 hxb hok
  obtain ⟨pl, hpl⟩ : ∃ pl, decide (0 ≤ n ∧ n ≤ 64) = pl := ⟨_, rfl⟩
  obtain ⟨wb, hwb⟩ : ∃ wb, (wdB A f && wdB A o) = wb := ⟨_, rfl⟩
  have HPL := Lib.hid hpl
  have HWB := Lib.hid hwb
  clear hpl hwb
  go_enter Tryd.func28, Tryd.ntmps28
  go_upto_region 1 with (fail)
  go_cut [6] from 16 to 23 (fun a wx => a = .bool pl ∧ wx = (w.alloc (.cells #[.slice fp A.feats.length fc, .slice lp A.lets.length lc] 26)).alloc (.cells #[.int .u8 (k : Int), .string f, .string o, .int .i64 n] 36))
  case first =>
    obtain ⟨e0, e1, e2, e3, b0, b1, l0, l1⟩ := HBX.out _ (Ext.refl _)
    by_cases g0 : 0 ≤ n
    · by_cases g1 : n ≤ 64
      · have h9 : decide (0 ≤ n ∧ n ≤ 64) = true := decide_eq_true ⟨g0, g1⟩
        have H9 := Lib.hid h9
        clear h9
        go_wp2_with fail
        go_meet
        exact ⟨by rw [← HPL.out, H9.out], rfl⟩
      · have h9 : decide (0 ≤ n ∧ n ≤ 64) = false := decide_eq_false fun h => g1 h.2
        have H9 := Lib.hid h9
        have g2 : decide (n ≤ 64) = false := decide_eq_false g1
        clear h9 g1
        go_wp2_with fail
        go_meet
        exact ⟨by rw [← HPL.out, H9.out], rfl⟩
    · have h9 : decide (0 ≤ n ∧ n ≤ 64) = false := decide_eq_false fun h => g0 h.1
      have H9 := Lib.hid h9
      have g2 : decide (0 ≤ n) = false := decide_eq_false g0
      clear h9 g0
      go_wp2_with fail
      go_meet
      exact ⟨by rw [← HPL.out, H9.out], rfl⟩
  case rest =>
    obtain ⟨rfl, rfl⟩ := hcut
    go_upto_region 2 with (fail)
    go_cut [7, 8] from 24 to 29 (fun b c wx => Ext ((w.alloc (.cells #[.slice fp A.feats.length fc, .slice lp A.lets.length lc] 26)).alloc (.cells #[.int .u8 (k : Int), .string f, .string o, .int .i64 n] 36)) wx ∧ ∃ p1 c1 p2 c2, b = .slice p1 (strR f).length c1 ∧ c = .slice p2 (strR o).length c2 ∧ OwnRunes 21 w.heap.size wx p1 c1 (strR f) ∧ OwnRunes 21 w.heap.size wx p2 c2 (strR o))
    case first =>
      have HS4 := Lib.hid (fun (W : World) (hW : Ext ((w.alloc (.cells #[.slice fp A.feats.length fc, .slice lp A.lets.length lc] 26)).alloc (.cells #[.int .u8 (k : Int), .string f, .string o, .int .i64 n] 36)) W) => (⟨hW, (HBX.out _ hW).2.1, (HBX.out _ hW).2.2.1⟩ : Ext ((w.alloc (.cells #[.slice fp A.feats.length fc, .slice lp A.lets.length lc] 26)).alloc (.cells #[.int .u8 (k : Int), .string f, .string o, .int .i64 n] 36)) W ∧ W.cell? ⟨w.heap.size + 1, 1, none⟩ = some (.string f) ∧ W.cell? ⟨w.heap.size + 1, 2, none⟩ = some (.string o)))
      refine wp_region_held_drew (S := fun W => Ext ((w.alloc (.cells #[.slice fp A.feats.length fc, .slice lp A.lets.length lc] 26)).alloc (.cells #[.int .u8 (k : Int), .string f, .string o, .int .i64 n] 36)) W ∧ W.cell? ⟨w.heap.size + 1, 1, none⟩ = some (.string f) ∧ W.cell? ⟨w.heap.size + 1, 2, none⟩ = some (.string o)) (by kernel_rfl) (HS4.out _ (Ext.refl _).drew) (fun hHeld => ?_)
      refine wpAnyH_take (i := 0) (v := .pointer (some ⟨w.heap.size + 1, 1, none⟩)) rfl (by kernel_rfl) (by kernel_rfl) (by kernel_rfl) (fun _ _ _ h => h) (Or.inl ⟨by rfl, ?_⟩) (by assumption) ?_
      · intro w hSw
        try dsimp only at hSw
        go_simp
      try simp only [List.getElem_toArray, List.getElem_cons_zero, Act.put, List.setIfInBounds_toArray, List.set_cons_zero, List.set_cons_succ]
      refine wpAnyH_take (i := 1) (v := .string f) rfl (by kernel_rfl) (by kernel_rfl) (by kernel_rfl) (fun _ _ _ h => h) (Or.inl ⟨by rfl, ?_⟩) (by assumption) ?_
      · intro w hSw
        try dsimp only at hSw
        go_simp
      try simp only [List.getElem_toArray, List.getElem_cons_zero, List.getElem_cons_succ, Act.put, List.setIfInBounds_toArray, List.set_cons_zero, List.set_cons_succ]
      refine wpAnyH_take (i := 3) (v := .pointer (some ⟨w.heap.size + 1, 2, none⟩)) rfl (by kernel_rfl) (by kernel_rfl) (by kernel_rfl) (fun _ _ _ h => h) (Or.inl ⟨by rfl, ?_⟩) (by assumption) ?_
      · intro w hSw
        try dsimp only at hSw
        go_simp
      try simp only [List.getElem_toArray, List.getElem_cons_zero, List.getElem_cons_succ, Act.put, List.setIfInBounds_toArray, List.set_cons_zero, List.set_cons_succ]
      refine wpAnyH_take (i := 4) (v := .string o) rfl (by kernel_rfl) (by kernel_rfl) (by kernel_rfl) (fun _ _ _ h => h) (Or.inl ⟨by rfl, ?_⟩) (by assumption) ?_
      · intro w hSw
        try dsimp only at hSw
        go_simp
      try simp only [List.getElem_toArray, List.getElem_cons_zero, List.getElem_cons_succ, Act.put, List.setIfInBounds_toArray, List.set_cons_zero, List.set_cons_succ]
      refine wpAnyH_ready (rs := [2, 5]) (by kernel_rfl) (by simp) ?_
      refine AllReadyH.cons rfl (fun K hK => ?_) (AllReadyH.cons rfl (fun K hK => ?_) AllReadyH.nil)
      · try simp only [List.getElem_toArray, List.getElem_cons_zero, List.getElem_cons_succ]
        rw [if_pos (by rfl)]
        refine wp_str HS1.out _ rfl rfl ?_
        intro p1 c1 w1 hr1 hx1
        refine hK.out _ _ (HS4.out _ ((Ext.refl _).drew.trans hx1)) (fun hHeld => ?_)
        clear hK K
        try simp only [Act.put, List.setIfInBounds_toArray, List.set_cons_zero, List.set_cons_succ]
        refine wpAnyH_take (i := 6) (v := .slice p1 (strR f).length c1) rfl (by kernel_rfl) (by kernel_rfl) (by kernel_rfl) (fun _ _ _ h => h) (Or.inl ⟨by rfl, ?_⟩) (by assumption) ?_
        · intro w hSw
          try dsimp only at hSw
          go_simp
        try simp only [List.getElem_toArray, List.getElem_cons_zero, List.getElem_cons_succ, Act.put, List.setIfInBounds_toArray, List.set_cons_zero, List.set_cons_succ]
        refine wpAnyH_ready (rs := [5]) (by kernel_rfl) (by simp) ?_
        refine AllReadyH.cons rfl (fun K hK => ?_) AllReadyH.nil
        try simp only [List.getElem_toArray, List.getElem_cons_zero, List.getElem_cons_succ]
        rw [if_pos (by rfl)]
        refine wp_str HS2.out _ rfl rfl ?_
        intro p2 c2 w2 hr2 hx2
        refine hK.out _ _ (HS4.out _ (((Ext.refl _).drew.trans hx1).trans hx2)) (fun hHeld => ?_)
        clear hK K
        try simp only [Act.put, List.setIfInBounds_toArray, List.set_cons_zero, List.set_cons_succ]
        refine wpAnyH_take (i := 7) (v := .slice p2 (strR o).length c2) rfl (by kernel_rfl) (by kernel_rfl) (by kernel_rfl) (fun _ _ _ h => h) (Or.inl ⟨by rfl, ?_⟩) (by assumption) ?_
        · intro w hSw
          try dsimp only at hSw
          go_simp
        try simp only [List.getElem_toArray, List.getElem_cons_zero, List.getElem_cons_succ, Act.put, List.setIfInBounds_toArray, List.set_cons_zero, List.set_cons_succ]
        refine wpAnyH_done (by kernel_rfl) ?_ _
        clear hHeld
        go_wp2_with fail
        go_meet
        exact ⟨((Ext.refl _).drew.trans hx1).trans hx2, _, _, _, _, rfl, rfl, OwnRunes_base (hr1.ext hx2) (hx4.trans (Ext.refl _).drew).le, OwnRunes_base hr2 (hx4.trans ((Ext.refl _).drew.trans hx1)).le⟩
      · try simp only [List.getElem_toArray, List.getElem_cons_zero, List.getElem_cons_succ]
        rw [if_pos (by rfl)]
        refine wp_str HS2.out _ rfl rfl ?_
        intro p2 c2 w2 hr2 hx2
        refine hK.out _ _ (HS4.out _ ((Ext.refl _).drew.trans hx2)) (fun hHeld => ?_)
        clear hK K
        try simp only [Act.put, List.setIfInBounds_toArray, List.set_cons_zero, List.set_cons_succ]
        refine wpAnyH_ready (rs := [2]) (by kernel_rfl) (by simp) ?_
        refine AllReadyH.cons rfl (fun K hK => ?_) AllReadyH.nil
        try simp only [List.getElem_toArray, List.getElem_cons_zero, List.getElem_cons_succ]
        rw [if_pos (by rfl)]
        refine wp_str HS1.out _ rfl rfl ?_
        intro p1 c1 w1 hr1 hx1
        refine hK.out _ _ (HS4.out _ (((Ext.refl _).drew.trans hx2).trans hx1)) (fun hHeld => ?_)
        clear hK K
        try simp only [Act.put, List.setIfInBounds_toArray, List.set_cons_zero, List.set_cons_succ]
        refine wpAnyH_take (i := 6) (v := .slice p1 (strR f).length c1) rfl (by kernel_rfl) (by kernel_rfl) (by kernel_rfl) (fun _ _ _ h => h) (Or.inl ⟨by rfl, ?_⟩) (by assumption) ?_
        · intro w hSw
          try dsimp only at hSw
          go_simp
        try simp only [List.getElem_toArray, List.getElem_cons_zero, List.getElem_cons_succ, Act.put, List.setIfInBounds_toArray, List.set_cons_zero, List.set_cons_succ]
        refine wpAnyH_take (i := 7) (v := .slice p2 (strR o).length c2) rfl (by kernel_rfl) (by kernel_rfl) (by kernel_rfl) (fun _ _ _ h => h) (Or.inl ⟨by rfl, ?_⟩) (by assumption) ?_
        · intro w hSw
          try dsimp only at hSw
          go_simp
        try simp only [List.getElem_toArray, List.getElem_cons_zero, List.getElem_cons_succ, Act.put, List.setIfInBounds_toArray, List.set_cons_zero, List.set_cons_succ]
        refine wpAnyH_done (by kernel_rfl) ?_ _
        clear hHeld
        go_wp2_with fail
        go_meet
        exact ⟨((Ext.refl _).drew.trans hx2).trans hx1, _, _, _, _, rfl, rfl, OwnRunes_base hr1 (hx4.trans ((Ext.refl _).drew.trans hx2)).le, OwnRunes_base (hr2.ext hx1) (hx4.trans (Ext.refl _).drew).le⟩
    case rest =>
      obtain ⟨hx5, p1, c1, p2, c2, rfl, rfl, hr1, hr2⟩ := hcut
      have hx6 := hx4.trans hx5
      have HR1 := Lib.hid hr1
      have HR2 := Lib.hid hr2
      clear hr1 hr2
      generalize wc = wA at *
      go_upto_region 3 with (fail)
      go_cut [9] from 30 to 41 (fun a wx => a = .bool wb ∧ Ext wA wx)
      case first =>
        obtain ⟨e0, e1, e2, e3, b0, b1, l0, l1⟩ := HBX.out _ hx5
        have h1 := HWC.out f HS1.out wA hx6
        have hw1 : wdB A f = decide ((spell A f).2 = 0) := rfl
        obtain ⟨er, her⟩ : ∃ er, (spell A f).2 = er := ⟨_, rfl⟩
        rw [her] at h1 hw1
        have HW1 := Lib.hid hw1
        clear her hw1
        by_cases g1 : er = 0
        · subst g1
          have H1 := Lib.hid h1
          clear h1
          go_wp2_with fail
          refine H1.out.mono ?_
          rintro e w1 ⟨rfl, hx7⟩
          obtain ⟨e0, e1, e2, e3, b0, b1, l0, l1⟩ := HBX.out _ (hx5.trans hx7)
          have h2 := HWC.out o HS2.out w1 (hx6.trans hx7)
          have hw2 : wdB A o = decide ((spell A o).2 = 0) := rfl
          obtain ⟨er, her⟩ : ∃ er, (spell A o).2 = er := ⟨_, rfl⟩
          rw [her] at h2 hw2
          have HW2 := Lib.hid hw2
          have H2 := Lib.hid h2
          clear her hw2 h2
          go_wp2_with fail
          refine H2.out.mono ?_
          rintro e w2 ⟨rfl, hx8⟩
          go_wp2_with fail
          go_meet
          exact ⟨by rw [← HWB.out, HW2.out, HW1.out]; rfl, hx7.trans hx8⟩
        · have g2 : (er == 0) = false := by rw [beq_eq_false_iff_ne]; exact g1
          have g3 : decide (er = 0) = false := decide_eq_false g1
          have H3 := Lib.hid g3
          have H1 := Lib.hid h1
          clear h1 g1 g3
          go_wp2_with fail
          refine H1.out.mono ?_
          rintro e w1 ⟨rfl, hx7⟩
          go_wp2_with fail
          go_meet
          exact ⟨by rw [← HWB.out, HW1.out, H3.out]; rfl, hx7⟩
      case rest =>
        obtain ⟨rfl, hx7⟩ := hcut
        clear HWC
        obtain ⟨e0, e1, e2, e3, b0, b1, l0, l1⟩ := HBX.out _ (hx5.trans hx7)
        have hx8 := hx6.trans hx7
        by_cases k1 : k = 1
        · subst k1
          have ta0 := ta_yes96
          have hB := aff1_eq HOK.out HWB.out (n := n)
          cases wb
          · skip
            have hB2 : affB A ⟨1, f, o, n⟩ = false := hB.trans (by rfl)
            have HB := Lib.hid hB2
            clear hB hB2 
            clear HOK HPL HWB
            go_wp2_with fail
            go_ret2
            exact ⟨affRes HB.out (fun h => by cases h), hx8.alloc _⟩
          · skip
            cases q1 : decide (n = 0)
            · skip
              have gn : (n == 0) = false := by rw [beq_eq_false_iff_ne]; exact of_decide_eq_false q1
              have hB2 : affB A ⟨1, f, o, n⟩ = false := hB.trans (by rw [q1]; rfl)
              have HB := Lib.hid hB2
              clear hB hB2 q1
              clear HOK HPL HWB
              go_wp2_with fail
              go_ret2
              exact ⟨affRes HB.out (fun h => by cases h), hx8.alloc _⟩
            · skip
              have gn : (n == 0) = true := by rw [beq_iff_eq]; exact of_decide_eq_true q1
              cases q2 : decide ((strR o).length = 0)
              · skip
                have go_ : (((strR o).length : Int) == 0) = false := by rw [beq_eq_false_iff_ne]; have := of_decide_eq_false q2; omega
                have hB2 : affB A ⟨1, f, o, n⟩ = false := hB.trans (by rw [q1, q2]; rfl)
                have HB := Lib.hid hB2
                clear hB hB2 q1 q2
                clear HOK HPL HWB
                go_wp2_with fail
                go_ret2
                exact ⟨affRes HB.out (fun h => by cases h), hx8.alloc _⟩
              · skip
                have go_ : (((strR o).length : Int) == 0) = true := by rw [beq_iff_eq]; have := of_decide_eq_true q2; omega
                have hB2 : affB A ⟨1, f, o, n⟩ = true := hB.trans (by rw [q1, q2]; rfl)
                have HB := Lib.hid hB2
                clear hB hB2 q1 q2
                clear HOK HPL HWB
                go_wp2_with fail
                go_ret2
                exact ⟨affRes HB.out (fun _ => affV1 (HR1.out.ext (hx7.alloc _))), hx8.alloc _⟩
        · skip
          by_cases k2 : k = 2
          · subst k2
            have ta0 := ta_yes96
            have hB := aff2_eq HOK.out HWB.out (n := n)
            cases wb
            · skip
              have hB2 : affB A ⟨2, f, o, n⟩ = false := hB.trans (by rfl)
              have HB := Lib.hid hB2
              clear hB hB2 
              clear HOK HPL HWB
              go_wp2_with fail
              go_ret2
              exact ⟨affRes HB.out (fun h => by cases h), hx8.alloc _⟩
            · skip
              cases q1 : decide (n = 0)
              · skip
                have gn : (n == 0) = false := by rw [beq_eq_false_iff_ne]; exact of_decide_eq_false q1
                have hB2 : affB A ⟨2, f, o, n⟩ = false := hB.trans (by rw [q1]; rfl)
                have HB := Lib.hid hB2
                clear hB hB2 q1
                clear HOK HPL HWB
                go_wp2_with fail
                go_ret2
                exact ⟨affRes HB.out (fun h => by cases h), hx8.alloc _⟩
              · skip
                have gn : (n == 0) = true := by rw [beq_iff_eq]; exact of_decide_eq_true q1
                cases q2 : decide ((strR o).length = 0)
                · skip
                  have go_ : (((strR o).length : Int) == 0) = false := by rw [beq_eq_false_iff_ne]; have := of_decide_eq_false q2; omega
                  have hB2 : affB A ⟨2, f, o, n⟩ = false := hB.trans (by rw [q1, q2]; rfl)
                  have HB := Lib.hid hB2
                  clear hB hB2 q1 q2
                  clear HOK HPL HWB
                  go_wp2_with fail
                  go_ret2
                  exact ⟨affRes HB.out (fun h => by cases h), hx8.alloc _⟩
                · skip
                  have go_ : (((strR o).length : Int) == 0) = true := by rw [beq_iff_eq]; have := of_decide_eq_true q2; omega
                  have hB2 : affB A ⟨2, f, o, n⟩ = true := hB.trans (by rw [q1, q2]; rfl)
                  have HB := Lib.hid hB2
                  clear hB hB2 q1 q2
                  clear HOK HPL HWB
                  go_wp2_with fail
                  go_ret2
                  exact ⟨affRes HB.out (fun _ => affV2 (HR1.out.ext (hx7.alloc _))), hx8.alloc _⟩
          · skip
            by_cases k3 : k = 3
            · subst k3
              have ta0 := ta_yes96
              have hB := aff3_eq HWB.out (n := n)
              cases wb
              · skip
                have hB2 : affB A ⟨3, f, o, n⟩ = false := hB.trans (by rfl)
                have HB := Lib.hid hB2
                clear hB hB2 
                clear HOK HPL HWB
                go_wp2_with fail
                go_ret2
                exact ⟨affRes HB.out (fun h => by cases h), hx8.alloc _⟩
              · skip
                cases q1 : decide (n = 0)
                · skip
                  have gn : (n == 0) = false := by rw [beq_eq_false_iff_ne]; exact of_decide_eq_false q1
                  have hB2 : affB A ⟨3, f, o, n⟩ = false := hB.trans (by rw [q1]; rfl)
                  have HB := Lib.hid hB2
                  clear hB hB2 q1
                  clear HOK HPL HWB
                  go_wp2_with fail
                  go_ret2
                  exact ⟨affRes HB.out (fun h => by cases h), hx8.alloc _⟩
                · skip
                  have gn : (n == 0) = true := by rw [beq_iff_eq]; exact of_decide_eq_true q1
                  have hB2 : affB A ⟨3, f, o, n⟩ = true := hB.trans (by rw [q1]; rfl)
                  have HB := Lib.hid hB2
                  clear hB hB2 q1
                  clear HOK HPL HWB
                  go_wp2_with fail
                  go_ret2
                  exact ⟨affRes HB.out (fun _ => affV3 (HR1.out.ext (hx7.alloc _)) (HR2.out.ext (hx7.alloc _))), hx8.alloc _⟩
            · skip
              by_cases k4 : k = 4
              · subst k4
                have ta0 := ta_no98
                have ta1 := ta_yes98
                have hB := aff4_eq HOK.out HWB.out HPL.out
                cases wb
                · skip
                  have hB2 : affB A ⟨4, f, o, n⟩ = false := hB.trans (by rfl)
                  have HB := Lib.hid hB2
                  clear hB hB2 
                  clear HOK HPL HWB
                  go_wp2_with fail
                  go_ret2
                  exact ⟨affRes HB.out (fun h => by cases h), hx8.alloc _⟩
                · skip
                  cases pl
                  · skip
                    have hB2 : affB A ⟨4, f, o, n⟩ = false := hB.trans (by rfl)
                    have HB := Lib.hid hB2
                    clear hB hB2 
                    clear HOK HPL HWB
                    go_wp2_with fail
                    go_ret2
                    exact ⟨affRes HB.out (fun h => by cases h), hx8.alloc _⟩
                  · skip
                    cases q2 : decide ((strR o).length = 0)
                    · skip
                      have go_ : (((strR o).length : Int) == 0) = false := by rw [beq_eq_false_iff_ne]; have := of_decide_eq_false q2; omega
                      have hB2 : affB A ⟨4, f, o, n⟩ = false := hB.trans (by rw [q2]; rfl)
                      have HB := Lib.hid hB2
                      clear hB hB2 q2
                      clear HOK HPL HWB
                      go_wp2_with fail
                      go_ret2
                      exact ⟨affRes HB.out (fun h => by cases h), hx8.alloc _⟩
                    · skip
                      have go_ : (((strR o).length : Int) == 0) = true := by rw [beq_iff_eq]; have := of_decide_eq_true q2; omega
                      have hB2 : affB A ⟨4, f, o, n⟩ = true := hB.trans (by rw [q2]; rfl)
                      have HB := Lib.hid hB2
                      clear hB hB2 q2
                      clear HOK HPL HWB
                      go_wp2_with fail
                      go_ret2
                      exact ⟨affRes HB.out (fun _ => affV4 (HR1.out.ext (hx7.alloc _))), hx8.alloc _⟩
              · skip
                by_cases k5 : k = 5
                · subst k5
                  have ta0 := ta_no100a
                  have ta1 := ta_no100b
                  have ta2 := ta_yes100
                  have hB := aff5_eq A f o n
                  cases q0 : formB A f
                  · skip
                    have hsc := HSC.out f HS1.out wc hx8
                    rw [shapeE_no HOK.out (fun h => by rw [q0] at h; cases h.2)] at hsc
                    have HC := Lib.hid hsc
                    clear hsc
                    have hB2 : affB A ⟨5, f, o, n⟩ = false := hB.trans (by rw [q0]; rfl)
                    have HB := Lib.hid hB2
                    clear hB hB2 q0
                    clear HOK HPL HWB
                    go_wp2_with (go_at_call 42; refine HC.out.mono ?_; rintro e w9 ⟨rfl, hx9⟩)
                    obtain ⟨e0, e1, e2, e3, b0, b1, l0, l1⟩ := HBX.out _ ((hx5.trans hx7).trans (hx9.alloc (.cells #[.slice p1 (strR f).length c1] 100)))
                    have l2 : w9.heap.size < (w9.alloc (.cells #[.slice p1 (strR f).length c1] 100)).heap.size := by rw [size_alloc]; omega
                    (refine wp_region_ext (by kernel_rfl) (by kernel_rfl) ?_; intro ι hι g hg; have q_e2 := hg.cell e2; have q_e3 := hg.cell e3; clear e2 e3; (repeat (go_big_quiet_step (fail))); refine wpQuiet_nil ?_; rintro w10 ⟨i2, rfl⟩; have hq := hg.ext i2; generalize g i2 = w10 at hq ⊢; clear q_e2 q_e3 i2 hg g hι ι)
                    have hy := (hx9.alloc (.cells #[.slice p1 (strR f).length c1] 100)).trans hq
                    go_wp2_with fail
                    go_ret2
                    exact ⟨affRes HB.out (fun h => by cases h), hx8.trans hy⟩
                  · skip
                    have hsc := HSC.out f HS1.out wc hx8
                    rw [shapeE_ok HOK.out ⟨nmB_nil, q0⟩] at hsc
                    have HC := Lib.hid hsc
                    clear hsc
                    cases q1 : decide (o.size = 0)
                    · skip
                      have ge := empty_no (of_decide_eq_false q1)
                      have hB2 : affB A ⟨5, f, o, n⟩ = false := hB.trans (by rw [q0, q1]; rfl)
                      have HB := Lib.hid hB2
                      clear hB hB2 q0 q1
                      clear HOK HPL HWB
                      go_wp2_with (go_at_call 42; refine HC.out.mono ?_; rintro e w9 ⟨rfl, hx9⟩)
                      obtain ⟨e0, e1, e2, e3, b0, b1, l0, l1⟩ := HBX.out _ ((hx5.trans hx7).trans (hx9.alloc (.cells #[.slice p1 (strR f).length c1] 100)))
                      have l2 : w9.heap.size < (w9.alloc (.cells #[.slice p1 (strR f).length c1] 100)).heap.size := by rw [size_alloc]; omega
                      (refine wp_region_ext (by kernel_rfl) (by kernel_rfl) ?_; intro ι hι g hg; have q_e2 := hg.cell e2; have q_e3 := hg.cell e3; clear e2 e3; (repeat (go_big_quiet_step (fail))); refine wpQuiet_nil ?_; rintro w10 ⟨i2, rfl⟩; have hq := hg.ext i2; generalize g i2 = w10 at hq ⊢; clear q_e2 q_e3 i2 hg g hι ι)
                      have hy := (hx9.alloc (.cells #[.slice p1 (strR f).length c1] 100)).trans hq
                      go_wp2_with fail
                      go_ret2
                      exact ⟨affRes HB.out (fun h => by cases h), hx8.trans hy⟩
                    · skip
                      have ge := empty_yes (of_decide_eq_true q1)
                      cases q2 : decide (n = 0)
                      · skip
                        have gn : (n == 0) = false := by rw [beq_eq_false_iff_ne]; exact of_decide_eq_false q2
                        have hB2 : affB A ⟨5, f, o, n⟩ = false := hB.trans (by rw [q0, q1, q2]; rfl)
                        have HB := Lib.hid hB2
                        clear hB hB2 q0 q1 q2
                        clear HOK HPL HWB
                        go_wp2_with (go_at_call 42; refine HC.out.mono ?_; rintro e w9 ⟨rfl, hx9⟩)
                        obtain ⟨e0, e1, e2, e3, b0, b1, l0, l1⟩ := HBX.out _ ((hx5.trans hx7).trans (hx9.alloc (.cells #[.slice p1 (strR f).length c1] 100)))
                        have l2 : w9.heap.size < (w9.alloc (.cells #[.slice p1 (strR f).length c1] 100)).heap.size := by rw [size_alloc]; omega
                        (refine wp_region_ext (by kernel_rfl) (by kernel_rfl) ?_; intro ι hι g hg; have q_e2 := hg.cell e2; have q_e3 := hg.cell e3; clear e2 e3; (repeat (go_big_quiet_step (fail))); refine wpQuiet_nil ?_; rintro w10 ⟨i2, rfl⟩; have hq := hg.ext i2; generalize g i2 = w10 at hq ⊢; clear q_e2 q_e3 i2 hg g hι ι)
                        have hy := (hx9.alloc (.cells #[.slice p1 (strR f).length c1] 100)).trans hq
                        go_wp2_with fail
                        go_ret2
                        exact ⟨affRes HB.out (fun h => by cases h), hx8.trans hy⟩
                      · skip
                        have gn : (n == 0) = true := by rw [beq_iff_eq]; exact of_decide_eq_true q2
                        have hB2 : affB A ⟨5, f, o, n⟩ = true := hB.trans (by rw [q0, q1, q2]; rfl)
                        have HB := Lib.hid hB2
                        clear hB hB2 q0 q1 q2
                        clear HOK HPL HWB
                        go_wp2_with (go_at_call 42; refine HC.out.mono ?_; rintro e w9 ⟨rfl, hx9⟩)
                        obtain ⟨e0, e1, e2, e3, b0, b1, l0, l1⟩ := HBX.out _ ((hx5.trans hx7).trans (hx9.alloc (.cells #[.slice p1 (strR f).length c1] 100)))
                        have l2 : w9.heap.size < (w9.alloc (.cells #[.slice p1 (strR f).length c1] 100)).heap.size := by rw [size_alloc]; omega
                        (refine wp_region_ext (by kernel_rfl) (by kernel_rfl) ?_; intro ι hι g hg; have q_e2 := hg.cell e2; have q_e3 := hg.cell e3; clear e2 e3; (repeat (go_big_quiet_step (fail))); refine wpQuiet_nil ?_; rintro w10 ⟨i2, rfl⟩; have hq := hg.ext i2; generalize g i2 = w10 at hq ⊢; clear q_e2 q_e3 i2 hg g hι ι)
                        have hy := (hx9.alloc (.cells #[.slice p1 (strR f).length c1] 100)).trans hq
                        go_wp2_with fail
                        go_ret2
                        exact ⟨affRes HB.out (fun _ => affV5 (HR1.out.ext (hx7.trans hy))), hx8.trans hy⟩
                · skip
                  by_cases k6 : k = 6
                  · subst k6
                    have ta0 := ta_no103a
                    have ta1 := ta_no103b
                    have ta2 := ta_no103c
                    have ta3 := ta_yes103
                    have hB := aff6_eq A f o HPL.out
                    cases pl
                    · skip
                      have hB2 : affB A ⟨6, f, o, n⟩ = false := hB.trans (by rfl)
                      have HB := Lib.hid hB2
                      clear hB hB2 
                      clear HOK HPL HWB
                      go_wp2_with fail
                      obtain ⟨e0, e1, e2, e3, b0, b1, l0, l1⟩ := HBX.out _ ((hx5.trans hx7).alloc (.cells #[.int .i64 n] 103))
                      have t0 := (Ext.refl (wc.alloc (.cells #[.int .i64 n] 103))).cell0 0
                      (refine wp_region_ext (by kernel_rfl) (by kernel_rfl) ?_; intro ι hι g hg; have q_e1 := hg.cell e1; have q_e2 := hg.cell e2; have q_t0 := hg.cell t0; clear e1 e2 t0; (repeat (go_big_quiet_step (fail))); refine wpQuiet_nil ?_; rintro w10 ⟨i2, rfl⟩; have hq := hg.ext i2; generalize g i2 = w10 at hq ⊢; clear q_e1 q_e2 q_t0 i2 hg g hι ι)
                      have hy := ((Ext.refl wc).alloc (.cells #[.int .i64 n] 103)).trans hq
                      go_wp2_with fail
                      go_ret2
                      exact ⟨affRes HB.out (fun h => by cases h), hx8.trans hy⟩
                    · skip
                      cases q1 : decide (f.size = 0)
                      · skip
                        have gf := empty_no (of_decide_eq_false q1)
                        have hB2 : affB A ⟨6, f, o, n⟩ = false := hB.trans (by rw [q1]; rfl)
                        have HB := Lib.hid hB2
                        clear hB hB2 q1
                        clear HOK HPL HWB
                        go_wp2_with fail
                        obtain ⟨e0, e1, e2, e3, b0, b1, l0, l1⟩ := HBX.out _ ((hx5.trans hx7).alloc (.cells #[.int .i64 n] 103))
                        have t0 := (Ext.refl (wc.alloc (.cells #[.int .i64 n] 103))).cell0 0
                        (refine wp_region_ext (by kernel_rfl) (by kernel_rfl) ?_; intro ι hι g hg; have q_e1 := hg.cell e1; have q_e2 := hg.cell e2; have q_t0 := hg.cell t0; clear e1 e2 t0; (repeat (go_big_quiet_step (fail))); refine wpQuiet_nil ?_; rintro w10 ⟨i2, rfl⟩; have hq := hg.ext i2; generalize g i2 = w10 at hq ⊢; clear q_e1 q_e2 q_t0 i2 hg g hι ι)
                        have hy := ((Ext.refl wc).alloc (.cells #[.int .i64 n] 103)).trans hq
                        go_wp2_with fail
                        go_ret2
                        exact ⟨affRes HB.out (fun h => by cases h), hx8.trans hy⟩
                      · skip
                        have gf := empty_yes (of_decide_eq_true q1)
                        cases q2 : decide (o.size = 0)
                        · skip
                          have ge := empty_no (of_decide_eq_false q2)
                          have hB2 : affB A ⟨6, f, o, n⟩ = false := hB.trans (by rw [q1, q2]; rfl)
                          have HB := Lib.hid hB2
                          clear hB hB2 q1 q2
                          clear HOK HPL HWB
                          go_wp2_with fail
                          obtain ⟨e0, e1, e2, e3, b0, b1, l0, l1⟩ := HBX.out _ ((hx5.trans hx7).alloc (.cells #[.int .i64 n] 103))
                          have t0 := (Ext.refl (wc.alloc (.cells #[.int .i64 n] 103))).cell0 0
                          (refine wp_region_ext (by kernel_rfl) (by kernel_rfl) ?_; intro ι hι g hg; have q_e1 := hg.cell e1; have q_e2 := hg.cell e2; have q_t0 := hg.cell t0; clear e1 e2 t0; (repeat (go_big_quiet_step (fail))); refine wpQuiet_nil ?_; rintro w10 ⟨i2, rfl⟩; have hq := hg.ext i2; generalize g i2 = w10 at hq ⊢; clear q_e1 q_e2 q_t0 i2 hg g hι ι)
                          have hy := ((Ext.refl wc).alloc (.cells #[.int .i64 n] 103)).trans hq
                          go_wp2_with fail
                          go_ret2
                          exact ⟨affRes HB.out (fun h => by cases h), hx8.trans hy⟩
                        · skip
                          have ge := empty_yes (of_decide_eq_true q2)
                          have hB2 : affB A ⟨6, f, o, n⟩ = true := hB.trans (by rw [q1, q2]; rfl)
                          have HB := Lib.hid hB2
                          clear hB hB2 q1 q2
                          clear HOK HPL HWB
                          go_wp2_with fail
                          obtain ⟨e0, e1, e2, e3, b0, b1, l0, l1⟩ := HBX.out _ ((hx5.trans hx7).alloc (.cells #[.int .i64 n] 103))
                          have t0 := (Ext.refl (wc.alloc (.cells #[.int .i64 n] 103))).cell0 0
                          (refine wp_region_ext (by kernel_rfl) (by kernel_rfl) ?_; intro ι hι g hg; have q_e1 := hg.cell e1; have q_e2 := hg.cell e2; have q_t0 := hg.cell t0; clear e1 e2 t0; (repeat (go_big_quiet_step (fail))); refine wpQuiet_nil ?_; rintro w10 ⟨i2, rfl⟩; have hq := hg.ext i2; generalize g i2 = w10 at hq ⊢; clear q_e1 q_e2 q_t0 i2 hg g hι ι)
                          have hy := ((Ext.refl wc).alloc (.cells #[.int .i64 n] 103)).trans hq
                          go_wp2_with fail
                          go_ret2
                          exact ⟨affRes HB.out (fun _ => affV6), hx8.trans hy⟩
                  · skip
                    have n1 : ((k : Int) == 1) = false := by rw [beq_eq_false_iff_ne]; omega
                    have n2 : ((k : Int) == 2) = false := by rw [beq_eq_false_iff_ne]; omega
                    have n3 : ((k : Int) == 3) = false := by rw [beq_eq_false_iff_ne]; omega
                    have n4 : ((k : Int) == 4) = false := by rw [beq_eq_false_iff_ne]; omega
                    have n5 : ((k : Int) == 5) = false := by rw [beq_eq_false_iff_ne]; omega
                    have n6 : ((k : Int) == 6) = false := by rw [beq_eq_false_iff_ne]; omega
                    have hB := aff0_eq A f o n k1 k2 k3 k4 k5 k6
                    have HB := Lib.hid hB
                    clear hB k1 k2 k3 k4 k5 k6 HOK HPL HWB
                    go_wp2_with fail
                    go_ret2
                    exact ⟨affRes HB.out (fun h => by cases h), hx8⟩
end Go.Proofs.YtkmfhcjdaglikaaDoor
