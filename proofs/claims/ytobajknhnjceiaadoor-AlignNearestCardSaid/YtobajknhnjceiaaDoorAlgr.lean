/- Contract: cognateref21.Table. -/
import Derived.Test.YtobajknhnjceiaaDoorAlgb
import Derived.Test.YtobajknhnjceiaaDoorAlgw
import Derived.Deep.OwnRows
import Derived.Deep.Cut
namespace Go.Cg
open Go.RowKit Go.Lib Go.Deep
/-- all blocks but two are as they were -/
structure Two (q p : Nat) (w w' : World) : Prop where
  size : w.heap.size ≤ w'.heap.size
  block : ∀ b, b < w.heap.size → b ≠ q → b ≠ p → w'.heap[b]? = w.heap[b]?
theorem Two.refl (q p : Nat) (w : World) : Two q p w w := ⟨Nat.le_refl _, fun _ _ _ _ => rfl⟩
theorem Two.ext {q p : Nat} {w w1 w2 : World} (h : Two q p w w1) (k : Ext w1 w2) : Two q p w w2 :=
  ⟨Nat.le_trans h.size k.le, fun b hb h1 h2 => (Below.block k b (Nat.lt_of_lt_of_le hb h.size)).trans (h.block b hb h1 h2)⟩
theorem setCell_size (w : World) (a : Addr) (v : Value) : (w.setCell a v).heap.size = w.heap.size := by simp [World.setCell]
theorem Two.set {q p : Nat} {w w1 : World} (h : Two q p w w1) {a : Addr} (ha : a.block = q ∨ a.block = p) (v : Value) : Two q p w (w1.setCell a v) :=
  ⟨by rw [setCell_size]; exact h.size, fun b hb h1 h2 => (blk_setCell_other _ _ _ _ (by rcases ha with e | e <;> omega)).trans (h.block b hb h1 h2)⟩
theorem Two.row {q p : Nat} {w w' : World} (h : Two q p w w') {b : Nat} {t : TypeId} {n : Nat} {f : Nat → Value} (hr : w.rowIs b t n f) (h1 : b ≠ q) (h2 : b ≠ p) : w'.rowIs b t n f := hr.of_block (h.block b hr.lt h1 h2)
theorem rowIs_ext {w w' : World} {b : Nat} {t : TypeId} {n : Nat} {f : Nat → Value} (hr : w.rowIs b t n f) (h : Ext w w') : w'.rowIs b t n f := hr.of_block (Below.block h b hr.lt)
/-- a row of rows of numbers -/
structure GridAt (w : World) (b N M : Nat) (c : Nat → Nat → Nat) : Prop where
  lt : b < w.heap.size
  rows : ∀ i, i < N → ∃ q, w.cell? ⟨b, i, none⟩ = some (.slice (some ⟨q, 0, none⟩) M M) ∧ q < w.heap.size ∧ ∀ k, k < M → w.cell? ⟨q, k, none⟩ = some (.int .i64 (c i k : Nat))
theorem GridAt.ext {w w' : World} {b N M : Nat} {c : Nat → Nat → Nat} (h : GridAt w b N M c) (hx : Ext w w') : GridAt w' b N M c := by
  refine ⟨Nat.lt_of_lt_of_le h.lt hx.le, fun i hi => ?_⟩
  obtain ⟨q, h1, h2, h3⟩ := h.rows i hi
  exact ⟨q, (hx.facts.1 _ _ h.lt).trans h1, Nat.lt_of_lt_of_le h2 hx.le, fun k hk => (hx.facts.1 _ _ h2).trans (h3 k hk)⟩
end Go.Cg
namespace Go.Proofs.YtobajknhnjceiaaDoor
open Go.RowKit Go.Cg Go.Shelf Go.Maps

theorem infoI : (Tryd.prog.info? 3).map (fun i => (i.zero, i.size, i.bytes)) = some (some (.int .i64 0), 1, 8) := by kernel_rfl
theorem infoIs : (Tryd.prog.info? 69).map (fun i => (i.zero, i.size, i.bytes)) = some (some (.slice none 0 0), 1, 24) := by kernel_rfl

set_option maxRecDepth 100000 in
set_option maxHeartbeats 8000000 in
theorem table_any (fp lp xp yp : Option Addr) (fc lc xc yc : Nat) (A : Alpha) (x y : List Int) (hx : x.length ≤ 64) (hy : y.length ≤ 64) (hx0 : ∀ r ∈ x, r ≠ 0) (hy0 : ∀ r ∈ y, r ≠ 0) (w : World) (hA : AlphaAt w fp lp A) (hX : RunesAt w xp x) (hY : RunesAt w yp y) :
    Calls Tryd.prog 58 #[.agg #[.slice fp A.feats.length fc, .slice lp A.lets.length lc], .slice xp x.length xc, .slice yp y.length yc] w fun e w' => ∃ cb mb, e = .returned (.tuple #[.slice (some ⟨cb, 0, none⟩) (x.length + 1) (x.length + 1), .slice (some ⟨mb, 0, none⟩) (x.length + 1) (x.length + 1)]) ∧ GridAt w' cb (x.length + 1) (y.length + 1) (tc (farC A) x y) ∧ GridAt w' mb (x.length + 1) (y.length + 1) (tm (farC A) x y) ∧ Ext w w' := by
  have hx3 : Ext w (w.alloc (.cells #[.slice fp A.feats.length fc, .slice lp A.lets.length lc] 25)) := (Ext.refl _).alloc _
  have b1 : (x.length : Int) < 65 := by omega
  have b2 : (y.length : Int) < 65 := by omega
  have hm1 := fun W => run_make_row' (P := Tryd.prog) 81 69 (.slice none 0 0) 24 Tryd.underlying81 infoIs rfl .i64 .i64 (x.length + 1) (by omega) (by omega) W
  have hm2 := fun W => run_make_row' (P := Tryd.prog) 69 3 (.int .i64 0) 8 Tryd.underlying69 infoI rfl .i64 .i64 (y.length + 1) (by omega) (by omega) W
  rw [show ((x.length + 1 : Nat) : Int) = (x.length : Int) + 1 by omega] at hm1
  rw [show ((y.length + 1 : Nat) : Int) = (y.length : Int) + 1 by omega] at hm2
  have HCL := Lib.hid (fun i k => tc_le (farC A) hx hy i k)
  have HML := Lib.hid (fun i k => (tm_le (farC A) x y i k).2)
  have hce := tc_end (farC A) x y
  have hme := tm_end (farC A) x y
  obtain ⟨c, hc⟩ : ∃ c, tc (farC A) x y = c := ⟨_, rfl⟩
  obtain ⟨m, hm⟩ : ∃ m, tm (farC A) x y = m := ⟨_, rfl⟩
  rw [hc, hm]
  rw [hc] at hce HCL
  rw [hm] at hme HML
  have HC := Lib.hid hc
  have HM := Lib.hid hm
  have HCE := Lib.hid hce
  have HME := Lib.hid hme
  clear hc hm hce hme
  have HX0 := Lib.hid (fun i (hi : i < x.length) => (show rn x i ≠ 0 by rw [rn_eq hi]; exact hx0 _ (List.getElem_mem hi)))
  have HY0 := Lib.hid (fun i (hi : i < y.length) => (show rn y i ≠ 0 by rw [rn_eq hi]; exact hy0 _ (List.getElem_mem hi)))
  clear hx0 hy0
  have HOF := Lib.hid (fun u v hu hv W (hW : Ext w W) => Of21_any fp lp fc lc A u v hu hv W (hA.mono hW))
  go_enter Tryd.func58, Tryd.ntmps58
  go_wp2_with fail
  obtain ⟨W0, hW0⟩ : ∃ W0, ((w.alloc (.cells #[.slice fp A.feats.length fc, .slice lp A.lets.length lc] 25)).alloc (.cells (madeCells #[.slice none 0 0] (x.length + 1)) 69)).alloc (.cells (madeCells #[.slice none 0 0] (x.length + 1)) 69) = W0 := ⟨_, rfl⟩
  have hE0 : Ext (w.alloc (.cells #[.slice fp A.feats.length fc, .slice lp A.lets.length lc] 25)) W0 := by rw [← hW0]; exact ((Ext.refl _).alloc _).alloc _
  have hR1 := (World.rowIs_made (w.alloc (.cells #[.slice fp A.feats.length fc, .slice lp A.lets.length lc] 25)) (.slice none 0 0) (x.length + 1) 69).alloc (.cells (madeCells #[.slice none 0 0] (x.length + 1)) 69)
  have hR2 := World.rowIs_made ((w.alloc (.cells #[.slice fp A.feats.length fc, .slice lp A.lets.length lc] 25)).alloc (.cells (madeCells #[.slice none 0 0] (x.length + 1)) 69)) (.slice none 0 0) (x.length + 1) 69
  rw [hW0] at hR1 hR2 ⊢
  rw [size_alloc] at hR1
  rw [size_alloc, size_alloc] at hR2
  clear hW0
  obtain ⟨cb, hcb⟩ : ∃ cb, w.heap.size + 1 = cb := ⟨_, rfl⟩
  have lc1 : w.heap.size < cb := by omega
  rw [hcb] at hR1 hR2 ⊢
  obtain ⟨mb, hmb⟩ : ∃ mb, cb + 1 = mb := ⟨_, rfl⟩
  have lm1 : cb < mb := by omega
  rw [hmb] at hR2 ⊢
  have hgc : (w.alloc (.cells #[.slice fp A.feats.length fc, .slice lp A.lets.length lc] 25)).heap.size ≤ cb := by rw [size_alloc]; omega
  have hne1 : cb ≠ mb := by omega
  have hne2 : mb ≠ cb := by omega
  have HR1 := Lib.hid hR1
  have HR2 := Lib.hid hR2
  have HGC := Lib.hid hgc
  clear hcb hmb hR1 hR2 hgc
  go_loopw [10] (fun i wr => ∃ (r : Nat) (hc hm : Nat → Value), r ≤ x.length + 1 ∧ i = .int .i64 ((r : Int) - 1) ∧ Ext (w.alloc (.cells #[.slice fp A.feats.length fc, .slice lp A.lets.length lc] 25)) wr ∧ wr.rowIs cb 69 (x.length + 1) hc ∧ wr.rowIs mb 69 (x.length + 1) hm ∧ Hid (∀ i, r ≤ i → i < x.length + 1 → ∃ q p, hc i = .slice (some ⟨q, 0, none⟩) (y.length + 1) (y.length + 1) ∧ hm i = .slice (some ⟨p, 0, none⟩) (y.length + 1) (y.length + 1) ∧ mb < q ∧ mb < p ∧ wr.rowIs q 3 (y.length + 1) (fun k => .int .i64 (c i k : Nat)) ∧ wr.rowIs p 3 (y.length + 1) (fun k => .int .i64 (m i k : Nat)))) (fun i _ => (intOf i + 1).toNat)
  case atStart => exact ⟨x.length + 1, _, _, Nat.le_refl _, by congr 1; omega, hE0, HR1.out, HR2.out, fun i h1 h2 => by omega⟩
  case round =>
    obtain ⟨r, hcf, hmf, hr, rfl, hxr, hC, hM, HR⟩ := hrel
    rcases r with _ | i
    · go_wp2_with fail
      go_ret2
      refine ⟨cb, mb, rfl, ⟨hC.lt, fun i hi => ?_⟩, ⟨hM.lt, fun i hi => ?_⟩, hxr.box⟩
      · obtain ⟨q, p, e1, e2, _, _, r1, r2⟩ := HR.out i (Nat.zero_le _) hi
        exact ⟨q, (hC.cell hi).trans (by rw [e1]), r1.lt, fun k hk => r1.cell hk⟩
      · obtain ⟨q, p, e1, e2, _, _, r1, r2⟩ := HR.out i (Nat.zero_le _) hi
        exact ⟨p, (hM.cell hi).trans (by rw [e2]), r2.lt, fun k hk => r2.cell hk⟩
    · have e8 : (((i + 1 : Nat) : Int) - 1) = (i : Int) := by omega
      rw [e8]
      have cI := hC.cell (i := i) (by omega)
      have fI := hC.frozen i
      have lcb := hC.lt
      have cM := hM.cell (i := i) (by omega)
      have fM := hM.frozen i
      have lmb := hM.lt
      have bi : (i : Int) < 65 := by omega
      go_wp2_with fail
      obtain ⟨W2, hW2⟩ : ∃ W2, (((wr.setCell ⟨cb, i, none⟩ (.slice (some ⟨wr.heap.size, 0, none⟩) (y.length + 1) (y.length + 1))).setCell ⟨mb, i, none⟩ (.slice (some ⟨wr.heap.size + 1, 0, none⟩) (y.length + 1) (y.length + 1))).alloc (.cells (madeCells #[.int .i64 0] (y.length + 1)) 3)).alloc (.cells (madeCells #[.int .i64 0] (y.length + 1)) 3) = W2 := ⟨_, rfl⟩
      have hE2 : Ext (w.alloc (.cells #[.slice fp A.feats.length fc, .slice lp A.lets.length lc] 25)) W2 := by rw [← hW2]; exact (((hxr.setCell HGC.out _).setCell (Nat.le_trans HGC.out (Nat.le_of_lt lm1)) _).alloc _).alloc _
      have hC2 := (((hC.set i (.slice (some ⟨wr.heap.size, 0, none⟩) (y.length + 1) (y.length + 1))).setOther (a := ⟨mb, i, none⟩) hne1 (.slice (some ⟨wr.heap.size + 1, 0, none⟩) (y.length + 1) (y.length + 1))).alloc (.cells (madeCells #[.int .i64 0] (y.length + 1)) 3)).alloc (.cells (madeCells #[.int .i64 0] (y.length + 1)) 3)
      have hM2 := (((hM.setOther (a := ⟨cb, i, none⟩) hne2 (.slice (some ⟨wr.heap.size, 0, none⟩) (y.length + 1) (y.length + 1))).set i (.slice (some ⟨wr.heap.size + 1, 0, none⟩) (y.length + 1) (y.length + 1))).alloc (.cells (madeCells #[.int .i64 0] (y.length + 1)) 3)).alloc (.cells (madeCells #[.int .i64 0] (y.length + 1)) 3)
      have hq2 := (World.rowIs_made ((wr.setCell ⟨cb, i, none⟩ (.slice (some ⟨wr.heap.size, 0, none⟩) (y.length + 1) (y.length + 1))).setCell ⟨mb, i, none⟩ (.slice (some ⟨wr.heap.size + 1, 0, none⟩) (y.length + 1) (y.length + 1))) (.int .i64 0) (y.length + 1) 3).alloc (.cells (madeCells #[.int .i64 0] (y.length + 1)) 3)
      have hp2 := World.rowIs_made (((wr.setCell ⟨cb, i, none⟩ (.slice (some ⟨wr.heap.size, 0, none⟩) (y.length + 1) (y.length + 1))).setCell ⟨mb, i, none⟩ (.slice (some ⟨wr.heap.size + 1, 0, none⟩) (y.length + 1) (y.length + 1))).alloc (.cells (madeCells #[.int .i64 0] (y.length + 1)) 3)) (.int .i64 0) (y.length + 1) 3
      have hold : ∀ b f, wr.rowIs b 3 (y.length + 1) f → b ≠ cb → b ≠ mb → W2.rowIs b 3 (y.length + 1) f := fun b f h h1 h2 => by
        rw [← hW2]; exact (((h.setOther (a := ⟨cb, i, none⟩) h1 _).setOther (a := ⟨mb, i, none⟩) h2 _).alloc _).alloc _
      rw [hW2] at hC2 hM2 hq2 hp2 ⊢
      rw [setCell_size, setCell_size] at hq2
      rw [size_alloc, setCell_size, setCell_size] at hp2
      have lq1 : mb < wr.heap.size := lmb
      have hwq : ∀ b, b < wr.heap.size → b ≠ wr.heap.size ∧ b ≠ wr.heap.size + 1 := fun b h => by omega
      obtain ⟨q, hq⟩ : ∃ q, wr.heap.size = q := ⟨_, rfl⟩
      have hqp : q < q + 1 := by omega
      rw [hq] at hC2 hM2 hq2 hp2 lq1 lcb hwq ⊢
      obtain ⟨p, hp⟩ : ∃ p, q + 1 = p := ⟨_, rfl⟩
      rw [hp] at hM2 hp2 hqp hwq ⊢
      have lp1 : mb < p := by omega
      have lcq : cb ≠ q ∧ cb ≠ p ∧ mb ≠ q ∧ mb ≠ p := by omega
      have HR2 := Lib.hid (fun i2 (h1 : i + 1 ≤ i2) (h2 : i2 < x.length + 1) => (show ∃ q1 p1, hcf i2 = .slice (some ⟨q1, 0, none⟩) (y.length + 1) (y.length + 1) ∧ hmf i2 = .slice (some ⟨p1, 0, none⟩) (y.length + 1) (y.length + 1) ∧ mb < q1 ∧ mb < p1 ∧ (q1 ≠ q ∧ q1 ≠ p) ∧ (p1 ≠ q ∧ p1 ≠ p) ∧ W2.rowIs q1 3 (y.length + 1) (fun k => .int .i64 (c i2 k : Nat)) ∧ W2.rowIs p1 3 (y.length + 1) (fun k => .int .i64 (m i2 k : Nat)) by
        obtain ⟨q1, p1, e1, e2, l1, l2, r1, r2⟩ := HR.out i2 h1 h2
        exact ⟨q1, p1, e1, e2, l1, l2, hwq _ (by rw [← hq]; exact r1.lt), hwq _ (by rw [← hq]; exact r2.lt), hold _ _ r1 (by omega) (by omega), hold _ _ r2 (by omega) (by omega)⟩))
      have HC2 := Lib.hid hC2
      have HM2 := Lib.hid hM2
      have HLQ := Lib.hid lcq
      clear hold hwq hW2 hC2 hM2 HR cI fI cM fM hC hM lcq lcb lmb
      clear hq hp
      go_loopw [11] (fun k wq => ∃ (s : Nat) (gf gm : Nat → Value), s ≤ y.length + 1 ∧ k = .int .i64 ((s : Int) - 1) ∧ Ext (w.alloc (.cells #[.slice fp A.feats.length fc, .slice lp A.lets.length lc] 25)) wq ∧ Two q p W2 wq ∧ wq.rowIs q 3 (y.length + 1) gf ∧ wq.rowIs p 3 (y.length + 1) gm ∧ Hid (∀ k, (s ≤ k → k < y.length + 1 → gf k = .int .i64 (c i k : Nat) ∧ gm k = .int .i64 (m i k : Nat)) ∧ (k < s → gf k = .int .i64 0))) (fun k _ => (intOf k + 1).toNat)
      case atStart => exact ⟨y.length + 1, _, _, Nat.le_refl _, by congr 1; omega, hE2, Two.refl _ _ _, hq2, hp2, fun k => ⟨fun h1 h2 => by omega, fun _ => rfl⟩⟩
      case round =>
        obtain ⟨s, gf, gm, hs, rfl, hxq, hTw, hFc, hFm, HF⟩ := hrel
        rcases s with _ | k
        · go_wp2_with fail
          refine ⟨⟨i, _, _, by omega, rfl, hxq, hTw.row HC2.out HLQ.out.1 HLQ.out.2.1, hTw.row HM2.out HLQ.out.2.2.1 HLQ.out.2.2.2, ?_⟩, by simp [intOf]⟩
          intro i2 h1 h2
          by_cases h3 : i2 = i
          · subst h3
            refine ⟨q, p, by rw [if_pos rfl], by rw [if_pos rfl], lq1, lp1, hFc.congr fun k hk => ((HF.out k).1 (Nat.zero_le _) hk).1, hFm.congr fun k hk => ((HF.out k).1 (Nat.zero_le _) hk).2⟩
          · obtain ⟨q1, p1, e1, e2, l1, l2, n1, n2, r1, r2⟩ := HR2.out i2 (by omega) h2
            exact ⟨q1, p1, by rw [if_neg h3]; exact e1, by rw [if_neg h3]; exact e2, l1, l2, hTw.row r1 n1.1 n1.2, hTw.row r2 n2.1 n2.2⟩
        · have e9 : (((k + 1 : Nat) : Int) - 1) = (k : Int) := by omega
          rw [e9]
          have bk : (k : Int) < 65 := by omega
          have hqq := hTw
          have cHi := (hTw.row HC2.out HLQ.out.1 HLQ.out.2.1).cell (i := i) (by omega)
          have mHi := (hTw.row HM2.out HLQ.out.2.2.1 HLQ.out.2.2.2).cell (i := i) (by omega)
          rw [if_pos rfl] at cHi mHi
          have lcw := (hTw.row HC2.out HLQ.out.1 HLQ.out.2.1).lt
          have lmw := (hTw.row HM2.out HLQ.out.2.2.1 HLQ.out.2.2.2).lt
          have lqw := hFc.lt
          have lpw := hFm.lt
          have cqk := hFc.cell (i := k) (by omega)
          have fqk := hFc.frozen k
          have cpk := hFm.cell (i := k) (by omega)
          have fpk := hFm.frozen k
          by_cases hi : i = x.length
          · subst hi
            by_cases hk : k = y.length
            · subst hk
              go_wp2_with fail
              refine ⟨⟨y.length, _, _, by omega, rfl, hxq.setCell (Nat.le_trans HGC.out (show cb ≤ p by omega)) _, hTw.set (.inr rfl) _, hFc.setOther (a := ⟨p, y.length, none⟩) (by show q ≠ p; omega) _, hFm.set y.length _, ?_⟩, by simp [intOf]⟩
              intro k2
              refine ⟨fun h1 h2 => ?_, fun h => (HF.out k2).2 (by omega)⟩
              have e : k2 = y.length := by omega
              subst e
              refine ⟨?_, ?_⟩
              · rw [(HF.out y.length).2 (by omega), HCE.out]; rfl
              · rw [if_pos rfl, HME.out]; rfl
            · have hk' : k < y.length := by omega
              have gk : ((k : Int) == (y.length : Int)) = false := by rw [beq_eq_false_iff_ne]; omega
              have hsc : c x.length k = 5 + c x.length (k + 1) := by rw [← HC.out]; exact tc_right _ _ hk'
              have hsm : m x.length k = m x.length (k + 1) := by rw [← HM.out]; exact tm_right _ _ hk'
              obtain ⟨by_, oy, ey, hby, cy⟩ := (hY.mono hxq.box).cells hk'
              have gt := HY0.out k hk'
              have gtb : (rn y k == 0) = false := by rw [beq_eq_false_iff_ne]; exact gt
              have ho2 := HOF.out 0 (rn y k) (by decide) (hY.wf k hk')
              rw [farC_gap (fun h => gt h.symm) (.inl rfl)] at ho2
              have HO2 := Lib.hid ho2
              have HSC := Lib.hid hsc
              have HSM := Lib.hid hsm
              have bc01 := HCL.out x.length (k + 1)
              have bm01 := HML.out x.length (k + 1)
              have d0 := hxq.cell0 0
              have d1 := hxq.cell0 1
              clear ho2 hsc hsm gt
              subst ey
              go_wp2_with fail
              have HZd := Lib.hid (fun W (hW : Ext wr W) => (⟨(hxq.trans hW).cell0 0, (hxq.trans hW).cell0 1, (hxq.trans hW).lt0⟩ : W.cell? ⟨w.heap.size, 0, none⟩ = some (.slice fp A.feats.length fc) ∧ W.cell? ⟨w.heap.size, 1, none⟩ = some (.slice lp A.lets.length lc) ∧ w.heap.size < W.heap.size))
              have HZcy := Lib.hid (fun W (hW : Ext wr W) => (⟨(hW.facts.1 _ _ hby).trans cy, Nat.lt_of_lt_of_le hby hW.le⟩ : W.cell? ⟨by_, oy + k, none⟩ = some (.int .i32 (rn y k)) ∧ by_ < W.heap.size))
              have HZcHi := Lib.hid (fun W (hW : Ext wr W) => (⟨(hW.facts.1 _ _ lcw).trans cHi, Nat.lt_of_lt_of_le lcw hW.le⟩ : W.cell? ⟨cb, x.length, none⟩ = some (.slice (some ⟨q, 0, none⟩) (y.length + 1) (y.length + 1)) ∧ cb < W.heap.size))
              have HZmHi := Lib.hid (fun W (hW : Ext wr W) => (⟨(hW.facts.1 _ _ lmw).trans mHi, Nat.lt_of_lt_of_le lmw hW.le⟩ : W.cell? ⟨mb, x.length, none⟩ = some (.slice (some ⟨p, 0, none⟩) (y.length + 1) (y.length + 1)) ∧ mb < W.heap.size))
              have HZc01 := Lib.hid (fun W (hW : Ext wr W) => (⟨((rowIs_ext hFc hW).cell (i := k + 1) (by omega)).trans (by rw [((HF.out (k + 1)).1 (by omega) (by omega)).1]), Nat.lt_of_lt_of_le hFc.lt hW.le⟩ : W.cell? ⟨q, k + 1, none⟩ = some (.int .i64 ((c x.length (k + 1) : Nat) : Int)) ∧ q < W.heap.size))
              have HZm01 := Lib.hid (fun W (hW : Ext wr W) => (⟨((rowIs_ext hFm hW).cell (i := k + 1) (by omega)).trans (by rw [((HF.out (k + 1)).1 (by omega) (by omega)).2]), Nat.lt_of_lt_of_le hFm.lt hW.le⟩ : W.cell? ⟨p, k + 1, none⟩ = some (.int .i64 ((m x.length (k + 1) : Nat) : Int)) ∧ p < W.heap.size))
              clear d0 d1 cy cHi mHi cqk fqk cpk fpk
              go_loopw [12, 13, 14] (fun best n way wz => Ext wr wz ∧ ((way = .int .i64 0 ∧ best = .int .i64 (-1) ∧ n = .int .i64 0) ∨ (way = .int .i64 1 ∧ best = .int .i64 (-1) ∧ n = .int .i64 0) ∨ (way = .int .i64 2 ∧ best = .int .i64 (-1) ∧ n = .int .i64 0) ∨ (way = .int .i64 3 ∧ best = .int .i64 ((c x.length k : Nat) : Int) ∧ n = .int .i64 ((m x.length k : Nat) : Int)))) (fun _ _ way _ => (3 - intOf way).toNat)
              case atStart => exact ⟨Ext.refl _, .inl ⟨rfl, rfl, rfl⟩⟩
              case round =>
                obtain ⟨hz, (⟨rfl, rfl, rfl⟩ | ⟨rfl, rfl, rfl⟩ | ⟨rfl, rfl, rfl⟩ | ⟨rfl, rfl, rfl⟩)⟩ := hrel
                · obtain ⟨d0, d1, l0⟩ := HZd.out _ hz
                  obtain ⟨cy, ly⟩ := HZcy.out _ hz
                  go_wp2_with fail
                  exact ⟨⟨hz, (.inr (.inl ⟨rfl, rfl, rfl⟩))⟩, by simp [intOf]⟩
                · obtain ⟨d0, d1, l0⟩ := HZd.out _ hz
                  go_wp2_with fail
                  exact ⟨⟨hz, (.inr (.inr (.inl ⟨rfl, rfl, rfl⟩)))⟩, by simp [intOf]⟩
                · obtain ⟨d0, d1, l0⟩ := HZd.out _ hz
                  obtain ⟨cy, ly⟩ := HZcy.out _ hz
                  obtain ⟨cHi, lcb⟩ := HZcHi.out _ hz
                  obtain ⟨c01, lqz⟩ := HZc01.out _ hz
                  go_wp2_with fail
                  (refine wp_region_ext (by kernel_rfl) (by kernel_rfl) ?_; intro ι hι g hg; have q_d0 := hg.cell d0; have q_d1 := hg.cell d1; have q_cHi := hg.cell cHi; have q_c01 := hg.cell c01; clear d0 d1 cHi c01; (repeat (go_big_quiet_step ((go_at_call 54; exact hg.call (HO2.out _ ((hxq.trans hz).box.trans (hg.ext _))))))); refine wpQuiet_nil ?_; rintro w5 ⟨i2, rfl⟩; have hq5 := hg.ext i2; generalize g i2 = w5 at hq5 ⊢; clear q_d0 q_d1 q_cHi q_c01 i2 hg g hι ι)
                  have hz5 := hz.trans hq5
                  obtain ⟨mHi, lmb⟩ := HZmHi.out _ hz5
                  obtain ⟨m01, lpz⟩ := HZm01.out _ hz5
                  go_wp2_with fail
                  have s1 := HSC.out
                  have s2 := HSM.out
                  exact ⟨⟨hz5, (.inr (.inr (.inr ⟨rfl, (by congr 1; omega), (by congr 1; omega)⟩)))⟩, by simp [intOf]⟩
                · obtain ⟨cHi, lcb⟩ := HZcHi.out _ hz
                  obtain ⟨mHi, lmb⟩ := HZmHi.out _ hz
                  have hFc5 := rowIs_ext hFc hz
                  have hFm5 := rowIs_ext hFm hz
                  have lqz := hFc5.lt
                  have lpz := hFm5.lt
                  have cqk := hFc5.cell (i := k) (by omega)
                  have fqk := hFc5.frozen k
                  have cpk := hFm5.cell (i := k) (by omega)
                  have fpk := hFm5.frozen k
                  have hqp1 : q ≠ p := by omega
                  have hqp2 : p ≠ q := by omega
                  have lgq : (w.alloc (.cells #[.slice fp A.feats.length fc, .slice lp A.lets.length lc] 25)).heap.size ≤ q := Nat.le_trans HGC.out (show cb ≤ q by omega)
                  have lgp : (w.alloc (.cells #[.slice fp A.feats.length fc, .slice lp A.lets.length lc] 25)).heap.size ≤ p := Nat.le_trans HGC.out (show cb ≤ p by omega)
                  go_wp2_with fail
                  refine ⟨⟨k, _, _, by omega, rfl, ((hxq.trans hz).setCell lgq _).setCell lgp _, ((hTw.ext hz).set (.inl rfl) _).set (.inr rfl) _, (hFc5.set k _).setOther (a := ⟨p, k, none⟩) hqp1 _, (hFm5.setOther (a := ⟨q, k, none⟩) hqp2 _).set k _, ?_⟩, by simp [intOf]⟩
                  intro k2
                  refine ⟨fun h1 h2 => ?_, fun h => by rw [if_neg (by omega)]; exact (HF.out k2).2 (by omega)⟩
                  by_cases e : k2 = k
                  · subst e
                    exact ⟨if_pos rfl, if_pos rfl⟩
                  · exact ⟨(if_neg e).trans ((HF.out k2).1 (by omega) h2).1, (if_neg e).trans ((HF.out k2).1 (by omega) h2).2⟩
          · have hi' : i < x.length := by omega
            have gi : ((i : Int) == (x.length : Int)) = false := by rw [beq_eq_false_iff_ne]; omega
            obtain ⟨q1, p1, e1, e2, l1, l2, n1, n2, r1, r2⟩ := HR2.out (i + 1) (Nat.le_refl _) (by omega)
            have cHn := (hTw.row HC2.out HLQ.out.1 HLQ.out.2.1).cell (i := i + 1) (by omega)
            have mHn := (hTw.row HM2.out HLQ.out.2.2.1 HLQ.out.2.2.2).cell (i := i + 1) (by omega)
            rw [if_neg (by omega), e1] at cHn
            rw [if_neg (by omega), e2] at mHn
            have hr1 := hTw.row r1 n1.1 n1.2
            have hr2 := hTw.row r2 n2.1 n2.2
            by_cases hk : k = y.length
            · subst hk
              have hsc : c i y.length = 5 + c (i + 1) y.length := by rw [← HC.out]; exact tc_left _ _ hi'
              have hsm : m i y.length = m (i + 1) y.length := by rw [← HM.out]; exact tm_left _ _ hi'
              obtain ⟨bx, ox, ex, hbx, cx⟩ := (hX.mono hxq.box).cells hi'
              have gs := HX0.out i hi'
              have gsb : (rn x i == 0) = false := by rw [beq_eq_false_iff_ne]; exact gs
              have ho1 := HOF.out (rn x i) 0 (hX.wf i hi') (by decide)
              rw [farC_gap gs (.inr rfl)] at ho1
              have HO1 := Lib.hid ho1
              have HSC := Lib.hid hsc
              have HSM := Lib.hid hsm
              have bc10 := HCL.out (i + 1) y.length
              have bm10 := HML.out (i + 1) y.length
              have d0 := hxq.cell0 0
              have d1 := hxq.cell0 1
              clear ho1 hsc hsm gs e1 e2
              subst ex
              go_wp2_with fail
              have HZd := Lib.hid (fun W (hW : Ext wr W) => (⟨(hxq.trans hW).cell0 0, (hxq.trans hW).cell0 1, (hxq.trans hW).lt0⟩ : W.cell? ⟨w.heap.size, 0, none⟩ = some (.slice fp A.feats.length fc) ∧ W.cell? ⟨w.heap.size, 1, none⟩ = some (.slice lp A.lets.length lc) ∧ w.heap.size < W.heap.size))
              have HZcx := Lib.hid (fun W (hW : Ext wr W) => (⟨(hW.facts.1 _ _ hbx).trans cx, Nat.lt_of_lt_of_le hbx hW.le⟩ : W.cell? ⟨bx, ox + i, none⟩ = some (.int .i32 (rn x i)) ∧ bx < W.heap.size))
              have HZcHi := Lib.hid (fun W (hW : Ext wr W) => (⟨(hW.facts.1 _ _ lcw).trans cHi, Nat.lt_of_lt_of_le lcw hW.le⟩ : W.cell? ⟨cb, i, none⟩ = some (.slice (some ⟨q, 0, none⟩) (y.length + 1) (y.length + 1)) ∧ cb < W.heap.size))
              have HZmHi := Lib.hid (fun W (hW : Ext wr W) => (⟨(hW.facts.1 _ _ lmw).trans mHi, Nat.lt_of_lt_of_le lmw hW.le⟩ : W.cell? ⟨mb, i, none⟩ = some (.slice (some ⟨p, 0, none⟩) (y.length + 1) (y.length + 1)) ∧ mb < W.heap.size))
              have HZcHn := Lib.hid (fun W (hW : Ext wr W) => (⟨(hW.facts.1 _ _ lcw).trans cHn, Nat.lt_of_lt_of_le hr1.lt hW.le⟩ : W.cell? ⟨cb, i + 1, none⟩ = some (.slice (some ⟨q1, 0, none⟩) (y.length + 1) (y.length + 1)) ∧ q1 < W.heap.size))
              have HZmHn := Lib.hid (fun W (hW : Ext wr W) => (⟨(hW.facts.1 _ _ lmw).trans mHn, Nat.lt_of_lt_of_le hr2.lt hW.le⟩ : W.cell? ⟨mb, i + 1, none⟩ = some (.slice (some ⟨p1, 0, none⟩) (y.length + 1) (y.length + 1)) ∧ p1 < W.heap.size))
              have HZc10 := Lib.hid (fun W (hW : Ext wr W) => ((rowIs_ext hr1 hW).cell (i := y.length) (by omega) : W.cell? ⟨q1, y.length, none⟩ = some (.int .i64 ((c (i + 1) y.length : Nat) : Int))))
              have HZm10 := Lib.hid (fun W (hW : Ext wr W) => ((rowIs_ext hr2 hW).cell (i := y.length) (by omega) : W.cell? ⟨p1, y.length, none⟩ = some (.int .i64 ((m (i + 1) y.length : Nat) : Int))))
              clear d0 d1 cx cHi mHi cHn mHn cqk fqk cpk fpk
              go_loopw [12, 13, 14] (fun best n way wz => Ext wr wz ∧ ((way = .int .i64 0 ∧ best = .int .i64 (-1) ∧ n = .int .i64 0) ∨ (way = .int .i64 1 ∧ best = .int .i64 (-1) ∧ n = .int .i64 0) ∨ (way = .int .i64 2 ∧ best = .int .i64 ((c i y.length : Nat) : Int) ∧ n = .int .i64 ((m i y.length : Nat) : Int)) ∨ (way = .int .i64 3 ∧ best = .int .i64 ((c i y.length : Nat) : Int) ∧ n = .int .i64 ((m i y.length : Nat) : Int)))) (fun _ _ way _ => (3 - intOf way).toNat)
              case atStart => exact ⟨Ext.refl _, .inl ⟨rfl, rfl, rfl⟩⟩
              case round =>
                obtain ⟨hz, (⟨rfl, rfl, rfl⟩ | ⟨rfl, rfl, rfl⟩ | ⟨rfl, rfl, rfl⟩ | ⟨rfl, rfl, rfl⟩)⟩ := hrel
                · obtain ⟨d0, d1, l0⟩ := HZd.out _ hz
                  obtain ⟨cx, lx⟩ := HZcx.out _ hz
                  go_wp2_with fail
                  exact ⟨⟨hz, (.inr (.inl ⟨rfl, rfl, rfl⟩))⟩, by simp [intOf]⟩
                · obtain ⟨d0, d1, l0⟩ := HZd.out _ hz
                  obtain ⟨cx, lx⟩ := HZcx.out _ hz
                  obtain ⟨cHn, lq1⟩ := HZcHn.out _ hz
                  have c10 := HZc10.out _ hz
                  go_wp2_with fail
                  (refine wp_region_ext (by kernel_rfl) (by kernel_rfl) ?_; intro ι hι g hg; have q_d0 := hg.cell d0; have q_d1 := hg.cell d1; have q_cHn := hg.cell cHn; have q_c10 := hg.cell c10; clear d0 d1 cHn c10; (repeat (go_big_quiet_step ((go_at_call 54; exact hg.call (HO1.out _ ((hxq.trans hz).box.trans (hg.ext _))))))); refine wpQuiet_nil ?_; rintro w5 ⟨i2, rfl⟩; have hq5 := hg.ext i2; generalize g i2 = w5 at hq5 ⊢; clear q_d0 q_d1 q_cHn q_c10 i2 hg g hι ι)
                  have hz5 := hz.trans hq5
                  obtain ⟨mHn, lp1⟩ := HZmHn.out _ hz5
                  have m10 := HZm10.out _ hz5
                  go_wp2_with fail
                  have s1 := HSC.out
                  have s2 := HSM.out
                  exact ⟨⟨hz5, (.inr (.inr (.inl ⟨rfl, (by congr 1; omega), (by congr 1; omega)⟩)))⟩, by simp [intOf]⟩
                · obtain ⟨d0, d1, l0⟩ := HZd.out _ hz
                  go_wp2_with fail
                  exact ⟨⟨hz, (.inr (.inr (.inr ⟨rfl, rfl, rfl⟩)))⟩, by simp [intOf]⟩
                · obtain ⟨cHi, lcb⟩ := HZcHi.out _ hz
                  obtain ⟨mHi, lmb⟩ := HZmHi.out _ hz
                  have hFc5 := rowIs_ext hFc hz
                  have hFm5 := rowIs_ext hFm hz
                  have lqz := hFc5.lt
                  have lpz := hFm5.lt
                  have cqk := hFc5.cell (i := y.length) (by omega)
                  have fqk := hFc5.frozen y.length
                  have cpk := hFm5.cell (i := y.length) (by omega)
                  have fpk := hFm5.frozen y.length
                  have hqp1 : q ≠ p := by omega
                  have hqp2 : p ≠ q := by omega
                  have lgq : (w.alloc (.cells #[.slice fp A.feats.length fc, .slice lp A.lets.length lc] 25)).heap.size ≤ q := Nat.le_trans HGC.out (show cb ≤ q by omega)
                  have lgp : (w.alloc (.cells #[.slice fp A.feats.length fc, .slice lp A.lets.length lc] 25)).heap.size ≤ p := Nat.le_trans HGC.out (show cb ≤ p by omega)
                  go_wp2_with fail
                  refine ⟨⟨y.length, _, _, by omega, rfl, ((hxq.trans hz).setCell lgq _).setCell lgp _, ((hTw.ext hz).set (.inl rfl) _).set (.inr rfl) _, (hFc5.set y.length _).setOther (a := ⟨p, y.length, none⟩) hqp1 _, (hFm5.setOther (a := ⟨q, y.length, none⟩) hqp2 _).set y.length _, ?_⟩, by simp [intOf]⟩
                  intro k2
                  refine ⟨fun h1 h2 => ?_, fun h => by rw [if_neg (by omega)]; exact (HF.out k2).2 (by omega)⟩
                  by_cases e : k2 = y.length
                  · subst e
                    exact ⟨if_pos rfl, if_pos rfl⟩
                  · exact ⟨(if_neg e).trans ((HF.out k2).1 (by omega) h2).1, (if_neg e).trans ((HF.out k2).1 (by omega) h2).2⟩
            · have hk' : k < y.length := by omega
              have gk : ((k : Int) == (y.length : Int)) = false := by rw [beq_eq_false_iff_ne]; omega
              have hsc : c i k = min (farC A (rn x i) (rn y k) + c (i + 1) (k + 1)) (min (5 + c (i + 1) k) (5 + c i (k + 1))) := by rw [← HC.out]; exact tc_both _ hi' hk'
              have hsm : m i k = min (((if farC A (rn x i) (rn y k) + c (i + 1) (k + 1) = c i k then m (i + 1) (k + 1) else 0) + (if 5 + c (i + 1) k = c i k then m (i + 1) k else 0)) + (if 5 + c i (k + 1) = c i k then m i (k + 1) else 0)) 1048577 := by rw [← HC.out, ← HM.out]; exact tm_both _ hi' hk'
              obtain ⟨bx, ox, ex, hbx, cx⟩ := (hX.mono hxq.box).cells hi'
              obtain ⟨by_, oy, ey, hby, cy⟩ := (hY.mono hxq.box).cells hk'
              have gs := HX0.out i hi'
              have gt := HY0.out k hk'
              have gsb : (rn x i == 0) = false := by rw [beq_eq_false_iff_ne]; exact gs
              have gtb : (rn y k == 0) = false := by rw [beq_eq_false_iff_ne]; exact gt
              have ba := farC_le A (rn x i) (rn y k)
              have ho0 := HOF.out (rn x i) (rn y k) (hX.wf i hi') (hY.wf k hk')
              have ho1 := HOF.out (rn x i) 0 (hX.wf i hi') (by decide)
              have ho2 := HOF.out 0 (rn y k) (by decide) (hY.wf k hk')
              rw [farC_gap gs (.inr rfl)] at ho1
              rw [farC_gap (fun h => gt h.symm) (.inl rfl)] at ho2
              obtain ⟨fa, hfa⟩ : ∃ fa, farC A (rn x i) (rn y k) = fa := ⟨_, rfl⟩
              rw [hfa] at ho0 ba hsc hsm
              clear hfa
              have HO0 := Lib.hid ho0
              have HO1 := Lib.hid ho1
              have HO2 := Lib.hid ho2
              have HSC := Lib.hid hsc
              have HSM := Lib.hid hsm
              have bc11 := HCL.out (i + 1) (k + 1)
              have bc10 := HCL.out (i + 1) k
              have bc01 := HCL.out i (k + 1)
              have bm11 := HML.out (i + 1) (k + 1)
              have bm10 := HML.out (i + 1) k
              have bm01 := HML.out i (k + 1)
              clear ho0 ho1 ho2 hsc hsm gs gt e1 e2
              subst ex
              subst ey
              have d0 := hxq.cell0 0
              have d1 := hxq.cell0 1
              go_wp2_with fail
              have HZd := Lib.hid (fun W (hW : Ext wr W) => (⟨(hxq.trans hW).cell0 0, (hxq.trans hW).cell0 1, (hxq.trans hW).lt0⟩ : W.cell? ⟨w.heap.size, 0, none⟩ = some (.slice fp A.feats.length fc) ∧ W.cell? ⟨w.heap.size, 1, none⟩ = some (.slice lp A.lets.length lc) ∧ w.heap.size < W.heap.size))
              have HZcx := Lib.hid (fun W (hW : Ext wr W) => (⟨(hW.facts.1 _ _ hbx).trans cx, Nat.lt_of_lt_of_le hbx hW.le⟩ : W.cell? ⟨bx, ox + i, none⟩ = some (.int .i32 (rn x i)) ∧ bx < W.heap.size))
              have HZcy := Lib.hid (fun W (hW : Ext wr W) => (⟨(hW.facts.1 _ _ hby).trans cy, Nat.lt_of_lt_of_le hby hW.le⟩ : W.cell? ⟨by_, oy + k, none⟩ = some (.int .i32 (rn y k)) ∧ by_ < W.heap.size))
              have HZcHi := Lib.hid (fun W (hW : Ext wr W) => (⟨(hW.facts.1 _ _ lcw).trans cHi, Nat.lt_of_lt_of_le lcw hW.le⟩ : W.cell? ⟨cb, i, none⟩ = some (.slice (some ⟨q, 0, none⟩) (y.length + 1) (y.length + 1)) ∧ cb < W.heap.size))
              have HZmHi := Lib.hid (fun W (hW : Ext wr W) => (⟨(hW.facts.1 _ _ lmw).trans mHi, Nat.lt_of_lt_of_le lmw hW.le⟩ : W.cell? ⟨mb, i, none⟩ = some (.slice (some ⟨p, 0, none⟩) (y.length + 1) (y.length + 1)) ∧ mb < W.heap.size))
              have HZcHn := Lib.hid (fun W (hW : Ext wr W) => (⟨(hW.facts.1 _ _ lcw).trans cHn, Nat.lt_of_lt_of_le hr1.lt hW.le⟩ : W.cell? ⟨cb, i + 1, none⟩ = some (.slice (some ⟨q1, 0, none⟩) (y.length + 1) (y.length + 1)) ∧ q1 < W.heap.size))
              have HZmHn := Lib.hid (fun W (hW : Ext wr W) => (⟨(hW.facts.1 _ _ lmw).trans mHn, Nat.lt_of_lt_of_le hr2.lt hW.le⟩ : W.cell? ⟨mb, i + 1, none⟩ = some (.slice (some ⟨p1, 0, none⟩) (y.length + 1) (y.length + 1)) ∧ p1 < W.heap.size))
              have HZc11 := Lib.hid (fun W (hW : Ext wr W) => ((rowIs_ext hr1 hW).cell (i := k + 1) (by omega) : W.cell? ⟨q1, k + 1, none⟩ = some (.int .i64 ((c (i + 1) (k + 1) : Nat) : Int))))
              have HZm11 := Lib.hid (fun W (hW : Ext wr W) => ((rowIs_ext hr2 hW).cell (i := k + 1) (by omega) : W.cell? ⟨p1, k + 1, none⟩ = some (.int .i64 ((m (i + 1) (k + 1) : Nat) : Int))))
              have HZc10 := Lib.hid (fun W (hW : Ext wr W) => ((rowIs_ext hr1 hW).cell (i := k) (by omega) : W.cell? ⟨q1, k, none⟩ = some (.int .i64 ((c (i + 1) k : Nat) : Int))))
              have HZm10 := Lib.hid (fun W (hW : Ext wr W) => ((rowIs_ext hr2 hW).cell (i := k) (by omega) : W.cell? ⟨p1, k, none⟩ = some (.int .i64 ((m (i + 1) k : Nat) : Int))))
              have HZc01 := Lib.hid (fun W (hW : Ext wr W) => (⟨((rowIs_ext hFc hW).cell (i := k + 1) (by omega)).trans (by rw [((HF.out (k + 1)).1 (by omega) (by omega)).1]), Nat.lt_of_lt_of_le hFc.lt hW.le⟩ : W.cell? ⟨q, k + 1, none⟩ = some (.int .i64 ((c i (k + 1) : Nat) : Int)) ∧ q < W.heap.size))
              have HZm01 := Lib.hid (fun W (hW : Ext wr W) => (⟨((rowIs_ext hFm hW).cell (i := k + 1) (by omega)).trans (by rw [((HF.out (k + 1)).1 (by omega) (by omega)).2]), Nat.lt_of_lt_of_le hFm.lt hW.le⟩ : W.cell? ⟨p, k + 1, none⟩ = some (.int .i64 ((m i (k + 1) : Nat) : Int)) ∧ p < W.heap.size))
              obtain ⟨B1, hB1⟩ : ∃ B, fa + c (i + 1) (k + 1) = B := ⟨_, rfl⟩
              obtain ⟨B2, hB2⟩ : ∃ B, min B1 (5 + c (i + 1) k) = B := ⟨_, rfl⟩
              obtain ⟨N2, hN2⟩ : ∃ N, (if 5 + c (i + 1) k < B1 then m (i + 1) k else if 5 + c (i + 1) k = B1 then min (m (i + 1) (k + 1) + m (i + 1) k) 1048577 else m (i + 1) (k + 1)) = N := ⟨_, rfl⟩
              have hb1 : B1 ≤ 700 := by omega
              have hb2 : B2 ≤ 700 := by omega
              have hn2 : N2 ≤ 1048577 := by
                rw [← hN2]; repeat' split
                all_goals omega
              have hcf : c i k = min B2 (5 + c i (k + 1)) := by have := HSC.out; omega
              have hmf : m i k = (if 5 + c i (k + 1) < B2 then m i (k + 1) else if 5 + c i (k + 1) = B2 then min (N2 + m i (k + 1)) 1048577 else N2) := by
                have h1 := HSC.out
                have h2 := HSM.out
                rw [hB1] at h2
                rw [← hN2]
                repeat' split at h2
                all_goals (repeat' split)
                all_goals omega
              have HN1 := Lib.hid hB1
              have HN2a := Lib.hid (fun (h : 5 + c (i + 1) k < B1) => (show B2 = 5 + c (i + 1) k ∧ N2 = m (i + 1) k by rw [← hN2, if_pos h]; exact ⟨by omega, rfl⟩))
              have HN2b := Lib.hid (fun (h : 5 + c (i + 1) k = B1) => (show B2 = B1 ∧ N2 = min (m (i + 1) (k + 1) + m (i + 1) k) 1048577 by rw [← hN2, if_neg (by omega), if_pos h]; exact ⟨by omega, rfl⟩))
              have HN2c := Lib.hid (fun (h : B1 < 5 + c (i + 1) k) => (show B2 = B1 ∧ N2 = m (i + 1) (k + 1) by rw [← hN2, if_neg (by omega), if_neg (by omega)]; exact ⟨by omega, rfl⟩))
              have HN3a := Lib.hid (fun (h : 5 + c i (k + 1) < B2) => (show c i k = 5 + c i (k + 1) ∧ m i k = m i (k + 1) by rw [hmf, if_pos h]; exact ⟨by omega, rfl⟩))
              have HN3b := Lib.hid (fun (h : 5 + c i (k + 1) = B2) => (show c i k = B2 ∧ m i k = min (N2 + m i (k + 1)) 1048577 by rw [hmf, if_neg (by omega), if_pos h]; exact ⟨by omega, rfl⟩))
              have HN3c := Lib.hid (fun (h : B2 < 5 + c i (k + 1)) => (show c i k = B2 ∧ m i k = N2 by rw [hmf, if_neg (by omega), if_neg (by omega)]; exact ⟨by omega, rfl⟩))
              clear hB1 hB2 hN2 hcf hmf
              clear d0 d1 cx cy cHi mHi cHn mHn cqk fqk cpk fpk
              go_loopw [12, 13, 14] (fun best n way wz => Ext wr wz ∧ ((way = .int .i64 0 ∧ best = .int .i64 (-1) ∧ n = .int .i64 0) ∨ (way = .int .i64 1 ∧ best = .int .i64 ((B1 : Nat) : Int) ∧ n = .int .i64 ((m (i + 1) (k + 1) : Nat) : Int)) ∨ (way = .int .i64 2 ∧ best = .int .i64 ((B2 : Nat) : Int) ∧ n = .int .i64 ((N2 : Nat) : Int)) ∨ (way = .int .i64 3 ∧ best = .int .i64 ((c i k : Nat) : Int) ∧ n = .int .i64 ((m i k : Nat) : Int)))) (fun _ _ way _ => (3 - intOf way).toNat)
              case atStart => exact ⟨Ext.refl _, .inl ⟨rfl, rfl, rfl⟩⟩
              case round =>
                obtain ⟨hz, (⟨rfl, rfl, rfl⟩ | ⟨rfl, rfl, rfl⟩ | ⟨rfl, rfl, rfl⟩ | ⟨rfl, rfl, rfl⟩)⟩ := hrel
                · obtain ⟨d0, d1, l0⟩ := HZd.out _ hz
                  obtain ⟨cx, lx⟩ := HZcx.out _ hz
                  obtain ⟨cy, ly⟩ := HZcy.out _ hz
                  obtain ⟨cHn, lq1⟩ := HZcHn.out _ hz
                  have c11 := HZc11.out _ hz
                  go_wp2_with fail
                  (refine wp_region_ext (by kernel_rfl) (by kernel_rfl) ?_; intro ι hι g hg; have q_d0 := hg.cell d0; have q_d1 := hg.cell d1; have q_cHn := hg.cell cHn; have q_c11 := hg.cell c11; clear d0 d1 cHn c11; (repeat (go_big_quiet_step ((go_at_call 54; exact hg.call (HO0.out _ ((hxq.trans hz).box.trans (hg.ext _))))))); refine wpQuiet_nil ?_; rintro w5 ⟨i2, rfl⟩; have hq5 := hg.ext i2; generalize g i2 = w5 at hq5 ⊢; clear q_d0 q_d1 q_cHn q_c11 i2 hg g hι ι)
                  have hz5 := hz.trans hq5
                  obtain ⟨mHn, lp1⟩ := HZmHn.out _ hz5
                  have m11 := HZm11.out _ hz5
                  go_wp2_with fail
                  have s1 := HN1.out
                  exact ⟨⟨hz5, (.inr (.inl ⟨rfl, (by congr 1; omega), (by congr 1; omega)⟩))⟩, by simp [intOf]⟩
                · by_cases gl : (5 : Int) + (c (i + 1) k : Nat) < (B1 : Nat)
                  · have HH := Lib.hid (HN2a.out (by omega))
                    obtain ⟨d0, d1, l0⟩ := HZd.out _ hz
                    obtain ⟨cx, lx⟩ := HZcx.out _ hz
                    obtain ⟨cHn, lq1⟩ := HZcHn.out _ hz
                    have c10 := HZc10.out _ hz
                    go_wp2_with fail
                    (refine wp_region_ext (by kernel_rfl) (by kernel_rfl) ?_; intro ι hι g hg; have q_d0 := hg.cell d0; have q_d1 := hg.cell d1; have q_cHn := hg.cell cHn; have q_c10 := hg.cell c10; clear d0 d1 cHn c10; (repeat (go_big_quiet_step ((go_at_call 54; exact hg.call (HO1.out _ ((hxq.trans hz).box.trans (hg.ext _))))))); refine wpQuiet_nil ?_; rintro w5 ⟨i2, rfl⟩; have hq5 := hg.ext i2; generalize g i2 = w5 at hq5 ⊢; clear q_d0 q_d1 q_cHn q_c10 i2 hg g hι ι)
                    have hz5 := hz.trans hq5
                    obtain ⟨mHn, lp1⟩ := HZmHn.out _ hz5
                    have m10 := HZm10.out _ hz5
                    go_wp2_with fail
                    obtain ⟨s1, s2⟩ := HH.out
                    exact ⟨⟨hz5, (.inr (.inr (.inl ⟨rfl, (by congr 1; omega), (by congr 1; omega)⟩)))⟩, by simp [intOf]⟩
                  · cases ge : ((5 : Int) + (c (i + 1) k : Nat) == ((B1 : Nat) : Int))
                    · have HH := Lib.hid (HN2c.out (by rw [beq_eq_false_iff_ne] at ge; omega))
                      obtain ⟨d0, d1, l0⟩ := HZd.out _ hz
                      obtain ⟨cx, lx⟩ := HZcx.out _ hz
                      obtain ⟨cHn, lq1⟩ := HZcHn.out _ hz
                      have c10 := HZc10.out _ hz
                      go_wp2_with fail
                      (refine wp_region_ext (by kernel_rfl) (by kernel_rfl) ?_; intro ι hι g hg; have q_d0 := hg.cell d0; have q_d1 := hg.cell d1; have q_cHn := hg.cell cHn; have q_c10 := hg.cell c10; clear d0 d1 cHn c10; (repeat (go_big_quiet_step ((go_at_call 54; exact hg.call (HO1.out _ ((hxq.trans hz).box.trans (hg.ext _))))))); refine wpQuiet_nil ?_; rintro w5 ⟨i2, rfl⟩; have hq5 := hg.ext i2; generalize g i2 = w5 at hq5 ⊢; clear q_d0 q_d1 q_cHn q_c10 i2 hg g hι ι)
                      have hz5 := hz.trans hq5
                      go_wp2_with fail
                      obtain ⟨s1, s2⟩ := HH.out
                      exact ⟨⟨hz5, (.inr (.inr (.inl ⟨rfl, (by congr 1; omega), (by congr 1; omega)⟩)))⟩, by simp [intOf]⟩
                    · have HH := Lib.hid (HN2b.out (by rw [beq_iff_eq] at ge; omega))
                      obtain ⟨d0, d1, l0⟩ := HZd.out _ hz
                      obtain ⟨cx, lx⟩ := HZcx.out _ hz
                      obtain ⟨cHn, lq1⟩ := HZcHn.out _ hz
                      have c10 := HZc10.out _ hz
                      go_wp2_with fail
                      (refine wp_region_ext (by kernel_rfl) (by kernel_rfl) ?_; intro ι hι g hg; have q_d0 := hg.cell d0; have q_d1 := hg.cell d1; have q_cHn := hg.cell cHn; have q_c10 := hg.cell c10; clear d0 d1 cHn c10; (repeat (go_big_quiet_step ((go_at_call 54; exact hg.call (HO1.out _ ((hxq.trans hz).box.trans (hg.ext _))))))); refine wpQuiet_nil ?_; rintro w5 ⟨i2, rfl⟩; have hq5 := hg.ext i2; generalize g i2 = w5 at hq5 ⊢; clear q_d0 q_d1 q_cHn q_c10 i2 hg g hι ι)
                      have hz5 := hz.trans hq5
                      obtain ⟨mHn, lp1⟩ := HZmHn.out _ hz5
                      have m10 := HZm10.out _ hz5
                      go_wp2_with fail
                      obtain ⟨s1, s2⟩ := HH.out
                      exact ⟨⟨hz5, (.inr (.inr (.inl ⟨rfl, (by congr 1; omega), (by congr 1; omega)⟩)))⟩, by simp [intOf]⟩
                · by_cases gl : (5 : Int) + (c i (k + 1) : Nat) < (B2 : Nat)
                  · have HH := Lib.hid (HN3a.out (by omega))
                    obtain ⟨d0, d1, l0⟩ := HZd.out _ hz
                    obtain ⟨cy, ly⟩ := HZcy.out _ hz
                    obtain ⟨cHi, lcb⟩ := HZcHi.out _ hz
                    obtain ⟨c01, lqz⟩ := HZc01.out _ hz
                    go_wp2_with fail
                    (refine wp_region_ext (by kernel_rfl) (by kernel_rfl) ?_; intro ι hι g hg; have q_d0 := hg.cell d0; have q_d1 := hg.cell d1; have q_cHi := hg.cell cHi; have q_c01 := hg.cell c01; clear d0 d1 cHi c01; (repeat (go_big_quiet_step ((go_at_call 54; exact hg.call (HO2.out _ ((hxq.trans hz).box.trans (hg.ext _))))))); refine wpQuiet_nil ?_; rintro w5 ⟨i2, rfl⟩; have hq5 := hg.ext i2; generalize g i2 = w5 at hq5 ⊢; clear q_d0 q_d1 q_cHi q_c01 i2 hg g hι ι)
                    have hz5 := hz.trans hq5
                    obtain ⟨mHi, lmb⟩ := HZmHi.out _ hz5
                    obtain ⟨m01, lpz⟩ := HZm01.out _ hz5
                    go_wp2_with fail
                    obtain ⟨s1, s2⟩ := HH.out
                    exact ⟨⟨hz5, (.inr (.inr (.inr ⟨rfl, (by congr 1; omega), (by congr 1; omega)⟩)))⟩, by simp [intOf]⟩
                  · cases ge : ((5 : Int) + (c i (k + 1) : Nat) == ((B2 : Nat) : Int))
                    · have HH := Lib.hid (HN3c.out (by rw [beq_eq_false_iff_ne] at ge; omega))
                      obtain ⟨d0, d1, l0⟩ := HZd.out _ hz
                      obtain ⟨cy, ly⟩ := HZcy.out _ hz
                      obtain ⟨cHi, lcb⟩ := HZcHi.out _ hz
                      obtain ⟨c01, lqz⟩ := HZc01.out _ hz
                      go_wp2_with fail
                      (refine wp_region_ext (by kernel_rfl) (by kernel_rfl) ?_; intro ι hι g hg; have q_d0 := hg.cell d0; have q_d1 := hg.cell d1; have q_cHi := hg.cell cHi; have q_c01 := hg.cell c01; clear d0 d1 cHi c01; (repeat (go_big_quiet_step ((go_at_call 54; exact hg.call (HO2.out _ ((hxq.trans hz).box.trans (hg.ext _))))))); refine wpQuiet_nil ?_; rintro w5 ⟨i2, rfl⟩; have hq5 := hg.ext i2; generalize g i2 = w5 at hq5 ⊢; clear q_d0 q_d1 q_cHi q_c01 i2 hg g hι ι)
                      have hz5 := hz.trans hq5
                      go_wp2_with fail
                      obtain ⟨s1, s2⟩ := HH.out
                      exact ⟨⟨hz5, (.inr (.inr (.inr ⟨rfl, (by congr 1; omega), (by congr 1; omega)⟩)))⟩, by simp [intOf]⟩
                    · have HH := Lib.hid (HN3b.out (by rw [beq_iff_eq] at ge; omega))
                      obtain ⟨d0, d1, l0⟩ := HZd.out _ hz
                      obtain ⟨cy, ly⟩ := HZcy.out _ hz
                      obtain ⟨cHi, lcb⟩ := HZcHi.out _ hz
                      obtain ⟨c01, lqz⟩ := HZc01.out _ hz
                      go_wp2_with fail
                      (refine wp_region_ext (by kernel_rfl) (by kernel_rfl) ?_; intro ι hι g hg; have q_d0 := hg.cell d0; have q_d1 := hg.cell d1; have q_cHi := hg.cell cHi; have q_c01 := hg.cell c01; clear d0 d1 cHi c01; (repeat (go_big_quiet_step ((go_at_call 54; exact hg.call (HO2.out _ ((hxq.trans hz).box.trans (hg.ext _))))))); refine wpQuiet_nil ?_; rintro w5 ⟨i2, rfl⟩; have hq5 := hg.ext i2; generalize g i2 = w5 at hq5 ⊢; clear q_d0 q_d1 q_cHi q_c01 i2 hg g hι ι)
                      have hz5 := hz.trans hq5
                      obtain ⟨mHi, lmb⟩ := HZmHi.out _ hz5
                      obtain ⟨m01, lpz⟩ := HZm01.out _ hz5
                      go_wp2_with fail
                      obtain ⟨s1, s2⟩ := HH.out
                      exact ⟨⟨hz5, (.inr (.inr (.inr ⟨rfl, (by congr 1; omega), (by congr 1; omega)⟩)))⟩, by simp [intOf]⟩
                · obtain ⟨cHi, lcb⟩ := HZcHi.out _ hz
                  obtain ⟨mHi, lmb⟩ := HZmHi.out _ hz
                  have hFc5 := rowIs_ext hFc hz
                  have hFm5 := rowIs_ext hFm hz
                  have lqz := hFc5.lt
                  have lpz := hFm5.lt
                  have cqk := hFc5.cell (i := k) (by omega)
                  have fqk := hFc5.frozen k
                  have cpk := hFm5.cell (i := k) (by omega)
                  have fpk := hFm5.frozen k
                  have hqp1 : q ≠ p := by omega
                  have hqp2 : p ≠ q := by omega
                  have lgq : (w.alloc (.cells #[.slice fp A.feats.length fc, .slice lp A.lets.length lc] 25)).heap.size ≤ q := Nat.le_trans HGC.out (show cb ≤ q by omega)
                  have lgp : (w.alloc (.cells #[.slice fp A.feats.length fc, .slice lp A.lets.length lc] 25)).heap.size ≤ p := Nat.le_trans HGC.out (show cb ≤ p by omega)
                  go_wp2_with fail
                  refine ⟨⟨k, _, _, by omega, rfl, ((hxq.trans hz).setCell lgq _).setCell lgp _, ((hTw.ext hz).set (.inl rfl) _).set (.inr rfl) _, (hFc5.set k _).setOther (a := ⟨p, k, none⟩) hqp1 _, (hFm5.setOther (a := ⟨q, k, none⟩) hqp2 _).set k _, ?_⟩, by simp [intOf]⟩
                  intro k2
                  refine ⟨fun h1 h2 => ?_, fun h => by rw [if_neg (by omega)]; exact (HF.out k2).2 (by omega)⟩
                  by_cases e : k2 = k
                  · subst e
                    exact ⟨if_pos rfl, if_pos rfl⟩
                  · exact ⟨(if_neg e).trans ((HF.out k2).1 (by omega) h2).1, (if_neg e).trans ((HF.out k2).1 (by omega) h2).2⟩

end Go.Proofs.YtobajknhnjceiaaDoor
