/- The law FeatureTexts holds (its walk). -/
import Derived.Test.YtppbjeipfopehaaDoorFeln
import Derived.Test.YtppbjeipfopehaaDoorFelo
import Derived.Test.YtppbjeipfopehaaDoorFelw
namespace Go.Cg
open Go.RowKit
theorem wpList_append_none {P : Program} (w : World) {ops : Array Oper} {rest : List Oper} {o : Oper} {a : Act} {Q : Exit → Act → World → Prop}
    (hg : o.guard = none) (s x : Operand) (t : TypeId) (hop : o.op = Op.call { callee := Callee.builtin Builtin.append, args := #[s, x], argTypes := #[t, t] })
    (e : TypeId) (i : TypeInfo) (h1 : P.underlying t = some (.slice e)) (h2 : P.info? e = some i)
    (hs : a.eval s = .slice none 0 0) (sp : Option Addr) (c : Nat) (hx : a.eval x = .slice sp 0 c)
    (hK : wpList P ops Q rest (a.put o.dst (.slice none 0 0)) w) : wpList P ops Q (o :: rest) a w := by
  refine wpList_plain hg fun K hK' => ?_
  have hrun : (Builtin.append_ #[t, t] o.type #[.slice none 0 0, .slice sp 0 c]).run P w = .ok (.slice none 0 0) w := by
    cases sp with
    | none => simp [Builtin.append_, run_underlying h1, sizeOf, typeInfo, h2, Builtin.lenOf, Builtin.firstCells]
    | some b => simp [Builtin.append_, run_underlying h1, sizeOf, typeInfo, h2, Builtin.lenOf, Builtin.firstCells, loadCells, loadCellsFrom]
  unfold Oper.wp
  simp [execOp, hop, resolve, invoke, builtin, hs, hx, hrun, Result.andThen]
  exact hK' _ _ hK
/-- a row of runes, appended to none: a row of the call's own -/
theorem wpList_copy_runes {P : Program} (w : World) {ops : Array Oper} {rest : List Oper} {o : Oper} {a : Act} {Q : Exit → Act → World → Prop}
    (hg : o.guard = none) (s x : Operand) (t : TypeId) (hop : o.op = Op.call { callee := Callee.builtin Builtin.append, args := #[s, x], argTypes := #[t, t] })
    (e : TypeId) (i : TypeInfo) (h1 : P.underlying t = some (.slice e)) (h2 : P.info? e = some i) (h3 : i.zero = some (.int .i32 0)) (h4 : i.size = 1) (h5 : i.bytes = 4)
    (l : List Int) (sp : Option Addr) (c : Nat) (hR : RunesAt w sp l) (hs : a.eval s = .slice none 0 0) (hx : a.eval x = .slice sp l.length c) (hb : l.length ≤ 35184372088832)
    (hK : ∀ p' c' w', RunesAt w' p' l → Ext w w' → wpList P ops Q rest (a.put o.dst (.slice p' l.length c')) w') : wpList P ops Q (o :: rest) a w := by
  rcases Nat.eq_zero_or_pos l.length with h0 | h0
  · rw [h0] at hx
    obtain rfl := List.eq_nil_of_length_eq_zero h0
    exact wpList_append_none w hg s x t hop e i h1 h2 hs sp c hx (hK none 0 w ⟨.inl rfl, by simp, fun i hi => absurd hi (by simp)⟩ (Ext.refl w))
  · obtain ⟨b, off, rfl, hbw⟩ := hR.some_ h0
    refine wpList_append_own w hg s x t hop w.heap.size e i (.int .i32 0) 1 4 h1 h2 h3 h4 h5 rfl (by decide) (.slice none 0 0) 0 [] hs (World.ownsRow_nil _ _ _ _) ⟨b, off, none⟩ l.length c (l.map (Value.int .i32)) hx (by simp) (fun j u hj => ?_) (fun u hu => ?_) (by unfold maxLen; omega) (by omega) (Nat.le_refl _) ?_
    · have hjl : j < l.length := by have := (List.getElem?_eq_some_iff.1 hj).1; simpa using this
      rw [List.getElem?_map, List.getElem?_eq_getElem hjl] at hj
      obtain rfl := Option.some.inj hj
      have := (hR.cell hjl).2
      rw [rn_eq hjl] at this
      rw [show (⟨b, off, none⟩ : Addr).add j = ⟨b, off + j, none⟩ by simp [Addr.add]]
      exact this
    · obtain ⟨j, _, rfl⟩ := List.mem_map.1 hu; rfl
    · intro v' w' hown hgrow _
      simp only [Nat.zero_add, List.nil_append] at hown
      obtain ⟨p', c', rfl⟩ := ownsRow_slice hown
      have ho : OwnRunes e w.heap.size w' p' c' l := ⟨hown, hR.big, hR.wf⟩
      exact hK p' c' w' ho.at_ ((Ext.refl w).grown hgrow (by intro k h; cases h))
end Go.Cg
namespace Go.Proofs.YtppbjeipfopehaaDoor
open Go.RowKit Go.Cg Go.Shelf Go.Maps

set_option maxRecDepth 100000 in
set_option maxHeartbeats 8000000 in
theorem featureTexts_any (fp lp : Option Addr) (fc lc : Nat) (A : Alpha) (h12 : A.lets.length * 12 ≤ 140737488351232) (rp : Option Addr) (rc : Nat) (l : List Int) (s : ByteArray) (hs0 : s.size ≤ 140737488351232) (p : Nat) (hp : p < 4294967296) (m : Nat) (hm : m < 4294967296) (w : World) (hA : AlphaAt w fp lp A) (hR : RunesAt w rp l) :
    Calls Tryd.prog 9 #[.agg #[.slice fp A.feats.length fc, .slice lp A.lets.length lc], .slice rp l.length rc, .string s, .int .u32 p, .int .u32 m] w fun e w' => e = .returned (.bool true) ∧ Ext w w' := by
  have hx0 : Ext w (w.alloc (.cells #[.slice fp A.feats.length fc, .slice lp A.lets.length lc] 26)) := (Ext.refl _).alloc _
  have hb0 : Ext (w.alloc (.cells #[.slice fp A.feats.length fc, .slice lp A.lets.length lc] 26)) (w.alloc (.cells #[.slice fp A.feats.length fc, .slice lp A.lets.length lc] 26)) := Ext.refl _
  have hrb := hR.big
  obtain ⟨i0, hi, hz0, hz1, hz2⟩ := info_parts infoRn
  by_cases hl3 : 300 < l.length
  · have g1 : decide (300 < (l.length : Int)) = true := by simp; omega
    go_enter Tryd.func9, Tryd.ntmps9
    go_wp2_with fail
    refine (alive_any _).mono ?_
    rintro e w1 ⟨rfl, hx1⟩
    have hb1 := hb0.trans hx1
    have hk1 := hx0.trans hx1
    go_wp2_with fail
    go_ret
    exact ⟨rfl, hk1⟩
  · have g1 : decide (300 < (l.length : Int)) = false := by simp; omega
    by_cases h5 : 5000 < s.size
    · have g2 : decide (5000 < (s.size : Int)) = true := by simp; omega
      by_cases h6 : s.size ≤ 65536
      · have g3 : decide ((s.size : Int) ≤ 65536) = true := by simp; omega
        go_enter Tryd.func9, Tryd.ntmps9
        go_wp2_with fail
        refine (alive_any _).mono ?_
        rintro e w1 ⟨rfl, hx1⟩
        have hb1 := hb0.trans hx1
        have hk1 := hx0.trans hx1
        go_wp2_with fail
        go_ret
        exact ⟨rfl, hk1⟩
      · have g3 : decide ((s.size : Int) ≤ 65536) = false := by simp; omega
        by_cases h2 : 200000 < s.size
        · have g4 : decide (200000 < (s.size : Int)) = true := by simp; omega
          go_enter Tryd.func9, Tryd.ntmps9
          go_wp2_with fail
          refine (alive_any _).mono ?_
          rintro e w1 ⟨rfl, hx1⟩
          have hb1 := hb0.trans hx1
          have hk1 := hx0.trans hx1
          go_wp2_with fail
          go_ret
          exact ⟨rfl, hk1⟩
        · have g4 : decide (200000 < (s.size : Int)) = false := by simp; omega
          go_enter Tryd.func9, Tryd.ntmps9
          go_wp2_with fail
          refine (alive_any _).mono ?_
          rintro e w1 ⟨rfl, hx1⟩
          have hb1 := hb0.trans hx1
          have hk1 := hx0.trans hx1
          have d0 := hb1.cell0 0
          have d1 := hb1.cell0 1
          simp only [List.getElem?_toArray, List.getElem?_cons_zero, List.getElem?_cons_succ] at d0 d1
          have ds := hb1.lt0
          go_wp2_with fail
          clear d0 d1 ds
          refine (twin_any fp lp fc lc A h12 _ (hA.mono hk1)).mono ?_
          rintro e w2 ⟨gp, mp, gc, mc, rfl, hB, hx2⟩
          have hb2 := (hb1.trans hx2).alloc (.cells #[.slice gp A.feats.length gc, .slice mp A.lets.length mc] 26)
          have hk2 := (hk1.trans hx2).alloc (.cells #[.slice gp A.feats.length gc, .slice mp A.lets.length mc] 26)
          have hy2 := Ext.refl (w2.alloc (.cells #[.slice gp A.feats.length gc, .slice mp A.lets.length mc] 26))
          have hz2' : Ext w2 (w2.alloc (.cells #[.slice gp A.feats.length gc, .slice mp A.lets.length mc] 26)) := (Ext.refl _).alloc _
          go_wp2_with (at_builtin; refine wpList_copy_runes _ rfl _ _ 33 rfl 21 i0 Tryd.underlying33 hi hz0 hz1 hz2 l rp rc (hR.mono hk2) rfl rfl hrb ?_; intro np nc w3 hN hx3; have e0 := (hy2.trans hx3).cell0 0; have e1 := (hy2.trans hx3).cell0 1; simp only [List.getElem?_toArray, List.getElem?_cons_zero, List.getElem?_cons_succ] at e0 e1; have es := (hy2.trans hx3).lt0)
          have hb3 := hb2.trans hx3
          have hk3 := hk2.trans hx3
          have hy3 := hy2.trans hx3
          have hz3 := hz2'.trans hx3
          have hn3 := Ext.refl w3
          clear e0 e1 es
          refine (least_any gp mp np gc mc nc A l _ (hB.mono hz3) (hN.mono hn3)).mono ?_
          rintro e w4 ⟨rfl, hx4⟩
          have hb4 := hb3.trans hx4
          have hk4 := hk3.trans hx4
          have hy4 := hy3.trans hx4
          have hz4 := hz3.trans hx4
          have hn4 := hn3.trans hx4
          have d0 := hb4.cell0 0
          have d1 := hb4.cell0 1
          simp only [List.getElem?_toArray, List.getElem?_cons_zero, List.getElem?_cons_succ] at d0 d1
          have ds := hb4.lt0
          have e0 := hy4.cell0 0
          have e1 := hy4.cell0 1
          simp only [List.getElem?_toArray, List.getElem?_cons_zero, List.getElem?_cons_succ] at e0 e1
          have es := hy4.lt0
          go_wp2_with fail
          clear d0 d1 ds e0 e1 es
          refine (text_any gp mp gc mc A p m hp hm _ (hB.mono hz4)).mono ?_
          rintro e w5 ⟨rfl, hx5⟩
          have hb5 := hb4.trans hx5
          have hk5 := hk4.trans hx5
          have hy5 := hy4.trans hx5
          have hz5 := hz4.trans hx5
          have hn5 := hn4.trans hx5
          have d0 := hb5.cell0 0
          have d1 := hb5.cell0 1
          simp only [List.getElem?_toArray, List.getElem?_cons_zero, List.getElem?_cons_succ] at d0 d1
          have ds := hb5.lt0
          have e0 := hy5.cell0 0
          have e1 := hy5.cell0 1
          simp only [List.getElem?_toArray, List.getElem?_cons_zero, List.getElem?_cons_succ] at e0 e1
          have es := hy5.lt0
          go_wp2_with fail
          clear d0 d1 ds e0 e1 es
          refine (parse_any gp mp gc mc A s hs0 _ (hB.mono hz5)).mono ?_
          rintro e w6 ⟨rfl, hx6⟩
          have hb6 := hb5.trans hx6
          have hk6 := hk5.trans hx6
          have hy6 := hy5.trans hx6
          have hz6 := hz5.trans hx6
          have hn6 := hn5.trans hx6
          have d0 := hb6.cell0 0
          have d1 := hb6.cell0 1
          simp only [List.getElem?_toArray, List.getElem?_cons_zero, List.getElem?_cons_succ] at d0 d1
          have ds := hb6.lt0
          have e0 := hy6.cell0 0
          have e1 := hy6.cell0 1
          simp only [List.getElem?_toArray, List.getElem?_cons_zero, List.getElem?_cons_succ] at e0 e1
          have es := hy6.lt0
          go_wp2_with fail
          clear d0 d1 ds e0 e1 es
          refine (bit_any gp mp gc mc A s _ (hB.mono hz6)).mono ?_
          rintro e w7 ⟨rfl, hx7⟩
          have hb7 := hb6.trans hx7
          have hk7 := hk6.trans hx7
          have hy7 := hy6.trans hx7
          have hz7 := hz6.trans hx7
          have hn7 := hn6.trans hx7
          have d0 := hb7.cell0 0
          have d1 := hb7.cell0 1
          simp only [List.getElem?_toArray, List.getElem?_cons_zero, List.getElem?_cons_succ] at d0 d1
          have ds := hb7.lt0
          have e0 := hy7.cell0 0
          have e1 := hy7.cell0 1
          simp only [List.getElem?_toArray, List.getElem?_cons_zero, List.getElem?_cons_succ] at e0 e1
          have es := hy7.lt0
          go_wp2_with fail
          clear d0 d1 ds e0 e1 es
          refine (Least02_any fp lp rp fc lc rc A l _ (hA.mono hk7) (hR.mono hk7)).mono ?_
          rintro e w8 ⟨rfl, hx8⟩
          have hb8 := hb7.trans hx8
          have hk8 := hk7.trans hx8
          have hy8 := hy7.trans hx8
          have hz8 := hz7.trans hx8
          have hn8 := hn7.trans hx8
          have d0 := hb8.cell0 0
          have d1 := hb8.cell0 1
          simp only [List.getElem?_toArray, List.getElem?_cons_zero, List.getElem?_cons_succ] at d0 d1
          have ds := hb8.lt0
          have e0 := hy8.cell0 0
          have e1 := hy8.cell0 1
          simp only [List.getElem?_toArray, List.getElem?_cons_zero, List.getElem?_cons_succ] at e0 e1
          have es := hy8.lt0
          go_wp2_with fail
          clear d0 d1 ds e0 e1 es
          refine (Text02_any fp lp fc lc A p m hp hm _ (hA.mono hk8)).mono ?_
          rintro e w9 ⟨rfl, hx9⟩
          have hb9 := hb8.trans hx9
          have hk9 := hk8.trans hx9
          have hy9 := hy8.trans hx9
          have hz9 := hz8.trans hx9
          have hn9 := hn8.trans hx9
          have d0 := hb9.cell0 0
          have d1 := hb9.cell0 1
          simp only [List.getElem?_toArray, List.getElem?_cons_zero, List.getElem?_cons_succ] at d0 d1
          have ds := hb9.lt0
          have e0 := hy9.cell0 0
          have e1 := hy9.cell0 1
          simp only [List.getElem?_toArray, List.getElem?_cons_zero, List.getElem?_cons_succ] at e0 e1
          have es := hy9.lt0
          go_wp2_with fail
          clear d0 d1 ds e0 e1 es
          refine (Parse02_any fp lp fc lc A s hs0 _ (hA.mono hk9)).mono ?_
          rintro e w10 ⟨rfl, hx10⟩
          have hb10 := hb9.trans hx10
          have hk10 := hk9.trans hx10
          have hy10 := hy9.trans hx10
          have hz10 := hz9.trans hx10
          have hn10 := hn9.trans hx10
          have d0 := hb10.cell0 0
          have d1 := hb10.cell0 1
          simp only [List.getElem?_toArray, List.getElem?_cons_zero, List.getElem?_cons_succ] at d0 d1
          have ds := hb10.lt0
          have e0 := hy10.cell0 0
          have e1 := hy10.cell0 1
          simp only [List.getElem?_toArray, List.getElem?_cons_zero, List.getElem?_cons_succ] at e0 e1
          have es := hy10.lt0
          go_wp2_with fail
          clear d0 d1 ds e0 e1 es
          refine (Bit02_any fp lp fc lc A s _ (hA.mono hk10)).mono ?_
          rintro e w11 ⟨rfl, hx11⟩
          have hb11 := hb10.trans hx11
          have hk11 := hk10.trans hx11
          have hy11 := hy10.trans hx11
          have hz11 := hz10.trans hx11
          have hn11 := hn10.trans hx11
          have d0 := hb11.cell0 0
          have d1 := hb11.cell0 1
          simp only [List.getElem?_toArray, List.getElem?_cons_zero, List.getElem?_cons_succ] at d0 d1
          have ds := hb11.lt0
          have e0 := hy11.cell0 0
          have e1 := hy11.cell0 1
          simp only [List.getElem?_toArray, List.getElem?_cons_zero, List.getElem?_cons_succ] at e0 e1
          have es := hy11.lt0
          have b1 : (((leastP A l : Nat) : Int) == ((leastP A l : Nat) : Int)) = true := by simp
          have b2 : (((leastM A l : Nat) : Int) == ((leastM A l : Nat) : Int)) = true := by simp
          have b3 : ((textS A p m).toList == (textS A p m).toList) = true := by simp
          have b4 : ((((parseR A s).1 : Nat) : Int) == (((parseR A s).1 : Nat) : Int)) = true := by simp
          have b5 : ((((parseR A s).2.1 : Nat) : Int) == (((parseR A s).2.1 : Nat) : Int)) = true := by simp
          have b6 : ((((parseR A s).2.2.1 : Nat) : Int) == (((parseR A s).2.2.1 : Nat) : Int)) = true := by simp
          have b7 : (((bitV A s : Nat) : Int) == ((bitV A s : Nat) : Int)) = true := by simp
          have b8 : (leastE A l == leastE A l) = true := by simp
          have b9 : (classE A p m == classE A p m) = true := by simp
          have b10 : ((parseR A s).2.2.2 == (parseR A s).2.2.2) = true := by simp
          have b11 : (bitE A s == bitE A s) = true := by simp
          go_wp2_with fail
          refine (alike_any fp lp gp mp fc lc gc mc A _ (hA.mono hk11) (hB.mono hz11)).mono ?_
          rintro e w12 ⟨rfl, hx12⟩
          go_wp2_with fail
          refine (Same_any rp np rc nc l _ (hR.mono (hk11.trans hx12)) (hN.mono (hn11.trans hx12))).mono ?_
          rintro e w13 ⟨rfl, hx13⟩
          go_wp2_with fail
          go_ret
          exact ⟨rfl, (hk11.trans hx12).trans hx13⟩
    · have g2 : decide (5000 < (s.size : Int)) = false := by simp; omega
      have g4 : decide (200000 < (s.size : Int)) = false := by simp; omega
      go_enter Tryd.func9, Tryd.ntmps9
      go_wp2_with fail
      refine (alive_any _).mono ?_
      rintro e w1 ⟨rfl, hx1⟩
      have hb1 := hb0.trans hx1
      have hk1 := hx0.trans hx1
      have d0 := hb1.cell0 0
      have d1 := hb1.cell0 1
      simp only [List.getElem?_toArray, List.getElem?_cons_zero, List.getElem?_cons_succ] at d0 d1
      have ds := hb1.lt0
      go_wp2_with fail
      clear d0 d1 ds
      refine (twin_any fp lp fc lc A h12 _ (hA.mono hk1)).mono ?_
      rintro e w2 ⟨gp, mp, gc, mc, rfl, hB, hx2⟩
      have hb2 := (hb1.trans hx2).alloc (.cells #[.slice gp A.feats.length gc, .slice mp A.lets.length mc] 26)
      have hk2 := (hk1.trans hx2).alloc (.cells #[.slice gp A.feats.length gc, .slice mp A.lets.length mc] 26)
      have hy2 := Ext.refl (w2.alloc (.cells #[.slice gp A.feats.length gc, .slice mp A.lets.length mc] 26))
      have hz2' : Ext w2 (w2.alloc (.cells #[.slice gp A.feats.length gc, .slice mp A.lets.length mc] 26)) := (Ext.refl _).alloc _
      go_wp2_with (at_builtin; refine wpList_copy_runes _ rfl _ _ 33 rfl 21 i0 Tryd.underlying33 hi hz0 hz1 hz2 l rp rc (hR.mono hk2) rfl rfl hrb ?_; intro np nc w3 hN hx3; have e0 := (hy2.trans hx3).cell0 0; have e1 := (hy2.trans hx3).cell0 1; simp only [List.getElem?_toArray, List.getElem?_cons_zero, List.getElem?_cons_succ] at e0 e1; have es := (hy2.trans hx3).lt0)
      have hb3 := hb2.trans hx3
      have hk3 := hk2.trans hx3
      have hy3 := hy2.trans hx3
      have hz3 := hz2'.trans hx3
      have hn3 := Ext.refl w3
      clear e0 e1 es
      refine (least_any gp mp np gc mc nc A l _ (hB.mono hz3) (hN.mono hn3)).mono ?_
      rintro e w4 ⟨rfl, hx4⟩
      have hb4 := hb3.trans hx4
      have hk4 := hk3.trans hx4
      have hy4 := hy3.trans hx4
      have hz4 := hz3.trans hx4
      have hn4 := hn3.trans hx4
      have d0 := hb4.cell0 0
      have d1 := hb4.cell0 1
      simp only [List.getElem?_toArray, List.getElem?_cons_zero, List.getElem?_cons_succ] at d0 d1
      have ds := hb4.lt0
      have e0 := hy4.cell0 0
      have e1 := hy4.cell0 1
      simp only [List.getElem?_toArray, List.getElem?_cons_zero, List.getElem?_cons_succ] at e0 e1
      have es := hy4.lt0
      go_wp2_with fail
      clear d0 d1 ds e0 e1 es
      refine (text_any gp mp gc mc A p m hp hm _ (hB.mono hz4)).mono ?_
      rintro e w5 ⟨rfl, hx5⟩
      have hb5 := hb4.trans hx5
      have hk5 := hk4.trans hx5
      have hy5 := hy4.trans hx5
      have hz5 := hz4.trans hx5
      have hn5 := hn4.trans hx5
      have d0 := hb5.cell0 0
      have d1 := hb5.cell0 1
      simp only [List.getElem?_toArray, List.getElem?_cons_zero, List.getElem?_cons_succ] at d0 d1
      have ds := hb5.lt0
      have e0 := hy5.cell0 0
      have e1 := hy5.cell0 1
      simp only [List.getElem?_toArray, List.getElem?_cons_zero, List.getElem?_cons_succ] at e0 e1
      have es := hy5.lt0
      go_wp2_with fail
      clear d0 d1 ds e0 e1 es
      refine (parse_any gp mp gc mc A s hs0 _ (hB.mono hz5)).mono ?_
      rintro e w6 ⟨rfl, hx6⟩
      have hb6 := hb5.trans hx6
      have hk6 := hk5.trans hx6
      have hy6 := hy5.trans hx6
      have hz6 := hz5.trans hx6
      have hn6 := hn5.trans hx6
      have d0 := hb6.cell0 0
      have d1 := hb6.cell0 1
      simp only [List.getElem?_toArray, List.getElem?_cons_zero, List.getElem?_cons_succ] at d0 d1
      have ds := hb6.lt0
      have e0 := hy6.cell0 0
      have e1 := hy6.cell0 1
      simp only [List.getElem?_toArray, List.getElem?_cons_zero, List.getElem?_cons_succ] at e0 e1
      have es := hy6.lt0
      go_wp2_with fail
      clear d0 d1 ds e0 e1 es
      refine (bit_any gp mp gc mc A s _ (hB.mono hz6)).mono ?_
      rintro e w7 ⟨rfl, hx7⟩
      have hb7 := hb6.trans hx7
      have hk7 := hk6.trans hx7
      have hy7 := hy6.trans hx7
      have hz7 := hz6.trans hx7
      have hn7 := hn6.trans hx7
      have d0 := hb7.cell0 0
      have d1 := hb7.cell0 1
      simp only [List.getElem?_toArray, List.getElem?_cons_zero, List.getElem?_cons_succ] at d0 d1
      have ds := hb7.lt0
      have e0 := hy7.cell0 0
      have e1 := hy7.cell0 1
      simp only [List.getElem?_toArray, List.getElem?_cons_zero, List.getElem?_cons_succ] at e0 e1
      have es := hy7.lt0
      go_wp2_with fail
      clear d0 d1 ds e0 e1 es
      refine (Least02_any fp lp rp fc lc rc A l _ (hA.mono hk7) (hR.mono hk7)).mono ?_
      rintro e w8 ⟨rfl, hx8⟩
      have hb8 := hb7.trans hx8
      have hk8 := hk7.trans hx8
      have hy8 := hy7.trans hx8
      have hz8 := hz7.trans hx8
      have hn8 := hn7.trans hx8
      have d0 := hb8.cell0 0
      have d1 := hb8.cell0 1
      simp only [List.getElem?_toArray, List.getElem?_cons_zero, List.getElem?_cons_succ] at d0 d1
      have ds := hb8.lt0
      have e0 := hy8.cell0 0
      have e1 := hy8.cell0 1
      simp only [List.getElem?_toArray, List.getElem?_cons_zero, List.getElem?_cons_succ] at e0 e1
      have es := hy8.lt0
      go_wp2_with fail
      clear d0 d1 ds e0 e1 es
      refine (Text02_any fp lp fc lc A p m hp hm _ (hA.mono hk8)).mono ?_
      rintro e w9 ⟨rfl, hx9⟩
      have hb9 := hb8.trans hx9
      have hk9 := hk8.trans hx9
      have hy9 := hy8.trans hx9
      have hz9 := hz8.trans hx9
      have hn9 := hn8.trans hx9
      have d0 := hb9.cell0 0
      have d1 := hb9.cell0 1
      simp only [List.getElem?_toArray, List.getElem?_cons_zero, List.getElem?_cons_succ] at d0 d1
      have ds := hb9.lt0
      have e0 := hy9.cell0 0
      have e1 := hy9.cell0 1
      simp only [List.getElem?_toArray, List.getElem?_cons_zero, List.getElem?_cons_succ] at e0 e1
      have es := hy9.lt0
      go_wp2_with fail
      clear d0 d1 ds e0 e1 es
      refine (Parse02_any fp lp fc lc A s hs0 _ (hA.mono hk9)).mono ?_
      rintro e w10 ⟨rfl, hx10⟩
      have hb10 := hb9.trans hx10
      have hk10 := hk9.trans hx10
      have hy10 := hy9.trans hx10
      have hz10 := hz9.trans hx10
      have hn10 := hn9.trans hx10
      have d0 := hb10.cell0 0
      have d1 := hb10.cell0 1
      simp only [List.getElem?_toArray, List.getElem?_cons_zero, List.getElem?_cons_succ] at d0 d1
      have ds := hb10.lt0
      have e0 := hy10.cell0 0
      have e1 := hy10.cell0 1
      simp only [List.getElem?_toArray, List.getElem?_cons_zero, List.getElem?_cons_succ] at e0 e1
      have es := hy10.lt0
      go_wp2_with fail
      clear d0 d1 ds e0 e1 es
      refine (Bit02_any fp lp fc lc A s _ (hA.mono hk10)).mono ?_
      rintro e w11 ⟨rfl, hx11⟩
      have hb11 := hb10.trans hx11
      have hk11 := hk10.trans hx11
      have hy11 := hy10.trans hx11
      have hz11 := hz10.trans hx11
      have hn11 := hn10.trans hx11
      have d0 := hb11.cell0 0
      have d1 := hb11.cell0 1
      simp only [List.getElem?_toArray, List.getElem?_cons_zero, List.getElem?_cons_succ] at d0 d1
      have ds := hb11.lt0
      have e0 := hy11.cell0 0
      have e1 := hy11.cell0 1
      simp only [List.getElem?_toArray, List.getElem?_cons_zero, List.getElem?_cons_succ] at e0 e1
      have es := hy11.lt0
      have b1 : (((leastP A l : Nat) : Int) == ((leastP A l : Nat) : Int)) = true := by simp
      have b2 : (((leastM A l : Nat) : Int) == ((leastM A l : Nat) : Int)) = true := by simp
      have b3 : ((textS A p m).toList == (textS A p m).toList) = true := by simp
      have b4 : ((((parseR A s).1 : Nat) : Int) == (((parseR A s).1 : Nat) : Int)) = true := by simp
      have b5 : ((((parseR A s).2.1 : Nat) : Int) == (((parseR A s).2.1 : Nat) : Int)) = true := by simp
      have b6 : ((((parseR A s).2.2.1 : Nat) : Int) == (((parseR A s).2.2.1 : Nat) : Int)) = true := by simp
      have b7 : (((bitV A s : Nat) : Int) == ((bitV A s : Nat) : Int)) = true := by simp
      have b8 : (leastE A l == leastE A l) = true := by simp
      have b9 : (classE A p m == classE A p m) = true := by simp
      have b10 : ((parseR A s).2.2.2 == (parseR A s).2.2.2) = true := by simp
      have b11 : (bitE A s == bitE A s) = true := by simp
      go_wp2_with fail
      refine (alike_any fp lp gp mp fc lc gc mc A _ (hA.mono hk11) (hB.mono hz11)).mono ?_
      rintro e w12 ⟨rfl, hx12⟩
      go_wp2_with fail
      refine (Same_any rp np rc nc l _ (hR.mono (hk11.trans hx12)) (hN.mono (hn11.trans hx12))).mono ?_
      rintro e w13 ⟨rfl, hx13⟩
      go_wp2_with fail
      go_ret
      exact ⟨rfl, (hk11.trans hx12).trans hx13⟩
end Go.Proofs.YtppbjeipfopehaaDoor
