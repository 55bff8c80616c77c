/- Contract: radical.All: all roots and shapes that make a word. -/
import Derived.Test.YtnngljflnfjppaaDoorRadi
namespace Go.Cg
open Go.RowKit Go.Lib

theorem rows_apart {w : World} {B1 B2 : Nat} {e1 e2 : TypeId} {k1 k2 n1 n2 : Nat} {v1 v2 : Value} {xs1 xs2 : List Value} (h1 : w.ownsRow B1 e1 k1 v1 n1 xs1) (h2 : w.ownsRow B2 e2 k2 v2 n2 xs2) (he : e1 ≠ e2) : v1.ownBlock = none ∨ v1.ownBlock ≠ v2.ownBlock := by
  rcases h1.2 with ⟨rfl, _⟩ | ⟨g, cap, cur, rfl, _, hg, _⟩
  · exact .inl rfl
  · refine .inr ?_
    rcases h2.2 with ⟨rfl, _⟩ | ⟨g', cap', cur', rfl, _, hg', _⟩
    · intro h; cases h
    · intro h
      simp only [Value.ownBlock, Option.some.injEq] at h
      subst h
      rw [hg] at hg'
      simp only [Option.some.injEq, Obj.cells.injEq] at hg'
      exact he hg'.2.1
def sName (L : List (ByteArray × ByteArray)) (i : Nat) : ByteArray := (L.getD i (ByteArray.empty, ByteArray.empty)).1
def sForm (L : List (ByteArray × ByteArray)) (i : Nat) : ByteArray := (L.getD i (ByteArray.empty, ByteArray.empty)).2
/-- a row of shapes in memory -/
structure ShapesAt (w : World) (p : Option Addr) (L : List (ByteArray × ByteArray)) : Prop where
  reads : Reads w p (L.length * 2) fun j => if j % 2 = 0 then .string (sName L (j / 2)) else .string (sForm L (j / 2))
  big : L.length ≤ 140737488351232
  small : ∀ i, i < L.length → (sName L i).size ≤ 140737488351232 ∧ (sForm L i).size ≤ 140737488351232
theorem ShapesAt.mono {w w' : World} {p : Option Addr} {L : List (ByteArray × ByteArray)} (h : ShapesAt w p L) (hx : Ext w w') : ShapesAt w' p L := ⟨h.reads.mono hx, h.big, h.small⟩
theorem ShapesAt.cells {w : World} {p : Option Addr} {L : List (ByteArray × ByteArray)} (h : ShapesAt w p L) {i : Nat} (hi : i < L.length) :
    ∃ b off, p = some ⟨b, off, none⟩ ∧ b < w.heap.size ∧ w.cell? ⟨b, off + i * 2, none⟩ = some (.string (sName L i)) ∧ w.cell? ⟨b, off + i * 2 + 1, none⟩ = some (.string (sForm L i)) := by
  obtain ⟨b, off, e, hb, hc⟩ := h.reads.cells_ (j := i * 2) (by omega)
  refine ⟨b, off, e, hb, ?_, ?_⟩
  · rw [hc (i * 2) (by omega), if_pos (by omega), show i * 2 / 2 = i by omega]
  · rw [Nat.add_assoc, hc (i * 2 + 1) (by omega), if_neg (by omega), show (i * 2 + 1) / 2 = i by omega]

/-- the roots in the first k shapes, and which these are -/
def rootsTo (A : Alpha) (x : List Int) (L : List (ByteArray × ByteArray)) : Nat → List ByteArray
  | 0 => []
  | k + 1 => if fitsB x (formL A (sForm L k)) = true then rootsTo A x L k ++ [runesBytes (atHoles x (formL A (sForm L k)) (formL A (sForm L k)).length)] else rootsTo A x L k
def idxTo (A : Alpha) (x : List Int) (L : List (ByteArray × ByteArray)) : Nat → List Nat
  | 0 => []
  | k + 1 => if fitsB x (formL A (sForm L k)) = true then idxTo A x L k ++ [k] else idxTo A x L k
theorem rootsTo_yes {A : Alpha} {x : List Int} {L : List (ByteArray × ByteArray)} {k : Nat} (h : fitsB x (formL A (sForm L k)) = true) : rootsTo A x L (k + 1) = rootsTo A x L k ++ [runesBytes (atHoles x (formL A (sForm L k)) (formL A (sForm L k)).length)] ∧ idxTo A x L (k + 1) = idxTo A x L k ++ [k] := by rw [rootsTo, idxTo, if_pos h, if_pos h]; exact ⟨rfl, rfl⟩
theorem rootsTo_no {A : Alpha} {x : List Int} {L : List (ByteArray × ByteArray)} {k : Nat} (h : fitsB x (formL A (sForm L k)) = false) : rootsTo A x L (k + 1) = rootsTo A x L k ∧ idxTo A x L (k + 1) = idxTo A x L k := by rw [rootsTo, idxTo, if_neg (by rw [h]; decide), if_neg (by rw [h]; decide)]; exact ⟨rfl, rfl⟩
theorem rootsTo_len (A : Alpha) (x : List Int) (L : List (ByteArray × ByteArray)) : ∀ k, (rootsTo A x L k).length ≤ k ∧ (idxTo A x L k).length = (rootsTo A x L k).length
  | 0 => ⟨Nat.le_refl _, rfl⟩
  | k + 1 => by
    have := rootsTo_len A x L k
    cases h : fitsB x (formL A (sForm L k))
    · rw [(rootsTo_no h).1, (rootsTo_no h).2]; omega
    · rw [(rootsTo_yes h).1, (rootsTo_yes h).2, List.length_append, List.length_append, List.length_singleton, List.length_singleton]; omega
def shapesB (A : Alpha) (L : List (ByteArray × ByteArray)) : Bool := (List.range L.length).all fun i => nmB (sName L i) && formB A (sForm L i)
theorem shapesB_yes {A : Alpha} {L : List (ByteArray × ByteArray)} (h : ∀ i, i < L.length → nmB (sName L i) = true ∧ formB A (sForm L i) = true) : shapesB A L = true := by
  unfold shapesB
  rw [List.all_eq_true]
  intro i hi
  have := h i (List.mem_range.1 hi)
  rw [this.1, this.2]; rfl
theorem shapesB_no {A : Alpha} {L : List (ByteArray × ByteArray)} {i : Nat} (hi : i < L.length) (h : ¬ (nmB (sName L i) = true ∧ formB A (sForm L i) = true)) : shapesB A L = false := by
  unfold shapesB
  rw [List.all_eq_false]
  refine ⟨i, List.mem_range.2 hi, ?_⟩
  rw [Bool.and_eq_true]
  exact h
def textCells (l : List ByteArray) : List Value := l.map Value.string
theorem textCells_append (a b : List ByteArray) : textCells (a ++ b) = textCells a ++ textCells b := by simp [textCells]
end Go.Cg
namespace Go.Proofs.YtnngljflnfjppaaDoor
open Go.RowKit Go.Cg Go.Shelf Go.Maps

def allE (A : Alpha) (s : ByteArray) (L : List (ByteArray × ByteArray)) : Int := if (spell A s).2 ≠ 0 then (spell A s).2 else if 4096 < L.length then 4 else if shapesB A L = true then 0 else 130
def allR (A : Alpha) (s : ByteArray) (L : List (ByteArray × ByteArray)) : List ByteArray := if allE A s L = 0 then rootsTo A (spell A s).1 L L.length else []
def allI (A : Alpha) (s : ByteArray) (L : List (ByteArray × ByteArray)) : List Nat := if allE A s L = 0 then idxTo A (spell A s).1 L L.length else []
theorem allE_eq (A : Alpha) (s : ByteArray) (L : List (ByteArray × ByteArray)) : allE A s L = if (spell A s).2 ≠ 0 then (spell A s).2 else if 4096 < L.length then 4 else if shapesB A L = true then 0 else 130 := rfl
theorem allR_eq (A : Alpha) (s : ByteArray) (L : List (ByteArray × ByteArray)) : allR A s L = if allE A s L = 0 then rootsTo A (spell A s).1 L L.length else [] := rfl
theorem allI_eq (A : Alpha) (s : ByteArray) (L : List (ByteArray × ByteArray)) : allI A s L = if allE A s L = 0 then idxTo A (spell A s).1 L L.length else [] := rfl
theorem infoSt : (Tryd.prog.info? 9).map (fun i => (i.zero, i.size, i.bytes)) = some (some (.string ⟨#[]⟩), 1, 16) := by kernel_rfl
theorem str_int : 9 ≠ 3 := by decide

set_option maxRecDepth 100000 in
set_option maxHeartbeats 4000000 in
theorem all_any13 (fp lp sp : Option Addr) (fc lc sc : Nat) (A : Alpha) (s : ByteArray) (L : List (ByteArray × ByteArray)) (hs : s.size ≤ 140737488351232) (w : World) (hA : AlphaAt w fp lp A) (hT : Tabs w) (hL : ShapesAt w sp L) :
    Calls Tryd.prog 24 #[.agg #[.slice fp A.feats.length fc, .slice lp A.lets.length lc], .string s, .slice sp L.length sc] w fun e w' => ∃ rp rc ip ic, e = .returned (.tuple #[.slice rp (allR A s L).length rc, .slice ip (allI A s L).length ic, .int .i64 (allE A s L)]) ∧ w'.ownsRow w.heap.size 9 1 (.slice rp (allR A s L).length rc) (allR A s L).length (textCells (allR A s L)) ∧ w'.ownsRow w.heap.size 3 1 (.slice ip (allI A s L).length ic) (allI A s L).length (intCells (allI A s L)) ∧ Ext w w' := by
  have hx3 : Ext w (w.alloc (.cells #[.slice fp A.feats.length fc, .slice lp A.lets.length lc] 26)) := (Ext.refl _).alloc _
  obtain ⟨iS, hiS, hzS0, hzS1, hzS2⟩ := info_parts infoSt
  obtain ⟨i0, hi, hz0, hz1, hz2⟩ := info_parts infoI
  have hcon := letters_any fp lp fc lc A s hs _ (hA.mono hx3) (hT.ext hx3)
  have hck := fun i (hi : i < L.length) W hW => shapeCheck_any fp lp fc lc A (sName L i) (sForm L i) (hL.small i hi).1 (hL.small i hi).2 W (hA.mono hW) (hT.ext hW)
  have h64 := spell_len A s
  have hLb := hL.big
  have hO := fun (h : (spell A s).2 = 0) => (spell_ok h).1
  have hfe := allE_eq A s L
  have hfr := allR_eq A s L
  have hfi := allI_eq A s L
  obtain ⟨F, hF⟩ : ∃ F, allE A s L = F := ⟨_, rfl⟩
  obtain ⟨R, hR⟩ : ∃ R, allR A s L = R := ⟨_, rfl⟩
  obtain ⟨I, hI⟩ : ∃ I, allI A s L = I := ⟨_, rfl⟩
  rw [hF] at hfe hfr hfi
  rw [hR] at hfr
  rw [hI] at hfi
  rw [hF, hR, hI]
  clear hF hR hI
  obtain ⟨x, hl⟩ : ∃ x, (spell A s).1 = x := ⟨_, rfl⟩
  obtain ⟨er, her⟩ : ∃ er, (spell A s).2 = er := ⟨_, rfl⟩
  rw [hl, her] at hcon
  rw [her] at hfe hO
  rw [hl] at hfr hfi h64
  clear hl her
  have HCK := Lib.hid hck
  clear hck
  by_cases h0 : er = 0
  · subst h0
    rw [if_neg (by decide : ¬ ((0 : Int) ≠ 0))] at hfe
    have hok := hO rfl
    clear hO
    by_cases hm : 4096 < L.length
    · rw [if_pos hm] at hfe
      subst hfe
      rw [if_neg (by decide)] at hfr hfi
      subst hfr
      subst hfi
      go_enter Tryd.func24, Tryd.ntmps24
      go_wp2_with (go_at_call 32; refine hcon.mono ?_; rintro e w1 ⟨lrp, lrc, rfl, ho, hx1⟩)
      go_ret3
      exact ⟨none, 0, none, 0, rfl, World.ownsRow_nil _ _ _ _, World.ownsRow_nil _ _ _ _, hx3.trans hx1⟩
    · rw [if_neg hm] at hfe
      have HFE := Lib.hid hfe
      have HFR := Lib.hid hfr
      have HFI := Lib.hid hfi
      clear hfe hfr hfi
      go_enter Tryd.func24, Tryd.ntmps24
      go_wp2_with (go_at_call 32; refine hcon.mono ?_; rintro e w1 ⟨lrp, lrc, rfl, ho, hx1⟩)
      have hxw := hx3.trans hx1
      clear hcon
      go_loopw [6, 7, 29] (fun rv iv i wr => ∃ k : Nat, k ≤ L.length ∧ i = .int .i64 k ∧ Ext w1 wr ∧ wr.ownsRow w1.heap.size 9 1 rv (rootsTo A x L k).length (textCells (rootsTo A x L k)) ∧ wr.ownsRow w1.heap.size 3 1 iv (idxTo A x L k).length (intCells (idxTo A x L k)) ∧ Hid (∀ j, j < k → nmB (sName L j) = true ∧ formB A (sForm L j) = true)) (fun _ _ i _ => L.length - (intOf i).toNat)
      case atStart => exact ⟨0, Nat.zero_le _, rfl, Ext.refl _, World.ownsRow_nil _ _ _ _, World.ownsRow_nil _ _ _ _, fun j hj => by omega⟩
      case round =>
        obtain ⟨k, hk, rfl, hx, hrow, hidx, HN⟩ := hrel
        obtain ⟨rp, rc, rfl⟩ := ownsRow_slice hrow
        obtain ⟨ip, ic, rfl⟩ := ownsRow_slice hidx
        have hl1 := (rootsTo_len A x L k).1
        have hl2 : (idxTo A x L k).length ≤ k := by have := rootsTo_len A x L k; omega
        by_cases hlt : k < L.length
        · obtain ⟨b, off, e0, hbw, c0, c1⟩ := (hL.mono (hxw.trans hx)).cells hlt
          subst e0
          have d0 := (hx1.trans hx).cell0 0
          have d1 := (hx1.trans hx).cell0 1
          have l0 := (hx1.trans hx).lt0
          simp at d0 d1
          have hsm := hL.small k hlt
          have hxk := hxw.trans hx
          by_cases hsh : nmB (sName L k) = true ∧ formB A (sForm L k) = true
          · have hck := fun W hW => HCK.out k hlt W hW
            rw [shapeE_ok hok hsh] at hck
            have HCK2 := Lib.hid hck
            have hfr := fun W => form_row hsh.2 W
            have hfl := formL_len A (sForm L k)
            have hyes := fun h => rootsTo_yes (A := A) (x := x) (L := L) (k := k) h
            have hnot := fun h => rootsTo_no (A := A) (x := x) (L := L) (k := k) h
            obtain ⟨f, hff⟩ : ∃ f, formL A (sForm L k) = f := ⟨_, rfl⟩
            rw [hff] at hfr hfl hyes hnot
            have hsp := fun lp lc fp fc W hL hF => split_any lp fp lc fc x f h64 hfl W hL hF
            have HFR2 := Lib.hid hfr
            have HSH := Lib.hid hsh
            clear hck hfr hff hsh
            have hale := atHoles_le x f f.length
            have hasz := runesBytes_size_le (atHoles x f f.length)
            cases hfit : fitsB x f
            · have HNO := Lib.hid (hnot hfit)
              rw [hfit] at hsp
              have HSP := Lib.hid hsp
              clear hyes hnot hsp hfit
              go_wp2_with (first | (go_at_call 27; refine (HCK2.out _ (hxk.alloc _)).mono ?_; rintro e w3 ⟨rfl, hx4⟩; have e0 := hx4.cell0 0; have e1 := hx4.cell0 1; have l1 := hx4.lt0; simp at e0 e1; obtain ⟨cc, w4, hcv, hof, hx5⟩ := HFR2.out w3) | (go_at_call 51; refine (HSP.out _ _ _ _ _ (ho.at_.mono (((hx.alloc _).trans hx4).trans hx5)) hof.at_).mono ?_; rintro e w5 ⟨rfl, hx6⟩))
              have hxz : Ext wr w5 := ((((Ext.refl wr).alloc _).trans hx4).trans hx5).trans hx6
              refine ⟨⟨k + 1, by omega, by go_num, hx.trans hxz, ?_, ?_, upto_succ HN.out HSH.out⟩, by simp [intOf]; omega⟩
              · rw [HNO.out.1]; exact ownsRow_ext hrow hxz
              · rw [HNO.out.2]; exact ownsRow_ext hidx hxz
            · have HYES := Lib.hid (hyes hfit)
              rw [hfit] at hsp
              simp only [if_true] at hsp
              have HSP := Lib.hid hsp
              clear hyes hnot hsp hfit
              obtain ⟨ro, hro⟩ : ∃ ro, runesBytes (atHoles x f f.length) = ro := ⟨_, rfl⟩
              rw [hro] at HYES HSP
              clear hro hasz hale
              go_wp2_with (first | (go_at_call 27; refine (HCK2.out _ (hxk.alloc _)).mono ?_; rintro e w3 ⟨rfl, hx4⟩; have e0 := hx4.cell0 0; have e1 := hx4.cell0 1; have l1 := hx4.lt0; simp at e0 e1; obtain ⟨cc, w4, hcv, hof, hx5⟩ := HFR2.out w3) | (go_at_call 51; refine (HSP.out _ _ _ _ _ (ho.at_.mono (((hx.alloc _).trans hx4).trans hx5)) hof.at_).mono ?_; rintro e w5 ⟨rfl, hx6⟩; have hxz : Ext wr w5 := ((((Ext.refl wr).alloc _).trans hx4).trans hx5).trans hx6) | (at_builtin; refine wpList_append_own _ rfl _ _ 23 rfl w1.heap.size 9 iS (.string ⟨#[]⟩) 1 16 Tryd.underlying23 hiS hzS0 hzS1 hzS2 rfl (by decide) _ _ _ rfl ((ownsRow_ext hrow hxz).alloc _) ⟨w5.heap.size, 0, none⟩ 1 1 [.string ro] rfl rfl (one_cell _ _ _) (by simp [Value.oneCell']) (by unfold maxLen; omega) (by omega) (by simp; have := hx.le; have := hxz.le; omega) ?_; intro v6 w6 hown6 hgrow6 _; have hidx6 := (((ownsRow_ext hidx hxz).alloc (.cells #[.string ro] 9)).kept hgrow6 (rows_apart ((ownsRow_ext hidx hxz).alloc (.cells #[.string ro] 9)) ((ownsRow_ext hrow hxz).alloc (.cells #[.string ro] 9)) str_int.symm)); have hx7 : Ext w1 w6 := Ext.append ((hx.trans hxz).alloc _) ((ownsRow_ext hrow hxz).alloc _) hgrow6 (Nat.le_refl _); obtain ⟨rp6, rc6, rfl⟩ := ownsRow_slice hown6) | (at_builtin; refine wpList_append_own _ rfl _ _ 44 rfl w1.heap.size 3 i0 (.int .i64 0) 1 8 Tryd.underlying44 hi hz0 hz1 hz2 rfl (by decide) _ _ _ rfl (hidx6.alloc _) ⟨w6.heap.size, 0, none⟩ 1 1 [.int .i64 k] rfl rfl (one_cell _ _ _) (by simp [Value.oneCell']) (by unfold maxLen; omega) (by omega) (by simp; have := hx7.le; omega) ?_; intro v7 w7 hown7 hgrow7 _))
              refine ⟨⟨k + 1, by omega, by go_num, Ext.append (hx7.alloc _) (hidx6.alloc _) hgrow7 (Nat.le_refl _), ?_, ?_, upto_succ HN.out HSH.out⟩, by simp [intOf]; omega⟩
              · rw [HYES.out.1, List.length_append, textCells_append]
                exact (hown6.alloc (.cells #[.int .i64 k] 3)).kept hgrow7 (rows_apart (hown6.alloc (.cells #[.int .i64 k] 3)) (hidx6.alloc (.cells #[.int .i64 k] 3)) str_int)
              · rw [HYES.out.2, List.length_append, intCells_append]; exact hown7
          · have hck := fun W hW => HCK.out k hlt W hW
            rw [shapeE_no hok hsh] at hck
            have HCK2 := Lib.hid hck
            have hfe := HFE.out
            have hfr := HFR.out
            have hfi := HFI.out
            rw [if_neg (by rw [shapesB_no hlt hsh]; decide)] at hfe
            subst hfe
            rw [if_neg (by decide)] at hfr hfi
            subst hfr
            subst hfi
            clear hck hsh
            go_wp2_with (go_at_call 27; refine (HCK2.out _ (hxk.alloc _)).mono ?_; rintro e w3 ⟨rfl, hx4⟩)
            go_ret3
            exact ⟨none, 0, none, 0, rfl, World.ownsRow_nil _ _ _ _, World.ownsRow_nil _ _ _ _, (hxk.alloc _).trans hx4⟩
        · have e : k = L.length := by omega
          subst e
          have hfe := HFE.out
          have hfr := HFR.out
          have hfi := HFI.out
          rw [if_pos (shapesB_yes fun i hi => HN.out i hi)] at hfe
          subst hfe
          rw [if_pos rfl] at hfr hfi
          subst hfr
          subst hfi
          go_wp2_with fail
          go_ret3
          exact ⟨rp, rc, ip, ic, rfl, ownsRow_base hrow hxw.le, ownsRow_base hidx hxw.le, hxw.trans hx⟩
  · have hn0 : (er != 0) = true := by rw [bne_iff_ne]; exact h0
    rw [if_pos h0] at hfe
    subst hfe
    rw [if_neg h0] at hfr hfi
    subst hfr
    subst hfi
    clear hO
    go_enter Tryd.func24, Tryd.ntmps24
    go_wp2_with (go_at_call 32; refine hcon.mono ?_; rintro e w1 ⟨lrp, lrc, rfl, ho, hx1⟩)
    go_ret3
    exact ⟨none, 0, none, 0, rfl, World.ownsRow_nil _ _ _ _, World.ownsRow_nil _ _ _ _, hx3.trans hx1⟩

end Go.Proofs.YtnngljflnfjppaaDoor
