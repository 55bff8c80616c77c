/- Contracts: paradigm.one, Put, named, Check, cell, Form, Find. -/
import Derived.Test.YtkmfhcjdaglikaaDoorPama
import Derived.Laws.IdiomStrings
namespace Go.Cg
open Go.RowKit Go.Lib
theorem results_cell_tmp3 {fn : Func} {p u q : Tmp} {ty : TypeId} (h : fn.results = #[.cell p ty, .tmp u, .tmp q]) (tmps : Array Value) (P : Program) (w : World) :
    (results fn tmps).run P w =
      ((asAddr (tmps.getD p undef)).run P w).andThen fun a w₁ => ((loadVar ty a).run P w₁).andThen fun v w₂ => .ok (.tuple #[v, tmps.getD u undef, tmps.getD q undef]) w₂ := by
  simp only [results, h]
  simp [Sem.run_bind, Result.andThen]
theorem results_cell_row3 {P : Program} {fn : Func} {p u q : Tmp} {ty : TypeId} (h : fn.results = #[.cell p ty, .tmp u, .tmp q]) (tmps : Array Value) (w : World) (g : Nat) (t : TypeId) (cs : Array Value) (fr : Nat × Nat) (d : TypeDesc) (v v2 : Value)
    (hp : tmps.getD p undef = .pointer (some ⟨g, 0, none⟩)) (hg : w.heap[g]? = some (.cells cs t fr))
    (hu : P.underlying ty = some d) (hd : (match d with | .struct _ | .array _ _ => true | _ => false) = true) (hi : (P.info? ty).map (·.size) = some cs.size) (hv : tmps.getD u undef = v) (hv2 : tmps.getD q undef = v2) :
    (results fn tmps).run P w = .ok (.tuple #[.agg cs, v, v2]) w := by
  rw [results_cell_tmp3 h, hp, hv, hv2]
  simp [asAddr, Result.andThen, run_loadVar_row w g t ty cs fr d hg hu hd hi]
theorem own_ne {T : TypeId} {B : Nat} {w : World} {p : Option Addr} {c : Nat} {l : List Int} (h : OwnRunes T B w p c l) {b : Nat} (hb : b < B) : ∀ b' off, p = some ⟨b', off, none⟩ → b' ≠ b := by
  intro b' off e
  obtain ⟨⟨_, h1⟩, _, _⟩ := h
  rcases h1 with ⟨h2, _⟩ | ⟨g, _, _, h2, h3, _⟩
  · simp only [Value.slice.injEq] at h2
    rw [h2.1] at e; cases e
  · simp only [Value.slice.injEq] at h2
    rw [h2.1] at e; cases e; omega
end Go.Cg
namespace Go.Proofs.YtkmfhcjdaglikaaDoor
open Go.RowKit Go.Cg Go.Shelf Go.Maps

theorem sl_setCell_ne {w : World} {p : Option Addr} {l : List Int} {c : Nat} (h : SlAt w p l c) {a : Addr} (hb : ∀ b off, p = some ⟨b, off, none⟩ → b ≠ a.block) (u : Value) : SlAt (w.setCell a u) p l c := ⟨RunesAt.setCell_ne h.at_ hb u, h.form, h.room⟩

/-- what one and cell give: an alphabet with its vowels, a word's letters, what is wrong -/
def OneRes (fp ap : Option Addr) (fc ac : Nat) (A : Alpha) (v : Nat) (l : List Int) (E : Int) (e : Ending) (w' : World) : Prop :=
  (E = 0 → ∃ mb rp rc, e = .returned (.tuple #[.agg #[.slice fp A.feats.length fc, .slice ap A.lets.length ac, .map (some mb)], .slice rp l.length rc, .int .i64 0]) ∧ ConsAt w' mb A v ∧ SlAt w' rp l rc) ∧
  (E ≠ 0 → ∃ pa na ka pb nb kb m p n k, e = .returned (.tuple #[.agg #[.slice pa na ka, .slice pb nb kb, .map m], .slice p n k, .int .i64 E]))
theorem oneRes_no {fp ap : Option Addr} {fc ac : Nat} {A : Alpha} {v : Nat} {l : List Int} {E : Int} {w' : World} {pa pb : Option Addr} {na ka nb kb : Nat} {m : Option Nat} {p : Option Addr} {n k : Nat} (h : E ≠ 0) : OneRes fp ap fc ac A v l E (.returned (.tuple #[.agg #[.slice pa na ka, .slice pb nb kb, .map m], .slice p n k, .int .i64 E])) w' := ⟨fun h0 => absurd h0 h, fun _ => ⟨_, _, _, _, _, _, _, _, _, _, rfl⟩⟩
theorem oneRes_ok {fp ap : Option Addr} {fc ac : Nat} {A : Alpha} {v : Nat} {l : List Int} {w' : World} {mb : Nat} {p : Option Addr} {k : Nat} (h : ConsAt w' mb A v) (h2 : SlAt w' p l k) : OneRes fp ap fc ac A v l 0 (.returned (.tuple #[.agg #[.slice fp A.feats.length fc, .slice ap A.lets.length ac, .map (some mb)], .slice p l.length k, .int .i64 0])) w' := ⟨fun _ => ⟨_, _, _, rfl, h, h2⟩, fun h0 => absurd rfl h0⟩

set_option maxRecDepth 100000 in
set_option maxHeartbeats 4000000 in
theorem one_any (fp ap : Option Addr) (fc ac : Nat) (A : Alpha) (v : Nat) (hv : v < 4294967296) (s : ByteArray) (hs : s.size ≤ 140737488351232) (x : Aff) (hwf : x.wf) (hsm : x.small) (w : World) (hA : AlphaAt w fp ap A) (hT : Tabs w) :
    Calls Tryd.prog 29 #[.agg #[.slice fp A.feats.length fc, .slice ap A.lets.length ac], .int .u32 v, .string s, .agg #[.int .u8 (x.kind : Int), .string x.form, .string x.other, .int .i64 x.pos]] w fun e w' => OneRes fp ap fc ac A v (spell A s).1 (oneE A v s x) e w' ∧ Ext w w' := by
  have hx0 : Ext w (w.alloc (.cells #[.slice fp A.feats.length fc, .slice ap A.lets.length ac] 26)) := (Ext.refl _).alloc _
  obtain ⟨W1, hW1⟩ : ∃ W1, w.alloc (.cells #[.slice fp A.feats.length fc, .slice ap A.lets.length ac] 26) = W1 := ⟨_, rfl⟩
  have hx1 : Ext W1 (W1.alloc (.cells #[.int .u8 (x.kind : Int), .string x.form, .string x.other, .int .i64 x.pos] 36)) := (Ext.refl _).alloc _
  obtain ⟨W2, hW2⟩ : ∃ W2, W1.alloc (.cells #[.int .u8 (x.kind : Int), .string x.form, .string x.other, .int .i64 x.pos] 36) = W2 := ⟨_, rfl⟩
  have hx2 : Ext W2 (W2.alloc (.cells #[.slice none 0 0, .slice none 0 0, .map none] 74)) := (Ext.refl _).alloc _
  obtain ⟨W3, hW3⟩ : ∃ W3, W2.alloc (.cells #[.slice none 0 0, .slice none 0 0, .map none] 74) = W3 := ⟨_, rfl⟩
  rw [hW1] at hx0
  rw [hW2] at hx1
  rw [hW3] at hx2
  have z1 : W1.heap.size = w.heap.size + 1 := by rw [← hW1, size_alloc]
  have z2 : W2.heap.size = w.heap.size + 1 + 1 := by rw [← hW2, size_alloc, z1]
  have z3 : W3.heap.size = w.heap.size + 1 + 1 + 1 := by rw [← hW3, size_alloc, z2]
  have HB0 := Lib.hid (fun W (hW : Ext W3 W) => (by
    have h := hx1.trans (hx2.trans hW)
    rw [← hW1] at h
    exact ⟨h.cell0 0, h.cell0 1, h.lt0⟩ : W.cell? ⟨w.heap.size, 0, none⟩ = some (.slice fp A.feats.length fc) ∧ W.cell? ⟨w.heap.size, 1, none⟩ = some (.slice ap A.lets.length ac) ∧ w.heap.size < W.heap.size))
  have HB1 := Lib.hid (fun W (hW : Ext W3 W) => (by
    have h := hx2.trans hW
    rw [← hW2] at h
    have c0 := h.cell0 0
    have c1 := h.cell0 1
    have c2 := h.cell0 2
    have c3 := h.cell0 3
    have l0 := h.lt0
    rw [z1] at c0 c1 c2 c3 l0
    exact ⟨c0, c1, c2, c3, l0⟩ : W.cell? ⟨w.heap.size + 1, 0, none⟩ = some (.int .u8 (x.kind : Int)) ∧ W.cell? ⟨w.heap.size + 1, 1, none⟩ = some (.string x.form) ∧ W.cell? ⟨w.heap.size + 1, 2, none⟩ = some (.string x.other) ∧ W.cell? ⟨w.heap.size + 1, 3, none⟩ = some (.int .i64 x.pos) ∧ w.heap.size + 1 < W.heap.size))
  have HB2 := Lib.hid (fun W (hW : Ext W3 W) => (by
    refine Box3.ext ⟨?_⟩ hW
    rw [← hW3, ← z2]
    exact heap_alloc_new _ _ : Box3 W (w.heap.size + 1 + 1) (.slice none 0 0) (.slice none 0 0) (.map none) 74))
  have hwW3 : Ext w W3 := hx0.trans (hx1.trans hx2)
  have HX := Lib.hid hwW3
  have hbg := begun_any fp ap fc ac A v hv W3 (hA.mono hwW3)
  have HLT := Lib.hid (fun W (hW : Ext w W) => letters_any fp ap fc ac A s hs W (hA.mono hW) (hT.ext hW))
  have HMD := Lib.hid (fun (hok : A.Ok) W (hW : Ext w W) => made_any fp ap fc ac A x hwf hsm hok W (hA.mono hW) (hT.ext hW))
  have hone : oneE A v s x = if classE A v 0 ≠ 0 then classE A v 0 else if (spell A s).2 ≠ 0 then (spell A s).2 else if affB A x = true then 0 else 170 := rfl
  have hW3e : ((w.alloc (.cells #[.slice fp A.feats.length fc, .slice ap A.lets.length ac] 26)).alloc (.cells #[.int .u8 (x.kind : Int), .string x.form, .string x.other, .int .i64 x.pos] 36)).alloc (.cells #[.slice none 0 0, .slice none 0 0, .map none] 74) = W3 := by rw [hW1, hW2, hW3]
  obtain ⟨d0, d1, l0⟩ := HB0.out _ (Ext.refl _)
  clear hW1 hW2 hW3 hx0 hx1 hx2 z1 z2 hwW3
  have hEN : ∀ p : Nat, W3.heap.size = p → p = w.heap.size + 1 + 1 + 1 := fun p h => by rw [← h, z3]
  by_cases h0 : classE A v 0 = 0
  · have hok := classE_ok1 h0
    have HMK := Lib.hid (HMD.out hok)
    rw [h0] at hbg hone
    rw [if_neg (fun h => h rfl)] at hone
    have HBG := Lib.hid (hbg.mono fun e w' h => (⟨h.1.1 rfl, h.2⟩ : _ ∧ Ext _ w'))
    clear hbg h0 HMD hok
    obtain ⟨SP, hSP⟩ : ∃ SP, spell A s = SP := ⟨_, rfl⟩
    obtain ⟨L, EL⟩ := SP
    rw [hSP] at hone
    have HLT2 := Lib.hid (fun W hW => by have := HLT.out W hW; rw [hSP] at this; exact this)
    rw [hSP]
    clear HLT hSP
    dsimp only at hone ⊢
    by_cases h1 : EL = 0
    · subst h1
      rw [if_neg (fun h => h rfl)] at hone
      obtain ⟨q, hq⟩ : ∃ q, affB A x = q := ⟨_, rfl⟩
      have HMK2 := Lib.hid (fun W hW => (HMK.out W hW).mono fun e w' h => (⟨by obtain ⟨yv, h1, _⟩ := h.1; rw [hq] at h1; exact ⟨yv, h1⟩, h.2⟩ : (∃ yv, e = .returned (.tuple #[yv, .bool q])) ∧ Ext W w'))
      rw [hq] at hone
      clear HMK hq
      cases q
      · rw [if_neg (by decide)] at hone
        rw [hone]
        clear hone
        go_enter Tryd.func29, Tryd.ntmps29
        go_wp2_with fail
        refine HBG.out.mono ?_
        rintro e w1 ⟨⟨mb, rfl, hM, hmb⟩, hy1⟩
        clear hW3e d0 d1 l0
        have hb1 := (Ext.refl w1).alloc (.cells #[.slice fp A.feats.length fc, .slice ap A.lets.length ac, .map (some mb)] 74)
        obtain ⟨d0, d1, l0⟩ := HB0.out _ (hy1.trans hb1)
        have HLW := Lib.hid (HLT2.out _ (HX.out.trans (hy1.trans hb1)))
        have HS1 := Lib.hid (fun W (hW : Ext (w1.alloc (.cells #[.slice fp A.feats.length fc, .slice ap A.lets.length ac, .map (some mb)] 74)) W) => (Box3.ext ⟨heap_alloc_new _ _⟩ hW : Box3 W w1.heap.size (.slice fp A.feats.length fc) (.slice ap A.lets.length ac) (.map (some mb)) 74))
        go_wp2_with fail
        refine HLW.out.mono ?_
        rintro e w2 ⟨rp, rc, rfl, ho, hy2⟩
        have hz2 := hy1.trans (hb1.trans hy2)
        obtain ⟨d0, d1, l0⟩ := HB0.out _ hz2
        obtain ⟨c0, c1, c2, c3, l1⟩ := HB1.out _ hz2
        have HMW := Lib.hid (HMK2.out _ (HX.out.trans hz2))
        go_wp2_with fail
        refine HMW.out.mono ?_
        rintro e w3 ⟨⟨yv, rfl⟩, hy3⟩
        have hz3 := hz2.trans hy3
        obtain ⟨e0, e1, e2, _, _, _, l2⟩ := (HS1.out _ (hy2.trans hy3)).facts
        obtain ⟨_, _, _, f0, f1, f2, l3⟩ := (HB2.out _ hz3).facts
        have hbk := Lib.hid (set_three (v0 := .slice fp A.feats.length fc) (v1 := .slice ap A.lets.length ac) (v2 := .map (some mb)) (HB2.out _ hz3).blk)
        go_wp2_with fail
        refine bodyPost_ret (results_cell_row3 rfl _ _ (w.heap.size + 1 + 1) 74 #[.slice fp A.feats.length fc, .slice ap A.lets.length ac, .map (some mb)] (0, 0) _ _ _ rfl hbk.out Tryd.underlying74 rfl (by kernel_rfl) rfl rfl) rfl ⟨oneRes_no (by decide), ?_⟩
        exact (((HX.out.trans hz3).setCell (p := ⟨w.heap.size + 1 + 1, 0, none⟩) (by simp; omega) _).setCell (p := ⟨w.heap.size + 1 + 1, 1, none⟩) (by simp; omega) _).setCell (p := ⟨w.heap.size + 1 + 1, 2, none⟩) (by simp; omega) _
      · rw [if_pos rfl] at hone
        rw [hone]
        clear hone
        go_enter Tryd.func29, Tryd.ntmps29
        go_wp2_with fail
        refine HBG.out.mono ?_
        rintro e w1 ⟨⟨mb, rfl, hM, hmb⟩, hy1⟩
        clear hW3e d0 d1 l0
        have hb1 := (Ext.refl w1).alloc (.cells #[.slice fp A.feats.length fc, .slice ap A.lets.length ac, .map (some mb)] 74)
        obtain ⟨d0, d1, l0⟩ := HB0.out _ (hy1.trans hb1)
        have HLW := Lib.hid (HLT2.out _ (HX.out.trans (hy1.trans hb1)))
        have HS1 := Lib.hid (fun W (hW : Ext (w1.alloc (.cells #[.slice fp A.feats.length fc, .slice ap A.lets.length ac, .map (some mb)] 74)) W) => (Box3.ext ⟨heap_alloc_new _ _⟩ hW : Box3 W w1.heap.size (.slice fp A.feats.length fc) (.slice ap A.lets.length ac) (.map (some mb)) 74))
        go_wp2_with fail
        refine HLW.out.mono ?_
        rintro e w2 ⟨rp, rc, rfl, ho, hy2⟩
        have hz2 := hy1.trans (hb1.trans hy2)
        obtain ⟨d0, d1, l0⟩ := HB0.out _ hz2
        obtain ⟨c0, c1, c2, c3, l1⟩ := HB1.out _ hz2
        have HMW := Lib.hid (HMK2.out _ (HX.out.trans hz2))
        go_wp2_with fail
        refine HMW.out.mono ?_
        rintro e w3 ⟨⟨yv, rfl⟩, hy3⟩
        have hz3 := hz2.trans hy3
        obtain ⟨e0, e1, e2, _, _, _, l2⟩ := (HS1.out _ (hy2.trans hy3)).facts
        obtain ⟨_, _, _, f0, f1, f2, l3⟩ := (HB2.out _ hz3).facts
        have hmn : mb ≠ w.heap.size + 1 + 1 := by have := hEN _ rfl; omega
        have hM3 := hM.mono (hb1.trans (hy2.trans hy3))
        have HM3 := Lib.hid (((MapFn.setCell hM3 (a := ⟨w.heap.size + 1 + 1, 0, none⟩) hmn (.slice fp A.feats.length fc)).setCell (a := ⟨w.heap.size + 1 + 1, 1, none⟩) hmn (.slice ap A.lets.length ac)).setCell (a := ⟨w.heap.size + 1 + 1, 2, none⟩) hmn (.map (some mb)))
        have hne := own_ne ho (b := w.heap.size + 1 + 1) (by have := (hy1.trans hb1).le; have := hEN _ rfl; omega)
        have HL3 := Lib.hid (sl_setCell_ne (a := ⟨w.heap.size + 1 + 1, 2, none⟩) (sl_setCell_ne (a := ⟨w.heap.size + 1 + 1, 1, none⟩) (sl_setCell_ne (a := ⟨w.heap.size + 1 + 1, 0, none⟩) ((SlAt.own ho).mono hy3) hne (.slice fp A.feats.length fc)) hne (.slice ap A.lets.length ac)) hne (.map (some mb)))
        clear hne hM3 hM ho
        have hbk := Lib.hid (set_three (v0 := .slice fp A.feats.length fc) (v1 := .slice ap A.lets.length ac) (v2 := .map (some mb)) (HB2.out _ hz3).blk)
        go_wp2_with fail
        refine bodyPost_ret (results_cell_row3 rfl _ _ (w.heap.size + 1 + 1) 74 #[.slice fp A.feats.length fc, .slice ap A.lets.length ac, .map (some mb)] (0, 0) _ _ _ rfl hbk.out Tryd.underlying74 rfl (by kernel_rfl) rfl rfl) rfl ⟨oneRes_ok HM3.out HL3.out, ?_⟩
        exact (((HX.out.trans hz3).setCell (p := ⟨w.heap.size + 1 + 1, 0, none⟩) (by simp; omega) _).setCell (p := ⟨w.heap.size + 1 + 1, 1, none⟩) (by simp; omega) _).setCell (p := ⟨w.heap.size + 1 + 1, 2, none⟩) (by simp; omega) _
    · rw [if_pos h1] at hone
      rw [hone]
      have gE : (EL != 0) = true := by rw [bne_iff_ne]; exact h1
      have HNE := Lib.hid h1
      clear hone h1
      go_enter Tryd.func29, Tryd.ntmps29
      go_wp2_with fail
      refine HBG.out.mono ?_
      rintro e w1 ⟨⟨mb, rfl, hM, hmb⟩, hy1⟩
      clear hW3e d0 d1 l0
      have hb1 := (Ext.refl w1).alloc (.cells #[.slice fp A.feats.length fc, .slice ap A.lets.length ac, .map (some mb)] 74)
      obtain ⟨d0, d1, l0⟩ := HB0.out _ (hy1.trans hb1)
      have HLW := Lib.hid (HLT2.out _ (HX.out.trans (hy1.trans hb1)))
      have HS1 := Lib.hid (fun W (hW : Ext (w1.alloc (.cells #[.slice fp A.feats.length fc, .slice ap A.lets.length ac, .map (some mb)] 74)) W) => (Box3.ext ⟨heap_alloc_new _ _⟩ hW : Box3 W w1.heap.size (.slice fp A.feats.length fc) (.slice ap A.lets.length ac) (.map (some mb)) 74))
      go_wp2_with fail
      refine HLW.out.mono ?_
      rintro e w2 ⟨rp, rc, rfl, ho, hy2⟩
      have hz2 := hy1.trans (hb1.trans hy2)
      obtain ⟨e0, e1, e2, _, _, _, l2⟩ := (HS1.out _ hy2).facts
      obtain ⟨_, _, _, f0, f1, f2, l3⟩ := (HB2.out _ hz2).facts
      have hbk := Lib.hid (set_three (v0 := .slice fp A.feats.length fc) (v1 := .slice ap A.lets.length ac) (v2 := .map (some mb)) (HB2.out _ hz2).blk)
      go_wp2_with fail
      refine bodyPost_ret (results_cell_row3 rfl _ _ (w.heap.size + 1 + 1) 74 #[.slice fp A.feats.length fc, .slice ap A.lets.length ac, .map (some mb)] (0, 0) _ _ _ rfl hbk.out Tryd.underlying74 rfl (by kernel_rfl) rfl rfl) rfl ⟨oneRes_no HNE.out, ?_⟩
      exact (((HX.out.trans hz2).setCell (p := ⟨w.heap.size + 1 + 1, 0, none⟩) (by simp; omega) _).setCell (p := ⟨w.heap.size + 1 + 1, 1, none⟩) (by simp; omega) _).setCell (p := ⟨w.heap.size + 1 + 1, 2, none⟩) (by simp; omega) _
  · rw [if_pos h0] at hone
    rw [hone]
    have gE : (classE A v 0 != 0) = true := by rw [bne_iff_ne]; exact h0
    have HBG := Lib.hid (hbg.mono fun e w' h => (⟨h.1.2 h0, h.2⟩ : _ ∧ Ext _ w'))
    have HNE := Lib.hid h0
    obtain ⟨E, hE⟩ : ∃ E, classE A v 0 = E := ⟨_, rfl⟩
    rw [hE] at HBG gE HNE ⊢
    clear hone h0 hE hbg HLT HMD
    go_enter Tryd.func29, Tryd.ntmps29
    go_wp2_with fail
    refine HBG.out.mono ?_
    rintro e w1 ⟨rfl, hy1⟩
    clear hW3e d0 d1 l0
    have hb1 := (Ext.refl w1).alloc (.cells #[.slice none 0 0, .slice none 0 0, .map none] 74)
    have hz2 := hy1.trans hb1
    obtain ⟨e0, e1, e2, _, _, _, l2⟩ := (⟨heap_alloc_new _ _⟩ : Box3 (w1.alloc (.cells #[.slice none 0 0, .slice none 0 0, .map none] 74)) w1.heap.size (.slice none 0 0) (.slice none 0 0) (.map none) 74).facts
    obtain ⟨_, _, _, f0, f1, f2, l3⟩ := (HB2.out _ hz2).facts
    have hbk := Lib.hid (set_three (v0 := .slice none 0 0) (v1 := .slice none 0 0) (v2 := .map none) (HB2.out _ hz2).blk)
    go_wp2_with fail
    refine bodyPost_ret (results_cell_row3 rfl _ _ (w.heap.size + 1 + 1) 74 #[.slice none 0 0, .slice none 0 0, .map none] (0, 0) _ _ _ rfl hbk.out Tryd.underlying74 rfl (by kernel_rfl) rfl rfl) rfl ⟨oneRes_no HNE.out, ?_⟩
    exact (((HX.out.trans hz2).setCell (p := ⟨w.heap.size + 1 + 1, 0, none⟩) (by simp; omega) _).setCell (p := ⟨w.heap.size + 1 + 1, 1, none⟩) (by simp; omega) _).setCell (p := ⟨w.heap.size + 1 + 1, 2, none⟩) (by simp; omega) _
end Go.Proofs.YtkmfhcjdaglikaaDoor

namespace Go.Cg
open Go.RowKit Go.Lib
theorem affs_one {w : World} {x : Aff} (h : x.wf) {T : TypeId} : AffsAt (w.alloc (.cells #[.int .u8 (x.kind : Int), .string x.form, .string x.other, .int .i64 x.pos] T (0, 0))) (some ⟨w.heap.size, 0, none⟩) [x] := by
  refine ⟨.inr ⟨w.heap.size, 0, rfl, (Ext.refl (w.alloc (.cells #[.int .u8 (x.kind : Int), .string x.form, .string x.other, .int .i64 x.pos] T (0, 0)))).lt0, fun j hj => ?_⟩, fun j hj => ?_, by simp⟩
  · rw [Nat.zero_add, (Ext.refl (w.alloc (.cells #[.int .u8 (x.kind : Int), .string x.form, .string x.other, .int .i64 x.pos] T (0, 0)))).cell0 j]
    match j, hj with
    | 0, _ => rfl
    | 1, _ => rfl
    | 2, _ => rfl
    | 3, _ => rfl
  · match j, hj with
    | 0, _ => exact h
end Go.Cg
namespace Go.Proofs.YtkmfhcjdaglikaaDoor
open Go.RowKit Go.Cg Go.Shelf Go.Maps

theorem put_one {A : Alpha} {v : Nat} {s : ByteArray} {x : Aff} (h : oneE A v s x = 0) : runesBytes (putUp A v [x] (spell A s).1).1 = putS A v s x ∧ (putUp A v [x] (spell A s).1).2 = putE A v s x := by
  have e : putE A v s x = (putC A v x (spell A s).1).2 := by unfold putE; rw [if_neg (fun c => c h)]
  unfold putS
  rw [e]
  by_cases h2 : (putC A v x (spell A s).1).2 = 0
  · rw [if_pos h2, putUp, if_neg (fun c => c h2), putUp, h2]; exact ⟨rfl, rfl⟩
  · rw [if_neg h2, putUp, if_pos h2]; exact ⟨rfl, rfl⟩
theorem putE_no {A : Alpha} {v : Nat} {s : ByteArray} {x : Aff} (h : oneE A v s x ≠ 0) : putE A v s x = oneE A v s x ∧ putS A v s x = ⟨#[]⟩ := by
  have e : putE A v s x = oneE A v s x := by unfold putE; rw [if_pos h]
  exact ⟨e, putS_err (by rw [e]; exact h)⟩

set_option maxRecDepth 100000 in
set_option maxHeartbeats 4000000 in
theorem put_any (fp ap : Option Addr) (fc ac : Nat) (A : Alpha) (v : Nat) (hv : v < 4294967296) (s : ByteArray) (hs : s.size ≤ 140737488351232) (x : Aff) (hwf : x.wf) (hsm : x.small) (w : World) (hA : AlphaAt w fp ap A) (hT : Tabs w) :
    Calls Tryd.prog 13 #[.agg #[.slice fp A.feats.length fc, .slice ap A.lets.length ac], .int .u32 v, .string s, .agg #[.int .u8 (x.kind : Int), .string x.form, .string x.other, .int .i64 x.pos]] w fun e w' => e = .returned (.tuple #[.string (putS A v s x), .int .i64 (putE A v s x)]) ∧ Ext w w' := by
  have hx0 : Ext w (w.alloc (.cells #[.slice fp A.feats.length fc, .slice ap A.lets.length ac] 26)) := (Ext.refl _).alloc _
  obtain ⟨W1, hW1⟩ : ∃ W1, w.alloc (.cells #[.slice fp A.feats.length fc, .slice ap A.lets.length ac] 26) = W1 := ⟨_, rfl⟩
  have hx1 : Ext W1 (W1.alloc (.cells #[.int .u8 (x.kind : Int), .string x.form, .string x.other, .int .i64 x.pos] 36)) := (Ext.refl _).alloc _
  obtain ⟨W2, hW2⟩ : ∃ W2, W1.alloc (.cells #[.int .u8 (x.kind : Int), .string x.form, .string x.other, .int .i64 x.pos] 36) = W2 := ⟨_, rfl⟩
  rw [hW1] at hx0
  rw [hW2] at hx1
  have z1 : W1.heap.size = w.heap.size + 1 := by rw [← hW1, size_alloc]
  have HB0 := Lib.hid (fun W (hW : Ext W2 W) => (by
    have h := hx1.trans hW
    rw [← hW1] at h
    exact ⟨h.cell0 0, h.cell0 1, h.lt0⟩ : W.cell? ⟨w.heap.size, 0, none⟩ = some (.slice fp A.feats.length fc) ∧ W.cell? ⟨w.heap.size, 1, none⟩ = some (.slice ap A.lets.length ac) ∧ w.heap.size < W.heap.size))
  have HB1 := Lib.hid (fun W (hW : Ext W2 W) => (by
    have h := hW
    rw [← hW2] at h
    have c0 := h.cell0 0
    have c1 := h.cell0 1
    have c2 := h.cell0 2
    have c3 := h.cell0 3
    have l0 := h.lt0
    rw [z1] at c0 c1 c2 c3 l0
    exact ⟨c0, c1, c2, c3, l0⟩ : W.cell? ⟨w.heap.size + 1, 0, none⟩ = some (.int .u8 (x.kind : Int)) ∧ W.cell? ⟨w.heap.size + 1, 1, none⟩ = some (.string x.form) ∧ W.cell? ⟨w.heap.size + 1, 2, none⟩ = some (.string x.other) ∧ W.cell? ⟨w.heap.size + 1, 3, none⟩ = some (.int .i64 x.pos) ∧ w.heap.size + 1 < W.heap.size))
  have hwW2 : Ext w W2 := hx0.trans hx1
  have HX := Lib.hid hwW2
  have hone := one_any fp ap fc ac A v hv s hs x hwf hsm W2 (hA.mono hwW2) (hT.ext hwW2)
  have hW2e : (w.alloc (.cells #[.slice fp A.feats.length fc, .slice ap A.lets.length ac] 26)).alloc (.cells #[.int .u8 (x.kind : Int), .string x.form, .string x.other, .int .i64 x.pos] 36) = W2 := by rw [hW1, hW2]
  obtain ⟨d0, d1, l0⟩ := HB0.out _ (Ext.refl _)
  obtain ⟨c0, c1, c2, c3, l1⟩ := HB1.out _ (Ext.refl _)
  clear hW1 hW2 hx0 hx1 z1 hwW2
  by_cases h0 : oneE A v s x = 0
  · obtain ⟨k1, k2⟩ := put_one h0
    obtain ⟨k3, k4, k5⟩ := oneE_ok h0
    have hok := classE_ok1 k3
    obtain ⟨_, _, hin, h64⟩ := spell_ok k4
    have HSP := Lib.hid (fun lp lc mb W (hW : Ext w W) hM hL => sput_any fp ap lp (some ⟨W.heap.size, 0, none⟩) fc ac lc 1 mb A v (spell A s).1 [x] hok hin (Nat.le_trans h64 (by decide)) (fun i hi => by match i, hi with | 0, _ => exact hsm) (fun i hi => by match i, hi with | 0, _ => exact k5) (W.alloc (.cells #[.int .u8 (x.kind : Int), .string x.form, .string x.other, .int .i64 x.pos] 36)) (hA.mono (hW.alloc _)) (hT.ext (hW.alloc _)) (ConsAt.mono hM ((Ext.refl W).alloc _)) (SlAt.mono hL ((Ext.refl W).alloc _)) (affs_one hwf))
    rw [k1, k2] at HSP
    rw [h0] at hone
    have HON := Lib.hid (hone.mono fun e w' h => (⟨h.1.1 rfl, h.2⟩ : _ ∧ Ext _ w'))
    obtain ⟨L, hL⟩ : ∃ L, (spell A s).1 = L := ⟨_, rfl⟩
    rw [hL] at HSP HON
    obtain ⟨PS, hPS⟩ : ∃ PS, putS A v s x = PS := ⟨_, rfl⟩
    obtain ⟨PE, hPE⟩ : ∃ PE, putE A v s x = PE := ⟨_, rfl⟩
    rw [hPS, hPE] at HSP ⊢
    clear hone h0 k1 k2 k3 k4 k5 hin h64 hL hPS hPE
    go_enter Tryd.func13, Tryd.ntmps13
    go_wp2_with fail
    refine HON.out.mono ?_
    rintro e w1 ⟨⟨mb, rp, rc, rfl, hM, hL⟩, hy1⟩
    clear hW2e d0 d1 l0 c0 c1 c2 c3 l1
    have hb1 := (Ext.refl w1).alloc (.cells #[.slice fp A.feats.length fc, .slice ap A.lets.length ac, .map (some mb)] 74)
    have hz2 := hy1.trans hb1
    obtain ⟨e0, e1, e2, _, _, _, l2⟩ := (⟨heap_alloc_new _ _⟩ : Box3 (w1.alloc (.cells #[.slice fp A.feats.length fc, .slice ap A.lets.length ac, .map (some mb)] 74)) w1.heap.size (.slice fp A.feats.length fc) (.slice ap A.lets.length ac) (.map (some mb)) 74).facts
    obtain ⟨c0, c1, c2, c3, l1⟩ := HB1.out _ hz2
    have hsp := Lib.hid (HSP.out rp rc mb _ (HX.out.trans hz2) (hM.mono hb1) (hL.mono hb1))
    have hz3 := hz2.alloc (.cells #[.int .u8 (x.kind : Int), .string x.form, .string x.other, .int .i64 x.pos] 36)
    clear HSP HON hM hL
    go_wp2_with fail
    rw [size_alloc] at hsp
    refine hsp.out.mono ?_
    rintro e w3 ⟨rfl, hy3⟩
    go_wp2_with fail
    go_ret2
    exact ⟨rfl, HX.out.trans (hz3.trans hy3)⟩
  · obtain ⟨k1, k2⟩ := putE_no h0
    rw [k1, k2]
    have HON := Lib.hid (hone.mono fun e w' h => (⟨h.1.2 h0, h.2⟩ : _ ∧ Ext _ w'))
    have gE : (oneE A v s x != 0) = true := by rw [bne_iff_ne]; exact h0
    obtain ⟨E, hE⟩ : ∃ E, oneE A v s x = E := ⟨_, rfl⟩
    rw [hE] at HON gE ⊢
    clear hone h0 k1 k2 hE
    go_enter Tryd.func13, Tryd.ntmps13
    go_wp2_with fail
    refine HON.out.mono ?_
    rintro e w1 ⟨⟨pa, na, ka, pb, nb, kb, m, p, n, k, rfl⟩, hy1⟩
    clear hW2e d0 d1 l0 c0 c1 c2 c3 l1
    go_wp2_with fail
    go_ret2
    exact ⟨rfl, (HX.out.trans hy1).alloc _⟩
end Go.Proofs.YtkmfhcjdaglikaaDoor

namespace Go.Proofs.YtkmfhcjdaglikaaDoor
open Go.RowKit Go.Cg Go.Shelf Go.Maps

/-- '[]byte(text)': a new row of its bytes -/
theorem bytes_row (s : ByteArray) (W : World) : ∃ c W', (convert 9 71 (.string s)).run Tryd.prog W = .ok (.slice (some ⟨W.heap.size, 0, none⟩) s.size c) W' ∧ (∀ j (hj : j < s.size), W'.cell? ⟨W.heap.size, j, none⟩ = some (.int .u8 (s[j].toNat : Int))) ∧ W.heap.size < W'.heap.size ∧ Ext W W' := by
  have hrun := run_bytes_of_string (P := Tryd.prog) W 9 71 5 s Tryd.underlying9 Tryd.underlying71 Tryd.underlying5
  have hb : (W.drew.alloc (.cells (bytesRow s (grownCap W s.size 0 5)) 5 ((bytesRow s (grownCap W s.size 0 5)).size, (bytesRow s (grownCap W s.size 0 5)).size + 1))).heap[W.heap.size]? = _ := heap_alloc_new W.drew _
  refine ⟨_, _, hrun, fun j hj => ?_, (Array.getElem?_eq_some_iff.1 hb).1, ((Ext.refl W).drew).alloc _⟩
  rw [Lib.cell_of_heap hb]
  have h1 : j < s.data.size := hj
  unfold bytesRow
  rw [Array.getElem?_append_left (by simpa using h1), Array.getElem?_map, Array.getElem?_eq_getElem h1]
  rfl
theorem nm_ok {c : UInt8} (h : (97 ≤ c.toNat ∧ c.toNat ≤ 122) ∨ (48 ≤ c.toNat ∧ c.toNat ≤ 57) ∨ c.toNat = 45) : isNm c = true := decide_eq_true h
theorem nm_no {c : UInt8} (h : ¬ ((97 ≤ c.toNat ∧ c.toNat ≤ 122) ∨ (48 ≤ c.toNat ∧ c.toNat ≤ 57) ∨ c.toNat = 45)) : isNm c = false := decide_eq_false h

set_option maxRecDepth 100000 in
set_option maxHeartbeats 4000000 in
theorem pnamed_any (s : ByteArray) (hs : s.size ≤ 140737488351232) (w : World) :
    Calls Tryd.prog 27 #[.string s] w fun e w' => e = .returned (.bool (nmB s)) ∧ Ext w w' := by
  obtain ⟨c, W0, hcv, hce, hlt0, hx⟩ := bytes_row s w
  have HC := Lib.hid hce
  have HN := Lib.hid (fun k (hk : k < s.size) (h : isNm s[k] = false) => nm_at hk h)
  have HA := Lib.hid (fun (h : ∀ j, (hj : j < s.size) → isNm s[j] = true) => nm_all h)
  obtain ⟨V, hV⟩ : ∃ V, nmB s = V := ⟨_, rfl⟩
  rw [hV] at HN HA ⊢
  clear hce hV
  go_enter Tryd.func27, Tryd.ntmps27
  go_wp2_with fail
  go_loopw [8] (fun i wr => wr = W0 ∧ ∃ k : Nat, k ≤ s.size ∧ i = .int .i64 k ∧ Hid (∀ j, (hj : j < s.size) → j < k → isNm s[j] = true)) (fun i _ => s.size - (intOf i).toNat)
  case atStart => exact ⟨rfl, 0, Nat.zero_le _, rfl, fun j hj h => absurd h (Nat.not_lt_zero _)⟩
  case round =>
    obtain ⟨rfl, k, hk, rfl, HK⟩ := hrel
    by_cases hlt : k < s.size
    · have c0 := HC.out k hlt
      have HNK := Lib.hid (HN.out k hlt)
      have HOK := Lib.hid (@nm_ok s[k])
      have HNO := Lib.hid (@nm_no s[k])
      have HKS := Lib.hid (fun (h : isNm s[k] = true) j (hj : j < s.size) (h2 : j < k + 1) => (by
        rcases Nat.lt_or_ge j k with h3 | h3
        · exact HK.out j hj h3
        · have : j = k := by omega
          subst this; exact h : isNm s[j] = true))
      obtain ⟨n, hn⟩ : ∃ n, s[k].toNat = n := ⟨_, rfl⟩
      have hn2 : n < 256 := by rw [← hn]; exact s[k].toNat_lt
      rw [hn] at c0 HOK HNO
      obtain ⟨q, hq⟩ : ∃ q, isNm s[k] = q := ⟨_, rfl⟩
      rw [hq] at HNK HOK HNO HKS
      clear hn hq
      rcases (by omega : (n < 45) ∨ (n = 45) ∨ (45 < n ∧ n < 48) ∨ (48 ≤ n ∧ n ≤ 57) ∨ (57 < n ∧ n < 97) ∨ (97 ≤ n ∧ n ≤ 122) ∨ (122 < n)) with h1 | rfl | ⟨h1, h2⟩ | ⟨h1, h2⟩ | ⟨h1, h2⟩ | ⟨h1, h2⟩ | h1
      · have hv : V = false := HNK.out (HNO.out (by omega))
        subst hv
        have g45 : ((n : Int) != 45) = true := by rw [bne_iff_ne]; omega
        go_wp2_with fail
        go_ret
        exact ⟨rfl, hx⟩
      · have hq1 := HOK.out (by omega)
        go_wp2_with fail
        exact ⟨⟨by first | trivial | rfl, k + 1, by omega, by go_num, HKS.out hq1⟩, by simp [intOf]; omega⟩
      · have hv : V = false := HNK.out (HNO.out (by omega))
        subst hv
        have g45 : ((n : Int) != 45) = true := by rw [bne_iff_ne]; omega
        go_wp2_with fail
        go_ret
        exact ⟨rfl, hx⟩
      · have hq1 := HOK.out (by omega)
        go_wp2_with fail
        exact ⟨⟨by first | trivial | rfl, k + 1, by omega, by go_num, HKS.out hq1⟩, by simp [intOf]; omega⟩
      · have hv : V = false := HNK.out (HNO.out (by omega))
        subst hv
        have g45 : ((n : Int) != 45) = true := by rw [bne_iff_ne]; omega
        go_wp2_with fail
        go_ret
        exact ⟨rfl, hx⟩
      · have hq1 := HOK.out (by omega)
        go_wp2_with fail
        exact ⟨⟨by first | trivial | rfl, k + 1, by omega, by go_num, HKS.out hq1⟩, by simp [intOf]; omega⟩
      · have hv : V = false := HNK.out (HNO.out (by omega))
        subst hv
        have g45 : ((n : Int) != 45) = true := by rw [bne_iff_ne]; omega
        go_wp2_with fail
        go_ret
        exact ⟨rfl, hx⟩
    · have hV : V = decide (s.size ≤ 32) := HA.out fun j hj => HK.out j hj (by omega)
      subst hV
      go_wp2_with fail
      go_ret
      exact ⟨by simp; omega, hx⟩
end Go.Proofs.YtkmfhcjdaglikaaDoor

namespace Go.Proofs.YtkmfhcjdaglikaaDoor
open Go.RowKit Go.Cg Go.Shelf Go.Maps

def cellB (A : Alpha) (c : PCell) : Bool := decide (c.affs.length ≤ 8) && c.affs.all (affB A)
theorem cellB_many {A : Alpha} {c : PCell} (h : ¬ c.affs.length ≤ 8) : cellB A c = false := by unfold cellB; rw [decide_eq_false h]; rfl
theorem cellB_no {A : Alpha} {c : PCell} {j : Nat} (hj : j < c.affs.length) (h : affB A (ax c.affs j) = false) : cellB A c = false := by
  unfold cellB
  rw [Bool.and_eq_false_iff]
  right
  rw [List.all_eq_false]
  refine ⟨_, List.getElem_mem hj, ?_⟩
  rw [← ax_eq hj, h]; decide
theorem cellB_ok {A : Alpha} {c : PCell} (h : c.affs.length ≤ 8) (h2 : ∀ j, j < c.affs.length → affB A (ax c.affs j) = true) : cellB A c = true := by
  unfold cellB
  rw [Bool.and_eq_true]
  refine ⟨decide_eq_true h, List.all_eq_true.2 fun x hx => ?_⟩
  obtain ⟨j, hj, e⟩ := List.getElem_of_mem hx
  have := h2 j hj
  rwa [ax_eq hj, e] at this
theorem parE_none {A : Alpha} {P : Para} (h : ¬ A.Ok) : parE A P = 7 := if_neg h
theorem parE_nm {A : Alpha} {P : Para} (h : A.Ok) (h2 : nmB P.name = false) : parE A P = 170 := by
  unfold parE; rw [if_pos h, if_neg]; unfold parB; rw [h2]; simp
theorem parE_few {A : Alpha} {P : Para} (h : A.Ok) (h2 : ¬ (1 ≤ P.cells.length ∧ P.cells.length ≤ 256)) : parE A P = 170 := by
  unfold parE; rw [if_pos h, if_neg]; unfold parB
  intro h3
  simp only [Bool.and_eq_true, decide_eq_true_eq] at h3
  exact h2 ⟨h3.1.1.2, h3.1.2⟩
theorem parE_cell {A : Alpha} {P : Para} (h : A.Ok) {k : Nat} (hk : k < P.cells.length) (h2 : cellB A (cx P.cells k) = false) : parE A P = 170 := by
  unfold parE; rw [if_pos h, if_neg]; unfold parB
  intro h3
  simp only [Bool.and_eq_true] at h3
  have h4 := List.all_eq_true.1 h3.2 _ (List.getElem_mem hk)
  rw [← cx_eq hk] at h4
  have h5 : cellB A (cx P.cells k) = true := by unfold cellB; exact h4
  rw [h2] at h5; cases h5
theorem parE_all {A : Alpha} {P : Para} (h : A.Ok) (h2 : nmB P.name = true) (h3 : 1 ≤ P.cells.length) (h4 : P.cells.length ≤ 256) (h5 : ∀ k, k < P.cells.length → cellB A (cx P.cells k) = true) : parE A P = 0 := by
  unfold parE; rw [if_pos h, if_pos]; unfold parB
  simp only [Bool.and_eq_true, decide_eq_true_eq]
  refine ⟨⟨⟨h2, h3⟩, h4⟩, List.all_eq_true.2 fun c hc => ?_⟩
  obtain ⟨k, hk, e⟩ := List.getElem_of_mem hc
  have h6 := h5 k hk
  rw [cx_eq hk, e] at h6
  unfold cellB at h6; exact h6

set_option maxRecDepth 100000 in
set_option maxHeartbeats 8000000 in
theorem pcheck_any (fp ap pp : Option Addr) (fc ac pc : Nat) (A : Alpha) (P : Para) (g : Nat → Option Addr × Nat) (hn : P.name.size ≤ 140737488351232) (hsm : ∀ k, k < P.cells.length → ∀ j, j < (cx P.cells k).affs.length → (ax (cx P.cells k).affs j).small) (w : World) (hA : AlphaAt w fp ap A) (hT : Tabs w) (hP : CellsAt w pp P.cells g) :
    Calls Tryd.prog 10 #[.agg #[.slice fp A.feats.length fc, .slice ap A.lets.length ac], .agg #[.string P.name, .slice pp P.cells.length pc]] w fun e w' => e = .returned (.int .i64 (parE A P)) ∧ Ext w w' := by
  have hx0 : Ext w (w.alloc (.cells #[.slice fp A.feats.length fc, .slice ap A.lets.length ac] 26)) := (Ext.refl _).alloc _
  obtain ⟨W1, hW1⟩ : ∃ W1, w.alloc (.cells #[.slice fp A.feats.length fc, .slice ap A.lets.length ac] 26) = W1 := ⟨_, rfl⟩
  have hx1 : Ext W1 (W1.alloc (.cells #[.string P.name, .slice pp P.cells.length pc] 32)) := (Ext.refl _).alloc _
  obtain ⟨W2, hW2⟩ : ∃ W2, W1.alloc (.cells #[.string P.name, .slice pp P.cells.length pc] 32) = W2 := ⟨_, rfl⟩
  rw [hW1] at hx0
  rw [hW2] at hx1
  have z1 : W1.heap.size = w.heap.size + 1 := by rw [← hW1, size_alloc]
  have HB0 := Lib.hid (fun W (hW : Ext W2 W) => (by
    have h := hx1.trans hW
    rw [← hW1] at h
    exact ⟨h.cell0 0, h.cell0 1, h.lt0⟩ : W.cell? ⟨w.heap.size, 0, none⟩ = some (.slice fp A.feats.length fc) ∧ W.cell? ⟨w.heap.size, 1, none⟩ = some (.slice ap A.lets.length ac) ∧ w.heap.size < W.heap.size))
  have HB1 := Lib.hid (fun W (hW : Ext W2 W) => (by
    have h := hW
    rw [← hW2] at h
    have c0 := h.cell0 0
    have c1 := h.cell0 1
    have l0 := h.lt0
    rw [z1] at c0 c1 l0
    exact ⟨c0, c1, l0⟩ : W.cell? ⟨w.heap.size + 1, 0, none⟩ = some (.string P.name) ∧ W.cell? ⟨w.heap.size + 1, 1, none⟩ = some (.slice pp P.cells.length pc) ∧ w.heap.size + 1 < W.heap.size))
  have hwW2 : Ext w W2 := hx0.trans hx1
  have HX := Lib.hid hwW2
  have HCH := Lib.hid (check_any fp ap fc ac A W2 (hA.mono hwW2))
  have HNM := Lib.hid (fun W => pnamed_any P.name hn W)
  have hW2e : (w.alloc (.cells #[.slice fp A.feats.length fc, .slice ap A.lets.length ac] 26)).alloc (.cells #[.string P.name, .slice pp P.cells.length pc] 32) = W2 := by rw [hW1, hW2]
  obtain ⟨d0, d1, l0⟩ := HB0.out _ (Ext.refl _)
  clear hW1 hW2 hx0 hx1 z1 hwW2
  by_cases hok : A.Ok
  · rw [checkN_ok hok] at HCH
    have HMD := Lib.hid (fun k (hk : k < P.cells.length) j (hj : j < (cx P.cells k).affs.length) W (hW : Ext w W) => made_any fp ap fc ac A (ax (cx P.cells k).affs j) ((hP.affs k hk).wf j hj) (hsm k hk j hj) hok W (hA.mono hW) (hT.ext hW))
    have HE1 := Lib.hid (fun h => parE_nm (P := P) hok h)
    have HE2 := Lib.hid (fun h => parE_few (P := P) hok h)
    have HE3 := Lib.hid (fun k (hk : k < P.cells.length) h => parE_cell (P := P) hok hk h)
    have HE4 := Lib.hid (fun h1 h2 h3 h4 => parE_all (P := P) hok h1 h2 h3 h4)
    have hpb := hP.big
    obtain ⟨V, hV⟩ : ∃ V, parE A P = V := ⟨_, rfl⟩
    obtain ⟨q, hq⟩ : ∃ q, nmB P.name = q := ⟨_, rfl⟩
    rw [hV] at HE1 HE2 HE3 HE4 ⊢
    rw [hq] at HE1 HE4 HNM
    clear hV hq hok hsm
    cases q
    · obtain rfl := HE1.out rfl
      go_enter Tryd.func10, Tryd.ntmps10
      go_wp2_with fail
      refine HCH.out.mono ?_
      rintro e w1 ⟨rfl, hy1⟩
      clear hW2e d0 d1 l0
      obtain ⟨c0, c1, l1⟩ := HB1.out _ hy1
      go_wp2_with fail
      refine (HNM.out _).mono ?_
      rintro e w2 ⟨rfl, hy2⟩
      obtain ⟨c0, c1, l1⟩ := HB1.out _ (hy1.trans hy2)
      go_wp2_with fail
      go_ret
      exact ⟨rfl, (HX.out.trans hy1).trans hy2⟩
    · by_cases hfew : 1 ≤ P.cells.length ∧ P.cells.length ≤ 256
      · obtain ⟨hf1, hf2⟩ := hfew
        go_enter Tryd.func10, Tryd.ntmps10
        go_wp2_with fail
        refine HCH.out.mono ?_
        rintro e w1 ⟨rfl, hy1⟩
        clear hW2e d0 d1 l0
        obtain ⟨c0, c1, l1⟩ := HB1.out _ hy1
        go_wp2_with fail
        refine (HNM.out _).mono ?_
        rintro e w2 ⟨rfl, hy2⟩
        have hz2 := hy1.trans hy2
        obtain ⟨c0, c1, l1⟩ := HB1.out _ hz2
        clear hy1 hy2
        go_wp2_with fail
        go_loopw [36] (fun i wr => Ext W2 wr ∧ ∃ k : Nat, k ≤ P.cells.length ∧ i = .int .i64 k ∧ Hid (∀ j, j < k → cellB A (cx P.cells j) = true)) (fun i _ => P.cells.length - (intOf i).toNat)
        case atStart => exact ⟨hz2, 0, Nat.zero_le _, rfl, fun j h => absurd h (Nat.not_lt_zero _)⟩
        case round =>
          obtain ⟨hy, k, hk, rfl, HK⟩ := hrel
          by_cases hlt : k < P.cells.length
          · obtain ⟨b, off, e0, hbw, k0, k1⟩ := (hP.mono (HX.out.trans hy)).cells hlt
            subst e0
            have HMK := Lib.hid (HMD.out k hlt)
            have HBAD := Lib.hid (HE3.out k hlt)
            have HKS := Lib.hid (fun (h : cellB A (cx P.cells k) = true) j (h2 : j < k + 1) => (by
              rcases Nat.lt_or_ge j k with h3 | h3
              · exact HK.out j h3
              · have : j = k := by omega
                subst this; exact h : cellB A (cx P.cells j) = true))
            have HAF := Lib.hid (hP.affs k hlt)
            have htg := hP.tags k hlt
            obtain ⟨c, hc⟩ : ∃ c, cx P.cells k = c := ⟨_, rfl⟩
            obtain ⟨xs, hxs⟩ : ∃ xs, g k = xs := ⟨_, rfl⟩
            obtain ⟨xp, xc⟩ := xs
            rw [hc] at HMK HBAD HKS HAF k0 k1 htg
            rw [hxs] at HAF k1
            dsimp only at HAF k1
            clear hc hxs
            have ha := (Ext.refl wr).alloc (.cells #[.int .u64 (c.tags : Int), .slice xp c.affs.length xc] 45)
            have r0 := (Ext.refl (wr.alloc (.cells #[.int .u64 (c.tags : Int), .slice xp c.affs.length xc] 45))).lt0
            have hya := hy.trans ha
            have hxl := HAF.out.big
            by_cases h8 : c.affs.length ≤ 8
            · go_wp2_with fail
              go_loopw [47] (fun i wr => Ext W2 wr ∧ ∃ j : Nat, j ≤ c.affs.length ∧ i = .int .i64 j ∧ Hid (∀ j', j' < j → affB A (ax c.affs j') = true)) (fun i _ => c.affs.length - (intOf i).toNat)
              case atStart => exact ⟨hya, 0, Nat.zero_le _, rfl, fun j h => absurd h (Nat.not_lt_zero _)⟩
              case round =>
                obtain ⟨hy3, j, hj, rfl, HJ⟩ := hrel
                by_cases hlj : j < c.affs.length
                · obtain ⟨b2, off2, e2, hbw2, x0, x1, x2, x3⟩ := (HAF.out.mono (HX.out.trans hy3)).cells hlj
                  subst e2
                  have hya3 := hy3.trans ((Ext.refl wr).alloc (.cells #[.int .u8 ((ax c.affs j).kind : Int), .string (ax c.affs j).form, .string (ax c.affs j).other, .int .i64 (ax c.affs j).pos] 36))
                  have HMJ := Lib.hid (HMK.out j hlj _ (HX.out.trans hya3))
                  have HJS := Lib.hid (fun (h : affB A (ax c.affs j) = true) j' (h2 : j' < j + 1) => (by
                    rcases Nat.lt_or_ge j' j with h3 | h3
                    · exact HJ.out j' h3
                    · have : j' = j := by omega
                      subst this; exact h : affB A (ax c.affs j') = true))
                  have HNO := Lib.hid (fun h => HBAD.out (cellB_no hlj h))
                  obtain ⟨x, hxx⟩ : ∃ x, ax c.affs j = x := ⟨_, rfl⟩
                  rw [hxx] at HMJ HJS HNO x0 x1 x2 x3 hya3
                  clear hxx
                  have y0 := (Ext.refl (wr.alloc (.cells #[.int .u8 (x.kind : Int), .string x.form, .string x.other, .int .i64 x.pos] 36))).lt0
                  obtain ⟨d0, d1, l0⟩ := HB0.out _ hya3
                  obtain ⟨q, hq⟩ : ∃ q, affB A x = q := ⟨_, rfl⟩
                  have HMQ := Lib.hid (HMJ.out.mono fun e w' h => (⟨by obtain ⟨yv, h1, _⟩ := h.1; rw [hq] at h1; exact ⟨yv, h1⟩, h.2⟩ : (∃ yv, e = .returned (.tuple #[yv, .bool q])) ∧ Ext _ w'))
                  rw [hq] at HJS HNO
                  clear HMJ hq
                  cases q
                  · obtain rfl := HNO.out rfl
                    go_wp2_with fail
                    refine HMQ.out.mono ?_
                    rintro e w5 ⟨⟨yv, rfl⟩, hy5⟩
                    go_wp2_with fail
                    go_ret
                    exact ⟨rfl, HX.out.trans (hya3.trans hy5)⟩
                  · go_wp2_with fail
                    refine HMQ.out.mono ?_
                    rintro e w5 ⟨⟨yv, rfl⟩, hy5⟩
                    go_wp2_with fail
                    exact ⟨⟨hya3.trans hy5, j + 1, by omega, by go_num, HJS.out (by first | trivial | rfl)⟩, by simp [intOf]; omega⟩
                · have hcb := HKS.out (cellB_ok h8 fun j' hj' => HJ.out j' (by omega))
                  have HCB := Lib.hid hcb
                  clear hcb
                  go_wp2_with fail
                  exact ⟨⟨hy3, k + 1, by omega, by go_num, HCB.out⟩, by simp [intOf]; omega⟩
            · obtain rfl := HBAD.out (cellB_many h8)
              go_wp2_with fail
              go_ret
              exact ⟨rfl, HX.out.trans hya⟩
          · obtain rfl := HE4.out (by first | trivial | rfl) hf1 hf2 fun j hj => HK.out j (by omega)
            go_wp2_with fail
            go_ret
            exact ⟨rfl, HX.out.trans hy⟩
      · obtain rfl := HE2.out hfew
        go_enter Tryd.func10, Tryd.ntmps10
        go_wp2_with fail
        refine HCH.out.mono ?_
        rintro e w1 ⟨rfl, hy1⟩
        clear hW2e d0 d1 l0
        obtain ⟨c0, c1, l1⟩ := HB1.out _ hy1
        go_wp2_with fail
        refine (HNM.out _).mono ?_
        rintro e w2 ⟨rfl, hy2⟩
        obtain ⟨c0, c1, l1⟩ := HB1.out _ (hy1.trans hy2)
        rcases (by omega : P.cells.length < 1 ∨ 256 < P.cells.length) with h | h
        · go_wp2_with fail
          go_ret
          exact ⟨rfl, (HX.out.trans hy1).trans hy2⟩
        · go_wp2_with fail
          go_ret
          exact ⟨rfl, (HX.out.trans hy1).trans hy2⟩
  · have HE := Lib.hid (parE_none (P := P) hok)
    rw [HE.out]
    rw [show checkN A = 7 from by unfold checkN; rw [if_neg hok]] at HCH
    go_enter Tryd.func10, Tryd.ntmps10
    go_wp2_with fail
    refine HCH.out.mono ?_
    rintro e w1 ⟨rfl, hy1⟩
    go_wp2_with fail
    go_ret
    exact ⟨rfl, HX.out.trans hy1⟩
end Go.Proofs.YtkmfhcjdaglikaaDoor

namespace Go.Proofs.YtkmfhcjdaglikaaDoor
open Go.RowKit Go.Cg Go.Shelf Go.Maps

theorem oneRes_any {fp ap : Option Addr} {fc ac : Nat} {A : Alpha} {v : Nat} {l : List Int} {E : Int} {w' : World} {mb : Nat} {p : Option Addr} {k : Nat} (h : ConsAt w' mb A v) (h2 : SlAt w' p l k) : OneRes fp ap fc ac A v l E (.returned (.tuple #[.agg #[.slice fp A.feats.length fc, .slice ap A.lets.length ac, .map (some mb)], .slice p l.length k, .int .i64 E])) w' := ⟨fun h0 => ⟨_, _, _, by rw [h0], h, h2⟩, fun _ => ⟨_, _, _, _, _, _, _, _, _, _, rfl⟩⟩

set_option maxRecDepth 100000 in
set_option maxHeartbeats 8000000 in
theorem cell_any (fp ap pp : Option Addr) (fc ac pc : Nat) (A : Alpha) (v : Nat) (hv : v < 4294967296) (P : Para) (g : Nat → Option Addr × Nat) (n : Int) (hnl : -9223372036854775808 ≤ n) (hnh : n ≤ 9223372036854775807) (s : ByteArray) (hs : s.size ≤ 140737488351232) (hn9 : P.name.size ≤ 140737488351232) (hsm : ∀ k, k < P.cells.length → ∀ j, j < (cx P.cells k).affs.length → (ax (cx P.cells k).affs j).small) (w : World) (hA : AlphaAt w fp ap A) (hT : Tabs w) (hP : CellsAt w pp P.cells g) :
    Calls Tryd.prog 32 #[.agg #[.slice fp A.feats.length fc, .slice ap A.lets.length ac], .int .u32 v, .agg #[.string P.name, .slice pp P.cells.length pc], .int .i64 n, .string s] w fun e w' => OneRes fp ap fc ac A v (spell A s).1 (cellE A v P n s) e w' ∧ Ext w w' := by
  have hx0 : Ext w (w.alloc (.cells #[.slice fp A.feats.length fc, .slice ap A.lets.length ac] 26)) := (Ext.refl _).alloc _
  obtain ⟨W1, hW1⟩ : ∃ W1, w.alloc (.cells #[.slice fp A.feats.length fc, .slice ap A.lets.length ac] 26) = W1 := ⟨_, rfl⟩
  have hx1 : Ext W1 (W1.alloc (.cells #[.string P.name, .slice pp P.cells.length pc] 32)) := (Ext.refl _).alloc _
  obtain ⟨W2, hW2⟩ : ∃ W2, W1.alloc (.cells #[.string P.name, .slice pp P.cells.length pc] 32) = W2 := ⟨_, rfl⟩
  have hx2 : Ext W2 (W2.alloc (.cells #[.slice none 0 0, .slice none 0 0, .map none] 74)) := (Ext.refl _).alloc _
  obtain ⟨W3, hW3⟩ : ∃ W3, W2.alloc (.cells #[.slice none 0 0, .slice none 0 0, .map none] 74) = W3 := ⟨_, rfl⟩
  rw [hW1] at hx0
  rw [hW2] at hx1
  rw [hW3] at hx2
  have z1 : W1.heap.size = w.heap.size + 1 := by rw [← hW1, size_alloc]
  have z2 : W2.heap.size = w.heap.size + 1 + 1 := by rw [← hW2, size_alloc, z1]
  have z3 : W3.heap.size = w.heap.size + 1 + 1 + 1 := by rw [← hW3, size_alloc, z2]
  have HB0 := Lib.hid (fun W (hW : Ext W3 W) => (by
    have h := hx1.trans (hx2.trans hW)
    rw [← hW1] at h
    exact ⟨h.cell0 0, h.cell0 1, h.lt0⟩ : W.cell? ⟨w.heap.size, 0, none⟩ = some (.slice fp A.feats.length fc) ∧ W.cell? ⟨w.heap.size, 1, none⟩ = some (.slice ap A.lets.length ac) ∧ w.heap.size < W.heap.size))
  have HB1 := Lib.hid (fun W (hW : Ext W3 W) => (by
    have h := hx2.trans hW
    rw [← hW2] at h
    have c0 := h.cell0 0
    have c1 := h.cell0 1
    have l0 := h.lt0
    rw [z1] at c0 c1 l0
    exact ⟨c0, c1, l0⟩ : W.cell? ⟨w.heap.size + 1, 0, none⟩ = some (.string P.name) ∧ W.cell? ⟨w.heap.size + 1, 1, none⟩ = some (.slice pp P.cells.length pc) ∧ w.heap.size + 1 < W.heap.size))
  have HB2 := Lib.hid (fun W (hW : Ext W3 W) => (by
    refine Box3.ext ⟨?_⟩ hW
    rw [← hW3, ← z2]
    exact heap_alloc_new _ _ : Box3 W (w.heap.size + 1 + 1) (.slice none 0 0) (.slice none 0 0) (.map none) 74))
  have hwW3 : Ext w W3 := hx0.trans (hx1.trans hx2)
  have HX := Lib.hid hwW3
  have hbg := begun_any fp ap fc ac A v hv W3 (hA.mono hwW3)
  have HLT := Lib.hid (fun W (hW : Ext w W) => letters_any fp ap fc ac A s hs W (hA.mono hW) (hT.ext hW))
  have HCHK := Lib.hid (fun W (hW : Ext w W) => pcheck_any fp ap pp fc ac pc A P g hn9 hsm W (hA.mono hW) (hT.ext hW) (hP.mono hW))
  have hcel : cellE A v P n s = if classE A v 0 ≠ 0 then classE A v 0 else if parE A P ≠ 0 then parE A P else if n < 0 ∨ (P.cells.length : Int) ≤ n then 8 else (spell A s).2 := rfl
  have hpb := hP.big
  have hW3e : ((w.alloc (.cells #[.slice fp A.feats.length fc, .slice ap A.lets.length ac] 26)).alloc (.cells #[.string P.name, .slice pp P.cells.length pc] 32)).alloc (.cells #[.slice none 0 0, .slice none 0 0, .map none] 74) = W3 := by rw [hW1, hW2, hW3]
  obtain ⟨d0, d1, l0⟩ := HB0.out _ (Ext.refl _)
  clear hW1 hW2 hW3 hx0 hx1 hx2 z1 z2 hwW3
  have hEN : ∀ p : Nat, W3.heap.size = p → p = w.heap.size + 1 + 1 + 1 := fun p h => by rw [← h, z3]
  by_cases h0 : classE A v 0 = 0
  · rw [h0] at hbg hcel
    rw [if_neg (fun h => h rfl)] at hcel
    have HBG := Lib.hid (hbg.mono fun e w' h => (⟨h.1.1 rfl, h.2⟩ : _ ∧ Ext _ w'))
    clear hbg h0
    obtain ⟨PE, hPE⟩ : ∃ PE, parE A P = PE := ⟨_, rfl⟩
    rw [hPE] at hcel HCHK
    obtain ⟨SP, hSP⟩ : ∃ SP, spell A s = SP := ⟨_, rfl⟩
    obtain ⟨L, EL⟩ := SP
    rw [hSP] at hcel
    have HLT2 := Lib.hid (fun W hW => by have := HLT.out W hW; rw [hSP] at this; exact this)
    rw [hSP]
    clear HLT hSP hPE
    dsimp only at hcel ⊢
    by_cases h1 : PE = 0
    · subst h1
      rw [if_neg (fun h => h rfl)] at hcel
      by_cases h2 : n < 0 ∨ (P.cells.length : Int) ≤ n
      · rw [if_pos h2] at hcel
        rw [hcel]
        clear hcel
        go_enter Tryd.func32, Tryd.ntmps32
        go_wp2_with fail
        refine HBG.out.mono ?_
        rintro e w1 ⟨⟨mb, rfl, hM, hmb⟩, hy1⟩
        clear hW3e d0 d1 l0
        have hb1 := (Ext.refl w1).alloc (.cells #[.slice fp A.feats.length fc, .slice ap A.lets.length ac, .map (some mb)] 74)
        obtain ⟨d0, d1, l0⟩ := HB0.out _ (hy1.trans hb1)
        obtain ⟨c0, c1, l1⟩ := HB1.out _ (hy1.trans hb1)
        have HCK := Lib.hid (HCHK.out _ (HX.out.trans (hy1.trans hb1)))
        have HS1 := Lib.hid (fun W (hW : Ext (w1.alloc (.cells #[.slice fp A.feats.length fc, .slice ap A.lets.length ac, .map (some mb)] 74)) W) => (Box3.ext ⟨heap_alloc_new _ _⟩ hW : Box3 W w1.heap.size (.slice fp A.feats.length fc) (.slice ap A.lets.length ac) (.map (some mb)) 74))
        go_wp2_with fail
        refine HCK.out.mono ?_
        rintro e w2 ⟨rfl, hy2⟩
        have hz2 := hy1.trans (hb1.trans hy2)
        obtain ⟨c0, c1, l1⟩ := HB1.out _ hz2
        obtain ⟨e0, e1, e2, _, _, _, l2⟩ := (HS1.out _ hy2).facts
        obtain ⟨_, _, _, f0, f1, f2, l3⟩ := (HB2.out _ hz2).facts
        have hbk := Lib.hid (set_three (v0 := .slice fp A.feats.length fc) (v1 := .slice ap A.lets.length ac) (v2 := .map (some mb)) (HB2.out _ hz2).blk)
        rcases h2 with h2 | h2
        · go_wp2_with fail
          refine bodyPost_ret (results_cell_row3 rfl _ _ (w.heap.size + 1 + 1) 74 #[.slice fp A.feats.length fc, .slice ap A.lets.length ac, .map (some mb)] (0, 0) _ _ _ rfl hbk.out Tryd.underlying74 rfl (by kernel_rfl) rfl rfl) rfl ⟨oneRes_no (by decide), ?_⟩
          exact (((HX.out.trans hz2).setCell (p := ⟨w.heap.size + 1 + 1, 0, none⟩) (by simp; omega) _).setCell (p := ⟨w.heap.size + 1 + 1, 1, none⟩) (by simp; omega) _).setCell (p := ⟨w.heap.size + 1 + 1, 2, none⟩) (by simp; omega) _
        · go_wp2_with fail
          refine bodyPost_ret (results_cell_row3 rfl _ _ (w.heap.size + 1 + 1) 74 #[.slice fp A.feats.length fc, .slice ap A.lets.length ac, .map (some mb)] (0, 0) _ _ _ rfl hbk.out Tryd.underlying74 rfl (by kernel_rfl) rfl rfl) rfl ⟨oneRes_no (by decide), ?_⟩
          exact (((HX.out.trans hz2).setCell (p := ⟨w.heap.size + 1 + 1, 0, none⟩) (by simp; omega) _).setCell (p := ⟨w.heap.size + 1 + 1, 1, none⟩) (by simp; omega) _).setCell (p := ⟨w.heap.size + 1 + 1, 2, none⟩) (by simp; omega) _
      · rw [if_neg h2] at hcel
        rw [hcel]
        have hn1 : 0 ≤ n := by omega
        have hn2 : n < (P.cells.length : Int) := by omega
        clear hcel h2
        go_enter Tryd.func32, Tryd.ntmps32
        go_wp2_with fail
        refine HBG.out.mono ?_
        rintro e w1 ⟨⟨mb, rfl, hM, hmb⟩, hy1⟩
        clear hW3e d0 d1 l0
        have hb1 := (Ext.refl w1).alloc (.cells #[.slice fp A.feats.length fc, .slice ap A.lets.length ac, .map (some mb)] 74)
        obtain ⟨d0, d1, l0⟩ := HB0.out _ (hy1.trans hb1)
        obtain ⟨c0, c1, l1⟩ := HB1.out _ (hy1.trans hb1)
        have HCK := Lib.hid (HCHK.out _ (HX.out.trans (hy1.trans hb1)))
        have HS1 := Lib.hid (fun W (hW : Ext (w1.alloc (.cells #[.slice fp A.feats.length fc, .slice ap A.lets.length ac, .map (some mb)] 74)) W) => (Box3.ext ⟨heap_alloc_new _ _⟩ hW : Box3 W w1.heap.size (.slice fp A.feats.length fc) (.slice ap A.lets.length ac) (.map (some mb)) 74))
        go_wp2_with fail
        refine HCK.out.mono ?_
        rintro e w2 ⟨rfl, hy2⟩
        have hz2 := hy1.trans (hb1.trans hy2)
        obtain ⟨d0, d1, l0⟩ := HB0.out _ hz2
        obtain ⟨c0, c1, l1⟩ := HB1.out _ hz2
        have HLW := Lib.hid (HLT2.out _ (HX.out.trans hz2))
        go_wp2_with fail
        refine HLW.out.mono ?_
        rintro e w3 ⟨rp, rc, rfl, ho, hy3⟩
        have hz3 := hz2.trans hy3
        have hmn : mb ≠ w.heap.size + 1 + 1 := by have := hEN _ rfl; omega
        have hM3 := hM.mono (hb1.trans (hy2.trans hy3))
        have HM3 := Lib.hid (((MapFn.setCell hM3 (a := ⟨w.heap.size + 1 + 1, 0, none⟩) hmn (.slice fp A.feats.length fc)).setCell (a := ⟨w.heap.size + 1 + 1, 1, none⟩) hmn (.slice ap A.lets.length ac)).setCell (a := ⟨w.heap.size + 1 + 1, 2, none⟩) hmn (.map (some mb)))
        have hne := own_ne ho (b := w.heap.size + 1 + 1) (by have := hz2.le; have := hEN _ rfl; omega)
        have HL3 := Lib.hid (sl_setCell_ne (a := ⟨w.heap.size + 1 + 1, 2, none⟩) (sl_setCell_ne (a := ⟨w.heap.size + 1 + 1, 1, none⟩) (sl_setCell_ne (a := ⟨w.heap.size + 1 + 1, 0, none⟩) (SlAt.own ho) hne (.slice fp A.feats.length fc)) hne (.slice ap A.lets.length ac)) hne (.map (some mb)))
        clear hne hM3 hM ho
        obtain ⟨e0, e1, e2, _, _, _, l2⟩ := (HS1.out _ (hy2.trans hy3)).facts
        obtain ⟨_, _, _, f0, f1, f2, l3⟩ := (HB2.out _ hz3).facts
        have hbk := Lib.hid (set_three (v0 := .slice fp A.feats.length fc) (v1 := .slice ap A.lets.length ac) (v2 := .map (some mb)) (HB2.out _ hz3).blk)
        go_wp2_with fail
        refine bodyPost_ret (results_cell_row3 rfl _ _ (w.heap.size + 1 + 1) 74 #[.slice fp A.feats.length fc, .slice ap A.lets.length ac, .map (some mb)] (0, 0) _ _ _ rfl hbk.out Tryd.underlying74 rfl (by kernel_rfl) rfl rfl) rfl ⟨oneRes_any HM3.out HL3.out, ?_⟩
        exact (((HX.out.trans hz3).setCell (p := ⟨w.heap.size + 1 + 1, 0, none⟩) (by simp; omega) _).setCell (p := ⟨w.heap.size + 1 + 1, 1, none⟩) (by simp; omega) _).setCell (p := ⟨w.heap.size + 1 + 1, 2, none⟩) (by simp; omega) _
    · rw [if_pos h1] at hcel
      rw [hcel]
      have gE : (PE != 0) = true := by rw [bne_iff_ne]; exact h1
      have HNE := Lib.hid h1
      clear hcel h1
      go_enter Tryd.func32, Tryd.ntmps32
      go_wp2_with fail
      refine HBG.out.mono ?_
      rintro e w1 ⟨⟨mb, rfl, hM, hmb⟩, hy1⟩
      clear hW3e d0 d1 l0
      have hb1 := (Ext.refl w1).alloc (.cells #[.slice fp A.feats.length fc, .slice ap A.lets.length ac, .map (some mb)] 74)
      obtain ⟨d0, d1, l0⟩ := HB0.out _ (hy1.trans hb1)
      obtain ⟨c0, c1, l1⟩ := HB1.out _ (hy1.trans hb1)
      have HCK := Lib.hid (HCHK.out _ (HX.out.trans (hy1.trans hb1)))
      have HS1 := Lib.hid (fun W (hW : Ext (w1.alloc (.cells #[.slice fp A.feats.length fc, .slice ap A.lets.length ac, .map (some mb)] 74)) W) => (Box3.ext ⟨heap_alloc_new _ _⟩ hW : Box3 W w1.heap.size (.slice fp A.feats.length fc) (.slice ap A.lets.length ac) (.map (some mb)) 74))
      go_wp2_with fail
      refine HCK.out.mono ?_
      rintro e w2 ⟨rfl, hy2⟩
      have hz2 := hy1.trans (hb1.trans hy2)
      obtain ⟨e0, e1, e2, _, _, _, l2⟩ := (HS1.out _ hy2).facts
      obtain ⟨_, _, _, f0, f1, f2, l3⟩ := (HB2.out _ hz2).facts
      have hbk := Lib.hid (set_three (v0 := .slice fp A.feats.length fc) (v1 := .slice ap A.lets.length ac) (v2 := .map (some mb)) (HB2.out _ hz2).blk)
      go_wp2_with fail
      refine bodyPost_ret (results_cell_row3 rfl _ _ (w.heap.size + 1 + 1) 74 #[.slice fp A.feats.length fc, .slice ap A.lets.length ac, .map (some mb)] (0, 0) _ _ _ rfl hbk.out Tryd.underlying74 rfl (by kernel_rfl) rfl rfl) rfl ⟨oneRes_no HNE.out, ?_⟩
      exact (((HX.out.trans hz2).setCell (p := ⟨w.heap.size + 1 + 1, 0, none⟩) (by simp; omega) _).setCell (p := ⟨w.heap.size + 1 + 1, 1, none⟩) (by simp; omega) _).setCell (p := ⟨w.heap.size + 1 + 1, 2, none⟩) (by simp; omega) _
  · rw [if_pos h0] at hcel
    rw [hcel]
    have gE : (classE A v 0 != 0) = true := by rw [bne_iff_ne]; exact h0
    have HBG := Lib.hid (hbg.mono fun e w' h => (⟨h.1.2 h0, h.2⟩ : _ ∧ Ext _ w'))
    have HNE := Lib.hid h0
    obtain ⟨E, hE⟩ : ∃ E, classE A v 0 = E := ⟨_, rfl⟩
    rw [hE] at HBG gE HNE ⊢
    clear hcel h0 hE hbg HLT HCHK
    go_enter Tryd.func32, Tryd.ntmps32
    go_wp2_with fail
    refine HBG.out.mono ?_
    rintro e w1 ⟨rfl, hy1⟩
    clear hW3e d0 d1 l0
    have hb1 := (Ext.refl w1).alloc (.cells #[.slice none 0 0, .slice none 0 0, .map none] 74)
    have hz2 := hy1.trans hb1
    obtain ⟨e0, e1, e2, _, _, _, l2⟩ := (⟨heap_alloc_new _ _⟩ : Box3 (w1.alloc (.cells #[.slice none 0 0, .slice none 0 0, .map none] 74)) w1.heap.size (.slice none 0 0) (.slice none 0 0) (.map none) 74).facts
    obtain ⟨_, _, _, f0, f1, f2, l3⟩ := (HB2.out _ hz2).facts
    have hbk := Lib.hid (set_three (v0 := .slice none 0 0) (v1 := .slice none 0 0) (v2 := .map none) (HB2.out _ hz2).blk)
    go_wp2_with fail
    refine bodyPost_ret (results_cell_row3 rfl _ _ (w.heap.size + 1 + 1) 74 #[.slice none 0 0, .slice none 0 0, .map none] (0, 0) _ _ _ rfl hbk.out Tryd.underlying74 rfl (by kernel_rfl) rfl rfl) rfl ⟨oneRes_no HNE.out, ?_⟩
    exact (((HX.out.trans hz2).setCell (p := ⟨w.heap.size + 1 + 1, 0, none⟩) (by simp; omega) _).setCell (p := ⟨w.heap.size + 1 + 1, 1, none⟩) (by simp; omega) _).setCell (p := ⟨w.heap.size + 1 + 1, 2, none⟩) (by simp; omega) _
end Go.Proofs.YtkmfhcjdaglikaaDoor

namespace Go.Proofs.YtkmfhcjdaglikaaDoor
open Go.RowKit Go.Cg Go.Shelf Go.Maps

theorem putUp_nil {A : Alpha} {v : Nat} : ∀ {xs : List Aff} {l : List Int}, (putUp A v xs l).2 ≠ 0 → (putUp A v xs l).1 = []
  | [], l, h => absurd rfl h
  | x :: xs, l, h => by
    rw [putUp] at h ⊢
    by_cases h2 : (putC A v x l).2 ≠ 0
    · rw [if_pos h2]
    · rw [if_neg h2] at h ⊢; exact putUp_nil h
theorem form_one {A : Alpha} {v : Nat} {P : Para} {n : Int} {s : ByteArray} (h : cellE A v P n s = 0) : runesBytes (putUp A v (cx P.cells n.toNat).affs (spell A s).1).1 = formS A v P n s ∧ (putUp A v (cx P.cells n.toNat).affs (spell A s).1).2 = formE A v P n s := by
  have e : formE A v P n s = (putUp A v (cx P.cells n.toNat).affs (spell A s).1).2 := by unfold formE; rw [if_neg (fun c => c h)]
  unfold formS
  rw [e]
  by_cases h2 : (putUp A v (cx P.cells n.toNat).affs (spell A s).1).2 = 0
  · rw [if_pos h2]; exact ⟨rfl, rfl⟩
  · rw [if_neg h2, putUp_nil h2]; exact ⟨rfl, rfl⟩
theorem form_no {A : Alpha} {v : Nat} {P : Para} {n : Int} {s : ByteArray} (h : cellE A v P n s ≠ 0) : formE A v P n s = cellE A v P n s ∧ formS A v P n s = ⟨#[]⟩ := by
  have e : formE A v P n s = cellE A v P n s := by unfold formE; rw [if_pos h]
  refine ⟨e, ?_⟩
  unfold formS
  rw [if_neg (by rw [e]; exact h)]

set_option maxRecDepth 100000 in
set_option maxHeartbeats 8000000 in
theorem form_any (fp ap pp : Option Addr) (fc ac pc : Nat) (A : Alpha) (v : Nat) (hv : v < 4294967296) (P : Para) (g : Nat → Option Addr × Nat) (n : Int) (hnl : -9223372036854775808 ≤ n) (hnh : n ≤ 9223372036854775807) (s : ByteArray) (hs : s.size ≤ 140737488351232) (hn9 : P.name.size ≤ 140737488351232) (hsm : ∀ k, k < P.cells.length → ∀ j, j < (cx P.cells k).affs.length → (ax (cx P.cells k).affs j).small) (w : World) (hA : AlphaAt w fp ap A) (hT : Tabs w) (hP : CellsAt w pp P.cells g) :
    Calls Tryd.prog 15 #[.agg #[.slice fp A.feats.length fc, .slice ap A.lets.length ac], .int .u32 v, .agg #[.string P.name, .slice pp P.cells.length pc], .int .i64 n, .string s] w fun e w' => e = .returned (.tuple #[.string (formS A v P n s), .int .i64 (formE A v P n s)]) ∧ Ext w w' := by
  have hx0 : Ext w (w.alloc (.cells #[.slice fp A.feats.length fc, .slice ap A.lets.length ac] 26)) := (Ext.refl _).alloc _
  obtain ⟨W1, hW1⟩ : ∃ W1, w.alloc (.cells #[.slice fp A.feats.length fc, .slice ap A.lets.length ac] 26) = W1 := ⟨_, rfl⟩
  have hx1 : Ext W1 (W1.alloc (.cells #[.string P.name, .slice pp P.cells.length pc] 32)) := (Ext.refl _).alloc _
  obtain ⟨W2, hW2⟩ : ∃ W2, W1.alloc (.cells #[.string P.name, .slice pp P.cells.length pc] 32) = W2 := ⟨_, rfl⟩
  rw [hW1] at hx0
  rw [hW2] at hx1
  have z1 : W1.heap.size = w.heap.size + 1 := by rw [← hW1, size_alloc]
  have HB0 := Lib.hid (fun W (hW : Ext W2 W) => (by
    have h := hx1.trans hW
    rw [← hW1] at h
    exact ⟨h.cell0 0, h.cell0 1, h.lt0⟩ : W.cell? ⟨w.heap.size, 0, none⟩ = some (.slice fp A.feats.length fc) ∧ W.cell? ⟨w.heap.size, 1, none⟩ = some (.slice ap A.lets.length ac) ∧ w.heap.size < W.heap.size))
  have HB1 := Lib.hid (fun W (hW : Ext W2 W) => (by
    have h := hW
    rw [← hW2] at h
    have c0 := h.cell0 0
    have c1 := h.cell0 1
    have l0 := h.lt0
    rw [z1] at c0 c1 l0
    exact ⟨c0, c1, l0⟩ : W.cell? ⟨w.heap.size + 1, 0, none⟩ = some (.string P.name) ∧ W.cell? ⟨w.heap.size + 1, 1, none⟩ = some (.slice pp P.cells.length pc) ∧ w.heap.size + 1 < W.heap.size))
  have hwW2 : Ext w W2 := hx0.trans hx1
  have HX := Lib.hid hwW2
  have hcel := cell_any fp ap pp fc ac pc A v hv P g n hnl hnh s hs hn9 hsm W2 (hA.mono hwW2) (hT.ext hwW2) (hP.mono hwW2)
  have hW2e : (w.alloc (.cells #[.slice fp A.feats.length fc, .slice ap A.lets.length ac] 26)).alloc (.cells #[.string P.name, .slice pp P.cells.length pc] 32) = W2 := by rw [hW1, hW2]
  obtain ⟨d0, d1, l0⟩ := HB0.out _ (Ext.refl _)
  obtain ⟨c0, c1, l1⟩ := HB1.out _ (Ext.refl _)
  clear hW1 hW2 hx0 hx1 z1 hwW2
  by_cases h0 : cellE A v P n s = 0
  · obtain ⟨k1, k2⟩ := form_one h0
    obtain ⟨k3, k4, k5, k6, k7⟩ := cellE_ok h0
    have hok := classE_ok1 k3
    obtain ⟨_, _, hin, h64⟩ := spell_ok k7
    obtain ⟨m, rfl⟩ : ∃ m : Nat, n = (m : Int) := ⟨n.toNat, by omega⟩
    have hm : m < P.cells.length := by omega
    have h8 := ((parB_affs (parE_ok k4).2).2.2.2 m hm)
    rw [Int.toNat_natCast] at k1 k2
    have HSP := Lib.hid (fun lp lc mb W (hW : Ext w W) hM hL => sput_any fp ap lp (g m).1 fc ac lc (g m).2 mb A v (spell A s).1 (cx P.cells m).affs hok hin (Nat.le_trans h64 (by decide)) (fun i hi => hsm m hm i hi) (fun i hi => h8.2 i hi) W (hA.mono hW) (hT.ext hW) hM hL ((hP.affs m hm).mono hW))
    rw [k1, k2] at HSP
    rw [h0] at hcel
    have HON := Lib.hid (hcel.mono fun e w' h => (⟨h.1.1 rfl, h.2⟩ : _ ∧ Ext _ w'))
    obtain ⟨L, hL⟩ : ∃ L, (spell A s).1 = L := ⟨_, rfl⟩
    rw [hL] at HSP HON
    obtain ⟨PS, hPS⟩ : ∃ PS, formS A v P (m : Int) s = PS := ⟨_, rfl⟩
    obtain ⟨PE, hPE⟩ : ∃ PE, formE A v P (m : Int) s = PE := ⟨_, rfl⟩
    rw [hPS, hPE] at HSP ⊢
    have hpb := hP.big
    have HCC := Lib.hid (fun W (hW : Ext w W) => (hP.mono hW).cells hm)
    clear hcel h0 k1 k2 k3 k4 k5 k6 k7 hin h64 hL hPS hPE h8 hok
    go_enter Tryd.func15, Tryd.ntmps15
    go_wp2_with fail
    refine HON.out.mono ?_
    rintro e w1 ⟨⟨mb, rp, rc, rfl, hM, hL⟩, hy1⟩
    clear hW2e d0 d1 l0 c0 c1 l1
    have hb1 := (Ext.refl w1).alloc (.cells #[.slice fp A.feats.length fc, .slice ap A.lets.length ac, .map (some mb)] 74)
    have hz2 := hy1.trans hb1
    obtain ⟨e0, e1, e2, _, _, _, l2⟩ := (⟨heap_alloc_new _ _⟩ : Box3 (w1.alloc (.cells #[.slice fp A.feats.length fc, .slice ap A.lets.length ac, .map (some mb)] 74)) w1.heap.size (.slice fp A.feats.length fc) (.slice ap A.lets.length ac) (.map (some mb)) 74).facts
    obtain ⟨c0, c1, l1⟩ := HB1.out _ hz2
    obtain ⟨b, off, rfl, lb, k0, k1⟩ := HCC.out _ (HX.out.trans hz2)
    have hsp := Lib.hid (fun W (hW : Ext (w1.alloc (.cells #[.slice fp A.feats.length fc, .slice ap A.lets.length ac, .map (some mb)] 74)) W) => HSP.out rp rc mb W (HX.out.trans (hz2.trans hW)) (hM.mono (hb1.trans hW)) (hL.mono (hb1.trans hW)))
    obtain ⟨xs, hxs⟩ : ∃ xs, g m = xs := ⟨_, rfl⟩
    obtain ⟨xp, xc⟩ := xs
    rw [hxs] at hsp k1
    dsimp only at hsp k1
    clear HSP HON hM hL hxs
    go_wp2_with fail
    (refine wp_region_ext (by kernel_rfl) (by kernel_rfl) ?_; intro ι hι g hg; have q_e0 := hg.cell e0; have q_e1 := hg.cell e1; have q_e2 := hg.cell e2; have q_c0 := hg.cell c0; have q_c1 := hg.cell c1; have q_k1 := hg.cell k1; clear e0 e1 e2 c0 c1 k1; (repeat (go_big_quiet_step ((go_at_call 30; exact hg.call (hsp.out _ (hg.ext _)))))); refine wpQuiet_nil ?_; rintro w5 ⟨i2, rfl⟩; have hq5 := hg.ext i2; generalize g i2 = w5 at hq5 ⊢; clear q_e0 q_e1 q_e2 q_c0 q_c1 q_k1 i2 hg g hι ι)
    go_wp2_with fail
    go_ret2
    exact ⟨rfl, HX.out.trans (hz2.trans hq5)⟩
  · obtain ⟨k1, k2⟩ := form_no h0
    rw [k1, k2]
    have HON := Lib.hid (hcel.mono fun e w' h => (⟨h.1.2 h0, h.2⟩ : _ ∧ Ext _ w'))
    have gE : (cellE A v P n s != 0) = true := by rw [bne_iff_ne]; exact h0
    obtain ⟨E, hE⟩ : ∃ E, cellE A v P n s = E := ⟨_, rfl⟩
    rw [hE] at HON gE ⊢
    clear hcel h0 k1 k2 hE
    go_enter Tryd.func15, Tryd.ntmps15
    go_wp2_with fail
    refine HON.out.mono ?_
    rintro e w1 ⟨⟨pa, na, ka, pb, nb, kb, m, p, n, k, rfl⟩, hy1⟩
    clear hW2e d0 d1 l0 c0 c1 l1
    go_wp2_with fail
    go_ret2
    exact ⟨rfl, (HX.out.trans hy1).alloc _⟩
end Go.Proofs.YtkmfhcjdaglikaaDoor

namespace Go.Cg
open Go.RowKit Go.Lib
theorem andNot_iff64 {p q : Nat} (hp : p < 18446744073709551616) (hq : q < 18446744073709551616) : p &&& (18446744073709551615 - q) = 0 ↔ p &&& q = p := by
  have e : ∀ i, (18446744073709551615 - q).testBit i = (decide (i < 64) && !q.testBit i) := fun i => by
    have := Nat.testBit_two_pow_sub_succ (x := q) (n := 64) (by simpa using hq) i
    have h2 : (2 : Nat) ^ 64 - (q + 1) = 18446744073709551615 - q := by rw [show (2 : Nat) ^ 64 = 18446744073709551616 from by decide]; omega
    rw [h2] at this
    exact this
  have hb : ∀ i, p.testBit i = true → i < 64 := fun i hi => by
    rcases Nat.lt_or_ge i 64 with h | h
    · exact h
    · have := Nat.testBit_lt_two_pow (Nat.lt_of_lt_of_le (show p < 2 ^ 64 by simpa using hp) (Nat.pow_le_pow_right (by omega) h))
      rw [this] at hi; cases hi
  constructor
  · intro h
    apply Nat.eq_of_testBit_eq
    intro i
    have h1 := congrArg (fun x => x.testBit i) h
    simp only [Nat.testBit_and, e, Nat.zero_testBit] at h1
    rw [Nat.testBit_and]
    cases hpi : p.testBit i <;> simp [hpi] at h1 ⊢
    exact h1 (hb i hpi)
  · intro h
    apply Nat.eq_of_testBit_eq
    intro i
    have h1 := congrArg (fun x => x.testBit i) h
    simp only [Nat.testBit_and] at h1
    simp only [Nat.testBit_and, e, Nat.zero_testBit]
    cases hpi : p.testBit i <;> simp [hpi] at h1 ⊢
    intro _; exact h1
theorem tag_bits {t c : Nat} (ht : t < 18446744073709551616) (hc : c < 18446744073709551616) : ∃ m : Nat, bits .andNot .u64 (t : Int) (c : Int) = (m : Int) ∧ (m = 0 ↔ t &&& c = t) := ⟨_, u64_andNot_nat t c ht hc, andNot_iff64 ht hc⟩
end Go.Cg
namespace Go.Proofs.YtkmfhcjdaglikaaDoor
open Go.RowKit Go.Cg Go.Shelf Go.Maps

set_option maxRecDepth 100000 in
set_option maxHeartbeats 4000000 in
theorem find_any (pp : Option Addr) (pc : Nat) (P : Para) (g : Nat → Option Addr × Nat) (t : Nat) (ht : t < 18446744073709551616) (w : World) (hP : CellsAt w pp P.cells g) :
    Calls Tryd.prog 20 #[.agg #[.string P.name, .slice pp P.cells.length pc], .int .u64 (t : Int)] w fun e w' => ∃ rp rc, e = .returned (.slice rp (findTo P.cells t P.cells.length).length rc) ∧ w'.ownsRow w.heap.size 3 1 (.slice rp (findTo P.cells t P.cells.length).length rc) (findTo P.cells t P.cells.length).length (intCells (findTo P.cells t P.cells.length)) ∧ Ext w w' := by
  obtain ⟨i0, hi, hz0, hz1, hz2⟩ := info_parts infoI
  have hpb := hP.big
  go_enter Tryd.func20, Tryd.ntmps20
  go_wp2_with fail
  go_loopw [5, 11] (fun out i wr => ∃ k : Nat, k ≤ P.cells.length ∧ i = .int .i64 k ∧ Ext (w.alloc (.cells #[.string P.name, .slice pp P.cells.length pc] 32)) wr ∧ wr.ownsRow (w.heap.size + 1) 3 1 out (findTo P.cells t k).length (intCells (findTo P.cells t k))) (fun _ i _ => P.cells.length - (intOf i).toNat)
  case atStart => exact ⟨0, Nat.zero_le _, rfl, Ext.refl _, World.ownsRow_nil _ _ _ _⟩
  case round =>
    obtain ⟨k, hk, rfl, hx, hown⟩ := hrel
    obtain ⟨rp, rc, rfl⟩ := ownsRow_slice hown
    have hx0 : Ext w wr := ((Ext.refl w).alloc _).trans hx
    by_cases hlt : k < P.cells.length
    · obtain ⟨b, off, e0, hbw, k0, k1⟩ := (hP.mono hx0).cells hlt
      subst e0
      have htg := hP.tags k hlt
      obtain ⟨m, hm1, hm2⟩ := tag_bits ht htg
      have HY := Lib.hid (fun h => findTo_yes (P := P.cells) (t := t) (k := k) h)
      have HN := Lib.hid (fun h => findTo_no (P := P.cells) (t := t) (k := k) h)
      have hlen := findTo_len P.cells t k
      obtain ⟨c, hc⟩ : ∃ c, cx P.cells k = c := ⟨_, rfl⟩
      obtain ⟨xs, hxs⟩ : ∃ xs, g k = xs := ⟨_, rfl⟩
      obtain ⟨xp, xc⟩ := xs
      rw [hc] at HY HN k0 k1 htg hm1 hm2
      rw [hxs] at k1
      dsimp only at k1
      have HM := Lib.hid hm2
      clear hc hxs hm2
      have ha := (Ext.refl wr).alloc (.cells #[.int .u64 (c.tags : Int), .slice xp c.affs.length xc] 45)
      have r0 := (Ext.refl (wr.alloc (.cells #[.int .u64 (c.tags : Int), .slice xp c.affs.length xc] 45))).cell0 0
      have r1 := (Ext.refl (wr.alloc (.cells #[.int .u64 (c.tags : Int), .slice xp c.affs.length xc] 45))).lt0
      simp only [List.getElem?_toArray, List.getElem?_cons_zero] at r0
      have hown2 := ownsRow_ext hown ha
      have hle := hx.le
      rw [size_alloc] at hle
      by_cases hq : t &&& c.tags = t
      · have hm0 : m = 0 := HM.out.2 hq
        subst hm0
        have HS := Lib.hid (HY.out hq)
        clear hown hq
        go_wp2_with (at_builtin; go_loud (refine wpList_append_own _ rfl _ _ 52 rfl (w.heap.size + 1) 3 i0 (.int .i64 0) 1 8 Tryd.underlying52 hi hz0 hz1 hz2 rfl (by decide) _ _ _ rfl (hown2.alloc _) ⟨wr.heap.size + 1, 0, none⟩ 1 1 [.int .i64 k] rfl rfl (by have := one_cell (wr.alloc (.cells #[.int .u64 (c.tags : Int), .slice xp c.affs.length xc] 45)) (.int .i64 k) 3; rw [size_alloc] at this; exact this) (by simp [Value.oneCell']) (by unfold maxLen; omega) (by omega) (by simp; omega) ?_); intro v' w4 hown4 hgrow _)
        refine ⟨⟨k + 1, by omega, by go_num, Ext.append ((hx.trans ha).alloc _) (hown2.alloc _) hgrow (by simp), ?_⟩, by simp [intOf]; omega⟩
        · rw [HS.out, List.length_append, intCells_append]; exact hown4
      · have gm : ((m : Int) == 0) = false := by
          rw [beq_eq_false_iff_ne]; intro h; exact hq (HM.out.1 (by omega))
        have HS := Lib.hid (HN.out hq)
        clear hown hq
        go_wp2_with fail
        refine ⟨⟨k + 1, by omega, by go_num, hx.trans ha, ?_⟩, by simp [intOf]; omega⟩
        rw [HS.out]; exact hown2
    · have e : k = P.cells.length := by omega
      subst e
      go_wp2_with fail
      go_ret
      exact ⟨rp, rc, rfl, ownsRow_base hown (by omega), hx0⟩
end Go.Proofs.YtkmfhcjdaglikaaDoor
