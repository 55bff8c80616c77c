/- Contracts: radical.Radicals, radical.Shape, radical.Skip. -/
import Derived.Test.YtcnhlogkhnoacaaGreatDoorRadb
import Derived.Laws.ResultCell
import Derived.Laws.OwnMore
namespace Go.Cg
open Go.RowKit Go.Lib Go.Maps
theorem set_two {w : World} {b : Nat} {a0 a1 v0 v1 : Value} {T : TypeId} (h : w.heap[b]? = some (.cells #[a0, a1] T (0, 0))) : ((w.setCell ⟨b, 0, none⟩ v0).setCell ⟨b, 1, none⟩ v1).heap[b]? = some (.cells #[v0, v1] T (0, 0)) := by
  have h1 := heap_setCell_same w b 0 _ _ v0 h
  exact heap_setCell_same _ b 1 _ _ v1 h1
theorem MapFn.setCell {P : Program} {w : World} {K E : TypeId} {b n : Nat} {f : Lit → Option Lit} (h : MapFn P w K E b n f) {a : Addr} (ha : b ≠ a.block) (u : Value) : MapFn P (w.setCell a u) K E b n f := by
  obtain ⟨D, hD, hf⟩ := h
  refine ⟨D, ?_, hf⟩
  obtain ⟨es, clock, hb, r⟩ := hD
  exact ⟨es, clock, (heap_setCell_other _ _ _ _ ha).trans hb, r⟩
theorem MapFn.ne_row {P : Program} {w : World} {K E : TypeId} {b n : Nat} {f : Lit → Option Lit} (h : MapFn P w K E b n f) {B g c k m : Nat} {e : TypeId} {xs : List Value} (ho : w.ownsRow B e k (.slice (some ⟨g, 0, none⟩) m c) m xs) : b ≠ g := by
  intro hbg
  subst hbg
  obtain ⟨D, hD, hf⟩ := h
  obtain ⟨es, clock, hb, r⟩ := hD
  rcases ho.2 with ⟨hv, _⟩ | ⟨g', cap, cur, hv, _, hg, _⟩
  · cases hv
  · simp only [Value.slice.injEq, Option.some.injEq, Addr.mk.injEq, true_and, and_true] at hv
    obtain ⟨rfl, _⟩ := hv
    rw [hb] at hg; cases hg
theorem results_cell_row2 {P : Program} {fn : Func} {p u : Tmp} {ty : TypeId} (h : fn.results = #[.cell p ty, .tmp u]) (tmps : Array Value) (w : World) (g : Nat) (t : TypeId) (cs : Array Value) (fr : Nat × Nat) (d : TypeDesc) (v : Value)
    (hp : tmps.getD p undef = .pointer (some ⟨g, 0, none⟩)) (hg : w.heap[g]? = some (.cells cs t fr))
    (hu : P.underlying ty = some d) (hd : (match d with | .struct _ | .array _ _ => true | _ => false) = true) (hi : (P.info? ty).map (·.size) = some cs.size) (hv : tmps.getD u undef = v) :
    (results fn tmps).run P w = .ok (.tuple #[.agg cs, v]) w := by
  rw [results_cell_tmp h, hp, hv]
  simp [asAddr, Result.andThen, run_loadVar_row w g t ty cs fr d hg hu hd hi]
end Go.Cg
namespace Go.Proofs.YtcnhlogkhnoacaaGreatDoor
open Go.RowKit Go.Cg Go.Shelf Go.Maps

def radS (A : Alpha) (s : ByteArray) (p : Nat) : ByteArray := if radE A s p = 0 then runesBytes ((spell A s).1.filter fun r => !hasL A p 0 r) else ⟨#[]⟩
theorem radS_eq (A : Alpha) (s : ByteArray) (p : Nat) : radS A s p = if radE A s p = 0 then runesBytes ((spell A s).1.filter fun r => !hasL A p 0 r) else ⟨#[]⟩ := rfl
def shapeS (A : Alpha) (s : ByteArray) (p : Nat) : ByteArray := if radE A s p = 0 then runesBytes ((spell A s).1.map (holed (hasL A p 0))) else ⟨#[]⟩
theorem shapeS_eq (A : Alpha) (s : ByteArray) (p : Nat) : shapeS A s p = if radE A s p = 0 then runesBytes ((spell A s).1.map (holed (hasL A p 0))) else ⟨#[]⟩ := rfl
theorem zBoolM : (Tryz.prog.info? 4).map (·.zero) = some (some (.bool false)) := by kernel_rfl

set_option maxRecDepth 100000 in
set_option maxHeartbeats 2000000 in
theorem radicals_any (fp lp : Option Addr) (fc lc : Nat) (A : Alpha) (s : ByteArray) (p : Nat) (hs : s.size ≤ 140737488351232) (hp : p < 4294967296) (w : World) (hA : AlphaAt w fp lp A) (hT : Tabs w) :
    Calls Tryz.prog 17 #[.agg #[.slice fp A.feats.length fc, .slice lp A.lets.length lc], .string s, .int .u32 p] w fun e w' => e = .returned (.tuple #[.string (radS A s p), .int .i64 (radE A s p)]) ∧ Ext w w' := by
  have hx3 : Ext w (w.alloc (.cells #[.slice fp A.feats.length fc, .slice lp A.lets.length lc] 25)) := (Ext.refl _).alloc _
  obtain ⟨i0, hi, hz0, hz1, hz2⟩ := info_parts infoR
  have hcon := parted_any fp lp fc lc A s p hs hp _ (hA.mono hx3) (hT.ext hx3)
  have h64 := spell_len A s
  have hfs := radS_eq A s p
  have hpl : radE A s p = 0 → peaksL A s p = peaksTo (spell A s).1 (hasL A p 0) (spell A s).1.length := fun h => by rw [peaksL_eq, if_pos h]
  obtain ⟨F, hF⟩ : ∃ F, radE A s p = F := ⟨_, rfl⟩
  obtain ⟨S, hS⟩ : ∃ S, radS A s p = S := ⟨_, rfl⟩
  obtain ⟨L, hL⟩ : ∃ L, peaksL A s p = L := ⟨_, rfl⟩
  rw [hF] at hfs hcon hpl
  rw [hS] at hfs
  rw [hL] at hcon hpl
  rw [hF, hS]
  clear hF hS hL
  obtain ⟨l, hl⟩ : ∃ l, (spell A s).1 = l := ⟨_, rfl⟩
  rw [hl] at hcon h64 hfs hpl
  clear hl
  by_cases h0 : F = 0
  · subst h0
    rw [if_pos rfl] at hfs
    have hL := hpl rfl
    clear hpl
    subst hL
    obtain ⟨q, hq⟩ : ∃ q, hasL A p 0 = q := ⟨_, rfl⟩
    rw [hq] at hcon hfs
    clear hq
    rw [← keepTo_all] at hfs
    subst hfs
    go_enter Tryz.func17, Tryz.ntmps17
    go_wp2_with (go_at_call 40; refine hcon.mono ?_; rintro e w1 ⟨hok, _, hx1⟩; obtain ⟨lrp, lrc, mb, rfl, ho, hmb, hM⟩ := hok rfl; clear hok)
    go_loopw [11, 27] (fun out i wr => ∃ k : Nat, k ≤ l.length ∧ i = .int .i64 k ∧ Ext w1 wr ∧ wr.ownsRow w1.heap.size 21 1 out (keepTo l q k).length ((keepTo l q k).map (Value.int .i32))) (fun _ i _ => l.length - (intOf i).toNat)
    case atStart => exact ⟨0, Nat.zero_le _, rfl, Ext.refl _, World.ownsRow_nil _ _ _ _⟩
    case round =>
      obtain ⟨k, hk, rfl, hx, hown⟩ := hrel
      obtain ⟨rp, rc, rfl⟩ := ownsRow_slice hown
      by_cases hlt : k < l.length
      · obtain ⟨b, off, e0, hbw, c0⟩ := (ho.at_.mono hx).cells hlt
        subst e0
        have hlen := keepTo_len l q k
        have hlook := (hM.ext hx).look_bool lawI Tryz.underlying104 Tryz.underlying4 zBoolM (keyI (i := k) (by omega)) (set_has (q := q) hlt)
        cases hq : q (rn l k)
        · rw [hq] at hlook
          have HS := Lib.hid (keepTo_yes hlt hq)
          go_wp2_with (at_builtin; go_loud (refine wpList_append_own _ rfl _ _ 36 rfl w1.heap.size 21 i0 (.int .i32 0) 1 4 Tryz.underlying36 hi hz0 hz1 hz2 rfl (by decide) _ _ _ rfl (hown.alloc _) ⟨wr.heap.size, 0, none⟩ 1 1 [.int .i32 (rn l k)] rfl rfl (one_cell _ _ _) (by simp [Value.oneCell']) (by unfold maxLen; omega) (by omega) (by simp; have := hx.le; omega) ?_); intro v' w4 hown4 hgrow _)
          refine ⟨⟨k + 1, by omega, by go_num, Ext.append (hx.alloc _) (hown.alloc _) hgrow (Nat.le_refl _), ?_⟩, by simp [intOf]; omega⟩
          rw [HS.out, List.length_append, List.map_append]; exact hown4
        · rw [hq] at hlook
          have HS := Lib.hid (keepTo_no hlt hq)
          go_wp2_with fail
          refine ⟨⟨k + 1, by omega, by go_num, hx, ?_⟩, by simp [intOf]; omega⟩
          rw [HS.out]; exact hown
      · have e : k = l.length := by omega
        subst e
        have hwf : ∀ r ∈ keepTo l q l.length, -2147483648 ≤ r ∧ r ≤ 2147483647 := fun r hr => by
          obtain ⟨j, hj, e⟩ := List.getElem_of_mem (keepTo_mem hr)
          have := ho.2.2 j hj
          rwa [rn_eq hj, e] at this
        have hor : OwnRunes 21 w1.heap.size wr rp rc (keepTo l q l.length) := ⟨hown, by have := keepTo_len l q l.length; omega, mem_rn hwf⟩
        have hcv := hor.at_.text (P := Tryz.prog) (src := 36) (dst := 9) Tryz.underlying36 Tryz.underlying21 Tryz.underlying9 rc
        go_wp2_with fail
        go_ret2
        exact ⟨rfl, (hx3.trans hx1).trans hx⟩
  · have hn : (F != 0) = true := by rw [bne_iff_ne]; exact h0
    rw [if_neg h0] at hfs
    subst hfs
    go_enter Tryz.func17, Tryz.ntmps17
    go_wp2_with (go_at_call 40; refine hcon.mono ?_; rintro e w1 ⟨_, hno, hx1⟩; obtain rfl := hno h0)
    go_ret2
    exact ⟨rfl, hx3.trans hx1⟩

set_option maxRecDepth 100000 in
set_option maxHeartbeats 2000000 in
theorem shape_any (fp lp : Option Addr) (fc lc : Nat) (A : Alpha) (s : ByteArray) (p : Nat) (hs : s.size ≤ 140737488351232) (hp : p < 4294967296) (w : World) (hA : AlphaAt w fp lp A) (hT : Tabs w) :
    Calls Tryz.prog 18 #[.agg #[.slice fp A.feats.length fc, .slice lp A.lets.length lc], .string s, .int .u32 p] w fun e w' => e = .returned (.tuple #[.agg #[.string ⟨#[]⟩, .string (shapeS A s p)], .int .i64 (radE A s p)]) ∧ Ext w w' := by
  have hx4 : Ext w ((w.alloc (.cells #[.slice fp A.feats.length fc, .slice lp A.lets.length lc] 25)).alloc (.cells #[.string ⟨#[]⟩, .string ⟨#[]⟩] 41)) := ((Ext.refl _).alloc _).alloc _
  have hcon := parted_any fp lp fc lc A s p hs hp _ (hA.mono hx4) (hT.ext hx4)
  have h64 := spell_len A s
  have hfs := shapeS_eq A s p
  have hpl : radE A s p = 0 → peaksL A s p = peaksTo (spell A s).1 (hasL A p 0) (spell A s).1.length := fun h => by rw [peaksL_eq, if_pos h]
  obtain ⟨F, hF⟩ : ∃ F, radE A s p = F := ⟨_, rfl⟩
  obtain ⟨S, hS⟩ : ∃ S, shapeS A s p = S := ⟨_, rfl⟩
  obtain ⟨L, hL⟩ : ∃ L, peaksL A s p = L := ⟨_, rfl⟩
  rw [hF] at hfs hcon hpl
  rw [hS] at hfs
  rw [hL] at hcon hpl
  rw [hF, hS]
  clear hF hS hL
  obtain ⟨l, hl⟩ : ∃ l, (spell A s).1 = l := ⟨_, rfl⟩
  rw [hl] at hcon h64 hfs hpl
  clear hl
  have hcell : ((w.alloc (.cells #[.slice fp A.feats.length fc, .slice lp A.lets.length lc] 25)).alloc (.cells #[.string ⟨#[]⟩, .string ⟨#[]⟩] 41)).heap[w.heap.size + 1]? = some (.cells #[.string ⟨#[]⟩, .string ⟨#[]⟩] 41 (0, 0)) := heap_alloc2_new _ _ _
  obtain ⟨W0, hW0⟩ : ∃ W0, (w.alloc (.cells #[.slice fp A.feats.length fc, .slice lp A.lets.length lc] 25)).alloc (.cells #[.string ⟨#[]⟩, .string ⟨#[]⟩] 41) = W0 := ⟨_, rfl⟩
  have hsz0 : W0.heap.size = w.heap.size + 1 + 1 := by rw [← hW0, size_alloc, size_alloc]
  have HW0 := Lib.hid hW0
  clear hW0
  by_cases h0 : F = 0
  · subst h0
    rw [if_pos rfl] at hfs
    have hL := hpl rfl
    clear hpl
    subst hL
    obtain ⟨q, hq⟩ : ∃ q, hasL A p 0 = q := ⟨_, rfl⟩
    rw [hq] at hcon hfs
    clear hq
    rw [← holesTo_all] at hfs
    subst hfs
    go_enter Tryz.func18, Tryz.ntmps18
    go_wp2_with (go_at_call 40; refine hcon.mono ?_; rintro e w1 ⟨hok, _, hx1⟩; obtain ⟨lrp, lrc, mb, rfl, ho, hmb, hM⟩ := hok rfl; clear hok)
    rw [HW0.out] at ho hmb hx1 hx4 hcell
    clear hcon
    have hlg : 0 < l.length → ∃ g, lrp = some ⟨g, 0, none⟩ ∧ l.length ≤ lrc ∧ W0.heap.size ≤ g := OwnRunes_some ho
    have hwf0 := ho.2.2
    go_loopw [26] (fun i wr => ∃ k : Nat, k ≤ l.length ∧ i = .int .i64 k ∧ Ext W0 wr ∧ wr.ownsRow W0.heap.size 21 1 (.slice lrp l.length lrc) l.length ((holesTo l q k).map (Value.int .i32)) ∧ MapFn Tryz.prog wr 3 4 mb (peaksTo l q l.length).length (setTo (peaksTo l q l.length) (peaksTo l q l.length).length)) (fun i _ => l.length - (intOf i).toNat)
    case atStart => exact ⟨0, Nat.zero_le _, rfl, hx1, ho.1, hM⟩
    case round =>
      clear hM ho
      obtain ⟨k, hk, rfl, hx, hown, hM⟩ := hrel
      by_cases hlt : k < l.length
      · obtain ⟨g, e0, hgc, hgb⟩ := hlg (by omega)
        subst e0
        have hne := hM.ne_row hown
        have hlook := hM.look_bool lawI Tryz.underlying104 Tryz.underlying4 zBoolM (keyI (i := k) (by omega)) (set_has (q := q) hlt)
        cases hq : q (rn l k)
        · rw [hq] at hlook
          have hst : (holesTo l q (k + 1)).map (Value.int .i32) = ((holesTo l q k).map (Value.int .i32)).set k (.int .i32 95) := by rw [holesTo_no hlt hq, List.map_set]
          have HS := Lib.hid hst
          clear hst
          have c0 := hown.cellAt k (by omega)
          have f0 := hown.frozenAt k
          have hlw := (hown.lt g rfl).1
          rw [List.getElem?_map, List.getElem?_eq_getElem (by rw [holesTo_len hk]; exact hlt)] at c0
          go_wp2_with fail
          refine ⟨⟨k + 1, by omega, by go_num, hx.setCell hgb _, ?_, hM.setCell hne _⟩, by simp [intOf]; omega⟩
          rw [HS.out]; exact (hown.stored k _).1
        · rw [hq] at hlook
          have HS := Lib.hid (holesTo_yes hlt hq)
          go_wp2_with fail
          refine ⟨⟨k + 1, by omega, by go_num, hx, ?_, hM⟩, by simp [intOf]; omega⟩
          rw [HS.out]; exact hown
      · have e : k = l.length := by omega
        subst e
        have hlen : (holesTo l q l.length).length = l.length := holesTo_len (Nat.le_refl _)
        have hwf : ∀ r ∈ holesTo l q l.length, -2147483648 ≤ r ∧ r ≤ 2147483647 := fun r hr => by
          rw [holesTo_all] at hr
          obtain ⟨x, hx, rfl⟩ := List.mem_map.1 hr
          unfold holed
          split
          · obtain ⟨j, hj, e⟩ := List.getElem_of_mem hx
            have := hwf0 j hj
            rwa [rn_eq hj, e] at this
          · omega
        have hor : OwnRunes 21 W0.heap.size wr lrp lrc (holesTo l q l.length) := ⟨by rw [hlen]; exact hown, by omega, mem_rn hwf⟩
        have hcv := hor.at_.text (P := Tryz.prog) (src := 36) (dst := 9) Tryz.underlying36 Tryz.underlying21 Tryz.underlying9 lrc
        rw [hlen] at hcv
        have hcw := (Below.block hx (w.heap.size + 1) (by omega)).trans hcell
        have e0 : wr.cell? ⟨w.heap.size + 1, 0, none⟩ = some (.string ⟨#[]⟩) := by rw [Lib.cell_of_heap hcw]; rfl
        have e1 : wr.cell? ⟨w.heap.size + 1, 1, none⟩ = some (.string ⟨#[]⟩) := by rw [Lib.cell_of_heap hcw]; rfl
        have f0 := Lib.frozen_of_heap hcw 0
        have f1 := Lib.frozen_of_heap hcw 1
        have hlw := (Array.getElem?_eq_some_iff.1 hcw).1
        go_wp2_with fail
        refine bodyPost_ret (results_cell_row2 rfl _ _ (w.heap.size + 1) 41 #[.string ⟨#[]⟩, .string (runesBytes (holesTo l q l.length))] (0, 0) _ _ rfl (set_two hcw) Tryz.underlying41 rfl (by kernel_rfl) rfl) rfl ⟨rfl, ?_⟩
        exact ((hx4.trans hx).setCell (p := ⟨w.heap.size + 1, 0, none⟩) (by simp) _).setCell (p := ⟨w.heap.size + 1, 1, none⟩) (by simp) _
  · have hn : (F != 0) = true := by rw [bne_iff_ne]; exact h0
    rw [if_neg h0] at hfs
    subst hfs
    go_enter Tryz.func18, Tryz.ntmps18
    rw [HW0.out] at hx4 hcell
    go_wp2_with (go_at_call 40; refine hcon.mono ?_; rintro e w1 ⟨_, hno, hx1⟩; obtain rfl := hno h0; rw [HW0.out] at hx1; have hcw := (Below.block hx1 (w.heap.size + 1) (by omega)).trans hcell; have e0 : w1.cell? ⟨w.heap.size + 1, 0, none⟩ = some (.string ⟨#[]⟩) := (by rw [Lib.cell_of_heap hcw]; rfl); have e1 : w1.cell? ⟨w.heap.size + 1, 1, none⟩ = some (.string ⟨#[]⟩) := (by rw [Lib.cell_of_heap hcw]; rfl); have f0 := Lib.frozen_of_heap hcw 0; have f1 := Lib.frozen_of_heap hcw 1; have hlw := (Array.getElem?_eq_some_iff.1 hcw).1)
    refine bodyPost_ret (results_cell_row2 rfl _ _ (w.heap.size + 1) 41 #[.string ⟨#[]⟩, .string ⟨#[]⟩] (0, 0) _ _ rfl (set_two hcw) Tryz.underlying41 rfl (by kernel_rfl) rfl) rfl ⟨rfl, ?_⟩
    exact ((hx4.trans hx1).setCell (p := ⟨w.heap.size + 1, 0, none⟩) (by simp) _).setCell (p := ⟨w.heap.size + 1, 1, none⟩) (by simp) _

end Go.Proofs.YtcnhlogkhnoacaaGreatDoor
