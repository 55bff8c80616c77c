/- The law RadicalNames, walked. -/
import Derived.Test.YtnngljflnfjppaaDoorRadn
import Derived.Test.YtnngljflnfjppaaDoorRadl
import Derived.Test.YtnngljflnfjppaaDoorRadf
import Derived.Test.YtnngljflnfjppaaDoorLitz
namespace Go.Cg
open Go.RowKit
/-- the cells of a row of shapes -/
def shapeRow (L : List (ByteArray × ByteArray)) : List Value := L.flatMap fun s => [.string s.1, .string s.2]
theorem shapeRow_at : ∀ (L : List (ByteArray × ByteArray)) (j : Nat), j < L.length * 2 → (shapeRow L)[j]? = some (if j % 2 = 0 then .string (sName L (j / 2)) else .string (sForm L (j / 2)))
  | [], j, h => by simp at h
  | x :: L, j, h => by
    have e : shapeRow (x :: L) = .string x.1 :: .string x.2 :: shapeRow L := rfl
    rw [e]
    match j, h with
    | 0, _ => rfl
    | 1, _ => rfl
    | j + 2, h =>
      have h2 : j < L.length * 2 := by simp only [List.length_cons] at h; omega
      have ih := shapeRow_at L j h2
      simp only [List.getElem?_cons_succ]
      rw [ih, show (j + 2) % 2 = j % 2 by omega, show (j + 2) / 2 = j / 2 + 1 by omega]
      rfl
theorem shapes_lit {W : World} {b : Nat} {T : TypeId} {L : List (ByteArray × ByteArray)} (hl : W.heap[b]? = some (.cells (shapeRow L).toArray T (0, 0))) (hn : L.length ≤ 1000) (hs : ∀ i : Fin L.length, (sName L i).size ≤ 140737488351232 ∧ (sForm L i).size ≤ 140737488351232) : ShapesAt W (some ⟨b, 0, none⟩) L :=
  ⟨reads_heap hl (fun j hj => by rw [Nat.zero_add, List.getElem?_toArray]; exact shapeRow_at L j hj), by omega, fun i hi => hs ⟨i, hi⟩⟩
end Go.Cg
namespace Go.Proofs.YtnngljflnfjppaaDoor
open Go.RowKit Go.Cg Go.Shelf Go.Maps

def radL3 : List (ByteArray × ByteArray) := [(⟨#[]⟩, ⟨#[95, 97, 95, 97, 95]⟩), (⟨#[]⟩, ⟨#[95, 95, 95, 95, 95]⟩), (⟨#[]⟩, ⟨#[107, 97, 95, 97, 95]⟩)]
set_option maxRecDepth 100000 in
theorem rn1e : mergeE letA ⟨#[107, 116]⟩ ⟨#[]⟩ ⟨#[95, 97, 95, 97, 95]⟩ = 130 := by decide +kernel
set_option maxRecDepth 100000 in
theorem rn1s : mergeS letA ⟨#[107, 116]⟩ ⟨#[]⟩ ⟨#[95, 97, 95, 97, 95]⟩ = ⟨#[]⟩ := by decide +kernel
set_option maxRecDepth 100000 in
theorem rn2e : splitE letA ⟨#[107, 105, 116, 97, 98]⟩ ⟨#[]⟩ ⟨#[95, 97, 95, 97, 95]⟩ = 0 := by decide +kernel
set_option maxRecDepth 100000 in
theorem rn2b : splitB letA ⟨#[107, 105, 116, 97, 98]⟩ ⟨#[]⟩ ⟨#[95, 97, 95, 97, 95]⟩ = false := by decide +kernel
set_option maxRecDepth 100000 in
theorem rn2s : splitS letA ⟨#[107, 105, 116, 97, 98]⟩ ⟨#[]⟩ ⟨#[95, 97, 95, 97, 95]⟩ = ⟨#[]⟩ := by decide +kernel
set_option maxRecDepth 100000 in
theorem rn3e : splitE letA ⟨#[107, 97, 116, 97]⟩ ⟨#[]⟩ ⟨#[95, 97, 95, 97, 95]⟩ = 0 := by decide +kernel
set_option maxRecDepth 100000 in
theorem rn3b : splitB letA ⟨#[107, 97, 116, 97]⟩ ⟨#[]⟩ ⟨#[95, 97, 95, 97, 95]⟩ = false := by decide +kernel
set_option maxRecDepth 100000 in
theorem rn3s : splitS letA ⟨#[107, 97, 116, 97]⟩ ⟨#[]⟩ ⟨#[95, 97, 95, 97, 95]⟩ = ⟨#[]⟩ := by decide +kernel
set_option maxRecDepth 100000 in
theorem rn4e : allE letA ⟨#[107, 97, 116, 97, 98]⟩ radL3 = 0 := by decide +kernel
set_option maxRecDepth 100000 in
theorem rn4r : allR letA ⟨#[107, 97, 116, 97, 98]⟩ radL3 = [⟨#[107, 116, 98]⟩, ⟨#[107, 97, 116, 97, 98]⟩, ⟨#[116, 98]⟩] := by decide +kernel
set_option maxRecDepth 100000 in
theorem rn4i : allI letA ⟨#[107, 97, 116, 97, 98]⟩ radL3 = [0, 1, 2] := by decide +kernel
set_option maxRecDepth 100000 in
theorem rn5h : txtHoles ⟨#[95, 97, 95, 97, 95]⟩ = 3 := by decide +kernel
set_option maxRecDepth 100000 in
theorem rn6e : radE letA ⟨#[107, 97, 116, 97, 98]⟩ 1 = 0 := by decide +kernel
set_option maxRecDepth 100000 in
theorem rn6s : radS letA ⟨#[107, 97, 116, 97, 98]⟩ 1 = ⟨#[107, 116, 98]⟩ := by decide +kernel
set_option maxRecDepth 100000 in
theorem rn8e : radE letA ⟨#[97, 97]⟩ 1 = 0 := by decide +kernel
set_option maxRecDepth 100000 in
theorem rn8s : radS letA ⟨#[97, 97]⟩ 1 = ⟨#[]⟩ := by decide +kernel
set_option maxRecDepth 100000 in
theorem rn9e : radE letA ⟨#[107, 116, 98]⟩ 2 = 20 := by decide +kernel
set_option maxRecDepth 100000 in
theorem rn9s : radS letA ⟨#[107, 116, 98]⟩ 2 = ⟨#[]⟩ := by decide +kernel
set_option maxRecDepth 100000 in
theorem rn7s : shapeS letA ⟨#[107, 97, 116, 97, 98]⟩ 1 = ⟨#[95, 97, 95, 97, 95]⟩ := by decide +kernel
set_option maxRecDepth 100000 in
theorem rn11e : skE letA ⟨#[107, 116, 98]⟩ ⟨#[107, 97, 116, 97, 98]⟩ = 0 := by decide +kernel
set_option maxRecDepth 100000 in
theorem rn11b : skB letA ⟨#[107, 116, 98]⟩ ⟨#[107, 97, 116, 97, 98]⟩ = true := by decide +kernel
set_option maxRecDepth 100000 in
theorem rn11l : skL letA ⟨#[107, 116, 98]⟩ ⟨#[107, 97, 116, 97, 98]⟩ = [0, 2, 4] := by decide +kernel
set_option maxRecDepth 100000 in
theorem rn12e : skE letA ⟨#[116, 107]⟩ ⟨#[107, 97, 116, 97, 98]⟩ = 0 := by decide +kernel
set_option maxRecDepth 100000 in
theorem rn12b : skB letA ⟨#[116, 107]⟩ ⟨#[107, 97, 116, 97, 98]⟩ = false := by decide +kernel
set_option maxRecDepth 100000 in
theorem rn12l : skL letA ⟨#[116, 107]⟩ ⟨#[107, 97, 116, 97, 98]⟩ = [] := by decide +kernel
set_option maxRecDepth 100000 in
theorem rn13e : skE letA ⟨#[]⟩ ⟨#[107]⟩ = 0 := by decide +kernel
set_option maxRecDepth 100000 in
theorem rn13b : skB letA ⟨#[]⟩ ⟨#[107]⟩ = true := by decide +kernel
set_option maxRecDepth 100000 in
theorem rn13l : skL letA ⟨#[]⟩ ⟨#[107]⟩ = [] := by decide +kernel
set_option maxRecDepth 100000 in
theorem rn14a : shapeE letA ⟨#[]⟩ ⟨#[120]⟩ = 130 := by decide +kernel
set_option maxRecDepth 100000 in
theorem rn14b : shapeE letA ⟨#[65]⟩ ⟨#[]⟩ = 130 := by decide +kernel

set_option maxRecDepth 100000 in
set_option maxHeartbeats 8000000 in
theorem radicalNames_any (w : World) (hT : Tabs w) : Calls Tryd.prog 7 #[] w fun e w' => e = .returned (.bool true) ∧ Ext w w' := by
  have c1 := fun fp lp fc lc W hA hT => merge_any fp lp fc lc letA ⟨#[107, 116]⟩ ⟨#[]⟩ ⟨#[95, 97, 95, 97, 95]⟩ (by decide) (by decide) (by decide) W hA hT
  rw [rn1e, rn1s] at c1
  have C1 := Lib.hid c1
  clear c1
  have c2 := fun fp lp fc lc W hA hT => split_word_any fp lp fc lc letA ⟨#[107, 105, 116, 97, 98]⟩ ⟨#[]⟩ ⟨#[95, 97, 95, 97, 95]⟩ (by decide) (by decide) (by decide) W hA hT
  rw [rn2e, rn2b, rn2s] at c2
  have C2 := Lib.hid c2
  clear c2
  have c3 := fun fp lp fc lc W hA hT => split_word_any fp lp fc lc letA ⟨#[107, 97, 116, 97]⟩ ⟨#[]⟩ ⟨#[95, 97, 95, 97, 95]⟩ (by decide) (by decide) (by decide) W hA hT
  rw [rn3e, rn3b, rn3s] at c3
  have C3 := Lib.hid c3
  clear c3
  have c4 := fun fp lp fc lc sp sc W hA hT hL => all_any13 fp lp sp fc lc sc letA ⟨#[107, 97, 116, 97, 98]⟩ radL3 (by decide) W hA hT hL
  rw [rn4e, rn4r, rn4i] at c4
  have C4 := Lib.hid c4
  clear c4
  have c5 := fun W => holes_any ⟨#[]⟩ ⟨#[95, 97, 95, 97, 95]⟩ W
  rw [rn5h] at c5
  have C5 := Lib.hid c5
  clear c5
  have c6 := fun fp lp fc lc W hA hT => radicals_any fp lp fc lc letA ⟨#[107, 97, 116, 97, 98]⟩ 1 (by decide) (by decide) W hA hT
  rw [rn6e, rn6s] at c6
  have C6 := Lib.hid c6
  clear c6
  have c7 := fun fp lp fc lc W hA hT => shape_any fp lp fc lc letA ⟨#[107, 97, 116, 97, 98]⟩ 1 (by decide) (by decide) W hA hT
  rw [rn6e, rn7s] at c7
  have C7 := Lib.hid c7
  clear c7
  have c8 := fun fp lp fc lc W hA hT => radicals_any fp lp fc lc letA ⟨#[97, 97]⟩ 1 (by decide) (by decide) W hA hT
  rw [rn8e, rn8s] at c8
  have C8 := Lib.hid c8
  clear c8
  have c9 := fun fp lp fc lc W hA hT => radicals_any fp lp fc lc letA ⟨#[107, 116, 98]⟩ 2 (by decide) (by decide) W hA hT
  rw [rn9e, rn9s] at c9
  have C9 := Lib.hid c9
  clear c9
  have c11 := fun fp lp fc lc W hA hT => skip_any fp lp fc lc letA ⟨#[107, 116, 98]⟩ ⟨#[107, 97, 116, 97, 98]⟩ (by decide) (by decide) W hA hT
  rw [rn11e, rn11b, rn11l] at c11
  have C11 := Lib.hid c11
  clear c11
  have c12 := fun fp lp fc lc W hA hT => skip_any fp lp fc lc letA ⟨#[116, 107]⟩ ⟨#[107, 97, 116, 97, 98]⟩ (by decide) (by decide) W hA hT
  rw [rn12e, rn12b, rn12l] at c12
  have C12 := Lib.hid c12
  clear c12
  have c13 := fun fp lp fc lc W hA hT => skip_any fp lp fc lc letA ⟨#[]⟩ ⟨#[107]⟩ (by decide) (by decide) W hA hT
  rw [rn13e, rn13b, rn13l] at c13
  have C13 := Lib.hid c13
  clear c13
  have c14 := fun fp lp fc lc W hA hT => shapeCheck_any fp lp fc lc letA ⟨#[]⟩ ⟨#[120]⟩ (by decide) (by decide) W hA hT
  rw [rn14a] at c14
  have C14 := Lib.hid c14
  clear c14
  have c15 := fun fp lp fc lc W hA hT => shapeCheck_any fp lp fc lc letA ⟨#[65]⟩ ⟨#[]⟩ (by decide) (by decide) W hA hT
  rw [rn14b] at c15
  have C15 := Lib.hid c15
  clear c15
  go_enter Tryd.func7, Tryd.ntmps7
  have hy0 : Ext w w := Ext.refl _
  go_wp2_with fail
  refine (letters13_any _).mono ?_
  rintro e w1 ⟨fp, lp, fc, lc, rfl, hA, hx⟩
  have hy1 : Ext w w1 := hy0.trans hx
  clear hx
  have hqA : Ext w1 w1 := Ext.refl _
  go_wp2_with fail
  refine (shape13_any ⟨#[95, 97, 95, 97, 95]⟩ _).mono ?_
  rintro e w2 ⟨rfl, hx⟩
  have hy2 : Ext w w2 := hy1.trans hx
  replace hqA := hqA.trans hx
  clear hx
  go_wp2_with fail
  refine (C1.out fp lp fc lc _ (hA.mono hqA) (hT.ext hy2)).mono ?_
  rintro e w3 ⟨rfl, hx⟩
  have hy3 : Ext w w3 := hy2.trans hx
  replace hqA := hqA.trans hx
  clear hx
  clear hA hqA
  go_wp2_with fail
  refine (letters13_any _).mono ?_
  rintro e w4 ⟨fp, lp, fc, lc, rfl, hA, hx⟩
  have hy4 : Ext w w4 := hy3.trans hx
  clear hx
  have hqA : Ext w4 w4 := Ext.refl _
  go_wp2_with fail
  refine (shape13_any ⟨#[95, 97, 95, 97, 95]⟩ _).mono ?_
  rintro e w5 ⟨rfl, hx⟩
  have hy5 : Ext w w5 := hy4.trans hx
  replace hqA := hqA.trans hx
  clear hx
  go_wp2_with fail
  refine (C2.out fp lp fc lc _ (hA.mono hqA) (hT.ext hy5)).mono ?_
  rintro e w6 ⟨rfl, hx⟩
  have hy6 : Ext w w6 := hy5.trans hx
  replace hqA := hqA.trans hx
  clear hx
  clear hA hqA
  go_wp2_with fail
  refine (letters13_any _).mono ?_
  rintro e w7 ⟨fp, lp, fc, lc, rfl, hA, hx⟩
  have hy7 : Ext w w7 := hy6.trans hx
  clear hx
  have hqA : Ext w7 w7 := Ext.refl _
  go_wp2_with fail
  refine (shape13_any ⟨#[95, 97, 95, 97, 95]⟩ _).mono ?_
  rintro e w8 ⟨rfl, hx⟩
  have hy8 : Ext w w8 := hy7.trans hx
  replace hqA := hqA.trans hx
  clear hx
  go_wp2_with fail
  refine (C3.out fp lp fc lc _ (hA.mono hqA) (hT.ext hy8)).mono ?_
  rintro e w9 ⟨rfl, hx⟩
  have hy9 : Ext w w9 := hy8.trans hx
  replace hqA := hqA.trans hx
  clear hx
  clear hA hqA
  go_wp2_with fail
  refine (letters13_any _).mono ?_
  rintro e w10 ⟨fp, lp, fc, lc, rfl, hA, hx⟩
  have hy10 : Ext w w10 := hy9.trans hx
  clear hx
  have hqA : Ext w10 w10 := Ext.refl _
  go_wp2_with fail
  refine (shape13_any ⟨#[95, 97, 95, 97, 95]⟩ _).mono ?_
  rintro e w11 ⟨rfl, hx⟩
  have hy11 : Ext w w11 := hy10.trans hx
  replace hqA := hqA.trans hx
  clear hx
  go_wp2_with fail
  refine (shape13_any ⟨#[95, 95, 95, 95, 95]⟩ _).mono ?_
  rintro e w12 ⟨rfl, hx⟩
  have hy12 : Ext w w12 := hy11.trans hx
  replace hqA := hqA.trans hx
  clear hx
  go_wp2_with fail
  refine (shape13_any ⟨#[107, 97, 95, 97, 95]⟩ _).mono ?_
  rintro e w13 ⟨rfl, hx⟩
  have hy13 : Ext w w13 := hy12.trans hx
  replace hqA := hqA.trans hx
  clear hx
  go_wp2_with fail
  refine (C4.out fp lp fc lc (some ⟨w13.heap.size, 0, none⟩) 3 _ (hA.mono (hqA.alloc _)) (hT.ext (hy13.alloc _)) (shapes_lit (L := radL3) (heap_alloc_new w13 _) (by decide) (by decide))).mono ?_
  rintro e w14 ⟨rp, rc, ip, ic, rfl, hr4, hi4, hx⟩
  have hy14 : Ext w w14 := (hy13.alloc _).trans hx
  replace hqA := (hqA.alloc _).trans hx
  clear hx
  clear hA hqA
  have hrr := ownsRow_reads hr4 (f := fun j => .string (([⟨#[107, 116, 98]⟩, ⟨#[107, 97, 116, 97, 98]⟩, ⟨#[116, 98]⟩] : List ByteArray).getD j ByteArray.empty)) (fun j hj => by
    have hj' : j < 3 := by simpa using hj
    match j, hj' with
    | 0, _ => rfl
    | 1, _ => rfl
    | 2, _ => rfl)
  have hri := ownsRow_reads hi4 (f := fun j => .int .i64 ((nth [0, 1, 2] j : Nat) : Int)) (fun j hj => intCells_at (by simpa using hj))
  obtain ⟨br, or_, rfl, hbr, hcr⟩ := hrr.cells_ (j := 0) (by decide)
  obtain ⟨bi, oi, rfl, hbi, hci⟩ := hri.cells_ (j := 0) (by decide)
  have r0 := hcr 0 (by decide)
  have r1 := hcr 1 (by decide)
  have r2 := hcr 2 (by decide)
  have i2 := hci 2 (by decide)
  simp only [List.getD_cons_zero, List.getD_cons_succ] at r0 r1 r2
  rw [show nth [0, 1, 2] 2 = 2 from rfl] at i2
  rw [Nat.add_zero] at r0
  clear hrr hri hcr hci hr4 hi4
  go_wp2_with fail
  refine (shape13_any ⟨#[95, 97, 95, 97, 95]⟩ _).mono ?_
  rintro e w15 ⟨rfl, hx⟩
  have hy15 : Ext w w15 := hy14.trans hx
  clear hx
  go_wp2_with fail
  refine (C5.out _).mono ?_
  rintro e w16 ⟨rfl, hx⟩
  have hy16 : Ext w w16 := hy15.trans hx
  clear hx
  clear r0 r1 r2 i2
  go_wp2_with fail
  refine (letters13_any _).mono ?_
  rintro e w17 ⟨fp, lp, fc, lc, rfl, hA, hx⟩
  have hy17 : Ext w w17 := hy16.trans hx
  clear hx
  have hqA : Ext w17 w17 := Ext.refl _
  go_wp2_with fail
  refine (C6.out fp lp fc lc _ (hA.mono hqA) (hT.ext hy17)).mono ?_
  rintro e w18 ⟨rfl, hx⟩
  have hy18 : Ext w w18 := hy17.trans hx
  replace hqA := hqA.trans hx
  clear hx
  clear hA hqA
  go_wp2_with fail
  refine (letters13_any _).mono ?_
  rintro e w19 ⟨fp, lp, fc, lc, rfl, hA, hx⟩
  have hy19 : Ext w w19 := hy18.trans hx
  clear hx
  have hqA : Ext w19 w19 := Ext.refl _
  go_wp2_with fail
  refine (C7.out fp lp fc lc _ (hA.mono hqA) (hT.ext hy19)).mono ?_
  rintro e w20 ⟨rfl, hx⟩
  have hy20 : Ext w w20 := hy19.trans hx
  replace hqA := hqA.trans hx
  clear hx
  clear hA hqA
  have hqT : Ext (w20.alloc (.cells #[.string ⟨#[]⟩, .string ⟨#[95, 97, 95, 97, 95]⟩] 41)) (w20.alloc (.cells #[.string ⟨#[]⟩, .string ⟨#[95, 97, 95, 97, 95]⟩] 41)) := Ext.refl _
  go_wp2_with fail
  refine (letters13_any _).mono ?_
  rintro e w21 ⟨fp, lp, fc, lc, rfl, hA, hx⟩
  have hy21 : Ext w w21 := (hy20.alloc _).trans hx
  replace hqT := hqT.trans hx
  clear hx
  have hqA : Ext w21 w21 := Ext.refl _
  go_wp2_with fail
  refine (C8.out fp lp fc lc _ (hA.mono hqA) (hT.ext hy21)).mono ?_
  rintro e w22 ⟨rfl, hx⟩
  have hy22 : Ext w w22 := hy21.trans hx
  replace hqT := hqT.trans hx
  replace hqA := hqA.trans hx
  clear hx
  clear hA hqA
  go_wp2_with fail
  refine (letters13_any _).mono ?_
  rintro e w23 ⟨fp, lp, fc, lc, rfl, hA, hx⟩
  have hy23 : Ext w w23 := hy22.trans hx
  replace hqT := hqT.trans hx
  clear hx
  have hqA : Ext w23 w23 := Ext.refl _
  go_wp2_with fail
  refine (C9.out fp lp fc lc _ (hA.mono hqA) (hT.ext hy23)).mono ?_
  rintro e w24 ⟨rfl, hx⟩
  have hy24 : Ext w w24 := hy23.trans hx
  replace hqT := hqT.trans hx
  replace hqA := hqA.trans hx
  clear hx
  clear hA hqA
  have t0 := hqT.cell0 0
  have t1 := hqT.cell0 1
  have t2 := hqT.lt0
  simp at t0 t1
  clear hqT
  go_wp2_with fail
  (refine wp_region_ext (by kernel_rfl) (by kernel_rfl) ?_; intro ι hι g hg; have q_t0 := hg.cell t0; have q_t1 := hg.cell t1; clear t0 t1; (repeat (go_big_quiet_step ((go_at_call 34; exact hg.call (shape13_any ⟨#[95, 97, 95, 97, 95]⟩ _))))); refine wpQuiet_nil ?_; rintro wq ⟨i2, rfl⟩; have hx := hg.ext i2; generalize g i2 = wq at hx ⊢; clear q_t0 q_t1 i2 hg g hι ι)
  have hyq := hy24.trans hx
  clear hx t2
  obtain ⟨w25, rfl⟩ : ∃ w25 : World, w25 = wq := ⟨_, rfl⟩
  have hy25 := hyq
  go_wp2_with fail
  refine (letters13_any _).mono ?_
  rintro e w26 ⟨fp, lp, fc, lc, rfl, hA, hx⟩
  have hy26 : Ext w w26 := hy25.trans hx
  clear hx
  have hqA : Ext w26 w26 := Ext.refl _
  go_wp2_with fail
  refine (C11.out fp lp fc lc _ (hA.mono hqA) (hT.ext hy26)).mono ?_
  rintro e w27 ⟨kp, kc, rfl, hk11, hx⟩
  have hy27 : Ext w w27 := hy26.trans hx
  replace hqA := hqA.trans hx
  clear hx
  clear hA hqA
  have hrk := ownsRow_reads hk11 (f := fun j => .int .i64 ((nth [0, 2, 4] j : Nat) : Int)) (fun j hj => intCells_at (by simpa using hj))
  have hqK : Ext w27 w27 := Ext.refl _
  clear hk11
  go_wp2_with fail
  refine (letters13_any _).mono ?_
  rintro e w28 ⟨fp, lp, fc, lc, rfl, hA, hx⟩
  have hy28 : Ext w w28 := hy27.trans hx
  replace hqK := hqK.trans hx
  clear hx
  have hqA : Ext w28 w28 := Ext.refl _
  go_wp2_with fail
  refine (C12.out fp lp fc lc _ (hA.mono hqA) (hT.ext hy28)).mono ?_
  rintro e w29 ⟨kp2, kc2, rfl, hk12, hx⟩
  have hy29 : Ext w w29 := hy28.trans hx
  replace hqK := hqK.trans hx
  replace hqA := hqA.trans hx
  clear hx
  clear hA hqA
  go_wp2_with fail
  refine (letters13_any _).mono ?_
  rintro e w30 ⟨fp, lp, fc, lc, rfl, hA, hx⟩
  have hy30 : Ext w w30 := hy29.trans hx
  replace hqK := hqK.trans hx
  clear hx
  have hqA : Ext w30 w30 := Ext.refl _
  go_wp2_with fail
  refine (C13.out fp lp fc lc _ (hA.mono hqA) (hT.ext hy30)).mono ?_
  rintro e w31 ⟨kp3, kc3, rfl, hk13, hx⟩
  have hy31 : Ext w w31 := hy30.trans hx
  replace hqK := hqK.trans hx
  replace hqA := hqA.trans hx
  clear hx
  clear hA hqA
  obtain ⟨bk, ok, rfl, hbk, hck⟩ := (hrk.mono hqK).cells_ (j := 0) (by decide)
  have k0 := hck 0 (by decide)
  have k1 := hck 1 (by decide)
  have k2 := hck 2 (by decide)
  rw [show nth [0, 2, 4] 0 = 0 from rfl, Nat.add_zero] at k0
  rw [show nth [0, 2, 4] 1 = 2 from rfl] at k1
  rw [show nth [0, 2, 4] 2 = 4 from rfl] at k2
  clear hrk hck hqK hk12 hk13
  go_wp2_with fail
  refine (letters13_any _).mono ?_
  rintro e w32 ⟨fp, lp, fc, lc, rfl, hA, hx⟩
  have hy32 : Ext w w32 := hy31.trans hx
  clear hx
  have hqA : Ext w32 w32 := Ext.refl _
  go_wp2_with fail
  refine (shape13_any ⟨#[120]⟩ _).mono ?_
  rintro e w33 ⟨rfl, hx⟩
  have hy33 : Ext w w33 := hy32.trans hx
  replace hqA := hqA.trans hx
  clear hx
  go_wp2_with fail
  refine (C14.out fp lp fc lc _ (hA.mono hqA) (hT.ext hy33)).mono ?_
  rintro e w34 ⟨rfl, hx⟩
  have hy34 : Ext w w34 := hy33.trans hx
  replace hqA := hqA.trans hx
  clear hx
  clear hA hqA
  go_wp2_with fail
  refine (letters13_any _).mono ?_
  rintro e w35 ⟨fp, lp, fc, lc, rfl, hA, hx⟩
  have hy35 : Ext w w35 := hy34.trans hx
  clear hx
  have hqA : Ext w35 w35 := Ext.refl _
  go_wp2_with fail
  refine (C15.out fp lp fc lc _ (hA.mono hqA) (hT.ext hy35)).mono ?_
  rintro e w36 ⟨rfl, hx⟩
  have hy36 : Ext w w36 := hy35.trans hx
  replace hqA := hqA.trans hx
  clear hx
  clear hA hqA
  go_wp2_with fail
  refine (alive13_any _ (hT.ext hy36)).mono ?_
  rintro e wz ⟨rfl, hx⟩
  go_wp2_with fail
  go_ret
  exact ⟨rfl, hy36.trans hx⟩

end Go.Proofs.YtnngljflnfjppaaDoor
