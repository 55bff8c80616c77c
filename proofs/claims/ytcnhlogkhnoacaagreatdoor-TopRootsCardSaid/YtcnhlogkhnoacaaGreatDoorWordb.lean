/- Contracts: runes.Pieces: the closure that lays a piece, each, Pieces. -/
import Derived.Test.YtcnhlogkhnoacaaGreatDoorWorda
import Derived.Test.YtcnhlogkhnoacaaGreatDoorAccb
import Derived.Shelf.Abstract
namespace Go.Proofs.YtcnhlogkhnoacaaGreatDoor
open Go.RowKit Go.Cg Go.Shelf

theorem infoP : (Tryz.prog.info? 59).map (fun i => (i.zero, i.size, i.bytes)) = some (some (.agg #[.int .i32 0, .int .i64 0, .int .i64 0, .bool false]), 4, 32) := by kernel_rfl
theorem four_cells (w : World) (a b c d : Value) (T : TypeId) : ∀ j u, [a, b, c, d][j]? = some u → (w.alloc (.cells #[a, b, c, d] T (0, 0))).cell? ((⟨w.heap.size, 0, none⟩ : Addr).add j) = some u := by
  intro j u h
  have := (Ext.refl (w.alloc (.cells #[a, b, c, d] T (0, 0)))).cell0 j
  have e : ((⟨w.heap.size, 0, none⟩ : Addr).add j) = ⟨w.heap.size, j, none⟩ := by simp [Addr.add]; intro h; omega
  rw [e, this, ← h]; simp

theorem grow_keeps {B : Nat} {E : TypeId} {size : Nat} {v : Value} {n : Nat} {xs : List Value} {W W1 W2 : World} (ho : W.ownsRow (B + 1) E size v n xs) (hx : Ext W W1) (hg : W1.grownBy W2 v.ownBlock) (hB : B < W.heap.size := by assumption) : W2.heap[B]? = W.heap[B]? := by
  rw [hg.block B (Nat.lt_of_lt_of_le hB hx.le) fun e => ?_]
  · exact Below.block hx B hB
  · have := (ho.lt B e.symm).1; omega

set_option maxHeartbeats 1000000 in
theorem piece1_any (B : Nat) (W : World) (n : Nat) (xs : List Value) (r : Int) (a l : Int) (br : Bool) (hn : n ≤ 65536) (hA : Acc 55 59 4 B W n xs) :
    Calls Tryz.prog 46 #[.agg #[.int .i32 r, .int .i64 a, .int .i64 l, .bool br], .pointer (some ⟨B, 0, none⟩)] W fun e W' => e = .returned (.bool true) ∧ Acc 55 59 4 B W' (n + 1) (xs ++ [.int .i32 r, .int .i64 a, .int .i64 l, .bool br]) ∧ Iters W W' ∧ Below B W W' := by
  obtain ⟨i0, hi, hz0, hz1, hz2⟩ := info_parts infoP
  have hB := hA.lt
  obtain ⟨v, hv, hown⟩ := hA
  obtain ⟨d0, d1, d2⟩ := heap_cell0 hv
  obtain ⟨rp, rc, rfl⟩ := ownsRow_slice hown
  go_enter Tryz.func46, Tryz.ntmps46
  go_wp2_with (at_builtin; refine wpList_append_own _ rfl _ _ 55 rfl (B + 1) 59 i0 (.agg #[.int .i32 0, .int .i64 0, .int .i64 0, .bool false]) 4 32 Tryz.underlying55 hi hz0 hz1 hz2 rfl (by decide) _ _ _ rfl ((hown.alloc _).alloc _) ⟨W.heap.size + 1, 0, none⟩ 1 1 [.int .i32 r, .int .i64 a, .int .i64 l, .bool br] rfl rfl (by have := four_cells (W.alloc (.cells #[.int .i32 r, .int .i64 a, .int .i64 l, .bool br] 59)) (.int .i32 r) (.int .i64 a) (.int .i64 l) (.bool br) 59; rw [size_alloc] at this; exact this) (by simp [Value.oneCell']) (by unfold maxLen; omega) (by omega) (by simp; omega) ?_; intro v' w4 hown4 hgrow _; obtain ⟨rp', rc', rfl⟩ := ownsRow_slice hown4; have hb4 : w4.heap[B]? = some (.cells #[.slice rp n rc] 55 (0, 0)) := (grow_keeps hown (((Ext.refl W).alloc _).alloc _) hgrow).trans hv; obtain ⟨c0, c1, c2⟩ := heap_cell0 hb4; clear hb4)
  go_ret
  have hE2 : Ext W ((W.alloc (.cells #[.int .i32 r, .int .i64 a, .int .i64 l, .bool br] 59)).alloc (.cells #[.int .i32 r, .int .i64 a, .int .i64 l, .bool br] 59)) := ((Ext.refl W).alloc _).alloc _
  obtain ⟨h1, h2⟩ := Acc.stored ((Below.block hE2 B hB).trans hv) (ownsRow_ext hown hE2) hgrow hown4
  refine ⟨rfl, h1, (Iters.of_ext hE2).trans h2, ?_⟩
  refine Below.setCell (Below.grown (hE2.mono (Nat.le_of_lt hB)) hgrow (by simp; omega) fun k hk => ?_) (Nat.le_refl _) _
  have := ((ownsRow_ext hown hE2).lt k hk).1
  omega

set_option maxHeartbeats 2000000 in
set_option maxRecDepth 100000 in
theorem each_any (s : ByteArray) (hs : s.size ≤ 65536) (w0 w : World) (hx : Ext w0 w) (hT : Tabs w0) (hA : Acc 55 59 4 w0.heap.size w 0 []) :
    Calls Tryz.prog 45 #[.string s, .func (.func 46) #[] #[.pointer (some ⟨w0.heap.size, 0, none⟩)]] w fun e w' => e = .returned (.tuple #[]) ∧ Ext w0 w' ∧ ∃ N, N ≤ s.size ∧ (∀ j, j < N → placeAt s j < s.size) ∧ ¬ placeAt s N < s.size ∧ Acc 55 59 4 w0.heap.size w' N (pcells s N) := by
  have eg : ∀ args W, (callFunc 46 args).run Tryz.prog W = .ok (.enter 46 args) W := @enters_of Tryz.prog 46 _ _ Tryz.func46 (by kernel_rfl) rfl
  have hl0 := hA.lt
  go_enter Tryz.func45, Tryz.ntmps45
  go_wp2_with fail
  go_loopw [] (fun wr => ∃ j : Nat, Hid (∀ i, i < j → placeAt s i < s.size) ∧ placeAt s j ≤ s.size ∧ wr.heap[w.heap.size]? = some (.stringIter s (placeAt s j)) ∧ Ext w0 wr ∧ Acc 55 59 4 w0.heap.size wr j (pcells s j)) (fun wr => s.size - wr.iterPos w.heap.size)
  case atStart =>
    refine ⟨0, fun i hi => by omega, Nat.zero_le _, ?_, ?_, ?_⟩
    · exact World.iter_heap w s 0
    · exact hx.alloc _
    · exact hA.ext ((Ext.refl _).alloc _)
  case round =>
    obtain ⟨j, HJ, hle, hit, hxr, hacc⟩ := hrel
    have hkl : w.heap.size < wr.heap.size := (Array.getElem?_eq_some_iff.1 hit).1
    obtain ⟨pos, hpos⟩ : ∃ pos, placeAt s j = pos := ⟨_, rfl⟩
    rw [hpos] at hit hle
    by_cases hp : pos < s.size
    · have hnx0 : ∀ ty, (Instr.next (.pointer (some ⟨w.heap.size, 0, none⟩)) true ty).run Tryz.prog wr = _ := fun ty => Lib.run_next_any_at wr w.heap.size s pos ty hit hp
      have hw1 := width_pos s pos hp
      have hw2 := width_le s pos hp
      have hd1 := decode_le s pos
      obtain ⟨hr1, hr2⟩ := runeAt_range s pos
      obtain ⟨W1, hW1⟩ : ∃ W1, wr.iterAt w.heap.size s (pos + (Utf8.decode s pos).2) = W1 := ⟨_, rfl⟩
      have hit1 := Lib.iterAt_heap wr w.heap.size s pos (pos + (Utf8.decode s pos).2) hit
      have hx1 := hxr.iterAt (k := w.heap.size) hx.le s (pos + (Utf8.decode s pos).2)
      have hacc1 := hacc.iterAt hit (pos + (Utf8.decode s pos).2)
      have hl1 := Lib.iterAt_size wr w.heap.size s (pos + (Utf8.decode s pos).2)
      rw [hW1] at hnx0 hit1 hx1 hacc1 hl1
      have HL := Lib.hid hl1
      clear hl1
      have hnx : ∀ ty, (Instr.next (.pointer (some ⟨w.heap.size, 0, none⟩)) true ty).run Tryz.prog wr = .ok (.tuple #[.bool true, .int .i64 pos, .int .i32 (runeAt s pos)]) W1 := hnx0
      have HIT := Lib.hid hit
      clear hnx0 hxr hacc hit hW1
      have hjp := placeAt_ge s j HJ.out
      rw [hpos] at hjp
      have hcon := fun (W : World) (hW : Ext W1 W) => decode_any s pos hp W (hT.ext (hx1.trans hW))
      have HD := Lib.hid hcon
      clear hcon
      have hacc1' := fun (W : World) (hW : Ext W1 W) => hacc1.ext hW
      have HA := Lib.hid hacc1'
      clear hacc1' hacc1
      have hnext : placeAt s (j + 1) = pos + (Utf8.decode s pos).2 := by rw [placeAt, hpos]
      have HX := Lib.hid hnext
      clear hnext
      have HP : Hid (pcells s (j + 1) = pcells s j ++ pieceCells s pos) := by show pcells s (j + 1) = _; rw [pcells, hpos]
      cases hb : badAt s pos
      · have hpc : pieceCells s pos = [.int .i32 (runeAt s pos), .int .i64 pos, .int .i64 (Lib.runeLen (runeAt s pos)), .bool false] := by unfold pieceCells; rw [hb]; rfl
        rw [hpc] at HP
        clear hpc
        rcases bad_false hb with hb1 | ⟨hb1, hb2⟩
        · go_wp2_with (first | (go_at_call 81; refine (Tryz.utf8_RuneLen _ _).mono ?_; rintro e W1 ⟨rfl, rfl⟩) | (refine (piece1_any w0.heap.size _ j (pcells s j) _ _ _ _ (by omega) (HA.out _ (by repeat (first | assumption | exact Ext.refl _ | refine Ext.alloc ?_ _ | refine Ext.drew ?_ | refine Ext.drewN ?_ _ | refine Ext.setCell ?_ (by first | (simp; done) | (simp; omega) | omega) _ | (refine Ext.trans ?_ (by assumption)))))).mono ?_; rintro e w4 ⟨rfl, hacc4, hit4, hb4⟩))
          have hit5 := hit4 _ _ _ (Iters.of_ext (w := W1) (by repeat (first | assumption | exact Ext.refl _ | refine Ext.alloc ?_ _ | refine Ext.drew ?_ | refine Ext.drewN ?_ _ | refine Ext.setCell ?_ (by first | (simp; done) | (simp; omega) | omega) _ | (refine Ext.trans ?_ (by assumption)))) _ _ _ hit1)
          refine ⟨⟨j + 1, upto_succ HJ.out (by rw [hpos]; exact hp), by rw [HX.out]; exact hw2, by rw [HX.out]; exact hit5, Below.trans (hx1.trans (b := W1) (by repeat (first | assumption | exact Ext.refl _ | refine Ext.alloc ?_ _ | refine Ext.drew ?_ | refine Ext.drewN ?_ _ | refine Ext.setCell ?_ (by first | (simp; done) | (simp; omega) | omega) _ | (refine Ext.trans ?_ (by assumption))))) hb4, by rw [HP.out]; exact hacc4⟩, ?_⟩
          have hit0 := HIT.out
          simp only [World.iterPos, hit5, hit0]
          omega
        · go_wp2_with (first | (go_at_call 81; refine (Tryz.utf8_RuneLen _ _).mono ?_; rintro e W1 ⟨rfl, rfl⟩) | (go_at_call 82; refine (HD.out _ (by repeat (first | assumption | exact Ext.refl _ | refine Ext.alloc ?_ _ | refine Ext.drew ?_ | refine Ext.drewN ?_ _ | refine Ext.setCell ?_ (by first | (simp; done) | (simp; omega) | omega) _ | (refine Ext.trans ?_ (by assumption))))).mono ?_; rintro e w3 ⟨rfl, hx3⟩; have e0 := hx3.cell0 0; have e1 := hx3.cell0 1; have e2 := hx3.cell0 2; have e3 := hx3.cell0 3; simp at e0 e1 e2 e3; have f2 := hx3.froz0 2; have f3 := hx3.froz0 3; have l3 := hx3.lt0) | (refine (piece1_any w0.heap.size _ j (pcells s j) _ _ _ _ (by omega) (HA.out _ (by repeat (first | assumption | exact Ext.refl _ | refine Ext.alloc ?_ _ | refine Ext.drew ?_ | refine Ext.drewN ?_ _ | refine Ext.setCell ?_ (by first | (simp; done) | (simp; omega) | omega) _ | (refine Ext.trans ?_ (by assumption)))))).mono ?_; rintro e w4 ⟨rfl, hacc4, hit4, hb4⟩))
          have hit5 := hit4 _ _ _ (Iters.of_ext (w := W1) (by repeat (first | assumption | exact Ext.refl _ | refine Ext.alloc ?_ _ | refine Ext.drew ?_ | refine Ext.drewN ?_ _ | refine Ext.setCell ?_ (by first | (simp; done) | (simp; omega) | omega) _ | (refine Ext.trans ?_ (by assumption)))) _ _ _ hit1)
          refine ⟨⟨j + 1, upto_succ HJ.out (by rw [hpos]; exact hp), by rw [HX.out]; exact hw2, by rw [HX.out]; exact hit5, Below.trans (hx1.trans (b := W1) (by repeat (first | assumption | exact Ext.refl _ | refine Ext.alloc ?_ _ | refine Ext.drew ?_ | refine Ext.drewN ?_ _ | refine Ext.setCell ?_ (by first | (simp; done) | (simp; omega) | omega) _ | (refine Ext.trans ?_ (by assumption))))) hb4, by rw [HP.out]; exact hacc4⟩, ?_⟩
          have hit0 := HIT.out
          simp only [World.iterPos, hit5, hit0]
          omega
      · have hpc : pieceCells s pos = [.int .i32 (runeAt s pos), .int .i64 pos, .int .i64 1, .bool true] := by unfold pieceCells; rw [hb]; rfl
        rw [hpc] at HP
        clear hpc
        obtain ⟨hb1, hb2⟩ := bad_true hb
        go_wp2_with (first | (go_at_call 81; refine (Tryz.utf8_RuneLen _ _).mono ?_; rintro e W1 ⟨rfl, rfl⟩) | (go_at_call 82; refine (HD.out _ (by repeat (first | assumption | exact Ext.refl _ | refine Ext.alloc ?_ _ | refine Ext.drew ?_ | refine Ext.drewN ?_ _ | refine Ext.setCell ?_ (by first | (simp; done) | (simp; omega) | omega) _ | (refine Ext.trans ?_ (by assumption))))).mono ?_; rintro e w3 ⟨rfl, hx3⟩; have e0 := hx3.cell0 0; have e1 := hx3.cell0 1; have e2 := hx3.cell0 2; have e3 := hx3.cell0 3; simp at e0 e1 e2 e3; have f2 := hx3.froz0 2; have f3 := hx3.froz0 3; have l3 := hx3.lt0) | (refine (piece1_any w0.heap.size _ j (pcells s j) _ _ _ _ (by omega) (HA.out _ (by repeat (first | assumption | exact Ext.refl _ | refine Ext.alloc ?_ _ | refine Ext.drew ?_ | refine Ext.drewN ?_ _ | refine Ext.setCell ?_ (by first | (simp; done) | (simp; omega) | omega) _ | (refine Ext.trans ?_ (by assumption)))))).mono ?_; rintro e w4 ⟨rfl, hacc4, hit4, hb4⟩))
        have hit5 := hit4 _ _ _ (Iters.of_ext (w := W1) (by repeat (first | assumption | exact Ext.refl _ | refine Ext.alloc ?_ _ | refine Ext.drew ?_ | refine Ext.drewN ?_ _ | refine Ext.setCell ?_ (by first | (simp; done) | (simp; omega) | omega) _ | (refine Ext.trans ?_ (by assumption)))) _ _ _ hit1)
        refine ⟨⟨j + 1, upto_succ HJ.out (by rw [hpos]; exact hp), by rw [HX.out]; exact hw2, by rw [HX.out]; exact hit5, Below.trans (hx1.trans (b := W1) (by repeat (first | assumption | exact Ext.refl _ | refine Ext.alloc ?_ _ | refine Ext.drew ?_ | refine Ext.drewN ?_ _ | refine Ext.setCell ?_ (by first | (simp; done) | (simp; omega) | omega) _ | (refine Ext.trans ?_ (by assumption))))) hb4, by rw [HP.out]; exact hacc4⟩, ?_⟩
        have hit0 := HIT.out
        simp only [World.iterPos, hit5, hit0]
        omega
    · have hnx : ∀ ty, (Instr.next (.pointer (some ⟨w.heap.size, 0, none⟩)) true ty).run Tryz.prog wr = _ := fun ty => Lib.run_next_end_at wr w.heap.size s pos ty hit hp
      go_wp2_with fail
      go_end0
      refine ⟨rfl, hxr, j, ?_, HJ.out, by rw [hpos]; exact hp, hacc⟩
      have := placeAt_ge s j HJ.out
      rw [hpos] at this; omega

theorem long_any (s : ByteArray) (w : World) (hs : s.size ≤ 140737488351232) :
    Calls Tryz.prog 44 #[.string s] w fun e w' => e = .returned (.int .i64 (if s.size ≤ 65536 then 0 else 3)) ∧ w' = w := by
  by_cases h : s.size ≤ 65536
  · go_enter Tryz.func44, Tryz.ntmps44
    go_wp2
    go_ret
    exact ⟨rfl, rfl⟩
  · go_enter Tryz.func44, Tryz.ntmps44
    go_wp2
    go_ret
    exact ⟨rfl, rfl⟩

set_option maxHeartbeats 1000000 in
theorem pieces_any (s : ByteArray) (hs : s.size ≤ 65536) (w : World) (hT : Tabs w) :
    Calls Tryz.prog 20 #[.string s] w fun e w' => ∃ rp rc N, e = .returned (.tuple #[.slice rp N rc, .int .i64 0]) ∧ N ≤ s.size ∧ (∀ j, j < N → placeAt s j < s.size) ∧ ¬ placeAt s N < s.size ∧ w'.ownsRow w.heap.size 59 4 (.slice rp N rc) N (pcells s N) ∧ Ext w w' := by
  have hlong := fun W => long_any s W (by omega)
  rw [if_pos hs] at hlong
  have HL := Lib.hid hlong
  clear hlong
  have hE := fun (W : World) (hx : Ext w W) (hA : Acc 55 59 4 w.heap.size W 0 []) => each_any s hs w W hx hT hA
  have HE := Lib.hid hE
  clear hE
  go_enter Tryz.func20, Tryz.ntmps20
  go_wp2_with (first | (go_at_call 44; refine (HL.out _).mono ?_; rintro e W1 ⟨rfl, rfl⟩) | (go_at_call 45; refine (HE.out _ (by repeat (first | assumption | exact Ext.refl _ | refine Ext.alloc ?_ _ | refine Ext.drew ?_ | refine Ext.drewN ?_ _ | refine Ext.setCell ?_ (by first | (simp; done) | (simp; omega) | omega) _ | (refine Ext.trans ?_ (by assumption)))) ⟨.slice none 0 0, by unfold World.alloc; exact Array.getElem?_push_size, World.ownsRow_nil _ _ _ _⟩).mono ?_; rintro e w1 ⟨rfl, hx1, N, hN, h1, h2, v, hv, hown⟩; obtain ⟨rp, rc, rfl⟩ := ownsRow_slice hown; obtain ⟨c0, c1, c2⟩ := heap_cell0 hv))
  go_loud (go_ret2)
  refine ⟨rp, rc, N, rfl, hN, h1, h2, ?_, ?_⟩
  · exact ownsRow_base hown (Nat.le_succ _)
  · exact (by repeat (first | assumption | exact Ext.refl _ | refine Ext.alloc ?_ _ | refine Ext.drew ?_ | refine Ext.drewN ?_ _ | refine Ext.setCell ?_ (by first | (simp; done) | (simp; omega) | omega) _ | (refine Ext.trans ?_ (by assumption))))

end Go.Proofs.YtcnhlogkhnoacaaGreatDoor
