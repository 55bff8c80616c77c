/- Arguments opened: alphabets, the two utf8 tables, rows of runes and small kinds. -/
import Derived.Test.YtcnhlogkhnoacaaGreatDoorWorda
import Derived.Deep.Strs
import Derived.Deep.Slices
import Derived.SizedLaws
import Derived.ProofKit
import Derived.OpenShut
import Derived.Test.YtcnhlogkhnoacaaGreatDoorRows
import Derived.Lib.LaidU8
import Derived.LaidMore
import Derived.Lay
import Derived.Stop.Joined
import Derived.ChangeSlices
import Derived.Carry
namespace Go.Proofs.YtcnhlogkhnoacaaGreatDoor
open Go.RowKit Go.Cg Go.ChangeShapes Go.WideShapes

theorem add_off (b off j : Nat) : (⟨b, off, none⟩ : Addr).add j = ⟨b, off + j, none⟩ := by simp [Addr.add]
theorem weights_elem {H : Type} {P : Program} {e : TypeId} : ∀ {l : List (DataW H)} {d : DataW H}, d ∈ l → ∀ n ∈ d.weights P e, n ∈ DataW.weightsAll P e l
  | x :: l, d, h, n, hn => by
    rw [DataW.weightsAll, List.mem_append]
    rcases List.mem_cons.1 h with rfl | h
    · exact .inl hn
    · exact .inr (weights_elem h n hn)

theorem cells9 : Tryz.prog.cellsOf 9 = 1 := by kernel_rfl
theorem bytes9 : Tryz.prog.bytesOf 9 = 16 := by kernel_rfl
theorem cellsLetter : Tryz.prog.cellsOf 114 = 3 := by kernel_rfl
theorem bytesLetter : Tryz.prog.bytesOf 114 = 12 := by kernel_rfl
theorem cellsI32 : Tryz.prog.cellsOf 21 = 1 := by kernel_rfl
theorem cellsU32 : Tryz.prog.cellsOf 42 = 1 := by kernel_rfl
theorem cellsStrs : Tryz.prog.cellsOf 22 = 1 := by kernel_rfl
theorem cellsLets : Tryz.prog.cellsOf 23 = 1 := by kernel_rfl
theorem cellsAlpha : Tryz.prog.cellsOf 25 = 2 := by kernel_rfl

theorem plain_spot {w : World} {a : Addr} {v : Value} (h : w.cell? a = some v) : a = ⟨a.block, a.off, none⟩ := by
  have := World.cell?_spot h
  cases a; simp at this; simp [this]

section
variable {H : Type} {enc : TypeId × Value → H} {W : World} {base : Nat} {sp : Nat → Bool}

theorem open_feats {fuel : Nat} {x0 : Value} {y : DataW H × List MemPlace} (h : DataW.trod enc Tryz.prog W base sp true fuel 22 [x0] = some y) (hsz : ∀ n ∈ y.1.weights Tryz.prog 22, n ≤ reachBytes) :
    ∃ fp fc, ∃ F : List ByteArray, x0 = .slice fp F.length fc ∧ Reads W fp F.length (fun j => .string (F.getD j ByteArray.empty)) ∧ F.length ≤ 8796093022208 ∧ ∀ i, i < F.length → (F.getD i ByteArray.empty).size ≤ 140737488351232 := by
  rcases Deep.open_strs Tryz.underlying22 Tryz.underlying9 cells9 h with ⟨e0, rfl⟩ | ⟨a, len, cap, m, Sx, e0, hb, hl, hm, hmm, rfl, hcell⟩
  · simp only [List.cons.injEq, and_true] at e0
    exact ⟨none, 0, [], e0, .inl rfl, by simp, fun i hi => absurd hi (by simp)⟩
  · simp only [List.cons.injEq, and_true] at e0
    have hlm : len ≤ m := by rw [hmm]; split <;> omega
    have hw1 : (((List.range len).map fun i => (DataW.lit (.string (Sx i).data.toList) : DataW H)).length + ((List.range (m - len)).map fun j => (DataW.lit (.string (Sx (len + j)).data.toList) : DataW H)).length) * Tryz.prog.bytesOf 9 ≤ reachBytes :=
      hsz _ (by simp [DataW.weights, Tryz.underlying22])
    rw [bytes9, List.length_map, List.length_map, List.length_range, List.length_range] at hw1
    unfold reachBytes at hw1
    have hg : ∀ i, i < len → ((List.range len).map Sx).getD i ByteArray.empty = Sx i := fun i hi => by simp [List.getD, hi]
    refine ⟨some a, cap, (List.range len).map Sx, by simpa using e0, ?_, by simp; omega, fun i hi => ?_⟩
    · by_cases h0 : len = 0
      · exact .inl (by simp [h0])
      · have hc0 := (hcell 0 (by omega)).1
        rw [show a.add 0 = a by simp [Addr.add]] at hc0
        have ha := plain_spot hc0
        refine .inr ⟨a.block, a.off, by rw [← ha], World.block_lt_of_cell? W a hc0, fun j hj => ?_⟩
        have hj' : j < len := by simpa using hj
        have := (hcell j (by omega)).1
        rw [ha, add_off] at this
        show W.cell? _ = some (.string (((List.range len).map Sx).getD j ByteArray.empty))
        rw [hg j hj']; exact this
    · have hi' : i < len := by simpa using hi
      rw [hg i hi']
      have hmem : (DataW.lit (.string (Sx i).data.toList) : DataW H) ∈ (List.range len).map fun i => (DataW.lit (.string (Sx i).data.toList) : DataW H) := List.mem_map.2 ⟨i, List.mem_range.2 hi', rfl⟩
      have := hsz (Sx i).data.toList.length (by
        rw [DataW.weights, Tryz.underlying22]
        refine List.mem_cons_of_mem _ (List.mem_append_left _ (weights_elem hmem _ ?_))
        simp [DataW.weights])
      unfold reachBytes at this
      exact this

theorem open_lets {fuel : Nat} {x0 : Value} {y : DataW H × List MemPlace} (h : DataW.trod enc Tryz.prog W base sp true fuel 23 [x0] = some y) (hsz : ∀ n ∈ y.1.weights Tryz.prog 23, n ≤ reachBytes) :
    ∃ lp lc, ∃ L : List Letter, x0 = .slice lp L.length lc ∧ Reads W lp (L.length * 3) (Alpha.letCell ⟨[], L⟩) ∧ L.length ≤ 17592186044416 ∧ ∀ i, i < L.length → (L.getD i default).wf := by
  rcases Deep.open_slice Tryz.underlying23 h with ⟨e0, rfl⟩ | ⟨a, len, cap, m, n, D, Pl, e0, hb, hl, hm, hmm, rfl, hel⟩
  · simp only [List.cons.injEq, and_true] at e0
    exact ⟨none, 0, [], e0, .inl rfl, by simp, fun i hi => absurd hi (by simp)⟩
  · simp only [List.cons.injEq, and_true] at e0
    have hlm : len ≤ m := by rw [hmm]; split <;> omega
    have hw1 : (((List.range len).map D).length + ((List.range (m - len)).map fun j => D (len + j)).length) * Tryz.prog.bytesOf 114 ≤ reachBytes :=
      hsz _ (by simp [DataW.weights, Tryz.underlying23])
    rw [bytesLetter, List.length_map, List.length_map, List.length_range, List.length_range] at hw1
    unfold reachBytes at hw1
    have each : ∀ i, i < m → ∃ L : Letter, W.cell? (a.add (i * 3 + 0)) = some (.int .i32 L.rune) ∧ W.cell? (a.add (i * 3 + 1)) = some (.int .u32 (L.plus : Int)) ∧ W.cell? (a.add (i * 3 + 2)) = some (.int .u32 (L.minus : Int)) ∧ L.wf := by
      intro i hi
      obtain ⟨cs', hcs, ht⟩ := hel i hi
      rw [cellsLetter] at hcs
      obtain ⟨_, hlen, hc⟩ := World.cells?_some hcs
      obtain ⟨y0, y1, y2, n', _, _, h0, h1, h2⟩ := Deep.trod_struct3 Tryz.underlying114 ht
      change DataW.trod _ _ _ _ _ _ _ 21 ((cs'.drop 0).take (Tryz.prog.cellsOf 21)) = some y0 at h0
      change DataW.trod _ _ _ _ _ _ _ 42 ((cs'.drop 1).take (Tryz.prog.cellsOf 42)) = some y1 at h1
      change DataW.trod _ _ _ _ _ _ _ 42 ((cs'.drop 2).take (Tryz.prog.cellsOf 42)) = some y2 at h2
      rw [cellsI32] at h0
      rw [cellsU32] at h1 h2
      obtain ⟨z0, e0, _, w0⟩ := DataW.trod_int Tryz.underlying21 h0
      obtain ⟨z1, e1, _, w1⟩ := DataW.trod_int Tryz.underlying42 h1
      obtain ⟨z2, e2, _, w2⟩ := DataW.trod_int Tryz.underlying42 h2
      have b0 := bounds_i32 w0
      have b1 := bounds_u32 w1
      have b2 := bounds_u32 w2
      have c0 := hc 0 (by omega)
      have c1 := hc 1 (by omega)
      have c2 := hc 2 (by omega)
      rw [Deep.add_add] at c0 c1 c2
      have g0 : cs'[0]? = some (.int .i32 z0) := by have := congrArg (·[0]?) e0; simpa [List.getElem?_take, List.getElem?_drop] using this
      have g1 : cs'[1]? = some (.int .u32 z1) := by have := congrArg (·[0]?) e1; simpa [List.getElem?_take, List.getElem?_drop] using this
      have g2 : cs'[2]? = some (.int .u32 z2) := by have := congrArg (·[0]?) e2; simpa [List.getElem?_take, List.getElem?_drop] using this
      refine ⟨⟨z0, z1.toNat, z2.toNat⟩, c0.trans g0, c1.trans (g1.trans ?_), c2.trans (g2.trans ?_), ?_⟩
      · simp; omega
      · simp; omega
      · unfold Letter.wf; simp; omega
    obtain ⟨Lx, hL⟩ := Deep.choose_lt each
    have hg : ∀ i, i < len → ((List.range len).map Lx).getD i default = Lx i := fun i hi => by simp [List.getD, hi]
    refine ⟨some a, cap, (List.range len).map Lx, by simpa using e0, ?_, by simp; omega, fun i hi => ?_⟩
    · by_cases h0 : len = 0
      · exact .inl (by simp [h0])
      · have hc0 := (hL 0 (by omega)).1
        rw [show a.add (0 * 3 + 0) = a by simp [Addr.add]] at hc0
        have ha := plain_spot hc0
        refine .inr ⟨a.block, a.off, by rw [← ha], World.block_lt_of_cell? W a hc0, fun j hj => ?_⟩
        have hj' : j < len * 3 := by simpa using hj
        obtain ⟨q0, q1, q2, _⟩ := hL (j / 3) (by omega)
        rw [ha, add_off] at q0 q1 q2
        have hat : Alpha.at_ ⟨[], (List.range len).map Lx⟩ (j / 3) = Lx (j / 3) := hg _ (by omega)
        unfold Alpha.letCell
        rw [hat]
        by_cases r0 : j % 3 = 0
        · rw [if_pos r0, show j = j / 3 * 3 + 0 by omega, q0]; congr 4; omega
        · rw [if_neg r0]
          by_cases r1 : j % 3 = 1
          · rw [if_pos r1, show j = j / 3 * 3 + 1 by omega, q1]; congr 5; omega
          · rw [if_neg r1, show j = j / 3 * 3 + 2 by omega, q2]; congr 5; omega
    · have hi' : i < len := by simpa using hi
      rw [hg i hi']; exact (hL i (by omega)).2.2.2

set_option maxRecDepth 100000 in
/-- AN ALPHABET -/
theorem open_alpha {v : Value} {d : DataW H} {p : List MemPlace} (hval : Value.okWide Tryz.prog W .any base 25 v) (h : DataW.Trod enc Tryz.prog W 0 sp true 25 v d p) (hsz : ∀ n ∈ d.weights Tryz.prog 25, n ≤ reachBytes) :
    ∃ fp lp fc lc A, v = .agg #[.slice fp A.feats.length fc, .slice lp A.lets.length lc] ∧ AlphaAt W fp lp A := by
  obtain ⟨cs, rfl, hcl⟩ := okWide_struct Tryz.underlying25 hval
  obtain ⟨fuel, hf⟩ := h
  obtain ⟨y0, y1, n, hx, _, h0, h1⟩ := trod_struct2 Tryz.underlying25 hf
  rw [cellsAlpha] at hcl
  obtain ⟨x0, x1, rfl⟩ : ∃ x0 x1, cs = #[x0, x1] := by
    match cs, hcl with
    | ⟨[x0, x1]⟩, _ => exact ⟨x0, x1, rfl⟩
  change DataW.trod _ _ _ _ _ _ _ 22 (([x0, x1].drop 0).take (Tryz.prog.cellsOf 22)) = some y0 at h0
  change DataW.trod _ _ _ _ _ _ _ 23 (([x0, x1].drop 1).take (Tryz.prog.cellsOf 23)) = some y1 at h1
  rw [cellsStrs] at h0
  rw [cellsLets] at h1
  simp only [Prod.mk.injEq] at hx
  obtain ⟨rfl, _⟩ := hx
  obtain ⟨fp, fc, F, rfl, hF1, hF2, hF3⟩ := open_feats (show DataW.trod enc Tryz.prog W 0 sp true n 22 [x0] = some y0 from h0) fun k hk => hsz k (by
    rw [DataW.weights, Tryz.underlying25]
    exact List.mem_append_left _ hk)
  obtain ⟨lp, lc, L, rfl, hL1, hL2, hL3⟩ := open_lets (show DataW.trod enc Tryz.prog W 0 sp true n 23 [x1] = some y1 from h1) fun k hk => hsz k (by
    rw [DataW.weights, Tryz.underlying25]
    exact List.mem_append_right _ (List.mem_append_left _ hk))
  exact ⟨fp, lp, fc, lc, ⟨F, L⟩, rfl, ⟨hF1, hL1, hF2, hL2, hL3, hF3⟩⟩
end

end Go.Proofs.YtcnhlogkhnoacaaGreatDoor

namespace Go.Proofs.YtcnhlogkhnoacaaGreatDoor
open Go.RowKit Go.Cg Go.ChangeShapes Go.WideShapes Go.ChangeAt Go.Shelf

theorem own : ownKnob Tryz.prog.godebug = none := by kernel_rfl
theorem laidOut : laidOutB Tryz.prog = true := by kernel_rfl
def laidD : List (String × DataW Unit) := [("unicode/utf8.acceptRanges", Rows.laid_unicode_utf8_acceptRanges), ("unicode/utf8.first", Rows.laid_unicode_utf8_first)]
set_option maxRecDepth 100000 in
theorem first_eq : Rows.laid_unicode_utf8_first = Lib.firstData := by kernel_rfl
set_option maxRecDepth 100000 in
theorem accept_eq : (Rows.laid_unicode_utf8_acceptRanges : DataW Unit) = Lib.acceptData := by kernel_rfl

/-- WHAT THE CONDITION GIVES THE WALKS -/
theorem of_laid {W : World} (h : laidMetH Tryz.prog laidD W) : Tabs W := by
  rw [MakeChecks.laidMetH_plain _ _ _ (by kernel_rfl)] at h
  have h1 := Lib.laidMet.reads h (n := "unicode/utf8.acceptRanges") (.head _)
  have h2 := Lib.laidMet.reads h (n := "unicode/utf8.first") (.tail _ (.head _))
  rw [accept_eq] at h1
  rw [first_eq] at h2
  exact utf8Tabs_of_reads (ρ := Tryz.lays197_ren) { Tryz.lays197 with } ⟨by kernel_rfl, by kernel_rfl, by kernel_rfl, by kernel_rfl, by kernel_rfl, by kernel_rfl, by kernel_rfl⟩ h2 h1

set_option maxRecDepth 100000 in
theorem laid_met (os : Os) (args : Array Value) : laidMetH Tryz.prog laidD ((World.laidAll Tryz.prog os laidD).forCall (fun _ _ => 0) ⟨#[], args, []⟩).memory := by
  rw [MakeChecks.laidMetH_plain _ _ _ (by kernel_rfl)]; exact laidMet_laidAll _ (by kernel_rfl) (by kernel_rfl)

end Go.Proofs.YtcnhlogkhnoacaaGreatDoor

namespace Go.Proofs.YtcnhlogkhnoacaaGreatDoor
open Go.RowKit Go.Cg Go.ChangeShapes Go.WideShapes

section
variable {H : Type} {enc : TypeId × Value → H} {P : Program} {w : World} {base : Nat} {spare : Nat → Bool} {held : Bool}
theorem trodAll_zero {args : Array Value} {ds : List (DataW H)} {ps : List MemPlace} (h : DataW.TrodAll enc P w base spare held [] args.toList ds ps) : args = #[] ∧ ds = [] ∧ ps = [] := trodAll_none h
theorem trodAll_five {t0 t1 t2 t3 t4 : TypeId} {args : Array Value} {ds : List (DataW H)} {ps : List MemPlace} (h : DataW.TrodAll enc P w base spare held [t0, t1, t2, t3, t4] args.toList ds ps) :
    ∃ v0 v1 v2 v3 v4 d0 d1 d2 d3 d4 p0 p1 p2 p3 p4, args = #[v0, v1, v2, v3, v4] ∧ ds = [d0, d1, d2, d3, d4] ∧ ps = p0 ++ p1 ++ p2 ++ p3 ++ p4 ∧ DataW.Trod enc P w base spare held t0 v0 d0 p0 ∧ DataW.Trod enc P w base spare held t1 v1 d1 p1 ∧ DataW.Trod enc P w base spare held t2 v2 d2 p2 ∧ DataW.Trod enc P w base spare held t3 v3 d3 p3 ∧ DataW.Trod enc P w base spare held t4 v4 d4 p4 := by
  obtain ⟨v0, vs0, d0, ds0, p0, q0, hargs, rfl, rfl, h0, hr0⟩ := trodAll_cons h
  obtain ⟨v1, vs1, d1, ds1, p1, q1, rfl, rfl, rfl, h1, hr1⟩ := trodAll_cons hr0
  obtain ⟨v2, vs2, d2, ds2, p2, q2, rfl, rfl, rfl, h2, hr2⟩ := trodAll_cons hr1
  obtain ⟨v3, vs3, d3, ds3, p3, q3, rfl, rfl, rfl, h3, hr3⟩ := trodAll_cons hr2
  obtain ⟨v4, vs4, d4, ds4, p4, q4, rfl, rfl, rfl, h4, hr4⟩ := trodAll_cons hr3
  obtain ⟨rfl, rfl, rfl⟩ := trodAll_nil hr4
  exact ⟨v0, v1, v2, v3, v4, d0, d1, d2, d3, d4, p0, p1, p2, p3, p4, by cases args; simp_all, rfl, by simp, h0, h1, h2, h3, h4⟩
theorem trodAll_mk5 {t0 t1 t2 t3 t4 : TypeId} {v0 v1 v2 v3 v4 : Value} {d0 d1 d2 d3 d4 : DataW H} {p0 p1 p2 p3 p4 : List MemPlace} (h0 : DataW.Trod enc P w base spare held t0 v0 d0 p0) (h1 : DataW.Trod enc P w base spare held t1 v1 d1 p1)
    (h2 : DataW.Trod enc P w base spare held t2 v2 d2 p2) (h3 : DataW.Trod enc P w base spare held t3 v3 d3 p3) (h4 : DataW.Trod enc P w base spare held t4 v4 d4 p4) :
    DataW.TrodAll enc P w base spare held [t0, t1, t2, t3, t4] [v0, v1, v2, v3, v4] [d0, d1, d2, d3, d4] (p0 ++ (p1 ++ (p2 ++ (p3 ++ p4)))) := ⟨p0, p1 ++ (p2 ++ (p3 ++ p4)), h0, trodAll_mk4 h1 h2 h3 h4, rfl⟩
end

section
variable {H : Type} {enc : TypeId × Value → H} {W : World} {base : Nat} {sp : Nat → Bool}
theorem bytesI32 : Tryz.prog.bytesOf 21 = 4 := by kernel_rfl

set_option maxRecDepth 100000 in
/-- A ROW OF RUNES -/
theorem open_runes {v : Value} {d : DataW H} {p : List MemPlace} (hval : Value.okWide Tryz.prog W .any base 36 v) (h : DataW.Trod enc Tryz.prog W 0 sp true 36 v d p) (hsz : ∀ n ∈ d.weights Tryz.prog 36, n ≤ reachBytes) :
    ∃ rp rc l, v = .slice rp l.length rc ∧ RunesAt W rp l := by
  obtain ⟨a, len, cap, rfl⟩ := okWide_slice Tryz.underlying36 hval
  obtain ⟨fuel, hf⟩ := h
  rcases open_ints Tryz.underlying36 Tryz.underlying21 cellsI32 (show DataW.trod enc Tryz.prog W 0 sp true fuel 36 [.slice a len cap] = some (d, p) from hf) with ⟨e0, ex⟩ | ⟨a', len', cap', zs, e0, hb, hl, hm, hzl, ex, hcell, hwf⟩
  · simp only [List.cons.injEq, and_true, Value.slice.injEq] at e0
    obtain ⟨rfl, rfl, rfl⟩ := e0
    exact ⟨none, 0, [], rfl, ⟨.inl rfl, by simp, fun i hi => absurd hi (by simp)⟩⟩
  · simp only [List.cons.injEq, and_true, Value.slice.injEq] at e0
    obtain ⟨rfl, rfl, rfl⟩ := e0
    obtain ⟨rfl, rfl⟩ := Prod.mk.inj ex
    have hle : len ≤ zs.length := by rw [hzl]; split <;> omega
    have hw1 : ((lits (H := H) .i32 (zs.take len)).length + (lits (H := H) .i32 (zs.drop len)).length) * Tryz.prog.bytesOf 21 ≤ reachBytes :=
      hsz _ (by simp [DataW.weights, Tryz.underlying36])
    rw [bytesI32] at hw1
    simp only [lits, List.length_map, List.length_take, List.length_drop] at hw1
    unfold reachBytes at hw1
    have htl : (zs.take len).length = len := by rw [List.length_take]; omega
    have hg : ∀ i, i < len → rn (zs.take len) i = zs.getD i 0 := fun i hi => by
      rw [rn_eq (by omega)]; simp [List.getD, show i < zs.length by omega]
    refine ⟨some a', cap, zs.take len, by rw [htl], ?_, by rw [htl]; omega, fun i hi => ?_⟩
    · by_cases h0 : len = 0
      · exact .inl (by rw [htl]; exact h0)
      · have hc0 := hcell 0 (by omega)
        rw [show a'.add 0 = a' by simp [Addr.add]] at hc0
        have ha := plain_spot hc0
        refine .inr ⟨a'.block, a'.off, by rw [← ha], World.block_lt_of_cell? W a' hc0, fun j hj => ?_⟩
        rw [htl] at hj
        have := hcell j (by omega)
        rw [ha, add_off] at this
        show W.cell? _ = some (.int .i32 (rn (zs.take len) j))
        rw [hg j hj]; exact this
    · rw [htl] at hi
      rw [hg i hi]
      have hmem : zs.getD i 0 ∈ zs := by simp only [List.getD, List.getElem?_eq_getElem (show i < zs.length by omega), Option.getD_some]; exact List.getElem_mem _
      have := bounds_i32 (hwf _ hmem)
      omega
set_option maxRecDepth 100000 in
/-- the letters' bytes of an alphabet that comes in -/
theorem alpha_bytes {fp lp : Option Addr} {n k fc lc : Nat} {d : DataW H} {p : List MemPlace} (h : DataW.Trod enc Tryz.prog W 0 sp true 25 (.agg #[.slice fp n fc, .slice lp k lc]) d p) (hsz : ∀ n ∈ d.weights Tryz.prog 25, n ≤ reachBytes) : k * 12 ≤ 140737488351232 := by
  obtain ⟨fuel, hf⟩ := h
  obtain ⟨y0, y1, n', hx, _, h0, h1⟩ := trod_struct2 Tryz.underlying25 hf
  change DataW.trod _ _ _ _ _ _ _ 22 (([.slice fp n fc, .slice lp k lc].drop 0).take (Tryz.prog.cellsOf 22)) = some y0 at h0
  change DataW.trod _ _ _ _ _ _ _ 23 (([.slice fp n fc, .slice lp k lc].drop 1).take (Tryz.prog.cellsOf 23)) = some y1 at h1
  rw [cellsLets] at h1
  simp only [Prod.mk.injEq] at hx
  obtain ⟨rfl, _⟩ := hx
  have hsz1 : ∀ n ∈ y1.1.weights Tryz.prog 23, n ≤ reachBytes := fun k hk => hsz k (by
    rw [DataW.weights, Tryz.underlying25]
    exact List.mem_append_right _ (List.mem_append_left _ hk))
  rcases Deep.open_slice Tryz.underlying23 (show DataW.trod enc Tryz.prog W 0 sp true n' 23 [.slice lp k lc] = some y1 from h1) with ⟨e0, _⟩ | ⟨a, len, cap, m, n2, D, Pl, e0, hb, hl, hm, hmm, rfl, hel⟩
  · simp only [List.cons.injEq, and_true, Value.slice.injEq] at e0
    omega
  · simp only [List.cons.injEq, and_true, Value.slice.injEq] at e0
    have hlm : len ≤ m := by rw [hmm]; split <;> omega
    have hw1 : (((List.range len).map D).length + ((List.range (m - len)).map fun j => D (len + j)).length) * Tryz.prog.bytesOf 114 ≤ reachBytes :=
      hsz1 _ (by simp [DataW.weights, Tryz.underlying23])
    rw [bytesLetter, List.length_map, List.length_map, List.length_range, List.length_range] at hw1
    unfold reachBytes at hw1
    omega
end

end Go.Proofs.YtcnhlogkhnoacaaGreatDoor
