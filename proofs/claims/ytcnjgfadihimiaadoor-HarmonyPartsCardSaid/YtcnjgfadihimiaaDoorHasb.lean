/- The law HarmonyParts, walked. -/
import Derived.Test.YtcnjgfadihimiaaDoorHasa
import Derived.Deep.RegionHeld3
namespace Go.Cg
open Go.RowKit Go.Lib
theorem sumTo_le (ps : List (List Letter)) (i : Nat) : ∀ j, i ≤ j → sumTo ps i ≤ sumTo ps j
  | 0, h => by rw [show i = 0 by omega]; exact Nat.le_refl _
  | j + 1, h => by
    by_cases e : i = j + 1
    · rw [e]; exact Nat.le_refl _
    · have := sumTo_le ps i j (by omega)
      rw [show sumTo ps (j + 1) = sumTo ps j + (pg ps j).length from rfl]; omega
/-- a region whose many ways come to one act -/
theorem wp_one {P : Program} {c : Code} {Q : Exit → Act → World → Prop} {a : Act} {w : World} {A : Act} {R : World → Prop} (h : c.wp P (NoPanic fun e a' w' => e = .normal ∧ a' = A ∧ R w') a w) (k : ∀ w', R w' → Q .normal A w') : c.wp P Q a w :=
  Code.wp_mono (fun e a' w' h9 => by obtain ⟨rfl, rfl, h3⟩ := NoPanic.imp _ _ _ h9; exact k _ h3) h
theorem runes_two {W : World} {T : TypeId} {r s : Int} {B : Nat} (hb : W.heap[B]? = some (.cells #[.int .i32 r, .int .i32 s] T (0, 0))) (h1 : -2147483648 ≤ r ∧ r ≤ 2147483647) (h2 : -2147483648 ≤ s ∧ s ≤ 2147483647) : RunesAt W (some ⟨B, 0, none⟩) [r, s] := by
  refine ⟨.inr ⟨B, 0, rfl, (Array.getElem?_eq_some_iff.1 hb).1, fun j hj => ?_⟩, by show (_ : Nat) ≤ _; simp, fun i hi => ?_⟩
  · have h3 : j < 2 := by simpa using hj
    rw [Lib.cell_of_heap hb]
    rcases (by omega : j = 0 ∨ j = 1) with rfl | rfl <;> rfl
  · have h3 : i < 2 := by simpa using hi
    rcases (by omega : i = 0 ∨ i = 1) with rfl | rfl
    · exact h1
    · exact h2
theorem classE_ok {A : Alpha} {p k : Nat} (h : setsE A p k = 0) : A.Ok ∧ classE A p 0 = 0 ∧ classL A p 0 = classTo A p 0 A.lets.length ∧ setsL A p k = runesP (setsTo A p k A.lets.length) := by
  have hA : A.Ok := by
    by_cases h9 : A.Ok
    · exact h9
    · unfold setsE at h; rw [if_neg h9] at h; cases h
  have hm : maskE A [p, k] = 0 := by unfold setsE at h; rwa [if_pos hA] at h
  have hp : mayB A.feats.length p 0 = true := by rw [mayB_zero]; exact decide_eq_true (maskE_lt hm (by simp))
  have hc : classE A p 0 = 0 := by unfold classE; rw [if_pos hA, hp]; rfl
  exact ⟨hA, hc, if_pos hc, if_pos h⟩
end Go.Cg
namespace Go.Proofs.YtcnjgfadihimiaaDoor
open Go.RowKit Go.Cg Go.Shelf Go.Maps

theorem infoI14 : (Tryd.prog.info? 3).map (fun i => (i.zero, i.size, i.bytes)) = some (some (.int .i64 0), 1, 8) := by kernel_rfl

set_option maxRecDepth 100000 in
set_option maxHeartbeats 8000000 in
theorem harmonyParts_any (fp lp : Option Addr) (fc lc : Nat) (A : Alpha) (p : Nat) (hp : p < 4294967296) (k : Nat) (hk : k < 4294967296) (w : World) (hA : AlphaAt w fp lp A) (hTb : Tabs w) :
    Calls Tryd.prog 9 #[.agg #[.slice fp A.feats.length fc, .slice lp A.lets.length lc], .int .u32 p, .int .u32 k] w fun e w' => e = .returned (.bool true) ∧ Ext w w' := by
  have hx0 : Ext w (w.alloc (.cells #[.slice fp A.feats.length fc, .slice lp A.lets.length lc] 26)) := (Ext.refl _).alloc _
  have HBX := Lib.hid (fun W (hW : Ext (w.alloc (.cells #[.slice fp A.feats.length fc, .slice lp A.lets.length lc] 26)) W) => (⟨hW.cell0 0, hW.cell0 1, hW.lt0⟩ : W.cell? ⟨w.heap.size, 0, none⟩ = some (.slice fp A.feats.length fc) ∧ W.cell? ⟨w.heap.size, 1, none⟩ = some (.slice lp A.lets.length lc) ∧ w.heap.size < W.heap.size))
  have HAL := Lib.hid (alive14_any _ (hTb.ext hx0))
  have h1 := fun W (hW : Ext w W) => sets_any fp lp fc lc A p k hp hk W (hA.mono hW)
  have h2 := fun W (hW : Ext w W) => class_any fp lp fc lc A p 0 hp (by decide) W (hA.mono hW)
  by_cases hE : setsE A p k = 0
  · obtain ⟨hok, hce, hcl, hsl⟩ := classE_ok hE
    have hG := setsL_good hA p k
    rw [hE] at h1
    rw [hce, hcl] at h2
    have hI := partI A p k A.lets.length
    have hsum := hI.sum
    have hn := classTo_len A p 0 A.lets.length
    have h128 := hok.2.2.1
    have hwf : ∀ i, i < (classTo A p 0 A.lets.length).length → -2147483648 ≤ rn (classTo A p 0 A.lets.length) i ∧ rn (classTo A p 0 A.lets.length) i ≤ 2147483647 := fun i hi => by
      rw [rn_eq hi]; exact classTo_wf hA.wf p 0 _ (Nat.le_refl _) _ (List.getElem_mem hi)
    have hlen : ∀ i, (pl (setsL A p k) i).length = (pg (setsTo A p k A.lets.length) i).length := fun i => by
      rw [hsl, pl_runes, List.length_map]; rfl
    have hls : (setsL A p k).length = (setsTo A p k A.lets.length).length := by rw [hsl, runesP_len]
    have hs0 : sumTo (setsTo A p k A.lets.length) 0 = 0 := rfl
    have hs1 : ∀ i, sumTo (setsTo A p k A.lets.length) (i + 1) = sumTo (setsTo A p k A.lets.length) i + (pl (setsL A p k) i).length := fun i => by rw [hlen]; rfl
    have hsb : ∀ i, i ≤ (setsL A p k).length → sumTo (setsTo A p k A.lets.length) i ≤ (classTo A p 0 A.lets.length).length := fun i hi => by
      rw [← hsum]; exact sumTo_le _ _ _ (by rw [← hls]; exact hi)
    rw [← hls] at hsum
    have hv0 := VA_zero A p k
    have hv1 := fun i u j (hi : i < (setsTo A p k A.lets.length).length) hu => VA_step hok p k (i := i) (u := u) (j := j) hi hu
    have hv2 := fun i j hj => VA_next hok p k (i := i) (j := j) hj
    have hv3 := fun j hj => VA_end hok p k (j := j) hj
    rw [← hsl] at hv1 hv2
    rw [← hls] at hv1 hv3
    have hx9 : (classTo A p 0 A.lets.length).length = 0 ∨ ((ixO A p k 0 : Nat) : Int) + 1 = 1 := by
      by_cases h : (classTo A p 0 A.lets.length).length = 0
      · exact .inl h
      · right; rw [ixO_first hok p k (by omega)]; rfl
    have hkp := fun i j (hi : i < (classTo A p 0 A.lets.length).length) (hj : j < (classTo A p 0 A.lets.length).length) W (hW : Ext w W) => (by
      obtain ⟨q1, q2⟩ := two_keeps hE hi hj
      have := keeps_any fp lp fc lc A (runesBytes [rn (classTo A p 0 A.lets.length) i, rn (classTo A p 0 A.lets.length) j]) (by
        have := rb_size_le [rn (classTo A p 0 A.lets.length) i, rn (classTo A p 0 A.lets.length) j]
        simp only [List.length_cons, List.length_nil] at this
        omega) p k hp hk W (hA.mono hW) (hTb.ext hW)
      rw [q1, q2, show (decide (ixO A p k j = ixO A p k i)) = (((ixO A p k i : Nat) : Int) + 1 == ((ixO A p k j : Nat) : Int) + 1) from by
        rw [Bool.eq_iff_iff]; simp only [decide_eq_true_eq, beq_iff_eq]; omega] at this
      exact this : Calls Tryd.prog 15 #[.agg #[.slice fp A.feats.length fc, .slice lp A.lets.length lc], .string (runesBytes [rn (classTo A p 0 A.lets.length) i, rn (classTo A p 0 A.lets.length) j]), .int .u32 p, .int .u32 k] W fun e W' => e = .returned (.tuple #[.bool (((ixO A p k i : Nat) : Int) + 1 == ((ixO A p k j : Nat) : Int) + 1), .int .i64 0]) ∧ Ext W W')
    obtain ⟨IX, hIX⟩ : ∃ IX, ixO A p k = IX := ⟨_, rfl⟩
    rw [hIX] at hv3 hx9 hkp
    obtain ⟨VV, hVV⟩ : ∃ VV, VA A p k = VV := ⟨_, rfl⟩
    rw [hVV] at hv0 hv1 hv2 hv3
    obtain ⟨SM, hSM⟩ : ∃ SM, sumTo (setsTo A p k A.lets.length) = SM := ⟨_, rfl⟩
    rw [hSM] at hsum hs0 hs1 hsb
    obtain ⟨ls, hlq⟩ : ∃ ls, setsL A p k = ls := ⟨_, rfl⟩
    rw [hlq] at h1 hG hsum hs1 hsb hv1 hv2 hv3
    obtain ⟨C, hC⟩ : ∃ C, classTo A p 0 A.lets.length = C := ⟨_, rfl⟩
    rw [hC] at h2 hsum hsb hn hwf hv1 hv2 hv3 hx9 hkp
    have hC128 : C.length ≤ 128 := by omega
    have hmk := fun W => run_make_row' (P := Tryd.prog) 50 3 (.int .i64 0) 8 Tryd.underlying50 infoI14 rfl .i64 .i64 C.length (by omega) (by omega) W
    have H1 := Lib.hid h1
    have H2 := Lib.hid h2
    have HG := Lib.hid hG
    have HV0 := Lib.hid hv0
    have HV1 := Lib.hid hv1
    have HV2 := Lib.hid hv2
    have HV3 := Lib.hid hv3
    have HX9 := Lib.hid hx9
    have HKP := Lib.hid hkp
    have HWF := Lib.hid hwf
    have HSU := Lib.hid hsum
    have HS0 := Lib.hid hs0
    have HS1 := Lib.hid hs1
    have HSB := Lib.hid hsb
    have hf := hG.few
    clear h1 h2 hG hv0 hv1 hv2 hv3 hx9 hkp hwf hsum hs0 hs1 hsb hIX hVV hSM hlq hC hlen hls hI hce hcl hsl hok h128 hn hE
    go_enter Tryd.func9, Tryd.ntmps9
    go_wp2_with fail
    refine HAL.out.mono ?_
    rintro e w1 ⟨rfl, hx1⟩
    obtain ⟨d0, d1, l0⟩ := HBX.out _ hx1
    go_wp2_with fail
    refine (H1.out _ (hx0.trans hx1)).mono ?_
    rintro e w2 ⟨v1, vs1, rfl, P1, hx2⟩
    have hx2 := hx1.trans hx2
    obtain ⟨d0, d1, l0⟩ := HBX.out _ hx2
    obtain ⟨p1, c1, e1⟩ := ownsRow_slice P1.out
    rw [P1.len] at e1
    subst e1
    go_wp2_with fail
    refine (H2.out _ (hx0.trans hx2)).mono ?_
    rintro e w3 ⟨rp, rc, rfl, hoc, hx3⟩
    have P1 := P1.ext hx3
    have hx3 := hx2.trans hx3
    have hC3 := hoc.at_
    have HP1 := Lib.hid P1
    have hw3 := hx0.trans hx3
    clear hoc P1 d0 d1 l0 hx1 hx2
    go_wp2_with fail
    obtain ⟨W0, hW0⟩ : ∃ W0, w3.alloc (.cells (madeCells #[.int .i64 0] C.length) 3) = W0 := ⟨_, rfl⟩
    have hE0 : Ext w3 W0 := by rw [← hW0]; exact (Ext.refl _).alloc _
    have hR0 := World.rowIs_made w3 (.int .i64 0) C.length 3
    rw [hW0] at hR0 ⊢
    obtain ⟨o, ho⟩ : ∃ o, w3.heap.size = o := ⟨_, rfl⟩
    rw [ho] at hR0 ⊢
    have hgo : w3.heap.size ≤ o := by omega
    have HGO := Lib.hid hgo
    have HE0 := Lib.hid hE0
    have HR0 := Lib.hid hR0
    clear hW0 ho hE0 hR0 hgo
    obtain ⟨N, hN⟩ : ∃ N, ls.length = N := ⟨_, rfl⟩
    have HN := Lib.hid hN
    rw [hN] at hf ⊢
    clear hN
    go_loopw [13, 14, 15, 16] (fun m i _ _ wr => ∃ (t : Nat) (f : Nat → Value), t ≤ N ∧ i = .int .i64 t ∧ m = .int .i64 (SM t : Nat) ∧ Ext w3 wr ∧ wr.rowIs o 3 C.length f ∧ Hid (∀ j, j < C.length → f j = .int .i64 (VV t 0 j))) (fun _ i _ _ _ => N - (intOf i).toNat)
    case atStart => exact ⟨0, _, Nat.zero_le _, rfl, by rw [HS0.out]; rfl, HE0.out, HR0.out, fun j hj => by rw [HV0.out]⟩
    case round =>
      obtain ⟨t, f, ht, rfl, rfl, hx, hR, HF⟩ := hrel
      by_cases hlt : t < N
      · have htl : t < ls.length := by rw [HN.out]; exact hlt
        have HTL := Lib.hid htl
        obtain ⟨hM1, hM2⟩ := HG.out.some_ t htl
        have hS1 := HS1.out t
        have hSB := HSB.out (t + 1) htl
        have hS := hSB
        rw [hS1] at hS
        obtain ⟨go, gc, ho, _, hgl, hgc, _⟩ := HP1.out.cell htl
        simp only [Value.slice.injEq] at ho
        obtain ⟨ho1, ho2, ho3⟩ := ho
        subst ho1
        subst ho3
        obtain ⟨b1, d1, q1, _, hb1, r1⟩ := HP1.out.runesG HG.out htl
        rw [q1] at hgc
        have HGC := Lib.hid (fun W (hW : Ext w3 W) => (hW.facts.1 go t hgl).trans hgc)
        have HRR := Lib.hid (fun u (hu : u < (pl ls t).length) W (hW : Ext w3 W) => (show W.cell? ⟨b1, u, none⟩ = some (.int .i32 (rn (pl ls t) u)) from (hW.facts.1 b1 u hb1).trans (by
          obtain ⟨b, off, e, _, h⟩ := r1.cells hu
          simp only [Option.some.injEq, Addr.mk.injEq] at e
          obtain ⟨e1, e2, _⟩ := e
          rw [← e1, ← e2, Nat.zero_add] at h; exact h)))
        have HVS := Lib.hid (fun u j hu => HV1.out t u j htl hu)
        have HVN := Lib.hid (fun j hj => HV2.out t j hj)
        obtain ⟨M, hM⟩ : ∃ M, (pl ls t).length = M := ⟨_, rfl⟩
        obtain ⟨R, hRR⟩ : ∃ R, rn (pl ls t) = R := ⟨_, rfl⟩
        have hgc0 := HGC.out _ hx
        rw [hM] at hM1 hM2 hS hS1 HGC HRR hgc0 HVS HVN
        rw [hRR] at HRR HVS
        have HS9 := Lib.hid hS1
        clear hgc r1 q1 hM htl hS1 ho2 hRR hSB
        go_wp2_with fail
        go_loopw [13, 15, 16] (fun m q _ wq => ∃ (u : Nat) (f : Nat → Value), u ≤ M ∧ q = .int .i64 u ∧ m = .int .i64 ((SM t + u : Nat) : Int) ∧ Ext w3 wq ∧ wq.rowIs o 3 C.length f ∧ Hid (∀ j, j < C.length → f j = .int .i64 (VV t u j))) (fun _ q _ _ => M - (intOf q).toNat)
        case atStart => exact ⟨0, f, Nat.zero_le _, rfl, rfl, hx, hR, HF.out⟩
        case round =>
          clear hR HF f
          obtain ⟨u, f, hu, rfl, rfl, hy, hR, HF⟩ := hrel
          have gc1 := HGC.out _ hy
          by_cases hu1 : u < M
          · go_wp2_with fail
            go_loopw [16] (fun x wq => ∃ (j : Nat) (f : Nat → Value), j ≤ C.length ∧ x = .int .i64 j ∧ Ext w3 wq ∧ wq.rowIs o 3 C.length f ∧ Hid (∀ i, i < C.length → f i = .int .i64 (if i < j then VV t (u + 1) i else VV t u i))) (fun x _ => C.length - (intOf x).toNat)
            case atStart => exact ⟨0, f, Nat.zero_le _, rfl, hy, hR, fun i hi => by rw [if_neg (by omega)]; exact HF.out i hi⟩
            case round =>
              clear hR HF f
              obtain ⟨j, f, hj, rfl, hy, hR, HF⟩ := hrel
              by_cases hj1 : j < C.length
              · obtain ⟨bc, oc, ec, hbc, cc⟩ := (hC3.mono hy).cells hj1
                subst ec
                have gc2 := HGC.out _ hy
                have rr := HRR.out u hu1 _ hy
                have hvs := HVS.out u j hu1
                obtain ⟨a, ha⟩ : ∃ a, rn C j = a := ⟨_, rfl⟩
                obtain ⟨b, hb⟩ : ∃ b, R u = b := ⟨_, rfl⟩
                rw [ha, hb] at hvs
                rw [ha] at cc
                rw [hb] at rr
                by_cases hab : a = b
                · rw [if_pos hab] at hvs
                  have gab : (a == b) = true := by rw [hab]; simp
                  have HVT := Lib.hid hvs
                  clear hvs ha hb hab
                  go_wp2_with fail
                  (refine wp_region_ext (by kernel_rfl) (by kernel_rfl) ?_; intro ι hι g hg; have q_cc := hg.cell cc; have q_gc2 := hg.cell gc2; have q_rr := hg.cell rr; clear cc gc2 rr; (repeat (go_big_quiet_step (fail))); refine wpQuiet_nil ?_; rintro w8 ⟨i2, rfl⟩; have hq := hg.ext i2; generalize g i2 = w8 at hq ⊢; clear q_cc q_gc2 q_rr i2 hg g hι ι)
                  have hR := rowX hR hq
                  have r0 := hR.cell (i := j) hj1
                  have f0 := hR.frozen j
                  have lo := hR.lt
                  go_wp2_with fail
                  refine ⟨⟨j + 1, _, by omega, by go_num, (hy.trans hq).setCell HGO.out _, hR.set j _, fun i hi => ?_⟩, by simp [intOf]; omega⟩
                  by_cases e : i = j
                  · subst e
                    rw [if_pos rfl, if_pos (Nat.lt_succ_self _), HVT.out]
                  · rw [if_neg e, HF.out i hi]
                    by_cases e2 : i < j
                    · rw [if_pos e2, if_pos (by omega)]
                    · rw [if_neg e2, if_neg (by omega)]
                · rw [if_neg hab] at hvs
                  have gab : (a == b) = false := by rw [beq_eq_false_iff_ne]; exact hab
                  have HVT := Lib.hid hvs
                  clear hvs ha hb hab
                  go_wp2_with fail
                  (refine wp_region_ext (by kernel_rfl) (by kernel_rfl) ?_; intro ι hι g hg; have q_cc := hg.cell cc; have q_gc2 := hg.cell gc2; have q_rr := hg.cell rr; clear cc gc2 rr; (repeat (go_big_quiet_step (fail))); refine wpQuiet_nil ?_; rintro w8 ⟨i2, rfl⟩; have hq := hg.ext i2; generalize g i2 = w8 at hq ⊢; clear q_cc q_gc2 q_rr i2 hg g hι ι)
                  go_wp2_with fail
                  refine ⟨⟨j + 1, f, by omega, by go_num, hy.trans hq, rowX hR hq, fun i hi => ?_⟩, by simp [intOf]; omega⟩
                  rw [HF.out i hi]
                  by_cases e : i = j
                  · rw [e, if_neg (Nat.lt_irrefl _), if_pos (Nat.lt_succ_self _), HVT.out]
                  · by_cases e2 : i < j
                    · rw [if_pos e2, if_pos (by omega)]
                    · rw [if_neg e2, if_neg (by omega)]
              · have e : C.length = j := by omega
                subst e
                have HF2 := Lib.hid (fun i (hi : i < C.length) => (HF.out i hi).trans (by rw [if_pos hi]))
                have h64 : SM t + u + 1 ≤ 128 := by omega
                clear HF
                go_wp2_with fail
                exact ⟨⟨u + 1, f, by omega, by go_num, by go_num, hy, hR, HF2.out⟩, by simp [intOf]; omega⟩
          · have e : M = u := by omega
            subst e
            have HF2 := Lib.hid (fun i (hi : i < C.length) => (HF.out i hi).trans (by rw [← HVN.out i hi]))
            clear HF
            go_wp2_with fail
            exact ⟨⟨t + 1, f, by omega, by go_num, by rw [HS9.out], hy, hR, HF2.out⟩, by simp [intOf]; omega⟩
      · have e : N = t := by omega
        subst e
        have HF2 := Lib.hid (fun j (hj : j < C.length) => (HF.out j hj).trans (by rw [← HN.out, HV3.out j hj]))
        have hsu := HSU.out
        rw [HN.out] at hsu
        rw [hsu]
        have hkk : ∀ (W : World) (B : Nat) (a b : Int), W.heap.size = B → (-2147483648 ≤ a ∧ a ≤ 2147483647) → (-2147483648 ≤ b ∧ b ≤ 2147483647) → (convert 41 9 (.slice (some ⟨B, 0, none⟩) 2 2)).run Tryd.prog (W.alloc (.cells #[.int .i32 a, .int .i32 b] 21)).drew = .ok (.string (runesBytes [a, b])) (W.alloc (.cells #[.int .i32 a, .int .i32 b] 21)).drew := fun W B a b hB ha hb => by
          subst hB
          exact ((runes_two (heap_alloc_new _ _) ha hb).mono (Ext.refl _).drew).text Tryd.underlying41 Tryd.underlying21 Tryd.underlying9 2
        have HKK := Lib.hid hkk
        obtain ⟨wX, hwX⟩ : ∃ wX, wr = wX := ⟨_, rfl⟩
        rw [hwX] at hx hR ⊢
        have HR := Lib.hid hR
        clear hkk hsu HF hwX hR
        go_wp2_with fail
        go_loopw [17, 18] (fun i _ wq => ∃ i' : Nat, i' ≤ C.length ∧ i' ≤ 40 ∧ i = .int .i64 i' ∧ Ext wX wq) (fun i _ _ => C.length - (intOf i).toNat)
        case atStart => exact ⟨0, Nat.zero_le _, by omega, rfl, Ext.refl _⟩
        case round =>
          obtain ⟨i, hi, hi40, rfl, hy⟩ := hrel
          by_cases h1 : i < C.length
          · by_cases h2 : i < 40
            · go_wp2_with fail
              simp only [show decide ((i : Int) < 40) = true from decide_eq_true (by omega)]
              go_loopw [18] (fun x wq => ∃ j : Nat, j ≤ i ∧ x = .int .i64 j ∧ Ext wX wq) (fun x _ => i - (intOf x).toNat)
              case atStart => exact ⟨0, Nat.zero_le _, rfl, hy⟩
              case round =>
                clear hy
                obtain ⟨j, hj, rfl, hy⟩ := hrel
                by_cases hji : j < i
                · have hjC : j < C.length := by omega
                  obtain ⟨bc, oc, ec, hbc, c0⟩ := (hC3.mono (hx.trans hy)).cells h1
                  obtain ⟨bd, od, ed, hbd, c1⟩ := (hC3.mono (hx.trans hy)).cells hjC
                  subst ec
                  simp only [Option.some.injEq, Addr.mk.injEq] at ed
                  obtain ⟨rfl, rfl, _⟩ := ed
                  have hS4 := fun (W : World) (hW : Ext wr W) => (⟨hW, (HBX.out _ (hx3.trans (hx.trans (hy.trans hW)))).1, (HBX.out _ (hx3.trans (hx.trans (hy.trans hW)))).2.1, (hW.facts.1 bc (oc + i) hbc).trans c0, (hW.facts.1 bc (oc + j) hbc).trans c1⟩ :
                    Ext wr W ∧ W.cell? ⟨w.heap.size, 0, none⟩ = some (.slice fp A.feats.length fc) ∧ W.cell? ⟨w.heap.size, 1, none⟩ = some (.slice lp A.lets.length lc) ∧ W.cell? ⟨bc, oc + i, none⟩ = some (.int .i32 (rn C i)) ∧ W.cell? ⟨bc, oc + j, none⟩ = some (.int .i32 (rn C j)))
                  have HS4 := Lib.hid hS4
                  have hcv := HKK.out wr _ _ _ rfl (HWF.out i h1) (HWF.out j hjC)
                  have hke := fun W (hW : Ext wr W) => HKP.out i j h1 hjC W (hw3.trans (hx.trans (hy.trans hW)))
                  have z0 : (0 : Int) ≤ (i : Int) := by omega
                  have z1 : (i : Int) < (C.length : Int) := by omega
                  have z2 : (0 : Int) ≤ (j : Int) := by omega
                  have z3 : (j : Int) < (C.length : Int) := by omega
                  have R0 := Lib.hid (fun W (hW : Ext wr W) => (⟨((rowX HR.out hy).cell h1 |> fun h => (rowX (rowX HR.out hy) hW).cell h1), (rowX (rowX HR.out hy) hW).cell hjC⟩ : W.cell? ⟨o, i, none⟩ = some (f i) ∧ W.cell? ⟨o, j, none⟩ = some (f j)))
                  obtain ⟨T, hT⟩ : ∃ T, runesBytes [rn C i, rn C j] = T := ⟨_, rfl⟩
                  rw [hT] at hcv hke
                  obtain ⟨a, ha⟩ : ∃ a, ((IX i : Nat) : Int) + 1 = a := ⟨_, rfl⟩
                  obtain ⟨b, hb⟩ : ∃ b, ((IX j : Nat) : Int) + 1 = b := ⟨_, rfl⟩
                  have hfi := HF2.out i h1
                  have hfj := HF2.out j hjC
                  rw [ha] at hke hfi
                  rw [hb] at hke hfj
                  rw [hfi, hfj] at R0
                  have gaz : (a == 0) = false := by rw [beq_eq_false_iff_ne]; omega
                  obtain ⟨q, hab⟩ : ∃ q, (a == b) = q := ⟨_, rfl⟩
                  rw [hab] at hke
                  have gab : (q != q) = false := by simp
                  have HKE := Lib.hid hke
                  clear hS4 hke hT ha hb hfi hfj c0 c1
                  go_wp2_with fail
                  apply wp_one (R := fun W => Ext wr W)
                  case h =>
                    obtain ⟨_, d0, d1, c0, c1⟩ := HS4.out _ (Ext.refl _)
                    obtain ⟨_, d2, d3, c2, c3⟩ := HS4.out (wr.alloc (.cells #[.int .i32 (rn C i), .int .i32 (rn C j)] 21)).drew ((Ext.refl _).alloc _).drew
                    go_region_law (go_simp; (go_at_call 15; refine (HKE.out _ ((Ext.refl wr).alloc _).drew).mono ?_; rintro e w5 ⟨rfl, hx5⟩; have hE3 : Ext wr w5 := ((Ext.refl wr).alloc _).drew.trans hx5))
                    all_goals (simp only [Act.put, List.getElem_toArray, List.getElem_cons_succ, List.getElem_cons_zero, List.setIfInBounds_toArray, List.set_cons_succ, List.set_cons_zero])
                    all_goals (exact NoPanic.normal ⟨rfl, rfl, hE3⟩)
                  intro w5 hE3
                  obtain ⟨r0, r1⟩ := R0.out _ hE3
                  go_wp2_with fail
                  (refine wp_region_ext (by kernel_rfl) (by kernel_rfl) ?_; intro ι hι g hg; have q_r0 := hg.cell r0; have q_r1 := hg.cell r1; clear r0 r1; (repeat (go_big_quiet_step (fail))); refine wpQuiet_nil ?_; rintro w6 ⟨i2, rfl⟩; have hq := hg.ext i2; generalize g i2 = w6 at hq ⊢; clear q_r0 q_r1 i2 hg g hι ι)
                  go_wp2_with fail
                  exact ⟨⟨j + 1, by omega, by go_num, hy.trans (hE3.trans hq)⟩, by simp [intOf]; omega⟩
                · have e : i = j := by omega
                  subst e
                  go_wp2_with fail
                  exact ⟨⟨i + 1, by omega, by omega, by go_num, hy⟩, by simp [intOf]; omega⟩
            · have hR9 := rowX HR.out hy
              have h0 : 0 < C.length := by omega
              have r0 := hR9.cell (i := 0) h0
              have hq1 : f 0 = .int .i64 1 := by
                rw [HF2.out 0 h0]
                rcases HX9.out with h | h
                · omega
                · rw [h]
              rw [hq1] at r0
              have gn : ((C.length : Int) == 0) = false := by rw [beq_eq_false_iff_ne]; omega
              have z0 : (0 : Int) < (C.length : Int) := by omega
              have hyw := hw3.trans (hx.trans hy)
              clear hR9 hq1
              go_wp2_with fail
              go_ret
              exact ⟨rfl, hyw⟩
          · have e : C.length = i := by omega
            have hyw := hw3.trans (hx.trans hy)
            rw [← e]
            by_cases h0 : 0 < C.length
            · have hR9 := rowX HR.out hy
              have r0 := hR9.cell (i := 0) h0
              have hq1 : f 0 = .int .i64 1 := by
                rw [HF2.out 0 h0]
                rcases HX9.out with h | h
                · omega
                · rw [h]
              rw [hq1] at r0
              have gn : ((C.length : Int) == 0) = false := by rw [beq_eq_false_iff_ne]; omega
              have z0 : (0 : Int) < (C.length : Int) := by omega
              clear hR9 hq1 e
              go_wp2_with fail
              go_ret
              exact ⟨rfl, hyw⟩
            · have gn : ((C.length : Int) == 0) = true := by rw [beq_iff_eq]; omega
              clear e
              go_wp2_with fail
              go_ret
              exact ⟨rfl, hyw⟩
  · have hl0 : setsL A p k = [] := if_neg hE
    rw [hl0] at h1
    have gE : (setsE A p k != 0) = true := by rw [bne_iff_ne]; exact hE
    obtain ⟨E, hEE⟩ : ∃ E, setsE A p k = E := ⟨_, rfl⟩
    rw [hEE] at h1 gE
    have H1 := Lib.hid h1
    have H2 := Lib.hid h2
    clear h1 h2 hE hl0 hEE
    go_enter Tryd.func9, Tryd.ntmps9
    go_wp2_with fail
    refine HAL.out.mono ?_
    rintro e w1 ⟨rfl, hx1⟩
    obtain ⟨d0, d1, l0⟩ := HBX.out _ hx1
    go_wp2_with fail
    refine (H1.out _ (hx0.trans hx1)).mono ?_
    rintro e w2 ⟨v1, vs1, rfl, P1, hx2⟩
    have hx2 := hx1.trans hx2
    obtain ⟨d0, d1, l0⟩ := HBX.out _ hx2
    obtain ⟨p1, c1, e1⟩ := ownsRow_slice P1.out
    rw [P1.len] at e1
    subst e1
    go_wp2_with fail
    refine (H2.out _ (hx0.trans hx2)).mono ?_
    rintro e w3 ⟨rp, rc, rfl, hoc, hx3⟩
    have hx3 := hx2.trans hx3
    clear hoc P1 d0 d1 l0 hx1 hx2
    go_wp2_with fail
    go_ret
    exact ⟨rfl, hx0.trans hx3⟩

end Go.Proofs.YtcnjgfadihimiaaDoor
