/- Contract of feature.Check: it returns 0 just of an alphabet that may be, 7 else; what was in memory stays. -/
import Derived.Test.YtcnhlogkhnoacaaGreatDoorFeatd
namespace Go.Proofs.YtcnhlogkhnoacaaGreatDoor
open Go.RowKit Go.Cg Go.Shelf Go.Maps

theorem lawS : Keyed Tryz.prog 9 := string_keyed Tryz.underlying9
theorem lawR : Keyed Tryz.prog 21 := int_keyed Tryz.underlying21
theorem zBool : (Tryz.prog.info? 4).map (·.zero) = some (some (.bool false)) := by kernel_rfl

/-- the set of the first k names -/
def namesF (A : Alpha) : Nat → Lit → Option Lit
  | 0 => fun _ => none
  | k + 1 => putFn (namesF A k) (.string (A.ft k).data.toList) (.bool true)
theorem lit_string_key (l : List UInt8) : WideAt.IsKeyLit (.string l) := by simp [WideAt.IsKeyLit]
theorem namesF_get (A : Alpha) (s : ByteArray) : ∀ k, (namesF A k (.string s.data.toList)).getD (.bool false) = .bool ((List.range k).any fun j => decide (A.ft j = s))
  | 0 => rfl
  | k + 1 => by
    show (putFn _ _ _ _).getD _ = _
    unfold putFn
    rw [List.range_succ, List.any_append]
    by_cases h : s = A.ft k
    · rw [if_pos (by rw [h]; exact WideAt.sameKey_self (lit_string_key _))]; simp [h]
    · rw [if_neg (fun hs => h (by
        have := WideAt.sameKey_eq hs
        simp only [Lit.string.injEq] at this
        have h2 : s.data = (A.ft k).data := Array.toList_inj.1 this
        cases s; cases hf : A.ft k; rw [hf] at h2; simp_all)), namesF_get A s k]
      have e : decide (A.ft k = s) = false := decide_eq_false (fun e => h e.symm)
      simp [e]
/-- the set of the first k runes -/
def runesF (A : Alpha) : Nat → Lit → Option Lit
  | 0 => fun _ => none
  | k + 1 => putFn (runesF A k) (.int .i32 (A.at_ k).rune) (.bool true)
theorem lit_int_key (k : IntKind) (n : Int) : WideAt.IsKeyLit (.int k n) := by simp [WideAt.IsKeyLit]
theorem runesF_get (A : Alpha) (r : Int) : ∀ k, (runesF A k (.int .i32 r)).getD (.bool false) = .bool ((List.range k).any fun j => decide ((A.at_ j).rune = r))
  | 0 => rfl
  | k + 1 => by
    show (putFn _ _ _ _).getD _ = _
    unfold putFn
    rw [List.range_succ, List.any_append]
    by_cases h : r = (A.at_ k).rune
    · rw [if_pos (by rw [h]; exact WideAt.sameKey_self (lit_int_key _ _))]; simp [h]
    · rw [if_neg (fun hs => h (by
        have := WideAt.sameKey_eq hs
        simpa using this)), runesF_get A r k]
      have e : decide ((A.at_ k).rune = r) = false := decide_eq_false (fun e => h e.symm)
      simp [e]
theorem any_no {k : Nat} {q : Nat → Prop} [∀ j, Decidable (q j)] (h : ((List.range k).any fun j => decide (q j)) = false) : ∀ j, j < k → ¬ q j := fun j hj hq => by
  rw [List.any_eq_false] at h
  exact h j (List.mem_range.2 hj) (by simpa using hq)
theorem any_yes {k : Nat} {q : Nat → Prop} [∀ j, Decidable (q j)] (h : ((List.range k).any fun j => decide (q j)) = true) : ∃ j, j < k ∧ q j := by
  obtain ⟨j, hj, hq⟩ := List.any_eq_true.1 h
  exact ⟨j, List.mem_range.1 hj, by simpa using hq⟩

theorem keyS {s : ByteArray} (hs : s.size ≤ 140737488351232) : keyOf Tryz.prog 9 (.string s) = some (.string s.data.toList) :=
  Go.WideMaps.keyOf_string_mk Tryz.underlying9 (by unfold maxLen; omega)
theorem wf_i32 {r : Int} (h1 : -2147483648 ≤ r) (h2 : r ≤ 2147483647) : (Lit.int .i32 r).wf = true := WalkArith.wf_i32 (by omega)
theorem keyR {r : Int} (h1 : -2147483648 ≤ r) (h2 : r ≤ 2147483647) : keyOf Tryz.prog 21 (.int .i32 r) = some (.int .i32 r) :=
  keyOf_int_mk Tryz.underlying21 (wf_i32 h1 h2)

set_option maxRecDepth 100000 in
set_option maxHeartbeats 1000000 in
theorem check_any (fp lp : Option Addr) (fc lc : Nat) (A : Alpha) (w : World) (hA : AlphaAt w fp lp A) :
    Calls Tryz.prog 33 #[.agg #[.slice fp A.feats.length fc, .slice lp A.lets.length lc]] w fun e w' => e = .returned (.int .i64 (checkN A)) ∧ Ext w w' := by
  have hb := hA.lbig
  have hfb := hA.fbig
  have hmm := @run_makeMap Tryz.prog
  by_cases h1 : A.feats.length ≤ 24
  · by_cases h2 : 1 ≤ A.lets.length
    · by_cases h3 : A.lets.length ≤ 128
      · go_enter Tryz.func33, Tryz.ntmps33
        go_wp2_with fail
        go_loopw [29] (fun i wr => ∃ k : Nat, k ≤ A.feats.length ∧ Hid (∀ j, j < k → featOk A j) ∧ i = .int .i64 k ∧ Ext (w.alloc (.cells #[.slice fp A.feats.length fc, .slice lp A.lets.length lc] 25)) wr ∧ MapFn Tryz.prog wr 9 4 (w.heap.size + 1) k (namesF A k)) (fun i _ => A.feats.length - (intOf i).toNat)
        case atStart => exact ⟨0, Nat.zero_le _, fun j hj => by omega, rfl, (Ext.refl _).alloc _, by have := MapFn.made Tryz.prog (w.alloc (.cells #[.slice fp A.feats.length fc, .slice lp A.lets.length lc] 25)) 9 4; rw [World.size_alloc] at this; exact this⟩
        case round =>
          obtain ⟨k, hk, HN, rfl, hx, hM⟩ := hrel
          have hx0 := hx.box
          by_cases hlt : k < A.feats.length
          · obtain ⟨b, off, rfl, hbw, c0⟩ := (hA.mono hx0).fcells hlt
            have hfs := hA.fwf k hlt
            have hlook := fun (W : World) (hW : Ext wr W) => (hM.ext hW).look_bool lawS Tryz.underlying139 Tryz.underlying4 zBool (keyS hfs) (namesF_get A (A.ft k) k)
            have HL := Lib.hid hlook
            clear hlook
            cases hn : nameOk (A.ft k)
            · go_wp2_with (go_at_call 63; refine (named_any _ _ hfs).mono ?_; rintro e w1 ⟨rfl, hx1⟩; have hl1 := HL.out w1 hx1)
              go_ret
              exact ⟨ret_int (checkN_bad (not_ok_feat hlt fun h => by rw [h.1] at hn; cases hn)).symm, hx0.trans hx1⟩
            · cases hd : ((List.range k).any fun j => decide (A.ft j = A.ft k))
              · go_wp2_with (first | (go_at_call 63; refine (named_any _ _ hfs).mono ?_; rintro e w1 ⟨rfl, hx1⟩; have hl1 := HL.out w1 hx1; rw [hd] at hl1) | (at_mapUpdate; refine wpList_mapUpdate_fn _ rfl _ _ _ 139 rfl 9 4 (w.heap.size + 1) k (namesF A k) (hM.ext hx1) lawS Tryz.underlying139 (by unfold maxLen; omega) rfl _ _ _ (.bool true) rfl rfl (keyS hfs) (plainElem_bool Tryz.underlying4 true) ?_; intro w2 hM2 hg2 hs2))
                refine ⟨⟨k + 1, by omega, ?_, by go_num, ?_, hM2⟩, by simp [intOf]; omega⟩
                · exact upto_succ HN.out ⟨hn, any_no hd⟩
                · exact (hx.trans hx1).grown hg2 (by rintro j ⟨⟩; simp)
              · go_wp2_with (first | (go_at_call 63; refine (named_any _ _ hfs).mono ?_; rintro e w1 ⟨rfl, hx1⟩; have hl1 := HL.out w1 hx1; rw [hd] at hl1))
                go_ret
                obtain ⟨j, hj, e⟩ := any_yes hd
                exact ⟨ret_int (checkN_bad (not_ok_feat hlt fun h => h.2 j hj e)).symm, hx0.trans hx1⟩
          · have HF : Hid (∀ j, j < A.feats.length → featOk A j) := fun j hj => HN.out j (by omega)
            have d1 : wr.cell? ⟨w.heap.size, 1, none⟩ = some (.slice lp A.lets.length lc) := by simpa using hx.cell0 1
            have hlw := hx.lt0
            obtain ⟨wn, rfl⟩ : ∃ wn : World, wn = wr := ⟨_, rfl⟩
            go_wp2_with fail
            clear d1
            go_loopw [48] (fun i wr => ∃ k : Nat, k ≤ A.lets.length ∧ Hid (∀ j, j < k → letOk A j) ∧ i = .int .i64 k ∧ Ext (w.alloc (.cells #[.slice fp A.feats.length fc, .slice lp A.lets.length lc] 25)) wr ∧ wn.heap.size < wr.heap.size ∧ MapFn Tryz.prog wr 21 4 wn.heap.size k (runesF A k)) (fun i _ => A.lets.length - (intOf i).toNat)
            case atStart => exact ⟨0, Nat.zero_le _, fun j hj => by omega, rfl, hx.alloc _, by simp, MapFn.made Tryz.prog wn 21 4⟩
            case round =>
              clear hM HN
              obtain ⟨k, hk, HN, rfl, hx, hwn, hM⟩ := hrel
              have hx0 := hx.box
              by_cases hlt : k < A.lets.length
              · obtain ⟨b, off, rfl, hbw, c0, c1, c2⟩ := (hA.mono hx0).cells hlt
                obtain ⟨wf1, wf2, wf3, wf4⟩ := hA.wf k hlt
                have hlw2 := hx.lt0
                have d0 : wr.cell? ⟨w.heap.size, 0, none⟩ = some (.slice fp A.feats.length fc) := by simpa using hx.cell0 0
                have d1 : wr.cell? ⟨w.heap.size, 1, none⟩ = some (.slice (some ⟨b, off, none⟩) A.lets.length lc) := by simpa using hx.cell0 1
                obtain ⟨W0, hW0⟩ : ∃ W0 : World, W0 = wr.alloc (.cells #[.int .i32 (A.at_ k).rune, .int .u32 ((A.at_ k).plus : Int), .int .u32 ((A.at_ k).minus : Int)] 114) := ⟨_, rfl⟩
                have hxW : Ext wr W0 := by rw [hW0]; exact (Ext.refl _).alloc _
                have hlook := fun (W : World) (hW : Ext wr W) => (hM.ext hW).look_bool lawR Tryz.underlying131 Tryz.underlying4 zBool (keyR wf1 wf2) (runesF_get A (A.at_ k).rune k)
                have HL := hlook _ ((Ext.refl wr).alloc (.cells #[.int .i32 (A.at_ k).rune, .int .u32 ((A.at_ k).plus : Int), .int .u32 ((A.at_ k).minus : Int)] 114))
                have HM2 := fun (W : World) (hW : Ext (wr.alloc (.cells #[.int .i32 (A.at_ k).rune, .int .u32 ((A.at_ k).plus : Int), .int .u32 ((A.at_ k).minus : Int)] 114)) W) => hM.ext (hW.box)
                clear hlook hW0 hxW
                cases hr : runeOk (A.at_ k).rune
                · go_wp2_with (first | (go_at_call 64; refine (lettered_any _ _ wf1 wf2).mono ?_; rintro e w1 ⟨rfl, rfl⟩))
                  go_ret
                  exact ⟨ret_int (checkN_bad (not_ok_let hlt fun h => by rw [h.1] at hr; cases hr)).symm, hx0.alloc _⟩
                · cases hd : ((List.range k).any fun j => decide ((A.at_ j).rune = (A.at_ k).rune))
                  · rw [hd] at HL
                    cases hm : mayB A.feats.length (A.at_ k).plus (A.at_ k).minus
                    · go_wp2_with (first | (go_at_call 64; refine (lettered_any _ _ wf1 wf2).mono ?_; rintro e w1 ⟨rfl, rfl⟩) | (go_at_call 65; refine (within_any _ _ _ _ _ _ wf3 wf4 hfb _).mono ?_; rintro e w1 ⟨rfl, hx1⟩))
                      go_ret
                      exact ⟨ret_int (checkN_bad (not_ok_let hlt fun h => by rw [h.2.1] at hm; cases hm)).symm, (hx0.alloc _).trans hx1⟩
                    · go_wp2_with (first | (go_at_call 64; refine (lettered_any _ _ wf1 wf2).mono ?_; rintro e w1 ⟨rfl, rfl⟩) | (go_at_call 65; refine (within_any _ _ _ _ _ _ wf3 wf4 hfb _).mono ?_; rintro e w1 ⟨rfl, hx1⟩; have d3 := hx1.cell0 0) | (at_mapUpdate; refine wpList_mapUpdate_fn _ rfl _ _ _ 131 rfl 21 4 wn.heap.size k (runesF A k) (HM2 _ hx1) lawR Tryz.underlying131 (by unfold maxLen; omega) rfl _ _ _ (.bool true) rfl rfl (keyR wf1 wf2) (plainElem_bool Tryz.underlying4 true) ?_; intro w2 hM2 hg2 hs2))
                      refine ⟨⟨k + 1, by omega, ?_, by go_num, ?_, ?_, hM2⟩, by simp [intOf]; omega⟩
                      · exact upto_succ HN.out ⟨hr, hm, any_no hd⟩
                      · exact ((hx.alloc _).trans hx1).grown hg2 (by rintro j ⟨⟩; simp; omega)
                      · have := hx1.le; simp at this; omega
                  · rw [hd] at HL
                    go_wp2_with (first | (go_at_call 64; refine (lettered_any _ _ wf1 wf2).mono ?_; rintro e w1 ⟨rfl, rfl⟩))
                    go_ret
                    obtain ⟨j, hj, e⟩ := any_yes hd
                    exact ⟨ret_int (checkN_bad (not_ok_let hlt fun h => h.2.2 j hj e)).symm, hx0.alloc _⟩
              · go_wp2_with fail
                go_ret
                exact ⟨ret_int (checkN_ok ⟨h1, h2, h3, HF.out, fun j hj => HN.out j (by omega)⟩).symm, hx0⟩
      · go_enter Tryz.func33, Tryz.ntmps33
        go_wp2_with fail
        go_ret
        exact ⟨ret_int (checkN_bad fun o => h3 o.2.2.1).symm, (Ext.refl _).alloc _⟩
    · go_enter Tryz.func33, Tryz.ntmps33
      go_wp2_with fail
      go_ret
      exact ⟨ret_int (checkN_bad fun o => h2 o.2.1).symm, (Ext.refl _).alloc _⟩
  · go_enter Tryz.func33, Tryz.ntmps33
    go_wp2_with fail
    go_ret
    exact ⟨ret_int (checkN_bad fun o => h1 o.1).symm, (Ext.refl _).alloc _⟩

end Go.Proofs.YtcnhlogkhnoacaaGreatDoor
