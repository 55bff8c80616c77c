/- Contract of the reference's Check and asked. -/
import Derived.Test.YtcnhlogkhnoacaaGreatDoorFeatc
import Derived.Test.YtcnhlogkhnoacaaGreatDoorBasb
namespace Go.Proofs.YtcnhlogkhnoacaaGreatDoor
open Go.RowKit Go.Cg Go.Shelf

/- a running '&&' over a row, one step on -/
def RunAnd (o : Bool) (P : Prop) (q : Nat → Prop) (m : Nat) : Prop := o = true ↔ P ∧ ∀ t, t < m → q t
theorem RunAnd.start {o : Bool} {P : Prop} {q : Nat → Prop} (h : o = true ↔ P) : RunAnd o P q 0 :=
  ⟨fun e => ⟨h.1 e, fun t ht => by omega⟩, fun e => h.2 e.1⟩
theorem RunAnd.no {P : Prop} {m : Nat} {q : Nat → Prop} (h : RunAnd false P q m) : RunAnd false P q (m + 1) :=
  ⟨fun e => (by cases e), fun e => h.2 ⟨e.1, fun t ht => e.2 t (by omega)⟩⟩
theorem RunAnd.hit {o : Bool} {P : Prop} {m : Nat} {q : Nat → Prop} (_h : RunAnd o P q m) (hm : ¬ q m) : RunAnd false P q (m + 1) :=
  ⟨fun e => (by cases e), fun e => absurd (e.2 m (by omega)) hm⟩
theorem RunAnd.on {P : Prop} {m : Nat} {q : Nat → Prop} (h : RunAnd true P q m) (hm : q m) : RunAnd true P q (m + 1) :=
  ⟨fun _ => ⟨(h.1 rfl).1, fun t ht => by
    rcases Nat.lt_or_eq_of_le (Nat.le_of_lt_succ ht) with h' | rfl
    · exact (h.1 rfl).2 t h'
    · exact hm⟩, fun _ => rfl⟩
def letP (A : Alpha) (k : Nat) : Prop := runeOk (A.at_ k).rune = true ∧ mayB A.feats.length (A.at_ k).plus (A.at_ k).minus = true
theorem letP_iff {A : Alpha} {k : Nat} {b : Bool} (h : runeOk (A.at_ k).rune = b) : (b && mayB A.feats.length (A.at_ k).plus (A.at_ k).minus) = true ↔ letP A k := by
  subst h; rw [Bool.and_eq_true]; rfl
theorem upto_succ {k : Nat} {q : Nat → Prop} (h : ∀ j, j < k → q j) (hk : q k) : ∀ j, j < k + 1 → q j := fun j hj => by
  rcases Nat.lt_or_eq_of_le (Nat.le_of_lt_succ hj) with h' | rfl
  · exact h j h'
  · exact hk

set_option maxRecDepth 100000 in
set_option maxHeartbeats 1000000 in
theorem Check_any (fp lp : Option Addr) (fc lc : Nat) (A : Alpha) (w : World) (hA : AlphaAt w fp lp A) :
    Calls Tryz.prog 21 #[.agg #[.slice fp A.feats.length fc, .slice lp A.lets.length lc]] w fun e w' => e = .returned (.int .i64 (checkN A)) ∧ Ext w w' := by
  have hb := hA.lbig
  have hfb := hA.fbig
  by_cases h1 : A.feats.length ≤ 24
  · by_cases h2 : 1 ≤ A.lets.length
    · by_cases h3 : A.lets.length ≤ 128
      · go_enter Tryz.func21, Tryz.ntmps21
        go_wp2_with fail
        go_loopw [3] (fun i wr => ∃ k : Nat, k ≤ A.feats.length ∧ Hid (∀ j, j < k → featOk A j) ∧ i = .int .i64 k ∧ Ext (w.alloc (.cells #[.slice fp A.feats.length fc, .slice lp A.lets.length lc] 25)) wr) (fun i _ => A.feats.length - (intOf i).toNat)
        case atStart => exact ⟨0, Nat.zero_le _, fun j hj => by omega, rfl, Ext.refl _⟩
        case round =>
          obtain ⟨k, hk, HN, rfl, hx⟩ := hrel
          obtain ⟨hc, hf, hs⟩ := hx.facts
          by_cases hlt : k < A.feats.length
          · obtain ⟨b, off, rfl, hbw, c0⟩ := (hA.mono (hx.box)).fcells hlt
            go_wp2_with (go_at_call 47; refine (name_any _ _ (hA.fwf k hlt)).mono ?_; rintro e w1 ⟨rfl, rfl⟩)
            go_loopw [4, 5] (fun ok j wq => ∃ (m : Nat) (o : Bool), m ≤ k ∧ RunAnd o (nameOk (A.ft k) = true) (fun t => A.ft t ≠ A.ft k) m ∧ j = .int .i64 m ∧ ok = .bool o ∧ Ext (w.alloc (.cells #[.slice (some ⟨b, off, none⟩) A.feats.length fc, .slice lp A.lets.length lc] 25)) wq) (fun _ j _ => k - (intOf j).toNat)
            case atStart => exact ⟨0, nameOk (A.ft k), Nat.zero_le _, RunAnd.start Iff.rfl, rfl, rfl, hx⟩
            case round =>
              clear hc hf hs c0 hx
              obtain ⟨m, o, hm, HO, rfl, rfl, hx⟩ := hrel
              obtain ⟨hc, hf, hs⟩ := hx.facts
              have hAq := hA.mono hx.box
              have c0 := hAq.fcell hlt
              by_cases hmk : m < k
              · have c1 := hAq.fcell (show m < A.feats.length by omega)
                have hbw1 : b < wr.heap.size := (hAq.feats.at_ hlt).1
                cases o
                · go_wp2
                  go_quiet (fail)
                  go_wp2
                  refine ⟨⟨m + 1, false, by omega, ?_, by go_num, rfl, hx.drewN _⟩, by simp [intOf]; omega⟩
                  exact HO.no
                · cases hne : ((A.ft m).toList == (A.ft k).toList)
                  · go_wp2
                    go_quiet (fail)
                    go_wp2
                    refine ⟨⟨m + 1, true, by omega, ?_, by go_num, rfl, hx.drewN _⟩, by simp [intOf]; omega⟩
                    exact HO.on (bytes_ne_iff.1 hne)
                  · go_wp2
                    go_quiet (fail)
                    go_wp2
                    refine ⟨⟨m + 1, false, by omega, ?_, by go_num, rfl, hx.drewN _⟩, by simp [intOf]; omega⟩
                    exact HO.hit (fun h => h (bytes_eq_iff.1 hne))
              · have e : m = k := by omega
                have HF : RunAnd o (nameOk (A.ft k) = true) (fun t => A.ft t ≠ A.ft k) k := e ▸ HO
                clear HO
                cases o
                · go_wp2
                  go_ret
                  exact ⟨ret_int (checkN_bad (not_ok_feat hlt fun h => absurd (HF.2 h) (by decide))).symm, hx.box⟩
                · go_wp2
                  refine ⟨⟨k + 1, by omega, ?_, by go_num, hx⟩, by simp [intOf]; omega⟩
                  exact upto_succ HN.out (HF.1 rfl)
          · have HF : Hid (∀ j, j < A.feats.length → featOk A j) := fun j hj => HN.out j (by omega)
            go_wp2_with fail
            clear hc hf hs
            go_loopw [6] (fun i wr => ∃ k : Nat, k ≤ A.lets.length ∧ Hid (∀ j, j < k → letOk A j) ∧ i = .int .i64 k ∧ Ext (w.alloc (.cells #[.slice fp A.feats.length fc, .slice lp A.lets.length lc] 25)) wr) (fun i _ => A.lets.length - (intOf i).toNat)
            case atStart => exact ⟨0, Nat.zero_le _, fun j hj => by omega, rfl, hx⟩
            case round =>
              clear hx HN
              obtain ⟨k, hk, HN, rfl, hx⟩ := hrel
              obtain ⟨wo, rfl⟩ : ∃ wo : World, wo = wr := ⟨_, rfl⟩
              obtain ⟨hc, hf, hs⟩ := hx.facts
              by_cases hlt : k < A.lets.length
              · obtain ⟨b, off, rfl, hbw, c0, c1, c2⟩ := (hA.mono hx.box).cells hlt
                obtain ⟨wf1, wf2, wf3, wf4⟩ := hA.wf k hlt
                have hs' : w.heap.size < wo.heap.size := by have := hs; simp at this; omega
                cases hr : runeOk (A.at_ k).rune
                all_goals
                  go_wp2_with (first | (go_at_call 48; refine (letter_any _ _ wf1 wf2).mono ?_; rintro e w1 ⟨rfl, rfl⟩) | (go_at_call 49; refine (May_any _ _ _ _ _ _ wf3 wf4 hfb _).mono ?_; rintro e w1 ⟨rfl, hx1⟩))
                  go_loopw [8, 9] (fun ok j wq => ∃ (m : Nat) (o : Bool), m ≤ k ∧ RunAnd o (letP A k) (fun t => (A.at_ t).rune ≠ (A.at_ k).rune) m ∧ j = .int .i64 m ∧ ok = .bool o ∧ Ext (wo.alloc (.cells #[.int .i32 (A.at_ k).rune, .int .u32 ((A.at_ k).plus : Int), .int .u32 ((A.at_ k).minus : Int)] 114)) wq) (fun _ j _ => k - (intOf j).toNat)
                  case atStart => exact ⟨0, _, Nat.zero_le _, RunAnd.start (letP_iff hr), rfl, rfl, by first | exact hx1 | exact Ext.refl _⟩
                  case round =>
                    have hxo := (hx.alloc (.cells #[.int .i32 (A.at_ k).rune, .int .u32 ((A.at_ k).plus : Int), .int .u32 ((A.at_ k).minus : Int)] 114))
                    clear hc hf hs c0 c1 c2 hr
                    obtain ⟨m, o, hm, HO, rfl, rfl, hq⟩ := hrel
                    have hxq := hxo.trans hq
                    have d1 : wr.cell? ⟨w.heap.size, 1, none⟩ = some (.slice (some ⟨b, off, none⟩) A.lets.length lc) := by simpa using hxq.cell0 1
                    have d2 : wr.cell? ⟨wo.heap.size, 0, none⟩ = some (.int .i32 (A.at_ k).rune) := by simpa using hq.cell0 0
                    have hAq := hA.mono hxq.box
                    obtain ⟨_, c0, _, _⟩ := hAq.lcell hlt
                    by_cases hmk : m < k
                    · obtain ⟨hb2, c1, _, _⟩ := hAq.lcell (show m < A.lets.length by omega)
                      cases o
                      · go_wp2
                        go_quiet (fail)
                        go_wp2
                        refine ⟨⟨m + 1, false, by omega, HO.no, by go_num, rfl, hq.drewN _⟩, by simp [intOf]; omega⟩
                      · cases hne : ((A.at_ m).rune != (A.at_ k).rune)
                        · go_wp2
                          go_quiet (fail)
                          go_wp2
                          refine ⟨⟨m + 1, false, by omega, ?_, by go_num, rfl, hq.drewN _⟩, by simp [intOf]; omega⟩
                          exact HO.hit (fun h => h (by simpa using hne))
                        · go_wp2
                          go_quiet (fail)
                          go_wp2
                          refine ⟨⟨m + 1, true, by omega, ?_, by go_num, rfl, hq.drewN _⟩, by simp [intOf]; omega⟩
                          exact HO.on (by simpa using hne)
                    · have e : m = k := by omega
                      have HE : RunAnd o (letP A k) (fun t => (A.at_ t).rune ≠ (A.at_ k).rune) k := e ▸ HO
                      clear HO
                      cases o
                      · go_wp2
                        go_ret
                        exact ⟨ret_int (checkN_bad (not_ok_let hlt fun h => absurd (HE.2 ⟨⟨h.1, h.2.1⟩, h.2.2⟩) (by decide))).symm, hxq.box⟩
                      · go_wp2
                        refine ⟨⟨k + 1, by omega, ?_, by go_num, hxq⟩, by simp [intOf]; omega⟩
                        exact upto_succ HN.out ⟨(HE.1 rfl).1.1, (HE.1 rfl).1.2, (HE.1 rfl).2⟩
              · go_wp2
                go_ret
                exact ⟨ret_int (checkN_ok ⟨h1, h2, h3, HF.out, fun j hj => HN.out j (by omega)⟩).symm, hx.box⟩
      · go_enter Tryz.func21, Tryz.ntmps21
        go_wp2_with fail
        go_ret
        exact ⟨ret_int (checkN_bad fun o => h3 o.2.2.1).symm, (Ext.refl _).alloc _⟩
    · go_enter Tryz.func21, Tryz.ntmps21
      go_wp2_with fail
      go_ret
      exact ⟨ret_int (checkN_bad fun o => h2 o.2.1).symm, (Ext.refl _).alloc _⟩
  · go_enter Tryz.func21, Tryz.ntmps21
    go_wp2_with fail
    go_ret
    exact ⟨ret_int (checkN_bad fun o => h1 o.1).symm, (Ext.refl _).alloc _⟩

end Go.Proofs.YtcnhlogkhnoacaaGreatDoor
