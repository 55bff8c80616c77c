/- Contracts of the reference: Of, Has, Far, Nearest, Near, Class. -/
import Derived.Test.YtobajknhnjceiaaDoorFeati
import Derived.Test.YtobajknhnjceiaaDoorSpez
import Derived.Test.YtobajknhnjceiaaDoorRegt
import Derived.Test.YtobajknhnjceiaaDoorFela
namespace Go.Proofs.YtobajknhnjceiaaDoor
open Go.RowKit Go.Cg Go.Shelf Go.Maps

theorem RunesAt.one {w W : World} {r : Int} {B : Nat} (hb : W.heap[B]? = some (.cells #[.int .i32 r] 21 (0, 0))) (h1 : -2147483648 ≤ r) (h2 : r ≤ 2147483647) : RunesAt W (some ⟨B, 0, none⟩) [r] := by
  refine ⟨.inr ⟨B, 0, rfl, (Array.getElem?_eq_some_iff.1 hb).1, fun j hj => ?_⟩, by show (_ : Nat) ≤ _; simp, fun i hi => ?_⟩
  · have : j = 0 := by simp at hj; omega
    subst this
    rw [Lib.cell_of_heap hb]; rfl
  · have : i = 0 := by simp at hi; omega
    subst this; exact ⟨h1, h2⟩
theorem RunesAt.two {w W : World} {r s : Int} {B : Nat} (hb : W.heap[B]? = some (.cells #[.int .i32 r, .int .i32 s] 21 (0, 0))) (h1 : -2147483648 ≤ r ∧ r ≤ 2147483647) (h2 : -2147483648 ≤ s ∧ s ≤ 2147483647) : RunesAt W (some ⟨B, 0, none⟩) [r, s] := by
  refine ⟨.inr ⟨B, 0, rfl, (Array.getElem?_eq_some_iff.1 hb).1, fun j hj => ?_⟩, by show (_ : Nat) ≤ _; simp, fun i hi => ?_⟩
  · have h3 : j < 2 := by simpa using hj
    rw [Lib.cell_of_heap hb]
    match j, h3 with
    | 0, _ => rfl
    | 1, _ => rfl
  · have h3 : i < 2 := by simpa using hi
    match i, h3 with
    | 0, _ => exact h1
    | 1, _ => exact h2
theorem results_row_tmp {P : Program} {fn : Func} {p q : Tmp} {ty : TypeId} (h : fn.results = #[.cell p ty, .tmp q]) (tmps : Array Value) (w : World) (g : Nat) (t : TypeId) (cs : Array Value) (fr : Nat × Nat) (d : TypeDesc) (v : Value)
    (hp : tmps.getD p undef = .pointer (some ⟨g, 0, none⟩)) (hq : tmps.getD q undef = v) (hg : w.heap[g]? = some (.cells cs t fr))
    (hu : P.underlying ty = some d) (hd : (match d with | .struct _ | .array _ _ => true | _ => false) = true) (hi : (P.info? ty).map (·.size) = some cs.size) :
    (results fn tmps).run P w = .ok (.tuple #[.agg cs, v]) w := by
  have hp' : tmps[p]?.getD undef = .pointer (some ⟨g, 0, none⟩) := by simpa using hp
  have hq' : tmps[q]?.getD undef = v := by simpa using hq
  simp [results, h, hp', hq', asAddr, run_loadVar_row w g t ty cs fr d hg hu hd hi]
theorem ofL_zero {A : Alpha} {r : Int} (h : ofE A r ≠ 0) : ofL A r = zl := by
  rcases ofE_cases A r with ⟨h0, _⟩ | ⟨_, _, hf⟩ | ⟨_, hk⟩
  · exact absurd h0 h
  · exact ofL_none hf
  · exact ofL_bad hk r
theorem asked_one (A : Alpha) (r : Int) : askedN A [r] = ofE A r := by
  unfold askedN ofE
  split
  · by_cases h : 0 ≤ findLetter A r
    · rw [if_pos h, if_pos fun i hi => by
        have : i = 0 := by simp at hi; omega
        subst this; exact h]
    · rw [if_neg h, if_neg fun h' => h (h' 0 (by simp))]
  · rfl
theorem asked_two (A : Alpha) (x y : Int) : askedN A [x, y] = farE A x y := by
  unfold askedN farE ofE
  split
  · by_cases h : 0 ≤ findLetter A x
    · rw [if_pos h, if_pos rfl]
      by_cases h2 : 0 ≤ findLetter A y
      · rw [if_pos h2, if_pos fun i hi => by
          have h3 : i < 2 := by simpa using hi
          match i, h3 with
          | 0, _ => exact h
          | 1, _ => exact h2]
      · rw [if_neg h2, if_neg fun h' => h2 (h' 1 (by simp))]
    · rw [if_neg h, if_neg (show ¬ ((5 : Int) = 0) by decide), if_neg fun h' => h (h' 0 (by simp))]
  · rw [if_neg (by decide)]
theorem asked_nil (A : Alpha) : askedN A [] = if A.Ok then 0 else 7 := by
  unfold askedN
  split
  · rw [if_pos fun i hi => absurd hi (by simp)]
  · rfl

set_option maxRecDepth 100000 in
set_option maxHeartbeats 1000000 in
theorem Far02_any (fp lp : Option Addr) (fc lc : Nat) (A : Alpha) (x y : Int) (hx : -2147483648 ≤ x ∧ x ≤ 2147483647) (hy : -2147483648 ≤ y ∧ y ≤ 2147483647) (w : World) (hA : AlphaAt w fp lp A) :
    Calls Tryd.prog 94 #[.agg #[.slice fp A.feats.length fc, .slice lp A.lets.length lc], .int .i32 x, .int .i32 y] w fun e w' => e = .returned (.tuple #[.int .i64 (farN A x y : Nat), .int .i64 (farE A x y)]) ∧ Ext w w' := by
  have hx3 : Ext w ((w.alloc (.cells #[.slice fp A.feats.length fc, .slice lp A.lets.length lc] 25)).alloc (.cells #[.int .i32 x, .int .i32 y] 21)) := ((Ext.refl _).alloc _).alloc _
  have hR : RunesAt ((w.alloc (.cells #[.slice fp A.feats.length fc, .slice lp A.lets.length lc] 25)).alloc (.cells #[.int .i32 x, .int .i32 y] 21)) (some ⟨w.heap.size + 1, 0, none⟩) [x, y] :=
    RunesAt.two (w := w) (by have := heap_alloc_new (w.alloc (.cells #[.slice fp A.feats.length fc, .slice lp A.lets.length lc] 25)) (.cells #[.int .i32 x, .int .i32 y] 21); rw [size_alloc] at this; exact this) hx hy
  have HA := Lib.hid (asked_any fp lp _ fc lc 2 A [x, y] _ (hA.mono hx3) hR)
  rw [asked_two] at HA
  clear hR
  have HA' := HA.out
  clear HA
  by_cases h0 : farE A x y = 0
  · obtain ⟨hx0, hy0⟩ : ofE A x = 0 ∧ ofE A y = 0 := by
      unfold farE at h0
      split at h0
      · rename_i hh; exact ⟨hh, h0⟩
      · contradiction
    obtain ⟨hok, hf⟩ : A.Ok ∧ 0 ≤ findLetter A x := by rcases ofE_cases A x with ⟨_, h, h'⟩ | ⟨h, _⟩ | ⟨h, _⟩ <;> first | exact ⟨h, h'⟩ | omega
    have hf2 : 0 ≤ findLetter A y := by rcases ofE_cases A y with ⟨_, h, h'⟩ | ⟨h, _⟩ | ⟨h, _⟩ <;> first | exact h' | omega
    obtain ⟨ix, hix⟩ : ∃ ix : Int → Nat, ∀ r, 0 ≤ findLetter A r → findLetter A r = (ix r : Int) := ⟨fun r => (findLetter A r).toNat, fun r h => (Int.toNat_of_nonneg h).symm⟩
    have hi := hix x hf
    have hj := hix y hf2
    have hlt : ix x < A.lets.length := by obtain ⟨i, h1, h2, -⟩ := findLetter_some hf; omega
    have hlt2 : ix y < A.lets.length := by obtain ⟨i, h1, h2, -⟩ := findLetter_some hf2; omega
    have l1 := Ok_lt hok hlt
    have l2 := Ok_lt hok hlt2
    have h24 := pow24 hok.1
    have hB : farN A x y = pop 24 (((A.at_ (ix x)).plus ^^^ (A.at_ (ix y)).plus) ||| ((A.at_ (ix x)).minus ^^^ (A.at_ (ix y)).minus)) := by
      unfold farN; rw [if_pos h0, ofL_ok hok hi, ofL_ok hok hj]
      exact pop24 (by omega) (by omega) (by omega) (by omega)
    rw [hB]
    rw [h0] at HA' ⊢
    clear l1 l2 h24
    obtain ⟨_, _, wf3, wf4⟩ := hA.wf _ hlt
    obtain ⟨_, _, wf5, wf6⟩ := hA.wf _ hlt2
    go_enter Tryd.func94, Tryd.ntmps94
    go_wp2_with (first | (go_at_call 106; refine HA'.mono ?_; rintro e w1 ⟨rfl, hx1⟩; have hxb : Ext (w.alloc (.cells #[.slice fp A.feats.length fc, .slice lp A.lets.length lc] 25)) w1 := ((Ext.refl _).alloc _).trans hx1; have d0 := hxb.cell0 0; have d1 := hxb.cell0 1; simp at d0 d1; have hs1 := hxb.lt0))
    obtain ⟨b, off, rfl, hbw⟩ := hA.lsome (by omega)
    have hAW := hA.mono (hx3.trans hx1)
    obtain ⟨_, c0, c1, c2⟩ := hAW.lcell hlt
    obtain ⟨_, g0, g1, g2⟩ := hAW.lcell hlt2
    have HF := Lib.hid (fun W (hW : Ext w1 W) r (h : 0 ≤ findLetter A r) => by have := Find_any fp (some ⟨b, off, none⟩) fc lc A r W (hAW.mono hW); rw [hix r h] at this; exact this)
    clear hix hi hj
    (refine wp_region_ext (by kernel_rfl) (by kernel_rfl) ?_; intro ι hι g hg; have q_d0 := hg.cell d0; have q_d1 := hg.cell d1; have q_c0 := hg.cell c0; have q_c1 := hg.cell c1; have q_c2 := hg.cell c2; have q_g0 := hg.cell g0; have q_g1 := hg.cell g1; have q_g2 := hg.cell g2; clear d0 d1 c0 c1 c2 g0 g1 g2; (repeat (go_big_quiet_step ((first | (go_at_call 79; exact hg.call (HF.out _ (hg.ext _) _ (by assumption))) | (go_at_call 107; exact hg.call (Unlike_any _ _ _ _ _ _ wf3 wf4 wf5 wf6 _)))))); refine wpQuiet_nil ?_; rintro w3 ⟨i2, rfl⟩; have hq := hg.ext i2; generalize g i2 = w3 at hq ⊢; clear q_d0 q_d1 q_c0 q_c1 q_c2 q_g0 q_g1 q_g2 i2 hg g hι ι)
    go_wp2_with fail
    go_ret2
    exact ⟨rfl, (hx3.trans hx1).trans hq⟩
  · have hne : (farE A x y != 0) = true := by rw [bne_iff_ne]; exact h0
    have hB : farN A x y = 0 := by unfold farN; rw [if_neg h0]
    rw [hB]
    go_enter Tryd.func94, Tryd.ntmps94
    go_wp2_with (first | (go_at_call 106; refine HA'.mono ?_; rintro e w1 ⟨rfl, hx1⟩))
    go_ret2
    exact ⟨rfl, hx3.trans hx1⟩
end Go.Proofs.YtobajknhnjceiaaDoor
