/- Contracts: word.ranks, word.read, word.Letters. -/
import Derived.Test.YtcnhlogkhnoacaaGreatDoorWordb
import Derived.Test.YtcnhlogkhnoacaaGreatDoorFeate
namespace Go.Proofs.YtcnhlogkhnoacaaGreatDoor
open Go.RowKit Go.Cg Go.Shelf Go.Maps

/-- the first k letters' numbers -/
def ranksF (A : Alpha) : Nat → Lit → Option Lit
  | 0 => fun _ => none
  | k + 1 => putFn (ranksF A k) (.int .i32 (A.at_ k).rune) (.int .i64 k)
theorem ranksF_isSome (A : Alpha) (r : Int) : ∀ k, (ranksF A k (.int .i32 r)).isSome = ((List.range k).any fun j => decide ((A.at_ j).rune = r))
  | 0 => rfl
  | k + 1 => by
    show (putFn _ _ _ _).isSome = _
    unfold putFn
    rw [List.range_succ, List.any_append]
    by_cases h : r = (A.at_ k).rune
    · rw [if_pos (by rw [h]; exact WideAt.sameKey_self (lit_int_key _ _))]; simp [h]
    · rw [if_neg (fun hs => h (by
        have := WideAt.sameKey_eq hs
        simpa using this)), ranksF_isSome A r k]
      have e : decide ((A.at_ k).rune = r) = false := decide_eq_false (fun e => h e.symm)
      simp [e]
theorem ranksF_val (A : Alpha) (kl : Lit) : ∀ k, ∃ x : Int, (ranksF A k kl).getD (.int .i64 0) = .int .i64 x
  | 0 => ⟨0, rfl⟩
  | k + 1 => by
    show ∃ x : Int, (putFn _ _ _ _).getD _ = _
    unfold putFn
    split
    · exact ⟨k, rfl⟩
    · exact ranksF_val A kl k
theorem ranksF_some {A : Alpha} {r : Int} : (ranksF A A.lets.length (.int .i32 r)).isSome = decide (0 ≤ findLetter A r) := by
  rw [ranksF_isSome]
  cases h : ((List.range A.lets.length).any fun j => decide ((A.at_ j).rune = r))
  · rw [findLetter_none (any_no h)]; rfl
  · obtain ⟨j, hj, he⟩ := any_yes h
    symm
    apply decide_eq_true
    by_cases hf : 0 ≤ findLetter A r
    · exact hf
    · exfalso
      have h2 : A.lets.findIdx? (fun l => l.rune == r) = none := by
        cases hq : A.lets.findIdx? (fun l => l.rune == r) with
        | none => rfl
        | some i => unfold findLetter at hf; rw [hq] at hf; simp at hf
      rw [List.findIdx?_eq_none_iff] at h2
      have := h2 A.lets[j] (List.getElem_mem hj)
      rw [Alpha.at_eq hj] at he
      simp [he] at this
theorem zInt : (Tryz.prog.info? 3).map (·.zero) = some (some (.int .i64 0)) := by kernel_rfl
theorem run_makeMap_hint {P : Program} {t K E : TypeId} (ht : P.underlying t = some (.map K E)) (n : Int) (w : World) :
    (Instr.makeMap t (some (.int .i64 n))).run P w = .ok (.map (some w.heap.size)) (w.alloc (.map #[] 0)) := by
  simp [Instr.makeMap, run_underlying ht, asInt, asIntOf, Result.andThen]

set_option maxRecDepth 100000 in
set_option maxHeartbeats 1000000 in
theorem ranks_any (fp lp : Option Addr) (fc lc : Nat) (A : Alpha) (w : World) (hA : AlphaAt w fp lp A) :
    Calls Tryz.prog 70 #[.agg #[.slice fp A.feats.length fc, .slice lp A.lets.length lc]] w fun e w' => (A.Ok → ∃ b, e = .returned (.tuple #[.map (some b), .int .i64 0]) ∧ MapFn Tryz.prog w' 21 3 b A.lets.length (ranksF A A.lets.length)) ∧ (¬ A.Ok → e = .returned (.tuple #[.map none, .int .i64 7])) ∧ Ext w w' := by
  have hx3 : Ext w (w.alloc (.cells #[.slice fp A.feats.length fc, .slice lp A.lets.length lc] 25)) := (Ext.refl _).alloc _
  have hb := hA.lbig
  have hmm := fun n W => run_makeMap_hint (P := Tryz.prog) Tryz.underlying143 n W
  by_cases hok : A.Ok
  · have hC := checkN_ok hok
    have h128 := hok.2.2.1
    go_enter Tryz.func70, Tryz.ntmps70
    go_wp2_with (first | (go_at_call 33; refine (check_any _ _ _ _ _ _ (hA.mono hx3)).mono ?_; rintro e w1 ⟨rfl, hx1⟩; have hs1 := hx1.lt0; have d1 := hx1.cell0 1; simp at d1))
    clear d1 hs1
    go_loopw [20] (fun i wr => ∃ k : Nat, k ≤ A.lets.length ∧ i = .int .i64 k ∧ Ext (w.alloc (.cells #[.slice fp A.feats.length fc, .slice lp A.lets.length lc] 25)) wr ∧ w1.heap.size < wr.heap.size ∧ MapFn Tryz.prog wr 21 3 w1.heap.size k (ranksF A k)) (fun i _ => A.lets.length - (intOf i).toNat)
    case atStart => exact ⟨0, Nat.zero_le _, rfl, hx1.alloc _, by simp, MapFn.made Tryz.prog w1 21 3⟩
    case round =>
      obtain ⟨k, hk, rfl, hx, hwn, hM⟩ := hrel
      have hx0 := hx.box
      by_cases hlt : k < A.lets.length
      · obtain ⟨b, off, rfl, hbw, c0, c1, c2⟩ := (hA.mono hx0).cells hlt
        obtain ⟨wf1, wf2, wf3, wf4⟩ := hA.wf k hlt
        have hM1 := hM.ext ((Ext.refl wr).alloc (.cells #[.int .i32 (A.at_ k).rune, .int .u32 ((A.at_ k).plus : Int), .int .u32 ((A.at_ k).minus : Int)] 114))
        go_wp2_with (at_mapUpdate; refine wpList_mapUpdate_fn _ rfl _ _ _ 143 rfl 21 3 w1.heap.size k (ranksF A k) hM1 lawR Tryz.underlying143 (by unfold maxLen; omega) rfl _ _ _ (.int .i64 k) rfl rfl (keyR wf1 wf2) (plainElem_int Tryz.underlying3 (WalkArith.wf_i64 (by omega))) ?_; intro w2 hM2 hg2 hs2)
        have h9 := hx1.le
        refine ⟨⟨k + 1, by omega, by go_num, ?_, ?_, hM2⟩, by simp [intOf]; omega⟩
        · exact (hx.alloc _).grown hg2 (by rintro j ⟨⟩; simpa using h9)
        · simp at hs2; omega
      · go_wp2_with fail
        go_ret2
        have e : k = A.lets.length := by omega
        subst e
        exact ⟨fun _ => ⟨w1.heap.size, rfl, hM⟩, fun h => absurd hok h, hx0⟩
  · have hC := checkN_bad hok
    go_enter Tryz.func70, Tryz.ntmps70
    go_wp2_with (first | (go_at_call 33; refine (check_any _ _ _ _ _ _ (hA.mono hx3)).mono ?_; rintro e w1 ⟨rfl, hx1⟩))
    go_ret2
    exact ⟨fun h => absurd h hok, fun _ => rfl, (by repeat (first | assumption | exact Ext.refl _ | refine Ext.alloc ?_ _ | refine Ext.drew ?_ | refine Ext.drewN ?_ _ | refine Ext.setCell ?_ (by first | (simp; done) | (simp; omega) | omega) _ | (refine Ext.trans ?_ (by assumption))))⟩

theorem piece_cells {s : ByteArray} {N : Nat} {W : World} {B : Nat} {pp : Option Addr} {pc : Nat} (h : W.ownsRow B 59 4 (.slice pp N pc) N (pcells s N)) {k : Nat} (hk : k < N) :
    ∃ b off, pp = some ⟨b, off, none⟩ ∧ b < W.heap.size ∧ ∃ ln : Int, W.cell? ⟨b, off + k * 4, none⟩ = some (.int .i32 (runeAt s (placeAt s k))) ∧ W.cell? ⟨b, off + k * 4 + 1, none⟩ = some (.int .i64 (placeAt s k)) ∧
      W.cell? ⟨b, off + k * 4 + 2, none⟩ = some (.int .i64 ln) ∧ W.cell? ⟨b, off + k * 4 + 3, none⟩ = some (.bool (badAt s (placeAt s k))) := by
  have hr := ownsRow_reads h (f := fun j => ((pcells s N)[j]?).getD (.bool false)) (fun j hj => by
    have : j < (pcells s N).length := by rw [pcells_len]; exact hj
    rw [List.getElem?_eq_getElem this]; rfl)
  rcases hr with h0 | ⟨b, off, hp, hlt, hc⟩
  · omega
  · have e0 := hc (k * 4 + 0) (by omega)
    have e1 := hc (k * 4 + 1) (by omega)
    have e2 := hc (k * 4 + 2) (by omega)
    have e3 := hc (k * 4 + 3) (by omega)
    simp only [pcells_at s 0 (by omega) N k hk] at e0
    simp only [pcells_at s 1 (by omega) N k hk] at e1
    simp only [pcells_at s 2 (by omega) N k hk] at e2
    simp only [pcells_at s 3 (by omega) N k hk] at e3
    exact ⟨b, off, hp, hlt, _, e0, e1, e2, e3⟩

set_option maxRecDepth 100000 in
set_option maxHeartbeats 2000000 in
theorem read_any (mb : Nat) (A : Alpha) (hok : A.Ok) (s : ByteArray) (hs : s.size ≤ 140737488351232) (w : World) (hM : MapFn Tryz.prog w 21 3 mb A.lets.length (ranksF A A.lets.length)) (hT : Tabs w) :
    Calls Tryz.prog 71 #[.map (some mb), .string s] w fun e w' => ∃ rp rc, e = .returned (.tuple #[.slice rp (spell A s).1.length rc, .int .i64 (spell A s).2]) ∧ OwnRunes 21 w.heap.size w' rp rc (spell A s).1 ∧ Ext w w' := by
  obtain ⟨i0, hi, hz0, hz1, hz2⟩ := info_parts infoR
  obtain ⟨s', hs1, hs2, hcut⟩ : ∃ s' : ByteArray, s'.size ≤ 65536 ∧ spell A s' = spell A s ∧ ((s.size ≤ 65536 ∧ s' = s) ∨ (65536 < s.size ∧ s.extract 0 65536 = s')) := by
    by_cases h : s.size ≤ 65536
    · exact ⟨s, h, rfl, .inl ⟨h, rfl⟩⟩
    · exact ⟨s.extract 0 65536, by rw [ByteArray.size_extract]; omega, spell_head A s (by omega), .inr ⟨by omega, rfl⟩⟩
  rw [← hs2]
  obtain ⟨R, hR⟩ : ∃ R, spell A s' = R := ⟨_, rfl⟩
  rw [hR]
  have hR2 : spellFrom A s' s'.size 0 [] = R := by rw [← hR]; unfold spell; rw [if_pos hok]
  have HR := Lib.hid hR2
  clear hR2 hR hs2
  rcases hcut with ⟨hcut, rfl⟩ | ⟨hcut, hcut2⟩
  all_goals
    go_enter Tryz.func71, Tryz.ntmps71
    go_wp2_with (go_at_call 20; (try rw [hcut2]); refine (pieces_any _ hs1 _ hT).mono ?_; rintro e w1 ⟨pp, pc, N, rfl, hN, h1, h2, hownP, hx1⟩)
  all_goals
    have hx1' := hx1
    go_loopw [8, 28] (fun out i wr => ∃ (k f : Nat) (acc : List Int), k ≤ N ∧ i = .int .i64 k ∧ Ext w1 wr ∧ wr.ownsRow w1.heap.size 21 1 out acc.length (acc.map (Value.int .i32)) ∧ acc.length ≤ 64 ∧ Hid (spellFrom A s' f (placeAt s' k) acc = R) ∧ Hid (s'.size ≤ placeAt s' k + f) ∧ Hid (∀ r ∈ acc, -2147483648 ≤ r ∧ r ≤ 2147483647)) (fun _ i _ => N - (intOf i).toNat)
    case atStart => exact ⟨0, s'.size, [], Nat.zero_le _, rfl, Ext.refl _, World.ownsRow_nil _ _ _ _, by simp, HR, Nat.le_add_left _ _, fun r hr => by cases hr⟩
    case round =>
      obtain ⟨k, f, acc, hk, rfl, hx, hown, hl, HS, HF, HW⟩ := hrel
      obtain ⟨rp, rc, rfl⟩ := ownsRow_slice hown
      by_cases hlt : k < N
      · obtain ⟨b, off, rfl, hbw, ln, c0, c1, c2, c3⟩ := piece_cells (ownsRow_ext hownP hx) hlt
        have hp := h1 k hlt
        have HX : Hid (placeAt s' (k + 1) = placeAt s' k + (Utf8.decode s' (placeAt s' k)).2) := rfl
        obtain ⟨pos, hpos⟩ : ∃ pos, placeAt s' k = pos := ⟨_, rfl⟩
        rw [hpos] at c0 c1 c3 HX HS HF hp
        clear hpos
        have hw1 := width_pos s' pos hp
        obtain ⟨hr1, hr2⟩ := runeAt_range s' pos
        obtain ⟨r, hr⟩ : ∃ r, runeAt s' pos = r := ⟨_, rfl⟩
        obtain ⟨f, rfl⟩ : ∃ g, f = g + 1 := ⟨f - 1, by have := HF.out; omega⟩
        have H6 := Lib.hid (spellFrom_bad A s' f pos acc hp)
        have H5 := Lib.hid (spellFrom_none A s' f pos acc hp)
        have H4 := Lib.hid (spellFrom_many A s' f pos acc hp)
        have HST := Lib.hid (spellFrom_step A s' f pos acc hp)
        rw [hr] at c0 hr1 hr2 H5 H4 HST
        obtain ⟨x, hxv⟩ := ranksF_val A (.int .i32 r) A.lets.length
        have hlk := (hM.ext ((hx1'.trans hx).alloc (.cells #[.int .i32 r, .int .i64 pos, .int .i64 ln, .bool (badAt s' pos)] 59))).look_int_ok lawR Tryz.underlying143 Tryz.underlying3 zInt (keyR (by omega) hr2) hxv
        rw [ranksF_some] at hlk
        clear hxv
        cases hb : badAt s' pos
        · rw [hb] at c3 hlk
          cases hn : decide (0 ≤ findLetter A r)
          · rw [hn] at hlk
            go_wp2_with fail
            go_ret2
            have e := HS.out
            rw [H5.out hb (by simpa using hn)] at e
            subst e
            exact ⟨none, 0, rfl, OwnRunes.nil _ _ _, (hx1'.trans hx).alloc _⟩
          · rw [hn] at hlk
            cases h64 : ((acc.length : Int) == 64)
            · go_wp2_with (at_builtin; refine wpList_append_own _ rfl _ _ 36 rfl w1.heap.size 21 i0 (.int .i32 0) 1 4 Tryz.underlying36 hi hz0 hz1 hz2 rfl (by decide) _ _ _ rfl ((hown.alloc _).alloc _) ⟨wr.heap.size + 1, 0, none⟩ 1 1 [.int .i32 r] rfl rfl (by have := one_cell (wr.alloc (.cells #[.int .i32 r, .int .i64 pos, .int .i64 ln, .bool false] 59)) (.int .i32 r) 21; rw [size_alloc] at this; exact this) (by simp [Value.oneCell']) (by unfold maxLen; omega) (by omega) (by simp; have := hx.le; omega) ?_; intro v' w4 hown4 hgrow _)
              have e := HS.out
              rw [HST.out hb (by simpa using hn) (by simp at h64; omega)] at e
              refine ⟨⟨k + 1, f, acc ++ [r], by omega, by go_num, ?_, ?_, ?_, by rw [HX.out]; exact e, ?_, ?_⟩, by simp [intOf]; omega⟩
              · exact Ext.append ((hx.alloc _).alloc _) ((hown.alloc _).alloc _) hgrow (Nat.le_refl _)
              · rw [List.length_append, List.map_append]; exact hown4
              · simp at h64; simp; omega
              · have := HF.out; show _ ≤ _; rw [HX.out]; omega
              · intro r' hr'
                rcases List.mem_append.1 hr' with h | h
                · exact HW.out r' h
                · rw [List.mem_singleton.1 h]; omega
            · go_wp2_with fail
              go_ret2
              have e := HS.out
              rw [H4.out hb (by simpa using hn) (by simp at h64; omega)] at e
              subst e
              exact ⟨none, 0, rfl, OwnRunes.nil _ _ _, (hx1'.trans hx).alloc _⟩
        · rw [hb] at c3 hlk
          go_wp2_with fail
          go_ret2
          have e := HS.out
          rw [H6.out hb] at e
          subst e
          exact ⟨none, 0, rfl, OwnRunes.nil _ _ _, (hx1'.trans hx).alloc _⟩
      · go_wp2_with fail
        go_ret2
        have e := HS.out
        have ek : k = N := by omega
        subst ek
        rw [spellFrom_end A s' f _ acc h2] at e
        subst e
        exact ⟨rp, rc, rfl, ⟨ownsRow_base hown hx1'.le, Nat.le_trans hl (by decide), mem_rn HW.out⟩, hx1'.trans hx⟩

theorem OwnRunes_base {T B B' : Nat} {w : World} {p : Option Addr} {c : Nat} {l : List Int} (h : OwnRunes T B w p c l) (hB : B' ≤ B) : OwnRunes T B' w p c l := ⟨ownsRow_base h.1 hB, h.2⟩

set_option maxHeartbeats 1000000 in
theorem letters_any (fp lp : Option Addr) (fc lc : Nat) (A : Alpha) (s : ByteArray) (hs : s.size ≤ 140737488351232) (w : World) (hA : AlphaAt w fp lp A) (hT : Tabs w) :
    Calls Tryz.prog 36 #[.agg #[.slice fp A.feats.length fc, .slice lp A.lets.length lc], .string s] w fun e w' => ∃ rp rc, e = .returned (.tuple #[.slice rp (spell A s).1.length rc, .int .i64 (spell A s).2]) ∧ OwnRunes 21 w.heap.size w' rp rc (spell A s).1 ∧ Ext w w' := by
  have hx3 : Ext w (w.alloc (.cells #[.slice fp A.feats.length fc, .slice lp A.lets.length lc] 25)) := (Ext.refl _).alloc _
  by_cases hok : A.Ok
  · go_enter Tryz.func36, Tryz.ntmps36
    go_wp2_with (first | (go_at_call 70; refine (ranks_any _ _ _ _ _ _ (hA.mono hx3)).mono ?_; rintro e w1 ⟨hy, hn, hx1⟩; obtain ⟨mb, rfl, hM⟩ := hy hok) | (go_at_call 71; refine (read_any mb A hok s hs _ hM (hT.ext (hx3.trans hx1))).mono ?_; rintro e w2 ⟨rp, rc, rfl, ho, hx2⟩))
    go_ret2
    exact ⟨rp, rc, rfl, OwnRunes_base ho (hx3.trans hx1).le, (hx3.trans hx1).trans hx2⟩
  · have hS : spell A s = ([], 7) := by unfold spell; rw [if_neg hok]
    rw [hS]
    go_enter Tryz.func36, Tryz.ntmps36
    go_wp2_with (first | (go_at_call 70; refine (ranks_any _ _ _ _ _ _ (hA.mono hx3)).mono ?_; rintro e w1 ⟨hy, hn, hx1⟩; obtain rfl := hn hok))
    go_ret2
    exact ⟨none, 0, rfl, OwnRunes.nil _ _ _, hx3.trans hx1⟩

set_option maxHeartbeats 1000000 in
theorem Letters_any (fp lp : Option Addr) (fc lc : Nat) (A : Alpha) (s : ByteArray) (hs : s.size ≤ 140737488351232) (w : World) (hA : AlphaAt w fp lp A) (hT : Tabs w) :
    Calls Tryz.prog 30 #[.agg #[.slice fp A.feats.length fc, .slice lp A.lets.length lc], .string s] w fun e w' => ∃ rp rc, e = .returned (.tuple #[.slice rp (spell A s).1.length rc, .int .i64 (spell A s).2]) ∧ OwnRunes 21 w.heap.size w' rp rc (spell A s).1 ∧ Ext w w' := by
  have hx3 : Ext w (w.alloc (.cells #[.slice fp A.feats.length fc, .slice lp A.lets.length lc] 25)) := (Ext.refl _).alloc _
  by_cases hok : A.Ok
  · have hC := checkN_ok hok
    have hS : spell A s = spellFrom A s s.size 0 [] := by unfold spell; rw [if_pos hok]
    rw [hS]
    go_enter Tryz.func30, Tryz.ntmps30
    go_wp2_with (first | (go_at_call 21; refine (Check_any _ _ _ _ _ _ (hA.mono hx3)).mono ?_; rintro e w1 ⟨rfl, hx1⟩; have d0 := hx1.cell0 0; have d1 := hx1.cell0 1; have l1 := hx1.lt0; simp at d0 d1) | (go_at_call 60; refine (Read_any _ _ _ _ A s hs _ (hA.mono (hx3.trans hx1)) (hT.ext (hx3.trans hx1))).mono ?_; rintro e w2 ⟨rp, rc, rfl, ho, hx2⟩))
    go_ret2
    exact ⟨rp, rc, rfl, OwnRunes_base ho (hx3.trans hx1).le, (hx3.trans hx1).trans hx2⟩
  · have hC := checkN_bad hok
    have hS : spell A s = ([], 7) := by unfold spell; rw [if_neg hok]
    rw [hS]
    go_enter Tryz.func30, Tryz.ntmps30
    go_wp2_with (first | (go_at_call 21; refine (Check_any _ _ _ _ _ _ (hA.mono hx3)).mono ?_; rintro e w1 ⟨rfl, hx1⟩))
    go_ret2
    exact ⟨none, 0, rfl, OwnRunes.nil _ _ _, hx3.trans hx1⟩

end Go.Proofs.YtcnhlogkhnoacaaGreatDoor
