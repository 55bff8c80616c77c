/- Contracts: word.Check, align.Nearest. -/
import Derived.Test.YtobajknhnjceiaaDoorAlgf
import Derived.Test.YtobajknhnjceiaaDoorAlgq
import Derived.Laws.IdiomStrings
namespace Go.Cg
open Go.RowKit Go.Lib
/-- the first error of words -/
def errL (A : Alpha) : List ByteArray → Int
  | [] => 0
  | s :: L => if ltrE A s ≠ 0 then ltrE A s else errL A L
theorem errL_at {A : Alpha} : ∀ {L : List ByteArray} {k : Nat}, k < L.length → (∀ j, j < k → ltrE A (txt L j) = 0) → ltrE A (txt L k) ≠ 0 → errL A L = ltrE A (txt L k)
  | [], k, h, _, _ => by simp at h
  | s :: L, 0, _, _, h => by unfold errL; exact if_pos h
  | s :: L, k + 1, hk, h0, h => by
    have h1 : ltrE A s = 0 := h0 0 (by omega)
    have ih := errL_at (A := A) (L := L) (k := k) (by simpa using hk) (fun j hj => h0 (j + 1) (by omega)) h
    unfold errL
    rw [if_neg (by omega), ih]; rfl
theorem errL_none {A : Alpha} : ∀ {L : List ByteArray}, (∀ j, j < L.length → ltrE A (txt L j) = 0) → errL A L = 0
  | [], _ => rfl
  | s :: L, h0 => by
    have h1 : ltrE A s = 0 := h0 0 (by simp)
    have ih := errL_none (A := A) (L := L) (fun j hj => h0 (j + 1) (by simpa using hj))
    unfold errL
    rw [if_neg (by omega), ih]
theorem errL_all {A : Alpha} : ∀ {L : List ByteArray}, errL A L = 0 → ∀ j, j < L.length → ltrE A (txt L j) = 0
  | [], _, j, h => by simp at h
  | s :: L, h0, j, hj => by
    unfold errL at h0
    by_cases h1 : ltrE A s = 0
    · rw [if_neg (by omega)] at h0
      match j, hj with
      | 0, _ => exact h1
      | j + 1, hj => exact errL_all h0 j (by simpa using hj)
    · rw [if_pos h1] at h0; exact absurd h0 h1
/-- the first least one of the first k, and what it costs -/
def bN (f : Nat → Nat) (k : Nat) : Nat := if k = 0 then 0 else bestIdx f (k - 1)
def bC (f : Nat → Nat) (k : Nat) : Nat := if k = 0 then 0 else f (bestIdx f (k - 1))
theorem bN_succ (f : Nat → Nat) (k : Nat) : bN f (k + 1) = if k = 0 ∨ f k < bC f k then k else bN f k := by
  match k with
  | 0 => rfl
  | k + 1 =>
    show (if f (k + 1) < f (bestIdx f k) then k + 1 else bestIdx f k) = _
    have e : bC f (k + 1) = f (bestIdx f k) := rfl
    have e2 : bN f (k + 1) = bestIdx f k := rfl
    rw [e, e2]
    by_cases h : f (k + 1) < f (bestIdx f k)
    · rw [if_pos h, if_pos (.inr h)]
    · rw [if_neg h, if_neg (fun q => q.elim (by omega) h)]
theorem bC_succ (f : Nat → Nat) (k : Nat) : bC f (k + 1) = if k = 0 ∨ f k < bC f k then f k else bC f k := by
  have h := bN_succ f k
  have e : bC f (k + 1) = f (bN f (k + 1)) := rfl
  rw [e, h]
  by_cases c : k = 0 ∨ f k < bC f k
  · rw [if_pos c, if_pos c]
  · rw [if_neg c, if_neg c]
    have h0 : k ≠ 0 := fun q => c (.inl q)
    unfold bN bC; rw [if_neg h0, if_neg h0]
def lnE (A : Alpha) (s : ByteArray) (L : List ByteArray) : Int := if ltrE A s ≠ 0 then ltrE A s else if 4096 < L.length then 4 else if errL A L ≠ 0 then errL A L else if L.length = 0 then 8 else 0
def lnF (A : Alpha) (s : ByteArray) (L : List ByteArray) (i : Nat) : Nat := twoC A s (txt L i)
def lnN (A : Alpha) (s : ByteArray) (L : List ByteArray) : Nat := if lnE A s L = 0 then bN (lnF A s L) L.length else 0
def lnC (A : Alpha) (s : ByteArray) (L : List ByteArray) : Nat := if lnE A s L = 0 then bC (lnF A s L) L.length else 0
theorem spellFrom_conv (A : Alpha) (s : ByteArray) : ∀ (f pos : Nat) (acc : List Int), s.size ≤ pos + f → acc.length ≤ 64 → (spellFrom A s f pos acc).2 = 0 → ∃ l, (spellFrom A s f pos acc).1 = acc ++ l ∧ ∀ v, Conv.runesFrom s f pos v = v ++ (l.map (Value.int .i32)).toArray
  | 0, pos, acc, _, _, _ => ⟨[], by simp [spellFrom], fun v => by simp [Conv.runesFrom]⟩
  | f + 1, pos, acc, hf, hl, h0 => by
    by_cases hlt : pos < s.size
    · cases hb : badAt s pos
      · by_cases hn : findLetter A (runeAt s pos) < 0
        · rw [spellFrom_none A s f pos acc hlt hb hn] at h0; cases h0
        · by_cases h64 : acc.length = 64
          · rw [spellFrom_many A s f pos acc hlt hb hn h64] at h0; cases h0
          · have hw := width_pos s pos hlt
            rw [spellFrom_step A s f pos acc hlt hb hn h64] at h0 ⊢
            obtain ⟨l, h1, h2⟩ := spellFrom_conv A s f _ _ (by omega) (by simp; omega) h0
            refine ⟨runeAt s pos :: l, by rw [h1]; simp, fun v => ?_⟩
            rw [Conv.runesFrom, if_pos hlt]
            have e : Conv.runesFrom s f (pos + (Utf8.decode s pos).2) (v.push (.int .i32 (Int.ofNat (Utf8.decode s pos).1))) = _ := h2 _
            show Conv.runesFrom s f (pos + (Utf8.decode s pos).2) (v.push (.int .i32 (Int.ofNat (Utf8.decode s pos).1))) = _
            rw [e]
            show v.push (.int .i32 (runeAt s pos)) ++ _ = _
            simp
      · rw [spellFrom_bad A s f pos acc hlt hb] at h0; cases h0
    · rw [spellFrom_end A s _ pos acc hlt]
      refine ⟨[], by simp, fun v => ?_⟩
      rw [Conv.runesFrom, if_neg hlt]; simp
theorem ltr_conv {A : Alpha} {s : ByteArray} (h : ltrE A s = 0) : Conv.runesFrom s s.size 0 #[] = ((ltr A s).map (Value.int .i32)).toArray := by
  have hA := (ltr_ok h).1
  unfold ltrE at h
  unfold ltr
  unfold spell at h ⊢
  rw [if_pos hA] at h ⊢
  obtain ⟨l, h1, h2⟩ := spellFrom_conv A s s.size 0 [] (by omega) (by simp) h
  rw [List.nil_append] at h1
  rw [h1, h2]; simp
end Go.Cg
namespace Go.Proofs.YtobajknhnjceiaaDoor
open Go.RowKit Go.Cg Go.Shelf Go.Maps

theorem runeOk_range {r : Int} (h : runeOk r = true) : 0 ≤ r ∧ r ≤ 1114111 := by
  unfold runeOk at h
  have := of_decide_eq_true h
  omega
theorem ltr_wf {A : Alpha} {s : ByteArray} (h : ltrE A s = 0) : ∀ r ∈ ltr A s, -2147483648 ≤ r ∧ r ≤ 2147483647 := fun r hr => by
  obtain ⟨hA, _, hi, _⟩ := ltr_ok h
  have := runeOk_range (letter_rune hA (hi r hr))
  omega
/-- '[]rune(word)' -/
theorem word_row {A : Alpha} {s : ByteArray} (h : ltrE A s = 0) (W : World) : ∃ c W', (convert 9 60 (.string s)).run Tryd.prog W = .ok (.slice (some ⟨W.heap.size, 0, none⟩) (ltr A s).length c) W' ∧ OwnRunes 21 W.heap.size W' (some ⟨W.heap.size, 0, none⟩) c (ltr A s) ∧ Ext W W' := by
  have h4 := ltr_conv h
  have h3 := (ltr_ok h).2.2.2
  have hz : (Conv.runesFrom s s.size 0 #[]).size = (ltr A s).length := by rw [h4]; simp
  have hrun := run_runes_of_string (P := Tryd.prog) W 9 60 21 s Tryd.underlying9 Tryd.underlying60 Tryd.underlying21 (by rw [hz]; omega)
  rw [hz] at hrun
  have hge := grownCap_ge W (ltr A s).length 0 21
  have hle := grownCap_le_maxLen W (ltr A s).length 0 21 (by unfold maxLen; omega)
  refine ⟨_, _, hrun, ⟨⟨by simp, .inr ⟨W.heap.size, _, _, rfl, Nat.le_refl _, heap_alloc_new W.drew _, hge, hle, ?_, ?_⟩⟩, by omega, ?_⟩, ((Ext.refl W).drew).alloc _⟩
  · rw [h4]; simp; omega
  · rw [h4]; simp
  · exact mem_rn (q := fun r => -2147483648 ≤ r ∧ r ≤ 2147483647) (ltr_wf h)

set_option maxHeartbeats 400000 in
theorem wcheck_any (fp lp : Option Addr) (fc lc : Nat) (A : Alpha) (s : ByteArray) (hs : s.size ≤ 140737488351232) (w : World) (hA : AlphaAt w fp lp A) (hT : Tabs w) :
    Calls Tryd.prog 55 #[.agg #[.slice fp A.feats.length fc, .slice lp A.lets.length lc], .string s] w fun e w' => e = .returned (.int .i64 (ltrE A s)) ∧ Ext w w' := by
  have hx3 : Ext w (w.alloc (.cells #[.slice fp A.feats.length fc, .slice lp A.lets.length lc] 25)) := (Ext.refl _).alloc _
  have hcon := letters_any fp lp fc lc A s hs _ (hA.mono hx3) (hT.ext hx3)
  have e : ltrE A s = (spell A s).2 := rfl
  rw [e]
  go_enter Tryd.func55, Tryd.ntmps55
  go_wp2_with (go_at_call 43; refine hcon.mono ?_; rintro e w1 ⟨lrp, lrc, rfl, ho, hx1⟩)
  go_ret
  exact ⟨rfl, hx3.trans hx1⟩

set_option maxRecDepth 100000 in
set_option maxHeartbeats 4000000 in
theorem nearest_any (fp lp : Option Addr) (fc lc : Nat) (A : Alpha) (s : ByteArray) (hs : s.size ≤ 140737488351232) (tp : Option Addr) (tcap : Nat) (L : List ByteArray) (w : World) (hA : AlphaAt w fp lp A) (hL : TextsAt w tp L) (hTb : Tabs w) :
    Calls Tryd.prog 18 #[.agg #[.slice fp A.feats.length fc, .slice lp A.lets.length lc], .string s, .slice tp L.length tcap] w fun e w' => e = .returned (.tuple #[.int .i64 (lnN A s L : Nat), .int .i64 (lnC A s L : Nat), .int .i64 (lnE A s L)]) ∧ Ext w w' := by
  have hx3 : Ext w (w.alloc (.cells #[.slice fp A.feats.length fc, .slice lp A.lets.length lc] 25)) := (Ext.refl _).alloc _
  have hcx := letters_any fp lp fc lc A s hs _ (hA.mono hx3) (hTb.ext hx3)
  have hck := fun k (hk : k < L.length) W (hW : Ext w W) => wcheck_any fp lp fc lc A (txt L k) (hL.small k hk) W (hA.mono hW) (hTb.ext hW)
  have HBX := Lib.hid (fun W (hW : Ext (w.alloc (.cells #[.slice fp A.feats.length fc, .slice lp A.lets.length lc] 25)) W) => (⟨hW.cell0 0, hW.cell0 1, hW.lt0⟩ : W.cell? ⟨w.heap.size, 0, none⟩ = some (.slice fp A.feats.length fc) ∧ W.cell? ⟨w.heap.size, 1, none⟩ = some (.slice lp A.lets.length lc) ∧ w.heap.size < W.heap.size))
  have hE : lnE A s L = if ltrE A s ≠ 0 then ltrE A s else if 4096 < L.length then 4 else if errL A L ≠ 0 then errL A L else if L.length = 0 then 8 else 0 := rfl
  have hN : lnN A s L = if lnE A s L = 0 then bN (lnF A s L) L.length else 0 := rfl
  have hC : lnC A s L = if lnE A s L = 0 then bC (lnF A s L) L.length else 0 := rfl
  have e1 : ltrE A s = (spell A s).2 := rfl
  have h64 : (ltr A s).length ≤ 64 := spell_len A s
  have e2 : (spell A s).1 = ltr A s := rfl
  rw [← e1, e2] at hcx
  clear e1 e2
  obtain ⟨E, hEE⟩ : ∃ v, lnE A s L = v := ⟨_, rfl⟩
  obtain ⟨N, hNN⟩ : ∃ v, lnN A s L = v := ⟨_, rfl⟩
  obtain ⟨C, hCC⟩ : ∃ v, lnC A s L = v := ⟨_, rfl⟩
  rw [hEE] at hE hN hC ⊢
  rw [hNN] at hN ⊢
  rw [hCC] at hC ⊢
  clear hEE hNN hCC
  by_cases h0 : ltrE A s = 0
  · rw [if_neg (fun h => h h0)] at hE
    have hfk := fun k (hk : ltrE A (txt L k) = 0) => (show tc (farC A) (ltr A s) (ltr A (txt L k)) 0 0 = lnF A s L k by
      unfold lnF twoC; rw [if_pos (twoE_ok h0 hk)]; rfl)
    rw [h0] at hcx
    by_cases h4 : 4096 < L.length
    · rw [if_pos h4] at hE
      subst hE
      rw [if_neg (by decide)] at hN hC
      subst hN
      subst hC
      have g1 : decide ((L.length : Int) > 4096) = true := decide_eq_true (by omega)
      have g2 : decide ((4096 : Int) < L.length) = true := decide_eq_true (by omega)
      clear h4
      go_enter Tryd.func18, Tryd.ntmps18
      go_wp2_with (go_at_call 43; refine hcx.mono ?_; rintro e w1 ⟨xp, xc, rfl, ho, hx1⟩)
      go_ret3
      exact ⟨rfl, hx3.trans hx1⟩
    · rw [if_neg h4] at hE
      have g1 : decide ((L.length : Int) > 4096) = false := decide_eq_false (by omega)
      have g2 : decide ((4096 : Int) < L.length) = false := decide_eq_false (by omega)
      have HFI := Lib.hid (fun xp yp xc yc (y : List Int) (hy : y.length ≤ 64) W (hW : Ext w W) hX hY => filled_any fp lp xp yp fc lc xc yc A (ltr A s) y h64 hy W (hA.mono hW) hX hY)
      have hwr := fun k (h : ltrE A (txt L k) = 0) W => word_row h W
      have hl64 := fun k => (show (ltr A (txt L k)).length ≤ 64 from spell_len A (txt L k))
      have herr := fun k hk (h1 : ∀ j, j < k → ltrE A (txt L j) = 0) h2 => errL_at (A := A) (L := L) (k := k) hk h1 h2
      have hnon := fun (h1 : ∀ j, j < L.length → ltrE A (txt L j) = 0) => errL_none h1
      obtain ⟨X, hX⟩ : ∃ X, ltr A s = X := ⟨_, rfl⟩
      rw [hX] at hcx h64 hfk HFI
      obtain ⟨R, hR⟩ : ∃ R, errL A L = R := ⟨_, rfl⟩
      rw [hR] at hE herr hnon
      obtain ⟨F, hF⟩ : ∃ F, lnF A s L = F := ⟨_, rfl⟩
      rw [hF] at hN hC hfk
      clear hX hR hF h4
      have HE := Lib.hid hE
      have HN := Lib.hid hN
      have HC := Lib.hid hC
      have HCK := Lib.hid hck
      have HWR := Lib.hid hwr
      have HL64 := Lib.hid hl64
      have HERR := Lib.hid herr
      have HNON := Lib.hid hnon
      have HFK := Lib.hid hfk
      have hLb := hL.big
      clear hE hN hC hck hwr hl64 herr hnon hfk
      go_enter Tryd.func18, Tryd.ntmps18
      go_wp2_with (go_at_call 43; refine hcx.mono ?_; rintro e w1 ⟨xp, xc, rfl, ho, hx1⟩)
      have hxw := hx3.trans hx1
      clear hcx
      go_loopw [33] (fun i wr => ∃ k : Nat, k ≤ L.length ∧ i = .int .i64 k ∧ Ext w1 wr ∧ Hid (∀ j, j < k → ltrE A (txt L j) = 0)) (fun i _ => L.length - (intOf i).toNat)
      case atStart => exact ⟨0, Nat.zero_le _, rfl, Ext.refl _, fun j hj => by omega⟩
      case round =>
        obtain ⟨k, hk, rfl, hx, HZ⟩ := hrel
        by_cases hlt : k < L.length
        · obtain ⟨b, off, e0, hbw, c0⟩ := (hL.mono (hxw.trans hx)).cells hlt
          subst e0
          obtain ⟨d0, d1, l0⟩ := HBX.out _ (hx1.trans hx)
          have hc1 := HCK.out k hlt _ (hxw.trans hx)
          have her := HERR.out k hlt HZ.out
          obtain ⟨ek, hek⟩ : ∃ v, ltrE A (txt L k) = v := ⟨_, rfl⟩
          rw [hek] at hc1 her
          have HEK := Lib.hid hek
          clear hek
          by_cases hz : ek = 0
          · subst hz
            clear her
            go_wp2_with (go_at_call 55; refine hc1.mono ?_; rintro e w3 ⟨rfl, hx3⟩)
            exact ⟨⟨k + 1, by omega, by go_num, hx.trans hx3, upto_succ HZ.out HEK.out⟩, by simp [intOf]; omega⟩
          · have hr := her hz
            have he := HE.out
            rw [hr, if_pos hz] at he
            have hn := HN.out
            have hc := HC.out
            rw [he, if_neg hz] at hn hc
            subst hn
            subst hc
            subst he
            have gz : (E != 0) = true := by rw [bne_iff_ne]; exact hz
            clear hr her hz
            go_wp2_with (go_at_call 55; refine hc1.mono ?_; rintro e w3 ⟨rfl, hx3⟩)
            go_ret3
            exact ⟨rfl, (hxw.trans hx).trans hx3⟩
        · have e : k = L.length := by omega
          subst e
          have hr := HNON.out HZ.out
          have he := HE.out
          rw [hr, if_neg (by decide)] at he
          clear hr
          by_cases hl0 : L.length = 0
          · rw [if_pos hl0] at he
            subst he
            have hn := HN.out
            have hc := HC.out
            rw [if_neg (by decide)] at hn hc
            subst hn
            subst hc
            have gz : ((L.length : Int) == 0) = true := by rw [beq_iff_eq]; omega
            clear hl0
            go_wp2_with fail
            go_ret3
            exact ⟨rfl, hxw.trans hx⟩
          · rw [if_neg hl0] at he
            subst he
            have hn := HN.out
            have hc := HC.out
            rw [if_pos rfl] at hn hc
            have HN2 := Lib.hid hn
            have HC2 := Lib.hid hc
            have gz : ((L.length : Int) == 0) = false := by rw [beq_eq_false_iff_ne]; omega
            clear hl0 hn hc
            go_wp2_with fail
            go_loopw [14, 15, 49] (fun at_ least i wq => ∃ k : Nat, k ≤ L.length ∧ i = .int .i64 k ∧ at_ = .int .i64 (bN F k : Nat) ∧ least = .int .i64 (bC F k : Nat) ∧ Ext w1 wq) (fun _ _ i _ => L.length - (intOf i).toNat)
            case atStart => exact ⟨0, Nat.zero_le _, rfl, rfl, rfl, hx⟩
            case round =>
              clear hx
              obtain ⟨k, hk, rfl, rfl, rfl, hy⟩ := hrel
              by_cases hlt : k < L.length
              · obtain ⟨b, off, e0, hbw, c0⟩ := (hL.mono (hxw.trans hy)).cells hlt
                subst e0
                obtain ⟨d0, d1, l0⟩ := HBX.out _ (hx1.trans hy)
                have hz := HZ.out k hlt
                obtain ⟨cc, w3, hcv, hof, hx5⟩ := HWR.out k hz wr
                have hfk := HFK.out k hz
                have h64k := HL64.out k
                obtain ⟨Y, hY⟩ : ∃ Y, ltr A (txt L k) = Y := ⟨_, rfl⟩
                rw [hY] at hcv hof hfk h64k
                clear hY hz
                have hfi := HFI.out xp (some ⟨wr.heap.size, 0, none⟩) xc cc Y h64k w3 ((hxw.trans hy).trans hx5) (ho.at_.mono (hy.trans hx5)) hof.at_
                have hbn := bN_succ F k
                have hbc := bC_succ F k
                have HFI2 := Lib.hid hfi
                have HFK2 := Lib.hid hfk
                clear hfi hfk hof
                by_cases hc : k = 0 ∨ F k < bC F k
                · rw [if_pos hc] at hbn hbc
                  have HB := Lib.hid hbn
                  have HB2 := Lib.hid hbc
                  clear hbn hbc
                  cases gk : ((k : Int) == 0)
                  · have gl : F k < bC F k := by rw [beq_eq_false_iff_ne] at gk; omega
                    clear hc
                    go_wp2_with (go_at_call 56; refine HFI2.out.mono ?_; rintro e w4 ⟨g, rfl, hgw, hTT, hx4⟩; have lg := hTT.lt; have q0 := hTT.cost (i := 0) (k := 0) ⟨by omega, by omega⟩ (by omega) (by omega); simp only [Nat.zero_mul, Nat.add_zero] at q0; rw [HFK2.out] at q0)
                    exact ⟨⟨k + 1, by omega, by go_num, by rw [HB.out], by rw [HB2.out], (hy.trans hx5).trans hx4⟩, by simp [intOf]; omega⟩
                  · clear hc
                    go_wp2_with (go_at_call 56; refine HFI2.out.mono ?_; rintro e w4 ⟨g, rfl, hgw, hTT, hx4⟩; have lg := hTT.lt; have q0 := hTT.cost (i := 0) (k := 0) ⟨by omega, by omega⟩ (by omega) (by omega); simp only [Nat.zero_mul, Nat.add_zero] at q0; rw [HFK2.out] at q0)
                    exact ⟨⟨k + 1, by omega, by go_num, by rw [HB.out], by rw [HB2.out], (hy.trans hx5).trans hx4⟩, by simp [intOf]; omega⟩
                · rw [if_neg hc] at hbn hbc
                  have HB := Lib.hid hbn
                  have HB2 := Lib.hid hbc
                  have gk : ((k : Int) == 0) = false := by rw [beq_eq_false_iff_ne]; exact fun h => hc (.inl (by omega))
                  have gl : ¬ F k < bC F k := fun h => hc (.inr h)
                  clear hbn hbc hc
                  go_wp2_with (go_at_call 56; refine HFI2.out.mono ?_; rintro e w4 ⟨g, rfl, hgw, hTT, hx4⟩; have lg := hTT.lt; have q0 := hTT.cost (i := 0) (k := 0) ⟨by omega, by omega⟩ (by omega) (by omega); simp only [Nat.zero_mul, Nat.add_zero] at q0; rw [HFK2.out] at q0)
                  exact ⟨⟨k + 1, by omega, by go_num, by rw [HB.out], by rw [HB2.out], (hy.trans hx5).trans hx4⟩, by simp [intOf]; omega⟩
              · have e : k = L.length := by omega
                subst e
                go_wp2_with fail
                go_ret3
                exact ⟨by rw [HN2.out, HC2.out]; rfl, hxw.trans hy⟩
  · rw [if_pos h0] at hE
    have hEn : E ≠ 0 := by rw [hE]; exact h0
    rw [if_neg hEn] at hN hC
    subst hN
    subst hC
    rw [← hE] at hcx
    have gE : (E != 0) = true := by rw [bne_iff_ne]; exact hEn
    clear h0 hE hEn
    go_enter Tryd.func18, Tryd.ntmps18
    go_wp2_with (go_at_call 43; refine hcx.mono ?_; rintro e w1 ⟨xp, xc, rfl, ho, hx1⟩)
    go_ret3
    exact ⟨rfl, hx3.trans hx1⟩

end Go.Proofs.YtobajknhnjceiaaDoor
