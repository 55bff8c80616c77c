/- Contract: cognateref21.Nearest. -/
import Derived.Test.YtobajknhnjceiaaDoorAlgr
import Derived.Test.YtobajknhnjceiaaDoorAlgg
import Derived.Deep.RegionHeld3
namespace Go.Proofs.YtobajknhnjceiaaDoor
open Go.RowKit Go.Cg Go.Shelf Go.Maps

/-- '[]rune(word)' at a step -/
theorem wp_word {A : Alpha} {s : ByteArray} (h : ltrE A s = 0) {o : Oper} {a : Act} {w : World} {K : Act → World → Prop} {Q : Exit → Act → World → Prop} (x : Operand) (ho : o.op = .convert 9 60 x) (hx : a.eval x = .string s)
    (hk : ∀ p c w', RunesAt w' p (ltr A s) → Ext w w' → K (a.put o.dst (.slice p (ltr A s).length c)) w') : Oper.wp Tryd.prog o a w K Q := by
  obtain ⟨c, w', hrun, hof, hx5⟩ := word_row h w
  unfold Oper.wp
  simp [execOp, ho, hx, hrun, Result.andThen]
  exact hk _ _ _ hof.at_ hx5

set_option maxRecDepth 100000 in
set_option maxHeartbeats 4000000 in
theorem nearest21_any (fp lp : Option Addr) (fc lc : Nat) (A : Alpha) (s : ByteArray) (hs : s.size ≤ 140737488351232) (tp : Option Addr) (tcap : Nat) (L : List ByteArray) (w : World) (hA : AlphaAt w fp lp A) (hL : TextsAt w tp L) (hTb : Tabs w) :
    Calls Tryd.prog 19 #[.agg #[.slice fp A.feats.length fc, .slice lp A.lets.length lc], .string s, .slice tp L.length tcap] w fun e w' => e = .returned (.tuple #[.int .i64 (lnN A s L : Nat), .int .i64 (lnC A s L : Nat), .int .i64 (lnE A s L)]) ∧ Ext w w' := by
  have hx3 : Ext w (w.alloc (.cells #[.slice fp A.feats.length fc, .slice lp A.lets.length lc] 25)) := (Ext.refl _).alloc _
  have hcx := Check03_any fp lp fc lc A s hs _ (hA.mono hx3) (hTb.ext hx3)
  have hck := fun k (hk : k < L.length) W (hW : Ext w W) => (show Calls Tryd.prog 57 #[.agg #[.slice fp A.feats.length fc, .slice lp A.lets.length lc], .string (txt L k)] W fun e w' => e = .returned (.int .i64 (ltrE A (txt L k))) ∧ Ext W w' from Check03_any fp lp fc lc A (txt L k) (hL.small k hk) W (hA.mono hW) (hTb.ext hW))
  have HBX := Lib.hid (fun W (hW : Ext (w.alloc (.cells #[.slice fp A.feats.length fc, .slice lp A.lets.length lc] 25)) W) => (⟨hW.cell0 0, hW.cell0 1, hW.lt0⟩ : W.cell? ⟨w.heap.size, 0, none⟩ = some (.slice fp A.feats.length fc) ∧ W.cell? ⟨w.heap.size, 1, none⟩ = some (.slice lp A.lets.length lc) ∧ w.heap.size < W.heap.size))
  have hE : lnE A s L = if ltrE A s ≠ 0 then ltrE A s else if 4096 < L.length then 4 else if errL A L ≠ 0 then errL A L else if L.length = 0 then 8 else 0 := rfl
  have hN : lnN A s L = if lnE A s L = 0 then bN (lnF A s L) L.length else 0 := rfl
  have hC : lnC A s L = if lnE A s L = 0 then bC (lnF A s L) L.length else 0 := rfl
  have e1 : (spell A s).2 = ltrE A s := rfl
  have h64 : (ltr A s).length ≤ 64 := spell_len A s
  rw [e1] at hcx
  clear e1
  have hfle := fun k => (show lnF A s L k ≤ 640 from twoC_le)
  obtain ⟨E, hEE⟩ : ∃ v, lnE A s L = v := ⟨_, rfl⟩
  obtain ⟨N, hNN⟩ : ∃ v, lnN A s L = v := ⟨_, rfl⟩
  obtain ⟨C, hCC⟩ : ∃ v, lnC A s L = v := ⟨_, rfl⟩
  rw [hEE] at hE hN hC ⊢
  rw [hNN] at hN ⊢
  rw [hCC] at hC ⊢
  clear hEE hNN hCC
  by_cases h0 : ltrE A s = 0
  · rw [if_neg (fun h => h h0)] at hE
    have hfk := fun k (hk : ltrE A (txt L k) = 0) => (show tc (farC A) (ltr A s) (ltr A (txt L k)) 0 0 = lnF A s L k by
      unfold lnF twoC; rw [if_pos (twoE_ok h0 hk)]; rfl)
    rw [h0] at hcx
    by_cases h4 : 4096 < L.length
    · rw [if_pos h4] at hE
      subst hE
      rw [if_neg (by decide)] at hN hC
      subst hN
      subst hC
      have g1 : decide ((L.length : Int) > 4096) = true := decide_eq_true (by omega)
      have g2 : decide ((4096 : Int) < L.length) = true := decide_eq_true (by omega)
      clear h4
      go_enter Tryd.func19, Tryd.ntmps19
      go_wp2_with (go_at_call 57; refine hcx.mono ?_; rintro e w1 ⟨rfl, hx1⟩)
      go_ret3
      exact ⟨rfl, hx3.trans hx1⟩
    · rw [if_neg h4] at hE
      have g1 : decide ((L.length : Int) > 4096) = false := decide_eq_false (by omega)
      have g2 : decide ((4096 : Int) < L.length) = false := decide_eq_false (by omega)
      have hokA := (ltr_ok h0).1
      have HTA := Lib.hid (fun xp yp xc yc k (hk : ltrE A (txt L k) = 0) W (hW : Ext w W) hX hY => table_any fp lp xp yp fc lc xc yc A (ltr A s) (ltr A (txt L k)) h64 (spell_len A (txt L k)) (InA_ne hokA (ltr_ok h0).2.2.1) (InA_ne hokA (ltr_ok hk).2.2.1) W (hA.mono hW) hX hY)
      have herr := fun k hk (h1 : ∀ j, j < k → ltrE A (txt L j) = 0) h2 => errL_at (A := A) (L := L) (k := k) hk h1 h2
      have hnon := fun (h1 : ∀ j, j < L.length → ltrE A (txt L j) = 0) => errL_none h1
      obtain ⟨R, hR⟩ : ∃ R, errL A L = R := ⟨_, rfl⟩
      rw [hR] at hE herr hnon
      obtain ⟨F, hF⟩ : ∃ F, lnF A s L = F := ⟨_, rfl⟩
      rw [hF] at hN hC hfk hfle
      clear hR hF h4 hokA
      have HS0 := Lib.hid h0
      have HE := Lib.hid hE
      have HN := Lib.hid hN
      have HC := Lib.hid hC
      have HCK := Lib.hid hck
      have HERR := Lib.hid herr
      have HNON := Lib.hid hnon
      have HFK := Lib.hid hfk
      have HFL := Lib.hid hfle
      have hLb := hL.big
      clear hE hN hC hck herr hnon hfk hfle h0 h64
      go_enter Tryd.func19, Tryd.ntmps19
      go_wp2_with (go_at_call 57; refine hcx.mono ?_; rintro e w1 ⟨rfl, hx1⟩)
      have hxw := hx3.trans hx1
      clear hcx
      go_loopw [10] (fun i wr => ∃ k : Nat, k ≤ L.length ∧ i = .int .i64 k ∧ Ext w1 wr ∧ Hid (∀ j, j < k → ltrE A (txt L j) = 0)) (fun i _ => L.length - (intOf i).toNat)
      case atStart => exact ⟨0, Nat.zero_le _, rfl, Ext.refl _, fun j hj => by omega⟩
      case round =>
        obtain ⟨k, hk, rfl, hx, HZ⟩ := hrel
        by_cases hlt : k < L.length
        · obtain ⟨b, off, e0, hbw, c0⟩ := (hL.mono (hxw.trans hx)).cells hlt
          subst e0
          obtain ⟨d0, d1, l0⟩ := HBX.out _ (hx1.trans hx)
          have hc1 := HCK.out k hlt
          have her := HERR.out k hlt HZ.out
          obtain ⟨ek, hek⟩ : ∃ v, ltrE A (txt L k) = v := ⟨_, rfl⟩
          rw [hek] at hc1 her
          have HEK := Lib.hid hek
          have HC1 := Lib.hid hc1
          have hxk := hxw.trans hx
          clear hek hc1
          by_cases hz : ek = 0
          · subst hz
            clear her
            go_wp2_with fail
            (refine wp_region_ext (by kernel_rfl) (by kernel_rfl) ?_; intro ι hι g hg; have q_d0 := hg.cell d0; have q_d1 := hg.cell d1; have q_c0 := hg.cell c0; clear d0 d1 c0; (repeat (go_big_quiet_step ((go_at_call 57; exact hg.call (HC1.out _ (hxk.trans (hg.ext _))))))); refine wpQuiet_nil ?_; rintro w3 ⟨i2, rfl⟩; have hq := hg.ext i2; generalize g i2 = w3 at hq ⊢; clear q_d0 q_d1 q_c0 i2 hg g hι ι)
            go_wp2_with fail
            exact ⟨⟨k + 1, by omega, by go_num, hx.trans hq, upto_succ HZ.out HEK.out⟩, by simp [intOf]; omega⟩
          · have hr := her hz
            have he := HE.out
            rw [hr, if_pos hz] at he
            have hn := HN.out
            have hc := HC.out
            rw [he, if_neg hz] at hn hc
            subst hn
            subst hc
            subst he
            have gz : (E != 0) = true := by rw [bne_iff_ne]; exact hz
            clear hr her hz
            go_wp2_with fail
            (refine wp_region_ext (by kernel_rfl) (by kernel_rfl) ?_; intro ι hι g hg; have q_d0 := hg.cell d0; have q_d1 := hg.cell d1; have q_c0 := hg.cell c0; clear d0 d1 c0; (repeat (go_big_quiet_step ((go_at_call 57; exact hg.call (HC1.out _ (hxk.trans (hg.ext _))))))); refine wpQuiet_nil ?_; rintro w3 ⟨i2, rfl⟩; have hq := hg.ext i2; generalize g i2 = w3 at hq ⊢; clear q_d0 q_d1 q_c0 i2 hg g hι ι)
            go_wp2_with fail
            go_ret3
            exact ⟨rfl, hxk.trans hq⟩
        · have e : k = L.length := by omega
          subst e
          have hr := HNON.out HZ.out
          have he := HE.out
          rw [hr, if_neg (by decide)] at he
          clear hr
          by_cases hl0 : L.length = 0
          · rw [if_pos hl0] at he
            subst he
            have hn := HN.out
            have hc := HC.out
            rw [if_neg (by decide)] at hn hc
            subst hn
            subst hc
            have gz : ((L.length : Int) == 0) = true := by rw [beq_iff_eq]; omega
            clear hl0
            go_wp2_with fail
            go_ret3
            exact ⟨rfl, hxw.trans hx⟩
          · rw [if_neg hl0] at he
            subst he
            have hn := HN.out
            have hc := HC.out
            rw [if_pos rfl] at hn hc
            have HN2 := Lib.hid hn
            have HC2 := Lib.hid hc
            have gz : ((L.length : Int) == 0) = false := by rw [beq_eq_false_iff_ne]; omega
            have HL0 := Lib.hid hl0
            clear hl0 hn hc
            go_wp2_with fail
            go_loopw [12, 13, 14] (fun best at_ i wq => ∃ (k : Nat) (b : Int), k ≤ L.length ∧ i = .int .i64 k ∧ at_ = .int .i64 (bN F k : Nat) ∧ best = .int .i64 b ∧ Ext w1 wq ∧ Hid ((k = 0 → b = -1) ∧ (k ≠ 0 → b = (bC F k : Nat)))) (fun _ _ i _ => L.length - (intOf i).toNat)
            case atStart => exact ⟨0, -1, Nat.zero_le _, rfl, rfl, rfl, hx, fun _ => rfl, fun h => absurd rfl h⟩
            case round =>
              clear hx
              obtain ⟨k, bb, hk, rfl, rfl, rfl, hy, HB⟩ := hrel
              by_cases hlt : k < L.length
              · obtain ⟨b, off, e0, hbw, c0⟩ := (hL.mono (hxw.trans hy)).cells hlt
                subst e0
                have hz := HZ.out k hlt
                have hfk := HFK.out k hz
                have hfl := HFL.out k
                have HTK := Lib.hid (fun xp yp xc yc W hW hX hY => HTA.out xp yp xc yc k hz W hW hX hY)
                have HZK := Lib.hid hz
                have hxk := hxw.trans hy
                have hS4 := fun (W : World) (hW : Ext wr W) => (⟨hW, (HBX.out _ ((hx1.trans hy).trans hW)).1, (HBX.out _ ((hx1.trans hy).trans hW)).2.1, (hW.facts.1 b (off + k) hbw).trans c0⟩ : Ext wr W ∧ W.cell? ⟨w.heap.size, 0, none⟩ = some (.slice fp A.feats.length fc) ∧ W.cell? ⟨w.heap.size, 1, none⟩ = some (.slice lp A.lets.length lc) ∧ W.cell? ⟨b, off + k, none⟩ = some (.string (txt L k)))
                have HS4 := Lib.hid hS4
                have hbn := bN_succ F k
                have hbc := bC_succ F k
                have HFK2 := Lib.hid hfk
                have HBN := Lib.hid hbn
                have HBC := Lib.hid hbc
                clear hS4 hz hfk hbn hbc
                go_wp2_with fail
                refine wp_region_held_drew (S := (fun W => Ext wr W ∧ W.cell? ⟨w.heap.size, 0, none⟩ = some (.slice fp A.feats.length fc) ∧ W.cell? ⟨w.heap.size, 1, none⟩ = some (.slice lp A.lets.length lc) ∧ W.cell? ⟨b, off + k, none⟩ = some (.string (txt L k)))) (by kernel_rfl) (HS4.out _ (Ext.refl _).drew) (fun hHeld => ?_)
                refine wpAnyH_take (i := 0) (v := (.agg #[.slice fp A.feats.length fc, .slice lp A.lets.length lc])) rfl (by kernel_rfl) (by kernel_rfl) (by kernel_rfl) (fun _ _ _ h => h) (Or.inl ⟨by rfl, ?_⟩) (by assumption) ?_
                · intro w hSw
                  try dsimp only at hSw
                  go_simp
                try simp only [List.getElem_toArray, List.getElem_cons_zero, List.getElem_cons_succ, Act.put, List.setIfInBounds_toArray, List.set_cons_zero, List.set_cons_succ]
                refine wpAnyH_take (i := 1) (v := (.string s)) rfl (by kernel_rfl) (by kernel_rfl) (by kernel_rfl) (fun _ _ _ h => h) (Or.inl ⟨by rfl, ?_⟩) (by assumption) ?_
                · intro w hSw
                  try dsimp only at hSw
                  go_simp
                try simp only [List.getElem_toArray, List.getElem_cons_zero, List.getElem_cons_succ, Act.put, List.setIfInBounds_toArray, List.set_cons_zero, List.set_cons_succ]
                refine wpAnyH_take (i := 3) (v := (.slice (some ⟨b, off, none⟩) L.length tcap)) rfl (by kernel_rfl) (by kernel_rfl) (by kernel_rfl) (fun _ _ _ h => h) (Or.inl ⟨by rfl, ?_⟩) (by assumption) ?_
                · intro w hSw
                  try dsimp only at hSw
                  go_simp
                try simp only [List.getElem_toArray, List.getElem_cons_zero, List.getElem_cons_succ, Act.put, List.setIfInBounds_toArray, List.set_cons_zero, List.set_cons_succ]
                refine wpAnyH_take (i := 4) (v := (.int .i64 (k : Int))) rfl (by kernel_rfl) (by kernel_rfl) (by kernel_rfl) (fun _ _ _ h => h) (Or.inl ⟨by rfl, ?_⟩) (by assumption) ?_
                · intro w hSw
                  try dsimp only at hSw
                  go_simp
                try simp only [List.getElem_toArray, List.getElem_cons_zero, List.getElem_cons_succ, Act.put, List.setIfInBounds_toArray, List.set_cons_zero, List.set_cons_succ]
                refine wpAnyH_take (i := 5) (v := (.pointer (some ⟨b, off + k, none⟩))) rfl (by kernel_rfl) (by kernel_rfl) (by kernel_rfl) (fun _ _ _ h => h) (Or.inl ⟨by rfl, ?_⟩) (by assumption) ?_
                · intro w hSw
                  try dsimp only at hSw
                  go_simp
                try simp only [List.getElem_toArray, List.getElem_cons_zero, List.getElem_cons_succ, Act.put, List.setIfInBounds_toArray, List.set_cons_zero, List.set_cons_succ]
                refine wpAnyH_take (i := 6) (v := (.string (txt L k))) rfl (by kernel_rfl) (by kernel_rfl) (by kernel_rfl) (fun _ _ _ h => h) (Or.inl ⟨by rfl, ?_⟩) (by assumption) ?_
                · intro w hSw
                  try dsimp only at hSw
                  go_simp
                try simp only [List.getElem_toArray, List.getElem_cons_zero, List.getElem_cons_succ, Act.put, List.setIfInBounds_toArray, List.set_cons_zero, List.set_cons_succ]
                refine wpAnyH_ready (rs := [2, 7]) (by kernel_rfl) (by simp) ?_
                refine AllReadyH.cons rfl (fun K hK => ?_) (AllReadyH.cons rfl (fun K hK => ?_) AllReadyH.nil)
                · try simp only [List.getElem_toArray, List.getElem_cons_zero, List.getElem_cons_succ]
                  rw [if_pos (by rfl)]
                  refine wp_word HS0.out _ rfl rfl ?_
                  intro p6 c6 w6 hr6 hx6
                  refine hK.out _ _ (HS4.out _ ((Ext.refl _).drew.trans hx6)) (fun hHeld => ?_)
                  clear hK K
                  try simp only [List.getElem_toArray, List.getElem_cons_zero, List.getElem_cons_succ, Act.put, List.setIfInBounds_toArray, List.set_cons_zero, List.set_cons_succ]
                  refine wpAnyH_ready (rs := [7]) (by kernel_rfl) (by simp) ?_
                  refine AllReadyH.cons rfl (fun K hK => ?_) AllReadyH.nil
                  try simp only [List.getElem_toArray, List.getElem_cons_zero, List.getElem_cons_succ]
                  rw [if_pos (by rfl)]
                  refine wp_word HZK.out _ rfl rfl ?_
                  intro p7 c7 w7 hr7 hx7
                  refine hK.out _ _ (HS4.out _ (((Ext.refl _).drew.trans hx6).trans hx7)) (fun hHeld => ?_)
                  clear hK K
                  try simp only [List.getElem_toArray, List.getElem_cons_zero, List.getElem_cons_succ, Act.put, List.setIfInBounds_toArray, List.set_cons_zero, List.set_cons_succ]
                  refine wpAnyH_ready (rs := [8]) (by kernel_rfl) (by simp) ?_
                  refine AllReadyH.cons rfl (fun K hK => ?_) AllReadyH.nil
                  try simp only [List.getElem_toArray, List.getElem_cons_zero, List.getElem_cons_succ]
                  go_simp
                  go_at_call 58
                  refine (HTK.out p6 p7 c6 c7 _ (hxk.trans (((Ext.refl _).drew.trans hx6).trans hx7)) (hr6.mono hx7) hr7).mono ?_
                  rintro e w8 ⟨cb, mb, rfl, hG1, hG2, hx8⟩
                  have hE8 : Ext wr w8 := ((((Ext.refl _).drew.trans hx6).trans hx7)).trans hx8
                  refine hK.out _ _ (HS4.out _ hE8) (fun hHeld => ?_)
                  clear hK K
                  try simp only [List.getElem_toArray, List.getElem_cons_zero, List.getElem_cons_succ, Act.put, List.setIfInBounds_toArray, List.set_cons_zero, List.set_cons_succ]
                  refine wpAnyH_take (i := 9) (v := (.tuple #[.slice (some ⟨cb, 0, none⟩) ((ltr A s).length + 1) ((ltr A s).length + 1), .slice (some ⟨mb, 0, none⟩) ((ltr A s).length + 1) ((ltr A s).length + 1)])) rfl (by kernel_rfl) (by kernel_rfl) (by kernel_rfl) (fun _ _ _ h => h) (Or.inl ⟨by rfl, ?_⟩) (by assumption) ?_
                  · intro w hSw
                    try dsimp only at hSw
                    go_simp
                  try simp only [List.getElem_toArray, List.getElem_cons_zero, List.getElem_cons_succ, Act.put, List.setIfInBounds_toArray, List.set_cons_zero, List.set_cons_succ]
                  refine wpAnyH_take (i := 10) (v := (.slice (some ⟨cb, 0, none⟩) ((ltr A s).length + 1) ((ltr A s).length + 1))) rfl (by kernel_rfl) (by kernel_rfl) (by kernel_rfl) (fun _ _ _ h => h) (Or.inl ⟨by rfl, ?_⟩) (by assumption) ?_
                  · intro w hSw
                    try dsimp only at hSw
                    go_simp
                  try simp only [List.getElem_toArray, List.getElem_cons_zero, List.getElem_cons_succ, Act.put, List.setIfInBounds_toArray, List.set_cons_zero, List.set_cons_succ]
                  refine wpAnyH_take (i := 11) (v := (.slice (some ⟨mb, 0, none⟩) ((ltr A s).length + 1) ((ltr A s).length + 1))) rfl (by kernel_rfl) (by kernel_rfl) (by kernel_rfl) (fun _ _ _ h => h) (Or.inl ⟨by rfl, ?_⟩) (by assumption) ?_
                  · intro w hSw
                    try dsimp only at hSw
                    go_simp
                  try simp only [List.getElem_toArray, List.getElem_cons_zero, List.getElem_cons_succ, Act.put, List.setIfInBounds_toArray, List.set_cons_zero, List.set_cons_succ]
                  refine wpAnyH_take (i := 12) (v := (.slice (some ⟨cb, 0, none⟩) ((ltr A s).length + 1) ((ltr A s).length + 1))) rfl (by kernel_rfl) (by kernel_rfl) (by kernel_rfl) (fun _ _ _ h => h) (Or.inl ⟨by rfl, ?_⟩) (by assumption) ?_
                  · intro w hSw
                    try dsimp only at hSw
                    go_simp
                  try simp only [List.getElem_toArray, List.getElem_cons_zero, List.getElem_cons_succ, Act.put, List.setIfInBounds_toArray, List.set_cons_zero, List.set_cons_succ]
                  refine wpAnyH_take (i := 13) (v := (.slice (some ⟨mb, 0, none⟩) ((ltr A s).length + 1) ((ltr A s).length + 1))) rfl (by kernel_rfl) (by kernel_rfl) (by kernel_rfl) (fun _ _ _ h => h) (Or.inl ⟨by rfl, ?_⟩) (by assumption) ?_
                  · intro w hSw
                    try dsimp only at hSw
                    go_simp
                  try simp only [List.getElem_toArray, List.getElem_cons_zero, List.getElem_cons_succ, Act.put, List.setIfInBounds_toArray, List.set_cons_zero, List.set_cons_succ]
                  refine wpAnyH_done (by kernel_rfl) ?_ _
                  obtain ⟨q, hh, lq, hr⟩ := hG1.rows 0 (by omega)
                  have q0 := hr 0 (by omega)
                  rw [HFK2.out] at q0
                  have lcb := hG1.lt
                  clear hr hG1 hG2
                  clear hHeld
                  by_cases hk0 : k = 0
                  · have hb := HB.out.1 hk0
                    subst hb
                    have HH1 := Lib.hid (HBN.out.trans (if_pos (.inl hk0)))
                    have HH2 := Lib.hid (HBC.out.trans (if_pos (.inl hk0)))
                    go_wp2_with fail
                    exact ⟨⟨k + 1, _, by omega, by go_num, by rw [HH1.out], rfl, hy.trans hE8, fun h => absurd h (by omega), fun _ => by rw [HH2.out, hk0]⟩, by simp [intOf]; omega⟩
                  · have hb := HB.out.2 hk0
                    subst hb
                    by_cases hc : F k < bC F k
                    · have HH1 := Lib.hid (HBN.out.trans (if_pos (.inr hc)))
                      have HH2 := Lib.hid (HBC.out.trans (if_pos (.inr hc)))
                      go_wp2_with fail
                      exact ⟨⟨k + 1, _, by omega, by go_num, by rw [HH1.out], rfl, hy.trans hE8, fun h => absurd h (by omega), fun _ => by rw [HH2.out]⟩, by simp [intOf]; omega⟩
                    · have HH1 := Lib.hid (HBN.out.trans (if_neg (fun h => h.elim hk0 hc)))
                      have HH2 := Lib.hid (HBC.out.trans (if_neg (fun h => h.elim hk0 hc)))
                      go_wp2_with fail
                      exact ⟨⟨k + 1, _, by omega, by go_num, by rw [HH1.out], rfl, hy.trans hE8, fun h => absurd h (by omega), fun _ => by rw [HH2.out]⟩, by simp [intOf]; omega⟩
                · try simp only [List.getElem_toArray, List.getElem_cons_zero, List.getElem_cons_succ]
                  rw [if_pos (by rfl)]
                  refine wp_word HZK.out _ rfl rfl ?_
                  intro p7 c7 w7 hr7 hx7
                  refine hK.out _ _ (HS4.out _ ((Ext.refl _).drew.trans hx7)) (fun hHeld => ?_)
                  clear hK K
                  try simp only [List.getElem_toArray, List.getElem_cons_zero, List.getElem_cons_succ, Act.put, List.setIfInBounds_toArray, List.set_cons_zero, List.set_cons_succ]
                  refine wpAnyH_ready (rs := [2]) (by kernel_rfl) (by simp) ?_
                  refine AllReadyH.cons rfl (fun K hK => ?_) AllReadyH.nil
                  try simp only [List.getElem_toArray, List.getElem_cons_zero, List.getElem_cons_succ]
                  rw [if_pos (by rfl)]
                  refine wp_word HS0.out _ rfl rfl ?_
                  intro p6 c6 w6 hr6 hx6
                  refine hK.out _ _ (HS4.out _ (((Ext.refl _).drew.trans hx7).trans hx6)) (fun hHeld => ?_)
                  clear hK K
                  try simp only [List.getElem_toArray, List.getElem_cons_zero, List.getElem_cons_succ, Act.put, List.setIfInBounds_toArray, List.set_cons_zero, List.set_cons_succ]
                  refine wpAnyH_ready (rs := [8]) (by kernel_rfl) (by simp) ?_
                  refine AllReadyH.cons rfl (fun K hK => ?_) AllReadyH.nil
                  try simp only [List.getElem_toArray, List.getElem_cons_zero, List.getElem_cons_succ]
                  go_simp
                  go_at_call 58
                  refine (HTK.out p6 p7 c6 c7 _ (hxk.trans (((Ext.refl _).drew.trans hx7).trans hx6)) hr6 (hr7.mono hx6)).mono ?_
                  rintro e w8 ⟨cb, mb, rfl, hG1, hG2, hx8⟩
                  have hE8 : Ext wr w8 := ((((Ext.refl _).drew.trans hx7).trans hx6)).trans hx8
                  refine hK.out _ _ (HS4.out _ hE8) (fun hHeld => ?_)
                  clear hK K
                  try simp only [List.getElem_toArray, List.getElem_cons_zero, List.getElem_cons_succ, Act.put, List.setIfInBounds_toArray, List.set_cons_zero, List.set_cons_succ]
                  refine wpAnyH_take (i := 9) (v := (.tuple #[.slice (some ⟨cb, 0, none⟩) ((ltr A s).length + 1) ((ltr A s).length + 1), .slice (some ⟨mb, 0, none⟩) ((ltr A s).length + 1) ((ltr A s).length + 1)])) rfl (by kernel_rfl) (by kernel_rfl) (by kernel_rfl) (fun _ _ _ h => h) (Or.inl ⟨by rfl, ?_⟩) (by assumption) ?_
                  · intro w hSw
                    try dsimp only at hSw
                    go_simp
                  try simp only [List.getElem_toArray, List.getElem_cons_zero, List.getElem_cons_succ, Act.put, List.setIfInBounds_toArray, List.set_cons_zero, List.set_cons_succ]
                  refine wpAnyH_take (i := 10) (v := (.slice (some ⟨cb, 0, none⟩) ((ltr A s).length + 1) ((ltr A s).length + 1))) rfl (by kernel_rfl) (by kernel_rfl) (by kernel_rfl) (fun _ _ _ h => h) (Or.inl ⟨by rfl, ?_⟩) (by assumption) ?_
                  · intro w hSw
                    try dsimp only at hSw
                    go_simp
                  try simp only [List.getElem_toArray, List.getElem_cons_zero, List.getElem_cons_succ, Act.put, List.setIfInBounds_toArray, List.set_cons_zero, List.set_cons_succ]
                  refine wpAnyH_take (i := 11) (v := (.slice (some ⟨mb, 0, none⟩) ((ltr A s).length + 1) ((ltr A s).length + 1))) rfl (by kernel_rfl) (by kernel_rfl) (by kernel_rfl) (fun _ _ _ h => h) (Or.inl ⟨by rfl, ?_⟩) (by assumption) ?_
                  · intro w hSw
                    try dsimp only at hSw
                    go_simp
                  try simp only [List.getElem_toArray, List.getElem_cons_zero, List.getElem_cons_succ, Act.put, List.setIfInBounds_toArray, List.set_cons_zero, List.set_cons_succ]
                  refine wpAnyH_take (i := 12) (v := (.slice (some ⟨cb, 0, none⟩) ((ltr A s).length + 1) ((ltr A s).length + 1))) rfl (by kernel_rfl) (by kernel_rfl) (by kernel_rfl) (fun _ _ _ h => h) (Or.inl ⟨by rfl, ?_⟩) (by assumption) ?_
                  · intro w hSw
                    try dsimp only at hSw
                    go_simp
                  try simp only [List.getElem_toArray, List.getElem_cons_zero, List.getElem_cons_succ, Act.put, List.setIfInBounds_toArray, List.set_cons_zero, List.set_cons_succ]
                  refine wpAnyH_take (i := 13) (v := (.slice (some ⟨mb, 0, none⟩) ((ltr A s).length + 1) ((ltr A s).length + 1))) rfl (by kernel_rfl) (by kernel_rfl) (by kernel_rfl) (fun _ _ _ h => h) (Or.inl ⟨by rfl, ?_⟩) (by assumption) ?_
                  · intro w hSw
                    try dsimp only at hSw
                    go_simp
                  try simp only [List.getElem_toArray, List.getElem_cons_zero, List.getElem_cons_succ, Act.put, List.setIfInBounds_toArray, List.set_cons_zero, List.set_cons_succ]
                  refine wpAnyH_done (by kernel_rfl) ?_ _
                  obtain ⟨q, hh, lq, hr⟩ := hG1.rows 0 (by omega)
                  have q0 := hr 0 (by omega)
                  rw [HFK2.out] at q0
                  have lcb := hG1.lt
                  clear hr hG1 hG2
                  clear hHeld
                  by_cases hk0 : k = 0
                  · have hb := HB.out.1 hk0
                    subst hb
                    have HH1 := Lib.hid (HBN.out.trans (if_pos (.inl hk0)))
                    have HH2 := Lib.hid (HBC.out.trans (if_pos (.inl hk0)))
                    go_wp2_with fail
                    exact ⟨⟨k + 1, _, by omega, by go_num, by rw [HH1.out], rfl, hy.trans hE8, fun h => absurd h (by omega), fun _ => by rw [HH2.out, hk0]⟩, by simp [intOf]; omega⟩
                  · have hb := HB.out.2 hk0
                    subst hb
                    by_cases hc : F k < bC F k
                    · have HH1 := Lib.hid (HBN.out.trans (if_pos (.inr hc)))
                      have HH2 := Lib.hid (HBC.out.trans (if_pos (.inr hc)))
                      go_wp2_with fail
                      exact ⟨⟨k + 1, _, by omega, by go_num, by rw [HH1.out], rfl, hy.trans hE8, fun h => absurd h (by omega), fun _ => by rw [HH2.out]⟩, by simp [intOf]; omega⟩
                    · have HH1 := Lib.hid (HBN.out.trans (if_neg (fun h => h.elim hk0 hc)))
                      have HH2 := Lib.hid (HBC.out.trans (if_neg (fun h => h.elim hk0 hc)))
                      go_wp2_with fail
                      exact ⟨⟨k + 1, _, by omega, by go_num, by rw [HH1.out], rfl, hy.trans hE8, fun h => absurd h (by omega), fun _ => by rw [HH2.out]⟩, by simp [intOf]; omega⟩
              · have e : k = L.length := by omega
                subst e
                have hb := (HB.out.2 HL0.out)
                subst hb
                go_wp2_with fail
                go_ret3
                exact ⟨by rw [HN2.out, HC2.out]; rfl, hxw.trans hy⟩
  · rw [if_pos h0] at hE
    have hEn : E ≠ 0 := by rw [hE]; exact h0
    rw [if_neg hEn] at hN hC
    subst hN
    subst hC
    rw [← hE] at hcx
    have gE : (E != 0) = true := by rw [bne_iff_ne]; exact hEn
    clear h0 hE hEn
    go_enter Tryd.func19, Tryd.ntmps19
    go_wp2_with (go_at_call 57; refine hcx.mono ?_; rintro e w1 ⟨rfl, hx1⟩)
    go_ret3
    exact ⟨rfl, hx3.trans hx1⟩

end Go.Proofs.YtobajknhnjceiaaDoor
