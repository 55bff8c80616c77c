/- Contract of the reference's Parse. -/
import Derived.Test.YtppbjeipfopehaaDoorFelg
namespace Go.Proofs.YtppbjeipfopehaaDoor
open Go.RowKit Go.Cg Go.Shelf Go.Maps

theorem azEnd_in {s : ByteArray} {i t : Nat} (ht : t < s.size) (h1 : i ≤ t) (h2 : t < azEnd s i) : isAz s[t] = true := by
  unfold azEnd at h2
  have hl : t - i < ((s.data.toList.drop i).takeWhile isAz).length := by omega
  have hm := List.all_eq_true.1 (List.all_takeWhile (p := isAz) (l := s.data.toList.drop i)) _ (List.getElem_mem hl)
  have he : ((s.data.toList.drop i).takeWhile isAz)[t - i] = s[t] := by
    have hp := List.IsPrefix.getElem (List.takeWhile_prefix (l := s.data.toList.drop i) isAz) hl
    rw [hp, List.getElem_drop]
    have e2 : i + (t - i) = t := by omega
    simp only [e2]; rfl
  rw [he] at hm
  exact hm
theorem azEnd_stop {s : ByteArray} {i : Nat} (hi : i ≤ s.size) (h : azEnd s i < s.size) : isAz s[azEnd s i] = false := by
  cases hb : isAz s[azEnd s i]
  · rfl
  · exfalso
    have h2 : azEnd s i = azEnd s i + 0 := rfl
    have key : ∀ l : List UInt8, ∀ hl : (l.takeWhile isAz).length < l.length, isAz l[(l.takeWhile isAz).length] = false := by
      intro l
      induction l with
      | nil => intro hl; simp at hl
      | cons x r ih =>
        intro hl
        cases hx : isAz x
        · simp [hx]
        · simp only [List.takeWhile_cons, hx, if_true, List.length_cons] at hl ⊢
          have := ih (by omega)
          simpa using this
    have hlen : ((s.data.toList.drop i).takeWhile isAz).length < (s.data.toList.drop i).length := by
      rw [List.length_drop, dl_length]; unfold azEnd at h; omega
    have := key _ hlen
    rw [List.getElem_drop] at this
    have e3 : s[azEnd s i] = s.data.toList[i + ((s.data.toList.drop i).takeWhile isAz).length]'(by rw [dl_length]; exact h) := rfl
    rw [e3] at hb
    rw [hb] at this; cases this

set_option maxRecDepth 100000 in
set_option maxHeartbeats 8000000 in
theorem Parse02_any (fp lp : Option Addr) (fc lc : Nat) (A : Alpha) (s : ByteArray) (hs : s.size ≤ 140737488351232) (w : World) (hA : AlphaAt w fp lp A) :
    Calls Tryd.prog 34 #[.agg #[.slice fp A.feats.length fc, .slice lp A.lets.length lc], .string s] w fun e w' => e = .returned (.tuple #[.int .u32 ((parseR A s).1 : Nat), .int .u32 ((parseR A s).2.1 : Nat), .int .i64 ((parseR A s).2.2.1 : Nat), .int .i64 (parseR A s).2.2.2]) ∧ Ext w w' := by
  have hx3 : Ext w (w.alloc (.cells #[.slice fp A.feats.length fc, .slice lp A.lets.length lc] 26)) := (Ext.refl _).alloc _
  have hfb := hA.fbig
  have HK := asked_any fp lp none fc lc 0 A [] _ (hA.mono hx3) (RunesAt.nil _)
  rw [asked_nil] at HK
  by_cases hok : A.Ok
  · rw [if_pos hok] at HK
    by_cases h1 : s.size ≤ 65536
    · obtain ⟨R, hR⟩ : ∃ R, parseGo A s s.size 0 0 0 = R := ⟨_, rfl⟩
      have hPR : parseR A s = R := by unfold parseR; rw [if_pos hok, if_pos h1, hR]
      rw [hPR]
      go_enter Tryd.func34, Tryd.ntmps34
      go_wp2_with (first | (go_at_call 46; refine HK.mono ?_; rintro e w1 ⟨rfl, hx1⟩))
      go_loopw [9, 10, 11] (fun p m a wr => ∃ P M i f : Nat, i ≤ s.size ∧ Hid (s.size ≤ i + f ∧ parseGo A s f i P M = R ∧ mayB A.feats.length P M = true) ∧ p = .int .u32 P ∧ m = .int .u32 M ∧ a = .int .i64 i ∧ Ext (w.alloc (.cells #[.slice fp A.feats.length fc, .slice lp A.lets.length lc] 26)) wr) (fun _ _ a _ => s.size - (intOf a).toNat)
      case atStart => exact ⟨0, 0, 0, s.size, Nat.zero_le _, ⟨by omega, hR, may_zero _⟩, rfl, rfl, rfl, hx1⟩
      case round =>
        clear hx1
        obtain ⟨P, M, i, f, hi, HH, rfl, rfl, rfl, hx⟩ := hrel
        have hs1 := hx.lt0; have d0 := hx.cell0 0; have d1 := hx.cell0 1; simp at d0 d1
        by_cases hlt : i < s.size
        · have hc8 := s[i].toNat_lt
          have hby := byteAt_eq hlt
          have HI := Lib.hid (fun (W : World) (hW : Ext wr W) t => named02_any fp lp fc lc A t W (hA.mono (hx.box.trans hW)))
          have haz1 := azEnd_ge s (i + 1)
          have haz2 := azEnd_le (s := s) (i := i + 1) (by omega)
          have HAI := Lib.hid (fun t (ht : t < s.size) h1 h2 => azEnd_in (i := i + 1) (t := t) ht h1 h2)
          have HAS := Lib.hid (fun h => azEnd_stop (s := s) (i := i + 1) (by omega) h)
          obtain ⟨f', rfl⟩ : ∃ f', f = f' + 1 := ⟨f - 1, by have := HH.out.1; omega⟩
          have H1 := HH.out.1
          have H2 := HH.out.2.1
          have H3 := HH.out.2.2
          clear HH
          rw [parseGo, if_pos hlt, hby] at H2
          have hPM : P < 16777216 ∧ M < 16777216 := by have := pow24 hok.1; unfold mayB at H3; simp only [decide_eq_true_eq] at H3; omega
          have hP32 : P < 4294967296 := by omega
          have hM32 : M < 4294967296 := by omega
          have H3 := Lib.hid H3
          have hPM32 : P ||| M < 4294967296 := Nat.or_lt_two_pow (n := 32) (by omega) (by omega)
          have HBIT := Lib.hid (fun k (hk : k < 24) => bit_and (p := P ||| M) (k := k) hPM32 hk)
          clear hPM
          have H2' := Lib.hid H2
          clear H2
          have HKN := Lib.hid (fun (k : Nat) (h : namedI A (s.extract (i + 1) (azEnd s (i + 1))) = (k : Int)) => (by rcases namedI_cases A (s.extract (i + 1) (azEnd s (i + 1))) with ⟨k', hk', hn', _⟩ | hn' <;> omega : k < A.feats.length))
          generalize hN : namedI A (s.extract (i + 1) (azEnd s (i + 1))) = nn at *
          have HN := Lib.hid hN
          clear hN
          generalize azEnd s (i + 1) = e at *
          go_wp2_with fail
          go_loop [12] (fun x => ∃ j : Nat, i + 1 ≤ j ∧ j ≤ e ∧ x = .int .i64 j) (fun x => s.size - (intOf x).toNat)
          case atStart => exact ⟨i + 1, Nat.le_refl _, haz1, rfl⟩
          case round =>
            obtain ⟨j, hj1, hj2, rfl⟩ := hrel
            by_cases hje : j < e
            · have haz := HAI.out j (by omega) hj1 hje
              have haz' : 97 ≤ s[j].toNat ∧ s[j].toNat ≤ 122 := by unfold isAz at haz; simpa using haz
              obtain ⟨z1, z2⟩ := haz'
              clear haz
              go_wp2_with fail
              exact ⟨⟨j + 1, by omega, by omega, by go_num⟩, by simp [intOf]; omega⟩
            · have hj3 : j = e := by omega
              subst hj3
              clear HAI hje hj2
              by_cases hjs : j < s.size
              · have haz := HAS.out hjs
                by_cases z1 : s[j].toNat < 97
                · clear haz HAS
                  go_wp2_with fail
                  (refine wp_region_ext (by kernel_rfl) (by kernel_rfl) ?_; intro ι hι g hg; have q_d0 := hg.cell d0; have q_d1 := hg.cell d1; clear d0 d1; (repeat (go_big_quiet_step ((go_at_call 59; exact hg.call (HI.out _ (hg.ext _) _))))); refine wpQuiet_nil ?_; rintro w5 ⟨i2, rfl⟩; have hq := hg.ext i2; generalize g i2 = w5 at hq ⊢; clear q_d0 q_d1 i2 hg g hι ι)
                  rw [HN.out]
                  clear HI HN
                  by_cases hsg : s[i].toNat = 43 ∨ s[i].toNat = 45
                  · by_cases hneg : nn < 0
                    · have HRR := H2'.out
                      rw [if_neg (fun h => by have := h.2.1; omega)] at HRR
                      have HRR := Lib.hid HRR.symm
                      have hd : decide (nn < 0) = true := by simp; omega
                      by_cases h43 : s[i].toNat = 43
                      · clear hsg
                        go_wp2_with fail
                        refine bodyPost_ret (v := .tuple #[.int .u32 0, .int .u32 0, .int .i64 i, .int .i64 20]) (by simp [results, Tryd.results34]) rfl ⟨by rw [HRR.out]; rfl, (hx.trans hq).box⟩
                      · have h45 : s[i].toNat = 45 := by omega
                        clear hsg h43
                        go_wp2_with fail
                        refine bodyPost_ret (v := .tuple #[.int .u32 0, .int .u32 0, .int .i64 i, .int .i64 20]) (by simp [results, Tryd.results34]) rfl ⟨by rw [HRR.out]; rfl, (hx.trans hq).box⟩
                    · obtain ⟨k, rfl⟩ : ∃ k : Nat, nn = (k : Int) := ⟨nn.toNat, by omega⟩
                      have hk := HKN.out k rfl
                      have h24 : k < 24 := by have := hok.1; omega
                      have hb0 := HBIT.out k h24
                      have hpos : ((2 ^ k : Nat) : Int) ≠ 0 := by have := Nat.two_pow_pos k; omega
                      have HRR := H2'.out
                      rw [Int.toNat_natCast] at HRR
                      clear H2'
                      cases hb : (P ||| M).testBit k
                      · rw [if_pos ⟨hsg, by omega, hb⟩] at HRR
                        rw [hb] at hb0
                        have g3 : (bits BinOp.and IntKind.u32 (bits BinOp.or IntKind.u32 (P : Int) (M : Int)) (2 ^ k % 4294967296) != 0) = false := by rw [u32_or_nat P M hP32 hM32, hb0]; rfl
                        have hmo := may_or H3.out hk hb
                        have h2k : 2 ^ k < 4294967296 := by
                          have h5 : 2 ^ k < 2 ^ 24 := Nat.pow_lt_pow_right (by omega) h24
                          have e5 : (2 : Nat) ^ 24 = 16777216 := by decide
                          omega
                        have EP := Lib.hid (show bits BinOp.or IntKind.u32 (P : Int) (2 ^ k % 4294967296) = ((P ||| 2 ^ k : Nat) : Int) by rw [bit_wrap h24, u32_or_nat _ _ hP32 h2k])
                        have EM := Lib.hid (show bits BinOp.or IntKind.u32 (M : Int) (2 ^ k % 4294967296) = ((M ||| 2 ^ k : Nat) : Int) by rw [bit_wrap h24, u32_or_nat _ _ hM32 h2k])
                        clear hb0
                        by_cases h43 : s[i].toNat = 43
                        · rw [if_pos h43] at HRR
                          have HRR := Lib.hid HRR
                          clear hsg
                          go_wp2_with fail
                          exact ⟨⟨P ||| 2 ^ k, M, j, f', haz2, ⟨by omega, HRR.out, hmo.1⟩, by rw [EP.out], rfl, rfl, hx.trans hq⟩, by simp [intOf]; omega⟩
                        · rw [if_neg h43] at HRR
                          have HRR := Lib.hid HRR
                          have h45 : s[i].toNat = 45 := by omega
                          clear hsg h43
                          go_wp2_with fail
                          exact ⟨⟨P, M ||| 2 ^ k, j, f', haz2, ⟨by omega, HRR.out, hmo.2⟩, rfl, by rw [EM.out], rfl, hx.trans hq⟩, by simp [intOf]; omega⟩
                      · rw [if_neg (fun h => by have := h.2.2; rw [hb] at this; cases this)] at HRR
                        rw [hb] at hb0
                        have HRR := Lib.hid HRR.symm
                        have g3 : (bits BinOp.and IntKind.u32 (bits BinOp.or IntKind.u32 (P : Int) (M : Int)) (2 ^ k % 4294967296) != 0) = true := by rw [u32_or_nat P M hP32 hM32, hb0, bne_iff_ne]; exact hpos
                        clear hb0
                        by_cases h43 : s[i].toNat = 43
                        · clear hsg
                          go_wp2_with fail
                          refine bodyPost_ret (v := .tuple #[.int .u32 0, .int .u32 0, .int .i64 i, .int .i64 20]) (by simp [results, Tryd.results34]) rfl ⟨by rw [HRR.out]; rfl, (hx.trans hq).box⟩
                        · have h45 : s[i].toNat = 45 := by omega
                          clear hsg h43
                          go_wp2_with fail
                          refine bodyPost_ret (v := .tuple #[.int .u32 0, .int .u32 0, .int .i64 i, .int .i64 20]) (by simp [results, Tryd.results34]) rfl ⟨by rw [HRR.out]; rfl, (hx.trans hq).box⟩
                  · have HRR := H2'.out
                    rw [if_neg (fun h => hsg h.1)] at HRR
                    have HRR := Lib.hid HRR.symm
                    have k1 : ((s[i].toNat : Int) != 43) = true := by rw [bne_iff_ne]; omega
                    have k2 : ((s[i].toNat : Int) != 45) = true := by rw [bne_iff_ne]; omega
                    clear hsg
                    go_wp2_with fail
                    refine bodyPost_ret (v := .tuple #[.int .u32 0, .int .u32 0, .int .i64 i, .int .i64 20]) (by simp [results, Tryd.results34]) rfl ⟨by rw [HRR.out]; rfl, (hx.trans hq).box⟩
                · have z2 : 122 < s[j].toNat := by unfold isAz at haz; simp at haz; omega
                  clear haz HAS
                  go_wp2_with fail
                  (refine wp_region_ext (by kernel_rfl) (by kernel_rfl) ?_; intro ι hι g hg; have q_d0 := hg.cell d0; have q_d1 := hg.cell d1; clear d0 d1; (repeat (go_big_quiet_step ((go_at_call 59; exact hg.call (HI.out _ (hg.ext _) _))))); refine wpQuiet_nil ?_; rintro w5 ⟨i2, rfl⟩; have hq := hg.ext i2; generalize g i2 = w5 at hq ⊢; clear q_d0 q_d1 i2 hg g hι ι)
                  rw [HN.out]
                  clear HI HN
                  by_cases hsg : s[i].toNat = 43 ∨ s[i].toNat = 45
                  · by_cases hneg : nn < 0
                    · have HRR := H2'.out
                      rw [if_neg (fun h => by have := h.2.1; omega)] at HRR
                      have HRR := Lib.hid HRR.symm
                      have hd : decide (nn < 0) = true := by simp; omega
                      by_cases h43 : s[i].toNat = 43
                      · clear hsg
                        go_wp2_with fail
                        refine bodyPost_ret (v := .tuple #[.int .u32 0, .int .u32 0, .int .i64 i, .int .i64 20]) (by simp [results, Tryd.results34]) rfl ⟨by rw [HRR.out]; rfl, (hx.trans hq).box⟩
                      · have h45 : s[i].toNat = 45 := by omega
                        clear hsg h43
                        go_wp2_with fail
                        refine bodyPost_ret (v := .tuple #[.int .u32 0, .int .u32 0, .int .i64 i, .int .i64 20]) (by simp [results, Tryd.results34]) rfl ⟨by rw [HRR.out]; rfl, (hx.trans hq).box⟩
                    · obtain ⟨k, rfl⟩ : ∃ k : Nat, nn = (k : Int) := ⟨nn.toNat, by omega⟩
                      have hk := HKN.out k rfl
                      have h24 : k < 24 := by have := hok.1; omega
                      have hb0 := HBIT.out k h24
                      have hpos : ((2 ^ k : Nat) : Int) ≠ 0 := by have := Nat.two_pow_pos k; omega
                      have HRR := H2'.out
                      rw [Int.toNat_natCast] at HRR
                      clear H2'
                      cases hb : (P ||| M).testBit k
                      · rw [if_pos ⟨hsg, by omega, hb⟩] at HRR
                        rw [hb] at hb0
                        have g3 : (bits BinOp.and IntKind.u32 (bits BinOp.or IntKind.u32 (P : Int) (M : Int)) (2 ^ k % 4294967296) != 0) = false := by rw [u32_or_nat P M hP32 hM32, hb0]; rfl
                        have hmo := may_or H3.out hk hb
                        have h2k : 2 ^ k < 4294967296 := by
                          have h5 : 2 ^ k < 2 ^ 24 := Nat.pow_lt_pow_right (by omega) h24
                          have e5 : (2 : Nat) ^ 24 = 16777216 := by decide
                          omega
                        have EP := Lib.hid (show bits BinOp.or IntKind.u32 (P : Int) (2 ^ k % 4294967296) = ((P ||| 2 ^ k : Nat) : Int) by rw [bit_wrap h24, u32_or_nat _ _ hP32 h2k])
                        have EM := Lib.hid (show bits BinOp.or IntKind.u32 (M : Int) (2 ^ k % 4294967296) = ((M ||| 2 ^ k : Nat) : Int) by rw [bit_wrap h24, u32_or_nat _ _ hM32 h2k])
                        clear hb0
                        by_cases h43 : s[i].toNat = 43
                        · rw [if_pos h43] at HRR
                          have HRR := Lib.hid HRR
                          clear hsg
                          go_wp2_with fail
                          exact ⟨⟨P ||| 2 ^ k, M, j, f', haz2, ⟨by omega, HRR.out, hmo.1⟩, by rw [EP.out], rfl, rfl, hx.trans hq⟩, by simp [intOf]; omega⟩
                        · rw [if_neg h43] at HRR
                          have HRR := Lib.hid HRR
                          have h45 : s[i].toNat = 45 := by omega
                          clear hsg h43
                          go_wp2_with fail
                          exact ⟨⟨P, M ||| 2 ^ k, j, f', haz2, ⟨by omega, HRR.out, hmo.2⟩, rfl, by rw [EM.out], rfl, hx.trans hq⟩, by simp [intOf]; omega⟩
                      · rw [if_neg (fun h => by have := h.2.2; rw [hb] at this; cases this)] at HRR
                        rw [hb] at hb0
                        have HRR := Lib.hid HRR.symm
                        have g3 : (bits BinOp.and IntKind.u32 (bits BinOp.or IntKind.u32 (P : Int) (M : Int)) (2 ^ k % 4294967296) != 0) = true := by rw [u32_or_nat P M hP32 hM32, hb0, bne_iff_ne]; exact hpos
                        clear hb0
                        by_cases h43 : s[i].toNat = 43
                        · clear hsg
                          go_wp2_with fail
                          refine bodyPost_ret (v := .tuple #[.int .u32 0, .int .u32 0, .int .i64 i, .int .i64 20]) (by simp [results, Tryd.results34]) rfl ⟨by rw [HRR.out]; rfl, (hx.trans hq).box⟩
                        · have h45 : s[i].toNat = 45 := by omega
                          clear hsg h43
                          go_wp2_with fail
                          refine bodyPost_ret (v := .tuple #[.int .u32 0, .int .u32 0, .int .i64 i, .int .i64 20]) (by simp [results, Tryd.results34]) rfl ⟨by rw [HRR.out]; rfl, (hx.trans hq).box⟩
                  · have HRR := H2'.out
                    rw [if_neg (fun h => hsg h.1)] at HRR
                    have HRR := Lib.hid HRR.symm
                    have k1 : ((s[i].toNat : Int) != 43) = true := by rw [bne_iff_ne]; omega
                    have k2 : ((s[i].toNat : Int) != 45) = true := by rw [bne_iff_ne]; omega
                    clear hsg
                    go_wp2_with fail
                    refine bodyPost_ret (v := .tuple #[.int .u32 0, .int .u32 0, .int .i64 i, .int .i64 20]) (by simp [results, Tryd.results34]) rfl ⟨by rw [HRR.out]; rfl, (hx.trans hq).box⟩
              · clear HAS
                go_wp2_with fail
                (refine wp_region_ext (by kernel_rfl) (by kernel_rfl) ?_; intro ι hι g hg; have q_d0 := hg.cell d0; have q_d1 := hg.cell d1; clear d0 d1; (repeat (go_big_quiet_step ((go_at_call 59; exact hg.call (HI.out _ (hg.ext _) _))))); refine wpQuiet_nil ?_; rintro w5 ⟨i2, rfl⟩; have hq := hg.ext i2; generalize g i2 = w5 at hq ⊢; clear q_d0 q_d1 i2 hg g hι ι)
                rw [HN.out]
                clear HI HN
                by_cases hsg : s[i].toNat = 43 ∨ s[i].toNat = 45
                · by_cases hneg : nn < 0
                  · have HRR := H2'.out
                    rw [if_neg (fun h => by have := h.2.1; omega)] at HRR
                    have HRR := Lib.hid HRR.symm
                    have hd : decide (nn < 0) = true := by simp; omega
                    by_cases h43 : s[i].toNat = 43
                    · clear hsg
                      go_wp2_with fail
                      refine bodyPost_ret (v := .tuple #[.int .u32 0, .int .u32 0, .int .i64 i, .int .i64 20]) (by simp [results, Tryd.results34]) rfl ⟨by rw [HRR.out]; rfl, (hx.trans hq).box⟩
                    · have h45 : s[i].toNat = 45 := by omega
                      clear hsg h43
                      go_wp2_with fail
                      refine bodyPost_ret (v := .tuple #[.int .u32 0, .int .u32 0, .int .i64 i, .int .i64 20]) (by simp [results, Tryd.results34]) rfl ⟨by rw [HRR.out]; rfl, (hx.trans hq).box⟩
                  · obtain ⟨k, rfl⟩ : ∃ k : Nat, nn = (k : Int) := ⟨nn.toNat, by omega⟩
                    have hk := HKN.out k rfl
                    have h24 : k < 24 := by have := hok.1; omega
                    have hb0 := HBIT.out k h24
                    have hpos : ((2 ^ k : Nat) : Int) ≠ 0 := by have := Nat.two_pow_pos k; omega
                    have HRR := H2'.out
                    rw [Int.toNat_natCast] at HRR
                    clear H2'
                    cases hb : (P ||| M).testBit k
                    · rw [if_pos ⟨hsg, by omega, hb⟩] at HRR
                      rw [hb] at hb0
                      have g3 : (bits BinOp.and IntKind.u32 (bits BinOp.or IntKind.u32 (P : Int) (M : Int)) (2 ^ k % 4294967296) != 0) = false := by rw [u32_or_nat P M hP32 hM32, hb0]; rfl
                      have hmo := may_or H3.out hk hb
                      have h2k : 2 ^ k < 4294967296 := by
                        have h5 : 2 ^ k < 2 ^ 24 := Nat.pow_lt_pow_right (by omega) h24
                        have e5 : (2 : Nat) ^ 24 = 16777216 := by decide
                        omega
                      have EP := Lib.hid (show bits BinOp.or IntKind.u32 (P : Int) (2 ^ k % 4294967296) = ((P ||| 2 ^ k : Nat) : Int) by rw [bit_wrap h24, u32_or_nat _ _ hP32 h2k])
                      have EM := Lib.hid (show bits BinOp.or IntKind.u32 (M : Int) (2 ^ k % 4294967296) = ((M ||| 2 ^ k : Nat) : Int) by rw [bit_wrap h24, u32_or_nat _ _ hM32 h2k])
                      clear hb0
                      by_cases h43 : s[i].toNat = 43
                      · rw [if_pos h43] at HRR
                        have HRR := Lib.hid HRR
                        clear hsg
                        go_wp2_with fail
                        exact ⟨⟨P ||| 2 ^ k, M, j, f', haz2, ⟨by omega, HRR.out, hmo.1⟩, by rw [EP.out], rfl, rfl, hx.trans hq⟩, by simp [intOf]; omega⟩
                      · rw [if_neg h43] at HRR
                        have HRR := Lib.hid HRR
                        have h45 : s[i].toNat = 45 := by omega
                        clear hsg h43
                        go_wp2_with fail
                        exact ⟨⟨P, M ||| 2 ^ k, j, f', haz2, ⟨by omega, HRR.out, hmo.2⟩, rfl, by rw [EM.out], rfl, hx.trans hq⟩, by simp [intOf]; omega⟩
                    · rw [if_neg (fun h => by have := h.2.2; rw [hb] at this; cases this)] at HRR
                      rw [hb] at hb0
                      have HRR := Lib.hid HRR.symm
                      have g3 : (bits BinOp.and IntKind.u32 (bits BinOp.or IntKind.u32 (P : Int) (M : Int)) (2 ^ k % 4294967296) != 0) = true := by rw [u32_or_nat P M hP32 hM32, hb0, bne_iff_ne]; exact hpos
                      clear hb0
                      by_cases h43 : s[i].toNat = 43
                      · clear hsg
                        go_wp2_with fail
                        refine bodyPost_ret (v := .tuple #[.int .u32 0, .int .u32 0, .int .i64 i, .int .i64 20]) (by simp [results, Tryd.results34]) rfl ⟨by rw [HRR.out]; rfl, (hx.trans hq).box⟩
                      · have h45 : s[i].toNat = 45 := by omega
                        clear hsg h43
                        go_wp2_with fail
                        refine bodyPost_ret (v := .tuple #[.int .u32 0, .int .u32 0, .int .i64 i, .int .i64 20]) (by simp [results, Tryd.results34]) rfl ⟨by rw [HRR.out]; rfl, (hx.trans hq).box⟩
                · have HRR := H2'.out
                  rw [if_neg (fun h => hsg h.1)] at HRR
                  have HRR := Lib.hid HRR.symm
                  have k1 : ((s[i].toNat : Int) != 43) = true := by rw [bne_iff_ne]; omega
                  have k2 : ((s[i].toNat : Int) != 45) = true := by rw [bne_iff_ne]; omega
                  clear hsg
                  go_wp2_with fail
                  refine bodyPost_ret (v := .tuple #[.int .u32 0, .int .u32 0, .int .i64 i, .int .i64 20]) (by simp [results, Tryd.results34]) rfl ⟨by rw [HRR.out]; rfl, (hx.trans hq).box⟩
        · have HRR : R = (P, M, 0, 0) := by
            have H2 := HH.out.2.1
            cases f with
            | zero => exact H2.symm
            | succ f => rw [parseGo, if_neg hlt] at H2; exact H2.symm
          have HRR := Lib.hid HRR
          go_wp2_with fail
          refine bodyPost_ret (v := .tuple #[.int .u32 P, .int .u32 M, .int .i64 0, .int .i64 0]) (by simp [results, Tryd.results34]) rfl ⟨by rw [HRR.out]; rfl, hx.box⟩
    · have hPR : parseR A s = (0, 0, 0, 3) := by unfold parseR; rw [if_pos hok, if_neg h1]
      rw [hPR]
      go_enter Tryd.func34, Tryd.ntmps34
      go_wp2_with (first | (go_at_call 46; refine HK.mono ?_; rintro e w1 ⟨rfl, hx1⟩))
      refine bodyPost_ret (v := .tuple #[.int .u32 0, .int .u32 0, .int .i64 0, .int .i64 3]) (by simp [results, Tryd.results34]) rfl ⟨rfl, hx3.trans hx1⟩
  · rw [if_neg hok] at HK
    have hPR : parseR A s = (0, 0, 0, 7) := by unfold parseR; rw [if_neg hok]
    rw [hPR]
    go_enter Tryd.func34, Tryd.ntmps34
    go_wp2_with (first | (go_at_call 46; refine HK.mono ?_; rintro e w1 ⟨rfl, hx1⟩))
    refine bodyPost_ret (v := .tuple #[.int .u32 0, .int .u32 0, .int .i64 0, .int .i64 7]) (by simp [results, Tryd.results34]) rfl ⟨rfl, hx3.trans hx1⟩
end Go.Proofs.YtppbjeipfopehaaDoor
