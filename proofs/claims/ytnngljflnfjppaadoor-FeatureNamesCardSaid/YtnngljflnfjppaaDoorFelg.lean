/- Contract of feature.Parse. -/
import Derived.Test.YtnngljflnfjppaaDoorFelf
namespace Go.Cg
open Go.RowKit Go.Maps Go.ChangeMaps Go.MapKept

/-- a store in a map's literal, for the walk -/
theorem wpList_insert_fn {P : Program} (w : World) {ops : Array Oper} {rest : List Oper} {o : Oper} {a : Act} {Q : Exit → Act → World → Prop}
    (hg : o.guard = none) (m x v : Operand) (t : TypeId) (hop : o.op = Op.insert t m x v)
    (K E : TypeId) (b n : Nat) (f : Lit → Option Lit) (h : MapFn P w K E b n f) (hK : Keyed P K) (ht : P.underlying t = some (.map K E)) (hn : n < maxLen)
    (hm : a.eval m = .map (some b)) (key val : Value) (kl vl : Lit) (hx : a.eval x = key) (hv : a.eval v = val) (hkey : keyOf P K key = some kl) (hval : plainElem (H := Unit) P E val = some (.lit vl, []))
    (hC : ∀ w', MapFn P w' K E b (n + 1) (putFn f kl vl) → w.grownBy w' (some b) → w'.heap.size = w.heap.size → wpList P ops Q rest (a.put o.dst undef) w') :
    wpList P ops Q (o :: rest) a w := by
  refine wpList_plain hg fun K' hK' => ?_
  obtain ⟨w', hrun, r1, r2, r3⟩ := h.store hK ht hn hkey hval
  unfold Oper.wp
  simp [execOp, hop, hm, hx, hv, hrun, Result.andThen]
  exact hK' _ _ (hC w' r1 r2 r3)

theorem dl_drop_az (s : ByteArray) {i : Nat} (hi : i ≤ s.size) : ((s.data.toList.drop i).dropWhile isAz).length + azEnd s i = s.size := by
  have h := congrArg List.length (List.takeWhile_append_dropWhile (p := isAz) (l := s.data.toList.drop i))
  rw [List.length_append, List.length_drop, dl_length] at h
  unfold azEnd
  omega
end Go.Cg
namespace Go.Proofs.YtnngljflnfjppaaDoor
open Go.RowKit Go.Cg Go.Shelf Go.Maps Go.ChangeMaps Go.MapKept

def azB : ByteArray := ⟨#[97, 98, 99, 100, 101, 102, 103, 104, 105, 106, 107, 108, 109, 110, 111, 112, 113, 114, 115, 116, 117, 118, 119, 120, 121, 122]⟩
/-- the rest behind a row of small letters -/
theorem trimLeft_any (s : ByteArray) {i : Nat} (hi : i ≤ s.size) (w : World) :
    Calls Tryd.prog 66 #[.string (s.extract i s.size), .string azB] w fun e w' => (∃ r : ByteArray, e = .returned (.string r) ∧ r.size + azEnd s i = s.size) ∧ Ext w w' := by
  have h := Any.strings_TrimLeft_laid Tryd.lays161 (by kernel_rfl) (s.extract i s.size) azB w (by decide) (ascii_of_all (by decide))
  refine Calls.mono (P := Tryd.prog) (f := 66) h ?_
  rintro e w' ⟨rfl, hx⟩
  refine ⟨⟨_, rfl, ?_⟩, hx⟩
  have e1 : azB.data.toList = azs := rfl
  have e2 : (s.extract i s.size).data.toList = s.data.toList.drop i := by
    rw [dl_extract, List.take_of_length_le (by rw [List.length_drop, dl_length]; omega)]
  rw [e1, e2]
  have e3 : Lib.trimLeftS (s.data.toList.drop i) azs = (s.data.toList.drop i).dropWhile isAz := by
    unfold Lib.trimLeftS
    congr 1
    funext c; exact azs_contains c
  rw [e3, ← dl_drop_az s hi]
  rfl

def signsF : Lit → Option Lit := putFn (putFn (fun _ => none) (.int .i32 43) (.bool true)) (.int .i32 45) (.bool false)
theorem signsF_get (r : Int) : (signsF (.int .i32 r)).getD (.bool false) = .bool (r == 43) ∧ (signsF (.int .i32 r)).isSome = (r == 43 || r == 45) := by
  unfold signsF putFn
  have hs : ∀ c : Int, (Lit.int .i32 r).sameKey (.int .i32 c) = (r == c) := fun c => by
    by_cases h : r = c
    · subst h; rw [WideAt.sameKey_self (lit_int_key _ _)]; simp
    · have : (Lit.int .i32 r).sameKey (.int .i32 c) = false := by
        cases hb : (Lit.int .i32 r).sameKey (.int .i32 c)
        · rfl
        · have := WideAt.sameKey_eq hb; simp at this; exact absurd this h
      rw [this]; simp [h]
  rw [hs, hs]
  by_cases h45 : r = 45
  · subst h45; exact ⟨rfl, rfl⟩
  · have e45 : (r == 45) = false := by simpa using h45
    rw [e45]
    by_cases h43 : r = 43
    · subst h43; exact ⟨rfl, rfl⟩
    · have e43 : (r == 43) = false := by simpa using h43
      rw [e43]; exact ⟨rfl, rfl⟩

set_option maxRecDepth 100000 in
set_option maxHeartbeats 2000000 in
theorem parse_any (fp lp : Option Addr) (fc lc : Nat) (A : Alpha) (s : ByteArray) (hs : s.size ≤ 140737488351232) (w : World) (hA : AlphaAt w fp lp A) :
    Calls Tryd.prog 40 #[.agg #[.slice fp A.feats.length fc, .slice lp A.lets.length lc], .string s] w fun e w' => e = .returned (.tuple #[.int .u32 ((parseR A s).1 : Nat), .int .u32 ((parseR A s).2.1 : Nat), .int .i64 ((parseR A s).2.2.1 : Nat), .int .i64 (parseR A s).2.2.2]) ∧ Ext w w' := by
  have hx3 : Ext w (w.alloc (.cells #[.slice fp A.feats.length fc, .slice lp A.lets.length lc] 26)) := (Ext.refl _).alloc _
  have hfb := hA.fbig
  have hmm := @run_makeMap Tryd.prog
  by_cases hok : A.Ok
  · have hC := checkN_ok hok
    by_cases h1 : s.size ≤ 65536
    · obtain ⟨R, hR⟩ : ∃ R, parseGo A s s.size 0 0 0 = R := ⟨_, rfl⟩
      have hPR : parseR A s = R := by unfold parseR; rw [if_pos hok, if_pos h1, hR]
      rw [hPR]
      go_enter Tryd.func40, Tryd.ntmps40
      go_wp2_with (first | (go_at_call 10; refine (check_any _ _ _ _ _ _ (hA.mono hx3)).mono ?_; rintro e w1 ⟨rfl, hx1⟩; have hs1 := hx1.lt0; have d0 := hx1.cell0 0; have d1 := hx1.cell0 1; simp at d0 d1) | (refine wpList_insert_fn _ rfl _ _ _ 76 rfl 21 4 w1.heap.size 0 (fun _ => none) (MapFn.made Tryd.prog w1 _ _) lawR Tryd.underlying76 (by unfold maxLen; omega) rfl _ _ _ (.bool true) rfl rfl (keyR (by decide) (by decide)) (plainElem_bool Tryd.underlying4 true) ?_; intro w2 hM2 hg2 hs2) | (refine wpList_insert_fn _ rfl _ _ _ 76 rfl 21 4 w1.heap.size 1 _ hM2 lawR Tryd.underlying76 (by unfold maxLen; omega) rfl _ _ _ (.bool false) rfl rfl (keyR (by decide) (by decide)) (plainElem_bool Tryd.underlying4 false) ?_; intro w3 hM3 hg3 hs3))
      have hx2 : Ext (w.alloc (.cells #[.slice fp A.feats.length fc, .slice lp A.lets.length lc] 26)) w2 := (hx1.alloc _).grown hg2 (by rintro j ⟨⟩; simpa using hx1.le)
      have hxb : Ext (w.alloc (.cells #[.slice fp A.feats.length fc, .slice lp A.lets.length lc] 26)) w3 := hx2.grown hg3 (by rintro j ⟨⟩; simpa using hx1.le)
      clear d0 d1 hs1 hM2 hg2 hs2 hg3 hs3 hx2
      obtain ⟨B, hB⟩ : ∃ B, w1.heap.size = B := ⟨_, rfl⟩
      rw [hB] at hM3 ⊢
      clear hB hx1
      go_loopw [4, 5, 6] (fun p m a wr => ∃ P M i f : Nat, i ≤ s.size ∧ Hid (s.size ≤ i + f ∧ parseGo A s f i P M = R ∧ mayB A.feats.length P M = true) ∧ p = .int .u32 P ∧ m = .int .u32 M ∧ a = .int .i64 i ∧ Ext (w.alloc (.cells #[.slice fp A.feats.length fc, .slice lp A.lets.length lc] 26)) wr ∧ MapFn Tryd.prog wr 21 4 B 2 signsF) (fun _ _ a _ => s.size - (intOf a).toNat)
      case atStart => exact ⟨0, 0, 0, s.size, Nat.zero_le _, ⟨by omega, hR, may_zero _⟩, rfl, rfl, rfl, hxb, hM3⟩
      case round =>
        obtain ⟨P, M, i, f, hi, HH, rfl, rfl, rfl, hx, hM⟩ := hrel
        have hs1 := hx.lt0; have d0 := hx.cell0 0; have d1 := hx.cell0 1; simp at d0 d1
        by_cases hlt : i < s.size
        · have hc8 := s[i].toNat_lt
          have hby := byteAt_eq hlt
          have HL := Lib.hid (fun (W : World) (hW : Ext wr W) => (hM.ext hW).look_bool_ok lawR Tryd.underlying76 Tryd.underlying4 zBool (keyR (r := (s[i].toNat : Int)) (by omega) (by omega)) (signsF_get _).1)
          have HT := Lib.hid (fun W => trimLeft_any s (i := i + 1) (by omega) W)
          have hI := fun W (hW : Ext wr W) t => IndexS_any fp lp fc A t W (hA.mono (hx.box.trans hW))
          have HI := Lib.hid hI
          clear hI
          have haz1 := azEnd_ge s (i + 1)
          have haz2 := azEnd_le (s := s) (i := i + 1) (by omega)
          have hmapb := HL.out wr (Ext.refl _)
          rw [(signsF_get _).2] at hmapb
          obtain ⟨f', rfl⟩ : ∃ f', f = f' + 1 := ⟨f - 1, by have := HH.out.1; omega⟩
          have H1 := HH.out.1
          have H2 := HH.out.2.1
          have H3 := HH.out.2.2
          clear HH
          rw [parseGo, if_pos hlt, hby] at H2
          have hPM : P < 16777216 ∧ M < 16777216 := by have := pow24 hok.1; unfold mayB at H3; simp only [decide_eq_true_eq] at H3; omega
          have hP32 : P < 4294967296 := by omega
          have hM32 : M < 4294967296 := by omega
          have H3 := Lib.hid H3
          have hbit := fun k => bit_at (p := P ||| M) (k := k) (Nat.or_lt_two_pow (n := 32) (by omega) (by omega))
          have HBIT := Lib.hid hbit
          clear hbit hPM
          by_cases hsg : s[i].toNat = 43 ∨ s[i].toNat = 45
          · rcases namedI_cases A (s.extract (i + 1) (azEnd s (i + 1))) with ⟨k, hk, hn, _⟩ | hn
            · have h24 : k < 24 := by have := hok.1; omega
              rw [hn] at H2
              have HN := Lib.hid hn
              clear hn
              have HBW := Lib.hid (bit_wrap h24)
              have h2k : 2 ^ k < 4294967296 := by have : 2 ^ k < 2 ^ 24 := Nat.pow_lt_pow_right (by omega) h24
                                                  have e : (2 : Nat) ^ 24 = 16777216 := by decide
                                                  omega
              cases hb : (P ||| M).testBit k
              · have g3 : (bits BinOp.and IntKind.u32 (bits BinOp.or IntKind.u32 (P : Int) (M : Int) / 2 ^ k) 1 == 1) = false := by rw [u32_or_nat P M hP32 hM32, HBIT.out, hb]; rfl
                rw [if_pos ⟨hsg, by omega, by rw [Int.toNat_natCast]; exact hb⟩, Int.toNat_natCast] at H2
                have hmo := may_or H3.out hk hb
                have eP : bits BinOp.or IntKind.u32 (P : Int) (2 ^ k % 4294967296) = ((P ||| 2 ^ k : Nat) : Int) := by rw [HBW.out, u32_or_nat _ _ hP32 h2k]
                have eM : bits BinOp.or IntKind.u32 (M : Int) (2 ^ k % 4294967296) = ((M ||| 2 ^ k : Nat) : Int) := by rw [HBW.out, u32_or_nat _ _ hM32 h2k]
                have EP := Lib.hid eP
                have EM := Lib.hid eM
                clear eP eM
                by_cases h43 : s[i].toNat = 43
                · rw [if_pos h43] at H2
                  have HRR := Lib.hid H2
                  clear H2
                  have k1 : ((s[i].toNat : Int) == 43) = true := by rw [beq_iff_eq]; omega
                  have k2 : ((s[i].toNat : Int) == 45) = false := by rw [beq_eq_false_iff_ne]; omega
                  rw [k1, k2] at hmapb
                  clear k1 k2 h43 hsg
                  go_wp2_with (first | (go_at_call 66; refine (HT.out _).mono ?_; rintro e w4 ⟨⟨r, rfl, hr⟩, hx4⟩))
                  have hxc := hx.trans hx4
                  have e0 := hxc.cell0 0; have e1 := hxc.cell0 1; simp at e0 e1
                  have HI4 := Lib.hid (fun (W : World) (hW : Ext w4 W) t => HI.out W (hx4.trans hW) t)
                  have i1 : (i : Int) + 1 ≤ (s.size : Int) - (r.size : Int) := by omega
                  have i2 : (s.size : Int) - (r.size : Int) ≤ (s.size : Int) := by omega
                  have i3 : (0 : Int) ≤ (i : Int) + 1 := by omega
                  have i4 : (0 : Int) ≤ (s.size : Int) - (r.size : Int) := by omega
                  (refine wp_region_ext (by kernel_rfl) (by kernel_rfl) ?_; intro ι hι g hg; have q_e0 := hg.cell e0; have q_e1 := hg.cell e1; clear e0 e1; (repeat (go_big_quiet_step ((go_at_call 67; exact hg.call (HI4.out _ (hg.ext _) _))))); refine wpQuiet_nil ?_; rintro w5 ⟨i2, rfl⟩; have hq := hg.ext i2; generalize g i2 = w5 at hq ⊢; clear q_e0 q_e1 i2 hg g hι ι)
                  have hend : s.size - r.size = azEnd s (i + 1) := by omega
                  rw [hend]
                  rw [HN.out]
                  go_wp2_with fail
                  exact ⟨⟨P ||| 2 ^ k, M, azEnd s (i + 1), f', haz2, ⟨by omega, HRR.out, hmo.1⟩, by rw [EP.out], rfl, by congr 1; omega, hxc.trans hq, hM.ext (hx4.trans hq)⟩, by simp [intOf]; omega⟩
                · have h45 : s[i].toNat = 45 := by omega
                  rw [if_neg h43] at H2
                  have HRR := Lib.hid H2
                  clear H2
                  have k1 : ((s[i].toNat : Int) == 43) = false := by rw [beq_eq_false_iff_ne]; omega
                  have k2 : ((s[i].toNat : Int) == 45) = true := by rw [beq_iff_eq]; omega
                  rw [k1, k2] at hmapb
                  clear k1 k2 h43 h45 hsg
                  go_wp2_with (first | (go_at_call 66; refine (HT.out _).mono ?_; rintro e w4 ⟨⟨r, rfl, hr⟩, hx4⟩))
                  have hxc := hx.trans hx4
                  have e0 := hxc.cell0 0; have e1 := hxc.cell0 1; simp at e0 e1
                  have HI4 := Lib.hid (fun (W : World) (hW : Ext w4 W) t => HI.out W (hx4.trans hW) t)
                  have i1 : (i : Int) + 1 ≤ (s.size : Int) - (r.size : Int) := by omega
                  have i2 : (s.size : Int) - (r.size : Int) ≤ (s.size : Int) := by omega
                  have i3 : (0 : Int) ≤ (i : Int) + 1 := by omega
                  have i4 : (0 : Int) ≤ (s.size : Int) - (r.size : Int) := by omega
                  (refine wp_region_ext (by kernel_rfl) (by kernel_rfl) ?_; intro ι hι g hg; have q_e0 := hg.cell e0; have q_e1 := hg.cell e1; clear e0 e1; (repeat (go_big_quiet_step ((go_at_call 67; exact hg.call (HI4.out _ (hg.ext _) _))))); refine wpQuiet_nil ?_; rintro w5 ⟨i2, rfl⟩; have hq := hg.ext i2; generalize g i2 = w5 at hq ⊢; clear q_e0 q_e1 i2 hg g hι ι)
                  have hend : s.size - r.size = azEnd s (i + 1) := by omega
                  rw [hend]
                  rw [HN.out]
                  go_wp2_with fail
                  exact ⟨⟨P, M ||| 2 ^ k, azEnd s (i + 1), f', haz2, ⟨by omega, HRR.out, hmo.2⟩, rfl, by rw [EM.out], by congr 1; omega, hxc.trans hq, hM.ext (hx4.trans hq)⟩, by simp [intOf]; omega⟩
              · have g3 : (bits BinOp.and IntKind.u32 (bits BinOp.or IntKind.u32 (P : Int) (M : Int) / 2 ^ k) 1 == 1) = true := by rw [u32_or_nat P M hP32 hM32, HBIT.out, hb]; rfl
                rw [if_neg (fun h => by have := h.2.2; rw [Int.toNat_natCast, hb] at this; cases this)] at H2
                have HRR := Lib.hid H2.symm
                clear H2
                have hk3 : ((s[i].toNat : Int) == 43 || (s[i].toNat : Int) == 45) = true := by simp; omega
                rw [hk3] at hmapb
                generalize ((s[i].toNat : Int) == 43) = hs43 at hmapb
                go_wp2_with (first | (go_at_call 66; refine (HT.out _).mono ?_; rintro e w4 ⟨⟨r, rfl, hr⟩, hx4⟩))
                have hxc := hx.trans hx4
                have e0 := hxc.cell0 0; have e1 := hxc.cell0 1; simp at e0 e1
                have HI4 := Lib.hid (fun (W : World) (hW : Ext w4 W) t => HI.out W (hx4.trans hW) t)
                have i1 : (i : Int) + 1 ≤ (s.size : Int) - (r.size : Int) := by omega
                have i2 : (s.size : Int) - (r.size : Int) ≤ (s.size : Int) := by omega
                have i3 : (0 : Int) ≤ (i : Int) + 1 := by omega
                have i4 : (0 : Int) ≤ (s.size : Int) - (r.size : Int) := by omega
                (refine wp_region_ext (by kernel_rfl) (by kernel_rfl) ?_; intro ι hι g hg; have q_e0 := hg.cell e0; have q_e1 := hg.cell e1; clear e0 e1; (repeat (go_big_quiet_step ((go_at_call 67; exact hg.call (HI4.out _ (hg.ext _) _))))); refine wpQuiet_nil ?_; rintro w5 ⟨i2, rfl⟩; have hq := hg.ext i2; generalize g i2 = w5 at hq ⊢; clear q_e0 q_e1 i2 hg g hι ι)
                have hend : s.size - r.size = azEnd s (i + 1) := by omega
                rw [hend]
                rw [HN.out]
                go_wp2_with fail
                refine bodyPost_ret (v := .tuple #[.int .u32 0, .int .u32 0, .int .i64 i, .int .i64 20]) (by simp [results, Tryd.results40]) rfl ⟨by rw [HRR.out]; rfl, (hxc.trans hq).box⟩
            · rw [hn, if_neg (fun h => by have := h.2.1; omega)] at H2
              have HRR := Lib.hid H2.symm
              clear H2
              have HN := Lib.hid hn
              clear hn
              have hk3 : ((s[i].toNat : Int) == 43 || (s[i].toNat : Int) == 45) = true := by simp; omega
              rw [hk3] at hmapb
              generalize ((s[i].toNat : Int) == 43) = hs43 at hmapb
              go_wp2_with (first | (go_at_call 66; refine (HT.out _).mono ?_; rintro e w4 ⟨⟨r, rfl, hr⟩, hx4⟩))
              have hxc := hx.trans hx4
              have e0 := hxc.cell0 0; have e1 := hxc.cell0 1; simp at e0 e1
              have HI4 := Lib.hid (fun (W : World) (hW : Ext w4 W) t => HI.out W (hx4.trans hW) t)
              have i1 : (i : Int) + 1 ≤ (s.size : Int) - (r.size : Int) := by omega
              have i2 : (s.size : Int) - (r.size : Int) ≤ (s.size : Int) := by omega
              have i3 : (0 : Int) ≤ (i : Int) + 1 := by omega
              have i4 : (0 : Int) ≤ (s.size : Int) - (r.size : Int) := by omega
              (refine wp_region_ext (by kernel_rfl) (by kernel_rfl) ?_; intro ι hι g hg; have q_e0 := hg.cell e0; have q_e1 := hg.cell e1; clear e0 e1; (repeat (go_big_quiet_step ((go_at_call 67; exact hg.call (HI4.out _ (hg.ext _) _))))); refine wpQuiet_nil ?_; rintro w5 ⟨i2, rfl⟩; have hq := hg.ext i2; generalize g i2 = w5 at hq ⊢; clear q_e0 q_e1 i2 hg g hι ι)
              have hend : s.size - r.size = azEnd s (i + 1) := by omega
              rw [hend]
              rw [HN.out]
              go_wp2_with fail
              refine bodyPost_ret (v := .tuple #[.int .u32 0, .int .u32 0, .int .i64 i, .int .i64 20]) (by simp [results, Tryd.results40]) rfl ⟨by rw [HRR.out]; rfl, (hxc.trans hq).box⟩
          · rw [if_neg (fun h => hsg h.1)] at H2
            have HRR := Lib.hid H2.symm
            clear H2
            have k1 : ((s[i].toNat : Int) == 43) = false := by rw [beq_eq_false_iff_ne]; omega
            have k2 : ((s[i].toNat : Int) == 45) = false := by rw [beq_eq_false_iff_ne]; omega
            rw [k1, k2] at hmapb
            go_wp2_with (first | (go_at_call 66; refine (HT.out _).mono ?_; rintro e w4 ⟨⟨r, rfl, hr⟩, hx4⟩))
            have hxc := hx.trans hx4
            have e0 := hxc.cell0 0; have e1 := hxc.cell0 1; simp at e0 e1
            have HI4 := Lib.hid (fun (W : World) (hW : Ext w4 W) t => HI.out W (hx4.trans hW) t)
            have i1 : (i : Int) + 1 ≤ (s.size : Int) - (r.size : Int) := by omega
            have i2 : (s.size : Int) - (r.size : Int) ≤ (s.size : Int) := by omega
            have i3 : (0 : Int) ≤ (i : Int) + 1 := by omega
            have i4 : (0 : Int) ≤ (s.size : Int) - (r.size : Int) := by omega
            (refine wp_region_ext (by kernel_rfl) (by kernel_rfl) ?_; intro ι hι g hg; have q_e0 := hg.cell e0; have q_e1 := hg.cell e1; clear e0 e1; (repeat (go_big_quiet_step ((go_at_call 67; exact hg.call (HI4.out _ (hg.ext _) _))))); refine wpQuiet_nil ?_; rintro w5 ⟨i2, rfl⟩; have hq := hg.ext i2; generalize g i2 = w5 at hq ⊢; clear q_e0 q_e1 i2 hg g hι ι)
            have hend : s.size - r.size = azEnd s (i + 1) := by omega
            rw [hend]
            generalize namedI A (s.extract (i + 1) (azEnd s (i + 1))) = nn
            go_wp2_with fail
            refine bodyPost_ret (v := .tuple #[.int .u32 0, .int .u32 0, .int .i64 i, .int .i64 20]) (by simp [results, Tryd.results40]) rfl ⟨by rw [HRR.out]; rfl, (hxc.trans hq).box⟩
        · have HRR : R = (P, M, 0, 0) := by
            have H2 := HH.out.2.1
            cases f with
            | zero => exact H2.symm
            | succ f => rw [parseGo, if_neg hlt] at H2; exact H2.symm
          have HRR := Lib.hid HRR
          go_wp2_with fail
          refine bodyPost_ret (v := .tuple #[.int .u32 P, .int .u32 M, .int .i64 0, .int .i64 0]) (by simp [results, Tryd.results40]) rfl ⟨by rw [HRR.out]; rfl, hx.box⟩
    · have hPR : parseR A s = (0, 0, 0, 3) := by unfold parseR; rw [if_pos hok, if_neg h1]
      rw [hPR]
      go_enter Tryd.func40, Tryd.ntmps40
      go_wp2_with (first | (go_at_call 10; refine (check_any _ _ _ _ _ _ (hA.mono hx3)).mono ?_; rintro e w1 ⟨rfl, hx1⟩; have hs1 := hx1.lt0; have d0 := hx1.cell0 0; have d1 := hx1.cell0 1; simp at d0 d1))
      refine bodyPost_ret (v := .tuple #[.int .u32 0, .int .u32 0, .int .i64 0, .int .i64 3]) (by simp [results, Tryd.results40]) rfl ⟨rfl, hx3.trans hx1⟩
  · have hC := checkN_bad hok
    have hPR : parseR A s = (0, 0, 0, 7) := by unfold parseR; rw [if_neg hok]
    rw [hPR]
    go_enter Tryd.func40, Tryd.ntmps40
    go_wp2_with (first | (go_at_call 10; refine (check_any _ _ _ _ _ _ (hA.mono hx3)).mono ?_; rintro e w1 ⟨rfl, hx1⟩))
    refine bodyPost_ret (v := .tuple #[.int .u32 0, .int .u32 0, .int .i64 0, .int .i64 7]) (by simp [results, Tryd.results40]) rfl ⟨rfl, hx3.trans hx1⟩
end Go.Proofs.YtnngljflnfjppaaDoor
