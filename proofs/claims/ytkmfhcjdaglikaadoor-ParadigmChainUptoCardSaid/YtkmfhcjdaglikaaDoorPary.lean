/- Contract: cognatelaw17.long; the law ParadigmBack, walked. -/
import Derived.Test.YtkmfhcjdaglikaaDoorPamc
namespace Go.Cg
open Go.RowKit Go.Lib
theorem runesOf_rb : ∀ (l : List Int) (p s : ByteArray) (f : Nat), (∀ r ∈ l, runeOk r = true) → s = p ++ runesBytes l → s.size ≤ p.size + f → runesOf s f p.size = l
  | [], p, s, f, _, hs, _ => by
    have : s.size = p.size := by rw [hs, ByteArray.size_append, rb_nil]; rfl
    cases f with
    | zero => rfl
    | succ f => rw [runesOf, if_neg (by omega)]
  | r :: l, p, s, f, hl, hs, hf => by
    have hok := hl r (List.mem_cons_self ..)
    obtain ⟨h1, h2, h3, hv⟩ := runeOk_facts hok
    rw [rb_cons] at hs
    obtain ⟨hd, hz⟩ := rb_mid p (runesBytes l) l r hok s hs
    have hsz := enc_size_pos hok
    have hra : runeAt s p.size = r := by unfold runeAt; rw [hd]; show ((r.toNat : Nat) : Int) = r; omega
    obtain ⟨f, rfl⟩ : ∃ g, f = g + 1 := ⟨f - 1, by omega⟩
    have hsz2 : (p ++ Utf8.encode r).size = p.size + (Utf8.encode r).size := ByteArray.size_append ..
    have := runesOf_rb l (p ++ Utf8.encode r) s f (fun x hx => hl x (List.mem_cons_of_mem _ hx)) (by rw [hs, ByteArray.append_assoc]) (by omega)
    rw [hsz2] at this
    rw [runesOf, if_pos (by omega), hra, hd]
    show r :: runesOf s f (p.size + (Utf8.encode r).size) = _
    rw [this]
theorem strR_rb {A : Alpha} (hA : A.Ok) {l : List Int} (hl : InA A l) : strR (runesBytes l) = l := by
  have := runesOf_rb l ByteArray.empty (runesBytes l) (runesBytes l).size (fun r hr => letter_ok hA (hl r hr)) (by simp) (by omega)
  exact this
theorem runesOf_step {s : ByteArray} {f pos : Nat} (h : pos < s.size) : (runesOf s (f + 1) pos).length = (runesOf s f (pos + (Utf8.decode s pos).2)).length + 1 := by rw [runesOf, if_pos h]; rfl
theorem runesOf_end {s : ByteArray} {f pos : Nat} (h : ¬ pos < s.size) : (runesOf s f pos).length = 0 := by
  cases f with
  | zero => rfl
  | succ f => rw [runesOf, if_neg h]; rfl
end Go.Cg
namespace Go.Proofs.YtkmfhcjdaglikaaDoor
open Go.RowKit Go.Cg Go.Shelf Go.Maps

set_option maxRecDepth 100000 in
set_option maxHeartbeats 4000000 in
theorem long17_any (s : ByteArray) (hs : s.size ≤ 140737488351232) (w : World) :
    Calls Tryd.prog 18 #[.string s] w fun e w' => e = .returned (.int .i64 ((strR s).length : Int)) ∧ Ext w w' := by
  have hsl := strR_len s
  obtain ⟨N, hN⟩ : ∃ N, (strR s).length = N := ⟨_, rfl⟩
  have HN := Lib.hid hN
  rw [hN] at hsl ⊢
  clear hN
  go_enter Tryd.func18, Tryd.ntmps18
  go_wp2_with fail
  go_loopw [3] (fun nv wr => ∃ pos f m : Nat, nv = .int .i64 m ∧ Hid (m + (runesOf s f pos).length = N) ∧ m ≤ pos ∧ s.size ≤ pos + f ∧ pos ≤ s.size ∧ wr.heap[w.heap.size]? = some (.stringIter s pos) ∧ Ext w wr) (fun _ wr => s.size - wr.iterPos w.heap.size)
  case atStart => exact ⟨0, s.size, 0, rfl, by show 0 + _ = _; rw [Nat.zero_add]; exact HN.out, Nat.le_refl _, by omega, by omega, World.iter_heap w s 0, (Ext.refl _).alloc _⟩
  case round =>
    obtain ⟨pos, f, m, rfl, HM, hmp, hfu, hpl, hit, hx⟩ := hrel
    by_cases hp : pos < s.size
    · obtain ⟨f, rfl⟩ : ∃ g, f = g + 1 := ⟨f - 1, by omega⟩
      have hnx0 : ∀ ty, (Instr.next (.pointer (some ⟨w.heap.size, 0, none⟩)) true ty).run Tryd.prog wr = _ := fun ty => Lib.run_next_any_at wr w.heap.size s pos ty hit hp
      have hw1 := width_pos s pos hp
      have hw2 := width_le s pos hp
      have HM1 := Lib.hid (by have := HM.out; rw [runesOf_step hp] at this; omega : m + 1 + (runesOf s f (pos + (Utf8.decode s pos).2)).length = N)
      obtain ⟨W1, hW1⟩ : ∃ W1, wr.iterAt w.heap.size s (pos + (Utf8.decode s pos).2) = W1 := ⟨_, rfl⟩
      have hit1 := Lib.iterAt_heap wr w.heap.size s pos (pos + (Utf8.decode s pos).2) hit
      have hxw := hx.iterAt (k := w.heap.size) (Nat.le_refl _) s (pos + (Utf8.decode s pos).2)
      rw [hW1] at hnx0 hit1 hxw
      have hnx : ∀ ty, (Instr.next (.pointer (some ⟨w.heap.size, 0, none⟩)) true ty).run Tryd.prog wr = .ok (.tuple #[.bool true, .int .i64 pos, .int .i32 (runeAt s pos)]) W1 := hnx0
      have HIT := Lib.hid hit
      have HIT1 := Lib.hid hit1
      have HX := Lib.hid hxw
      clear hit hit1 hnx0 hW1 hxw hx HM
      go_wp2_with fail
      refine ⟨⟨pos + (Utf8.decode s pos).2, f, m + 1, by go_num, HM1.out, by omega, by omega, hw2, HIT1.out, HX.out⟩, ?_⟩
      have hit0 := HIT.out
      have hit5 := HIT1.out
      simp only [World.iterPos, hit5, hit0]
      omega
    · have hnx : ∀ ty, (Instr.next (.pointer (some ⟨w.heap.size, 0, none⟩)) true ty).run Tryd.prog wr = _ := fun ty => Lib.run_next_end_at wr w.heap.size s pos ty hit hp
      have hm := HM.out
      rw [runesOf_end hp] at hm
      have hm2 : m = N := by omega
      subst hm2
      clear hm
      go_wp2_with fail
      go_ret
      exact ⟨rfl, hx⟩

theorem offS_form {A : Alpha} {v : Nat} {s s0 : ByteArray} {x : Aff} (h : offS A v s x = [s0]) : s0.size ≤ 256 := by
  have h1 : oneE A v s x = 0 := by
    by_cases h1 : oneE A v s x = 0
    · exact h1
    · rw [offS_err h1] at h; cases h
  obtain ⟨_, c2, _⟩ := oneE_ok h1
  unfold offS at h
  rw [if_pos h1] at h
  cases hc : offL A v x (spell A s).1 with
  | none => rw [hc] at h; cases h
  | some t =>
    rw [hc] at h
    have hs : runesBytes t = s0 := by simpa [optS] using h
    have h2 := offL_len hc
    have h3 := (spell_ok c2).2.2.2
    have h4 := rb_size_le t
    rw [← hs]; omega
theorem putS_size (A : Alpha) (v : Nat) (s : ByteArray) (x : Aff) : (putS A v s x).size ≤ 1024 := by
  unfold putS
  split
  · have := rb_size_le (putC A v x (spell A s).1).1
    have := putC_len A v x (spell A s).1
    omega
  · decide

set_option maxRecDepth 100000 in
set_option maxHeartbeats 16000000 in
theorem paradigmBack_any (fp ap : Option Addr) (fc ac : Nat) (A : Alpha) (v : Nat) (hv : v < 4294967296) (s : ByteArray) (hs : s.size ≤ 140737488351232) (x : Aff) (hwf : x.wf) (w : World) (hA : AlphaAt w fp ap A) (hT : Tabs w) :
    Calls Tryd.prog 6 #[.agg #[.slice fp A.feats.length fc, .slice ap A.lets.length ac], .int .u32 v, .string s, .agg #[.int .u8 (x.kind : Int), .string x.form, .string x.other, .int .i64 x.pos]] w fun e w' => e = .returned (.bool true) ∧ Ext w w' := by
  have hx0 : Ext w (w.alloc (.cells #[.slice fp A.feats.length fc, .slice ap A.lets.length ac] 26)) := (Ext.refl _).alloc _
  obtain ⟨W1, hW1⟩ : ∃ W1, w.alloc (.cells #[.slice fp A.feats.length fc, .slice ap A.lets.length ac] 26) = W1 := ⟨_, rfl⟩
  have hx1 : Ext W1 (W1.alloc (.cells #[.int .u8 (x.kind : Int), .string x.form, .string x.other, .int .i64 x.pos] 36)) := (Ext.refl _).alloc _
  obtain ⟨W2, hW2⟩ : ∃ W2, W1.alloc (.cells #[.int .u8 (x.kind : Int), .string x.form, .string x.other, .int .i64 x.pos] 36) = W2 := ⟨_, rfl⟩
  rw [hW1] at hx0
  rw [hW2] at hx1
  have z1 : W1.heap.size = w.heap.size + 1 := by rw [← hW1, size_alloc]
  have HB0 := Lib.hid (fun W (hW : Ext W2 W) => (by
    have h := hx1.trans hW
    rw [← hW1] at h
    exact ⟨h.cell0 0, h.cell0 1, h.lt0⟩ : W.cell? ⟨w.heap.size, 0, none⟩ = some (.slice fp A.feats.length fc) ∧ W.cell? ⟨w.heap.size, 1, none⟩ = some (.slice ap A.lets.length ac) ∧ w.heap.size < W.heap.size))
  have HB1 := Lib.hid (fun W (hW : Ext W2 W) => (by
    have h := hW
    rw [← hW2] at h
    have c0 := h.cell0 0
    have c1 := h.cell0 1
    have c2 := h.cell0 2
    have c3 := h.cell0 3
    have l0 := h.lt0
    rw [z1] at c0 c1 c2 c3 l0
    exact ⟨c0, c1, c2, c3, l0⟩ : W.cell? ⟨w.heap.size + 1, 0, none⟩ = some (.int .u8 (x.kind : Int)) ∧ W.cell? ⟨w.heap.size + 1, 1, none⟩ = some (.string x.form) ∧ W.cell? ⟨w.heap.size + 1, 2, none⟩ = some (.string x.other) ∧ W.cell? ⟨w.heap.size + 1, 3, none⟩ = some (.int .i64 x.pos) ∧ w.heap.size + 1 < W.heap.size))
  have hwW2 : Ext w W2 := hx0.trans hx1
  have HX := Lib.hid hwW2
  have HAL := Lib.hid (alive17_any W2 (hT.ext hwW2))
  have hW2e : (w.alloc (.cells #[.slice fp A.feats.length fc, .slice ap A.lets.length ac] 26)).alloc (.cells #[.int .u8 (x.kind : Int), .string x.form, .string x.other, .int .i64 x.pos] 36) = W2 := by rw [hW1, hW2]
  have hf1 := hwf.2.1
  have ho1 := hwf.2.2.1
  by_cases hg1 : 2000 < s.size
  · clear hW1 hW2 hx0 hx1 z1 hwW2
    go_enter Tryd.func6, Tryd.ntmps6
    go_wp2_with fail
    refine HAL.out.mono ?_
    rintro e w1 ⟨rfl, hy1⟩
    obtain ⟨c0, c1, c2, c3, l1⟩ := HB1.out _ hy1
    go_wp2_with fail
    go_ret
    exact ⟨rfl, HX.out.trans hy1⟩
  by_cases hg2 : 4000 < x.form.size + x.other.size
  · clear hW1 hW2 hx0 hx1 z1 hwW2
    go_enter Tryd.func6, Tryd.ntmps6
    go_wp2_with fail
    refine HAL.out.mono ?_
    rintro e w1 ⟨rfl, hy1⟩
    obtain ⟨c0, c1, c2, c3, l1⟩ := HB1.out _ hy1
    go_wp2_with fail
    go_ret
    exact ⟨rfl, HX.out.trans hy1⟩
  have hsm : x.small := ⟨by omega, by omega⟩
  have HPT := Lib.hid (fun W (hW : Ext w W) => put_any fp ap fc ac A v hv s hs x hwf hsm W (hA.mono hW) (hT.ext hW))
  have hps := putS_size A v s x
  have HOV := Lib.hid (fun W (hW : Ext w W) => off_any fp ap fc ac A v hv (putS A v s x) (by omega) x hwf hsm W (hA.mono hW) (hT.ext hW))
  have HLG := Lib.hid (fun W => long17_any (putS A v s x) (by omega) W)
  have HOS := Lib.hid (fun W (hW : Ext w W) => off_any fp ap fc ac A v hv s hs x hwf hsm W (hA.mono hW) (hT.ext hW))
  have HRD := Lib.hid (fun W (hW : Ext w W) => radicals_any fp ap fc ac A s v hs hv W (hA.mono hW) (hT.ext hW))
  have HPB := Lib.hid (fun s0 (h0 : offS A v s x = [s0]) W (hW : Ext w W) => (by
    have h := put_any fp ap fc ac A v hv s0 (Nat.le_trans (offS_form h0) (by decide)) x hwf hsm W (hA.mono hW) (hT.ext hW)
    obtain ⟨p1, p2, _⟩ := off_put h0
    rw [p1, p2] at h
    exact h : Calls Tryd.prog 13 #[.agg #[.slice fp A.feats.length fc, .slice ap A.lets.length ac], .int .u32 v, .string s0, .agg #[.int .u8 (x.kind : Int), .string x.form, .string x.other, .int .i64 x.pos]] W fun e w' => e = .returned (.tuple #[.string s, .int .i64 0]) ∧ Ext W w'))
  have HO0 := Lib.hid (@offS_err A v s x)
  have HO1 := Lib.hid (offS_len A v s x)
  have HE0 := Lib.hid (fun h : putE A v s x = 0 => (by
    obtain ⟨h1, h2⟩ := putE_ok h
    obtain ⟨h3, h4, h5⟩ := oneE_ok h1
    obtain ⟨s1, s2, s3⟩ := putS_ok h
    have hok := classE_ok1 h3
    have hr := rad_root (A := A) (v := v) (w := s) h3 h4
    refine ⟨h1, hr.1, ?_, ?_⟩
    · exact hr.2
    · intro hl
      rw [s1, strR_rb hok s2] at hl
      exact put_off h hl : oneE A v s x = 0 ∧ radE A s v = 0 ∧ radS A s v = runesBytes (rootL A v (spell A s).1) ∧ ((strR (putS A v s x)).length ≤ 64 → oneE A v (putS A v s x) x = 0 ∧ offS A v (putS A v s x) x = [if x.kind = 5 then runesBytes (rootL A v (spell A s).1) else s])))
  have hsl := strR_len (putS A v s x)
  obtain ⟨d0, d1, l0⟩ := HB0.out _ (Ext.refl _)
  clear hW1 hW2 hx0 hx1 z1 hwW2 hA hT
  obtain ⟨V, hV⟩ : ∃ V, putS A v s x = V := ⟨_, rfl⟩
  obtain ⟨E, hE⟩ : ∃ E, putE A v s x = E := ⟨_, rfl⟩
  obtain ⟨O, hO⟩ : ∃ O, oneE A v s x = O := ⟨_, rfl⟩
  obtain ⟨R, hR⟩ : ∃ R, runesBytes (rootL A v (spell A s).1) = R := ⟨_, rfl⟩
  obtain ⟨T, hT9⟩ : ∃ T, offS A v s x = T := ⟨_, rfl⟩
  obtain ⟨OV, hOV⟩ : ∃ OV, oneE A v V x = OV := ⟨_, rfl⟩
  obtain ⟨TV, hTV⟩ : ∃ TV, offS A v V x = TV := ⟨_, rfl⟩
  obtain ⟨RS, hRS⟩ : ∃ RS, radS A s v = RS := ⟨_, rfl⟩
  obtain ⟨RE, hRE⟩ : ∃ RE, radE A s v = RE := ⟨_, rfl⟩
  obtain ⟨N, hN⟩ : ∃ N, (strR V).length = N := ⟨_, rfl⟩
  rw [hV, hE] at HPT
  rw [hV, hTV, hOV] at HOV
  rw [hV, hN] at HLG hsl
  rw [hT9, hO] at HOS
  rw [hRS, hRE] at HRD
  rw [hT9] at HPB HO1
  rw [hO, hT9] at HO0
  rw [hE, hO, hRE, hRS, hR, hV, hN, hOV, hTV] at HE0
  rw [hV] at hps
  have gS : (s.toList == s.toList) = true := by simp
  have gS2 : (s.toList != s.toList) = false := by simp
  clear hV hE hO hR hT9 hOV hTV hRS hRE hN
  by_cases hE : E = 0
  · subst hE
    obtain ⟨hO, hRE, hRS, hput⟩ := HE0.out rfl
    subst hO hRE hRS
    clear HE0 HO0
    by_cases h64 : N ≤ 64
    · obtain ⟨hOV, hTV⟩ := hput h64
      subst hOV
      clear hput
      go_enter Tryd.func6, Tryd.ntmps6
      go_wp2_with fail
      refine HAL.out.mono ?_
      rintro e w1 ⟨rfl, hy1⟩
      clear hW2e d0 d1 l0
      obtain ⟨d0, d1, l0⟩ := HB0.out _ (hy1)
      obtain ⟨c0, c1, c2, c3, l1⟩ := HB1.out _ (hy1)
      go_wp2_with fail
      refine (HPT.out _ (HX.out.trans hy1)).mono ?_
      rintro e w2 ⟨rfl, hy2⟩
      have hz2 := hy1.trans hy2
      go_wp2_with fail
      refine (HLG.out _).mono ?_
      rintro e w3 ⟨rfl, hy3⟩
      have hz3 := hz2.trans hy3
      obtain ⟨d0, d1, l0⟩ := HB0.out _ (hz3)
      obtain ⟨c0, c1, c2, c3, l1⟩ := HB1.out _ (hz3)
      go_wp2_with fail
      refine (HOV.out _ (HX.out.trans hz3)).mono ?_
      rintro e w4 ⟨hq4, hy4⟩
      have hz4 := hz3.trans hy4
      obtain ⟨vb, vc, rfl, vl, vs⟩ := opt_one hTV hq4
      obtain ⟨d0, d1, l0⟩ := HB0.out _ (hz4)
      obtain ⟨c0, c1, c2, c3, l1⟩ := HB1.out _ (hz4)
      by_cases h5 : x.kind = 5
      · rw [if_pos h5] at vs
        have g5 : ((x.kind : Int) == 5) = true := by rw [beq_iff_eq]; omega
        have gR : (RS.toList == RS.toList) = true := by simp
        have gR2 : (RS.toList != RS.toList) = false := by simp
        clear hTV hq4 h5
        go_wp2_with fail
        refine (HRD.out _ (HX.out.trans hz4)).mono ?_
        rintro e w5 ⟨rfl, hy5⟩
        have hz5 := hz4.trans hy5
        have us := (hy5.facts.1 _ _ vl).trans vs
        clear vs
        obtain ⟨d0, d1, l0⟩ := HB0.out _ (hz5)
        obtain ⟨c0, c1, c2, c3, l1⟩ := HB1.out _ (hz5)
        go_wp2_with fail
        refine (HOS.out _ (HX.out.trans (hz5))).mono ?_
        rintro e w7 ⟨hq7, hy7⟩
        have hz7 := (hz5).trans hy7
        cases T with
        | nil =>
          obtain ⟨qp, qc, rfl⟩ := opt_nil rfl hq7
          go_wp2_with fail
          go_ret
          exact ⟨rfl, HX.out.trans hz7⟩
        | cons s0 T2 =>
          have hT2 : T2 = [] := by
            have := HO1.out
            rw [List.length_cons] at this
            exact List.eq_nil_of_length_eq_zero (by omega)
          subst hT2
          obtain ⟨qb, qc, rfl, ql, qs⟩ := opt_one rfl hq7
          obtain ⟨d0, d1, l0⟩ := HB0.out _ (hz7)
          obtain ⟨c0, c1, c2, c3, l1⟩ := HB1.out _ (hz7)
          have HPW := Lib.hid (fun W (hW : Ext w7 W) => HPB.out s0 rfl W (HX.out.trans (hz7.trans hW)))
          go_wp2_with fail
          (refine wp_region_ext (by kernel_rfl) (by kernel_rfl) ?_; intro ι hι g hg; have q_d0 := hg.cell d0; have q_d1 := hg.cell d1; have q_c0 := hg.cell c0; have q_c1 := hg.cell c1; have q_c2 := hg.cell c2; have q_c3 := hg.cell c3; have q_qs := hg.cell qs; clear d0 d1 c0 c1 c2 c3 qs; (repeat (go_big_quiet_step ((go_at_call 13; exact hg.call (HPW.out _ (hg.ext _)))))); refine wpQuiet_nil ?_; rintro w8 ⟨i2, rfl⟩; have hq8 := hg.ext i2; generalize g i2 = w8 at hq8 ⊢; clear q_d0 q_d1 q_c0 q_c1 q_c2 q_c3 q_qs i2 hg g hι ι)
          go_wp2_with fail
          go_ret
          exact ⟨rfl, HX.out.trans (hz7.trans hq8)⟩
      · rw [if_neg h5] at vs
        have g5 : ((x.kind : Int) == 5) = false := by rw [beq_eq_false_iff_ne]; omega
        clear hTV hq4
        obtain ⟨d0, d1, l0⟩ := HB0.out _ (hz4)
        obtain ⟨c0, c1, c2, c3, l1⟩ := HB1.out _ (hz4)
        go_wp2_with fail
        refine (HOS.out _ (HX.out.trans (hz4))).mono ?_
        rintro e w7 ⟨hq7, hy7⟩
        have hz7 := (hz4).trans hy7
        cases T with
        | nil =>
          obtain ⟨qp, qc, rfl⟩ := opt_nil rfl hq7
          go_wp2_with fail
          go_ret
          exact ⟨rfl, HX.out.trans hz7⟩
        | cons s0 T2 =>
          have hT2 : T2 = [] := by
            have := HO1.out
            rw [List.length_cons] at this
            exact List.eq_nil_of_length_eq_zero (by omega)
          subst hT2
          obtain ⟨qb, qc, rfl, ql, qs⟩ := opt_one rfl hq7
          obtain ⟨d0, d1, l0⟩ := HB0.out _ (hz7)
          obtain ⟨c0, c1, c2, c3, l1⟩ := HB1.out _ (hz7)
          have HPW := Lib.hid (fun W (hW : Ext w7 W) => HPB.out s0 rfl W (HX.out.trans (hz7.trans hW)))
          go_wp2_with fail
          (refine wp_region_ext (by kernel_rfl) (by kernel_rfl) ?_; intro ι hι g hg; have q_d0 := hg.cell d0; have q_d1 := hg.cell d1; have q_c0 := hg.cell c0; have q_c1 := hg.cell c1; have q_c2 := hg.cell c2; have q_c3 := hg.cell c3; have q_qs := hg.cell qs; clear d0 d1 c0 c1 c2 c3 qs; (repeat (go_big_quiet_step ((go_at_call 13; exact hg.call (HPW.out _ (hg.ext _)))))); refine wpQuiet_nil ?_; rintro w8 ⟨i2, rfl⟩; have hq8 := hg.ext i2; generalize g i2 = w8 at hq8 ⊢; clear q_d0 q_d1 q_c0 q_c1 q_c2 q_c3 q_qs i2 hg g hι ι)
          go_wp2_with fail
          go_ret
          exact ⟨rfl, HX.out.trans (hz7.trans hq8)⟩
    · clear hput
      go_enter Tryd.func6, Tryd.ntmps6
      go_wp2_with fail
      refine HAL.out.mono ?_
      rintro e w1 ⟨rfl, hy1⟩
      clear hW2e d0 d1 l0
      obtain ⟨d0, d1, l0⟩ := HB0.out _ (hy1)
      obtain ⟨c0, c1, c2, c3, l1⟩ := HB1.out _ (hy1)
      go_wp2_with fail
      refine (HPT.out _ (HX.out.trans hy1)).mono ?_
      rintro e w2 ⟨rfl, hy2⟩
      have hz2 := hy1.trans hy2
      go_wp2_with fail
      refine (HLG.out _).mono ?_
      rintro e w3 ⟨rfl, hy3⟩
      have hz3 := hz2.trans hy3
      obtain ⟨d0, d1, l0⟩ := HB0.out _ (hz3)
      obtain ⟨c0, c1, c2, c3, l1⟩ := HB1.out _ (hz3)
      go_wp2_with fail
      refine (HOS.out _ (HX.out.trans (hz3))).mono ?_
      rintro e w7 ⟨hq7, hy7⟩
      have hz7 := (hz3).trans hy7
      cases T with
      | nil =>
        obtain ⟨qp, qc, rfl⟩ := opt_nil rfl hq7
        go_wp2_with fail
        go_ret
        exact ⟨rfl, HX.out.trans hz7⟩
      | cons s0 T2 =>
        have hT2 : T2 = [] := by
          have := HO1.out
          rw [List.length_cons] at this
          exact List.eq_nil_of_length_eq_zero (by omega)
        subst hT2
        obtain ⟨qb, qc, rfl, ql, qs⟩ := opt_one rfl hq7
        obtain ⟨d0, d1, l0⟩ := HB0.out _ (hz7)
        obtain ⟨c0, c1, c2, c3, l1⟩ := HB1.out _ (hz7)
        have HPW := Lib.hid (fun W (hW : Ext w7 W) => HPB.out s0 rfl W (HX.out.trans (hz7.trans hW)))
        go_wp2_with fail
        (refine wp_region_ext (by kernel_rfl) (by kernel_rfl) ?_; intro ι hι g hg; have q_d0 := hg.cell d0; have q_d1 := hg.cell d1; have q_c0 := hg.cell c0; have q_c1 := hg.cell c1; have q_c2 := hg.cell c2; have q_c3 := hg.cell c3; have q_qs := hg.cell qs; clear d0 d1 c0 c1 c2 c3 qs; (repeat (go_big_quiet_step ((go_at_call 13; exact hg.call (HPW.out _ (hg.ext _)))))); refine wpQuiet_nil ?_; rintro w8 ⟨i2, rfl⟩; have hq8 := hg.ext i2; generalize g i2 = w8 at hq8 ⊢; clear q_d0 q_d1 q_c0 q_c1 q_c2 q_c3 q_qs i2 hg g hι ι)
        go_wp2_with fail
        go_ret
        exact ⟨rfl, HX.out.trans (hz7.trans hq8)⟩
  · have gE : (E == 0) = false := by rw [beq_eq_false_iff_ne]; exact hE
    clear HE0 hE
    go_enter Tryd.func6, Tryd.ntmps6
    go_wp2_with fail
    refine HAL.out.mono ?_
    rintro e w1 ⟨rfl, hy1⟩
    clear hW2e d0 d1 l0
    obtain ⟨d0, d1, l0⟩ := HB0.out _ (hy1)
    obtain ⟨c0, c1, c2, c3, l1⟩ := HB1.out _ (hy1)
    go_wp2_with fail
    refine (HPT.out _ (HX.out.trans hy1)).mono ?_
    rintro e w2 ⟨rfl, hy2⟩
    have hz2 := hy1.trans hy2
    obtain ⟨d0, d1, l0⟩ := HB0.out _ (hz2)
    obtain ⟨c0, c1, c2, c3, l1⟩ := HB1.out _ (hz2)
    go_wp2_with fail
    refine (HOS.out _ (HX.out.trans (hz2))).mono ?_
    rintro e w7 ⟨hq7, hy7⟩
    have hz7 := (hz2).trans hy7
    by_cases hO : O = 0
    · subst hO
      cases T with
      | nil =>
        obtain ⟨qp, qc, rfl⟩ := opt_nil rfl hq7
        go_wp2_with fail
        go_ret
        exact ⟨rfl, HX.out.trans hz7⟩
      | cons s0 T2 =>
        have hT2 : T2 = [] := by
          have := HO1.out
          rw [List.length_cons] at this
          exact List.eq_nil_of_length_eq_zero (by omega)
        subst hT2
        obtain ⟨qb, qc, rfl, ql, qs⟩ := opt_one rfl hq7
        obtain ⟨d0, d1, l0⟩ := HB0.out _ (hz7)
        obtain ⟨c0, c1, c2, c3, l1⟩ := HB1.out _ (hz7)
        have HPW := Lib.hid (fun W (hW : Ext w7 W) => HPB.out s0 rfl W (HX.out.trans (hz7.trans hW)))
        go_wp2_with fail
        (refine wp_region_ext (by kernel_rfl) (by kernel_rfl) ?_; intro ι hι g hg; have q_d0 := hg.cell d0; have q_d1 := hg.cell d1; have q_c0 := hg.cell c0; have q_c1 := hg.cell c1; have q_c2 := hg.cell c2; have q_c3 := hg.cell c3; have q_qs := hg.cell qs; clear d0 d1 c0 c1 c2 c3 qs; (repeat (go_big_quiet_step ((go_at_call 13; exact hg.call (HPW.out _ (hg.ext _)))))); refine wpQuiet_nil ?_; rintro w8 ⟨i2, rfl⟩; have hq8 := hg.ext i2; generalize g i2 = w8 at hq8 ⊢; clear q_d0 q_d1 q_c0 q_c1 q_c2 q_c3 q_qs i2 hg g hι ι)
        go_wp2_with fail
        go_ret
        exact ⟨rfl, HX.out.trans (hz7.trans hq8)⟩
    · have hTn := HO0.out hO
      obtain ⟨qp, qc, rfl⟩ := opt_nil hTn hq7
      have gO : (O != 0) = true := by rw [bne_iff_ne]; exact hO
      clear hO
      go_wp2_with fail
      go_ret
      exact ⟨rfl, HX.out.trans hz7⟩
end Go.Proofs.YtkmfhcjdaglikaaDoor
