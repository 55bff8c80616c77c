/- Contracts: cognateref21.Sum, Both, SamePairs. -/
import Derived.Test.YtobajknhnjceiaaDoorAlgh
import Derived.Test.YtobajknhnjceiaaDoorAlgb
namespace Go.Cg
theorem enc_size4 (r : Int) : (Utf8.encode r).size ≤ 4 := by
  unfold Utf8.encode
  simp only
  repeat' split
  all_goals exact Nat.le_of_ble_eq_true rfl
end Go.Cg
namespace Go.Proofs.YtobajknhnjceiaaDoor
open Go.RowKit Go.Cg Go.Shelf Go.Maps

set_option maxRecDepth 100000 in
set_option maxHeartbeats 4000000 in
theorem sum21_any (fp lp pp : Option Addr) (fc lc pcap : Nat) (A : Alpha) (l : List (Int × Int)) (w : World) (hA : AlphaAt w fp lp A) (hP : PairsAt w pp l) :
    Calls Tryd.prog 25 #[.agg #[.slice fp A.feats.length fc, .slice lp A.lets.length lc], .slice pp l.length pcap] w fun e w' => e = .returned (.tuple #[.int .i64 (sumN A l : Nat), .int .i64 (sumE A l)]) ∧ Ext w w' := by
  have hx3 : Ext w (w.alloc (.cells #[.slice fp A.feats.length fc, .slice lp A.lets.length lc] 25)) := (Ext.refl _).alloc _
  have hck := Check_any fp lp fc lc A _ (hA.mono hx3)
  have HBX := Lib.hid (fun W (hW : Ext (w.alloc (.cells #[.slice fp A.feats.length fc, .slice lp A.lets.length lc] 25)) W) => (⟨hW.cell0 0, hW.cell0 1, hW.lt0⟩ : W.cell? ⟨w.heap.size, 0, none⟩ = some (.slice fp A.feats.length fc) ∧ W.cell? ⟨w.heap.size, 1, none⟩ = some (.slice lp A.lets.length lc) ∧ w.heap.size < W.heap.size))
  have hE : sumE A l = if A.Ok then (if 256 < l.length then 4 else errP A l) else 7 := rfl
  have hN : sumN A l = if sumE A l = 0 then sumTo A l l.length else 0 := rfl
  obtain ⟨E, hEE⟩ : ∃ v, sumE A l = v := ⟨_, rfl⟩
  obtain ⟨N, hNN⟩ : ∃ v, sumN A l = v := ⟨_, rfl⟩
  rw [hEE] at hE hN ⊢
  rw [hNN] at hN ⊢
  clear hEE hNN
  by_cases hok : A.Ok
  · rw [checkN_ok hok] at hck
    rw [if_pos hok] at hE
    have hpa := fun x y W (hW : Ext w W) => pair21_any fp lp fc lc A x y W (hA.mono hW)
    have hof := fun k (hk : k < l.length) W (hW : Ext w W) => Of21_any fp lp fc lc A (pA l k) (pB l k) (hP.wf k hk).1 (hP.wf k hk).2 W (hA.mono hW)
    by_cases h4 : 256 < l.length
    · rw [if_pos h4] at hE
      subst hE
      rw [if_neg (by decide)] at hN
      subst hN
      have g1 : decide ((l.length : Int) > 256) = true := decide_eq_true (by omega)
      have g2 : decide ((256 : Int) < l.length) = true := decide_eq_true (by omega)
      clear h4 hpa hof
      go_enter Tryd.func25, Tryd.ntmps25
      go_wp2_with (go_at_call 52; refine hck.mono ?_; rintro e w1 ⟨rfl, hx1⟩)
      go_ret2
      exact ⟨rfl, hx3.trans hx1⟩
    · rw [if_neg h4] at hE
      have g1 : decide ((l.length : Int) > 256) = false := decide_eq_false (by omega)
      have g2 : decide ((256 : Int) < l.length) = false := decide_eq_false (by omega)
      have herr := fun k hk (h1 : ∀ j, j < k → pairE A (pA l j) (pB l j) = 0) h2 => errP_at (A := A) (l := l) (k := k) hk h1 h2
      have hnon := fun (h1 : ∀ j, j < l.length → pairE A (pA l j) (pB l j) = 0) => errP_none h1
      have hsl := sumTo_le A l
      have hss := sumTo_succ A l
      have hfl := farC_le A
      obtain ⟨S, hS⟩ : ∃ S, sumTo A l = S := ⟨_, rfl⟩
      rw [hS] at hN hsl hss
      have hS0 : S 0 = 0 := by rw [← hS]; rfl
      obtain ⟨R, hR⟩ : ∃ R, errP A l = R := ⟨_, rfl⟩
      rw [hR] at hE herr hnon
      have b4 : l.length ≤ 256 := by omega
      clear hS hR h4
      have HE := Lib.hid hE
      have HN := Lib.hid hN
      have HPA := Lib.hid hpa
      have HOF := Lib.hid hof
      have HERR := Lib.hid herr
      have HNON := Lib.hid hnon
      have HSL := Lib.hid hsl
      have HSS := Lib.hid hss
      have HFL := Lib.hid hfl
      clear hE hN hpa hof herr hnon hsl hss hfl
      go_enter Tryd.func25, Tryd.ntmps25
      go_wp2_with (go_at_call 52; refine hck.mono ?_; rintro e w1 ⟨rfl, hx1⟩)
      have hxw := hx3.trans hx1
      clear hck
      go_loopw [7, 8] (fun sm i wr => ∃ k : Nat, k ≤ l.length ∧ i = .int .i64 k ∧ sm = .int .i64 (S k : Nat) ∧ Ext w1 wr ∧ Hid (∀ j, j < k → pairE A (pA l j) (pB l j) = 0)) (fun _ i _ => l.length - (intOf i).toNat)
      case atStart => exact ⟨0, Nat.zero_le _, rfl, by rw [hS0]; rfl, Ext.refl _, fun j hj => by omega⟩
      case round =>
        obtain ⟨k, hk, rfl, rfl, hx, HZ⟩ := hrel
        by_cases hlt : k < l.length
        · obtain ⟨b, off, e0, hbw, c0, c1⟩ := (hP.mono (hxw.trans hx)).cells hlt
          subst e0
          obtain ⟨d0, d1, l0⟩ := HBX.out _ (hx1.trans hx)
          have hpa := HPA.out (pA l k) (pB l k)
          have hof := HOF.out k hlt
          have her := HERR.out k hlt HZ.out
          have hsl := HSL.out k
          have hss := HSS.out k
          have hfl := HFL.out (pA l k) (pB l k)
          obtain ⟨a, ha⟩ : ∃ v, pA l k = v := ⟨_, rfl⟩
          obtain ⟨b2, hb⟩ : ∃ v, pB l k = v := ⟨_, rfl⟩
          rw [ha] at c0 hpa hof her hss hfl
          rw [hb] at c1 hpa hof her hss hfl
          obtain ⟨pe, hpe⟩ : ∃ v, pairE A a b2 = v := ⟨_, rfl⟩
          obtain ⟨fa, hfa⟩ : ∃ v, farC A a b2 = v := ⟨_, rfl⟩
          rw [hpe] at hpa her
          rw [hfa] at hof hss hfl
          have HZ2 := Lib.hid (show pairE A (pA l k) (pB l k) = pe by rw [ha, hb, hpe])
          have HPA2 := Lib.hid hpa
          have HOF2 := Lib.hid hof
          have HSS2 := Lib.hid hss
          clear ha hb hpe hfa hpa hof hss
          have hxk := hxw.trans hx
          have C0 := Lib.hid c0
          have C1 := Lib.hid c1
          by_cases hz : pe = 0
          · subst hz
            clear her
            go_wp2_with fail
            (refine wp_region_ext (by kernel_rfl) (by kernel_rfl) ?_; intro ι hι g hg; have q_d0 := hg.cell d0; have q_d1 := hg.cell d1; have q_c0 := hg.cell c0; have q_c1 := hg.cell c1; clear d0 d1 c0 c1; (repeat (go_big_quiet_step ((go_at_call 53; exact hg.call (HPA2.out _ (hxk.trans (hg.ext _))))))); refine wpQuiet_nil ?_; rintro w3 ⟨i2, rfl⟩; have hq := hg.ext i2; generalize g i2 = w3 at hq ⊢; clear q_d0 q_d1 q_c0 q_c1 i2 hg g hι ι)
            obtain ⟨d0, d1, l0⟩ := HBX.out _ ((hx1.trans hx).trans hq)
            have hxk3 := hxk.trans hq
            have lb3 : b < w3.heap.size := Nat.lt_of_lt_of_le hbw hq.le
            have c0 := (hq.facts.1 b (off + k * 2) hbw).trans C0.out
            have c1 := (hq.facts.1 b (off + k * 2 + 1) hbw).trans C1.out
            go_wp2_with fail
            (refine wp_region_ext (by kernel_rfl) (by kernel_rfl) ?_; intro ι hι g hg; have q_d0 := hg.cell d0; have q_d1 := hg.cell d1; have q_c0 := hg.cell c0; have q_c1 := hg.cell c1; clear d0 d1 c0 c1; (repeat (go_big_quiet_step ((go_at_call 54; exact hg.call (HOF2.out _ (hxk3.trans (hg.ext _))))))); refine wpQuiet_nil ?_; rintro w4 ⟨i2, rfl⟩; have hq4 := hg.ext i2; generalize g i2 = w4 at hq4 ⊢; clear q_d0 q_d1 q_c0 q_c1 i2 hg g hι ι)
            go_wp2_with fail
            exact ⟨⟨k + 1, by omega, by go_num, by rw [HSS2.out]; congr 1, (hx.trans hq).trans hq4, upto_succ HZ.out HZ2.out⟩, by simp [intOf]; omega⟩
          · have hr := her hz
            have he := HE.out
            rw [hr] at he
            have hn := HN.out
            rw [he, if_neg hz] at hn
            subst hn
            subst he
            have gz : (E != 0) = true := by rw [bne_iff_ne]; exact hz
            clear hr her hz
            go_wp2_with fail
            (refine wp_region_ext (by kernel_rfl) (by kernel_rfl) ?_; intro ι hι g hg; have q_d0 := hg.cell d0; have q_d1 := hg.cell d1; have q_c0 := hg.cell c0; have q_c1 := hg.cell c1; clear d0 d1 c0 c1; (repeat (go_big_quiet_step ((go_at_call 53; exact hg.call (HPA2.out _ (hxk.trans (hg.ext _))))))); refine wpQuiet_nil ?_; rintro w3 ⟨i2, rfl⟩; have hq := hg.ext i2; generalize g i2 = w3 at hq ⊢; clear q_d0 q_d1 q_c0 q_c1 i2 hg g hι ι)
            go_wp2_with fail
            go_ret2
            exact ⟨rfl, hxk.trans hq⟩
        · have e : k = l.length := by omega
          subst e
          have he := HE.out
          rw [HNON.out HZ.out] at he
          subst he
          have hn := HN.out
          rw [if_pos rfl] at hn
          subst hn
          go_wp2_with fail
          go_ret2
          exact ⟨rfl, hxw.trans hx⟩
  · rw [checkN_bad hok] at hck
    rw [if_neg hok] at hE
    subst hE
    rw [if_neg (by decide)] at hN
    subst hN
    go_enter Tryd.func25, Tryd.ntmps25
    go_wp2_with (go_at_call 52; refine hck.mono ?_; rintro e w1 ⟨rfl, hx1⟩)
    go_ret2
    exact ⟨rfl, hx3.trans hx1⟩

set_option maxRecDepth 100000 in
set_option maxHeartbeats 4000000 in
theorem both21_any (fp lp pp : Option Addr) (fc lc pcap : Nat) (A : Alpha) (l : List (Int × Int)) (w : World) (hA : AlphaAt w fp lp A) (hP : PairsAt w pp l) :
    Calls Tryd.prog 27 #[.agg #[.slice fp A.feats.length fc, .slice lp A.lets.length lc], .slice pp l.length pcap] w fun e w' => e = .returned (.tuple #[.string (bothX A l), .string (bothY A l), .int .i64 (sumE A l)]) ∧ Ext w w' := by
  have hx3 : Ext w (w.alloc (.cells #[.slice fp A.feats.length fc, .slice lp A.lets.length lc] 25)) := (Ext.refl _).alloc _
  have hsu := sum21_any fp lp pp fc lc pcap A l _ (hA.mono hx3) (hP.mono hx3)
  have hX : bothX A l = if sumE A l = 0 then runesBytes (lefts l) else ⟨#[]⟩ := rfl
  have hY : bothY A l = if sumE A l = 0 then runesBytes (rights l) else ⟨#[]⟩ := rfl
  have h256 : sumE A l = 0 → l.length ≤ 256 := fun h => by
    unfold sumE at h
    split at h
    · split at h
      · cases h
      · omega
    · cases h
  obtain ⟨E, hEE⟩ : ∃ v, sumE A l = v := ⟨_, rfl⟩
  rw [hEE] at hX hY hsu h256 ⊢
  obtain ⟨N, hNN⟩ : ∃ v, sumN A l = v := ⟨_, rfl⟩
  rw [hNN] at hsu
  clear hEE hNN
  by_cases h0 : E = 0
  · subst h0
    have hl6 := h256 rfl
    rw [if_pos rfl] at hX hY
    rw [hX, hY]
    have HSU := Lib.hid hsu
    clear h256 hX hY hsu
    go_enter Tryd.func27, Tryd.ntmps27
    go_wp2_with (go_at_call 25; refine HSU.out.mono ?_; rintro e w1 ⟨rfl, hx1⟩)
    have hxw := hx3.trans hx1
    go_loopw [9, 10, 11] (fun xv yv i wr => ∃ k : Nat, k ≤ l.length ∧ i = .int .i64 k ∧ Ext w1 wr ∧ xv = .string (runesBytes (lefts (l.take k))) ∧ yv = .string (runesBytes (rights (l.take k)))) (fun _ _ i _ => l.length - (intOf i).toNat)
    case atStart => exact ⟨0, Nat.zero_le _, rfl, Ext.refl _, rfl, rfl⟩
    case round =>
      obtain ⟨k, hk, rfl, hx, rfl, rfl⟩ := hrel
      by_cases hlt : k < l.length
      · obtain ⟨b, off, e0, hbw, c0, c1⟩ := (hP.mono (hxw.trans hx)).cells hlt
        subst e0
        have hll := lefts_len (l.take k)
        have hrl := rights_len (l.take k)
        rw [List.length_take] at hll hrl
        have hs1 := runesBytes_size_le (lefts (l.take k))
        have hs2 := runesBytes_size_le (rights (l.take k))
        have hs3 := enc_size4 (pA l k)
        have hs4 := enc_size4 (pB l k)
        have hn1 := fun h => lefts_no (l := l) (k := k) hlt h
        have hn2 := fun h => lefts_yes (l := l) (k := k) hlt h
        have hn3 := fun h => rights_no (l := l) (k := k) hlt h
        have hn4 := fun h => rights_yes (l := l) (k := k) hlt h
        have HN1 := Lib.hid hn1
        have HN2 := Lib.hid hn2
        have HN3 := Lib.hid hn3
        have HN4 := Lib.hid hn4
        clear hn1 hn2 hn3 hn4
        obtain ⟨X, hX⟩ : ∃ X, lefts (l.take k) = X := ⟨_, rfl⟩
        obtain ⟨Y, hY⟩ : ∃ Y, rights (l.take k) = Y := ⟨_, rfl⟩
        rw [hX] at hs1 hll HN1 HN2 ⊢
        rw [hY] at hs2 hrl HN3 HN4 ⊢
        clear hX hY
        have q1 : ((runesBytes X).size : Int) ≤ 8388608 := by omega
        have q2 : ((runesBytes Y).size : Int) ≤ 8388608 := by omega
        have q3 : ((Utf8.encode (pA l k)).size : Int) ≤ 8388608 := by omega
        have q4 : ((Utf8.encode (pB l k)).size : Int) ≤ 8388608 := by omega
        have q5 : (runesBytes X).size + (Utf8.encode (pA l k)).size ≤ 9223372036854775807 := by omega
        have q6 : (runesBytes Y).size + (Utf8.encode (pB l k)).size ≤ 9223372036854775807 := by omega
        cases gx : (pA l k != 0)
        · have HX := Lib.hid (HN1.out (by simpa using gx))
          cases gy : (pB l k != 0)
          · have HY := Lib.hid (HN3.out (by simpa using gy))
            go_wp2_with fail
            exact ⟨⟨k + 1, by omega, by go_num, hx, by rw [HX.out], by rw [HY.out]⟩, by simp [intOf]; omega⟩
          · have HY := Lib.hid (HN4.out (by simpa using gy))
            go_wp2_with fail
            exact ⟨⟨k + 1, by omega, by go_num, hx, by rw [HX.out], by rw [HY.out, rb_append, rb_cons, rb_nil, ByteArray.append_empty]⟩, by simp [intOf]; omega⟩
        · have HX := Lib.hid (HN2.out (by simpa using gx))
          cases gy : (pB l k != 0)
          · have HY := Lib.hid (HN3.out (by simpa using gy))
            go_wp2_with fail
            exact ⟨⟨k + 1, by omega, by go_num, hx, by rw [HX.out, rb_append, rb_cons, rb_nil, ByteArray.append_empty], by rw [HY.out]⟩, by simp [intOf]; omega⟩
          · have HY := Lib.hid (HN4.out (by simpa using gy))
            go_wp2_with fail
            exact ⟨⟨k + 1, by omega, by go_num, hx, by rw [HX.out, rb_append, rb_cons, rb_nil, ByteArray.append_empty], by rw [HY.out, rb_append, rb_cons, rb_nil, ByteArray.append_empty]⟩, by simp [intOf]; omega⟩
      · have e : k = l.length := by omega
        subst e
        rw [List.take_length]
        go_wp2_with fail
        go_ret3
        exact ⟨rfl, hxw.trans hx⟩
  · rw [if_neg h0] at hX hY
    rw [hX, hY]
    have gE : (E != 0) = true := by rw [bne_iff_ne]; exact h0
    clear hX hY h0 h256
    go_enter Tryd.func27, Tryd.ntmps27
    go_wp2_with (go_at_call 25; refine hsu.mono ?_; rintro e w1 ⟨rfl, hx1⟩)
    go_ret3
    exact ⟨rfl, hx3.trans hx1⟩

set_option maxRecDepth 100000 in
set_option maxHeartbeats 2000000 in
theorem same_any (pp qp : Option Addr) (pc qc : Nat) (l : List (Int × Int)) (w : World) (hP : PairsAt w pp l) (hQ : PairsAt w qp l) :
    Calls Tryd.prog 28 #[.slice pp l.length pc, .slice qp l.length qc] w fun e w' => e = .returned (.bool true) ∧ Ext w w' := by
  have hb := hP.big
  go_enter Tryd.func28, Tryd.ntmps28
  go_wp2_with fail
  go_loopw [5] (fun i wr => ∃ k : Nat, k ≤ l.length ∧ i = .int .i64 k ∧ Ext w wr) (fun i _ => l.length - (intOf i).toNat)
  case atStart => exact ⟨0, Nat.zero_le _, rfl, Ext.refl _⟩
  case round =>
    obtain ⟨k, hk, rfl, hx⟩ := hrel
    by_cases hlt : k < l.length
    · obtain ⟨b, off, e0, hbw, c0, c1⟩ := (hP.mono hx).cells hlt
      obtain ⟨b2, off2, e1, hbw2, c2, c3⟩ := (hQ.mono hx).cells hlt
      subst e0
      subst e1
      go_wp2_with fail
      (refine wp_region_ext (by kernel_rfl) (by kernel_rfl) ?_; intro ι hι g hg; have q_c0 := hg.cell c0; have q_c1 := hg.cell c1; have q_c2 := hg.cell c2; have q_c3 := hg.cell c3; clear c0 c1 c2 c3; (repeat (go_big_quiet_step (fail))); refine wpQuiet_nil ?_; rintro w3 ⟨i2, rfl⟩; have hq := hg.ext i2; generalize g i2 = w3 at hq ⊢; clear q_c0 q_c1 q_c2 q_c3 i2 hg g hι ι)
      go_wp2_with fail
      exact ⟨⟨k + 1, by omega, by go_num, hx.trans hq⟩, by simp [intOf]; omega⟩
    · have e : k = l.length := by omega
      subst e
      go_wp2_with fail
      go_ret
      exact ⟨rfl, hx⟩

end Go.Proofs.YtobajknhnjceiaaDoor
