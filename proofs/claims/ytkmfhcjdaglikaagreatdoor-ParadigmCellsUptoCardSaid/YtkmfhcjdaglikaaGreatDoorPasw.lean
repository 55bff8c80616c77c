/- Contracts: cognateref17.word, name, Affix, joined, filled, radicals, vowels, May, Check, cell, Find, Made; what the reference takes off (plain). -/
import Derived.Test.YtkmfhcjdaglikaaGreatDoorParf
import Derived.Test.YtkmfhcjdaglikaaGreatDoorRadw
import Derived.Test.YtkmfhcjdaglikaaGreatDoorWorda
import Derived.Test.YtkmfhcjdaglikaaGreatDoorParb
import Derived.Test.YtkmfhcjdaglikaaGreatDoorRegt
import Derived.Test.YtkmfhcjdaglikaaGreatDoorHeld
import Derived.Test.YtkmfhcjdaglikaaGreatDoorRade
import Derived.Test.YtkmfhcjdaglikaaGreatDoorPamb
import Derived.Test.YtkmfhcjdaglikaaGreatDoorPama
import Derived.Test.YtkmfhcjdaglikaaGreatDoorParc
namespace Go.Proofs.YtkmfhcjdaglikaaGreatDoor
open Go.RowKit Go.Cg Go.Shelf Go.Maps

theorem nm_ok9 {c : UInt8} (h : (97 ≤ c.toNat ∧ c.toNat ≤ 122) ∨ (48 ≤ c.toNat ∧ c.toNat ≤ 57) ∨ c.toNat = 45) : isNm c = true := decide_eq_true h
theorem nm_no9 {c : UInt8} (h : ¬ ((97 ≤ c.toNat ∧ c.toNat ≤ 122) ∨ (48 ≤ c.toNat ∧ c.toNat ≤ 57) ∨ c.toNat = 45)) : isNm c = false := decide_eq_false h
theorem wdB_read {A : Alpha} (hok : A.Ok) (s : ByteArray) : wdB A s = decide ((spellFrom A s s.size 0 []).2 = 0) := by unfold wdB spell; rw [if_pos hok]

set_option maxRecDepth 100000 in
set_option maxHeartbeats 1000000 in
theorem word17_any (fp lp : Option Addr) (fc lc : Nat) (A : Alpha) (hok : A.Ok) (s : ByteArray) (hs : s.size ≤ 140737488351232) (w : World) (hA : AlphaAt w fp lp A) (hT : Tabs w) :
    Calls Tryz.prog 46 #[.agg #[.slice fp A.feats.length fc, .slice lp A.lets.length lc], .string s] w fun e w' => e = .returned (.bool (wdB A s)) ∧ Ext w w' := by
  have hx3 : Ext w (w.alloc (.cells #[.slice fp A.feats.length fc, .slice lp A.lets.length lc] 25)) := (Ext.refl _).alloc _
  have HR := Lib.hid (Read_any fp lp fc lc A s hs _ (hA.mono hx3) (hT.ext hx3))
  have HW := Lib.hid (wdB_read hok s)
  have HX := Lib.hid hx3
  obtain ⟨R, hR⟩ : ∃ R, spellFrom A s s.size 0 [] = R := ⟨_, rfl⟩
  obtain ⟨B, hB⟩ : ∃ B, wdB A s = B := ⟨_, rfl⟩
  rw [hR] at HR HW
  rw [hB] at HW ⊢
  obtain ⟨l, E⟩ := R
  dsimp only at HR HW
  clear hx3 hR hB hok hA hT
  by_cases h0 : E = 0
  · subst h0
    have hB : B = true := HW.out
    subst hB
    go_enter Tryz.func46, Tryz.ntmps46
    go_wp2_with fail
    refine HR.out.mono ?_
    rintro e w1 ⟨rp, rc, rfl, _, hy⟩
    go_wp2_with fail
    go_ret
    exact ⟨rfl, HX.out.trans hy⟩
  · have hB : B = false := HW.out.trans (decide_eq_false h0)
    subst hB
    have gE : (E == 0) = false := by rw [beq_eq_false_iff_ne]; exact h0
    clear h0
    go_enter Tryz.func46, Tryz.ntmps46
    go_wp2_with fail
    refine HR.out.mono ?_
    rintro e w1 ⟨rp, rc, rfl, _, hy⟩
    go_wp2_with fail
    go_ret
    exact ⟨rfl, HX.out.trans hy⟩

set_option maxRecDepth 100000 in
set_option maxHeartbeats 4000000 in
theorem name17_any (s : ByteArray) (hs : s.size ≤ 140737488351232) (w : World) :
    Calls Tryz.prog 58 #[.string s] w fun e w' => e = .returned (.bool (nmB s)) ∧ Ext w w' := by
  by_cases h32 : 32 < s.size
  · have hn : nmB s = false := by unfold nmB; rw [decide_eq_false (by omega)]; rfl
    rw [hn]
    go_enter Tryz.func58, Tryz.ntmps58
    go_wp2_with fail
    go_ret
    exact ⟨rfl, Ext.refl _⟩
  have HN := Lib.hid (fun k (hk : k < s.size) (h : isNm s[k] = false) => nm_at hk h)
  have HA := Lib.hid (fun (h : ∀ j, (hj : j < s.size) → isNm s[j] = true) => (nm_all h).trans (decide_eq_true (by omega)))
  obtain ⟨V, hV⟩ : ∃ V, nmB s = V := ⟨_, rfl⟩
  rw [hV] at HN HA ⊢
  clear hV
  go_enter Tryz.func58, Tryz.ntmps58
  go_wp2_with fail
  go_loopw [3] (fun i wr => Ext w wr ∧ ∃ k : Nat, k ≤ s.size ∧ i = .int .i64 k ∧ Hid (∀ j, (hj : j < s.size) → j < k → isNm s[j] = true)) (fun i _ => s.size - (intOf i).toNat)
  case atStart => exact ⟨Ext.refl _, 0, Nat.zero_le _, rfl, fun j hj h => absurd h (Nat.not_lt_zero _)⟩
  case round =>
    obtain ⟨hx, k, hk, rfl, HK⟩ := hrel
    by_cases hlt : k < s.size
    · have HNK := Lib.hid (HN.out k hlt)
      have HOK := Lib.hid (@nm_ok9 s[k])
      have HNO := Lib.hid (@nm_no9 s[k])
      have HKS := Lib.hid (fun (h : isNm s[k] = true) j (hj : j < s.size) (h2 : j < k + 1) => (by
        rcases Nat.lt_or_ge j k with h3 | h3
        · exact HK.out j hj h3
        · have : j = k := by omega
          subst this; exact h : isNm s[j] = true))
      rcases (by omega : (s[k].toNat < 45) ∨ (s[k].toNat = 45) ∨ (45 < s[k].toNat ∧ s[k].toNat < 48) ∨ (48 ≤ s[k].toNat ∧ s[k].toNat ≤ 57) ∨ (57 < s[k].toNat ∧ s[k].toNat < 97) ∨ (97 ≤ s[k].toNat ∧ s[k].toNat ≤ 122) ∨ (122 < s[k].toNat)) with h1 | h1 | ⟨h1, h2⟩ | ⟨h1, h2⟩ | ⟨h1, h2⟩ | ⟨h1, h2⟩ | h1
      · have hv : V = false := HNK.out (HNO.out (by omega))
        subst hv
        have g45 : ((s[k].toNat : Int) != 45) = true := by rw [bne_iff_ne]; omega
        go_wp2_with fail
        go_ret
        exact ⟨rfl, hx⟩
      · have hq1 := HOK.out (by omega)
        have g45 : ((s[k].toNat : Int) != 45) = false := by rw [bne_eq_false_iff_eq]; omega
        go_wp2_with fail
        exact ⟨⟨hx, k + 1, by omega, by go_num, HKS.out hq1⟩, by simp [intOf]; omega⟩
      · have hv : V = false := HNK.out (HNO.out (by omega))
        subst hv
        have g45 : ((s[k].toNat : Int) != 45) = true := by rw [bne_iff_ne]; omega
        go_wp2_with fail
        go_ret
        exact ⟨rfl, hx⟩
      · have hq1 := HOK.out (by omega)
        go_wp2_with fail
        exact ⟨⟨hx, k + 1, by omega, by go_num, HKS.out hq1⟩, by simp [intOf]; omega⟩
      · have hv : V = false := HNK.out (HNO.out (by omega))
        subst hv
        have g45 : ((s[k].toNat : Int) != 45) = true := by rw [bne_iff_ne]; omega
        go_wp2_with fail
        go_ret
        exact ⟨rfl, hx⟩
      · have hq1 := HOK.out (by omega)
        go_wp2_with fail
        exact ⟨⟨hx, k + 1, by omega, by go_num, HKS.out hq1⟩, by simp [intOf]; omega⟩
      · have hv : V = false := HNK.out (HNO.out (by omega))
        subst hv
        have g45 : ((s[k].toNat : Int) != 45) = true := by rw [bne_iff_ne]; omega
        go_wp2_with fail
        go_ret
        exact ⟨rfl, hx⟩
    · have hV : V = true := HA.out fun j hj => HK.out j hj (by omega)
      subst hV
      go_wp2_with fail
      go_ret
      exact ⟨rfl, hx⟩

theorem shape17 {A : Alpha} (hok : A.Ok) (f : ByteArray) : shapeE A ⟨#[]⟩ f = 0 ↔ formB A f = true := by
  by_cases hf : formB A f = true
  · rw [shapeE_ok hok ⟨nmB_nil, hf⟩]; exact ⟨fun _ => hf, fun _ => rfl⟩
  · rw [shapeE_no hok (fun c => hf c.2)]; exact ⟨fun h => absurd h (by decide), fun h => absurd h hf⟩

def affK (WF WO FB : Bool) (f o : ByteArray) (n : Int) (k : Nat) : Bool := match k with
  | 1 => WF && decide (o.size = 0) && decide (n = 0)
  | 2 => WF && decide (o.size = 0) && decide (n = 0)
  | 3 => WF && WO && decide (n = 0)
  | 4 => WF && decide (o.size = 0) && decide (0 ≤ n ∧ n ≤ 64)
  | 5 => FB && decide (o.size = 0) && decide (n = 0)
  | 6 => decide (f.size = 0) && decide (o.size = 0) && decide (0 ≤ n ∧ n ≤ 64)
  | _ => false
theorem affB_K (A : Alpha) (k : Nat) (f o : ByteArray) (n : Int) : affB A ⟨k, f, o, n⟩ = affK (wdB A f) (wdB A o) (formB A f) f o n k := rfl
theorem affK_no {WF WO FB : Bool} {f o : ByteArray} {n : Int} {k : Nat} (h1 : ¬ k = 1) (h2 : ¬ k = 2) (h3 : ¬ k = 3) (h4 : ¬ k = 4) (h5 : ¬ k = 5) (h6 : ¬ k = 6) : affK WF WO FB f o n k = false := by
  unfold affK; split <;> first | (exfalso; omega) | rfl

set_option maxRecDepth 100000 in
set_option maxHeartbeats 8000000 in
theorem Affix17_any (fp lp : Option Addr) (fc lc : Nat) (A : Alpha) (hok : A.Ok) (x : Aff) (hx : x.wf) (w : World) (hA : AlphaAt w fp lp A) (hT : Tabs w) :
    Calls Tryz.prog 29 #[.agg #[.slice fp A.feats.length fc, .slice lp A.lets.length lc], .agg #[.int .u8 (x.kind : Int), .string x.form, .string x.other, .int .i64 x.pos]] w fun e w' => e = .returned (.bool (affB A x)) ∧ Ext w w' := by
  obtain ⟨k, f, o, n⟩ := x
  obtain ⟨q1, q2, q3, q4, q5⟩ := hx
  dsimp only at q1 q2 q3 q4 q5 ⊢
  obtain ⟨K, hK⟩ : ∃ K : Int, (k : Int) = K := ⟨_, rfl⟩
  rw [hK]
  have hx0 : Ext w (w.alloc (.cells #[.slice fp A.feats.length fc, .slice lp A.lets.length lc] 25)) := (Ext.refl _).alloc _
  obtain ⟨W1, hW1⟩ : ∃ W1, w.alloc (.cells #[.slice fp A.feats.length fc, .slice lp A.lets.length lc] 25) = W1 := ⟨_, rfl⟩
  have hx1 : Ext W1 (W1.alloc (.cells #[.int .u8 K, .string f, .string o, .int .i64 n] 28)) := (Ext.refl _).alloc _
  obtain ⟨W2, hW2⟩ : ∃ W2, W1.alloc (.cells #[.int .u8 K, .string f, .string o, .int .i64 n] 28) = W2 := ⟨_, rfl⟩
  rw [hW1] at hx0
  rw [hW2] at hx1
  have z1 : W1.heap.size = w.heap.size + 1 := by rw [← hW1, size_alloc]
  have HB := Lib.hid (fun W (hW : Ext W2 W) => (by
    have h := hx1.trans hW
    rw [← hW1] at h
    have h2 := hW
    rw [← hW2] at h2
    have c0 := h2.cell0 0
    have c1 := h2.cell0 1
    have c2 := h2.cell0 2
    have c3 := h2.cell0 3
    have l0 := h2.lt0
    rw [z1] at c0 c1 c2 c3 l0
    exact ⟨h.cell0 0, h.cell0 1, h.lt0, c0, c1, c2, c3, l0⟩ : W.cell? ⟨w.heap.size, 0, none⟩ = some (.slice fp A.feats.length fc) ∧ W.cell? ⟨w.heap.size, 1, none⟩ = some (.slice lp A.lets.length lc) ∧ w.heap.size < W.heap.size ∧ W.cell? ⟨w.heap.size + 1, 0, none⟩ = some (.int .u8 K) ∧ W.cell? ⟨w.heap.size + 1, 1, none⟩ = some (.string f) ∧ W.cell? ⟨w.heap.size + 1, 2, none⟩ = some (.string o) ∧ W.cell? ⟨w.heap.size + 1, 3, none⟩ = some (.int .i64 n) ∧ w.heap.size + 1 < W.heap.size))
  have HX := Lib.hid (hx0.trans hx1)
  have HWF := Lib.hid (fun W (hW : Ext w W) => word17_any fp lp fc lc A hok f q2 W (hA.mono hW) (hT.ext hW))
  have HWO := Lib.hid (fun W (hW : Ext w W) => word17_any fp lp fc lc A hok o q3 W (hA.mono hW) (hT.ext hW))
  have HCK := Lib.hid (fun W (hW : Ext w W) => Check13_any fp lp fc lc A ⟨#[]⟩ f (by decide) q2 W (hA.mono hW))
  have HSE := Lib.hid (shape17 hok f)
  have hW2e : (w.alloc (.cells #[.slice fp A.feats.length fc, .slice lp A.lets.length lc] 25)).alloc (.cells #[.int .u8 K, .string f, .string o, .int .i64 n] 28) = W2 := by rw [hW1, hW2]
  obtain ⟨d0, d1, l0, c0, c1, c2, c3, l1⟩ := HB.out _ (Ext.refl _)
  obtain ⟨SE, hSE⟩ : ∃ SE, shapeE A ⟨#[]⟩ f = SE := ⟨_, rfl⟩
  rw [hSE] at HCK HSE
  clear hW1 hW2 hx0 hx1 z1 hSE
  have HAB := Lib.hid (affB_K A k f o n)
  obtain ⟨B, hB⟩ : ∃ B, affB A ⟨k, f, o, n⟩ = B := ⟨_, rfl⟩
  obtain ⟨FB, hFB⟩ : ∃ FB, formB A f = FB := ⟨_, rfl⟩
  obtain ⟨WF, hWF⟩ : ∃ WF, wdB A f = WF := ⟨_, rfl⟩
  obtain ⟨WO, hWO⟩ : ∃ WO, wdB A o = WO := ⟨_, rfl⟩
  rw [hB, hFB, hWF, hWO] at HAB
  rw [hB]
  rw [hFB] at HSE
  rw [hWF] at HWF
  rw [hWO] at HWO
  clear hB hFB hWF hWO hok hA hT
  by_cases k1 : k = 1
  · subst k1
    obtain rfl : K = 1 := by omega
    have HAB := Lib.hid (show B = (WF && decide (o.size = 0) && decide (n = 0)) from HAB.out)
    cases WF
    · have hB : B = false := by rw [HAB.out]; simp
      subst hB
      go_enter Tryz.func29, Tryz.ntmps29
      go_wp2_with fail
      all_goals
        refine (HWF.out _ (HX.out.trans (Ext.refl _))).mono ?_
        rintro e w3 ⟨rfl, hy3⟩
        clear hW2e d0 d1 l0 c0 c1 c2 c3 l1
        have hz3 := (Ext.refl _).trans hy3
        obtain ⟨d0, d1, l0, c0, c1, c2, c3, l1⟩ := HB.out _ hz3
        go_wp2_with fail
        go_ret
        exact ⟨rfl, HX.out.trans hz3⟩
    · by_cases ho : o.size = 0
      · have go := empty_yes ho
        by_cases hn : n = 0
        · have hB : B = true := by rw [HAB.out]; simp [ho, hn]
          subst hB
          subst hn
          go_enter Tryz.func29, Tryz.ntmps29
          go_wp2_with fail
          all_goals
            refine (HWF.out _ (HX.out.trans (Ext.refl _))).mono ?_
            rintro e w3 ⟨rfl, hy3⟩
            clear hW2e d0 d1 l0 c0 c1 c2 c3 l1
            have hz3 := (Ext.refl _).trans hy3
            obtain ⟨d0, d1, l0, c0, c1, c2, c3, l1⟩ := HB.out _ hz3
            go_wp2_with fail
            go_ret
            exact ⟨rfl, HX.out.trans hz3⟩
        · have hB : B = false := by rw [HAB.out]; simp [hn]
          subst hB
          have gn : (n == 0) = false := by rw [beq_eq_false_iff_ne]; exact hn
          go_enter Tryz.func29, Tryz.ntmps29
          go_wp2_with fail
          all_goals
            refine (HWF.out _ (HX.out.trans (Ext.refl _))).mono ?_
            rintro e w3 ⟨rfl, hy3⟩
            clear hW2e d0 d1 l0 c0 c1 c2 c3 l1
            have hz3 := (Ext.refl _).trans hy3
            obtain ⟨d0, d1, l0, c0, c1, c2, c3, l1⟩ := HB.out _ hz3
            go_wp2_with fail
            go_ret
            exact ⟨rfl, HX.out.trans hz3⟩
      · have hB : B = false := by rw [HAB.out]; simp [ho]
        subst hB
        have go := empty_no ho
        go_enter Tryz.func29, Tryz.ntmps29
        go_wp2_with fail
        all_goals
          refine (HWF.out _ (HX.out.trans (Ext.refl _))).mono ?_
          rintro e w3 ⟨rfl, hy3⟩
          clear hW2e d0 d1 l0 c0 c1 c2 c3 l1
          have hz3 := (Ext.refl _).trans hy3
          obtain ⟨d0, d1, l0, c0, c1, c2, c3, l1⟩ := HB.out _ hz3
          go_wp2_with fail
          go_ret
          exact ⟨rfl, HX.out.trans hz3⟩
  by_cases k2 : k = 2
  · subst k2
    obtain rfl : K = 2 := by omega
    have HAB := Lib.hid (show B = (WF && decide (o.size = 0) && decide (n = 0)) from HAB.out)
    cases WF
    · have hB : B = false := by rw [HAB.out]; simp
      subst hB
      go_enter Tryz.func29, Tryz.ntmps29
      go_wp2_with fail
      all_goals
        refine (HWF.out _ (HX.out.trans (Ext.refl _))).mono ?_
        rintro e w3 ⟨rfl, hy3⟩
        clear hW2e d0 d1 l0 c0 c1 c2 c3 l1
        have hz3 := (Ext.refl _).trans hy3
        obtain ⟨d0, d1, l0, c0, c1, c2, c3, l1⟩ := HB.out _ hz3
        go_wp2_with fail
        go_ret
        exact ⟨rfl, HX.out.trans hz3⟩
    · by_cases ho : o.size = 0
      · have go := empty_yes ho
        by_cases hn : n = 0
        · have hB : B = true := by rw [HAB.out]; simp [ho, hn]
          subst hB
          subst hn
          go_enter Tryz.func29, Tryz.ntmps29
          go_wp2_with fail
          all_goals
            refine (HWF.out _ (HX.out.trans (Ext.refl _))).mono ?_
            rintro e w3 ⟨rfl, hy3⟩
            clear hW2e d0 d1 l0 c0 c1 c2 c3 l1
            have hz3 := (Ext.refl _).trans hy3
            obtain ⟨d0, d1, l0, c0, c1, c2, c3, l1⟩ := HB.out _ hz3
            go_wp2_with fail
            go_ret
            exact ⟨rfl, HX.out.trans hz3⟩
        · have hB : B = false := by rw [HAB.out]; simp [hn]
          subst hB
          have gn : (n == 0) = false := by rw [beq_eq_false_iff_ne]; exact hn
          go_enter Tryz.func29, Tryz.ntmps29
          go_wp2_with fail
          all_goals
            refine (HWF.out _ (HX.out.trans (Ext.refl _))).mono ?_
            rintro e w3 ⟨rfl, hy3⟩
            clear hW2e d0 d1 l0 c0 c1 c2 c3 l1
            have hz3 := (Ext.refl _).trans hy3
            obtain ⟨d0, d1, l0, c0, c1, c2, c3, l1⟩ := HB.out _ hz3
            go_wp2_with fail
            go_ret
            exact ⟨rfl, HX.out.trans hz3⟩
      · have hB : B = false := by rw [HAB.out]; simp [ho]
        subst hB
        have go := empty_no ho
        go_enter Tryz.func29, Tryz.ntmps29
        go_wp2_with fail
        all_goals
          refine (HWF.out _ (HX.out.trans (Ext.refl _))).mono ?_
          rintro e w3 ⟨rfl, hy3⟩
          clear hW2e d0 d1 l0 c0 c1 c2 c3 l1
          have hz3 := (Ext.refl _).trans hy3
          obtain ⟨d0, d1, l0, c0, c1, c2, c3, l1⟩ := HB.out _ hz3
          go_wp2_with fail
          go_ret
          exact ⟨rfl, HX.out.trans hz3⟩
  by_cases k3 : k = 3
  · subst k3
    obtain rfl : K = 3 := by omega
    have HAB := Lib.hid (show B = (WF && WO && decide (n = 0)) from HAB.out)
    cases WF
    · have hB : B = false := by rw [HAB.out]; simp
      subst hB
      go_enter Tryz.func29, Tryz.ntmps29
      go_wp2_with fail
      all_goals
        refine (HWF.out _ (HX.out.trans (Ext.refl _))).mono ?_
        rintro e w3 ⟨rfl, hy3⟩
        clear hW2e d0 d1 l0 c0 c1 c2 c3 l1
        have hz3 := (Ext.refl _).trans hy3
        obtain ⟨d0, d1, l0, c0, c1, c2, c3, l1⟩ := HB.out _ hz3
        go_wp2_with fail
        go_ret
        exact ⟨rfl, HX.out.trans hz3⟩
    · cases WO
      · have hB : B = false := by rw [HAB.out]; simp
        subst hB
        go_enter Tryz.func29, Tryz.ntmps29
        go_wp2_with fail
        all_goals
          refine (HWF.out _ (HX.out.trans (Ext.refl _))).mono ?_
          rintro e w3 ⟨rfl, hy3⟩
          clear hW2e d0 d1 l0 c0 c1 c2 c3 l1
          have hz3 := (Ext.refl _).trans hy3
          obtain ⟨d0, d1, l0, c0, c1, c2, c3, l1⟩ := HB.out _ hz3
          go_wp2_with fail
          refine (HWO.out _ (HX.out.trans hz3)).mono ?_
          rintro e w4 ⟨rfl, hy4⟩
          have hz4 := hz3.trans hy4
          obtain ⟨d0, d1, l0, c0, c1, c2, c3, l1⟩ := HB.out _ hz4
          go_wp2_with fail
          go_ret
          exact ⟨rfl, HX.out.trans hz4⟩
      · by_cases hn : n = 0
        · have hB : B = true := by rw [HAB.out]; simp [hn]
          subst hB
          subst hn
          go_enter Tryz.func29, Tryz.ntmps29
          go_wp2_with fail
          all_goals
            refine (HWF.out _ (HX.out.trans (Ext.refl _))).mono ?_
            rintro e w3 ⟨rfl, hy3⟩
            clear hW2e d0 d1 l0 c0 c1 c2 c3 l1
            have hz3 := (Ext.refl _).trans hy3
            obtain ⟨d0, d1, l0, c0, c1, c2, c3, l1⟩ := HB.out _ hz3
            go_wp2_with fail
            refine (HWO.out _ (HX.out.trans hz3)).mono ?_
            rintro e w4 ⟨rfl, hy4⟩
            have hz4 := hz3.trans hy4
            obtain ⟨d0, d1, l0, c0, c1, c2, c3, l1⟩ := HB.out _ hz4
            go_wp2_with fail
            go_ret
            exact ⟨rfl, HX.out.trans hz4⟩
        · have hB : B = false := by rw [HAB.out]; simp [hn]
          subst hB
          have gn : (n == 0) = false := by rw [beq_eq_false_iff_ne]; exact hn
          go_enter Tryz.func29, Tryz.ntmps29
          go_wp2_with fail
          all_goals
            refine (HWF.out _ (HX.out.trans (Ext.refl _))).mono ?_
            rintro e w3 ⟨rfl, hy3⟩
            clear hW2e d0 d1 l0 c0 c1 c2 c3 l1
            have hz3 := (Ext.refl _).trans hy3
            obtain ⟨d0, d1, l0, c0, c1, c2, c3, l1⟩ := HB.out _ hz3
            go_wp2_with fail
            refine (HWO.out _ (HX.out.trans hz3)).mono ?_
            rintro e w4 ⟨rfl, hy4⟩
            have hz4 := hz3.trans hy4
            obtain ⟨d0, d1, l0, c0, c1, c2, c3, l1⟩ := HB.out _ hz4
            go_wp2_with fail
            go_ret
            exact ⟨rfl, HX.out.trans hz4⟩
  by_cases k4 : k = 4
  · subst k4
    obtain rfl : K = 4 := by omega
    have HAB := Lib.hid (show B = (WF && decide (o.size = 0) && decide (0 ≤ n ∧ n ≤ 64)) from HAB.out)
    cases WF
    · have hB : B = false := by rw [HAB.out]; simp
      subst hB
      go_enter Tryz.func29, Tryz.ntmps29
      go_wp2_with fail
      all_goals
        refine (HWF.out _ (HX.out.trans (Ext.refl _))).mono ?_
        rintro e w3 ⟨rfl, hy3⟩
        clear hW2e d0 d1 l0 c0 c1 c2 c3 l1
        have hz3 := (Ext.refl _).trans hy3
        obtain ⟨d0, d1, l0, c0, c1, c2, c3, l1⟩ := HB.out _ hz3
        go_wp2_with fail
        go_ret
        exact ⟨rfl, HX.out.trans hz3⟩
    · by_cases ho : o.size = 0
      · have go := empty_yes ho
        rcases (by omega : n < 0 ∨ 64 < n ∨ (0 ≤ n ∧ n ≤ 64)) with a1 | a1 | ⟨a1, a2⟩
        · have hB : B = false := by rw [HAB.out, decide_eq_false (show ¬ (0 ≤ n ∧ n ≤ 64) by omega), Bool.and_false]
          subst hB
          go_enter Tryz.func29, Tryz.ntmps29
          go_wp2_with fail
          all_goals
            refine (HWF.out _ (HX.out.trans (Ext.refl _))).mono ?_
            rintro e w3 ⟨rfl, hy3⟩
            clear hW2e d0 d1 l0 c0 c1 c2 c3 l1
            have hz3 := (Ext.refl _).trans hy3
            obtain ⟨d0, d1, l0, c0, c1, c2, c3, l1⟩ := HB.out _ hz3
            go_wp2_with fail
            go_ret
            exact ⟨rfl, HX.out.trans hz3⟩
        · have hB : B = false := by rw [HAB.out, decide_eq_false (show ¬ (0 ≤ n ∧ n ≤ 64) by omega), Bool.and_false]
          subst hB
          have gp2 : decide (n ≤ 64) = false := decide_eq_false (by omega)
          go_enter Tryz.func29, Tryz.ntmps29
          go_wp2_with fail
          all_goals
            refine (HWF.out _ (HX.out.trans (Ext.refl _))).mono ?_
            rintro e w3 ⟨rfl, hy3⟩
            clear hW2e d0 d1 l0 c0 c1 c2 c3 l1
            have hz3 := (Ext.refl _).trans hy3
            obtain ⟨d0, d1, l0, c0, c1, c2, c3, l1⟩ := HB.out _ hz3
            go_wp2_with fail
            go_ret
            exact ⟨rfl, HX.out.trans hz3⟩
        · have hB : B = true := by rw [HAB.out]; simp [ho]; omega
          subst hB
          go_enter Tryz.func29, Tryz.ntmps29
          go_wp2_with fail
          all_goals
            refine (HWF.out _ (HX.out.trans (Ext.refl _))).mono ?_
            rintro e w3 ⟨rfl, hy3⟩
            clear hW2e d0 d1 l0 c0 c1 c2 c3 l1
            have hz3 := (Ext.refl _).trans hy3
            obtain ⟨d0, d1, l0, c0, c1, c2, c3, l1⟩ := HB.out _ hz3
            go_wp2_with fail
            go_ret
            exact ⟨rfl, HX.out.trans hz3⟩
      · have hB : B = false := by rw [HAB.out]; simp [ho]
        subst hB
        have go := empty_no ho
        go_enter Tryz.func29, Tryz.ntmps29
        go_wp2_with fail
        all_goals
          refine (HWF.out _ (HX.out.trans (Ext.refl _))).mono ?_
          rintro e w3 ⟨rfl, hy3⟩
          clear hW2e d0 d1 l0 c0 c1 c2 c3 l1
          have hz3 := (Ext.refl _).trans hy3
          obtain ⟨d0, d1, l0, c0, c1, c2, c3, l1⟩ := HB.out _ hz3
          go_wp2_with fail
          go_ret
          exact ⟨rfl, HX.out.trans hz3⟩
  by_cases k5 : k = 5
  · subst k5
    obtain rfl : K = 5 := by omega
    have HAB := Lib.hid (show B = (FB && decide (o.size = 0) && decide (n = 0)) from HAB.out)
    cases FB
    · have hB : B = false := by rw [HAB.out]; simp
      subst hB
      have gS : (SE == 0) = false := by rw [beq_eq_false_iff_ne]; exact fun h => absurd (HSE.out.1 h) (by decide)
      go_enter Tryz.func29, Tryz.ntmps29
      go_wp2_with fail
      all_goals
        refine (HCK.out _ (HX.out.trans (Ext.refl _))).mono ?_
        rintro e w3 ⟨rfl, hy3⟩
        clear hW2e d0 d1 l0 c0 c1 c2 c3 l1
        have hz3 := (Ext.refl _).trans hy3
        obtain ⟨d0, d1, l0, c0, c1, c2, c3, l1⟩ := HB.out _ hz3
        go_wp2_with fail
        go_ret
        exact ⟨rfl, HX.out.trans hz3⟩
    · have gS : SE = 0 := HSE.out.2 rfl
      subst gS
      by_cases ho : o.size = 0
      · have go := empty_yes ho
        by_cases hn : n = 0
        · have hB : B = true := by rw [HAB.out]; simp [ho, hn]
          subst hB
          subst hn
          go_enter Tryz.func29, Tryz.ntmps29
          go_wp2_with fail
          all_goals
            refine (HCK.out _ (HX.out.trans (Ext.refl _))).mono ?_
            rintro e w3 ⟨rfl, hy3⟩
            clear hW2e d0 d1 l0 c0 c1 c2 c3 l1
            have hz3 := (Ext.refl _).trans hy3
            obtain ⟨d0, d1, l0, c0, c1, c2, c3, l1⟩ := HB.out _ hz3
            go_wp2_with fail
            go_ret
            exact ⟨rfl, HX.out.trans hz3⟩
        · have hB : B = false := by rw [HAB.out]; simp [hn]
          subst hB
          have gn : (n == 0) = false := by rw [beq_eq_false_iff_ne]; exact hn
          go_enter Tryz.func29, Tryz.ntmps29
          go_wp2_with fail
          all_goals
            refine (HCK.out _ (HX.out.trans (Ext.refl _))).mono ?_
            rintro e w3 ⟨rfl, hy3⟩
            clear hW2e d0 d1 l0 c0 c1 c2 c3 l1
            have hz3 := (Ext.refl _).trans hy3
            obtain ⟨d0, d1, l0, c0, c1, c2, c3, l1⟩ := HB.out _ hz3
            go_wp2_with fail
            go_ret
            exact ⟨rfl, HX.out.trans hz3⟩
      · have hB : B = false := by rw [HAB.out]; simp [ho]
        subst hB
        have go := empty_no ho
        go_enter Tryz.func29, Tryz.ntmps29
        go_wp2_with fail
        all_goals
          refine (HCK.out _ (HX.out.trans (Ext.refl _))).mono ?_
          rintro e w3 ⟨rfl, hy3⟩
          clear hW2e d0 d1 l0 c0 c1 c2 c3 l1
          have hz3 := (Ext.refl _).trans hy3
          obtain ⟨d0, d1, l0, c0, c1, c2, c3, l1⟩ := HB.out _ hz3
          go_wp2_with fail
          go_ret
          exact ⟨rfl, HX.out.trans hz3⟩
  by_cases k6 : k = 6
  · subst k6
    obtain rfl : K = 6 := by omega
    have HAB := Lib.hid (show B = (decide (f.size = 0) && decide (o.size = 0) && decide (0 ≤ n ∧ n ≤ 64)) from HAB.out)
    by_cases hf : f.size = 0
    · have gf := empty_yes hf
      by_cases ho : o.size = 0
      · have go := empty_yes ho
        rcases (by omega : n < 0 ∨ 64 < n ∨ (0 ≤ n ∧ n ≤ 64)) with a1 | a1 | ⟨a1, a2⟩
        · have hB : B = false := by rw [HAB.out, decide_eq_false (show ¬ (0 ≤ n ∧ n ≤ 64) by omega), Bool.and_false]
          subst hB
          go_enter Tryz.func29, Tryz.ntmps29
          go_wp2_with fail
          all_goals
            go_ret
            exact ⟨rfl, by first | exact HX.out | (rw [hW2e]; exact HX.out)⟩
        · have hB : B = false := by rw [HAB.out, decide_eq_false (show ¬ (0 ≤ n ∧ n ≤ 64) by omega), Bool.and_false]
          subst hB
          have gp2 : decide (n ≤ 64) = false := decide_eq_false (by omega)
          go_enter Tryz.func29, Tryz.ntmps29
          go_wp2_with fail
          all_goals
            go_ret
            exact ⟨rfl, by first | exact HX.out | (rw [hW2e]; exact HX.out)⟩
        · have hB : B = true := by rw [HAB.out]; simp [hf, ho]; omega
          subst hB
          go_enter Tryz.func29, Tryz.ntmps29
          go_wp2_with fail
          all_goals
            go_ret
            exact ⟨rfl, by first | exact HX.out | (rw [hW2e]; exact HX.out)⟩
      · have hB : B = false := by rw [HAB.out]; simp [ho]
        subst hB
        have go := empty_no ho
        go_enter Tryz.func29, Tryz.ntmps29
        go_wp2_with fail
        all_goals
          go_ret
          exact ⟨rfl, by first | exact HX.out | (rw [hW2e]; exact HX.out)⟩
    · have hB : B = false := by rw [HAB.out]; simp [hf]
      subst hB
      have gf := empty_no hf
      go_enter Tryz.func29, Tryz.ntmps29
      go_wp2_with fail
      all_goals
        go_ret
        exact ⟨rfl, by first | exact HX.out | (rw [hW2e]; exact HX.out)⟩
  have hB : B = false := HAB.out.trans (affK_no k1 k2 k3 k4 k5 k6)
  subst hB
  have g1 : (K == 1) = false := by rw [beq_eq_false_iff_ne]; omega
  have g2 : (K == 2) = false := by rw [beq_eq_false_iff_ne]; omega
  have g3 : (K == 3) = false := by rw [beq_eq_false_iff_ne]; omega
  have g4 : (K == 4) = false := by rw [beq_eq_false_iff_ne]; omega
  have g5 : (K == 5) = false := by rw [beq_eq_false_iff_ne]; omega
  have g6 : (K == 6) = false := by rw [beq_eq_false_iff_ne]; omega
  go_enter Tryz.func29, Tryz.ntmps29
  go_wp2_with fail
  all_goals
    go_ret
    exact ⟨rfl, by first | exact HX.out | (rw [hW2e]; exact HX.out)⟩
end Go.Proofs.YtkmfhcjdaglikaaGreatDoor

namespace Go.Proofs.YtkmfhcjdaglikaaGreatDoor
open Go.RowKit Go.Cg Go.Shelf Go.Maps

set_option maxRecDepth 100000 in
set_option maxHeartbeats 2000000 in
theorem joined17_any (p1 p2 p3 : Option Addr) (c1 c2 c3 : Nat) (l1 l2 l3 : List Int) (b1 : l1.length ≤ 4096) (b2 : l2.length ≤ 4096) (b3 : l3.length ≤ 4096) (w : World) (h1 : RunesAt w p1 l1) (h2 : RunesAt w p2 l2) (h3 : RunesAt w p3 l3) :
    Calls Tryz.prog 48 #[.slice p1 l1.length c1, .slice p2 l2.length c2, .slice p3 l3.length c3] w fun e w' => ∃ rp rc, e = .returned (.slice rp (l1 ++ l2 ++ l3).length rc) ∧ OwnRunes 21 w.heap.size w' rp rc (l1 ++ l2 ++ l3) ∧ Ext w w' := by
  obtain ⟨i0, hi, hz0, hz1, hz2⟩ := info_parts infoR
  have a1 := runesAt_all h1
  have a2 := runesAt_all h2
  have a3 := runesAt_all h3
  have HA := Lib.hid (fun r (hr : r ∈ l1 ++ l2 ++ l3) => (by
    rcases List.mem_append.1 hr with hr | hr
    · rcases List.mem_append.1 hr with hr | hr
      · exact a1 r hr
      · exact a2 r hr
    · exact a3 r hr : -2147483648 ≤ r ∧ r ≤ 2147483647))
  have H1 := Lib.hid (fun W (hW : Ext w W) => runes_src (h1.mono hW))
  have H2 := Lib.hid (fun W (hW : Ext w W) => runes_src (h2.mono hW))
  have H3 := Lib.hid (fun W (hW : Ext w W) => runes_src (h3.mono hW))
  have hn0 := World.ownsRow_nil w w.heap.size 21 1
  have HN0 := Lib.hid hn0
  clear a1 a2 a3 h1 h2 h3 hn0
  go_enter Tryz.func48, Tryz.ntmps48
  go_wp2_with (first | (at_builtin; refine wpList_append_any _ rfl _ _ 58 rfl w.heap.size 21 i0 (.int .i32 0) 1 4 Tryz.underlying58 hi hz0 hz1 hz2 rfl (by decide) _ _ _ rfl HN0.out p1 l1.length c1 (l1.map (Value.int .i32)) rfl (by rw [List.length_map, Nat.mul_one]) (H1.out _ (Ext.refl _)) (runes_one _) (by unfold maxLen; omega) (by omega) (Nat.le_refl _) ?_; intro v1 w1 hown1 hgrow1; have hx1 : Ext w w1 := Ext.append (Ext.refl _) HN0.out hgrow1 (Nat.le_refl _)) | (at_builtin; refine wpList_append_any _ rfl _ _ 58 rfl w.heap.size 21 i0 (.int .i32 0) 1 4 Tryz.underlying58 hi hz0 hz1 hz2 rfl (by decide) _ _ _ rfl hown1 p2 l2.length c2 (l2.map (Value.int .i32)) rfl (by rw [List.length_map, Nat.mul_one]) (H2.out _ hx1) (runes_one _) (by unfold maxLen; omega) (by omega) hx1.le ?_; intro v2 w2 hown2 hgrow2; have hx2 : Ext w w2 := Ext.append hx1 hown1 hgrow2 (Nat.le_refl _)) | (at_builtin; refine wpList_append_any _ rfl _ _ 58 rfl w.heap.size 21 i0 (.int .i32 0) 1 4 Tryz.underlying58 hi hz0 hz1 hz2 rfl (by decide) _ _ _ rfl hown2 p3 l3.length c3 (l3.map (Value.int .i32)) rfl (by rw [List.length_map, Nat.mul_one]) (H3.out _ hx2) (runes_one _) (by unfold maxLen; omega) (by omega) hx2.le ?_; intro v3 w3 hown3 hgrow3; have hx3 : Ext w w3 := Ext.append hx2 hown2 hgrow3 (Nat.le_refl _)))
  have e9 : 0 + l1.length + l2.length + l3.length = (l1 ++ l2 ++ l3).length := by rw [List.length_append, List.length_append, Nat.zero_add]
  rw [e9] at hown3
  obtain ⟨rp, rc, rfl⟩ := ownsRow_slice hown3
  clear e9 hown1 hown2 hgrow1 hgrow2 hgrow3
  have HO := Lib.hid hown3
  clear hown3
  go_wp2_with fail
  go_ret
  have hown3 := HO.out
  rw [List.nil_append, ← List.map_append, ← List.map_append] at hown3
  exact ⟨rp, rc, rfl, ownRunes_mk hown3 (by simp; omega) HA.out, hx3⟩

/-- a form with letters in its holes, whatever their number -/
def fillR (l f : List Int) : Nat → List Int
  | 0 => []
  | k + 1 => fillR l f k ++ [if rn f k = 95 then (if holeN (f.take k) < l.length then rn l (holeN (f.take k)) else 95) else rn f k]
theorem fillR_len (l f : List Int) : ∀ k, (fillR l f k).length = k
  | 0 => rfl
  | k + 1 => by rw [fillR, List.length_append, fillR_len l f k]; rfl
theorem fillR_eq {l f : List Int} (h : holeN f ≤ l.length) : ∀ k, k ≤ f.length → fillR l f k = fillTo l f k
  | 0, _ => rfl
  | k + 1, hk => by
    rw [fillR, fillTo, fillR_eq h k (by omega)]
    by_cases h95 : rn f k = 95
    · have := holeN_lt (by omega : k < f.length) h95
      rw [if_pos h95, if_pos h95, if_pos (by omega)]
    · rw [if_neg h95, if_neg h95]
theorem fillR_wf {l f : List Int} {q : Int → Prop} (h1 : ∀ r ∈ l, q r) (h2 : ∀ r ∈ f, q r) (h3 : q 95) : ∀ k, k ≤ f.length → ∀ r ∈ fillR l f k, q r
  | 0, _, r, hr => by cases hr
  | k + 1, hk, r, hr => by
    rw [fillR, List.mem_append, List.mem_singleton] at hr
    rcases hr with hr | hr
    · exact fillR_wf h1 h2 h3 k (by omega) r hr
    · rw [hr]
      split
      · split
        · rename_i hlt
          rw [rn_eq hlt]; exact h1 _ (List.getElem_mem hlt)
        · exact h3
      · rw [rn_eq (by omega)]; exact h2 _ (List.getElem_mem _)
theorem fillR_1 {l f : List Int} {k m : Nat} (h : rn f k = 95) (hm : holeN (f.take k) = m) (h2 : m < l.length) : fillR l f (k + 1) = fillR l f k ++ [rn l m] := by
  subst hm; rw [fillR, if_pos h, if_pos h2]
theorem fillR_2 {l f : List Int} {k m : Nat} (h : rn f k = 95) (hm : holeN (f.take k) = m) (h2 : ¬ m < l.length) : fillR l f (k + 1) = fillR l f k ++ [95] := by
  subst hm; rw [fillR, if_pos h, if_neg h2]
theorem fillR_3 {l f : List Int} {k : Nat} (h : ¬ rn f k = 95) : fillR l f (k + 1) = fillR l f k ++ [rn f k] := by rw [fillR, if_neg h]
def FillRes (B : Nat) (l f : List Int) (e : Ending) (w' : World) : Prop := ∃ rp rc, e = .returned (.tuple #[.slice rp f.length rc, .bool (decide (holeN f = l.length))]) ∧ OwnRunes 21 B w' rp rc (fillR l f f.length)

set_option maxRecDepth 100000 in
set_option maxHeartbeats 4000000 in
theorem filled17_any (fp lp : Option Addr) (fc lc : Nat) (f l : List Int) (hf : f.length ≤ 4096) (hl : l.length ≤ 4096) (w : World) (h1 : RunesAt w fp f) (h2 : RunesAt w lp l) :
    Calls Tryz.prog 50 #[.slice fp f.length fc, .slice lp l.length lc] w fun e w' => FillRes w.heap.size l f e w' ∧ Ext w w' := by
  obtain ⟨i0, hi, hz0, hz1, hz2⟩ := info_parts infoR
  have HW := Lib.hid (fillR_wf (runesAt_all h2) (runesAt_all h1) (by decide : (-2147483648 : Int) ≤ 95 ∧ (95 : Int) ≤ 2147483647))
  have H1 := Lib.hid h1
  have H2 := Lib.hid h2
  clear h1 h2
  go_enter Tryz.func50, Tryz.ntmps50
  go_wp2_with fail
  go_loopw [6, 7, 8] (fun out n i wr => ∃ (k m : Nat), k ≤ f.length ∧ m ≤ k ∧ i = .int .i64 k ∧ n = .int .i64 m ∧ Hid (holeN (f.take k) = m) ∧ Ext w wr ∧ wr.ownsRow w.heap.size 21 1 out k ((fillR l f k).map (Value.int .i32))) (fun _ _ i _ => f.length - (intOf i).toNat)
  case atStart => exact ⟨0, 0, Nat.zero_le _, Nat.zero_le _, rfl, rfl, Lib.hid rfl, Ext.refl _, World.ownsRow_nil _ _ _ _⟩
  case round =>
    obtain ⟨k, m, hk, hmk, rfl, rfl, HM, hx, hown⟩ := hrel
    obtain ⟨rp, rc, rfl⟩ := ownsRow_slice hown
    by_cases hlt : k < f.length
    · obtain ⟨b, off, e0, hbw, q0⟩ := (H1.out.mono hx).cells hlt
      have HT := Lib.hid (holeN_take hlt)
      by_cases h95 : rn f k = 95
      · have HM2 := Lib.hid (show holeN (f.take (k + 1)) = m + 1 by rw [HT.out, HM.out, if_pos h95])
        rw [h95] at q0
        by_cases hml : m < l.length
        · obtain ⟨b2, off2, e2, hbw2, q1⟩ := (H2.out.mono hx).cells hml
          have HS := Lib.hid (fillR_1 h95 HM.out hml)
          subst e0 e2
          clear h95
          go_wp2_with (at_builtin; go_loud (refine wpList_append_own _ rfl _ _ 58 rfl w.heap.size 21 i0 (.int .i32 0) 1 4 Tryz.underlying58 hi hz0 hz1 hz2 rfl (by decide) _ _ _ rfl (hown.alloc _) ⟨wr.heap.size, 0, none⟩ 1 1 [.int .i32 (rn l m)] rfl rfl (one_cell _ _ _) (by simp [Value.oneCell']) (by unfold maxLen; omega) (by omega) (by simp; have := hx.le; omega) ?_); intro v' w4 hown4 hgrow _)
          refine ⟨⟨k + 1, m + 1, by omega, by omega, by go_num, by go_num, HM2, Ext.append (hx.alloc _) (hown.alloc _) hgrow (Nat.le_refl _), ?_⟩, by simp [intOf]; omega⟩
          rw [HS.out, List.map_append]; exact hown4
        · have HS := Lib.hid (fillR_2 (l := l) h95 HM.out hml)
          subst e0
          clear h95
          go_wp2_with (at_builtin; go_loud (refine wpList_append_own _ rfl _ _ 58 rfl w.heap.size 21 i0 (.int .i32 0) 1 4 Tryz.underlying58 hi hz0 hz1 hz2 rfl (by decide) _ _ _ rfl (hown.alloc _) ⟨wr.heap.size, 0, none⟩ 1 1 [.int .i32 95] rfl rfl (one_cell _ _ _) (by simp [Value.oneCell']) (by unfold maxLen; omega) (by omega) (by simp; have := hx.le; omega) ?_); intro v' w4 hown4 hgrow _)
          refine ⟨⟨k + 1, m + 1, by omega, by omega, by go_num, by go_num, HM2, Ext.append (hx.alloc _) (hown.alloc _) hgrow (Nat.le_refl _), ?_⟩, by simp [intOf]; omega⟩
          rw [HS.out, List.map_append]; exact hown4
      · have HM2 := Lib.hid (show holeN (f.take (k + 1)) = m by rw [HT.out, HM.out, if_neg h95]; rfl)
        have HS := Lib.hid (fillR_3 (l := l) h95)
        have g95 : (rn f k == 95) = false := by rw [beq_eq_false_iff_ne]; exact h95
        subst e0
        clear h95
        go_wp2_with (at_builtin; go_loud (refine wpList_append_own _ rfl _ _ 58 rfl w.heap.size 21 i0 (.int .i32 0) 1 4 Tryz.underlying58 hi hz0 hz1 hz2 rfl (by decide) _ _ _ rfl (hown.alloc _) ⟨wr.heap.size, 0, none⟩ 1 1 [.int .i32 (rn f k)] rfl rfl (one_cell _ _ _) (by simp [Value.oneCell']) (by unfold maxLen; omega) (by omega) (by simp; have := hx.le; omega) ?_); intro v' w4 hown4 hgrow _)
        refine ⟨⟨k + 1, m, by omega, by omega, by go_num, rfl, HM2, Ext.append (hx.alloc _) (hown.alloc _) hgrow (Nat.le_refl _), ?_⟩, by simp [intOf]; omega⟩
        rw [HS.out, List.map_append]; exact hown4
    · have e : k = f.length := by omega
      subst e
      have hm := HM.out
      rw [List.take_length] at hm
      have HM3 := Lib.hid hm
      have HO := Lib.hid hown
      clear hm hown
      by_cases hN : m = l.length
      · subst hN
        have HD : decide (holeN f = l.length) = true := decide_eq_true HM3.out
        have HD2 := Lib.hid HD
        clear HD
        go_wp2_with fail
        go_ret2
        refine ⟨⟨rp, rc, (by rw [HD2.out]; rfl), ownRunes_mk (by rw [fillR_len]; exact HO.out) (by rw [fillR_len]; omega) (HW.out _ (Nat.le_refl _))⟩, hx⟩
      · have HD : decide (holeN f = l.length) = false := decide_eq_false (by rw [HM3.out]; exact hN)
        have HD2 := Lib.hid HD
        have g1 : ((m : Int) == (l.length : Int)) = false := by rw [beq_eq_false_iff_ne]; omega
        have g2 : (m == l.length) = false := by rw [beq_eq_false_iff_ne]; exact hN
        clear HD
        go_wp2_with fail
        go_ret2
        refine ⟨⟨rp, rc, (by rw [HD2.out]; rfl), ownRunes_mk (by rw [fillR_len]; exact HO.out) (by rw [fillR_len]; omega) (HW.out _ (Nat.le_refl _))⟩, hx⟩

theorem rootL_zero (A : Alpha) (v : Nat) (l : List Int) : rootL A v (l.take 0) = [] := rfl
theorem rootL_yes {A : Alpha} {v : Nat} {l : List Int} {k : Nat} (hk : k < l.length) (h : hasL A v 0 (rn l k) = false) : rootL A v (l.take (k + 1)) = rootL A v (l.take k) ++ [rn l k] := by
  unfold rootL; rw [take_rn hk, List.filter_append]; simp [h]
theorem rootL_not {A : Alpha} {v : Nat} {l : List Int} {k : Nat} (hk : k < l.length) (h : hasL A v 0 (rn l k) = true) : rootL A v (l.take (k + 1)) = rootL A v (l.take k) := by
  unfold rootL; rw [take_rn hk, List.filter_append]; simp [h]
theorem rootL_take_len (A : Alpha) (v : Nat) (l : List Int) (k : Nat) : (rootL A v (l.take k)).length ≤ k := Nat.le_trans (rootL_len A v _) (by rw [List.length_take]; omega)

set_option maxRecDepth 100000 in
set_option maxHeartbeats 8000000 in
theorem radicals17_any (fp ap lp : Option Addr) (fc ac lc : Nat) (A : Alpha) (v : Nat) (hv : v < 4294967296) (l : List Int) (hin : InA A l) (hl : l.length ≤ 4096) (w : World) (hA : AlphaAt w fp ap A) (h : RunesAt w lp l) :
    Calls Tryz.prog 49 #[.agg #[.slice fp A.feats.length fc, .slice ap A.lets.length ac], .int .u32 v, .slice lp l.length lc] w fun e w' => ∃ rp rc, e = .returned (.slice rp (rootL A v l).length rc) ∧ OwnRunes 21 w.heap.size w' rp rc (rootL A v l) ∧ Ext w w' := by
  obtain ⟨i0, hi, hz0, hz1, hz2⟩ := info_parts infoR
  have hx0 : Ext w (w.alloc (.cells #[.slice fp A.feats.length fc, .slice ap A.lets.length ac] 25)) := (Ext.refl _).alloc _
  have HBX := Lib.hid (fun W (hW : Ext (w.alloc (.cells #[.slice fp A.feats.length fc, .slice ap A.lets.length ac] 25)) W) => (⟨hW.cell0 0, hW.cell0 1, hW.lt0⟩ : W.cell? ⟨w.heap.size, 0, none⟩ = some (.slice fp A.feats.length fc) ∧ W.cell? ⟨w.heap.size, 1, none⟩ = some (.slice ap A.lets.length ac) ∧ w.heap.size < W.heap.size))
  have HFI := Lib.hid (fun r W (hW : Ext w W) => Find_any fp ap fc ac A r W (hA.mono hW))
  have HAC := Lib.hid (fun W (hW : Ext w W) j (hj : j < A.lets.length) => (hA.mono hW).cells hj)
  have HLI := Lib.hid hin
  have HWF := Lib.hid hA.wf
  have HH := Lib.hid h
  have HRR := Lib.hid (fun r (hr : r ∈ rootL A v l) => runesAt_all h r (List.mem_filter.1 hr).1)
  have hal := hA.lbig
  clear h hin hA
  go_enter Tryz.func49, Tryz.ntmps49
  go_wp2_with fail
  go_loopw [7, 8] (fun out i wr => ∃ k : Nat, k ≤ l.length ∧ i = .int .i64 k ∧ Ext (w.alloc (.cells #[.slice fp A.feats.length fc, .slice ap A.lets.length ac] 25)) wr ∧ wr.ownsRow (w.heap.size + 1) 21 1 out (rootL A v (l.take k)).length ((rootL A v (l.take k)).map (Value.int .i32))) (fun _ i _ => l.length - (intOf i).toNat)
  case atStart => exact ⟨0, Nat.zero_le _, rfl, Ext.refl _, World.ownsRow_nil _ _ _ _⟩
  case round =>
    obtain ⟨k, hk, rfl, hx, hown⟩ := hrel
    obtain ⟨rp, rc, rfl⟩ := ownsRow_slice hown
    by_cases hlt : k < l.length
    · have hwr := hx0.trans hx
      obtain ⟨b, off, e0, hbw, q0⟩ := (HH.out.mono hwr).cells hlt
      obtain ⟨j, hj, hjl, hjr, _⟩ := findLetter_some (HLI.out (rn l k) (by rw [rn_eq hlt]; exact List.getElem_mem hlt))
      obtain ⟨b2, off2, e2, hbw2, m0, m1, m2⟩ := HAC.out _ hwr j hjl
      obtain ⟨wf1, wf2, wf3, wf4⟩ := HWF.out j hjl
      have hhas : hasL A v 0 (rn l k) = likeB (A.at_ j).plus (A.at_ j).minus v 0 := by unfold hasL; rw [hj, decide_eq_true (by omega), Bool.true_and, Int.toNat_natCast]
      have HY := Lib.hid (fun h => rootL_yes (A := A) (v := v) hlt h)
      have HN := Lib.hid (fun h => rootL_not (A := A) (v := v) hlt h)
      have hlen := rootL_take_len A v l k
      have HLK := Lib.hid (fun W => Like_any (A.at_ j).rune (A.at_ j).plus (A.at_ j).minus v 0 wf3 wf4 hv (by decide) W)
      have HFK := Lib.hid (HFI.out (rn l k))
      rw [hj] at HFK
      rw [hhas] at HY HN
      obtain ⟨r, hr⟩ : ∃ r, rn l k = r := ⟨_, rfl⟩
      obtain ⟨X, hX⟩ : ∃ X, A.at_ j = X := ⟨_, rfl⟩
      rw [hr] at q0 HY HFK
      rw [hX] at m0 m1 m2 wf1 wf2 wf3 wf4 HY HN HLK
      obtain ⟨Q, hQ⟩ : ∃ Q, likeB X.plus X.minus v 0 = Q := ⟨_, rfl⟩
      rw [hQ] at HY HN HLK
      obtain ⟨R, hR⟩ : ∃ R, rootL A v (l.take k) = R := ⟨_, rfl⟩
      rw [hR] at HY HN hlen hown
      rw [hR]
      subst ap
      subst lp
      clear hr hX hQ hR hj hjr hhas
      obtain ⟨d0, d1, l0⟩ := HBX.out _ hx
      have HS4 := Lib.hid (fun (W : World) (hW : Ext wr W) => (⟨hW, (HBX.out _ (hx.trans hW)).1, (HBX.out _ (hx.trans hW)).2.1, (hW.facts.1 _ _ hbw).trans q0, (hW.facts.1 _ _ hbw2).trans m0, (hW.facts.1 _ _ hbw2).trans m1, (hW.facts.1 _ _ hbw2).trans m2⟩ : Ext wr W ∧ W.cell? ⟨w.heap.size, 0, none⟩ = some (.slice fp A.feats.length fc) ∧ W.cell? ⟨w.heap.size, 1, none⟩ = some (.slice (some ⟨b2, off2, none⟩) A.lets.length ac) ∧ W.cell? ⟨b, off + k, none⟩ = some (.int .i32 r) ∧ W.cell? ⟨b2, off2 + j * 3, none⟩ = some (.int .i32 X.rune) ∧ W.cell? ⟨b2, off2 + j * 3 + 1, none⟩ = some (.int .u32 (X.plus : Int)) ∧ W.cell? ⟨b2, off2 + j * 3 + 2, none⟩ = some (.int .u32 (X.minus : Int))))
      have HLE := Lib.hid hx.le
      go_wp2_with fail
      go_region_held3 (fun W => Ext wr W ∧ W.cell? ⟨w.heap.size, 0, none⟩ = some (.slice fp A.feats.length fc) ∧ W.cell? ⟨w.heap.size, 1, none⟩ = some (.slice (some ⟨b2, off2, none⟩) A.lets.length ac) ∧ W.cell? ⟨b, off + k, none⟩ = some (.int .i32 r) ∧ W.cell? ⟨b2, off2 + j * 3, none⟩ = some (.int .i32 X.rune) ∧ W.cell? ⟨b2, off2 + j * 3 + 1, none⟩ = some (.int .u32 (X.plus : Int)) ∧ W.cell? ⟨b2, off2 + j * 3 + 2, none⟩ = some (.int .u32 (X.minus : Int)))
        (exact HS4.out _ (by repeat (first | assumption | exact Ext.refl _ | refine Ext.drew ?_ | refine Ext.alloc ?_ _ | refine Ext.setCell ?_ (by first | exact Nat.le_refl _ | exact hE5.le | (simp; omega)) _)))
        ((go_at_call 68; refine (HFK.out _ (hwr.trans (by repeat (first | assumption | exact Ext.refl _ | refine Ext.drew ?_ | refine Ext.alloc ?_ _)))).mono ?_; rintro e w5 ⟨rfl, hq5⟩; have hE5 : Ext wr w5 := Ext.trans (by repeat (first | assumption | exact Ext.refl _ | refine Ext.drew ?_ | refine Ext.alloc ?_ _)) hq5; try (have hq6 := Ext.trans ((Ext.refl _).drew) hq5; have z0 := hq6.cell0 0; have z1 := hq6.cell0 1; have z2 := hq6.cell0 2; have zf0 := hq6.froz0 0; have zf1 := hq6.froz0 1; have zf2 := hq6.froz0 2; have zl := hq6.lt0; simp only [List.getElem?_toArray, List.getElem?_cons_zero, List.getElem?_cons_succ] at z0 z1 z2)))
      all_goals
        go_wp2_with fail
        refine (HLK.out _).mono ?_
        rintro e w6 ⟨rfl, hq6⟩
        have hE6 : Ext wr w6 := Ext.trans (by repeat (first | assumption | exact Ext.refl _ | refine Ext.drew ?_ | refine Ext.alloc ?_ _ | refine Ext.setCell ?_ (by first | exact Nat.le_refl _ | exact hE5.le | (simp; omega)) _)) hq6
        have q6 := (hE6.facts.1 _ _ hbw).trans q0
        have hb6 := Nat.lt_of_lt_of_le hbw hE6.le
        have hown6 := ownsRow_ext hown hE6
        have hle6 := (hx.trans hE6).le
        rw [size_alloc] at hle6
        clear q0 hown HS4 d0 d1 l0 hq6 hE5
        cases Q
        · have HS := Lib.hid (HY.out rfl)
          go_wp2_with (at_builtin; go_loud (refine wpList_append_own _ rfl _ _ 58 rfl (w.heap.size + 1) 21 i0 (.int .i32 0) 1 4 Tryz.underlying58 hi hz0 hz1 hz2 rfl (by decide) _ _ _ rfl (hown6.alloc _) ⟨w6.heap.size, 0, none⟩ 1 1 [.int .i32 r] rfl rfl (one_cell _ _ _) (by simp [Value.oneCell']) (by unfold maxLen; omega) (by omega) (by simp; omega) ?_); intro v' w4 hown4 hgrow _)
          refine ⟨⟨k + 1, by omega, by go_num, Ext.append ((hx.trans hE6).alloc _) (hown6.alloc _) hgrow (by simp), ?_⟩, by simp [intOf]; omega⟩
          rw [HS.out, List.map_append, List.length_append]; exact hown4
        · have HS := Lib.hid (HN.out rfl)
          go_wp2_with fail
          refine ⟨⟨k + 1, by omega, by go_num, hx.trans hE6, ?_⟩, by simp [intOf]; omega⟩
          rw [HS.out]; exact hown6
    · have e : k = l.length := by omega
      subst e
      have HO := Lib.hid hown
      clear hown
      rw [List.take_length] at HO ⊢
      go_wp2_with fail
      go_ret
      exact ⟨rp, rc, rfl, ownRunes_mk (ownsRow_base HO.out (by omega)) (Nat.le_trans (rootL_len _ _ _) (by omega)) HRR.out, hx0.trans hx⟩
end Go.Proofs.YtkmfhcjdaglikaaGreatDoor

namespace Go.Proofs.YtkmfhcjdaglikaaGreatDoor
open Go.RowKit Go.Cg Go.Shelf Go.Maps

set_option maxRecDepth 100000 in
set_option maxHeartbeats 1000000 in
theorem vowels17_any (fp lp : Option Addr) (fc lc : Nat) (A : Alpha) (v : Nat) (hv : v < 4294967296) (w : World) (hA : AlphaAt w fp lp A) :
    Calls Tryz.prog 27 #[.agg #[.slice fp A.feats.length fc, .slice lp A.lets.length lc], .int .u32 v] w fun e w' => e = .returned (.int .i64 (classE A v 0)) ∧ Ext w w' := by
  have hx3 : Ext w (w.alloc (.cells #[.slice fp A.feats.length fc, .slice lp A.lets.length lc] 25)) := (Ext.refl _).alloc _
  have hfb := hA.fbig
  have HCK := Lib.hid (Check_any fp lp fc lc A _ (hA.mono hx3))
  have HMY := Lib.hid (fun W => May_any fp A.feats.length fc (.slice lp A.lets.length lc) v 0 hv (by decide) hfb W)
  have HX := Lib.hid hx3
  by_cases hok : A.Ok
  · rw [checkN_ok hok] at HCK
    have hce := classE_may hok v
    cases hm : mayB A.feats.length v 0
    · rw [hm] at HMY hce
      rw [if_neg (by decide)] at hce
      rw [hce]
      clear hce hm hok hx3
      go_enter Tryz.func27, Tryz.ntmps27
      go_wp2_with fail
      refine HCK.out.mono ?_
      rintro e w1 ⟨rfl, hy⟩
      have d0 := hy.cell0 0
      have d1 := hy.cell0 1
      have l0 := hy.lt0
      simp at d0 d1
      go_wp2_with fail
      refine (HMY.out _).mono ?_
      rintro e w2 ⟨rfl, hy2⟩
      go_wp2_with fail
      go_ret
      exact ⟨rfl, (HX.out.trans hy).trans hy2⟩
    · rw [hm] at HMY hce
      rw [if_pos rfl] at hce
      rw [hce]
      clear hce hm hok hx3
      go_enter Tryz.func27, Tryz.ntmps27
      go_wp2_with fail
      refine HCK.out.mono ?_
      rintro e w1 ⟨rfl, hy⟩
      have d0 := hy.cell0 0
      have d1 := hy.cell0 1
      have l0 := hy.lt0
      simp at d0 d1
      go_wp2_with fail
      refine (HMY.out _).mono ?_
      rintro e w2 ⟨rfl, hy2⟩
      go_wp2_with fail
      go_ret
      exact ⟨rfl, (HX.out.trans hy).trans hy2⟩
  · rw [checkN_bad hok] at HCK
    have hce : classE A v 0 = 7 := by unfold classE; rw [if_neg hok]
    rw [hce]
    clear hce hok hx3
    go_enter Tryz.func27, Tryz.ntmps27
    go_wp2_with fail
    refine HCK.out.mono ?_
    rintro e w1 ⟨rfl, hy⟩
    go_wp2_with fail
    go_ret
    exact ⟨rfl, HX.out.trans hy⟩

theorem parB_of {A : Alpha} {P : Para} (h : A.Ok) : parB A P = decide (parE A P = 0) := by
  unfold parE
  rw [if_pos h]
  cases parB A P <;> simp

set_option maxRecDepth 100000 in
set_option maxHeartbeats 8000000 in
theorem May17_any (fp ap pp : Option Addr) (fc ac pc : Nat) (A : Alpha) (hok : A.Ok) (P : Para) (g : Nat → Option Addr × Nat) (hn : P.name.size ≤ 140737488351232) (w : World) (hA : AlphaAt w fp ap A) (hT : Tabs w) (hP : CellsAt w pp P.cells g) :
    Calls Tryz.prog 39 #[.agg #[.slice fp A.feats.length fc, .slice ap A.lets.length ac], .agg #[.string P.name, .slice pp P.cells.length pc]] w fun e w' => e = .returned (.bool (parB A P)) ∧ Ext w w' := by
  have hx0 : Ext w (w.alloc (.cells #[.slice fp A.feats.length fc, .slice ap A.lets.length ac] 25)) := (Ext.refl _).alloc _
  obtain ⟨W1, hW1⟩ : ∃ W1, w.alloc (.cells #[.slice fp A.feats.length fc, .slice ap A.lets.length ac] 25) = W1 := ⟨_, rfl⟩
  have hx1 : Ext W1 (W1.alloc (.cells #[.string P.name, .slice pp P.cells.length pc] 39)) := (Ext.refl _).alloc _
  obtain ⟨W2, hW2⟩ : ∃ W2, W1.alloc (.cells #[.string P.name, .slice pp P.cells.length pc] 39) = W2 := ⟨_, rfl⟩
  rw [hW1] at hx0
  rw [hW2] at hx1
  have z1 : W1.heap.size = w.heap.size + 1 := by rw [← hW1, size_alloc]
  have HB := Lib.hid (fun W (hW : Ext W2 W) => (by
    have h := hx1.trans hW
    rw [← hW1] at h
    have h2 := hW
    rw [← hW2] at h2
    have c0 := h2.cell0 0
    have c1 := h2.cell0 1
    have l0 := h2.lt0
    rw [z1] at c0 c1 l0
    exact ⟨h.cell0 0, h.cell0 1, h.lt0, c0, c1, l0⟩ : W.cell? ⟨w.heap.size, 0, none⟩ = some (.slice fp A.feats.length fc) ∧ W.cell? ⟨w.heap.size, 1, none⟩ = some (.slice ap A.lets.length ac) ∧ w.heap.size < W.heap.size ∧ W.cell? ⟨w.heap.size + 1, 0, none⟩ = some (.string P.name) ∧ W.cell? ⟨w.heap.size + 1, 1, none⟩ = some (.slice pp P.cells.length pc) ∧ w.heap.size + 1 < W.heap.size))
  have hwW2 : Ext w W2 := hx0.trans hx1
  have HX := Lib.hid hwW2
  have HNM := Lib.hid (fun W => name17_any P.name hn W)
  have hW2e : (w.alloc (.cells #[.slice fp A.feats.length fc, .slice ap A.lets.length ac] 25)).alloc (.cells #[.string P.name, .slice pp P.cells.length pc] 39) = W2 := by rw [hW1, hW2]
  obtain ⟨d0, d1, l0, c0, c1, l1⟩ := HB.out _ (Ext.refl _)
  clear hW1 hW2 hx0 hx1 z1 hwW2
  have HMD := Lib.hid (fun k (hk : k < P.cells.length) j (hj : j < (cx P.cells k).affs.length) W (hW : Ext w W) => Affix17_any fp ap fc ac A hok (ax (cx P.cells k).affs j) ((hP.affs k hk).wf j hj) W (hA.mono hW) (hT.ext hW))
  have hpe := parB_of (P := P) hok
  have HE1 := Lib.hid (fun h => (by rw [hpe, parE_nm (P := P) hok h]; rfl : parB A P = false))
  have HE2 := Lib.hid (fun h => (by rw [hpe, parE_few (P := P) hok h]; rfl : parB A P = false))
  have HE3 := Lib.hid (fun k (hk : k < P.cells.length) h => (by rw [hpe, parE_cell (P := P) hok hk h]; rfl : parB A P = false))
  have HE4 := Lib.hid (fun h1 h2 h3 h4 => (by rw [hpe, parE_all (P := P) hok h1 h2 h3 h4]; rfl : parB A P = true))
  have hpb := hP.big
  obtain ⟨V, hV⟩ : ∃ V, parB A P = V := ⟨_, rfl⟩
  obtain ⟨q, hq⟩ : ∃ q, nmB P.name = q := ⟨_, rfl⟩
  rw [hV] at HE1 HE2 HE3 HE4 ⊢
  rw [hq] at HE1 HE4 HNM
  clear hV hq hok hpe
  cases q
  · obtain rfl := HE1.out rfl
    go_enter Tryz.func39, Tryz.ntmps39
    go_wp2_with fail
    refine (HNM.out _).mono ?_
    rintro e w1 ⟨rfl, hy1⟩
    clear hW2e d0 d1 l0 c0 c1 l1
    go_wp2_with fail
    go_ret
    exact ⟨rfl, HX.out.trans hy1⟩
  · by_cases hfew : 1 ≤ P.cells.length ∧ P.cells.length ≤ 256
    · obtain ⟨hf1, hf2⟩ := hfew
      go_enter Tryz.func39, Tryz.ntmps39
      go_wp2_with fail
      refine (HNM.out _).mono ?_
      rintro e w1 ⟨rfl, hy1⟩
      clear hW2e d0 d1 l0 c0 c1 l1
      obtain ⟨d0, d1, l0, c0, c1, l1⟩ := HB.out _ hy1
      go_wp2_with fail
      go_loopw [5] (fun i wr => Ext W2 wr ∧ ∃ k : Nat, k ≤ P.cells.length ∧ i = .int .i64 k ∧ Hid (∀ j, j < k → cellB A (cx P.cells j) = true)) (fun i _ => P.cells.length - (intOf i).toNat)
      case atStart => exact ⟨hy1, 0, Nat.zero_le _, rfl, fun j h => absurd h (Nat.not_lt_zero _)⟩
      case round =>
        clear d0 d1 l0 c0 c1 l1
        obtain ⟨hy, k, hk, rfl, HK⟩ := hrel
        obtain ⟨d0, d1, l0, c0, c1, l1⟩ := HB.out _ hy
        by_cases hlt : k < P.cells.length
        · obtain ⟨b, off, e0, hbw, k0, k1⟩ := (hP.mono (HX.out.trans hy)).cells hlt
          have HPB := Lib.hid (fun W (hW : Ext w W) => (hP.mono hW).cells hlt)
          have HMK := Lib.hid (HMD.out k hlt)
          have HBAD := Lib.hid (HE3.out k hlt)
          have HKS := Lib.hid (fun (h : cellB A (cx P.cells k) = true) j (h2 : j < k + 1) => (by
            rcases Nat.lt_or_ge j k with h3 | h3
            · exact HK.out j h3
            · have : j = k := by omega
              subst this; exact h : cellB A (cx P.cells j) = true))
          have HAF := Lib.hid (hP.affs k hlt)
          obtain ⟨c, hc⟩ : ∃ c, cx P.cells k = c := ⟨_, rfl⟩
          obtain ⟨xs, hxs⟩ : ∃ xs, g k = xs := ⟨_, rfl⟩
          obtain ⟨xp, xc⟩ := xs
          rw [hc] at HMK HBAD HKS HAF k0 k1 HPB
          rw [hxs] at HAF k1 HPB
          dsimp only at HAF k1 HPB
          subst e0
          clear hc hxs
          have hxl := HAF.out.big
          by_cases h8 : c.affs.length ≤ 8
          · go_wp2_with fail
            go_loopw [6] (fun i wr => Ext W2 wr ∧ ∃ j : Nat, j ≤ c.affs.length ∧ i = .int .i64 j ∧ Hid (∀ j', j' < j → affB A (ax c.affs j') = true)) (fun i _ => c.affs.length - (intOf i).toNat)
            case atStart => exact ⟨hy, 0, Nat.zero_le _, rfl, fun j h => absurd h (Nat.not_lt_zero _)⟩
            case round =>
              clear d0 d1 l0 c0 c1 l1 k0 k1 hbw
              obtain ⟨hy3, j, hj, rfl, HJ⟩ := hrel
              obtain ⟨d0, d1, l0, c0, c1, l1⟩ := HB.out _ hy3
              obtain ⟨b9, off9, e9, hbw, k0, k1⟩ := HPB.out _ (HX.out.trans hy3)
              cases e9
              by_cases hlj : j < c.affs.length
              · obtain ⟨b2, off2, e2, hbw2, x0, x1, x2, x3⟩ := (HAF.out.mono (HX.out.trans hy3)).cells hlj
                subst e2
                have HMJ := Lib.hid (HMK.out j hlj)
                have HJS := Lib.hid (fun (h : affB A (ax c.affs j) = true) j' (h2 : j' < j + 1) => (by
                  rcases Nat.lt_or_ge j' j with h3 | h3
                  · exact HJ.out j' h3
                  · have : j' = j := by omega
                    subst this; exact h : affB A (ax c.affs j') = true))
                have HNO := Lib.hid (fun h => HBAD.out (cellB_no hlj h))
                obtain ⟨x, hxx⟩ : ∃ x, ax c.affs j = x := ⟨_, rfl⟩
                rw [hxx] at HMJ HJS HNO x0 x1 x2 x3
                clear hxx
                obtain ⟨q, hq⟩ : ∃ q, affB A x = q := ⟨_, rfl⟩
                rw [hq] at HMJ HJS HNO
                clear hq
                have HMW := Lib.hid (fun W (hW : Ext wr W) => HMJ.out W ((HX.out.trans hy3).trans hW))
                cases q
                · obtain rfl := HNO.out rfl
                  go_wp2_with fail
                  (refine wp_region_ext (by kernel_rfl) (by kernel_rfl) ?_; intro ι hι g hg; have q_d0 := hg.cell d0; have q_d1 := hg.cell d1; have q_c0 := hg.cell c0; have q_c1 := hg.cell c1; have q_k1 := hg.cell k1; have q_x0 := hg.cell x0; have q_x1 := hg.cell x1; have q_x2 := hg.cell x2; have q_x3 := hg.cell x3; clear d0 d1 c0 c1 k1 x0 x1 x2 x3; (repeat (go_big_quiet_step ((go_at_call 29; exact hg.call (HMW.out _ (hg.ext _)))))); refine wpQuiet_nil ?_; rintro w5 ⟨i2, rfl⟩; have hq5 := hg.ext i2; generalize g i2 = w5 at hq5 ⊢; clear q_d0 q_d1 q_c0 q_c1 q_k1 q_x0 q_x1 q_x2 q_x3 i2 hg g hι ι)
                  go_wp2_with fail
                  go_ret
                  exact ⟨rfl, HX.out.trans (hy3.trans hq5)⟩
                · go_wp2_with fail
                  (refine wp_region_ext (by kernel_rfl) (by kernel_rfl) ?_; intro ι hι g hg; have q_d0 := hg.cell d0; have q_d1 := hg.cell d1; have q_c0 := hg.cell c0; have q_c1 := hg.cell c1; have q_k1 := hg.cell k1; have q_x0 := hg.cell x0; have q_x1 := hg.cell x1; have q_x2 := hg.cell x2; have q_x3 := hg.cell x3; clear d0 d1 c0 c1 k1 x0 x1 x2 x3; (repeat (go_big_quiet_step ((go_at_call 29; exact hg.call (HMW.out _ (hg.ext _)))))); refine wpQuiet_nil ?_; rintro w5 ⟨i2, rfl⟩; have hq5 := hg.ext i2; generalize g i2 = w5 at hq5 ⊢; clear q_d0 q_d1 q_c0 q_c1 q_k1 q_x0 q_x1 q_x2 q_x3 i2 hg g hι ι)
                  go_wp2_with fail
                  exact ⟨⟨hy3.trans hq5, j + 1, by omega, by go_num, HJS.out (by first | trivial | rfl)⟩, by simp [intOf]; omega⟩
              · have hcb := HKS.out (cellB_ok h8 fun j' hj' => HJ.out j' (by omega))
                have HCB := Lib.hid hcb
                clear hcb
                go_wp2_with fail
                exact ⟨⟨hy3, k + 1, by omega, by go_num, HCB.out⟩, by simp [intOf]; omega⟩
          · obtain rfl := HBAD.out (cellB_many h8)
            go_wp2_with fail
            go_ret
            exact ⟨rfl, HX.out.trans hy⟩
        · have e : k = P.cells.length := by omega
          subst e
          obtain rfl := HE4.out (by first | trivial | rfl) hf1 hf2 fun j hj => HK.out j hj
          go_wp2_with fail
          go_ret
          exact ⟨rfl, HX.out.trans hy⟩
    · obtain rfl := HE2.out hfew
      by_cases h0 : P.cells.length < 1
      · go_enter Tryz.func39, Tryz.ntmps39
        go_wp2_with fail
        refine (HNM.out _).mono ?_
        rintro e w1 ⟨rfl, hy1⟩
        clear hW2e d0 d1 l0 c0 c1 l1
        obtain ⟨d0, d1, l0, c0, c1, l1⟩ := HB.out _ hy1
        go_wp2_with fail
        go_ret
        exact ⟨rfl, HX.out.trans hy1⟩
      · have h9 : 256 < P.cells.length := by omega
        go_enter Tryz.func39, Tryz.ntmps39
        go_wp2_with fail
        refine (HNM.out _).mono ?_
        rintro e w1 ⟨rfl, hy1⟩
        clear hW2e d0 d1 l0 c0 c1 l1
        obtain ⟨d0, d1, l0, c0, c1, l1⟩ := HB.out _ hy1
        go_wp2_with fail
        go_ret
        exact ⟨rfl, HX.out.trans hy1⟩

set_option maxRecDepth 100000 in
set_option maxHeartbeats 4000000 in
theorem Check17_any (fp ap pp : Option Addr) (fc ac pc : Nat) (A : Alpha) (P : Para) (g : Nat → Option Addr × Nat) (hn : P.name.size ≤ 140737488351232) (w : World) (hA : AlphaAt w fp ap A) (hT : Tabs w) (hP : CellsAt w pp P.cells g) :
    Calls Tryz.prog 21 #[.agg #[.slice fp A.feats.length fc, .slice ap A.lets.length ac], .agg #[.string P.name, .slice pp P.cells.length pc]] w fun e w' => e = .returned (.int .i64 (parE A P)) ∧ Ext w w' := by
  have hx0 : Ext w (w.alloc (.cells #[.slice fp A.feats.length fc, .slice ap A.lets.length ac] 25)) := (Ext.refl _).alloc _
  obtain ⟨W1, hW1⟩ : ∃ W1, w.alloc (.cells #[.slice fp A.feats.length fc, .slice ap A.lets.length ac] 25) = W1 := ⟨_, rfl⟩
  have hx1 : Ext W1 (W1.alloc (.cells #[.string P.name, .slice pp P.cells.length pc] 39)) := (Ext.refl _).alloc _
  obtain ⟨W2, hW2⟩ : ∃ W2, W1.alloc (.cells #[.string P.name, .slice pp P.cells.length pc] 39) = W2 := ⟨_, rfl⟩
  rw [hW1] at hx0
  rw [hW2] at hx1
  have z1 : W1.heap.size = w.heap.size + 1 := by rw [← hW1, size_alloc]
  have HB := Lib.hid (fun W (hW : Ext W2 W) => (by
    have h := hx1.trans hW
    rw [← hW1] at h
    have h2 := hW
    rw [← hW2] at h2
    have c0 := h2.cell0 0
    have c1 := h2.cell0 1
    have l0 := h2.lt0
    rw [z1] at c0 c1 l0
    exact ⟨h.cell0 0, h.cell0 1, h.lt0, c0, c1, l0⟩ : W.cell? ⟨w.heap.size, 0, none⟩ = some (.slice fp A.feats.length fc) ∧ W.cell? ⟨w.heap.size, 1, none⟩ = some (.slice ap A.lets.length ac) ∧ w.heap.size < W.heap.size ∧ W.cell? ⟨w.heap.size + 1, 0, none⟩ = some (.string P.name) ∧ W.cell? ⟨w.heap.size + 1, 1, none⟩ = some (.slice pp P.cells.length pc) ∧ w.heap.size + 1 < W.heap.size))
  have hwW2 : Ext w W2 := hx0.trans hx1
  have HX := Lib.hid hwW2
  have hW2e : (w.alloc (.cells #[.slice fp A.feats.length fc, .slice ap A.lets.length ac] 25)).alloc (.cells #[.string P.name, .slice pp P.cells.length pc] 39) = W2 := by rw [hW1, hW2]
  obtain ⟨d0, d1, l0, c0, c1, l1⟩ := HB.out _ (Ext.refl _)
  clear hW1 hW2 hx0 hx1 z1
  have HCH := Lib.hid (Check_any fp ap fc ac A W2 (hA.mono hwW2))
  clear hwW2
  by_cases hok : A.Ok
  · rw [checkN_ok hok] at HCH
    have HMY := Lib.hid (fun W (hW : Ext w W) => May17_any fp ap pp fc ac pc A hok P g hn W (hA.mono hW) (hT.ext hW) (hP.mono hW))
    have hpe := parB_of (P := P) hok
    have hp2 : ¬ parE A P = 0 → parE A P = 170 := fun h => parE_no hok (fun c => h (by rw [parE_yes hok c]))
    obtain ⟨E, hE⟩ : ∃ E, parE A P = E := ⟨_, rfl⟩
    rw [hE] at hpe hp2 ⊢
    by_cases h0 : E = 0
    · subst h0
      rw [hpe] at HMY
      have HM2 := Lib.hid (fun W hW => (HMY.out W hW : Calls Tryz.prog 39 #[.agg #[.slice fp A.feats.length fc, .slice ap A.lets.length ac], .agg #[.string P.name, .slice pp P.cells.length pc]] W fun e w' => e = .returned (.bool true) ∧ Ext W w'))
      clear hpe hp2 hE hok HMY
      go_enter Tryz.func21, Tryz.ntmps21
      go_wp2_with fail
      refine HCH.out.mono ?_
      rintro e w1 ⟨rfl, hy1⟩
      clear hW2e d0 d1 l0 c0 c1 l1
      obtain ⟨d0, d1, l0, c0, c1, l1⟩ := HB.out _ hy1
      go_wp2_with fail
      refine (HM2.out _ (HX.out.trans hy1)).mono ?_
      rintro e w2 ⟨rfl, hy2⟩
      go_wp2_with fail
      go_ret
      exact ⟨rfl, HX.out.trans (hy1.trans hy2)⟩
    · have h17 := hp2 h0
      subst h17
      rw [hpe] at HMY
      have HM2 := Lib.hid (fun W hW => (HMY.out W hW : Calls Tryz.prog 39 #[.agg #[.slice fp A.feats.length fc, .slice ap A.lets.length ac], .agg #[.string P.name, .slice pp P.cells.length pc]] W fun e w' => e = .returned (.bool false) ∧ Ext W w'))
      clear hpe hp2 hE hok HMY h0
      go_enter Tryz.func21, Tryz.ntmps21
      go_wp2_with fail
      refine HCH.out.mono ?_
      rintro e w1 ⟨rfl, hy1⟩
      clear hW2e d0 d1 l0 c0 c1 l1
      obtain ⟨d0, d1, l0, c0, c1, l1⟩ := HB.out _ hy1
      go_wp2_with fail
      refine (HM2.out _ (HX.out.trans hy1)).mono ?_
      rintro e w2 ⟨rfl, hy2⟩
      go_wp2_with fail
      go_ret
      exact ⟨rfl, HX.out.trans (hy1.trans hy2)⟩
  · rw [checkN_bad hok] at HCH
    rw [parE_none hok]
    clear hok
    go_enter Tryz.func21, Tryz.ntmps21
    go_wp2_with fail
    refine HCH.out.mono ?_
    rintro e w1 ⟨rfl, hy1⟩
    go_wp2_with fail
    go_ret
    exact ⟨rfl, HX.out.trans hy1⟩

def CelP (B : Nat) (E : Int) (L : List Int) (e : Ending) (w' : World) : Prop := (E = 0 → PutRes B (L, 0) e w') ∧ (E ≠ 0 → ∃ p n c, e = .returned (.tuple #[.slice p n c, .int .i64 E]))
theorem celP_no {B : Nat} {E : Int} {L : List Int} {w' : World} {p : Option Addr} {n c : Nat} (h : E ≠ 0) : CelP B E L (.returned (.tuple #[.slice p n c, .int .i64 E])) w' := ⟨fun h0 => absurd h0 h, fun _ => ⟨p, n, c, rfl⟩⟩

set_option maxRecDepth 100000 in
set_option maxHeartbeats 4000000 in
theorem cell17_any (fp ap pp : Option Addr) (fc ac pc : Nat) (A : Alpha) (v : Nat) (hv : v < 4294967296) (P : Para) (g : Nat → Option Addr × Nat) (n : Int) (hnl : -9223372036854775808 ≤ n) (hnh : n ≤ 9223372036854775807) (s : ByteArray) (hs : s.size ≤ 140737488351232) (hn : P.name.size ≤ 140737488351232) (w : World) (hA : AlphaAt w fp ap A) (hT : Tabs w) (hP : CellsAt w pp P.cells g) :
    Calls Tryz.prog 33 #[.agg #[.slice fp A.feats.length fc, .slice ap A.lets.length ac], .int .u32 v, .agg #[.string P.name, .slice pp P.cells.length pc], .int .i64 n, .string s] w fun e w' => CelP w.heap.size (cellE A v P n s) (spell A s).1 e w' ∧ Ext w w' := by
  have hx0 : Ext w (w.alloc (.cells #[.slice fp A.feats.length fc, .slice ap A.lets.length ac] 25)) := (Ext.refl _).alloc _
  obtain ⟨W1, hW1⟩ : ∃ W1, w.alloc (.cells #[.slice fp A.feats.length fc, .slice ap A.lets.length ac] 25) = W1 := ⟨_, rfl⟩
  have hx1 : Ext W1 (W1.alloc (.cells #[.string P.name, .slice pp P.cells.length pc] 39)) := (Ext.refl _).alloc _
  obtain ⟨W2, hW2⟩ : ∃ W2, W1.alloc (.cells #[.string P.name, .slice pp P.cells.length pc] 39) = W2 := ⟨_, rfl⟩
  rw [hW1] at hx0
  rw [hW2] at hx1
  have z1 : W1.heap.size = w.heap.size + 1 := by rw [← hW1, size_alloc]
  have HB := Lib.hid (fun W (hW : Ext W2 W) => (by
    have h := hx1.trans hW
    rw [← hW1] at h
    have h2 := hW
    rw [← hW2] at h2
    have c0 := h2.cell0 0
    have c1 := h2.cell0 1
    have l0 := h2.lt0
    rw [z1] at c0 c1 l0
    exact ⟨h.cell0 0, h.cell0 1, h.lt0, c0, c1, l0⟩ : W.cell? ⟨w.heap.size, 0, none⟩ = some (.slice fp A.feats.length fc) ∧ W.cell? ⟨w.heap.size, 1, none⟩ = some (.slice ap A.lets.length ac) ∧ w.heap.size < W.heap.size ∧ W.cell? ⟨w.heap.size + 1, 0, none⟩ = some (.string P.name) ∧ W.cell? ⟨w.heap.size + 1, 1, none⟩ = some (.slice pp P.cells.length pc) ∧ w.heap.size + 1 < W.heap.size))
  have hwW2 : Ext w W2 := hx0.trans hx1
  have HX := Lib.hid hwW2
  have hW2e : (w.alloc (.cells #[.slice fp A.feats.length fc, .slice ap A.lets.length ac] 25)).alloc (.cells #[.string P.name, .slice pp P.cells.length pc] 39) = W2 := by rw [hW1, hW2]
  obtain ⟨d0, d1, l0, c0, c1, l1⟩ := HB.out _ (Ext.refl _)
  clear hW1 hW2 hx0 hx1 z1
  have HVO := Lib.hid (vowels17_any fp ap fc ac A v hv W2 (hA.mono hwW2))
  have hpb := hP.big
  have HWL := Lib.hid hwW2.le
  clear hwW2
  by_cases h1 : classE A v 0 = 0
  · have hok := classE_ok1 h1
    have HMY := Lib.hid (fun W (hW : Ext w W) => May17_any fp ap pp fc ac pc A hok P g hn W (hA.mono hW) (hT.ext hW) (hP.mono hW))
    have HLE := Lib.hid (fun W (hW : Ext w W) => Letters_any fp ap fc ac A s hs W (hA.mono hW) (hT.ext hW))
    rw [h1] at HVO
    have hpe := parB_of (P := P) hok
    cases hb : parB A P
    · have hE : cellE A v P n s = 170 := by
        unfold cellE
        rw [if_neg (fun c => c h1), if_pos]
        · exact parE_no hok (by rw [hb]; decide)
        · intro c; rw [c] at hpe; rw [hpe] at hb; cases hb
      rw [hE]
      rw [hb] at HMY
      clear hE hb hpe hok h1 HLE
      go_enter Tryz.func33, Tryz.ntmps33
      go_wp2_with fail
      refine HVO.out.mono ?_
      rintro e w1 ⟨rfl, hy1⟩
      clear hW2e d0 d1 l0 c0 c1 l1
      obtain ⟨d0, d1, l0, c0, c1, l1⟩ := HB.out _ hy1
      go_wp2_with fail
      refine (HMY.out _ (HX.out.trans hy1)).mono ?_
      rintro e w2 ⟨rfl, hy2⟩
      go_wp2_with fail
      go_ret2
      exact ⟨celP_no (by decide), HX.out.trans (hy1.trans hy2)⟩
    · rw [hb] at HMY
      have hp0 : parE A P = 0 := parE_yes hok hb
      by_cases hr : n < 0 ∨ (P.cells.length : Int) ≤ n
      · have hE : cellE A v P n s = 8 := by unfold cellE; rw [if_neg (fun c => c h1), if_neg (fun c => c hp0), if_pos hr]
        rw [hE]
        clear hE hb hpe hok h1 HLE hp0
        rcases hr with hr | hr
        · go_enter Tryz.func33, Tryz.ntmps33
          go_wp2_with fail
          refine HVO.out.mono ?_
          rintro e w1 ⟨rfl, hy1⟩
          clear hW2e d0 d1 l0 c0 c1 l1
          obtain ⟨d0, d1, l0, c0, c1, l1⟩ := HB.out _ hy1
          go_wp2_with fail
          refine (HMY.out _ (HX.out.trans hy1)).mono ?_
          rintro e w2 ⟨rfl, hy2⟩
          obtain ⟨d0, d1, l0, c0, c1, l1⟩ := HB.out _ (hy1.trans hy2)
          go_wp2_with fail
          go_ret2
          exact ⟨celP_no (by decide), HX.out.trans (hy1.trans hy2)⟩
        · have hr0 : 0 ≤ n := by omega
          go_enter Tryz.func33, Tryz.ntmps33
          go_wp2_with fail
          refine HVO.out.mono ?_
          rintro e w1 ⟨rfl, hy1⟩
          clear hW2e d0 d1 l0 c0 c1 l1
          obtain ⟨d0, d1, l0, c0, c1, l1⟩ := HB.out _ hy1
          go_wp2_with fail
          refine (HMY.out _ (HX.out.trans hy1)).mono ?_
          rintro e w2 ⟨rfl, hy2⟩
          obtain ⟨d0, d1, l0, c0, c1, l1⟩ := HB.out _ (hy1.trans hy2)
          go_wp2_with fail
          go_ret2
          exact ⟨celP_no (by decide), HX.out.trans (hy1.trans hy2)⟩
      · have hE : cellE A v P n s = (spell A s).2 := by unfold cellE; rw [if_neg (fun c => c h1), if_neg (fun c => c hp0), if_neg hr]
        rw [hE]
        have hr0 : 0 ≤ n := by omega
        have hr1 : n < (P.cells.length : Int) := by omega
        obtain ⟨L, hL⟩ : ∃ L, (spell A s).1 = L := ⟨_, rfl⟩
        obtain ⟨E, hE9⟩ : ∃ E, (spell A s).2 = E := ⟨_, rfl⟩
        rw [hL, hE9] at HLE
        rw [hL, hE9]
        clear hE hb hpe hok h1 hp0 hr hL hE9
        go_enter Tryz.func33, Tryz.ntmps33
        go_wp2_with fail
        refine HVO.out.mono ?_
        rintro e w1 ⟨rfl, hy1⟩
        clear hW2e d0 d1 l0 c0 c1 l1
        obtain ⟨d0, d1, l0, c0, c1, l1⟩ := HB.out _ hy1
        go_wp2_with fail
        refine (HMY.out _ (HX.out.trans hy1)).mono ?_
        rintro e w2 ⟨rfl, hy2⟩
        have hz2 := hy1.trans hy2
        obtain ⟨d0, d1, l0, c0, c1, l1⟩ := HB.out _ hz2
        go_wp2_with fail
        refine (HLE.out _ (HX.out.trans hz2)).mono ?_
        rintro e w3 ⟨rp, rc, rfl, ho, hy3⟩
        go_wp2_with fail
        go_ret2
        refine ⟨⟨fun h => ?_, fun _ => ⟨_, _, _, rfl⟩⟩, HX.out.trans (hz2.trans hy3)⟩
        subst h
        exact put_mk (OwnRunes_base ho (HX.out.trans hz2).le)
  · have hE : cellE A v P n s = classE A v 0 := by unfold cellE; rw [if_pos h1]
    rw [hE]
    obtain ⟨E, hE9⟩ : ∃ E, classE A v 0 = E := ⟨_, rfl⟩
    rw [hE9] at HVO h1 ⊢
    have gE : (E != 0) = true := by rw [bne_iff_ne]; exact h1
    have H1 := Lib.hid h1
    clear hE hE9 h1
    go_enter Tryz.func33, Tryz.ntmps33
    go_wp2_with fail
    refine HVO.out.mono ?_
    rintro e w1 ⟨rfl, hy1⟩
    go_wp2_with fail
    go_ret2
    exact ⟨celP_no H1.out, HX.out.trans hy1⟩

theorem tag_bits2 {t c : Nat} (ht : t < 18446744073709551616) (hc : c < 18446744073709551616) : ∃ m : Nat, bits .and .u64 (c : Int) (t : Int) = (m : Int) ∧ (m = t ↔ t &&& c = t) := ⟨_, u64_and_nat c t hc ht, by rw [Nat.and_comm]⟩

set_option maxRecDepth 100000 in
set_option maxHeartbeats 4000000 in
theorem Find17_any (pp : Option Addr) (pc : Nat) (P : Para) (g : Nat → Option Addr × Nat) (t : Nat) (ht : t < 18446744073709551616) (w : World) (hP : CellsAt w pp P.cells g) :
    Calls Tryz.prog 18 #[.agg #[.string P.name, .slice pp P.cells.length pc], .int .u64 (t : Int)] w fun e w' => ∃ rp rc, e = .returned (.slice rp (findTo P.cells t P.cells.length).length rc) ∧ w'.ownsRow w.heap.size 3 1 (.slice rp (findTo P.cells t P.cells.length).length rc) (findTo P.cells t P.cells.length).length (intCells (findTo P.cells t P.cells.length)) ∧ Ext w w' := by
  obtain ⟨i0, hi, hz0, hz1, hz2⟩ := info_parts infoI
  have hpb := hP.big
  have HT := Lib.hid ht
  clear ht
  go_enter Tryz.func18, Tryz.ntmps18
  go_wp2_with fail
  go_loopw [5, 6] (fun out i wr => ∃ k : Nat, k ≤ P.cells.length ∧ i = .int .i64 k ∧ Ext (w.alloc (.cells #[.string P.name, .slice pp P.cells.length pc] 39)) wr ∧ wr.ownsRow (w.heap.size + 1) 3 1 out (findTo P.cells t k).length (intCells (findTo P.cells t k))) (fun _ i _ => P.cells.length - (intOf i).toNat)
  case atStart => exact ⟨0, Nat.zero_le _, rfl, Ext.refl _, World.ownsRow_nil _ _ _ _⟩
  case round =>
    obtain ⟨k, hk, rfl, hx, hown⟩ := hrel
    obtain ⟨rp, rc, rfl⟩ := ownsRow_slice hown
    have hx0 : Ext w wr := ((Ext.refl w).alloc _).trans hx
    have b0 := hx.cell0 0
    have b1 := hx.cell0 1
    have bl := hx.lt0
    simp only [List.getElem?_toArray, List.getElem?_cons_zero, List.getElem?_cons_succ] at b0 b1
    by_cases hlt : k < P.cells.length
    · obtain ⟨b, off, e0, hbw, k0, k1⟩ := (hP.mono hx0).cells hlt
      subst e0
      have htg := hP.tags k hlt
      obtain ⟨m, hm1, hm2⟩ := tag_bits2 HT.out htg
      have HY := Lib.hid (fun h => findTo_yes (P := P.cells) (t := t) (k := k) h)
      have HN := Lib.hid (fun h => findTo_no (P := P.cells) (t := t) (k := k) h)
      have hlen := findTo_len P.cells t k
      obtain ⟨c, hc⟩ : ∃ c, cx P.cells k = c := ⟨_, rfl⟩
      obtain ⟨xs, hxs⟩ : ∃ xs, g k = xs := ⟨_, rfl⟩
      obtain ⟨xp, xc⟩ := xs
      rw [hc] at HY HN k0 k1 hm1 hm2
      rw [hxs] at k1
      dsimp only at k1
      have HM := Lib.hid hm2
      have hle := hx.le
      rw [size_alloc] at hle
      clear hc hxs hm2 htg
      by_cases hq : t &&& c.tags = t
      · have hm0 : m = t := HM.out.2 hq
        subst hm0
        have HS := Lib.hid (HY.out hq)
        clear hq
        go_wp2_with (at_builtin; go_loud (refine wpList_append_own _ rfl _ _ 45 rfl (w.heap.size + 1) 3 i0 (.int .i64 0) 1 8 Tryz.underlying45 hi hz0 hz1 hz2 rfl (by decide) _ _ _ rfl (hown.alloc _) ⟨wr.heap.size, 0, none⟩ 1 1 [.int .i64 k] rfl rfl (one_cell _ _ _) (by simp [Value.oneCell']) (by unfold maxLen; omega) (by omega) (by simp; omega) ?_); intro v' w4 hown4 hgrow _)
        refine ⟨⟨k + 1, by omega, by go_num, Ext.append (hx.alloc _) (hown.alloc _) hgrow (by simp), ?_⟩, by simp [intOf]; omega⟩
        rw [HS.out, List.length_append, intCells_append]; exact hown4
      · have hmt : m ≠ t := fun h => hq (HM.out.1 h)
        have gm : ((m : Int) == (t : Int)) = false := by rw [beq_eq_false_iff_ne]; omega
        have gm2 : (m == t) = false := by rw [beq_eq_false_iff_ne]; exact hmt
        have HS := Lib.hid (HN.out hq)
        clear hq hmt
        go_wp2_with fail
        refine ⟨⟨k + 1, by omega, by go_num, hx, ?_⟩, by simp [intOf]; omega⟩
        rw [HS.out]; exact hown
    · have e : k = P.cells.length := by omega
      subst e
      go_wp2_with fail
      go_ret
      exact ⟨rp, rc, rfl, ownsRow_base hown (by omega), hx0⟩
end Go.Proofs.YtkmfhcjdaglikaaGreatDoor

namespace Go.Proofs.YtkmfhcjdaglikaaGreatDoor
open Go.RowKit Go.Cg Go.Shelf Go.Maps

/-- what came of letters, no longer than may be -/
def capR (R : List Int) : List Int × Int := if 256 < R.length then ([], 9) else (R, 0)
theorem capR_no {R : List Int} (h : 256 < R.length) : capR R = ([], 9) := if_pos h
theorem capR_ok {R : List Int} (h : ¬ 256 < R.length) : capR R = (R, 0) := if_neg h
theorem putC_cap {A : Alpha} {v : Nat} {x : Aff} {l R : List Int} (h : mkL A v x l = (R, 0)) : putC A v x l = capR R := by unfold putC capR; rw [h]; rfl
theorem putC_bad {A : Alpha} {v : Nat} {x : Aff} {l : List Int} {E : Int} (hE : E ≠ 0) (h : mkL A v x l = ([], E)) : putC A v x l = ([], E) := by unfold putC; rw [h]; exact if_pos hE

set_option maxRecDepth 100000 in
set_option maxHeartbeats 8000000 in
theorem made17_1 (fp ap lp : Option Addr) (fc ac lc : Nat) (A : Alpha) (v : Nat) (_hv : v < 4294967296) (f o : ByteArray) (n : Int) (_hn : -9223372036854775808 ≤ n ∧ n ≤ 9223372036854775807) (hf : f.size ≤ 1048576) (_ho : o.size ≤ 1048576) (_hok : A.Ok) (hx : affB A ⟨1, f, o, n⟩ = true) (l : List Int) (_hin : InA A l) (hl : l.length ≤ 256) (w : World) (_hA : AlphaAt w fp ap A) (hL : SlAt w lp l lc) :
    Calls Tryz.prog 30 #[.agg #[.slice fp A.feats.length fc, .slice ap A.lets.length ac], .int .u32 v, .slice lp l.length lc, .agg #[.int .u8 1, .string f, .string o, .int .i64 n]] w fun e w' => PutRes w.heap.size (putC A v ⟨1, f, o, n⟩ l) e w' ∧ Ext w w' := by
  have hx0 : Ext w (w.alloc (.cells #[.slice fp A.feats.length fc, .slice ap A.lets.length ac] 25)) := (Ext.refl _).alloc _
  obtain ⟨W1, hW1⟩ : ∃ W1, w.alloc (.cells #[.slice fp A.feats.length fc, .slice ap A.lets.length ac] 25) = W1 := ⟨_, rfl⟩
  have hx1 : Ext W1 (W1.alloc (.cells #[.int .u8 1, .string f, .string o, .int .i64 n] 28)) := (Ext.refl _).alloc _
  obtain ⟨W2, hW2⟩ : ∃ W2, W1.alloc (.cells #[.int .u8 1, .string f, .string o, .int .i64 n] 28) = W2 := ⟨_, rfl⟩
  rw [hW1] at hx0
  rw [hW2] at hx1
  have z1 : W1.heap.size = w.heap.size + 1 := by rw [← hW1, size_alloc]
  have HB := Lib.hid (fun W (hW : Ext W2 W) => (by
    have h := hx1.trans hW
    rw [← hW1] at h
    have h2 := hW
    rw [← hW2] at h2
    have c0 := h2.cell0 0
    have c1 := h2.cell0 1
    have c2 := h2.cell0 2
    have c3 := h2.cell0 3
    have l0 := h2.lt0
    rw [z1] at c0 c1 c2 c3 l0
    exact ⟨h.cell0 0, h.cell0 1, h.lt0, c0, c1, c2, c3, l0⟩ : W.cell? ⟨w.heap.size, 0, none⟩ = some (.slice fp A.feats.length fc) ∧ W.cell? ⟨w.heap.size, 1, none⟩ = some (.slice ap A.lets.length ac) ∧ w.heap.size < W.heap.size ∧ W.cell? ⟨w.heap.size + 1, 0, none⟩ = some (.int .u8 1) ∧ W.cell? ⟨w.heap.size + 1, 1, none⟩ = some (.string f) ∧ W.cell? ⟨w.heap.size + 1, 2, none⟩ = some (.string o) ∧ W.cell? ⟨w.heap.size + 1, 3, none⟩ = some (.int .i64 n) ∧ w.heap.size + 1 < W.heap.size))
  have hwW2 : Ext w W2 := hx0.trans hx1
  have HX := Lib.hid hwW2
  have hW2e : (w.alloc (.cells #[.slice fp A.feats.length fc, .slice ap A.lets.length ac] 25)).alloc (.cells #[.int .u8 1, .string f, .string o, .int .i64 n] 28) = W2 := by rw [hW1, hW2]
  obtain ⟨d0, d1, l0, c0, c1, c2, c3, l1⟩ := HB.out _ (Ext.refl _)
  obtain ⟨cf, W3, hcv, hro, hx3⟩ := str_row f hf W2
  have HRO := Lib.hid hro
  have HX3 := Lib.hid hx3
  have hsz : W2.heap.size = w.heap.size + 1 + 1 := by rw [← hW2, size_alloc, z1]
  have HSZ := Lib.hid hsz
  clear hW1 hW2 hx0 hx1 z1 hro hx3 hwW2 hsz
  obtain ⟨ha1, ha2, ha3⟩ := aff1 (x := ⟨1, f, o, n⟩) rfl hx
  dsimp only at ha1 ha2 ha3
  have hmk : mkL A v ⟨1, f, o, n⟩ l = ((spell A f).1 ++ l ++ [], 0) := by rw [List.append_nil]; rfl
  have hpc := putC_cap hmk
  rw [hpc]
  have hsf : strR f = (spell A f).1 := strR_word ha1
  rw [hsf] at HRO hcv
  have h64 := spell_len A f
  obtain ⟨F, hF⟩ : ∃ F, (spell A f).1 = F := ⟨_, rfl⟩
  rw [hF] at HRO hcv h64 ⊢
  have HJ := Lib.hid (joined17_any (some ⟨W2.heap.size, 0, none⟩) lp none cf lc 0 F l [] (by omega) (by omega) (by decide) W3 HRO.out.at_ (hL.at_.mono (HX.out.trans HX3.out)) (RunesAt.nil _ _))
  obtain ⟨R, hR⟩ : ∃ R, F ++ l ++ [] = R := ⟨_, rfl⟩
  rw [hR] at HJ ⊢
  rw [HSZ.out] at hcv HJ
  clear hpc hmk hsf hF hR ha1 ha2 ha3 hx _hok _hA hL h64

  obtain ⟨e0, e1, l2, a0, a1, a2, a3, l3⟩ := HB.out _ HX3.out
  by_cases hcap : 256 < R.length
  · rw [capR_no hcap]
    go_enter Tryz.func30, Tryz.ntmps30
    go_wp2_with fail
    refine HJ.out.mono ?_
    rintro e w5 ⟨rp, rc, rfl, ho5, hy5⟩
    go_wp2_with fail
    go_ret2
    exact ⟨put_no _, (HX.out.trans HX3.out).trans hy5⟩
  · rw [capR_ok hcap]
    go_enter Tryz.func30, Tryz.ntmps30
    go_wp2_with fail
    refine HJ.out.mono ?_
    rintro e w5 ⟨rp, rc, rfl, ho5, hy5⟩
    go_wp2_with fail
    go_ret2
    exact ⟨put_mk (OwnRunes_base ho5 (HX.out.trans HX3.out).le), (HX.out.trans HX3.out).trans hy5⟩

set_option maxRecDepth 100000 in
set_option maxHeartbeats 8000000 in
theorem made17_2 (fp ap lp : Option Addr) (fc ac lc : Nat) (A : Alpha) (v : Nat) (_hv : v < 4294967296) (f o : ByteArray) (n : Int) (_hn : -9223372036854775808 ≤ n ∧ n ≤ 9223372036854775807) (hf : f.size ≤ 1048576) (_ho : o.size ≤ 1048576) (_hok : A.Ok) (hx : affB A ⟨2, f, o, n⟩ = true) (l : List Int) (_hin : InA A l) (hl : l.length ≤ 256) (w : World) (_hA : AlphaAt w fp ap A) (hL : SlAt w lp l lc) :
    Calls Tryz.prog 30 #[.agg #[.slice fp A.feats.length fc, .slice ap A.lets.length ac], .int .u32 v, .slice lp l.length lc, .agg #[.int .u8 2, .string f, .string o, .int .i64 n]] w fun e w' => PutRes w.heap.size (putC A v ⟨2, f, o, n⟩ l) e w' ∧ Ext w w' := by
  have hx0 : Ext w (w.alloc (.cells #[.slice fp A.feats.length fc, .slice ap A.lets.length ac] 25)) := (Ext.refl _).alloc _
  obtain ⟨W1, hW1⟩ : ∃ W1, w.alloc (.cells #[.slice fp A.feats.length fc, .slice ap A.lets.length ac] 25) = W1 := ⟨_, rfl⟩
  have hx1 : Ext W1 (W1.alloc (.cells #[.int .u8 2, .string f, .string o, .int .i64 n] 28)) := (Ext.refl _).alloc _
  obtain ⟨W2, hW2⟩ : ∃ W2, W1.alloc (.cells #[.int .u8 2, .string f, .string o, .int .i64 n] 28) = W2 := ⟨_, rfl⟩
  rw [hW1] at hx0
  rw [hW2] at hx1
  have z1 : W1.heap.size = w.heap.size + 1 := by rw [← hW1, size_alloc]
  have HB := Lib.hid (fun W (hW : Ext W2 W) => (by
    have h := hx1.trans hW
    rw [← hW1] at h
    have h2 := hW
    rw [← hW2] at h2
    have c0 := h2.cell0 0
    have c1 := h2.cell0 1
    have c2 := h2.cell0 2
    have c3 := h2.cell0 3
    have l0 := h2.lt0
    rw [z1] at c0 c1 c2 c3 l0
    exact ⟨h.cell0 0, h.cell0 1, h.lt0, c0, c1, c2, c3, l0⟩ : W.cell? ⟨w.heap.size, 0, none⟩ = some (.slice fp A.feats.length fc) ∧ W.cell? ⟨w.heap.size, 1, none⟩ = some (.slice ap A.lets.length ac) ∧ w.heap.size < W.heap.size ∧ W.cell? ⟨w.heap.size + 1, 0, none⟩ = some (.int .u8 2) ∧ W.cell? ⟨w.heap.size + 1, 1, none⟩ = some (.string f) ∧ W.cell? ⟨w.heap.size + 1, 2, none⟩ = some (.string o) ∧ W.cell? ⟨w.heap.size + 1, 3, none⟩ = some (.int .i64 n) ∧ w.heap.size + 1 < W.heap.size))
  have hwW2 : Ext w W2 := hx0.trans hx1
  have HX := Lib.hid hwW2
  have hW2e : (w.alloc (.cells #[.slice fp A.feats.length fc, .slice ap A.lets.length ac] 25)).alloc (.cells #[.int .u8 2, .string f, .string o, .int .i64 n] 28) = W2 := by rw [hW1, hW2]
  obtain ⟨d0, d1, l0, c0, c1, c2, c3, l1⟩ := HB.out _ (Ext.refl _)
  obtain ⟨cf, W3, hcv, hro, hx3⟩ := str_row f hf W2
  have HRO := Lib.hid hro
  have HX3 := Lib.hid hx3
  have hsz : W2.heap.size = w.heap.size + 1 + 1 := by rw [← hW2, size_alloc, z1]
  have HSZ := Lib.hid hsz
  clear hW1 hW2 hx0 hx1 z1 hro hx3 hwW2 hsz
  obtain ⟨ha1, ha2, ha3⟩ := aff2 (x := ⟨2, f, o, n⟩) rfl hx
  dsimp only at ha1 ha2 ha3
  have hmk : mkL A v ⟨2, f, o, n⟩ l = (l ++ (spell A f).1 ++ [], 0) := by rw [List.append_nil]; rfl
  have hpc := putC_cap hmk
  rw [hpc]
  have hsf : strR f = (spell A f).1 := strR_word ha1
  rw [hsf] at HRO hcv
  have h64 := spell_len A f
  obtain ⟨F, hF⟩ : ∃ F, (spell A f).1 = F := ⟨_, rfl⟩
  rw [hF] at HRO hcv h64 ⊢
  have HJ := Lib.hid (joined17_any lp (some ⟨W2.heap.size, 0, none⟩) none lc cf 0 l F [] (by omega) (by omega) (by decide) W3 (hL.at_.mono (HX.out.trans HX3.out)) HRO.out.at_ (RunesAt.nil _ _))
  obtain ⟨R, hR⟩ : ∃ R, l ++ F ++ [] = R := ⟨_, rfl⟩
  rw [hR] at HJ ⊢
  rw [HSZ.out] at hcv HJ
  clear hpc hmk hsf hF hR ha1 ha2 ha3 hx _hok _hA hL h64

  obtain ⟨e0, e1, l2, a0, a1, a2, a3, l3⟩ := HB.out _ HX3.out
  by_cases hcap : 256 < R.length
  · rw [capR_no hcap]
    go_enter Tryz.func30, Tryz.ntmps30
    go_wp2_with fail
    refine HJ.out.mono ?_
    rintro e w5 ⟨rp, rc, rfl, ho5, hy5⟩
    go_wp2_with fail
    go_ret2
    exact ⟨put_no _, (HX.out.trans HX3.out).trans hy5⟩
  · rw [capR_ok hcap]
    go_enter Tryz.func30, Tryz.ntmps30
    go_wp2_with fail
    refine HJ.out.mono ?_
    rintro e w5 ⟨rp, rc, rfl, ho5, hy5⟩
    go_wp2_with fail
    go_ret2
    exact ⟨put_mk (OwnRunes_base ho5 (HX.out.trans HX3.out).le), (HX.out.trans HX3.out).trans hy5⟩

set_option maxRecDepth 100000 in
set_option maxHeartbeats 8000000 in
theorem made17_3 (fp ap lp : Option Addr) (fc ac lc : Nat) (A : Alpha) (v : Nat) (_hv : v < 4294967296) (f o : ByteArray) (n : Int) (_hn : -9223372036854775808 ≤ n ∧ n ≤ 9223372036854775807) (hf : f.size ≤ 1048576) (ho : o.size ≤ 1048576) (_hok : A.Ok) (hx : affB A ⟨3, f, o, n⟩ = true) (l : List Int) (_hin : InA A l) (hl : l.length ≤ 256) (w : World) (_hA : AlphaAt w fp ap A) (hL : SlAt w lp l lc) :
    Calls Tryz.prog 30 #[.agg #[.slice fp A.feats.length fc, .slice ap A.lets.length ac], .int .u32 v, .slice lp l.length lc, .agg #[.int .u8 3, .string f, .string o, .int .i64 n]] w fun e w' => PutRes w.heap.size (putC A v ⟨3, f, o, n⟩ l) e w' ∧ Ext w w' := by
  have hx0 : Ext w (w.alloc (.cells #[.slice fp A.feats.length fc, .slice ap A.lets.length ac] 25)) := (Ext.refl _).alloc _
  obtain ⟨W1, hW1⟩ : ∃ W1, w.alloc (.cells #[.slice fp A.feats.length fc, .slice ap A.lets.length ac] 25) = W1 := ⟨_, rfl⟩
  have hx1 : Ext W1 (W1.alloc (.cells #[.int .u8 3, .string f, .string o, .int .i64 n] 28)) := (Ext.refl _).alloc _
  obtain ⟨W2, hW2⟩ : ∃ W2, W1.alloc (.cells #[.int .u8 3, .string f, .string o, .int .i64 n] 28) = W2 := ⟨_, rfl⟩
  rw [hW1] at hx0
  rw [hW2] at hx1
  have z1 : W1.heap.size = w.heap.size + 1 := by rw [← hW1, size_alloc]
  have HB := Lib.hid (fun W (hW : Ext W2 W) => (by
    have h := hx1.trans hW
    rw [← hW1] at h
    have h2 := hW
    rw [← hW2] at h2
    have c0 := h2.cell0 0
    have c1 := h2.cell0 1
    have c2 := h2.cell0 2
    have c3 := h2.cell0 3
    have l0 := h2.lt0
    rw [z1] at c0 c1 c2 c3 l0
    exact ⟨h.cell0 0, h.cell0 1, h.lt0, c0, c1, c2, c3, l0⟩ : W.cell? ⟨w.heap.size, 0, none⟩ = some (.slice fp A.feats.length fc) ∧ W.cell? ⟨w.heap.size, 1, none⟩ = some (.slice ap A.lets.length ac) ∧ w.heap.size < W.heap.size ∧ W.cell? ⟨w.heap.size + 1, 0, none⟩ = some (.int .u8 3) ∧ W.cell? ⟨w.heap.size + 1, 1, none⟩ = some (.string f) ∧ W.cell? ⟨w.heap.size + 1, 2, none⟩ = some (.string o) ∧ W.cell? ⟨w.heap.size + 1, 3, none⟩ = some (.int .i64 n) ∧ w.heap.size + 1 < W.heap.size))
  have hwW2 : Ext w W2 := hx0.trans hx1
  have HX := Lib.hid hwW2
  have hW2e : (w.alloc (.cells #[.slice fp A.feats.length fc, .slice ap A.lets.length ac] 25)).alloc (.cells #[.int .u8 3, .string f, .string o, .int .i64 n] 28) = W2 := by rw [hW1, hW2]
  obtain ⟨d0, d1, l0, c0, c1, c2, c3, l1⟩ := HB.out _ (Ext.refl _)
  obtain ⟨cf, W3, hcv, hro, hx3⟩ := str_row f hf W2
  have HRO := Lib.hid hro
  have HX3 := Lib.hid hx3
  have hsz : W2.heap.size = w.heap.size + 1 + 1 := by rw [← hW2, size_alloc, z1]
  have HSZ := Lib.hid hsz
  clear hW1 hW2 hx0 hx1 z1 hro hx3 hwW2 hsz
  obtain ⟨ha1, ha2, ha3⟩ := aff3 (x := ⟨3, f, o, n⟩) rfl hx
  dsimp only at ha1 ha2 ha3
  have hmk : mkL A v ⟨3, f, o, n⟩ l = ((spell A f).1 ++ l ++ (spell A o).1, 0) := by rfl
  have hpc := putC_cap hmk
  rw [hpc]
  have hsf : strR f = (spell A f).1 := strR_word ha1
  rw [hsf] at HRO hcv
  have h64 := spell_len A f
  have hso : strR o = (spell A o).1 := strR_word ha2
  have h65 := spell_len A o
  obtain ⟨F, hF⟩ : ∃ F, (spell A f).1 = F := ⟨_, rfl⟩
  rw [hF] at HRO hcv h64 ⊢
  obtain ⟨O, hO⟩ : ∃ O, (spell A o).1 = O := ⟨_, rfl⟩
  rw [hO] at hso h65 ⊢
  obtain ⟨co, W4, hcw, hro4, hx4⟩ := str_row o ho W3
  rw [hso] at hcw hro4
  have HRO4 := Lib.hid hro4
  have HX4 := Lib.hid hx4
  have HJ := Lib.hid (joined17_any (some ⟨W2.heap.size, 0, none⟩) lp (some ⟨W3.heap.size, 0, none⟩) cf lc co F l O (by omega) (by omega) (by omega) W4 (HRO.out.at_.mono HX4.out) (hL.at_.mono ((HX.out.trans HX3.out).trans HX4.out)) HRO4.out.at_)
  clear hso hO hro4 hx4
  obtain ⟨R, hR⟩ : ∃ R, F ++ l ++ O = R := ⟨_, rfl⟩
  rw [hR] at HJ ⊢
  rw [HSZ.out] at hcv HJ
  clear hpc hmk hsf hF hR ha1 ha2 ha3 hx _hok _hA hL h64

  obtain ⟨e0, e1, l2, a0, a1, a2, a3, l3⟩ := HB.out _ HX3.out
  by_cases hcap : 256 < R.length
  · rw [capR_no hcap]
    go_enter Tryz.func30, Tryz.ntmps30
    go_wp2_with fail
    refine HJ.out.mono ?_
    rintro e w5 ⟨rp, rc, rfl, ho5, hy5⟩
    go_wp2_with fail
    go_ret2
    exact ⟨put_no _, ((HX.out.trans HX3.out).trans HX4.out).trans hy5⟩
  · rw [capR_ok hcap]
    go_enter Tryz.func30, Tryz.ntmps30
    go_wp2_with fail
    refine HJ.out.mono ?_
    rintro e w5 ⟨rp, rc, rfl, ho5, hy5⟩
    go_wp2_with fail
    go_ret2
    exact ⟨put_mk (OwnRunes_base ho5 ((HX.out.trans HX3.out).trans HX4.out).le), ((HX.out.trans HX3.out).trans HX4.out).trans hy5⟩

set_option maxRecDepth 100000 in
set_option maxHeartbeats 8000000 in
theorem made17_4 (fp ap lp : Option Addr) (fc ac lc : Nat) (A : Alpha) (v : Nat) (_hv : v < 4294967296) (f o : ByteArray) (n : Int) (hn : -9223372036854775808 ≤ n ∧ n ≤ 9223372036854775807) (hf : f.size ≤ 1048576) (_ho : o.size ≤ 1048576) (_hok : A.Ok) (hx : affB A ⟨4, f, o, n⟩ = true) (l : List Int) (hin : InA A l) (hl : l.length ≤ 256) (w : World) (_hA : AlphaAt w fp ap A) (hL : SlAt w lp l lc) :
    Calls Tryz.prog 30 #[.agg #[.slice fp A.feats.length fc, .slice ap A.lets.length ac], .int .u32 v, .slice lp l.length lc, .agg #[.int .u8 4, .string f, .string o, .int .i64 n]] w fun e w' => PutRes w.heap.size (putC A v ⟨4, f, o, n⟩ l) e w' ∧ Ext w w' := by
  have hx0 : Ext w (w.alloc (.cells #[.slice fp A.feats.length fc, .slice ap A.lets.length ac] 25)) := (Ext.refl _).alloc _
  obtain ⟨W1, hW1⟩ : ∃ W1, w.alloc (.cells #[.slice fp A.feats.length fc, .slice ap A.lets.length ac] 25) = W1 := ⟨_, rfl⟩
  have hx1 : Ext W1 (W1.alloc (.cells #[.int .u8 4, .string f, .string o, .int .i64 n] 28)) := (Ext.refl _).alloc _
  obtain ⟨W2, hW2⟩ : ∃ W2, W1.alloc (.cells #[.int .u8 4, .string f, .string o, .int .i64 n] 28) = W2 := ⟨_, rfl⟩
  rw [hW1] at hx0
  rw [hW2] at hx1
  have z1 : W1.heap.size = w.heap.size + 1 := by rw [← hW1, size_alloc]
  have HB := Lib.hid (fun W (hW : Ext W2 W) => (by
    have h := hx1.trans hW
    rw [← hW1] at h
    have h2 := hW
    rw [← hW2] at h2
    have c0 := h2.cell0 0
    have c1 := h2.cell0 1
    have c2 := h2.cell0 2
    have c3 := h2.cell0 3
    have l0 := h2.lt0
    rw [z1] at c0 c1 c2 c3 l0
    exact ⟨h.cell0 0, h.cell0 1, h.lt0, c0, c1, c2, c3, l0⟩ : W.cell? ⟨w.heap.size, 0, none⟩ = some (.slice fp A.feats.length fc) ∧ W.cell? ⟨w.heap.size, 1, none⟩ = some (.slice ap A.lets.length ac) ∧ w.heap.size < W.heap.size ∧ W.cell? ⟨w.heap.size + 1, 0, none⟩ = some (.int .u8 4) ∧ W.cell? ⟨w.heap.size + 1, 1, none⟩ = some (.string f) ∧ W.cell? ⟨w.heap.size + 1, 2, none⟩ = some (.string o) ∧ W.cell? ⟨w.heap.size + 1, 3, none⟩ = some (.int .i64 n) ∧ w.heap.size + 1 < W.heap.size))
  have hwW2 : Ext w W2 := hx0.trans hx1
  have HX := Lib.hid hwW2
  have hW2e : (w.alloc (.cells #[.slice fp A.feats.length fc, .slice ap A.lets.length ac] 25)).alloc (.cells #[.int .u8 4, .string f, .string o, .int .i64 n] 28) = W2 := by rw [hW1, hW2]
  obtain ⟨d0, d1, l0, c0, c1, c2, c3, l1⟩ := HB.out _ (Ext.refl _)
  obtain ⟨cf, W3, hcv, hro, hx3⟩ := str_row f hf W2
  have HRO := Lib.hid hro
  have HX3 := Lib.hid hx3
  have hsz : W2.heap.size = w.heap.size + 1 + 1 := by rw [← hW2, size_alloc, z1]
  have HSZ := Lib.hid hsz
  clear hW1 hW2 hx0 hx1 z1 hro hx3 hwW2 hsz
  obtain ⟨ha1, ha2, ha3, ha4⟩ := aff4 (x := ⟨4, f, o, n⟩) rfl hx
  dsimp only at ha1 ha2 ha3 ha4
  obtain ⟨m, rfl⟩ : ∃ m : Nat, n = (m : Int) := ⟨n.toNat, by omega⟩
  have hmk : mkL A v ⟨4, f, o, (m : Int)⟩ l = (l.take m ++ (spell A f).1 ++ l.drop m, 0) := rfl
  have hpc := putC_cap hmk
  rw [hpc]
  have hsf : strR f = (spell A f).1 := strR_word ha1
  rw [hsf] at HRO hcv
  have h64 := spell_len A f
  obtain ⟨F, hF⟩ : ∃ F, (spell A f).1 = F := ⟨_, rfl⟩
  rw [hF] at HRO hcv h64 ⊢
  have hroom := hL.room
  obtain ⟨q, hq⟩ : ∃ q, min m l.length = q := ⟨_, rfl⟩
  have hql : q ≤ l.length := by omega
  have e1 : l.take m = l.take q := by rw [← hq]; exact List.take_eq_take_min ..
  have e2 : l.drop m = l.drop q := by
    by_cases h : m ≤ l.length
    · rw [← hq, Nat.min_eq_left h]
    · rw [← hq, Nat.min_eq_right (by omega), List.drop_length, List.drop_eq_nil_of_le (by omega)]
  rw [e1, e2]
  have hlt : (l.take q).length = q := sl_len hql
  have hld : (l.drop q).length = l.length - q := List.length_drop ..
  have gm : min (m : Int) (l.length : Int) = (q : Int) := by omega
  have hj := fun (W : World) (hW : Ext W3 W) (lq : Option Addr) (cq : Nat) (hq9 : RunesAt W lq (l.drop q)) => joined17_any lp (some ⟨W2.heap.size, 0, none⟩) lq lc cf cq (l.take q) F (l.drop q) (by omega) (by omega) (by omega) W ((hL.at_.take q).mono ((HX.out.trans HX3.out).trans hW)) (HRO.out.at_.mono hW) hq9
  rw [hlt, hld] at hj
  have HL := Lib.hid (fun W (hW : Ext W3 W) => hL.mono ((HX.out.trans HX3.out).trans hW))
  obtain ⟨R, hR⟩ : ∃ R, l.take q ++ F ++ l.drop q = R := ⟨_, rfl⟩
  rw [hR] at hj ⊢
  have HJ := Lib.hid hj
  rw [HSZ.out] at hcv HJ
  have hform := hL.form
  have hzero := fun (e : lp = none) => (by rw [e] at hL; exact hL.zero : l = [])
  have HZ := Lib.hid hzero
  clear hj hR e1 e2 hpc hmk hsf hF ha1 ha2 hx _hok _hA hL hzero hq

  obtain ⟨e0, e1, l2, a0, a1, a2, a3, l3⟩ := HB.out _ HX3.out
  rcases hform with ⟨b0, off, rfl⟩ | ⟨rfl, rfl⟩
  · by_cases hcc : lc = q
    · subst hcc
      have hl9 : l.length - lc = 0 := by omega
      have HD := Lib.hid (show l.drop lc = [] from List.length_eq_zero_iff.1 (by omega))
      have hj2 := fun (W : World) (hW : Ext W3 W) => HJ.out W hW (some ⟨b0, off, none⟩) 0 (by rw [HD.out]; exact RunesAt.nil _ _)
      rw [hl9] at hj2
      have HJ2 := Lib.hid hj2
      clear hj2 hl9 hld hlt
      by_cases hcap : 256 < R.length
      · rw [capR_no hcap]
        go_enter Tryz.func30, Tryz.ntmps30
        go_wp2_with fail
        go_region_held3 (fun W => Ext W3 W) (first | exact hE5 | exact (Ext.refl _).drew | exact Ext.refl _) ((go_at_call 48; refine (HJ2.out _ (Ext.refl _).drew).mono ?_; rintro e w5 ⟨rp, rc, rfl, ho5, hq5⟩; have hE5 : Ext W3 w5 := ((Ext.refl _).drew).trans hq5))
        go_wp2_with fail
        go_ret2
        exact ⟨put_no _, (HX.out.trans HX3.out).trans hE5⟩
      · rw [capR_ok hcap]
        go_enter Tryz.func30, Tryz.ntmps30
        go_wp2_with fail
        go_region_held3 (fun W => Ext W3 W) (first | exact hE5 | exact (Ext.refl _).drew | exact Ext.refl _) ((go_at_call 48; refine (HJ2.out _ (Ext.refl _).drew).mono ?_; rintro e w5 ⟨rp, rc, rfl, ho5, hq5⟩; have hE5 : Ext W3 w5 := ((Ext.refl _).drew).trans hq5))
        go_wp2_with fail
        go_ret2
        exact ⟨put_mk (OwnRunes_base ho5 ((HX.out.trans HX3.out).trans (Ext.refl _).drew).le), (HX.out.trans HX3.out).trans hE5⟩
    · have hj2 := fun (W : World) (hW : Ext W3 W) => HJ.out W hW (some ⟨b0, off + q, none⟩) (lc - q) ((HL.out W hW).at_.drop_ q)
      have HJ2 := Lib.hid hj2
      have gi0 : (0 : Int) ≤ (q : Int) := by omega
      have gi1 : (q : Int) ≤ (lc : Int) := by omega
      have gi2 : (q : Int) ≤ (l.length : Int) := by omega
      clear hj2 hld hlt
      by_cases hcap : 256 < R.length
      · rw [capR_no hcap]
        go_enter Tryz.func30, Tryz.ntmps30
        go_wp2_with fail
        go_region_held3 (fun W => Ext W3 W) (first | exact hE5 | exact (Ext.refl _).drew | exact Ext.refl _) ((go_at_call 48; refine (HJ2.out _ (Ext.refl _).drew).mono ?_; rintro e w5 ⟨rp, rc, rfl, ho5, hq5⟩; have hE5 : Ext W3 w5 := ((Ext.refl _).drew).trans hq5))
        go_wp2_with fail
        go_ret2
        exact ⟨put_no _, (HX.out.trans HX3.out).trans hE5⟩
      · rw [capR_ok hcap]
        go_enter Tryz.func30, Tryz.ntmps30
        go_wp2_with fail
        go_region_held3 (fun W => Ext W3 W) (first | exact hE5 | exact (Ext.refl _).drew | exact Ext.refl _) ((go_at_call 48; refine (HJ2.out _ (Ext.refl _).drew).mono ?_; rintro e w5 ⟨rp, rc, rfl, ho5, hq5⟩; have hE5 : Ext W3 w5 := ((Ext.refl _).drew).trans hq5))
        go_wp2_with fail
        go_ret2
        exact ⟨put_mk (OwnRunes_base ho5 ((HX.out.trans HX3.out).trans (Ext.refl _).drew).le), (HX.out.trans HX3.out).trans hE5⟩
  · have e := HZ.out rfl
    subst e
    obtain rfl : q = 0 := by simpa using hql
    have hj2 := fun (W : World) (hW : Ext W3 W) => HJ.out W hW none 0 (RunesAt.nil _ _)
    simp only [List.length_nil, Nat.sub_zero] at hj2
    have gm2 : min (m : Int) 0 = 0 := by omega
    have HJ2 := Lib.hid hj2
    clear hj2 hld hlt gm
    by_cases hcap : 256 < R.length
    · rw [capR_no hcap]
      go_enter Tryz.func30, Tryz.ntmps30
      go_wp2_with fail
      go_region_held3 (fun W => Ext W3 W) (first | exact hE5 | exact (Ext.refl _).drew | exact Ext.refl _) ((go_at_call 48; refine (HJ2.out _ (Ext.refl _).drew).mono ?_; rintro e w5 ⟨rp, rc, rfl, ho5, hq5⟩; have hE5 : Ext W3 w5 := ((Ext.refl _).drew).trans hq5))
      go_wp2_with fail
      go_ret2
      exact ⟨put_no _, (HX.out.trans HX3.out).trans hE5⟩
    · rw [capR_ok hcap]
      go_enter Tryz.func30, Tryz.ntmps30
      go_wp2_with fail
      go_region_held3 (fun W => Ext W3 W) (first | exact hE5 | exact (Ext.refl _).drew | exact Ext.refl _) ((go_at_call 48; refine (HJ2.out _ (Ext.refl _).drew).mono ?_; rintro e w5 ⟨rp, rc, rfl, ho5, hq5⟩; have hE5 : Ext W3 w5 := ((Ext.refl _).drew).trans hq5))
      go_wp2_with fail
      go_ret2
      exact ⟨put_mk (OwnRunes_base ho5 ((HX.out.trans HX3.out).trans (Ext.refl _).drew).le), (HX.out.trans HX3.out).trans hE5⟩

set_option maxRecDepth 100000 in
set_option maxHeartbeats 8000000 in
theorem made17_5 (fp ap lp : Option Addr) (fc ac lc : Nat) (A : Alpha) (v : Nat) (hv : v < 4294967296) (f o : ByteArray) (n : Int) (_hn : -9223372036854775808 ≤ n ∧ n ≤ 9223372036854775807) (hf : f.size ≤ 1048576) (_ho : o.size ≤ 1048576) (_hok : A.Ok) (hx : affB A ⟨5, f, o, n⟩ = true) (l : List Int) (hin : InA A l) (hl : l.length ≤ 256) (w : World) (hA : AlphaAt w fp ap A) (hL : SlAt w lp l lc) :
    Calls Tryz.prog 30 #[.agg #[.slice fp A.feats.length fc, .slice ap A.lets.length ac], .int .u32 v, .slice lp l.length lc, .agg #[.int .u8 5, .string f, .string o, .int .i64 n]] w fun e w' => PutRes w.heap.size (putC A v ⟨5, f, o, n⟩ l) e w' ∧ Ext w w' := by
  have hx0 : Ext w (w.alloc (.cells #[.slice fp A.feats.length fc, .slice ap A.lets.length ac] 25)) := (Ext.refl _).alloc _
  obtain ⟨W1, hW1⟩ : ∃ W1, w.alloc (.cells #[.slice fp A.feats.length fc, .slice ap A.lets.length ac] 25) = W1 := ⟨_, rfl⟩
  have hx1 : Ext W1 (W1.alloc (.cells #[.int .u8 5, .string f, .string o, .int .i64 n] 28)) := (Ext.refl _).alloc _
  obtain ⟨W2, hW2⟩ : ∃ W2, W1.alloc (.cells #[.int .u8 5, .string f, .string o, .int .i64 n] 28) = W2 := ⟨_, rfl⟩
  rw [hW1] at hx0
  rw [hW2] at hx1
  have z1 : W1.heap.size = w.heap.size + 1 := by rw [← hW1, size_alloc]
  have HB := Lib.hid (fun W (hW : Ext W2 W) => (by
    have h := hx1.trans hW
    rw [← hW1] at h
    have h2 := hW
    rw [← hW2] at h2
    have c0 := h2.cell0 0
    have c1 := h2.cell0 1
    have c2 := h2.cell0 2
    have c3 := h2.cell0 3
    have l0 := h2.lt0
    rw [z1] at c0 c1 c2 c3 l0
    exact ⟨h.cell0 0, h.cell0 1, h.lt0, c0, c1, c2, c3, l0⟩ : W.cell? ⟨w.heap.size, 0, none⟩ = some (.slice fp A.feats.length fc) ∧ W.cell? ⟨w.heap.size, 1, none⟩ = some (.slice ap A.lets.length ac) ∧ w.heap.size < W.heap.size ∧ W.cell? ⟨w.heap.size + 1, 0, none⟩ = some (.int .u8 5) ∧ W.cell? ⟨w.heap.size + 1, 1, none⟩ = some (.string f) ∧ W.cell? ⟨w.heap.size + 1, 2, none⟩ = some (.string o) ∧ W.cell? ⟨w.heap.size + 1, 3, none⟩ = some (.int .i64 n) ∧ w.heap.size + 1 < W.heap.size))
  have hwW2 : Ext w W2 := hx0.trans hx1
  have HX := Lib.hid hwW2
  have hW2e : (w.alloc (.cells #[.slice fp A.feats.length fc, .slice ap A.lets.length ac] 25)).alloc (.cells #[.int .u8 5, .string f, .string o, .int .i64 n] 28) = W2 := by rw [hW1, hW2]
  obtain ⟨d0, d1, l0, c0, c1, c2, c3, l1⟩ := HB.out _ (Ext.refl _)
  obtain ⟨cf, W3, hcv, hro, hx3⟩ := str_row f hf W2
  have HRO := Lib.hid hro
  have HX3 := Lib.hid hx3
  have hsz : W2.heap.size = w.heap.size + 1 + 1 := by rw [← hW2, size_alloc, z1]
  have HSZ := Lib.hid hsz
  clear hW1 hW2 hx0 hx1 z1 hro hx3 hwW2 hsz
  obtain ⟨ha1, ha2, ha3⟩ := aff5 (x := ⟨5, f, o, n⟩) rfl hx
  dsimp only at ha1 ha2 ha3
  have hmk : mkL A v ⟨5, f, o, n⟩ l = if holeN (formL A f) = (rootL A v l).length then (fillTo (rootL A v l) (formL A f) (formL A f).length, 0) else ([], 130) := rfl
  have hsf : strR f = formL A f := strR_form ha1
  rw [hsf] at HRO hcv
  have h64 := formL_len A f
  have HRD := Lib.hid (fun W (hW : Ext w W) => radicals17_any fp ap lp fc ac lc A v hv l hin (by omega) W (hA.mono hW) (hL.at_.mono hW))
  obtain ⟨F, hF⟩ : ∃ F, formL A f = F := ⟨_, rfl⟩
  rw [hF] at HRO hcv h64 hmk
  have hrl := rootL_len A v l
  obtain ⟨Q, hQ⟩ : ∃ Q, rootL A v l = Q := ⟨_, rfl⟩
  rw [hQ] at HRD hmk hrl
  have HFI := Lib.hid (fun W (hW : Ext W3 W) qp qc (hq : RunesAt W qp Q) => filled17_any (some ⟨W2.heap.size, 0, none⟩) qp cf qc F Q (by omega) (by omega) W (HRO.out.at_.mono hW) hq)
  rw [HSZ.out] at hcv HFI
  clear hsf hF hQ ha1 ha2 ha3 hx _hok hA hL
  obtain ⟨e0, e1, l2, a0, a1, a2, a3, l3⟩ := HB.out _ HX3.out
  by_cases hh : holeN F = Q.length
  · rw [if_pos hh] at hmk
    have hpc := putC_cap hmk
    have hfe := fillR_eq (l := Q) (f := F) (by omega) F.length (Nat.le_refl _)
    rw [← hfe] at hpc
    rw [hpc]
    have hlen := fillR_len Q F F.length
    have hd : decide (holeN F = Q.length) = true := decide_eq_true hh
    have HD := Lib.hid hd
    have HLN := Lib.hid hlen
    have gF : ¬ 256 < F.length := by omega
    rw [capR_ok (by omega)]
    clear hpc hmk hfe hh hd hlen
    go_enter Tryz.func30, Tryz.ntmps30
    go_wp2_with fail
    refine (HRD.out _ (HX.out.trans HX3.out)).mono ?_
    rintro e w5 ⟨qp, qc, rfl, ho5, hy5⟩
    go_wp2_with fail
    refine (HFI.out _ hy5 qp qc ho5.at_).mono ?_
    rintro e w6 ⟨⟨rp, rc, rfl, ho6⟩, hy6⟩
    rw [HD.out]
    have HO6 := Lib.hid ho6
    clear ho6 ho5
    go_wp2_with fail
    go_ret2
    have hy7 := (HX.out.trans HX3.out).trans (hy5.trans hy6)
    refine ⟨⟨rp, rc, (by rw [HLN.out]; rfl), OwnRunes_base HO6.out ((HX.out.trans HX3.out).trans hy5).le⟩, hy7⟩
  · rw [if_neg hh] at hmk
    rw [putC_bad (by decide) hmk]
    have hd : decide (holeN F = Q.length) = false := decide_eq_false hh
    have HD := Lib.hid hd
    clear hmk hh hd
    go_enter Tryz.func30, Tryz.ntmps30
    go_wp2_with fail
    refine (HRD.out _ (HX.out.trans HX3.out)).mono ?_
    rintro e w5 ⟨qp, qc, rfl, ho5, hy5⟩
    go_wp2_with fail
    refine (HFI.out _ hy5 qp qc ho5.at_).mono ?_
    rintro e w6 ⟨⟨rp, rc, rfl, ho6⟩, hy6⟩
    rw [HD.out]
    clear ho6 ho5
    go_wp2_with fail
    go_ret2
    exact ⟨put_no _, (HX.out.trans HX3.out).trans (hy5.trans hy6)⟩

set_option maxRecDepth 100000 in
set_option maxHeartbeats 8000000 in
theorem made17_6 (fp ap lp : Option Addr) (fc ac lc : Nat) (A : Alpha) (v : Nat) (_hv : v < 4294967296) (f o : ByteArray) (n : Int) (hn : -9223372036854775808 ≤ n ∧ n ≤ 9223372036854775807) (hf : f.size ≤ 1048576) (_ho : o.size ≤ 1048576) (_hok : A.Ok) (hx : affB A ⟨6, f, o, n⟩ = true) (l : List Int) (_hin : InA A l) (hl : l.length ≤ 256) (w : World) (_hA : AlphaAt w fp ap A) (hL : SlAt w lp l lc) :
    Calls Tryz.prog 30 #[.agg #[.slice fp A.feats.length fc, .slice ap A.lets.length ac], .int .u32 v, .slice lp l.length lc, .agg #[.int .u8 6, .string f, .string o, .int .i64 n]] w fun e w' => PutRes w.heap.size (putC A v ⟨6, f, o, n⟩ l) e w' ∧ Ext w w' := by
  have hx0 : Ext w (w.alloc (.cells #[.slice fp A.feats.length fc, .slice ap A.lets.length ac] 25)) := (Ext.refl _).alloc _
  obtain ⟨W1, hW1⟩ : ∃ W1, w.alloc (.cells #[.slice fp A.feats.length fc, .slice ap A.lets.length ac] 25) = W1 := ⟨_, rfl⟩
  have hx1 : Ext W1 (W1.alloc (.cells #[.int .u8 6, .string f, .string o, .int .i64 n] 28)) := (Ext.refl _).alloc _
  obtain ⟨W2, hW2⟩ : ∃ W2, W1.alloc (.cells #[.int .u8 6, .string f, .string o, .int .i64 n] 28) = W2 := ⟨_, rfl⟩
  rw [hW1] at hx0
  rw [hW2] at hx1
  have z1 : W1.heap.size = w.heap.size + 1 := by rw [← hW1, size_alloc]
  have HB := Lib.hid (fun W (hW : Ext W2 W) => (by
    have h := hx1.trans hW
    rw [← hW1] at h
    have h2 := hW
    rw [← hW2] at h2
    have c0 := h2.cell0 0
    have c1 := h2.cell0 1
    have c2 := h2.cell0 2
    have c3 := h2.cell0 3
    have l0 := h2.lt0
    rw [z1] at c0 c1 c2 c3 l0
    exact ⟨h.cell0 0, h.cell0 1, h.lt0, c0, c1, c2, c3, l0⟩ : W.cell? ⟨w.heap.size, 0, none⟩ = some (.slice fp A.feats.length fc) ∧ W.cell? ⟨w.heap.size, 1, none⟩ = some (.slice ap A.lets.length ac) ∧ w.heap.size < W.heap.size ∧ W.cell? ⟨w.heap.size + 1, 0, none⟩ = some (.int .u8 6) ∧ W.cell? ⟨w.heap.size + 1, 1, none⟩ = some (.string f) ∧ W.cell? ⟨w.heap.size + 1, 2, none⟩ = some (.string o) ∧ W.cell? ⟨w.heap.size + 1, 3, none⟩ = some (.int .i64 n) ∧ w.heap.size + 1 < W.heap.size))
  have hwW2 : Ext w W2 := hx0.trans hx1
  have HX := Lib.hid hwW2
  have hW2e : (w.alloc (.cells #[.slice fp A.feats.length fc, .slice ap A.lets.length ac] 25)).alloc (.cells #[.int .u8 6, .string f, .string o, .int .i64 n] 28) = W2 := by rw [hW1, hW2]
  obtain ⟨d0, d1, l0, c0, c1, c2, c3, l1⟩ := HB.out _ (Ext.refl _)
  obtain ⟨cf, W3, hcv, hro, hx3⟩ := str_row f hf W2
  have HRO := Lib.hid hro
  have HX3 := Lib.hid hx3
  have hsz : W2.heap.size = w.heap.size + 1 + 1 := by rw [← hW2, size_alloc, z1]
  have HSZ := Lib.hid hsz
  clear hW1 hW2 hx0 hx1 z1 hro hx3 hwW2 hsz
  obtain ⟨ha1, ha2, ha3, ha4⟩ := aff6 (x := ⟨6, f, o, n⟩) rfl hx
  dsimp only at ha1 ha2 ha3 ha4
  obtain ⟨m, hm⟩ : ∃ m : Nat, n.toNat = m := ⟨_, rfl⟩
  have hmn : n = (m : Int) := by omega
  have hmk : mkL A v ⟨6, f, o, n⟩ l = if l.length < m then ([], 150) else if m = 0 then (l ++ l, 0) else (l.take m ++ l, 0) := by rw [← hm]; rfl
  have hroom := hL.room
  rw [HSZ.out] at hcv
  have hl0 := fun (k : Nat) (W : World) (hW : Ext w W) => joined17_any lp lp none lc lc 0 (l.take k) l [] (by rw [List.length_take]; omega) (by omega) (by decide) W ((hL.at_.take k).mono hW) (hL.at_.mono hW) (RunesAt.nil _ _)
  have HJ0 := Lib.hid hl0
  clear hl0 ha1 ha2 hx _hok _hA hL
  obtain ⟨e0, e1, l2, a0, a1, a2, a3, l3⟩ := HB.out _ HX3.out
  by_cases hlm : l.length < m
  · rw [if_pos hlm] at hmk
    rw [putC_bad (by decide) hmk]
    have gl : (l.length : Int) < n := by omega
    clear hmk hmn hm
    go_enter Tryz.func30, Tryz.ntmps30
    go_wp2_with fail
    go_ret2
    exact ⟨put_no _, HX.out.trans HX3.out⟩
  rw [if_neg hlm] at hmk
  by_cases h0 : m = 0
  · rw [if_pos h0] at hmk
    have hpc := putC_cap hmk
    rw [hpc]
    have hj := HJ0.out l.length W3 (HX.out.trans HX3.out)
    rw [List.take_length, List.append_nil] at hj
    obtain ⟨R, hR⟩ : ∃ R, l ++ l = R := ⟨_, rfl⟩
    rw [hR] at hj ⊢
    have HJ := Lib.hid hj
    obtain rfl : n = 0 := by omega
    clear hpc hmk hR hj hmn hm
    by_cases hcap : 256 < R.length
    · rw [capR_no hcap]
      go_enter Tryz.func30, Tryz.ntmps30
      go_wp2_with fail
      refine HJ.out.mono ?_
      rintro e w5 ⟨rp, rc, rfl, ho5, hy5⟩
      go_wp2_with fail
      go_ret2
      exact ⟨put_no _, (HX.out.trans HX3.out).trans hy5⟩
    · rw [capR_ok hcap]
      go_enter Tryz.func30, Tryz.ntmps30
      go_wp2_with fail
      refine HJ.out.mono ?_
      rintro e w5 ⟨rp, rc, rfl, ho5, hy5⟩
      go_wp2_with fail
      go_ret2
      exact ⟨put_mk (OwnRunes_base ho5 (HX.out.trans HX3.out).le), (HX.out.trans HX3.out).trans hy5⟩
  · rw [if_neg h0] at hmk
    have hpc := putC_cap hmk
    rw [hpc]
    have hj := HJ0.out m W3 (HX.out.trans HX3.out)
    rw [sl_len (by omega), List.append_nil] at hj
    obtain ⟨R, hR⟩ : ∃ R, l.take m ++ l = R := ⟨_, rfl⟩
    rw [hR] at hj ⊢
    have HJ := Lib.hid hj
    clear hpc hmk hR hj hm
    subst hmn
    have g0 : ((m : Int) == 0) = false := by rw [beq_eq_false_iff_ne]; omega
    by_cases hcap : 256 < R.length
    · rw [capR_no hcap]
      go_enter Tryz.func30, Tryz.ntmps30
      go_wp2_with fail
      refine HJ.out.mono ?_
      rintro e w5 ⟨rp, rc, rfl, ho5, hy5⟩
      go_wp2_with fail
      go_ret2
      exact ⟨put_no _, (HX.out.trans HX3.out).trans hy5⟩
    · rw [capR_ok hcap]
      go_enter Tryz.func30, Tryz.ntmps30
      go_wp2_with fail
      refine HJ.out.mono ?_
      rintro e w5 ⟨rp, rc, rfl, ho5, hy5⟩
      go_wp2_with fail
      go_ret2
      exact ⟨put_mk (OwnRunes_base ho5 (HX.out.trans HX3.out).le), (HX.out.trans HX3.out).trans hy5⟩

theorem Made17_any (fp ap lp : Option Addr) (fc ac lc : Nat) (A : Alpha) (v : Nat) (hv : v < 4294967296) (x : Aff) (hwf : x.wf) (hsm : x.small) (hok : A.Ok) (hx : affB A x = true) (l : List Int) (hin : InA A l) (hl : l.length ≤ 256) (w : World) (hA : AlphaAt w fp ap A) (hL : SlAt w lp l lc) :
    Calls Tryz.prog 30 #[.agg #[.slice fp A.feats.length fc, .slice ap A.lets.length ac], .int .u32 v, .slice lp l.length lc, .agg #[.int .u8 (x.kind : Int), .string x.form, .string x.other, .int .i64 x.pos]] w fun e w' => PutRes w.heap.size (putC A v x l) e w' ∧ Ext w w' := by
  have hk := aff_kind hx
  obtain ⟨k, f, o, n⟩ := x
  obtain ⟨_, _, _, q4, q5⟩ := hwf
  obtain ⟨s1, s2⟩ := hsm
  dsimp only at q4 q5 s1 s2 hk ⊢
  rcases hk with rfl | rfl | rfl | rfl | rfl | rfl
  · exact made17_1 fp ap lp fc ac lc A v hv f o n ⟨q4, q5⟩ s1 s2 hok hx l hin hl w hA hL
  · exact made17_2 fp ap lp fc ac lc A v hv f o n ⟨q4, q5⟩ s1 s2 hok hx l hin hl w hA hL
  · exact made17_3 fp ap lp fc ac lc A v hv f o n ⟨q4, q5⟩ s1 s2 hok hx l hin hl w hA hL
  · exact made17_4 fp ap lp fc ac lc A v hv f o n ⟨q4, q5⟩ s1 s2 hok hx l hin hl w hA hL
  · exact made17_5 fp ap lp fc ac lc A v hv f o n ⟨q4, q5⟩ s1 s2 hok hx l hin hl w hA hL
  · exact made17_6 fp ap lp fc ac lc A v hv f o n ⟨q4, q5⟩ s1 s2 hok hx l hin hl w hA hL
end Go.Proofs.YtkmfhcjdaglikaaGreatDoor

namespace Go.Proofs.YtkmfhcjdaglikaaGreatDoor
open Go.RowKit Go.Cg Go.Shelf Go.Maps

/-- the letters that the reference tries -/
def takC (A : Alpha) (x : Aff) (l : List Int) : Option (List Int) := match x.kind with
  | 1 => if (spell A x.form).1.length ≤ l.length then some (l.drop (spell A x.form).1.length) else none
  | 2 => if (spell A x.form).1.length ≤ l.length then some (l.take (l.length - (spell A x.form).1.length)) else none
  | 3 => if (spell A x.form).1.length + (spell A x.other).1.length ≤ l.length then some ((l.drop (spell A x.form).1.length).take (l.length - (spell A x.form).1.length - (spell A x.other).1.length)) else none
  | 4 => if (spell A x.form).1.length ≤ l.length then some (l.take (min x.pos.toNat (l.length - (spell A x.form).1.length)) ++ l.drop (min x.pos.toNat (l.length - (spell A x.form).1.length) + (spell A x.form).1.length)) else none
  | 5 => if l.length = (formL A x.form).length then some (atHoles l (formL A x.form) (formL A x.form).length) else none
  | 6 => if x.pos.toNat = 0 ∧ l.length % 2 = 0 then some (l.take (l.length / 2)) else if x.pos.toNat = 0 ∨ l.length < 2 * x.pos.toNat then none else some (l.drop x.pos.toNat)
  | _ => none
/-- .. and whether they are the ones -/
def takB (A : Alpha) (v : Nat) (x : Aff) (l s : List Int) : Prop := putC A v x s = (l, 0) ∧ (x.kind = 5 → (rootL A v s).length = s.length)
theorem putC_iff {A : Alpha} {v : Nat} {x : Aff} {l s : List Int} (hl : l.length ≤ 256) : putC A v x s = (l, 0) ↔ mkL A v x s = (l, 0) := by
  constructor
  · intro h
    have h2 := (putC_ok (by rw [h])).2.2
    rw [← h2]; exact h
  · intro h
    unfold putC
    rw [h, if_neg (by simp), if_neg (by show ¬ 256 < l.length; omega)]
/-- what the reference takes off is what the program takes off -/
theorem tak_off {A : Alpha} {v : Nat} {x : Aff} {l : List Int} (hx : affB A x = true) (hl : l.length ≤ 256) : (takC A x l = none → offL A v x l = none) ∧ ∀ s, takC A x l = some s → (takB A v x l s → offL A v x l = some s) ∧ (¬ takB A v x l s → offL A v x l = none) := by
  have same : takC A x l = offC A v x l → x.kind ≠ 5 → (takC A x l = none → offL A v x l = none) ∧ ∀ s, takC A x l = some s → (takB A v x l s → offL A v x l = some s) ∧ (¬ takB A v x l s → offL A v x l = none) := fun h h5 => by
    refine ⟨fun h0 => ?_, fun s hs => ⟨fun hb => ?_, fun hb => ?_⟩⟩
    · unfold offL; rw [← h, h0]
    · unfold offL; rw [← h, hs]; exact if_pos ((putC_iff hl).1 hb.1)
    · unfold offL; rw [← h, hs]; exact if_neg fun c => hb ⟨(putC_iff hl).2 c, fun c5 => absurd c5 h5⟩
  rcases aff_kind hx with k | k | k | k | k | k
  · refine same ?_ (by omega)
    unfold takC offC; rw [k]; rfl
  · refine same ?_ (by omega)
    unfold takC offC; rw [k]; rfl
  · refine same ?_ (by omega)
    unfold takC offC; rw [k]; rfl
  · refine same ?_ (by omega)
    unfold takC offC; rw [k]; rfl
  · have ht : takC A x l = if l.length = (formL A x.form).length then some (atHoles l (formL A x.form) (formL A x.form).length) else none := by unfold takC; rw [k]; rfl
    have ho : offC A v x l = if l.length = (formL A x.form).length ∧ consB A v l (formL A x.form) = true then some (atHoles l (formL A x.form) (formL A x.form).length) else none := by unfold offC; rw [k]; rfl
    by_cases hlen : l.length = (formL A x.form).length
    · rw [if_pos hlen] at ht
      refine ⟨fun h0 => (by rw [ht] at h0; cases h0), fun s hs => ?_⟩
      have hs2 : atHoles l (formL A x.form) (formL A x.form).length = s := by rw [ht] at hs; exact Option.some.inj hs
      have hci := consB_iff A v l (formL A x.form)
      rw [hs2] at ho hci
      by_cases hc : consB A v l (formL A x.form) = true
      · rw [if_pos ⟨hlen, hc⟩] at ho
        refine ⟨fun hb => ?_, fun hb => ?_⟩
        · unfold offL; rw [ho]; exact if_pos ((putC_iff hl).1 hb.1)
        · unfold offL; rw [ho]; exact if_neg fun c => hb ⟨(putC_iff hl).2 c, fun _ => hci.1 hc⟩
      · rw [if_neg fun c => hc c.2] at ho
        refine ⟨fun hb => absurd (hci.2 (hb.2 k)) hc, fun _ => ?_⟩
        unfold offL; rw [ho]
    · rw [if_neg hlen] at ht
      rw [if_neg fun c => hlen c.1] at ho
      refine ⟨fun _ => (by unfold offL; rw [ho]), fun s hs => (by rw [ht] at hs; cases hs)⟩
  · have ht : takC A x l = if x.pos.toNat = 0 ∧ l.length % 2 = 0 then some (l.take (l.length / 2)) else if x.pos.toNat = 0 ∨ l.length < 2 * x.pos.toNat then none else some (l.drop x.pos.toNat) := by unfold takC; rw [k]; rfl
    have ho : offC A v x l = if x.pos.toNat = 0 then some (l.drop (l.length / 2)) else if 2 * x.pos.toNat ≤ l.length then some (l.drop x.pos.toNat) else none := by unfold offC; rw [k]; rfl
    have hm : ∀ s, mkL A v x s = if s.length < x.pos.toNat then ([], 150) else if x.pos.toNat = 0 then (s ++ s, 0) else (s.take x.pos.toNat ++ s, 0) := fun s => by unfold mkL; rw [k]; rfl
    by_cases h0 : x.pos.toNat = 0
    · rw [if_pos h0] at ho
      have hm2 : ∀ s, mkL A v x s = (s ++ s, 0) := fun s => by rw [hm s, if_neg (by omega), if_pos h0]
      by_cases he : l.length % 2 = 0
      · rw [if_pos ⟨h0, he⟩] at ht
        refine ⟨fun h => (by rw [ht] at h; cases h), fun s hs => ?_⟩
        have hs2 : l.take (l.length / 2) = s := by rw [ht] at hs; exact Option.some.inj hs
        have hsl : s.length = l.length / 2 := by rw [← hs2, List.length_take]; omega
        refine ⟨fun hb => ?_, fun hb => ?_⟩
        · have h1 := (putC_iff hl).1 hb.1
          rw [hm2] at h1
          have h2 : s ++ s = l := congrArg Prod.fst h1
          have h3 : l.drop (l.length / 2) = s := by rw [← hsl, ← h2, List.drop_left]
          unfold offL; rw [ho, h3]; dsimp only; rw [hm2, h2, if_pos rfl]
        · unfold offL; rw [ho]; dsimp only
          refine if_neg fun c => hb ⟨(putC_iff hl).2 ?_, fun c5 => absurd c5 (by omega)⟩
          rw [hm2] at c ⊢
          have h2 : l.drop (l.length / 2) ++ l.drop (l.length / 2) = l := congrArg Prod.fst c
          have hdl : (l.drop (l.length / 2)).length = l.length / 2 := by rw [List.length_drop]; omega
          have h3 : s = l.drop (l.length / 2) := by
            have e : (l.drop (l.length / 2) ++ l.drop (l.length / 2)).take (l.drop (l.length / 2)).length = l.drop (l.length / 2) := by rw [List.take_left]
            rw [h2, hdl, hs2] at e
            exact e
          rw [h3, h2]
      · rw [if_neg fun c => he c.2, if_pos (.inl h0)] at ht
        refine ⟨fun _ => ?_, fun s hs => by rw [ht] at hs; cases hs⟩
        unfold offL; rw [ho]; dsimp only
        refine if_neg fun c => ?_
        rw [hm2] at c
        have h2 := congrArg (fun z => z.1.length) c
        simp only [List.length_append, List.length_drop] at h2
        omega
    · refine same ?_ (by omega)
      rw [ht, ho, if_neg fun c => h0 c.1, if_neg h0]
      by_cases h2 : l.length < 2 * x.pos.toNat
      · rw [if_pos (.inr h2), if_neg (by omega)]
      · rw [if_neg (by omega), if_pos (by omega)]
end Go.Proofs.YtkmfhcjdaglikaaGreatDoor
