/- Contracts: cognateref17.Taken, Put, Off, Formed, Form, Stems; the law ParadigmAffixes, walked. -/
import Derived.Test.YtkmfhcjdaglikaaGreatDoorPasw
import Derived.IntWalk
import Derived.Test.YtkmfhcjdaglikaaGreatDoorPamc
namespace Go.Proofs.YtkmfhcjdaglikaaGreatDoor
open Go.RowKit Go.Cg Go.Shelf Go.Maps

theorem rb_ne9 {a b : ByteArray} (h : a ≠ b) : (a.toList != b.toList) = true ∧ (a.toList == b.toList) = false := by
  have h2 : a.toList ≠ b.toList := by
    rw [Lib.toList_data, Lib.toList_data]
    intro e
    apply h
    cases a; cases b
    congr 1
    exact Array.toList_inj.1 e
  exact ⟨bne_iff_ne.2 h2, beq_eq_false_iff_ne.2 h2⟩
/-- what the reference's candidate is worth -/
theorem tak_yes {A : Alpha} {v : Nat} {x : Aff} {l S : List Int} {M : List Int × Int} (hx : affB A x = true) (hl : l.length ≤ 256) (hS : takC A x l = some S) (hM : putC A v x S = M) (h0 : M.2 = 0) (h1 : M.1 = l) (h5 : x.kind = 5 → (rootL A v S).length = S.length) : offL A v x l = some S :=
  ((tak_off hx hl).2 S hS).1 ⟨by rw [hM]; exact Prod.ext h1 h0, h5⟩
theorem tak_no {A : Alpha} {v : Nat} {x : Aff} {l S : List Int} {M : List Int × Int} (hx : affB A x = true) (hl : l.length ≤ 256) (hS : takC A x l = some S) (hM : putC A v x S = M) (h : M.2 ≠ 0 ∨ M.1 ≠ l ∨ (x.kind = 5 ∧ (rootL A v S).length ≠ S.length)) : offL A v x l = none := by
  refine ((tak_off hx hl).2 S hS).2 fun hb => ?_
  rw [takB, hM] at hb
  rcases h with h | h | h
  · exact h (by rw [hb.1])
  · exact h (by rw [hb.1])
  · exact h.2 (hb.2 h.1)
theorem tak_none {A : Alpha} {v : Nat} {x : Aff} {l : List Int} (hx : affB A x = true) (hl : l.length ≤ 256) (hS : takC A x l = none) : offL A v x l = none := (tak_off hx hl).1 hS
theorem off_mk9 {S : List Int} {w' : World} {p : Option Addr} {n c : Nat} {o : Option (List Int)} (ho : o = some S) (hn : n = S.length) (h : SlAt w' p S c) : OffRes o (.returned (.tuple #[.slice p n c, .bool true])) w' := by rw [ho]; exact off_mk hn h
theorem off_no9 {w' : World} {o : Option (List Int)} (ho : o = none) : OffRes o (.returned (.tuple #[.slice none 0 0, .bool false])) w' := by rw [ho]; exact off_no

set_option maxRecDepth 100000 in
set_option maxHeartbeats 4000000 in
theorem taken17_1 (fp ap lp : Option Addr) (fc ac lc : Nat) (A : Alpha) (v : Nat) (hv : v < 4294967296) (f o : ByteArray) (n : Int) (hn : -9223372036854775808 ≤ n ∧ n ≤ 9223372036854775807) (hf : f.size ≤ 1048576) (ho : o.size ≤ 1048576) (hok : A.Ok) (hx : affB A ⟨1, f, o, n⟩ = true) (l : List Int) (hin : InA A l) (hl : l.length ≤ 256) (w : World) (hA : AlphaAt w fp ap A) (hL : SlAt w lp l lc) :
    Calls Tryz.prog 31 #[.agg #[.slice fp A.feats.length fc, .slice ap A.lets.length ac], .int .u32 v, .slice lp l.length lc, .agg #[.int .u8 1, .string f, .string o, .int .i64 n]] w fun e w' => OffRes (offL A v ⟨1, f, o, n⟩ l) e w' ∧ Ext w w' := by
  have hx0 : Ext w (w.alloc (.cells #[.slice fp A.feats.length fc, .slice ap A.lets.length ac] 25)) := (Ext.refl _).alloc _
  obtain ⟨W1, hW1⟩ : ∃ W1, w.alloc (.cells #[.slice fp A.feats.length fc, .slice ap A.lets.length ac] 25) = W1 := ⟨_, rfl⟩
  have hx1 : Ext W1 (W1.alloc (.cells #[.int .u8 1, .string f, .string o, .int .i64 n] 28)) := (Ext.refl _).alloc _
  obtain ⟨W2, hW2⟩ : ∃ W2, W1.alloc (.cells #[.int .u8 1, .string f, .string o, .int .i64 n] 28) = W2 := ⟨_, rfl⟩
  rw [hW1] at hx0
  rw [hW2] at hx1
  have z1 : W1.heap.size = w.heap.size + 1 := by rw [← hW1, size_alloc]
  have HB := Lib.hid (fun W (hW : Ext W2 W) => (by
    have h := hx1.trans hW
    rw [← hW1] at h
    have h2 := hW
    rw [← hW2] at h2
    have c0 := h2.cell0 0
    have c1 := h2.cell0 1
    have c2 := h2.cell0 2
    have c3 := h2.cell0 3
    have l0 := h2.lt0
    rw [z1] at c0 c1 c2 c3 l0
    exact ⟨h.cell0 0, h.cell0 1, h.lt0, c0, c1, c2, c3, l0⟩ : W.cell? ⟨w.heap.size, 0, none⟩ = some (.slice fp A.feats.length fc) ∧ W.cell? ⟨w.heap.size, 1, none⟩ = some (.slice ap A.lets.length ac) ∧ w.heap.size < W.heap.size ∧ W.cell? ⟨w.heap.size + 1, 0, none⟩ = some (.int .u8 1) ∧ W.cell? ⟨w.heap.size + 1, 1, none⟩ = some (.string f) ∧ W.cell? ⟨w.heap.size + 1, 2, none⟩ = some (.string o) ∧ W.cell? ⟨w.heap.size + 1, 3, none⟩ = some (.int .i64 n) ∧ w.heap.size + 1 < W.heap.size))
  have hwW2 : Ext w W2 := hx0.trans hx1
  have hW2e : (w.alloc (.cells #[.slice fp A.feats.length fc, .slice ap A.lets.length ac] 25)).alloc (.cells #[.int .u8 1, .string f, .string o, .int .i64 n] 28) = W2 := by rw [hW1, hW2]
  obtain ⟨d0, d1, l0, c0, c1, c2, c3, l1⟩ := HB.out _ (Ext.refl _)
  obtain ⟨cf, W3, hcv, hro, hx3⟩ := str_row f hf W2
  obtain ⟨co, W4, hcw, hro4, hx4⟩ := str_row o ho W3
  have hsz : W2.heap.size = w.heap.size + 1 + 1 := by rw [← hW2, size_alloc, z1]
  rw [hsz] at hcv hro
  have HX := Lib.hid (hwW2.trans (hx3.trans hx4))
  have HX4 := Lib.hid (hx3.trans hx4)
  have HRO := Lib.hid (hro.ext hx4)
  have hroom := hL.room
  have HOF := Lib.hid (fun S (hS : takC A ⟨1, f, o, n⟩ l = some S) => (⟨fun M hM h0 h1 h5 => tak_yes (v := v) (M := M) hx hl hS hM h0 h1 h5, fun M hM h => tak_no (v := v) (M := M) hx hl hS hM h⟩ : (∀ M, putC A v ⟨1, f, o, n⟩ S = M → M.2 = 0 → M.1 = l → ((⟨1, f, o, n⟩ : Aff).kind = 5 → (rootL A v S).length = S.length) → offL A v ⟨1, f, o, n⟩ l = some S) ∧ (∀ M, putC A v ⟨1, f, o, n⟩ S = M → (M.2 ≠ 0 ∨ M.1 ≠ l ∨ ((⟨1, f, o, n⟩ : Aff).kind = 5 ∧ (rootL A v S).length ≠ S.length)) → offL A v ⟨1, f, o, n⟩ l = none)))
  have HON := Lib.hid (tak_none (v := v) hx hl)
  have HMD := Lib.hid (fun S (hS : InA A S) (hSl : S.length ≤ 256) W (hW : Ext w W) sp sc (hsl : SlAt W sp S sc) => made17_1 fp ap sp fc ac sc A v hv f o n hn hf ho hok hx S hS hSl W (hA.mono hW) hsl)
  have HRB := Lib.hid (fun S (hS : InA A S) => (⟨putC_in (v := v) hx hS, fun h => rb_ne9 fun e => h ((rb_inj_in hok (putC_in (v := v) hx hS) hin).1 e)⟩ : InA A (putC A v ⟨1, f, o, n⟩ S).1 ∧ ((putC A v ⟨1, f, o, n⟩ S).1 ≠ l → ((runesBytes (putC A v ⟨1, f, o, n⟩ S).1).toList != (runesBytes l).toList) = true ∧ ((runesBytes (putC A v ⟨1, f, o, n⟩ S).1).toList == (runesBytes l).toList) = false)))
  have HLW := Lib.hid (fun W (hW : Ext w W) => hL.mono hW)
  have HIN := Lib.hid hin
  clear hW1 hW2 hx0 hx1 z1 hro hro4 hwW2 hsz
  obtain ⟨ha1, ha2, ha3⟩ := aff1 (x := ⟨1, f, o, n⟩) rfl hx
  dsimp only at ha1 ha2 ha3
  have hsf : strR f = (spell A f).1 := strR_word ha1
  rw [hsf] at hcv HRO
  have h64 := spell_len A f
  have hso : (strR o).length = 0 := strR_zero.2 ha2
  rw [hso] at hcw
  have htk : takC A ⟨1, f, o, n⟩ l = if (spell A f).1.length ≤ l.length then some (l.drop (spell A f).1.length) else none := rfl
  obtain ⟨F, hF⟩ : ∃ F, (spell A f).1 = F := ⟨_, rfl⟩
  rw [hF] at hcv HRO h64 htk
  obtain ⟨e0, e1, l2, a0, a1, a2, a3, l3⟩ := HB.out _ (Ext.trans (Below.refl _ _) hx3)
  obtain ⟨f0, f1, l4, b0, b1, b2, b3, l5⟩ := HB.out _ HX4.out
  have HZ := Lib.hid (fun W (hW : Ext W4 W) => HX4.out.trans hW)
  clear hx3 hx4
  have hform := hL.form
  have hzero := fun (e : lp = none) => (by rw [e] at hL; exact hL.zero : l = [])
  have HZE := Lib.hid hzero
  clear hzero
  by_cases hn0 : F.length ≤ l.length
  · rw [if_pos hn0] at htk
    have hSN : (l.drop F.length).length = l.length - F.length := by simp; try omega
    have hSI : InA A (l.drop F.length) := InA_drop hin _
    have gn : ((l.length : Int) - (F.length : Int)) = ((l.length - F.length : Nat) : Int) := by omega
    obtain ⟨S, hS⟩ : ∃ S, (l.drop F.length) = S := ⟨_, rfl⟩
    rw [hS] at hSN hSI htk
    have hS2 : (l.drop F.length).take (l.length - F.length) = S := by rw [List.take_of_length_le (by rw [List.length_drop]; omega)]; exact hS
    have HTK := Lib.hid htk
    have HSN := Lib.hid hSN
    have HSI := Lib.hid hSI
    have HSL0 := Lib.hid (show S.length ≤ 256 by omega)
    rcases hform with ⟨b0, off, rfl⟩ | ⟨rfl, rfl⟩
    · by_cases hcc : lc = F.length
      · have HSA := Lib.hid (SlAt.nil_ (w := W4) (b := b0) (off := off) S (by omega) 0 (by omega))
        clear htk hSN hSI hsf hso hF ha1 ha2 ha3 hx hok hA hL hin hv
        clear hS
        subst hcc
        have hSN0 : S.length = 0 := by have := HSN.out; omega
        have HSN := Lib.hid hSN0
        clear hSN0
        have hmd := HMD.out S HSI.out HSL0.out W4 HX.out (some ⟨b0, off, none⟩) (0) HSA.out
        rw [HSN.out] at hmd
        have HM := Lib.hid hmd
        clear hmd
        go_enter Tryz.func31, Tryz.ntmps31
        go_wp2_with fail
        refine HM.out.mono ?_
        rintro e w5 ⟨⟨mp, mc, rfl, hom⟩, hy5⟩
        have hz5 : Ext w w5 := (HX.out).trans hy5
        obtain ⟨e0, e1, l2, a0, a1, a2, a3, l3⟩ := HB.out _ (HZ.out _ hy5)
        have hcm := hom.at_.text (P := Tryz.prog) (src := 58) (dst := 9) Tryz.underlying58 Tryz.underlying21 Tryz.underlying9 mc
        have hcl := (HLW.out _ hz5).at_.text (P := Tryz.prog) (src := 58) (dst := 9) Tryz.underlying58 Tryz.underlying21 Tryz.underlying9 F.length
        obtain ⟨hy, hno⟩ := HOF.out _ HTK.out
        obtain ⟨_, hne⟩ := HRB.out _ HSI.out
        have HY := Lib.hid (hy _ rfl)
        have HN := Lib.hid (hno _ rfl)
        have HNE := Lib.hid hne
        have HSL := Lib.hid (SlAt.mono (HSA.out) hy5)
        clear hy hno hne hom
        obtain ⟨M, hM⟩ : ∃ M, putC A v ⟨1, f, o, n⟩ S = M := ⟨_, rfl⟩
        rw [hM] at HY HN HNE hcm
        rw [hM]
        obtain ⟨M1, M2⟩ := M
        dsimp only at HY HN HNE hcm ⊢
        clear hM
        by_cases h0 : M2 = 0
        · by_cases h1 : M1 = l
          · subst h0
            have h1s := h1.symm
            subst h1s
            have gs : ((runesBytes l).toList != (runesBytes l).toList) = false := by simp
            have HR := Lib.hid (HY.out rfl rfl (fun h => by cases h))
            go_wp2_with fail
            go_ret2
            exact ⟨off_mk9 HR.out (by first | rfl | exact HSN.out | exact HSN.out.symm) HSL.out, hz5⟩
          · obtain ⟨gs, gs2⟩ := HNE.out h1
            have HR := Lib.hid (HN.out (.inr (.inl h1)))
            subst h0
            clear h1
            go_wp2_with fail
            go_ret2
            exact ⟨off_no9 HR.out, hz5⟩
        · have gE : (M2 != 0) = true := by rw [bne_iff_ne]; exact h0
          have HR := Lib.hid (HN.out (.inl h0))
          clear h0
          go_wp2_with fail
          go_ret2
          exact ⟨off_no9 HR.out, hz5⟩
      · have HSA := Lib.hid ((hL.mono HX.out).sub F.length _ S hS2 (lc - F.length) (by omega))
        clear htk hSN hSI hsf hso hF ha1 ha2 ha3 hx hok hA hL hin hv
        clear hS hS2
        have hmd := HMD.out S HSI.out HSL0.out W4 HX.out (some ⟨b0, off + F.length, none⟩) (lc - F.length) HSA.out
        rw [HSN.out] at hmd
        have HM := Lib.hid hmd
        clear hmd
        go_enter Tryz.func31, Tryz.ntmps31
        go_wp2_with fail
        refine HM.out.mono ?_
        rintro e w5 ⟨⟨mp, mc, rfl, hom⟩, hy5⟩
        have hz5 : Ext w w5 := (HX.out).trans hy5
        obtain ⟨e0, e1, l2, a0, a1, a2, a3, l3⟩ := HB.out _ (HZ.out _ hy5)
        have hcm := hom.at_.text (P := Tryz.prog) (src := 58) (dst := 9) Tryz.underlying58 Tryz.underlying21 Tryz.underlying9 mc
        have hcl := (HLW.out _ hz5).at_.text (P := Tryz.prog) (src := 58) (dst := 9) Tryz.underlying58 Tryz.underlying21 Tryz.underlying9 lc
        obtain ⟨hy, hno⟩ := HOF.out _ HTK.out
        obtain ⟨_, hne⟩ := HRB.out _ HSI.out
        have HY := Lib.hid (hy _ rfl)
        have HN := Lib.hid (hno _ rfl)
        have HNE := Lib.hid hne
        have HSL := Lib.hid (SlAt.mono (HSA.out) hy5)
        clear hy hno hne hom
        obtain ⟨M, hM⟩ : ∃ M, putC A v ⟨1, f, o, n⟩ S = M := ⟨_, rfl⟩
        rw [hM] at HY HN HNE hcm
        rw [hM]
        obtain ⟨M1, M2⟩ := M
        dsimp only at HY HN HNE hcm ⊢
        clear hM
        by_cases h0 : M2 = 0
        · by_cases h1 : M1 = l
          · subst h0
            have h1s := h1.symm
            subst h1s
            have gs : ((runesBytes l).toList != (runesBytes l).toList) = false := by simp
            have HR := Lib.hid (HY.out rfl rfl (fun h => by cases h))
            go_wp2_with fail
            go_ret2
            exact ⟨off_mk9 HR.out (by first | rfl | exact HSN.out | exact HSN.out.symm) HSL.out, hz5⟩
          · obtain ⟨gs, gs2⟩ := HNE.out h1
            have HR := Lib.hid (HN.out (.inr (.inl h1)))
            subst h0
            clear h1
            go_wp2_with fail
            go_ret2
            exact ⟨off_no9 HR.out, hz5⟩
        · have gE : (M2 != 0) = true := by rw [bne_iff_ne]; exact h0
          have HR := Lib.hid (HN.out (.inl h0))
          clear h0
          go_wp2_with fail
          go_ret2
          exact ⟨off_no9 HR.out, hz5⟩
    · have e := HZE.out rfl
      subst e
      have hF0 : F.length = 0 := by simp at hn0; omega
      have HSA := Lib.hid (SlAt.nil0 (w := W4) S (by rw [HSN.out]; simp))
      clear htk hSN hSI hsf hso hF ha1 ha2 ha3 hx hok hA hL hin hv
      clear hS hS2
      have hmd := HMD.out S HSI.out HSL0.out W4 HX.out none 0 HSA.out
      have hSN0 : S.length = 0 := by rw [HSN.out]; simp
      rw [hSN0] at hmd
      have HSN := Lib.hid hSN0
      have HM := Lib.hid hmd
      clear hmd gn hSN0
      rw [hF0] at hcv
      go_enter Tryz.func31, Tryz.ntmps31
      go_wp2_with fail
      refine HM.out.mono ?_
      rintro e w5 ⟨⟨mp, mc, rfl, hom⟩, hy5⟩
      have hz5 : Ext w w5 := (HX.out).trans hy5
      obtain ⟨e0, e1, l2, a0, a1, a2, a3, l3⟩ := HB.out _ (HZ.out _ hy5)
      have hcm := hom.at_.text (P := Tryz.prog) (src := 58) (dst := 9) Tryz.underlying58 Tryz.underlying21 Tryz.underlying9 mc
      have hcl := (HLW.out _ hz5).at_.text (P := Tryz.prog) (src := 58) (dst := 9) Tryz.underlying58 Tryz.underlying21 Tryz.underlying9 0
      simp only [List.length_nil] at hcl
      obtain ⟨hy, hno⟩ := HOF.out _ HTK.out
      obtain ⟨_, hne⟩ := HRB.out _ HSI.out
      have HY := Lib.hid (hy _ rfl)
      have HN := Lib.hid (hno _ rfl)
      have HNE := Lib.hid hne
      have HSL := Lib.hid (SlAt.mono (HSA.out) hy5)
      clear hy hno hne hom
      obtain ⟨M, hM⟩ : ∃ M, putC A v ⟨1, f, o, n⟩ S = M := ⟨_, rfl⟩
      rw [hM] at HY HN HNE hcm
      rw [hM]
      obtain ⟨M1, M2⟩ := M
      dsimp only at HY HN HNE hcm ⊢
      clear hM
      by_cases h0 : M2 = 0
      · by_cases h1 : M1 = []
        · subst h0
          have h1s := h1.symm
          subst h1s
          have gs : ((runesBytes []).toList != (runesBytes []).toList) = false := by simp
          simp only [List.length_nil] at hcm
          have HR := Lib.hid (HY.out rfl rfl (fun h => by cases h))
          go_wp2_with fail
          go_ret2
          exact ⟨off_mk9 HR.out (by first | rfl | exact HSN.out | exact HSN.out.symm) HSL.out, hz5⟩
        · obtain ⟨gs, gs2⟩ := HNE.out h1
          have HR := Lib.hid (HN.out (.inr (.inl h1)))
          subst h0
          clear h1
          go_wp2_with fail
          go_ret2
          exact ⟨off_no9 HR.out, hz5⟩
      · have gE : (M2 != 0) = true := by rw [bne_iff_ne]; exact h0
        have HR := Lib.hid (HN.out (.inl h0))
        clear h0
        go_wp2_with fail
        go_ret2
        exact ⟨off_no9 HR.out, hz5⟩
  · rw [if_neg hn0] at htk
    have HR := Lib.hid (HON.out htk)
    have gn : (l.length : Int) - (F.length : Int) < 0 := by omega
    clear htk hsf hso hF ha1 ha2 ha3 hx hok hA hL hin hv hform
    go_enter Tryz.func31, Tryz.ntmps31
    go_wp2_with fail
    go_ret2
    exact ⟨off_no9 HR.out, HX.out⟩

set_option maxRecDepth 100000 in
set_option maxHeartbeats 4000000 in
theorem taken17_2 (fp ap lp : Option Addr) (fc ac lc : Nat) (A : Alpha) (v : Nat) (hv : v < 4294967296) (f o : ByteArray) (n : Int) (hn : -9223372036854775808 ≤ n ∧ n ≤ 9223372036854775807) (hf : f.size ≤ 1048576) (ho : o.size ≤ 1048576) (hok : A.Ok) (hx : affB A ⟨2, f, o, n⟩ = true) (l : List Int) (hin : InA A l) (hl : l.length ≤ 256) (w : World) (hA : AlphaAt w fp ap A) (hL : SlAt w lp l lc) :
    Calls Tryz.prog 31 #[.agg #[.slice fp A.feats.length fc, .slice ap A.lets.length ac], .int .u32 v, .slice lp l.length lc, .agg #[.int .u8 2, .string f, .string o, .int .i64 n]] w fun e w' => OffRes (offL A v ⟨2, f, o, n⟩ l) e w' ∧ Ext w w' := by
  have hx0 : Ext w (w.alloc (.cells #[.slice fp A.feats.length fc, .slice ap A.lets.length ac] 25)) := (Ext.refl _).alloc _
  obtain ⟨W1, hW1⟩ : ∃ W1, w.alloc (.cells #[.slice fp A.feats.length fc, .slice ap A.lets.length ac] 25) = W1 := ⟨_, rfl⟩
  have hx1 : Ext W1 (W1.alloc (.cells #[.int .u8 2, .string f, .string o, .int .i64 n] 28)) := (Ext.refl _).alloc _
  obtain ⟨W2, hW2⟩ : ∃ W2, W1.alloc (.cells #[.int .u8 2, .string f, .string o, .int .i64 n] 28) = W2 := ⟨_, rfl⟩
  rw [hW1] at hx0
  rw [hW2] at hx1
  have z1 : W1.heap.size = w.heap.size + 1 := by rw [← hW1, size_alloc]
  have HB := Lib.hid (fun W (hW : Ext W2 W) => (by
    have h := hx1.trans hW
    rw [← hW1] at h
    have h2 := hW
    rw [← hW2] at h2
    have c0 := h2.cell0 0
    have c1 := h2.cell0 1
    have c2 := h2.cell0 2
    have c3 := h2.cell0 3
    have l0 := h2.lt0
    rw [z1] at c0 c1 c2 c3 l0
    exact ⟨h.cell0 0, h.cell0 1, h.lt0, c0, c1, c2, c3, l0⟩ : W.cell? ⟨w.heap.size, 0, none⟩ = some (.slice fp A.feats.length fc) ∧ W.cell? ⟨w.heap.size, 1, none⟩ = some (.slice ap A.lets.length ac) ∧ w.heap.size < W.heap.size ∧ W.cell? ⟨w.heap.size + 1, 0, none⟩ = some (.int .u8 2) ∧ W.cell? ⟨w.heap.size + 1, 1, none⟩ = some (.string f) ∧ W.cell? ⟨w.heap.size + 1, 2, none⟩ = some (.string o) ∧ W.cell? ⟨w.heap.size + 1, 3, none⟩ = some (.int .i64 n) ∧ w.heap.size + 1 < W.heap.size))
  have hwW2 : Ext w W2 := hx0.trans hx1
  have hW2e : (w.alloc (.cells #[.slice fp A.feats.length fc, .slice ap A.lets.length ac] 25)).alloc (.cells #[.int .u8 2, .string f, .string o, .int .i64 n] 28) = W2 := by rw [hW1, hW2]
  obtain ⟨d0, d1, l0, c0, c1, c2, c3, l1⟩ := HB.out _ (Ext.refl _)
  obtain ⟨cf, W3, hcv, hro, hx3⟩ := str_row f hf W2
  obtain ⟨co, W4, hcw, hro4, hx4⟩ := str_row o ho W3
  have hsz : W2.heap.size = w.heap.size + 1 + 1 := by rw [← hW2, size_alloc, z1]
  rw [hsz] at hcv hro
  have HX := Lib.hid (hwW2.trans (hx3.trans hx4))
  have HX4 := Lib.hid (hx3.trans hx4)
  have HRO := Lib.hid (hro.ext hx4)
  have hroom := hL.room
  have HOF := Lib.hid (fun S (hS : takC A ⟨2, f, o, n⟩ l = some S) => (⟨fun M hM h0 h1 h5 => tak_yes (v := v) (M := M) hx hl hS hM h0 h1 h5, fun M hM h => tak_no (v := v) (M := M) hx hl hS hM h⟩ : (∀ M, putC A v ⟨2, f, o, n⟩ S = M → M.2 = 0 → M.1 = l → ((⟨2, f, o, n⟩ : Aff).kind = 5 → (rootL A v S).length = S.length) → offL A v ⟨2, f, o, n⟩ l = some S) ∧ (∀ M, putC A v ⟨2, f, o, n⟩ S = M → (M.2 ≠ 0 ∨ M.1 ≠ l ∨ ((⟨2, f, o, n⟩ : Aff).kind = 5 ∧ (rootL A v S).length ≠ S.length)) → offL A v ⟨2, f, o, n⟩ l = none)))
  have HON := Lib.hid (tak_none (v := v) hx hl)
  have HMD := Lib.hid (fun S (hS : InA A S) (hSl : S.length ≤ 256) W (hW : Ext w W) sp sc (hsl : SlAt W sp S sc) => made17_2 fp ap sp fc ac sc A v hv f o n hn hf ho hok hx S hS hSl W (hA.mono hW) hsl)
  have HRB := Lib.hid (fun S (hS : InA A S) => (⟨putC_in (v := v) hx hS, fun h => rb_ne9 fun e => h ((rb_inj_in hok (putC_in (v := v) hx hS) hin).1 e)⟩ : InA A (putC A v ⟨2, f, o, n⟩ S).1 ∧ ((putC A v ⟨2, f, o, n⟩ S).1 ≠ l → ((runesBytes (putC A v ⟨2, f, o, n⟩ S).1).toList != (runesBytes l).toList) = true ∧ ((runesBytes (putC A v ⟨2, f, o, n⟩ S).1).toList == (runesBytes l).toList) = false)))
  have HLW := Lib.hid (fun W (hW : Ext w W) => hL.mono hW)
  have HIN := Lib.hid hin
  clear hW1 hW2 hx0 hx1 z1 hro hro4 hwW2 hsz
  obtain ⟨ha1, ha2, ha3⟩ := aff2 (x := ⟨2, f, o, n⟩) rfl hx
  dsimp only at ha1 ha2 ha3
  have hsf : strR f = (spell A f).1 := strR_word ha1
  rw [hsf] at hcv HRO
  have h64 := spell_len A f
  have hso : (strR o).length = 0 := strR_zero.2 ha2
  rw [hso] at hcw
  have htk : takC A ⟨2, f, o, n⟩ l = if (spell A f).1.length ≤ l.length then some (l.take (l.length - (spell A f).1.length)) else none := rfl
  obtain ⟨F, hF⟩ : ∃ F, (spell A f).1 = F := ⟨_, rfl⟩
  rw [hF] at hcv HRO h64 htk
  obtain ⟨e0, e1, l2, a0, a1, a2, a3, l3⟩ := HB.out _ (Ext.trans (Below.refl _ _) hx3)
  obtain ⟨f0, f1, l4, b0, b1, b2, b3, l5⟩ := HB.out _ HX4.out
  have HZ := Lib.hid (fun W (hW : Ext W4 W) => HX4.out.trans hW)
  clear hx3 hx4
  have hform := hL.form
  have hzero := fun (e : lp = none) => (by rw [e] at hL; exact hL.zero : l = [])
  have HZE := Lib.hid hzero
  clear hzero
  by_cases hn0 : F.length ≤ l.length
  · rw [if_pos hn0] at htk
    have hSN : (l.take (l.length - F.length)).length = l.length - F.length := by simp; try omega
    have hSI : InA A (l.take (l.length - F.length)) := InA_take hin _
    have gn : ((l.length : Int) - (F.length : Int)) = ((l.length - F.length : Nat) : Int) := by omega
    obtain ⟨S, hS⟩ : ∃ S, (l.take (l.length - F.length)) = S := ⟨_, rfl⟩
    rw [hS] at hSN hSI htk
    have HTK := Lib.hid htk
    have HSN := Lib.hid hSN
    have HSI := Lib.hid hSI
    have HSL0 := Lib.hid (show S.length ≤ 256 by omega)
    have HSA := Lib.hid (show SlAt W4 lp S lc from ⟨by rw [← hS]; exact (hL.mono HX.out).at_.take _, hform, by omega⟩)
    clear htk hSN hSI hsf hso hF ha1 ha2 ha3 hx hok hA hL hin hv
    clear hS hform
    have hmd := HMD.out S HSI.out HSL0.out W4 HX.out lp lc HSA.out
    rw [HSN.out] at hmd
    have HM := Lib.hid hmd
    clear hmd
    go_enter Tryz.func31, Tryz.ntmps31
    go_wp2_with fail
    refine HM.out.mono ?_
    rintro e w5 ⟨⟨mp, mc, rfl, hom⟩, hy5⟩
    have hz5 : Ext w w5 := (HX.out).trans hy5
    obtain ⟨e0, e1, l2, a0, a1, a2, a3, l3⟩ := HB.out _ (HZ.out _ hy5)
    have hcm := hom.at_.text (P := Tryz.prog) (src := 58) (dst := 9) Tryz.underlying58 Tryz.underlying21 Tryz.underlying9 mc
    have hcl := (HLW.out _ hz5).at_.text (P := Tryz.prog) (src := 58) (dst := 9) Tryz.underlying58 Tryz.underlying21 Tryz.underlying9 lc
    obtain ⟨hy, hno⟩ := HOF.out _ HTK.out
    obtain ⟨_, hne⟩ := HRB.out _ HSI.out
    have HY := Lib.hid (hy _ rfl)
    have HN := Lib.hid (hno _ rfl)
    have HNE := Lib.hid hne
    have HSL := Lib.hid (SlAt.mono (HSA.out) hy5)
    clear hy hno hne hom
    obtain ⟨M, hM⟩ : ∃ M, putC A v ⟨2, f, o, n⟩ S = M := ⟨_, rfl⟩
    rw [hM] at HY HN HNE hcm
    rw [hM]
    obtain ⟨M1, M2⟩ := M
    dsimp only at HY HN HNE hcm ⊢
    clear hM
    by_cases h0 : M2 = 0
    · by_cases h1 : M1 = l
      · subst h0
        have h1s := h1.symm
        subst h1s
        have gs : ((runesBytes l).toList != (runesBytes l).toList) = false := by simp
        have HR := Lib.hid (HY.out rfl rfl (fun h => by cases h))
        go_wp2_with fail
        go_ret2
        exact ⟨off_mk9 HR.out (by first | rfl | exact HSN.out | exact HSN.out.symm) HSL.out, hz5⟩
      · obtain ⟨gs, gs2⟩ := HNE.out h1
        have HR := Lib.hid (HN.out (.inr (.inl h1)))
        subst h0
        clear h1
        go_wp2_with fail
        go_ret2
        exact ⟨off_no9 HR.out, hz5⟩
    · have gE : (M2 != 0) = true := by rw [bne_iff_ne]; exact h0
      have HR := Lib.hid (HN.out (.inl h0))
      clear h0
      go_wp2_with fail
      go_ret2
      exact ⟨off_no9 HR.out, hz5⟩
  · rw [if_neg hn0] at htk
    have HR := Lib.hid (HON.out htk)
    have gn : (l.length : Int) - (F.length : Int) < 0 := by omega
    clear htk hsf hso hF ha1 ha2 ha3 hx hok hA hL hin hv hform
    go_enter Tryz.func31, Tryz.ntmps31
    go_wp2_with fail
    go_ret2
    exact ⟨off_no9 HR.out, HX.out⟩

set_option maxRecDepth 100000 in
set_option maxHeartbeats 4000000 in
theorem taken17_3 (fp ap lp : Option Addr) (fc ac lc : Nat) (A : Alpha) (v : Nat) (hv : v < 4294967296) (f o : ByteArray) (n : Int) (hn : -9223372036854775808 ≤ n ∧ n ≤ 9223372036854775807) (hf : f.size ≤ 1048576) (ho : o.size ≤ 1048576) (hok : A.Ok) (hx : affB A ⟨3, f, o, n⟩ = true) (l : List Int) (hin : InA A l) (hl : l.length ≤ 256) (w : World) (hA : AlphaAt w fp ap A) (hL : SlAt w lp l lc) :
    Calls Tryz.prog 31 #[.agg #[.slice fp A.feats.length fc, .slice ap A.lets.length ac], .int .u32 v, .slice lp l.length lc, .agg #[.int .u8 3, .string f, .string o, .int .i64 n]] w fun e w' => OffRes (offL A v ⟨3, f, o, n⟩ l) e w' ∧ Ext w w' := by
  have hx0 : Ext w (w.alloc (.cells #[.slice fp A.feats.length fc, .slice ap A.lets.length ac] 25)) := (Ext.refl _).alloc _
  obtain ⟨W1, hW1⟩ : ∃ W1, w.alloc (.cells #[.slice fp A.feats.length fc, .slice ap A.lets.length ac] 25) = W1 := ⟨_, rfl⟩
  have hx1 : Ext W1 (W1.alloc (.cells #[.int .u8 3, .string f, .string o, .int .i64 n] 28)) := (Ext.refl _).alloc _
  obtain ⟨W2, hW2⟩ : ∃ W2, W1.alloc (.cells #[.int .u8 3, .string f, .string o, .int .i64 n] 28) = W2 := ⟨_, rfl⟩
  rw [hW1] at hx0
  rw [hW2] at hx1
  have z1 : W1.heap.size = w.heap.size + 1 := by rw [← hW1, size_alloc]
  have HB := Lib.hid (fun W (hW : Ext W2 W) => (by
    have h := hx1.trans hW
    rw [← hW1] at h
    have h2 := hW
    rw [← hW2] at h2
    have c0 := h2.cell0 0
    have c1 := h2.cell0 1
    have c2 := h2.cell0 2
    have c3 := h2.cell0 3
    have l0 := h2.lt0
    rw [z1] at c0 c1 c2 c3 l0
    exact ⟨h.cell0 0, h.cell0 1, h.lt0, c0, c1, c2, c3, l0⟩ : W.cell? ⟨w.heap.size, 0, none⟩ = some (.slice fp A.feats.length fc) ∧ W.cell? ⟨w.heap.size, 1, none⟩ = some (.slice ap A.lets.length ac) ∧ w.heap.size < W.heap.size ∧ W.cell? ⟨w.heap.size + 1, 0, none⟩ = some (.int .u8 3) ∧ W.cell? ⟨w.heap.size + 1, 1, none⟩ = some (.string f) ∧ W.cell? ⟨w.heap.size + 1, 2, none⟩ = some (.string o) ∧ W.cell? ⟨w.heap.size + 1, 3, none⟩ = some (.int .i64 n) ∧ w.heap.size + 1 < W.heap.size))
  have hwW2 : Ext w W2 := hx0.trans hx1
  have hW2e : (w.alloc (.cells #[.slice fp A.feats.length fc, .slice ap A.lets.length ac] 25)).alloc (.cells #[.int .u8 3, .string f, .string o, .int .i64 n] 28) = W2 := by rw [hW1, hW2]
  obtain ⟨d0, d1, l0, c0, c1, c2, c3, l1⟩ := HB.out _ (Ext.refl _)
  obtain ⟨cf, W3, hcv, hro, hx3⟩ := str_row f hf W2
  obtain ⟨co, W4, hcw, hro4, hx4⟩ := str_row o ho W3
  have hsz : W2.heap.size = w.heap.size + 1 + 1 := by rw [← hW2, size_alloc, z1]
  rw [hsz] at hcv hro
  have HX := Lib.hid (hwW2.trans (hx3.trans hx4))
  have HX4 := Lib.hid (hx3.trans hx4)
  have HRO := Lib.hid (hro.ext hx4)
  have hroom := hL.room
  have HOF := Lib.hid (fun S (hS : takC A ⟨3, f, o, n⟩ l = some S) => (⟨fun M hM h0 h1 h5 => tak_yes (v := v) (M := M) hx hl hS hM h0 h1 h5, fun M hM h => tak_no (v := v) (M := M) hx hl hS hM h⟩ : (∀ M, putC A v ⟨3, f, o, n⟩ S = M → M.2 = 0 → M.1 = l → ((⟨3, f, o, n⟩ : Aff).kind = 5 → (rootL A v S).length = S.length) → offL A v ⟨3, f, o, n⟩ l = some S) ∧ (∀ M, putC A v ⟨3, f, o, n⟩ S = M → (M.2 ≠ 0 ∨ M.1 ≠ l ∨ ((⟨3, f, o, n⟩ : Aff).kind = 5 ∧ (rootL A v S).length ≠ S.length)) → offL A v ⟨3, f, o, n⟩ l = none)))
  have HON := Lib.hid (tak_none (v := v) hx hl)
  have HMD := Lib.hid (fun S (hS : InA A S) (hSl : S.length ≤ 256) W (hW : Ext w W) sp sc (hsl : SlAt W sp S sc) => made17_3 fp ap sp fc ac sc A v hv f o n hn hf ho hok hx S hS hSl W (hA.mono hW) hsl)
  have HRB := Lib.hid (fun S (hS : InA A S) => (⟨putC_in (v := v) hx hS, fun h => rb_ne9 fun e => h ((rb_inj_in hok (putC_in (v := v) hx hS) hin).1 e)⟩ : InA A (putC A v ⟨3, f, o, n⟩ S).1 ∧ ((putC A v ⟨3, f, o, n⟩ S).1 ≠ l → ((runesBytes (putC A v ⟨3, f, o, n⟩ S).1).toList != (runesBytes l).toList) = true ∧ ((runesBytes (putC A v ⟨3, f, o, n⟩ S).1).toList == (runesBytes l).toList) = false)))
  have HLW := Lib.hid (fun W (hW : Ext w W) => hL.mono hW)
  have HIN := Lib.hid hin
  clear hW1 hW2 hx0 hx1 z1 hro hro4 hwW2 hsz
  obtain ⟨ha1, ha2, ha3⟩ := aff3 (x := ⟨3, f, o, n⟩) rfl hx
  dsimp only at ha1 ha2 ha3
  have hsf : strR f = (spell A f).1 := strR_word ha1
  rw [hsf] at hcv HRO
  have h64 := spell_len A f
  have hso : strR o = (spell A o).1 := strR_word ha2
  rw [hso] at hcw
  have h65 := spell_len A o
  have htk : takC A ⟨3, f, o, n⟩ l = if (spell A f).1.length + (spell A o).1.length ≤ l.length then some ((l.drop (spell A f).1.length).take (l.length - (spell A f).1.length - (spell A o).1.length)) else none := rfl
  obtain ⟨F, hF⟩ : ∃ F, (spell A f).1 = F := ⟨_, rfl⟩
  rw [hF] at hcv HRO h64 htk
  obtain ⟨O, hO⟩ : ∃ O, (spell A o).1 = O := ⟨_, rfl⟩
  rw [hO] at hcw h65 htk
  obtain ⟨e0, e1, l2, a0, a1, a2, a3, l3⟩ := HB.out _ (Ext.trans (Below.refl _ _) hx3)
  obtain ⟨f0, f1, l4, b0, b1, b2, b3, l5⟩ := HB.out _ HX4.out
  have HZ := Lib.hid (fun W (hW : Ext W4 W) => HX4.out.trans hW)
  clear hx3 hx4
  have hform := hL.form
  have hzero := fun (e : lp = none) => (by rw [e] at hL; exact hL.zero : l = [])
  have HZE := Lib.hid hzero
  clear hzero
  by_cases hn0 : F.length + O.length ≤ l.length
  · rw [if_pos hn0] at htk
    have hSN : ((l.drop F.length).take (l.length - F.length - O.length)).length = l.length - F.length - O.length := by simp; try omega
    have hSI : InA A ((l.drop F.length).take (l.length - F.length - O.length)) := InA_take (InA_drop hin _) _
    have gn : ((l.length : Int) - (F.length : Int) - (O.length : Int)) = ((l.length - F.length - O.length : Nat) : Int) := by omega
    obtain ⟨S, hS⟩ : ∃ S, ((l.drop F.length).take (l.length - F.length - O.length)) = S := ⟨_, rfl⟩
    rw [hS] at hSN hSI htk
    have HTK := Lib.hid htk
    have HSN := Lib.hid hSN
    have HSI := Lib.hid hSI
    have HSL0 := Lib.hid (show S.length ≤ 256 by omega)
    rcases hform with ⟨b0, off, rfl⟩ | ⟨rfl, rfl⟩
    · by_cases hcc : lc = F.length
      · have HSA := Lib.hid (SlAt.nil_ (w := W4) (b := b0) (off := off) S (by omega) 0 (by omega))
        clear htk hSN hSI hsf hso hF ha1 ha2 ha3 hx hok hA hL hin hv hO
        clear hS
        subst hcc
        have hSN0 : S.length = 0 := by have := HSN.out; omega
        have HSN := Lib.hid hSN0
        clear hSN0
        have hmd := HMD.out S HSI.out HSL0.out W4 HX.out (some ⟨b0, off, none⟩) (0) HSA.out
        rw [HSN.out] at hmd
        have HM := Lib.hid hmd
        clear hmd
        go_enter Tryz.func31, Tryz.ntmps31
        go_wp2_with fail
        refine HM.out.mono ?_
        rintro e w5 ⟨⟨mp, mc, rfl, hom⟩, hy5⟩
        have hz5 : Ext w w5 := (HX.out).trans hy5
        obtain ⟨e0, e1, l2, a0, a1, a2, a3, l3⟩ := HB.out _ (HZ.out _ hy5)
        have hcm := hom.at_.text (P := Tryz.prog) (src := 58) (dst := 9) Tryz.underlying58 Tryz.underlying21 Tryz.underlying9 mc
        have hcl := (HLW.out _ hz5).at_.text (P := Tryz.prog) (src := 58) (dst := 9) Tryz.underlying58 Tryz.underlying21 Tryz.underlying9 F.length
        obtain ⟨hy, hno⟩ := HOF.out _ HTK.out
        obtain ⟨_, hne⟩ := HRB.out _ HSI.out
        have HY := Lib.hid (hy _ rfl)
        have HN := Lib.hid (hno _ rfl)
        have HNE := Lib.hid hne
        have HSL := Lib.hid (SlAt.mono (HSA.out) hy5)
        clear hy hno hne hom
        obtain ⟨M, hM⟩ : ∃ M, putC A v ⟨3, f, o, n⟩ S = M := ⟨_, rfl⟩
        rw [hM] at HY HN HNE hcm
        rw [hM]
        obtain ⟨M1, M2⟩ := M
        dsimp only at HY HN HNE hcm ⊢
        clear hM
        by_cases h0 : M2 = 0
        · by_cases h1 : M1 = l
          · subst h0
            have h1s := h1.symm
            subst h1s
            have gs : ((runesBytes l).toList != (runesBytes l).toList) = false := by simp
            have HR := Lib.hid (HY.out rfl rfl (fun h => by cases h))
            go_wp2_with fail
            go_ret2
            exact ⟨off_mk9 HR.out (by first | rfl | exact HSN.out | exact HSN.out.symm) HSL.out, hz5⟩
          · obtain ⟨gs, gs2⟩ := HNE.out h1
            have HR := Lib.hid (HN.out (.inr (.inl h1)))
            subst h0
            clear h1
            go_wp2_with fail
            go_ret2
            exact ⟨off_no9 HR.out, hz5⟩
        · have gE : (M2 != 0) = true := by rw [bne_iff_ne]; exact h0
          have HR := Lib.hid (HN.out (.inl h0))
          clear h0
          go_wp2_with fail
          go_ret2
          exact ⟨off_no9 HR.out, hz5⟩
      · have HSA := Lib.hid ((hL.mono HX.out).sub F.length _ S hS (lc - F.length) (by omega))
        clear htk hSN hSI hsf hso hF ha1 ha2 ha3 hx hok hA hL hin hv hO
        clear hS
        have hmd := HMD.out S HSI.out HSL0.out W4 HX.out (some ⟨b0, off + F.length, none⟩) (lc - F.length) HSA.out
        rw [HSN.out] at hmd
        have HM := Lib.hid hmd
        clear hmd
        go_enter Tryz.func31, Tryz.ntmps31
        go_wp2_with fail
        refine HM.out.mono ?_
        rintro e w5 ⟨⟨mp, mc, rfl, hom⟩, hy5⟩
        have hz5 : Ext w w5 := (HX.out).trans hy5
        obtain ⟨e0, e1, l2, a0, a1, a2, a3, l3⟩ := HB.out _ (HZ.out _ hy5)
        have hcm := hom.at_.text (P := Tryz.prog) (src := 58) (dst := 9) Tryz.underlying58 Tryz.underlying21 Tryz.underlying9 mc
        have hcl := (HLW.out _ hz5).at_.text (P := Tryz.prog) (src := 58) (dst := 9) Tryz.underlying58 Tryz.underlying21 Tryz.underlying9 lc
        obtain ⟨hy, hno⟩ := HOF.out _ HTK.out
        obtain ⟨_, hne⟩ := HRB.out _ HSI.out
        have HY := Lib.hid (hy _ rfl)
        have HN := Lib.hid (hno _ rfl)
        have HNE := Lib.hid hne
        have HSL := Lib.hid (SlAt.mono (HSA.out) hy5)
        clear hy hno hne hom
        obtain ⟨M, hM⟩ : ∃ M, putC A v ⟨3, f, o, n⟩ S = M := ⟨_, rfl⟩
        rw [hM] at HY HN HNE hcm
        rw [hM]
        obtain ⟨M1, M2⟩ := M
        dsimp only at HY HN HNE hcm ⊢
        clear hM
        by_cases h0 : M2 = 0
        · by_cases h1 : M1 = l
          · subst h0
            have h1s := h1.symm
            subst h1s
            have gs : ((runesBytes l).toList != (runesBytes l).toList) = false := by simp
            have HR := Lib.hid (HY.out rfl rfl (fun h => by cases h))
            go_wp2_with fail
            go_ret2
            exact ⟨off_mk9 HR.out (by first | rfl | exact HSN.out | exact HSN.out.symm) HSL.out, hz5⟩
          · obtain ⟨gs, gs2⟩ := HNE.out h1
            have HR := Lib.hid (HN.out (.inr (.inl h1)))
            subst h0
            clear h1
            go_wp2_with fail
            go_ret2
            exact ⟨off_no9 HR.out, hz5⟩
        · have gE : (M2 != 0) = true := by rw [bne_iff_ne]; exact h0
          have HR := Lib.hid (HN.out (.inl h0))
          clear h0
          go_wp2_with fail
          go_ret2
          exact ⟨off_no9 HR.out, hz5⟩
    · have e := HZE.out rfl
      subst e
      have hF0 : F.length = 0 := by simp at hn0; omega
      have hO0 : O.length = 0 := by simp at hn0; omega
      have HSA := Lib.hid (SlAt.nil0 (w := W4) S (by rw [HSN.out]; simp))
      clear htk hSN hSI hsf hso hF ha1 ha2 ha3 hx hok hA hL hin hv hO
      clear hS
      have hmd := HMD.out S HSI.out HSL0.out W4 HX.out none 0 HSA.out
      have hSN0 : S.length = 0 := by rw [HSN.out]; simp
      rw [hSN0] at hmd
      have HSN := Lib.hid hSN0
      have HM := Lib.hid hmd
      clear hmd gn hSN0
      rw [hF0] at hcv
      rw [hO0] at hcw
      go_enter Tryz.func31, Tryz.ntmps31
      go_wp2_with fail
      refine HM.out.mono ?_
      rintro e w5 ⟨⟨mp, mc, rfl, hom⟩, hy5⟩
      have hz5 : Ext w w5 := (HX.out).trans hy5
      obtain ⟨e0, e1, l2, a0, a1, a2, a3, l3⟩ := HB.out _ (HZ.out _ hy5)
      have hcm := hom.at_.text (P := Tryz.prog) (src := 58) (dst := 9) Tryz.underlying58 Tryz.underlying21 Tryz.underlying9 mc
      have hcl := (HLW.out _ hz5).at_.text (P := Tryz.prog) (src := 58) (dst := 9) Tryz.underlying58 Tryz.underlying21 Tryz.underlying9 0
      simp only [List.length_nil] at hcl
      obtain ⟨hy, hno⟩ := HOF.out _ HTK.out
      obtain ⟨_, hne⟩ := HRB.out _ HSI.out
      have HY := Lib.hid (hy _ rfl)
      have HN := Lib.hid (hno _ rfl)
      have HNE := Lib.hid hne
      have HSL := Lib.hid (SlAt.mono (HSA.out) hy5)
      clear hy hno hne hom
      obtain ⟨M, hM⟩ : ∃ M, putC A v ⟨3, f, o, n⟩ S = M := ⟨_, rfl⟩
      rw [hM] at HY HN HNE hcm
      rw [hM]
      obtain ⟨M1, M2⟩ := M
      dsimp only at HY HN HNE hcm ⊢
      clear hM
      by_cases h0 : M2 = 0
      · by_cases h1 : M1 = []
        · subst h0
          have h1s := h1.symm
          subst h1s
          have gs : ((runesBytes []).toList != (runesBytes []).toList) = false := by simp
          simp only [List.length_nil] at hcm
          have HR := Lib.hid (HY.out rfl rfl (fun h => by cases h))
          go_wp2_with fail
          go_ret2
          exact ⟨off_mk9 HR.out (by first | rfl | exact HSN.out | exact HSN.out.symm) HSL.out, hz5⟩
        · obtain ⟨gs, gs2⟩ := HNE.out h1
          have HR := Lib.hid (HN.out (.inr (.inl h1)))
          subst h0
          clear h1
          go_wp2_with fail
          go_ret2
          exact ⟨off_no9 HR.out, hz5⟩
      · have gE : (M2 != 0) = true := by rw [bne_iff_ne]; exact h0
        have HR := Lib.hid (HN.out (.inl h0))
        clear h0
        go_wp2_with fail
        go_ret2
        exact ⟨off_no9 HR.out, hz5⟩
  · rw [if_neg hn0] at htk
    have HR := Lib.hid (HON.out htk)
    have gn : (l.length : Int) - (F.length : Int) - (O.length : Int) < 0 := by omega
    clear htk hsf hso hF ha1 ha2 ha3 hx hok hA hL hin hv hform
    go_enter Tryz.func31, Tryz.ntmps31
    go_wp2_with fail
    go_ret2
    exact ⟨off_no9 HR.out, HX.out⟩

set_option maxRecDepth 100000 in
set_option maxHeartbeats 4000000 in
theorem taken17_4 (fp ap lp : Option Addr) (fc ac lc : Nat) (A : Alpha) (v : Nat) (hv : v < 4294967296) (f o : ByteArray) (n : Int) (hn : -9223372036854775808 ≤ n ∧ n ≤ 9223372036854775807) (hf : f.size ≤ 1048576) (ho : o.size ≤ 1048576) (hok : A.Ok) (hx : affB A ⟨4, f, o, n⟩ = true) (l : List Int) (hin : InA A l) (hl : l.length ≤ 256) (w : World) (hA : AlphaAt w fp ap A) (hL : SlAt w lp l lc) :
    Calls Tryz.prog 31 #[.agg #[.slice fp A.feats.length fc, .slice ap A.lets.length ac], .int .u32 v, .slice lp l.length lc, .agg #[.int .u8 4, .string f, .string o, .int .i64 n]] w fun e w' => OffRes (offL A v ⟨4, f, o, n⟩ l) e w' ∧ Ext w w' := by
  have hx0 : Ext w (w.alloc (.cells #[.slice fp A.feats.length fc, .slice ap A.lets.length ac] 25)) := (Ext.refl _).alloc _
  obtain ⟨W1, hW1⟩ : ∃ W1, w.alloc (.cells #[.slice fp A.feats.length fc, .slice ap A.lets.length ac] 25) = W1 := ⟨_, rfl⟩
  have hx1 : Ext W1 (W1.alloc (.cells #[.int .u8 4, .string f, .string o, .int .i64 n] 28)) := (Ext.refl _).alloc _
  obtain ⟨W2, hW2⟩ : ∃ W2, W1.alloc (.cells #[.int .u8 4, .string f, .string o, .int .i64 n] 28) = W2 := ⟨_, rfl⟩
  rw [hW1] at hx0
  rw [hW2] at hx1
  have z1 : W1.heap.size = w.heap.size + 1 := by rw [← hW1, size_alloc]
  have HB := Lib.hid (fun W (hW : Ext W2 W) => (by
    have h := hx1.trans hW
    rw [← hW1] at h
    have h2 := hW
    rw [← hW2] at h2
    have c0 := h2.cell0 0
    have c1 := h2.cell0 1
    have c2 := h2.cell0 2
    have c3 := h2.cell0 3
    have l0 := h2.lt0
    rw [z1] at c0 c1 c2 c3 l0
    exact ⟨h.cell0 0, h.cell0 1, h.lt0, c0, c1, c2, c3, l0⟩ : W.cell? ⟨w.heap.size, 0, none⟩ = some (.slice fp A.feats.length fc) ∧ W.cell? ⟨w.heap.size, 1, none⟩ = some (.slice ap A.lets.length ac) ∧ w.heap.size < W.heap.size ∧ W.cell? ⟨w.heap.size + 1, 0, none⟩ = some (.int .u8 4) ∧ W.cell? ⟨w.heap.size + 1, 1, none⟩ = some (.string f) ∧ W.cell? ⟨w.heap.size + 1, 2, none⟩ = some (.string o) ∧ W.cell? ⟨w.heap.size + 1, 3, none⟩ = some (.int .i64 n) ∧ w.heap.size + 1 < W.heap.size))
  have hwW2 : Ext w W2 := hx0.trans hx1
  have hW2e : (w.alloc (.cells #[.slice fp A.feats.length fc, .slice ap A.lets.length ac] 25)).alloc (.cells #[.int .u8 4, .string f, .string o, .int .i64 n] 28) = W2 := by rw [hW1, hW2]
  obtain ⟨d0, d1, l0, c0, c1, c2, c3, l1⟩ := HB.out _ (Ext.refl _)
  obtain ⟨cf, W3, hcv, hro, hx3⟩ := str_row f hf W2
  obtain ⟨co, W4, hcw, hro4, hx4⟩ := str_row o ho W3
  have hsz : W2.heap.size = w.heap.size + 1 + 1 := by rw [← hW2, size_alloc, z1]
  rw [hsz] at hcv hro
  have HX := Lib.hid (hwW2.trans (hx3.trans hx4))
  have HX4 := Lib.hid (hx3.trans hx4)
  have HRO := Lib.hid (hro.ext hx4)
  have hroom := hL.room
  have HOF := Lib.hid (fun S (hS : takC A ⟨4, f, o, n⟩ l = some S) => (⟨fun M hM h0 h1 h5 => tak_yes (v := v) (M := M) hx hl hS hM h0 h1 h5, fun M hM h => tak_no (v := v) (M := M) hx hl hS hM h⟩ : (∀ M, putC A v ⟨4, f, o, n⟩ S = M → M.2 = 0 → M.1 = l → ((⟨4, f, o, n⟩ : Aff).kind = 5 → (rootL A v S).length = S.length) → offL A v ⟨4, f, o, n⟩ l = some S) ∧ (∀ M, putC A v ⟨4, f, o, n⟩ S = M → (M.2 ≠ 0 ∨ M.1 ≠ l ∨ ((⟨4, f, o, n⟩ : Aff).kind = 5 ∧ (rootL A v S).length ≠ S.length)) → offL A v ⟨4, f, o, n⟩ l = none)))
  have HON := Lib.hid (tak_none (v := v) hx hl)
  have HMD := Lib.hid (fun S (hS : InA A S) (hSl : S.length ≤ 256) W (hW : Ext w W) sp sc (hsl : SlAt W sp S sc) => made17_4 fp ap sp fc ac sc A v hv f o n hn hf ho hok hx S hS hSl W (hA.mono hW) hsl)
  have HRB := Lib.hid (fun S (hS : InA A S) => (⟨putC_in (v := v) hx hS, fun h => rb_ne9 fun e => h ((rb_inj_in hok (putC_in (v := v) hx hS) hin).1 e)⟩ : InA A (putC A v ⟨4, f, o, n⟩ S).1 ∧ ((putC A v ⟨4, f, o, n⟩ S).1 ≠ l → ((runesBytes (putC A v ⟨4, f, o, n⟩ S).1).toList != (runesBytes l).toList) = true ∧ ((runesBytes (putC A v ⟨4, f, o, n⟩ S).1).toList == (runesBytes l).toList) = false)))
  have HLW := Lib.hid (fun W (hW : Ext w W) => hL.mono hW)
  have HIN := Lib.hid hin
  clear hW1 hW2 hx0 hx1 z1 hro hro4 hwW2 hsz
  obtain ⟨ha1, ha2, ha3, ha4⟩ := aff4 (x := ⟨4, f, o, n⟩) rfl hx
  dsimp only at ha1 ha2 ha3 ha4
  obtain ⟨m, rfl⟩ : ∃ m : Nat, n = (m : Int) := ⟨n.toNat, by omega⟩
  have hsf : strR f = (spell A f).1 := strR_word ha1
  rw [hsf] at hcv HRO
  have h64 := spell_len A f
  have hso : (strR o).length = 0 := strR_zero.2 ha2
  rw [hso] at hcw
  have htk : takC A ⟨4, f, o, (m : Int)⟩ l = if (spell A f).1.length ≤ l.length then some (l.take (min m (l.length - (spell A f).1.length)) ++ l.drop (min m (l.length - (spell A f).1.length) + (spell A f).1.length)) else none := rfl
  obtain ⟨F, hF⟩ : ∃ F, (spell A f).1 = F := ⟨_, rfl⟩
  rw [hF] at hcv HRO h64 htk
  obtain ⟨e0, e1, l2, a0, a1, a2, a3, l3⟩ := HB.out _ (Ext.trans (Below.refl _ _) hx3)
  obtain ⟨f0, f1, l4, b0, b1, b2, b3, l5⟩ := HB.out _ HX4.out
  have HZ := Lib.hid (fun W (hW : Ext W4 W) => HX4.out.trans hW)
  clear hx3 hx4
  have hform := hL.form
  have hzero := fun (e : lp = none) => (by rw [e] at hL; exact hL.zero : l = [])
  have HZE := Lib.hid hzero
  clear hzero
  by_cases hn0 : F.length ≤ l.length
  · rw [if_pos hn0] at htk
    obtain ⟨q, hq⟩ : ∃ q, min m (l.length - F.length) = q := ⟨_, rfl⟩
    obtain ⟨r, hr⟩ : ∃ r, q + F.length = r := ⟨_, rfl⟩
    rw [hq, hr] at htk
    have hrl : r ≤ l.length := by omega
    have hql : q ≤ r := by omega
    have gn : ((l.length : Int) - (F.length : Int)) = ((l.length - F.length : Nat) : Int) := by omega
    have gm : min (m : Int) ((l.length - F.length : Nat) : Int) = (q : Int) := by omega
    have gr : (q : Int) + (F.length : Int) = (r : Int) := by omega
    have gi0 : (0 : Int) ≤ (q : Int) := by omega
    have gi1 : (q : Int) ≤ (lc : Int) := by omega
    have gi2 : (r : Int) ≤ (lc : Int) := by omega
    have gi3 : (r : Int) ≤ (l.length : Int) := by omega
    have gi4 : (0 : Int) ≤ (r : Int) := by omega
    have hSI : InA A (l.take q ++ l.drop r) := InA_app (InA_take hin _) (InA_drop hin _)
    have hlt : (l.take q).length = q := sl_len (by omega)
    have hld : (l.drop r).length = l.length - r := List.length_drop ..
    have hSN : (l.take q ++ l.drop r).length ≤ 256 := by rw [List.length_append, hlt, hld]; omega
    have hj := fun (W : World) (hW : Ext W4 W) (lq : Option Addr) (cq : Nat) (hq9 : RunesAt W lq (l.drop r)) => joined17_any lp lq none lc cq 0 (l.take q) (l.drop r) [] (by omega) (by omega) (by decide) W ((hL.at_.take q).mono (HX.out.trans hW)) hq9 (RunesAt.nil _ _)
    rw [hlt, hld, List.append_nil] at hj
    obtain ⟨S, hS⟩ : ∃ S, l.take q ++ l.drop r = S := ⟨_, rfl⟩
    rw [hS] at hSI hSN htk hj
    have HTK := Lib.hid htk
    have HSI := Lib.hid hSI
    have HSL0 := Lib.hid hSN
    have HJ := Lib.hid hj
    have HLA := Lib.hid (fun W (hW : Ext W4 W) => (hL.at_.mono (HX.out.trans hW)))
    rcases hform with ⟨b0, off, rfl⟩ | ⟨rfl, rfl⟩
    · by_cases hcc : lc = r
      · have hd0 : l.drop r = [] := List.drop_eq_nil_of_le (by omega)
        have HD0 := Lib.hid hd0
        have hlr : l.length - r = 0 := by omega
        subst hcc
        have hj2 := fun (W : World) (hW : Ext W4 W) => HJ.out W hW (some ⟨b0, off, none⟩) (0) (by rw [HD0.out]; exact RunesAt.nil _ _)
        rw [hlr] at hj2
        have HJ2 := Lib.hid hj2
        clear htk hSI hSN hj hlt hld hsf hso hF ha1 ha2 hx hok hA hL hin hv hq hS hj2 hd0 hlr
        go_enter Tryz.func31, Tryz.ntmps31
        go_wp2_with fail
        have gw : IntKind.i64.wrap ((q : Int) + (F.length : Int)) = (lc : Int) := by rw [gr]; exact IntWalk.i64_in _ (by omega)
        have gw2 : IntKind.i64.wrap (lc : Int) = (lc : Int) := IntWalk.i64_in _ (by omega)
        clear gr
        go_region_held3 (fun W => Ext W4 W) (first | exact hE5 | exact (Ext.refl _).drew | exact Ext.refl _) ((go_at_call 48; refine (HJ2.out _ (Ext.refl _).drew).mono ?_; rintro e w8 ⟨rp, rc, rfl, ho8, hq8⟩; have hE5 : Ext W4 w8 := ((Ext.refl _).drew).trans hq8))
        clear gw gw2
        have HSA := Lib.hid (SlAt.own ho8)
        have hx8 := HX.out.trans hE5
        obtain ⟨e0, e1, l2, a0, a1, a2, a3, l3⟩ := HB.out _ (HZ.out _ hE5)
        have HM := Lib.hid (HMD.out S HSI.out HSL0.out w8 hx8 _ _ HSA.out)
        clear ho8 hq8
        go_wp2_with fail
        refine HM.out.mono ?_
        rintro e w5 ⟨⟨mp, mc, rfl, hom⟩, hy5⟩
        have hz5 : Ext w w5 := (hx8).trans hy5
        obtain ⟨e0, e1, l2, a0, a1, a2, a3, l3⟩ := HB.out _ (HZ.out _ (hE5.trans hy5))
        have hcm := hom.at_.text (P := Tryz.prog) (src := 58) (dst := 9) Tryz.underlying58 Tryz.underlying21 Tryz.underlying9 mc
        have hcl := (HLW.out _ hz5).at_.text (P := Tryz.prog) (src := 58) (dst := 9) Tryz.underlying58 Tryz.underlying21 Tryz.underlying9 lc
        obtain ⟨hy, hno⟩ := HOF.out _ HTK.out
        obtain ⟨_, hne⟩ := HRB.out _ HSI.out
        have HY := Lib.hid (hy _ rfl)
        have HN := Lib.hid (hno _ rfl)
        have HNE := Lib.hid hne
        have HSL := Lib.hid (SlAt.mono (HSA.out) hy5)
        clear hy hno hne hom
        obtain ⟨M, hM⟩ : ∃ M, putC A v ⟨4, f, o, (m : Int)⟩ S = M := ⟨_, rfl⟩
        rw [hM] at HY HN HNE hcm
        rw [hM]
        obtain ⟨M1, M2⟩ := M
        dsimp only at HY HN HNE hcm ⊢
        clear hM
        by_cases h0 : M2 = 0
        · by_cases h1 : M1 = l
          · subst h0
            have h1s := h1.symm
            subst h1s
            have gs : ((runesBytes l).toList != (runesBytes l).toList) = false := by simp
            have HR := Lib.hid (HY.out rfl rfl (fun h => by cases h))
            go_wp2_with fail
            go_ret2
            exact ⟨off_mk9 HR.out (by first | rfl | fail) HSL.out, hz5⟩
          · obtain ⟨gs, gs2⟩ := HNE.out h1
            have HR := Lib.hid (HN.out (.inr (.inl h1)))
            subst h0
            clear h1
            go_wp2_with fail
            go_ret2
            exact ⟨off_no9 HR.out, hz5⟩
        · have gE : (M2 != 0) = true := by rw [bne_iff_ne]; exact h0
          have HR := Lib.hid (HN.out (.inl h0))
          clear h0
          go_wp2_with fail
          go_ret2
          exact ⟨off_no9 HR.out, hz5⟩
      · have hj2 := fun (W : World) (hW : Ext W4 W) => HJ.out W hW (some ⟨b0, off + r, none⟩) (lc - r) ((HLA.out W hW).drop_ r)
        have HJ2 := Lib.hid hj2
        clear htk hSI hSN hj hlt hld hsf hso hF ha1 ha2 hx hok hA hL hin hv hq hS hj2
        go_enter Tryz.func31, Tryz.ntmps31
        go_wp2_with fail
        have gw : IntKind.i64.wrap ((q : Int) + (F.length : Int)) = (r : Int) := by rw [gr]; exact IntWalk.i64_in _ (by omega)
        have gw2 : IntKind.i64.wrap (r : Int) = (r : Int) := IntWalk.i64_in _ (by omega)
        clear gr
        go_region_held3 (fun W => Ext W4 W) (first | exact hE5 | exact (Ext.refl _).drew | exact Ext.refl _) ((go_at_call 48; refine (HJ2.out _ (Ext.refl _).drew).mono ?_; rintro e w8 ⟨rp, rc, rfl, ho8, hq8⟩; have hE5 : Ext W4 w8 := ((Ext.refl _).drew).trans hq8))
        clear gw gw2
        have HSA := Lib.hid (SlAt.own ho8)
        have hx8 := HX.out.trans hE5
        obtain ⟨e0, e1, l2, a0, a1, a2, a3, l3⟩ := HB.out _ (HZ.out _ hE5)
        have HM := Lib.hid (HMD.out S HSI.out HSL0.out w8 hx8 _ _ HSA.out)
        clear ho8 hq8
        go_wp2_with fail
        refine HM.out.mono ?_
        rintro e w5 ⟨⟨mp, mc, rfl, hom⟩, hy5⟩
        have hz5 : Ext w w5 := (hx8).trans hy5
        obtain ⟨e0, e1, l2, a0, a1, a2, a3, l3⟩ := HB.out _ (HZ.out _ (hE5.trans hy5))
        have hcm := hom.at_.text (P := Tryz.prog) (src := 58) (dst := 9) Tryz.underlying58 Tryz.underlying21 Tryz.underlying9 mc
        have hcl := (HLW.out _ hz5).at_.text (P := Tryz.prog) (src := 58) (dst := 9) Tryz.underlying58 Tryz.underlying21 Tryz.underlying9 lc
        obtain ⟨hy, hno⟩ := HOF.out _ HTK.out
        obtain ⟨_, hne⟩ := HRB.out _ HSI.out
        have HY := Lib.hid (hy _ rfl)
        have HN := Lib.hid (hno _ rfl)
        have HNE := Lib.hid hne
        have HSL := Lib.hid (SlAt.mono (HSA.out) hy5)
        clear hy hno hne hom
        obtain ⟨M, hM⟩ : ∃ M, putC A v ⟨4, f, o, (m : Int)⟩ S = M := ⟨_, rfl⟩
        rw [hM] at HY HN HNE hcm
        rw [hM]
        obtain ⟨M1, M2⟩ := M
        dsimp only at HY HN HNE hcm ⊢
        clear hM
        by_cases h0 : M2 = 0
        · by_cases h1 : M1 = l
          · subst h0
            have h1s := h1.symm
            subst h1s
            have gs : ((runesBytes l).toList != (runesBytes l).toList) = false := by simp
            have HR := Lib.hid (HY.out rfl rfl (fun h => by cases h))
            go_wp2_with fail
            go_ret2
            exact ⟨off_mk9 HR.out (by first | rfl | fail) HSL.out, hz5⟩
          · obtain ⟨gs, gs2⟩ := HNE.out h1
            have HR := Lib.hid (HN.out (.inr (.inl h1)))
            subst h0
            clear h1
            go_wp2_with fail
            go_ret2
            exact ⟨off_no9 HR.out, hz5⟩
        · have gE : (M2 != 0) = true := by rw [bne_iff_ne]; exact h0
          have HR := Lib.hid (HN.out (.inl h0))
          clear h0
          go_wp2_with fail
          go_ret2
          exact ⟨off_no9 HR.out, hz5⟩
    · have e := HZE.out rfl
      subst e
      have hF0 : F.length = 0 := by simp at hn0; omega
      obtain rfl : r = 0 := by simpa using hrl
      obtain rfl : q = 0 := by omega
      have hj2 := fun (W : World) (hW : Ext W4 W) => HJ.out W hW (none) (0) (RunesAt.nil _ _)
      simp only [List.length_nil, Nat.sub_zero] at hj2
      have HJ2 := Lib.hid hj2
      clear htk hSI hSN hj hlt hld hsf hso hF ha1 ha2 hx hok hA hL hin hv hq hS hj2
      clear gn gm gr gi0 gi1 gi2 gi3 gi4
      have gm2 : min (m : Int) 0 = 0 := by omega
      rw [hF0] at hcv
      go_enter Tryz.func31, Tryz.ntmps31
      go_wp2_with fail
      have gw : IntKind.i64.wrap (0 + 0) = 0 := by decide
      have gw2 : IntKind.i64.wrap 0 = 0 := by decide
      go_region_held3 (fun W => Ext W4 W) (first | exact hE5 | exact (Ext.refl _).drew | exact Ext.refl _) ((go_at_call 48; refine (HJ2.out _ (Ext.refl _).drew).mono ?_; rintro e w8 ⟨rp, rc, rfl, ho8, hq8⟩; have hE5 : Ext W4 w8 := ((Ext.refl _).drew).trans hq8))
      clear gw gw2
      have HSA := Lib.hid (SlAt.own ho8)
      have hx8 := HX.out.trans hE5
      obtain ⟨e0, e1, l2, a0, a1, a2, a3, l3⟩ := HB.out _ (HZ.out _ hE5)
      have HM := Lib.hid (HMD.out S HSI.out HSL0.out w8 hx8 _ _ HSA.out)
      clear ho8 hq8
      go_wp2_with fail
      refine HM.out.mono ?_
      rintro e w5 ⟨⟨mp, mc, rfl, hom⟩, hy5⟩
      have hz5 : Ext w w5 := (hx8).trans hy5
      obtain ⟨e0, e1, l2, a0, a1, a2, a3, l3⟩ := HB.out _ (HZ.out _ (hE5.trans hy5))
      have hcm := hom.at_.text (P := Tryz.prog) (src := 58) (dst := 9) Tryz.underlying58 Tryz.underlying21 Tryz.underlying9 mc
      have hcl := (HLW.out _ hz5).at_.text (P := Tryz.prog) (src := 58) (dst := 9) Tryz.underlying58 Tryz.underlying21 Tryz.underlying9 0
      simp only [List.length_nil] at hcl
      obtain ⟨hy, hno⟩ := HOF.out _ HTK.out
      obtain ⟨_, hne⟩ := HRB.out _ HSI.out
      have HY := Lib.hid (hy _ rfl)
      have HN := Lib.hid (hno _ rfl)
      have HNE := Lib.hid hne
      have HSL := Lib.hid (SlAt.mono (HSA.out) hy5)
      clear hy hno hne hom
      obtain ⟨M, hM⟩ : ∃ M, putC A v ⟨4, f, o, (m : Int)⟩ S = M := ⟨_, rfl⟩
      rw [hM] at HY HN HNE hcm
      rw [hM]
      obtain ⟨M1, M2⟩ := M
      dsimp only at HY HN HNE hcm ⊢
      clear hM
      by_cases h0 : M2 = 0
      · by_cases h1 : M1 = []
        · subst h0
          have h1s := h1.symm
          subst h1s
          have gs : ((runesBytes []).toList != (runesBytes []).toList) = false := by simp
          simp only [List.length_nil] at hcm
          have HR := Lib.hid (HY.out rfl rfl (fun h => by cases h))
          go_wp2_with fail
          go_ret2
          exact ⟨off_mk9 HR.out (by first | rfl | fail) HSL.out, hz5⟩
        · obtain ⟨gs, gs2⟩ := HNE.out h1
          have HR := Lib.hid (HN.out (.inr (.inl h1)))
          subst h0
          clear h1
          go_wp2_with fail
          go_ret2
          exact ⟨off_no9 HR.out, hz5⟩
      · have gE : (M2 != 0) = true := by rw [bne_iff_ne]; exact h0
        have HR := Lib.hid (HN.out (.inl h0))
        clear h0
        go_wp2_with fail
        go_ret2
        exact ⟨off_no9 HR.out, hz5⟩
  · rw [if_neg hn0] at htk
    have HR := Lib.hid (HON.out htk)
    have gn : (l.length : Int) - (F.length : Int) < 0 := by omega
    clear htk hsf hso hF ha1 ha2 hx hok hA hL hin hv hform
    go_enter Tryz.func31, Tryz.ntmps31
    go_wp2_with fail
    go_ret2
    exact ⟨off_no9 HR.out, HX.out⟩

set_option maxRecDepth 100000 in
set_option maxHeartbeats 4000000 in
theorem taken17_5 (fp ap lp : Option Addr) (fc ac lc : Nat) (A : Alpha) (v : Nat) (hv : v < 4294967296) (f o : ByteArray) (n : Int) (hn : -9223372036854775808 ≤ n ∧ n ≤ 9223372036854775807) (hf : f.size ≤ 1048576) (ho : o.size ≤ 1048576) (hok : A.Ok) (hx : affB A ⟨5, f, o, n⟩ = true) (l : List Int) (hin : InA A l) (hl : l.length ≤ 256) (w : World) (hA : AlphaAt w fp ap A) (hL : SlAt w lp l lc) :
    Calls Tryz.prog 31 #[.agg #[.slice fp A.feats.length fc, .slice ap A.lets.length ac], .int .u32 v, .slice lp l.length lc, .agg #[.int .u8 5, .string f, .string o, .int .i64 n]] w fun e w' => OffRes (offL A v ⟨5, f, o, n⟩ l) e w' ∧ Ext w w' := by
  have hx0 : Ext w (w.alloc (.cells #[.slice fp A.feats.length fc, .slice ap A.lets.length ac] 25)) := (Ext.refl _).alloc _
  obtain ⟨W1, hW1⟩ : ∃ W1, w.alloc (.cells #[.slice fp A.feats.length fc, .slice ap A.lets.length ac] 25) = W1 := ⟨_, rfl⟩
  have hx1 : Ext W1 (W1.alloc (.cells #[.int .u8 5, .string f, .string o, .int .i64 n] 28)) := (Ext.refl _).alloc _
  obtain ⟨W2, hW2⟩ : ∃ W2, W1.alloc (.cells #[.int .u8 5, .string f, .string o, .int .i64 n] 28) = W2 := ⟨_, rfl⟩
  rw [hW1] at hx0
  rw [hW2] at hx1
  have z1 : W1.heap.size = w.heap.size + 1 := by rw [← hW1, size_alloc]
  have HB := Lib.hid (fun W (hW : Ext W2 W) => (by
    have h := hx1.trans hW
    rw [← hW1] at h
    have h2 := hW
    rw [← hW2] at h2
    have c0 := h2.cell0 0
    have c1 := h2.cell0 1
    have c2 := h2.cell0 2
    have c3 := h2.cell0 3
    have l0 := h2.lt0
    rw [z1] at c0 c1 c2 c3 l0
    exact ⟨h.cell0 0, h.cell0 1, h.lt0, c0, c1, c2, c3, l0⟩ : W.cell? ⟨w.heap.size, 0, none⟩ = some (.slice fp A.feats.length fc) ∧ W.cell? ⟨w.heap.size, 1, none⟩ = some (.slice ap A.lets.length ac) ∧ w.heap.size < W.heap.size ∧ W.cell? ⟨w.heap.size + 1, 0, none⟩ = some (.int .u8 5) ∧ W.cell? ⟨w.heap.size + 1, 1, none⟩ = some (.string f) ∧ W.cell? ⟨w.heap.size + 1, 2, none⟩ = some (.string o) ∧ W.cell? ⟨w.heap.size + 1, 3, none⟩ = some (.int .i64 n) ∧ w.heap.size + 1 < W.heap.size))
  have hwW2 : Ext w W2 := hx0.trans hx1
  have hW2e : (w.alloc (.cells #[.slice fp A.feats.length fc, .slice ap A.lets.length ac] 25)).alloc (.cells #[.int .u8 5, .string f, .string o, .int .i64 n] 28) = W2 := by rw [hW1, hW2]
  obtain ⟨d0, d1, l0, c0, c1, c2, c3, l1⟩ := HB.out _ (Ext.refl _)
  obtain ⟨cf, W3, hcv, hro, hx3⟩ := str_row f hf W2
  obtain ⟨co, W4, hcw, hro4, hx4⟩ := str_row o ho W3
  have hsz : W2.heap.size = w.heap.size + 1 + 1 := by rw [← hW2, size_alloc, z1]
  rw [hsz] at hcv hro
  have HX := Lib.hid (hwW2.trans (hx3.trans hx4))
  have HX4 := Lib.hid (hx3.trans hx4)
  have HRO := Lib.hid (hro.ext hx4)
  have hroom := hL.room
  have HOF := Lib.hid (fun S (hS : takC A ⟨5, f, o, n⟩ l = some S) => (⟨fun M hM h0 h1 h5 => tak_yes (v := v) (M := M) hx hl hS hM h0 h1 h5, fun M hM h => tak_no (v := v) (M := M) hx hl hS hM h⟩ : (∀ M, putC A v ⟨5, f, o, n⟩ S = M → M.2 = 0 → M.1 = l → ((⟨5, f, o, n⟩ : Aff).kind = 5 → (rootL A v S).length = S.length) → offL A v ⟨5, f, o, n⟩ l = some S) ∧ (∀ M, putC A v ⟨5, f, o, n⟩ S = M → (M.2 ≠ 0 ∨ M.1 ≠ l ∨ ((⟨5, f, o, n⟩ : Aff).kind = 5 ∧ (rootL A v S).length ≠ S.length)) → offL A v ⟨5, f, o, n⟩ l = none)))
  have HON := Lib.hid (tak_none (v := v) hx hl)
  have HMD := Lib.hid (fun S (hS : InA A S) (hSl : S.length ≤ 256) W (hW : Ext w W) sp sc (hsl : SlAt W sp S sc) => made17_5 fp ap sp fc ac sc A v hv f o n hn hf ho hok hx S hS hSl W (hA.mono hW) hsl)
  have HRB := Lib.hid (fun S (hS : InA A S) => (⟨putC_in (v := v) hx hS, fun h => rb_ne9 fun e => h ((rb_inj_in hok (putC_in (v := v) hx hS) hin).1 e)⟩ : InA A (putC A v ⟨5, f, o, n⟩ S).1 ∧ ((putC A v ⟨5, f, o, n⟩ S).1 ≠ l → ((runesBytes (putC A v ⟨5, f, o, n⟩ S).1).toList != (runesBytes l).toList) = true ∧ ((runesBytes (putC A v ⟨5, f, o, n⟩ S).1).toList == (runesBytes l).toList) = false)))
  have HRD := Lib.hid (fun S (hS : InA A S) (hSl : S.length ≤ 4096) W (hW : Ext w W) sp sc (hsl : RunesAt W sp S) => radicals17_any fp ap sp fc ac sc A v hv S hS hSl W (hA.mono hW) hsl)
  have HLW := Lib.hid (fun W (hW : Ext w W) => hL.mono hW)
  have HIN := Lib.hid hin
  clear hW1 hW2 hx0 hx1 z1 hro hro4 hwW2 hsz
  obtain ⟨ha1, ha2, ha3⟩ := aff5 (x := ⟨5, f, o, n⟩) rfl hx
  dsimp only at ha1 ha2 ha3
  have hsf : strR f = formL A f := strR_form ha1
  rw [hsf] at hcv HRO
  have h64 := formL_len A f
  have hso : (strR o).length = 0 := strR_zero.2 ha2
  rw [hso] at hcw
  have htk : takC A ⟨5, f, o, n⟩ l = if l.length = (formL A f).length then some (atHoles l (formL A f) (formL A f).length) else none := rfl
  obtain ⟨F, hF⟩ : ∃ F, formL A f = F := ⟨_, rfl⟩
  rw [hF] at hcv HRO h64 htk
  obtain ⟨e0, e1, l2, a0, a1, a2, a3, l3⟩ := HB.out _ (Ext.trans (Below.refl _ _) hx3)
  obtain ⟨f0, f1, l4, b0, b1, b2, b3, l5⟩ := HB.out _ HX4.out
  have HZ := Lib.hid (fun W (hW : Ext W4 W) => HX4.out.trans hW)
  clear hx3 hx4
  by_cases hn0 : l.length = F.length
  · rw [if_pos hn0, ← hn0] at htk
    have hSI : ∀ k, k ≤ l.length → InA A (atHoles l F k) := fun k hk r hr => by
      obtain ⟨j, hj, _, rfl⟩ := (atHoles_mem l F k r).1 hr
      rw [rn_eq (by omega)]; exact hin _ (List.getElem_mem _)
    have hSW : ∀ r ∈ atHoles l F l.length, -2147483648 ≤ r ∧ r ≤ 2147483647 := fun r hr => by
      obtain ⟨j, hj, _, rfl⟩ := (atHoles_mem l F _ r).1 hr
      exact hL.at_.wf j hj
    have hSN := atHoles_le l F l.length
    have gn : (l.length : Int) - (F.length : Int) = 0 := by omega
    obtain ⟨i0, hi, hz0, hz1, hz2⟩ := info_parts infoR
    have HTK := Lib.hid htk
    have HSI := Lib.hid (hSI l.length (Nat.le_refl _))
    have HSW := Lib.hid hSW
    have HSL0 := Lib.hid (Nat.le_trans hSN hl)
    have HN0 := Lib.hid hn0
    have HFA := Lib.hid (fun W (hW : Ext W4 W) => HRO.out.at_.mono hW)
    have HLA := Lib.hid (fun W (hW : Ext W4 W) => hL.at_.mono (HX.out.trans hW))
    clear htk hSI hSW hSN hsf hso hF ha1 ha2 ha3 hx hok hA hL hin hv hn0
    go_enter Tryz.func31, Tryz.ntmps31
    go_wp2_with fail
    go_loopw [12, 14] (fun s i wr => ∃ k : Nat, k ≤ l.length ∧ i = .int .i64 k ∧ Ext W4 wr ∧ wr.ownsRow W4.heap.size 21 1 s (atHoles l F k).length ((atHoles l F k).map (Value.int .i32))) (fun _ i _ => l.length - (intOf i).toNat)
    case atStart => exact ⟨0, Nat.zero_le _, rfl, Ext.refl _, World.ownsRow_nil _ _ _ _⟩
    case round =>
      clear e0 e1 l2 a0 a1 a2 a3 l3 f0 f1 l4 b0 b1 b2 b3 l5
      obtain ⟨k, hk, rfl, hxk, hown⟩ := hrel
      obtain ⟨rp, rc, rfl⟩ := ownsRow_slice hown
      have hlen := atHoles_le l F k
      by_cases hlt : k < l.length
      · obtain ⟨b, off, e9, hbw, q0⟩ := (HLA.out _ hxk).cells hlt
        obtain ⟨b8, off8, e8, hbw8, q8⟩ := (HFA.out _ hxk).cells (i := k) (by rw [← HN0.out]; exact hlt)
        have gk : (k : Int) < (F.length : Int) := by have := HN0.out; omega
        have gk2 : k < F.length := by have := HN0.out; omega
        cases e8
        subst e9
        rw [Nat.zero_add] at q8
        by_cases h95 : rn F k = 95
        · have HS := Lib.hid (atHoles_yes (l := l) h95)
          rw [h95] at q8
          clear h95
          go_wp2_with (at_builtin; go_loud (refine wpList_append_own _ rfl _ _ 58 rfl W4.heap.size 21 i0 (.int .i32 0) 1 4 Tryz.underlying58 hi hz0 hz1 hz2 rfl (by decide) _ _ _ rfl (hown.alloc _) ⟨wr.heap.size, 0, none⟩ 1 1 [.int .i32 (rn l k)] rfl rfl (one_cell _ _ _) (by simp [Value.oneCell']) (by unfold maxLen; omega) (by omega) (by simp; have := hxk.le; omega) ?_); intro v' w4 hown4 hgrow _)
          refine ⟨⟨k + 1, by omega, by go_num, Ext.append (hxk.alloc _) (hown.alloc _) hgrow (Nat.le_refl _), ?_⟩, by simp [intOf]; omega⟩
          rw [HS.out, List.map_append, List.length_append]; exact hown4
        · have HS := Lib.hid (atHoles_no (l := l) h95)
          have g95 : (rn F k == 95) = false := by rw [beq_eq_false_iff_ne]; exact h95
          clear h95
          go_wp2_with fail
          refine ⟨⟨k + 1, by omega, by go_num, hxk, ?_⟩, by simp [intOf]; omega⟩
          rw [HS.out]; exact hown
      · obtain rfl : k = l.length := by omega
        have ho8 := ownRunes_mk (B := W4.heap.size) (p := rp) (c := rc) hown (by omega) HSW.out
        have HSA := Lib.hid (SlAt.own ho8)
        have hx8 := HX.out.trans hxk
        obtain ⟨e0, e1, l2, a0, a1, a2, a3, l3⟩ := HB.out _ (HZ.out _ hxk)
        obtain ⟨S, hS⟩ : ∃ S, atHoles l F l.length = S := ⟨_, rfl⟩
        rw [hS] at HSA HSI HSL0 HTK
        rw [hS]
        have HM := Lib.hid (HMD.out S HSI.out HSL0.out wr hx8 _ _ HSA.out)
        clear ho8 hown hlen hS
        go_wp2_with fail
        refine HM.out.mono ?_
        rintro e w5 ⟨⟨mp, mc, rfl, hom⟩, hy5⟩
        have hz5 : Ext w w5 := (hx8).trans hy5
        obtain ⟨e0, e1, l2, a0, a1, a2, a3, l3⟩ := HB.out _ (HZ.out _ (hxk.trans hy5))
        have hcm := hom.at_.text (P := Tryz.prog) (src := 58) (dst := 9) Tryz.underlying58 Tryz.underlying21 Tryz.underlying9 mc
        have hcl := (HLW.out _ hz5).at_.text (P := Tryz.prog) (src := 58) (dst := 9) Tryz.underlying58 Tryz.underlying21 Tryz.underlying9 lc
        obtain ⟨hy, hno⟩ := HOF.out _ HTK.out
        obtain ⟨_, hne⟩ := HRB.out _ HSI.out
        have HY := Lib.hid (hy _ rfl)
        have HN := Lib.hid (hno _ rfl)
        have HNE := Lib.hid hne
        have HSL := Lib.hid (SlAt.mono (HSA.out) hy5)
        clear hy hno hne hom
        obtain ⟨M, hM⟩ : ∃ M, putC A v ⟨5, f, o, n⟩ S = M := ⟨_, rfl⟩
        rw [hM] at HY HN HNE hcm
        rw [hM]
        obtain ⟨M1, M2⟩ := M
        dsimp only at HY HN HNE hcm ⊢
        clear hM
        by_cases h0 : M2 = 0
        · by_cases h1 : M1 = l
          · subst h0
            have h1s := h1.symm
            subst h1s
            have gs : ((runesBytes l).toList != (runesBytes l).toList) = false := by simp
            obtain ⟨Q, hQ⟩ : ∃ Q, rootL A v S = Q := ⟨_, rfl⟩
            have HRD2 := Lib.hid (HRD.out S HSI.out (Nat.le_trans HSL0.out (by decide)) _ hz5 rp rc HSL.out.at_)
            rw [hQ] at HY HN HRD2
            clear hQ
            by_cases h5 : Q.length = S.length
            · have HR := Lib.hid (HY.out rfl rfl (fun _ => h5))
              have g5 : ((Q.length : Int) != (S.length : Int)) = false := by rw [bne_eq_false_iff_eq]; omega
              have g6 : (Q.length != S.length) = false := by rw [bne_eq_false_iff_eq]; exact h5
              clear h5
              go_wp2_with fail
              refine HRD2.out.mono ?_
              rintro e w6 ⟨qp, qc, rfl, hoq, hy6⟩
              go_wp2_with fail
              go_ret2
              exact ⟨off_mk9 HR.out rfl (HSL.out.mono hy6), hz5.trans hy6⟩
            · have HR := Lib.hid (HN.out (.inr (.inr ⟨by first | trivial | rfl, h5⟩)))
              have g5 : ((Q.length : Int) != (S.length : Int)) = true := by rw [bne_iff_ne]; omega
              have g6 : (Q.length != S.length) = true := by rw [bne_iff_ne]; exact h5
              clear h5
              go_wp2_with fail
              refine HRD2.out.mono ?_
              rintro e w6 ⟨qp, qc, rfl, hoq, hy6⟩
              go_wp2_with fail
              go_ret2
              exact ⟨off_no9 HR.out, hz5.trans hy6⟩
          · obtain ⟨gs, gs2⟩ := HNE.out h1
            have HR := Lib.hid (HN.out (.inr (.inl h1)))
            subst h0
            clear h1
            go_wp2_with fail
            go_ret2
            exact ⟨off_no9 HR.out, hz5⟩
        · have gE : (M2 != 0) = true := by rw [bne_iff_ne]; exact h0
          have HR := Lib.hid (HN.out (.inl h0))
          clear h0
          go_wp2_with fail
          go_ret2
          exact ⟨off_no9 HR.out, hz5⟩
  · rw [if_neg hn0] at htk
    have HR := Lib.hid (HON.out htk)
    have gn : ((l.length : Int) - (F.length : Int) != 0) = true := by rw [bne_iff_ne]; omega
    clear htk hsf hso hF ha1 ha2 ha3 hx hok hA hL hin hv hn0
    go_enter Tryz.func31, Tryz.ntmps31
    go_wp2_with fail
    go_ret2
    exact ⟨off_no9 HR.out, HX.out⟩

set_option maxRecDepth 100000 in
set_option maxHeartbeats 4000000 in
theorem taken17_6 (fp ap lp : Option Addr) (fc ac lc : Nat) (A : Alpha) (v : Nat) (hv : v < 4294967296) (f o : ByteArray) (n : Int) (hn : -9223372036854775808 ≤ n ∧ n ≤ 9223372036854775807) (hf : f.size ≤ 1048576) (ho : o.size ≤ 1048576) (hok : A.Ok) (hx : affB A ⟨6, f, o, n⟩ = true) (l : List Int) (hin : InA A l) (hl : l.length ≤ 256) (w : World) (hA : AlphaAt w fp ap A) (hL : SlAt w lp l lc) :
    Calls Tryz.prog 31 #[.agg #[.slice fp A.feats.length fc, .slice ap A.lets.length ac], .int .u32 v, .slice lp l.length lc, .agg #[.int .u8 6, .string f, .string o, .int .i64 n]] w fun e w' => OffRes (offL A v ⟨6, f, o, n⟩ l) e w' ∧ Ext w w' := by
  have hx0 : Ext w (w.alloc (.cells #[.slice fp A.feats.length fc, .slice ap A.lets.length ac] 25)) := (Ext.refl _).alloc _
  obtain ⟨W1, hW1⟩ : ∃ W1, w.alloc (.cells #[.slice fp A.feats.length fc, .slice ap A.lets.length ac] 25) = W1 := ⟨_, rfl⟩
  have hx1 : Ext W1 (W1.alloc (.cells #[.int .u8 6, .string f, .string o, .int .i64 n] 28)) := (Ext.refl _).alloc _
  obtain ⟨W2, hW2⟩ : ∃ W2, W1.alloc (.cells #[.int .u8 6, .string f, .string o, .int .i64 n] 28) = W2 := ⟨_, rfl⟩
  rw [hW1] at hx0
  rw [hW2] at hx1
  have z1 : W1.heap.size = w.heap.size + 1 := by rw [← hW1, size_alloc]
  have HB := Lib.hid (fun W (hW : Ext W2 W) => (by
    have h := hx1.trans hW
    rw [← hW1] at h
    have h2 := hW
    rw [← hW2] at h2
    have c0 := h2.cell0 0
    have c1 := h2.cell0 1
    have c2 := h2.cell0 2
    have c3 := h2.cell0 3
    have l0 := h2.lt0
    rw [z1] at c0 c1 c2 c3 l0
    exact ⟨h.cell0 0, h.cell0 1, h.lt0, c0, c1, c2, c3, l0⟩ : W.cell? ⟨w.heap.size, 0, none⟩ = some (.slice fp A.feats.length fc) ∧ W.cell? ⟨w.heap.size, 1, none⟩ = some (.slice ap A.lets.length ac) ∧ w.heap.size < W.heap.size ∧ W.cell? ⟨w.heap.size + 1, 0, none⟩ = some (.int .u8 6) ∧ W.cell? ⟨w.heap.size + 1, 1, none⟩ = some (.string f) ∧ W.cell? ⟨w.heap.size + 1, 2, none⟩ = some (.string o) ∧ W.cell? ⟨w.heap.size + 1, 3, none⟩ = some (.int .i64 n) ∧ w.heap.size + 1 < W.heap.size))
  have hwW2 : Ext w W2 := hx0.trans hx1
  have hW2e : (w.alloc (.cells #[.slice fp A.feats.length fc, .slice ap A.lets.length ac] 25)).alloc (.cells #[.int .u8 6, .string f, .string o, .int .i64 n] 28) = W2 := by rw [hW1, hW2]
  obtain ⟨d0, d1, l0, c0, c1, c2, c3, l1⟩ := HB.out _ (Ext.refl _)
  obtain ⟨cf, W3, hcv, hro, hx3⟩ := str_row f hf W2
  obtain ⟨co, W4, hcw, hro4, hx4⟩ := str_row o ho W3
  have hsz : W2.heap.size = w.heap.size + 1 + 1 := by rw [← hW2, size_alloc, z1]
  rw [hsz] at hcv hro
  have HX := Lib.hid (hwW2.trans (hx3.trans hx4))
  have HX4 := Lib.hid (hx3.trans hx4)
  have HRO := Lib.hid (hro.ext hx4)
  have hroom := hL.room
  have HOF := Lib.hid (fun S (hS : takC A ⟨6, f, o, n⟩ l = some S) => (⟨fun M hM h0 h1 h5 => tak_yes (v := v) (M := M) hx hl hS hM h0 h1 h5, fun M hM h => tak_no (v := v) (M := M) hx hl hS hM h⟩ : (∀ M, putC A v ⟨6, f, o, n⟩ S = M → M.2 = 0 → M.1 = l → ((⟨6, f, o, n⟩ : Aff).kind = 5 → (rootL A v S).length = S.length) → offL A v ⟨6, f, o, n⟩ l = some S) ∧ (∀ M, putC A v ⟨6, f, o, n⟩ S = M → (M.2 ≠ 0 ∨ M.1 ≠ l ∨ ((⟨6, f, o, n⟩ : Aff).kind = 5 ∧ (rootL A v S).length ≠ S.length)) → offL A v ⟨6, f, o, n⟩ l = none)))
  have HON := Lib.hid (tak_none (v := v) hx hl)
  have HMD := Lib.hid (fun S (hS : InA A S) (hSl : S.length ≤ 256) W (hW : Ext w W) sp sc (hsl : SlAt W sp S sc) => made17_6 fp ap sp fc ac sc A v hv f o n hn hf ho hok hx S hS hSl W (hA.mono hW) hsl)
  have HRB := Lib.hid (fun S (hS : InA A S) => (⟨putC_in (v := v) hx hS, fun h => rb_ne9 fun e => h ((rb_inj_in hok (putC_in (v := v) hx hS) hin).1 e)⟩ : InA A (putC A v ⟨6, f, o, n⟩ S).1 ∧ ((putC A v ⟨6, f, o, n⟩ S).1 ≠ l → ((runesBytes (putC A v ⟨6, f, o, n⟩ S).1).toList != (runesBytes l).toList) = true ∧ ((runesBytes (putC A v ⟨6, f, o, n⟩ S).1).toList == (runesBytes l).toList) = false)))
  have HLW := Lib.hid (fun W (hW : Ext w W) => hL.mono hW)
  have HIN := Lib.hid hin
  clear hW1 hW2 hx0 hx1 z1 hro hro4 hwW2 hsz
  obtain ⟨ha1, ha2, ha3, ha4⟩ := aff6 (x := ⟨6, f, o, n⟩) rfl hx
  dsimp only at ha1 ha2 ha3 ha4
  have hsf : (strR f).length = 0 := strR_zero.2 ha1
  rw [hsf] at hcv
  have hso : (strR o).length = 0 := strR_zero.2 ha2
  rw [hso] at hcw
  obtain ⟨m, hm⟩ : ∃ m : Nat, n.toNat = m := ⟨_, rfl⟩
  have hmn : n = (m : Int) := by omega
  have htk : takC A ⟨6, f, o, n⟩ l = if m = 0 ∧ l.length % 2 = 0 then some (l.take (l.length / 2)) else if m = 0 ∨ l.length < 2 * m then none else some (l.drop m) := by rw [← hm]; rfl
  obtain ⟨e0, e1, l2, a0, a1, a2, a3, l3⟩ := HB.out _ (Ext.trans (Below.refl _ _) hx3)
  obtain ⟨f0, f1, l4, b0, b1, b2, b3, l5⟩ := HB.out _ HX4.out
  have HZ := Lib.hid (fun W (hW : Ext W4 W) => HX4.out.trans hW)
  clear hx3 hx4
  have hform := hL.form
  have hzero := fun (e : lp = none) => (by rw [e] at hL; exact hL.zero : l = [])
  have HZE := Lib.hid hzero
  clear hzero
  by_cases hm0 : m = 0
  · obtain rfl : n = 0 := by omega
    subst hm0
    by_cases hev : l.length % 2 = 0
    · rw [if_pos ⟨rfl, hev⟩] at htk
      have ge : ((l.length : Int) % 2 == 0) = true := by rw [beq_iff_eq]; omega
      have ge2 : (l.length : Int) % 2 = 0 := by omega
      have gq : (l.length : Int) / 2 = ((l.length / 2 : Nat) : Int) := by omega
      have hSN : (l.take (l.length / 2)).length = l.length / 2 := sl_len (by omega)
      have hSI : InA A (l.take (l.length / 2)) := InA_take hin _
      obtain ⟨h, hh⟩ : ∃ h, l.length / 2 = h := ⟨_, rfl⟩
      rw [hh] at htk gq hSN hSI
      have hhl : h ≤ l.length := by omega
      have HSAT := Lib.hid (fun W (hW : Ext W4 W) => (hL.at_.mono (HX.out.trans hW)).take h)
      obtain ⟨S, hS⟩ : ∃ S, l.take h = S := ⟨_, rfl⟩
      rw [hS] at htk hSN hSI HSAT
      have HTK := Lib.hid htk
      have HSI := Lib.hid hSI
      have HSN := Lib.hid hSN
      have HSL0 := Lib.hid (show S.length ≤ 256 by omega)
      have HSA := Lib.hid (show SlAt W4 lp S lc from ⟨HSAT.out W4 (Ext.refl _), hform, by omega⟩)
      have hmd := HMD.out S HSI.out HSL0.out W4 HX.out lp lc HSA.out
      rw [HSN.out] at hmd
      have HM := Lib.hid hmd
      clear htk hsf hso ha1 ha2 ha3 ha4 hx hok hA hL hin hv hm hmn hmd hS hSN hSI hh hev hform
      go_enter Tryz.func31, Tryz.ntmps31
      go_wp2_with fail
      refine HM.out.mono ?_
      rintro e w5 ⟨⟨mp, mc, rfl, hom⟩, hy5⟩
      have hz5 : Ext w w5 := (HX.out).trans hy5
      obtain ⟨e0, e1, l2, a0, a1, a2, a3, l3⟩ := HB.out _ (HZ.out _ hy5)
      have hcm := hom.at_.text (P := Tryz.prog) (src := 58) (dst := 9) Tryz.underlying58 Tryz.underlying21 Tryz.underlying9 mc
      have hcl := (HLW.out _ hz5).at_.text (P := Tryz.prog) (src := 58) (dst := 9) Tryz.underlying58 Tryz.underlying21 Tryz.underlying9 lc
      obtain ⟨hy, hno⟩ := HOF.out _ HTK.out
      obtain ⟨_, hne⟩ := HRB.out _ HSI.out
      have HY := Lib.hid (hy _ rfl)
      have HN := Lib.hid (hno _ rfl)
      have HNE := Lib.hid hne
      have HSL := Lib.hid (SlAt.mono (HSA.out) hy5)
      clear hy hno hne hom
      obtain ⟨M, hM⟩ : ∃ M, putC A v ⟨6, f, o, 0⟩ S = M := ⟨_, rfl⟩
      rw [hM] at HY HN HNE hcm
      rw [hM]
      obtain ⟨M1, M2⟩ := M
      dsimp only at HY HN HNE hcm ⊢
      clear hM
      by_cases h0 : M2 = 0
      · by_cases h1 : M1 = l
        · subst h0
          have h1s := h1.symm
          subst h1s
          have gs : ((runesBytes l).toList != (runesBytes l).toList) = false := by simp
          have HR := Lib.hid (HY.out rfl rfl (fun h => by cases h))
          go_wp2_with fail
          go_ret2
          exact ⟨off_mk9 HR.out (by first | rfl | exact HSN.out | exact HSN.out.symm) HSL.out, hz5⟩
        · obtain ⟨gs, gs2⟩ := HNE.out h1
          have HR := Lib.hid (HN.out (.inr (.inl h1)))
          subst h0
          clear h1
          go_wp2_with fail
          go_ret2
          exact ⟨off_no9 HR.out, hz5⟩
      · have gE : (M2 != 0) = true := by rw [bne_iff_ne]; exact h0
        have HR := Lib.hid (HN.out (.inl h0))
        clear h0
        go_wp2_with fail
        go_ret2
        exact ⟨off_no9 HR.out, hz5⟩
    · rw [if_neg (fun c => hev c.2), if_pos (.inl rfl)] at htk
      have HR := Lib.hid (HON.out htk)
      have ge : ((l.length : Int) % 2 == 0) = false := by rw [beq_eq_false_iff_ne]; omega
      clear htk hsf hso ha1 ha2 ha3 ha4 hx hok hA hL hin hv hm hmn hform hev
      go_enter Tryz.func31, Tryz.ntmps31
      go_wp2_with fail
      go_ret2
      exact ⟨off_no9 HR.out, HX.out⟩
  · rw [if_neg (fun c => hm0 c.1)] at htk
    subst hmn
    have g0 : ((m : Int) == 0) = false := by rw [beq_eq_false_iff_ne]; omega
    by_cases h2 : l.length < 2 * m
    · rw [if_pos (.inr h2)] at htk
      have HR := Lib.hid (HON.out htk)
      have g2 : (l.length : Int) < 2 * (m : Int) := by omega
      clear htk hsf hso ha1 ha2 hx hok hA hL hin hv hm hform
      go_enter Tryz.func31, Tryz.ntmps31
      go_wp2_with fail
      go_ret2
      exact ⟨off_no9 HR.out, HX.out⟩
    · rw [if_neg (by omega)] at htk
      have g2 : ¬ ((l.length : Int) < 2 * (m : Int)) := by omega
      have hSN : (l.drop m).length = l.length - m := List.length_drop ..
      have hSI : InA A (l.drop m) := InA_drop hin _
      have hS2 : (l.drop m).take (l.length - m) = l.drop m := List.take_of_length_le (by rw [List.length_drop]; omega)
      rcases hform with ⟨b0, off, rfl⟩ | ⟨rfl, rfl⟩
      · have hcc : ¬ lc = m := by omega
        have HSA := Lib.hid ((hL.mono HX.out).sub m _ (l.drop m) hS2 (lc - m) (by omega))
        obtain ⟨S, hS⟩ : ∃ S, l.drop m = S := ⟨_, rfl⟩
        rw [hS] at htk hSN hSI HSA
        have HTK := Lib.hid htk
        have HSI := Lib.hid hSI
        have HSN := Lib.hid hSN
        have HSL0 := Lib.hid (show S.length ≤ 256 by omega)
        have hmd := HMD.out S HSI.out HSL0.out W4 HX.out (some ⟨b0, off + m, none⟩) (lc - m) HSA.out
        rw [HSN.out] at hmd
        have HM := Lib.hid hmd
        clear htk hsf hso ha1 ha2 hx hok hA hL hin hv hm hmd hS hSN hSI hS2
        go_enter Tryz.func31, Tryz.ntmps31
        go_wp2_with fail
        refine HM.out.mono ?_
        rintro e w5 ⟨⟨mp, mc, rfl, hom⟩, hy5⟩
        have hz5 : Ext w w5 := (HX.out).trans hy5
        obtain ⟨e0, e1, l2, a0, a1, a2, a3, l3⟩ := HB.out _ (HZ.out _ hy5)
        have hcm := hom.at_.text (P := Tryz.prog) (src := 58) (dst := 9) Tryz.underlying58 Tryz.underlying21 Tryz.underlying9 mc
        have hcl := (HLW.out _ hz5).at_.text (P := Tryz.prog) (src := 58) (dst := 9) Tryz.underlying58 Tryz.underlying21 Tryz.underlying9 lc
        obtain ⟨hy, hno⟩ := HOF.out _ HTK.out
        obtain ⟨_, hne⟩ := HRB.out _ HSI.out
        have HY := Lib.hid (hy _ rfl)
        have HN := Lib.hid (hno _ rfl)
        have HNE := Lib.hid hne
        have HSL := Lib.hid (SlAt.mono (HSA.out) hy5)
        clear hy hno hne hom
        obtain ⟨M, hM⟩ : ∃ M, putC A v ⟨6, f, o, (m : Int)⟩ S = M := ⟨_, rfl⟩
        rw [hM] at HY HN HNE hcm
        rw [hM]
        obtain ⟨M1, M2⟩ := M
        dsimp only at HY HN HNE hcm ⊢
        clear hM
        by_cases h0 : M2 = 0
        · by_cases h1 : M1 = l
          · subst h0
            have h1s := h1.symm
            subst h1s
            have gs : ((runesBytes l).toList != (runesBytes l).toList) = false := by simp
            have HR := Lib.hid (HY.out rfl rfl (fun h => by cases h))
            go_wp2_with fail
            go_ret2
            exact ⟨off_mk9 HR.out (by first | rfl | exact HSN.out | exact HSN.out.symm) HSL.out, hz5⟩
          · obtain ⟨gs, gs2⟩ := HNE.out h1
            have HR := Lib.hid (HN.out (.inr (.inl h1)))
            subst h0
            clear h1
            go_wp2_with fail
            go_ret2
            exact ⟨off_no9 HR.out, hz5⟩
        · have gE : (M2 != 0) = true := by rw [bne_iff_ne]; exact h0
          have HR := Lib.hid (HN.out (.inl h0))
          clear h0
          go_wp2_with fail
          go_ret2
          exact ⟨off_no9 HR.out, hz5⟩
      · exfalso
        have e := HZE.out rfl
        subst e
        simp at h2
        omega

theorem Taken17_any (fp ap lp : Option Addr) (fc ac lc : Nat) (A : Alpha) (v : Nat) (hv : v < 4294967296) (x : Aff) (hwf : x.wf) (hsm : x.small) (hok : A.Ok) (hx : affB A x = true) (l : List Int) (hin : InA A l) (hl : l.length ≤ 256) (w : World) (hA : AlphaAt w fp ap A) (hL : SlAt w lp l lc) :
    Calls Tryz.prog 31 #[.agg #[.slice fp A.feats.length fc, .slice ap A.lets.length ac], .int .u32 v, .slice lp l.length lc, .agg #[.int .u8 (x.kind : Int), .string x.form, .string x.other, .int .i64 x.pos]] w fun e w' => OffRes (offL A v x l) e w' ∧ Ext w w' := by
  have hk := aff_kind hx
  obtain ⟨k, f, o, n⟩ := x
  obtain ⟨_, _, _, q4, q5⟩ := hwf
  obtain ⟨s1, s2⟩ := hsm
  dsimp only at q4 q5 s1 s2 hk ⊢
  rcases hk with rfl | rfl | rfl | rfl | rfl | rfl
  · exact taken17_1 fp ap lp fc ac lc A v hv f o n ⟨q4, q5⟩ s1 s2 hok hx l hin hl w hA hL
  · exact taken17_2 fp ap lp fc ac lc A v hv f o n ⟨q4, q5⟩ s1 s2 hok hx l hin hl w hA hL
  · exact taken17_3 fp ap lp fc ac lc A v hv f o n ⟨q4, q5⟩ s1 s2 hok hx l hin hl w hA hL
  · exact taken17_4 fp ap lp fc ac lc A v hv f o n ⟨q4, q5⟩ s1 s2 hok hx l hin hl w hA hL
  · exact taken17_5 fp ap lp fc ac lc A v hv f o n ⟨q4, q5⟩ s1 s2 hok hx l hin hl w hA hL
  · exact taken17_6 fp ap lp fc ac lc A v hv f o n ⟨q4, q5⟩ s1 s2 hok hx l hin hl w hA hL
end Go.Proofs.YtkmfhcjdaglikaaGreatDoor

namespace Go.Proofs.YtkmfhcjdaglikaaGreatDoor
open Go.RowKit Go.Cg Go.Shelf Go.Maps

theorem put_17 {A : Alpha} {v : Nat} {s : ByteArray} {x : Aff} (h : oneE A v s x = 0) : putS A v s x = runesBytes (putC A v x (spell A s).1).1 ∧ putE A v s x = (putC A v x (spell A s).1).2 := by
  have e : putE A v s x = (putC A v x (spell A s).1).2 := by unfold putE; rw [if_neg (fun c => c h)]
  refine ⟨?_, e⟩
  unfold putS
  by_cases h2 : (putC A v x (spell A s).1).2 = 0
  · rw [if_pos (by rw [e]; exact h2)]
  · rw [if_neg (by rw [e]; exact h2), putC_err h2]; rfl
theorem put_17no {A : Alpha} {v : Nat} {s : ByteArray} {x : Aff} {E : Int} (h : oneE A v s x = E) (hE : E ≠ 0) : putS A v s x = ⟨#[]⟩ ∧ putE A v s x = E := by
  have e : putE A v s x = E := by unfold putE; rw [h, if_pos hE]
  exact ⟨if_neg (by rw [e]; exact hE), e⟩
theorem one_1 {A : Alpha} {v : Nat} {s : ByteArray} {x : Aff} (h : classE A v 0 ≠ 0) : oneE A v s x = classE A v 0 := if_pos h
theorem one_2 {A : Alpha} {v : Nat} {s : ByteArray} {x : Aff} (h : classE A v 0 = 0) (h2 : (spell A s).2 ≠ 0) : oneE A v s x = (spell A s).2 := by unfold oneE; rw [if_neg (fun c => c h), if_pos h2]
theorem one_3 {A : Alpha} {v : Nat} {s : ByteArray} {x : Aff} (h : classE A v 0 = 0) (h2 : (spell A s).2 = 0) (h3 : affB A x = false) : oneE A v s x = 170 := by unfold oneE; rw [if_neg (fun c => c h), if_neg (fun c => c h2), if_neg (by rw [h3]; decide)]

theorem stem_no9 {A : Alpha} {v : Nat} {P : Para} {n : Int} {w : ByteArray} (h : cellE A v P n w ≠ 0) : stemS A v P n w = [] := if_neg h
theorem off_q {O : Option (List Int)} {e : Ending} {w' : World} (h : OffRes O e w') : ∃ mp mn mc mb, e = .returned (.tuple #[.slice mp mn mc, .bool mb]) ∧ Hid ((mb = false → mp = none ∧ mn = 0 ∧ mc = 0 ∧ O = none) ∧ (mb = true → ∃ t, O = some t ∧ mn = t.length ∧ SlAt w' mp t mc)) := by
  cases O with
  | none => exact ⟨none, 0, 0, false, h, (fun _ => ⟨rfl, rfl, rfl, rfl⟩), fun h => by cases h⟩
  | some t =>
    obtain ⟨p, c, he, hs⟩ := h
    exact ⟨p, t.length, c, true, he, (fun h => by cases h), fun _ => ⟨t, rfl, rfl, hs⟩⟩

set_option maxRecDepth 100000 in
set_option maxHeartbeats 4000000 in
theorem Put17_any (fp ap : Option Addr) (fc ac : Nat) (A : Alpha) (v : Nat) (hv : v < 4294967296) (s : ByteArray) (hs : s.size ≤ 140737488351232) (x : Aff) (hwf : x.wf) (hsm : x.small) (w : World) (hA : AlphaAt w fp ap A) (hT : Tabs w) :
    Calls Tryz.prog 8 #[.agg #[.slice fp A.feats.length fc, .slice ap A.lets.length ac], .int .u32 v, .string s, .agg #[.int .u8 (x.kind : Int), .string x.form, .string x.other, .int .i64 x.pos]] w fun e w' => e = .returned (.tuple #[.string (putS A v s x), .int .i64 (putE A v s x)]) ∧ Ext w w' := by
  have hx0 : Ext w (w.alloc (.cells #[.slice fp A.feats.length fc, .slice ap A.lets.length ac] 25)) := (Ext.refl _).alloc _
  obtain ⟨W1, hW1⟩ : ∃ W1, w.alloc (.cells #[.slice fp A.feats.length fc, .slice ap A.lets.length ac] 25) = W1 := ⟨_, rfl⟩
  have hx1 : Ext W1 (W1.alloc (.cells #[.int .u8 (x.kind : Int), .string x.form, .string x.other, .int .i64 x.pos] 28)) := (Ext.refl _).alloc _
  obtain ⟨W2, hW2⟩ : ∃ W2, W1.alloc (.cells #[.int .u8 (x.kind : Int), .string x.form, .string x.other, .int .i64 x.pos] 28) = W2 := ⟨_, rfl⟩
  rw [hW1] at hx0
  rw [hW2] at hx1
  have z1 : W1.heap.size = w.heap.size + 1 := by rw [← hW1, size_alloc]
  have HB := Lib.hid (fun W (hW : Ext W2 W) => (by
    have h := hx1.trans hW
    rw [← hW1] at h
    have h2 := hW
    rw [← hW2] at h2
    have c0 := h2.cell0 0
    have c1 := h2.cell0 1
    have c2 := h2.cell0 2
    have c3 := h2.cell0 3
    have l0 := h2.lt0
    rw [z1] at c0 c1 c2 c3 l0
    exact ⟨h.cell0 0, h.cell0 1, h.lt0, c0, c1, c2, c3, l0⟩ : W.cell? ⟨w.heap.size, 0, none⟩ = some (.slice fp A.feats.length fc) ∧ W.cell? ⟨w.heap.size, 1, none⟩ = some (.slice ap A.lets.length ac) ∧ w.heap.size < W.heap.size ∧ W.cell? ⟨w.heap.size + 1, 0, none⟩ = some (.int .u8 (x.kind : Int)) ∧ W.cell? ⟨w.heap.size + 1, 1, none⟩ = some (.string x.form) ∧ W.cell? ⟨w.heap.size + 1, 2, none⟩ = some (.string x.other) ∧ W.cell? ⟨w.heap.size + 1, 3, none⟩ = some (.int .i64 x.pos) ∧ w.heap.size + 1 < W.heap.size))
  have hwW2 : Ext w W2 := hx0.trans hx1
  have HX := Lib.hid hwW2
  have hW2e : (w.alloc (.cells #[.slice fp A.feats.length fc, .slice ap A.lets.length ac] 25)).alloc (.cells #[.int .u8 (x.kind : Int), .string x.form, .string x.other, .int .i64 x.pos] 28) = W2 := by rw [hW1, hW2]
  obtain ⟨d0, d1, l0, c0, c1, c2, c3, l1⟩ := HB.out _ (Ext.refl _)
  clear hW1 hW2 hx0 hx1 z1
  have HVO := Lib.hid (vowels17_any fp ap fc ac A v hv W2 (hA.mono hwW2))
  have HLE := Lib.hid (fun W (hW : Ext w W) => Letters_any fp ap fc ac A s hs W (hA.mono hW) (hT.ext hW))
  by_cases h1 : classE A v 0 = 0
  · rw [h1] at HVO
    have hok := classE_ok1 h1
    have HAF := Lib.hid (fun W (hW : Ext w W) => Affix17_any fp ap fc ac A hok x hwf W (hA.mono hW) (hT.ext hW))
    by_cases h2 : (spell A s).2 = 0
    · rw [h2] at HLE
      obtain ⟨_, _, hin, h64⟩ := spell_ok h2
      cases h3 : affB A x
      · have hone := one_3 h1 h2 h3
        obtain ⟨p1, p2⟩ := put_17no hone (by decide)
        rw [p1, p2]
        clear p1 p2
        rw [h3] at HAF
        clear hone h1 h2 h3 hwW2 hin h64
        go_enter Tryz.func8, Tryz.ntmps8
        go_wp2_with fail
        refine HVO.out.mono ?_
        rintro e w1 ⟨rfl, hy1⟩
        clear hW2e d0 d1 l0 c0 c1 c2 c3 l1
        obtain ⟨d0, d1, l0, c0, c1, c2, c3, l1⟩ := HB.out _ hy1
        go_wp2_with fail
        refine (HLE.out _ (HX.out.trans hy1)).mono ?_
        rintro e w2 ⟨lrp, lrc, rfl, hol, hy2⟩
        have hz2 := hy1.trans hy2
        obtain ⟨d0, d1, l0, c0, c1, c2, c3, l1⟩ := HB.out _ hz2
        go_wp2_with fail
        refine (HAF.out _ (HX.out.trans hz2)).mono ?_
        rintro e w3 ⟨rfl, hy3⟩
        have hz3 := hz2.trans hy3
        obtain ⟨d0, d1, l0, c0, c1, c2, c3, l1⟩ := HB.out _ hz3
        go_wp2_with fail
        go_ret2
        exact ⟨rfl, HX.out.trans hz3⟩
      · rw [h3] at HAF
        have hone := oneE_mk h1 h2 h3
        obtain ⟨L, hL⟩ : ∃ L, (spell A s).1 = L := ⟨_, rfl⟩
        have HMD := Lib.hid (fun W (hW : Ext w W) lp lc (hl : SlAt W lp (spell A s).1 lc) => Made17_any fp ap lp fc ac lc A v hv x hwf hsm hok h3 (spell A s).1 hin (Nat.le_trans h64 (by decide)) W (hA.mono hW) hl)
        obtain ⟨p1, p2⟩ := put_17 hone
        rw [p1, p2]
        rw [hL] at HMD HLE ⊢
        obtain ⟨M, hM⟩ : ∃ M, putC A v x L = M := ⟨_, rfl⟩
        rw [hM] at HMD ⊢
        obtain ⟨M1, M2⟩ := M
        dsimp only at HMD ⊢
        clear hone h1 h2 h3 hwW2 hin h64 p1 p2 hL hM hok
        go_enter Tryz.func8, Tryz.ntmps8
        go_wp2_with fail
        refine HVO.out.mono ?_
        rintro e w1 ⟨rfl, hy1⟩
        clear hW2e d0 d1 l0 c0 c1 c2 c3 l1
        obtain ⟨d0, d1, l0, c0, c1, c2, c3, l1⟩ := HB.out _ hy1
        go_wp2_with fail
        refine (HLE.out _ (HX.out.trans hy1)).mono ?_
        rintro e w2 ⟨lrp, lrc, rfl, hol, hy2⟩
        have hz2 := hy1.trans hy2
        obtain ⟨d0, d1, l0, c0, c1, c2, c3, l1⟩ := HB.out _ hz2
        go_wp2_with fail
        refine (HAF.out _ (HX.out.trans hz2)).mono ?_
        rintro e w3 ⟨rfl, hy3⟩
        have hz3 := hz2.trans hy3
        obtain ⟨d0, d1, l0, c0, c1, c2, c3, l1⟩ := HB.out _ hz3
        have HLS := Lib.hid ((SlAt.own hol).mono hy3)
        clear hol
        go_wp2_with fail
        refine (HMD.out _ (HX.out.trans hz3) _ _ HLS.out).mono ?_
        rintro e w4 ⟨⟨mp, mc, rfl, hom⟩, hy4⟩
        have hcv := hom.at_.text (P := Tryz.prog) (src := 58) (dst := 9) Tryz.underlying58 Tryz.underlying21 Tryz.underlying9 mc
        clear hom
        go_wp2_with fail
        go_ret2
        exact ⟨rfl, HX.out.trans (hz3.trans hy4)⟩
    · have hone := one_2 (x := x) h1 h2
      obtain ⟨p1, p2⟩ := put_17no hone h2
      rw [p1, p2]
      clear p1 p2
      obtain ⟨E, hE⟩ : ∃ E, (spell A s).2 = E := ⟨_, rfl⟩
      rw [hE] at HLE h2 ⊢
      have gE : (E != 0) = true := by rw [bne_iff_ne]; exact h2
      clear hone hE h1 h2 hwW2
      go_enter Tryz.func8, Tryz.ntmps8
      go_wp2_with fail
      refine HVO.out.mono ?_
      rintro e w1 ⟨rfl, hy1⟩
      clear hW2e d0 d1 l0 c0 c1 c2 c3 l1
      obtain ⟨d0, d1, l0, c0, c1, c2, c3, l1⟩ := HB.out _ hy1
      go_wp2_with fail
      refine (HLE.out _ (HX.out.trans hy1)).mono ?_
      rintro e w2 ⟨lrp, lrc, rfl, hol, hy2⟩
      have hz2 := hy1.trans hy2
      obtain ⟨d0, d1, l0, c0, c1, c2, c3, l1⟩ := HB.out _ hz2
      go_wp2_with fail
      go_ret2
      exact ⟨rfl, HX.out.trans hz2⟩
  · have hone := one_1 (s := s) (x := x) h1
    obtain ⟨p1, p2⟩ := put_17no hone h1
    rw [p1, p2]
    clear p1 p2
    obtain ⟨E, hE⟩ : ∃ E, classE A v 0 = E := ⟨_, rfl⟩
    rw [hE] at HVO h1 ⊢
    have gE : (E != 0) = true := by rw [bne_iff_ne]; exact h1
    clear hone hE h1 hwW2
    go_enter Tryz.func8, Tryz.ntmps8
    go_wp2_with fail
    refine HVO.out.mono ?_
    rintro e w1 ⟨rfl, hy1⟩
    go_wp2_with fail
    go_ret2
    exact ⟨rfl, HX.out.trans hy1⟩

set_option maxRecDepth 100000 in
set_option maxHeartbeats 4000000 in
theorem Off17_any (fp ap : Option Addr) (fc ac : Nat) (A : Alpha) (v : Nat) (hv : v < 4294967296) (s : ByteArray) (hs : s.size ≤ 140737488351232) (x : Aff) (hwf : x.wf) (hsm : x.small) (w : World) (hA : AlphaAt w fp ap A) (hT : Tabs w) :
    Calls Tryz.prog 9 #[.agg #[.slice fp A.feats.length fc, .slice ap A.lets.length ac], .int .u32 v, .string s, .agg #[.int .u8 (x.kind : Int), .string x.form, .string x.other, .int .i64 x.pos]] w fun e w' => OptAt2 (offS A v s x) (oneE A v s x) e w' ∧ Ext w w' := by
  have hx0 : Ext w (w.alloc (.cells #[.slice fp A.feats.length fc, .slice ap A.lets.length ac] 25)) := (Ext.refl _).alloc _
  obtain ⟨W1, hW1⟩ : ∃ W1, w.alloc (.cells #[.slice fp A.feats.length fc, .slice ap A.lets.length ac] 25) = W1 := ⟨_, rfl⟩
  have hx1 : Ext W1 (W1.alloc (.cells #[.int .u8 (x.kind : Int), .string x.form, .string x.other, .int .i64 x.pos] 28)) := (Ext.refl _).alloc _
  obtain ⟨W2, hW2⟩ : ∃ W2, W1.alloc (.cells #[.int .u8 (x.kind : Int), .string x.form, .string x.other, .int .i64 x.pos] 28) = W2 := ⟨_, rfl⟩
  rw [hW1] at hx0
  rw [hW2] at hx1
  have z1 : W1.heap.size = w.heap.size + 1 := by rw [← hW1, size_alloc]
  have HB := Lib.hid (fun W (hW : Ext W2 W) => (by
    have h := hx1.trans hW
    rw [← hW1] at h
    have h2 := hW
    rw [← hW2] at h2
    have c0 := h2.cell0 0
    have c1 := h2.cell0 1
    have c2 := h2.cell0 2
    have c3 := h2.cell0 3
    have l0 := h2.lt0
    rw [z1] at c0 c1 c2 c3 l0
    exact ⟨h.cell0 0, h.cell0 1, h.lt0, c0, c1, c2, c3, l0⟩ : W.cell? ⟨w.heap.size, 0, none⟩ = some (.slice fp A.feats.length fc) ∧ W.cell? ⟨w.heap.size, 1, none⟩ = some (.slice ap A.lets.length ac) ∧ w.heap.size < W.heap.size ∧ W.cell? ⟨w.heap.size + 1, 0, none⟩ = some (.int .u8 (x.kind : Int)) ∧ W.cell? ⟨w.heap.size + 1, 1, none⟩ = some (.string x.form) ∧ W.cell? ⟨w.heap.size + 1, 2, none⟩ = some (.string x.other) ∧ W.cell? ⟨w.heap.size + 1, 3, none⟩ = some (.int .i64 x.pos) ∧ w.heap.size + 1 < W.heap.size))
  have hwW2 : Ext w W2 := hx0.trans hx1
  have HX := Lib.hid hwW2
  have hW2e : (w.alloc (.cells #[.slice fp A.feats.length fc, .slice ap A.lets.length ac] 25)).alloc (.cells #[.int .u8 (x.kind : Int), .string x.form, .string x.other, .int .i64 x.pos] 28) = W2 := by rw [hW1, hW2]
  obtain ⟨d0, d1, l0, c0, c1, c2, c3, l1⟩ := HB.out _ (Ext.refl _)
  clear hW1 hW2 hx0 hx1 z1
  have HVO := Lib.hid (vowels17_any fp ap fc ac A v hv W2 (hA.mono hwW2))
  have HLE := Lib.hid (fun W (hW : Ext w W) => Letters_any fp ap fc ac A s hs W (hA.mono hW) (hT.ext hW))
  by_cases h1 : classE A v 0 = 0
  · rw [h1] at HVO
    have hok := classE_ok1 h1
    have HAF := Lib.hid (fun W (hW : Ext w W) => Affix17_any fp ap fc ac A hok x hwf W (hA.mono hW) (hT.ext hW))
    by_cases h2 : (spell A s).2 = 0
    · rw [h2] at HLE
      obtain ⟨_, _, hin, h64⟩ := spell_ok h2
      cases h3 : affB A x
      · have hone := one_3 h1 h2 h3
        have HOS := Lib.hid (@offS_err A v s x (by rw [hone]; decide))
        rw [hone]
        rw [h3] at HAF
        clear hone h1 h2 h3 hwW2 hin h64
        go_enter Tryz.func9, Tryz.ntmps9
        go_wp2_with fail
        refine HVO.out.mono ?_
        rintro e w1 ⟨rfl, hy1⟩
        clear hW2e d0 d1 l0 c0 c1 c2 c3 l1
        obtain ⟨d0, d1, l0, c0, c1, c2, c3, l1⟩ := HB.out _ hy1
        go_wp2_with fail
        refine (HLE.out _ (HX.out.trans hy1)).mono ?_
        rintro e w2 ⟨lrp, lrc, rfl, hol, hy2⟩
        have hz2 := hy1.trans hy2
        obtain ⟨d0, d1, l0, c0, c1, c2, c3, l1⟩ := HB.out _ hz2
        go_wp2_with fail
        refine (HAF.out _ (HX.out.trans hz2)).mono ?_
        rintro e w3 ⟨rfl, hy3⟩
        have hz3 := hz2.trans hy3
        obtain ⟨d0, d1, l0, c0, c1, c2, c3, l1⟩ := HB.out _ hz3
        go_wp2_with fail
        go_ret2
        exact ⟨⟨none, 0, by rw [HOS.out]; rfl, fun t ht => by rw [HOS.out] at ht; cases ht⟩, HX.out.trans hz3⟩
      · rw [h3] at HAF
        have hone := oneE_mk h1 h2 h3
        obtain ⟨L, hL⟩ : ∃ L, (spell A s).1 = L := ⟨_, rfl⟩
        have HTK := Lib.hid (fun W (hW : Ext w W) lp lc (hl : SlAt W lp (spell A s).1 lc) => Taken17_any fp ap lp fc ac lc A v hv x hwf hsm hok h3 (spell A s).1 hin (Nat.le_trans h64 (by decide)) W (hA.mono hW) hl)
        have hos : offS A v s x = optS (offL A v x (spell A s).1) := if_pos hone
        rw [hos, hone]
        rw [hL] at HTK HLE ⊢
        obtain ⟨O, hO⟩ : ∃ O, offL A v x L = O := ⟨_, rfl⟩
        rw [hO] at HTK ⊢
        clear hone h1 h2 h3 hwW2 hin h64 hL hO hok hos
        go_enter Tryz.func9, Tryz.ntmps9
        go_wp2_with fail
        refine HVO.out.mono ?_
        rintro e w1 ⟨rfl, hy1⟩
        clear hW2e d0 d1 l0 c0 c1 c2 c3 l1
        obtain ⟨d0, d1, l0, c0, c1, c2, c3, l1⟩ := HB.out _ hy1
        go_wp2_with fail
        refine (HLE.out _ (HX.out.trans hy1)).mono ?_
        rintro e w2 ⟨lrp, lrc, rfl, hol, hy2⟩
        have hz2 := hy1.trans hy2
        obtain ⟨d0, d1, l0, c0, c1, c2, c3, l1⟩ := HB.out _ hz2
        go_wp2_with fail
        refine (HAF.out _ (HX.out.trans hz2)).mono ?_
        rintro e w3 ⟨rfl, hy3⟩
        have hz3 := hz2.trans hy3
        obtain ⟨d0, d1, l0, c0, c1, c2, c3, l1⟩ := HB.out _ hz3
        have HLS := Lib.hid ((SlAt.own hol).mono hy3)
        clear hol
        go_wp2_with fail
        refine (HTK.out _ (HX.out.trans hz3) _ _ HLS.out).mono ?_
        rintro e w4 ⟨hq4, hy4⟩
        cases O with
        | none =>
          obtain rfl : e = .returned (.tuple #[.slice none 0 0, .bool false]) := hq4
          go_wp2_with fail
          go_ret2
          exact ⟨⟨none, 0, rfl, fun t ht => by cases ht⟩, HX.out.trans (hz3.trans hy4)⟩
        | some S =>
          obtain ⟨mp, mc, rfl, hom⟩ := hq4
          have hcv := hom.at_.text (P := Tryz.prog) (src := 58) (dst := 9) Tryz.underlying58 Tryz.underlying21 Tryz.underlying9 mc
          clear hom
          go_wp2_with fail
          go_ret2
          refine ⟨⟨_, _, rfl, fun t ht => ?_⟩, (HX.out.trans (hz3.trans hy4)).alloc _⟩
          have ht2 : runesBytes S = t := by simpa [optS] using ht
          subst ht2
          exact ⟨w4.heap.size, rfl, by simp, by simp⟩
    · have hone := one_2 (x := x) h1 h2
      have HOS := Lib.hid (@offS_err A v s x (by rw [hone]; exact h2))
      rw [hone]
      obtain ⟨E, hE⟩ : ∃ E, (spell A s).2 = E := ⟨_, rfl⟩
      rw [hE] at HLE h2 ⊢
      have gE : (E != 0) = true := by rw [bne_iff_ne]; exact h2
      clear hone hE h1 h2 hwW2
      go_enter Tryz.func9, Tryz.ntmps9
      go_wp2_with fail
      refine HVO.out.mono ?_
      rintro e w1 ⟨rfl, hy1⟩
      clear hW2e d0 d1 l0 c0 c1 c2 c3 l1
      obtain ⟨d0, d1, l0, c0, c1, c2, c3, l1⟩ := HB.out _ hy1
      go_wp2_with fail
      refine (HLE.out _ (HX.out.trans hy1)).mono ?_
      rintro e w2 ⟨lrp, lrc, rfl, hol, hy2⟩
      have hz2 := hy1.trans hy2
      obtain ⟨d0, d1, l0, c0, c1, c2, c3, l1⟩ := HB.out _ hz2
      go_wp2_with fail
      go_ret2
      exact ⟨⟨none, 0, by rw [HOS.out]; rfl, fun t ht => by rw [HOS.out] at ht; cases ht⟩, HX.out.trans hz2⟩
  · have hone := one_1 (s := s) (x := x) h1
    have HOS := Lib.hid (@offS_err A v s x (by rw [hone]; exact h1))
    rw [hone]
    obtain ⟨E, hE⟩ : ∃ E, classE A v 0 = E := ⟨_, rfl⟩
    rw [hE] at HVO h1 ⊢
    have gE : (E != 0) = true := by rw [bne_iff_ne]; exact h1
    clear hone hE h1 hwW2
    go_enter Tryz.func9, Tryz.ntmps9
    go_wp2_with fail
    refine HVO.out.mono ?_
    rintro e w1 ⟨rfl, hy1⟩
    go_wp2_with fail
    go_ret2
    exact ⟨⟨none, 0, by rw [HOS.out]; rfl, fun t ht => by rw [HOS.out] at ht; cases ht⟩, HX.out.trans hy1⟩

def FormRes (R : List Int × Int) (e : Ending) (w' : World) : Prop := ∃ rp rc, e = .returned (.tuple #[.slice rp R.1.length rc, .int .i64 R.2]) ∧ SlAt w' rp R.1 rc

set_option maxRecDepth 100000 in
set_option maxHeartbeats 4000000 in
theorem Formed17_any (fp ap lp xp : Option Addr) (fc ac lc xc : Nat) (A : Alpha) (v : Nat) (hv : v < 4294967296) (tg : Nat) (xs : List Aff) (hsm : ∀ i, i < xs.length → (ax xs i).small) (hok : A.Ok) (hxs : ∀ i, i < xs.length → affB A (ax xs i) = true) (l : List Int) (hin : InA A l) (hl : l.length ≤ 256) (w : World) (hA : AlphaAt w fp ap A) (hX : AffsAt w xp xs) (hL : SlAt w lp l lc) :
    Calls Tryz.prog 34 #[.agg #[.slice fp A.feats.length fc, .slice ap A.lets.length ac], .int .u32 v, .agg #[.int .u64 (tg : Int), .slice xp xs.length xc], .slice lp l.length lc] w fun e w' => FormRes (putUp A v xs l) e w' ∧ Ext w w' := by
  have hx0 : Ext w (w.alloc (.cells #[.slice fp A.feats.length fc, .slice ap A.lets.length ac] 25)) := (Ext.refl _).alloc _
  obtain ⟨W1, hW1⟩ : ∃ W1, w.alloc (.cells #[.slice fp A.feats.length fc, .slice ap A.lets.length ac] 25) = W1 := ⟨_, rfl⟩
  have hx1 : Ext W1 (W1.alloc (.cells #[.int .u64 (tg : Int), .slice xp xs.length xc] 54)) := (Ext.refl _).alloc _
  obtain ⟨W2, hW2⟩ : ∃ W2, W1.alloc (.cells #[.int .u64 (tg : Int), .slice xp xs.length xc] 54) = W2 := ⟨_, rfl⟩
  rw [hW1] at hx0
  rw [hW2] at hx1
  have z1 : W1.heap.size = w.heap.size + 1 := by rw [← hW1, size_alloc]
  have HB := Lib.hid (fun W (hW : Ext W2 W) => (by
    have h := hx1.trans hW
    rw [← hW1] at h
    have h2 := hW
    rw [← hW2] at h2
    have c0 := h2.cell0 0
    have c1 := h2.cell0 1
    have l0 := h2.lt0
    rw [z1] at c0 c1 l0
    exact ⟨h.cell0 0, h.cell0 1, h.lt0, c0, c1, l0⟩ : W.cell? ⟨w.heap.size, 0, none⟩ = some (.slice fp A.feats.length fc) ∧ W.cell? ⟨w.heap.size, 1, none⟩ = some (.slice ap A.lets.length ac) ∧ w.heap.size < W.heap.size ∧ W.cell? ⟨w.heap.size + 1, 0, none⟩ = some (.int .u64 (tg : Int)) ∧ W.cell? ⟨w.heap.size + 1, 1, none⟩ = some (.slice xp xs.length xc) ∧ w.heap.size + 1 < W.heap.size))
  have hwW2 : Ext w W2 := hx0.trans hx1
  have HX := Lib.hid hwW2
  have hW2e : (w.alloc (.cells #[.slice fp A.feats.length fc, .slice ap A.lets.length ac] 25)).alloc (.cells #[.int .u64 (tg : Int), .slice xp xs.length xc] 54) = W2 := by rw [hW1, hW2]
  obtain ⟨d0, d1, l0, c0, c1, l1⟩ := HB.out _ (Ext.refl _)
  clear hW1 hW2 hx0 hx1 z1
  have HMD := Lib.hid (fun i (hi : i < xs.length) c (hc : InA A c) (hc2 : c.length ≤ 256) W (hW : Ext w W) cp cc (hl : SlAt W cp c cc) => Made17_any fp ap cp fc ac cc A v hv (ax xs i) (hX.wf i hi) (hsm i hi) hok (hxs i hi) c hc hc2 W (hA.mono hW) hl)
  have HIN := Lib.hid (fun i (hi : i < xs.length) c (hc : InA A c) => (putC_in (v := v) (hxs i hi) hc))
  have HXC := Lib.hid (fun W (hW : Ext w W) i (hi : i < xs.length) => (hX.mono hW).cells hi)
  have hxb := hX.big
  have HL0 := Lib.hid (hL.mono hwW2)
  have HI0 := Lib.hid hin
  obtain ⟨R, hR⟩ : ∃ R, putUp A v xs l = R := ⟨_, rfl⟩
  have HR := Lib.hid hR
  rw [hR]
  clear hR hwW2 hA hL hX hsm hok hxs hin
  go_enter Tryz.func34, Tryz.ntmps34
  go_wp2_with fail
  go_loopw [3, 10] (fun s i wr => ∃ (k : Nat) (c : List Int) (cp : Option Addr) (cc : Nat), k ≤ xs.length ∧ i = .int .i64 k ∧ s = .slice cp c.length cc ∧ c.length ≤ 256 ∧ Ext W2 wr ∧ Hid (InA A c) ∧ Hid (SlAt wr cp c cc) ∧ Hid (putUp A v (xs.drop k) c = R)) (fun _ i _ => xs.length - (intOf i).toNat)
  case atStart => exact ⟨0, l, lp, lc, Nat.zero_le _, rfl, rfl, hl, Ext.refl _, HI0, HL0, Lib.hid (by rw [List.drop_zero]; exact HR.out)⟩
  case round =>
    clear hW2e d0 d1 l0 c0 c1 l1
    obtain ⟨k, c, cp, cc, hk, rfl, rfl, hcl, hx, HCI, HCS, HCR⟩ := hrel
    obtain ⟨d0, d1, l0, c0, c1, l1⟩ := HB.out _ hx
    by_cases hlt : k < xs.length
    · have hwr := HX.out.trans hx
      obtain ⟨b2, off2, e2, hbw2, a0, a1, a2, a3⟩ := HXC.out _ hwr k hlt
      have HMK := Lib.hid (fun W (hW : Ext wr W) => HMD.out k hlt c HCI.out hcl W (hwr.trans hW) cp cc (HCS.out.mono hW))
      have HMI := Lib.hid (HIN.out k hlt c HCI.out)
      have hml := putC_len A v (ax xs k) c
      have HPE := Lib.hid (fun h => (putUp_err (A := A) (v := v) (l := c) hlt h).symm.trans HCR.out)
      have HPO := Lib.hid (fun h => (putUp_ok (A := A) (v := v) (l := c) hlt h).symm.trans HCR.out)
      obtain ⟨x, hx9⟩ : ∃ x, ax xs k = x := ⟨_, rfl⟩
      rw [hx9] at a0 a1 a2 a3 HMK HMI hml HPE HPO
      obtain ⟨M, hM⟩ : ∃ M, putC A v x c = M := ⟨_, rfl⟩
      rw [hM] at HMK HMI hml HPE HPO
      obtain ⟨M1, M2⟩ := M
      dsimp only at HMK HMI hml HPE HPO
      subst e2
      clear hx9 hM
      have HS4 := Lib.hid (fun W (hW : Ext wr W) => (⟨hW, (HB.out _ (hx.trans hW)).1, (HB.out _ (hx.trans hW)).2.1, (HB.out _ (hx.trans hW)).2.2.2.2.1, (hW.facts.1 _ _ hbw2).trans a0, (hW.facts.1 _ _ hbw2).trans a1, (hW.facts.1 _ _ hbw2).trans a2, (hW.facts.1 _ _ hbw2).trans a3⟩ : Ext wr W ∧ W.cell? ⟨w.heap.size, 0, none⟩ = some (.slice fp A.feats.length fc) ∧ W.cell? ⟨w.heap.size, 1, none⟩ = some (.slice ap A.lets.length ac) ∧ W.cell? ⟨w.heap.size + 1, 1, none⟩ = some (.slice (some ⟨b2, off2, none⟩) xs.length xc) ∧ W.cell? ⟨b2, off2 + k * 4, none⟩ = some (.int .u8 (x.kind : Int)) ∧ W.cell? ⟨b2, off2 + k * 4 + 1, none⟩ = some (.string x.form) ∧ W.cell? ⟨b2, off2 + k * 4 + 2, none⟩ = some (.string x.other) ∧ W.cell? ⟨b2, off2 + k * 4 + 3, none⟩ = some (.int .i64 x.pos)))
      go_wp2_with fail
      go_region_held3 (fun W => Ext wr W ∧ W.cell? ⟨w.heap.size, 0, none⟩ = some (.slice fp A.feats.length fc) ∧ W.cell? ⟨w.heap.size, 1, none⟩ = some (.slice ap A.lets.length ac) ∧ W.cell? ⟨w.heap.size + 1, 1, none⟩ = some (.slice (some ⟨b2, off2, none⟩) xs.length xc) ∧ W.cell? ⟨b2, off2 + k * 4, none⟩ = some (.int .u8 (x.kind : Int)) ∧ W.cell? ⟨b2, off2 + k * 4 + 1, none⟩ = some (.string x.form) ∧ W.cell? ⟨b2, off2 + k * 4 + 2, none⟩ = some (.string x.other) ∧ W.cell? ⟨b2, off2 + k * 4 + 3, none⟩ = some (.int .i64 x.pos))
        (exact HS4.out _ (by first | assumption | exact (Ext.refl _).drew | exact Ext.refl _))
        ((go_at_call 30; refine (HMK.out _ (Ext.refl _).drew).mono ?_; rintro e w5 ⟨⟨mp, mc, rfl, hom⟩, hq5⟩; have hE5 : Ext wr w5 := ((Ext.refl _).drew).trans hq5))
      have HOM := Lib.hid (SlAt.own hom)
      clear hom hq5
      by_cases h0 : M2 = 0
      · have HR2 := Lib.hid (HPO.out h0)
        subst h0
        go_wp2_with fail
        exact ⟨⟨k + 1, M1, mp, mc, by omega, by go_num, rfl, hml, hx.trans hE5, HMI, HOM, HR2⟩, by simp [intOf]; omega⟩
      · have gE : (M2 != 0) = true := by rw [bne_iff_ne]; exact h0
        have HR2 := Lib.hid (HPE.out h0)
        clear h0
        go_wp2_with fail
        go_ret2
        refine ⟨?_, hwr.trans hE5⟩
        rw [← HR2.out]
        exact ⟨none, 0, rfl, SlAt.nil0 [] rfl⟩
    · have HR2 := Lib.hid ((putUp_end (A := A) (v := v) (l := c) hlt).symm.trans HCR.out)
      go_wp2_with fail
      go_ret2
      refine ⟨?_, HX.out.trans hx⟩
      rw [← HR2.out]
      exact ⟨cp, cc, rfl, HCS.out⟩

set_option maxRecDepth 100000 in
set_option maxHeartbeats 4000000 in
theorem Form17_any (fp ap pp : Option Addr) (fc ac pc : Nat) (A : Alpha) (v : Nat) (hv : v < 4294967296) (P : Para) (g : Nat → Option Addr × Nat) (n : Int) (hnl : -9223372036854775808 ≤ n) (hnh : n ≤ 9223372036854775807) (s : ByteArray) (hs : s.size ≤ 140737488351232) (hn9 : P.name.size ≤ 140737488351232) (hsm : ∀ k, k < P.cells.length → ∀ j, j < (cx P.cells k).affs.length → (ax (cx P.cells k).affs j).small) (w : World) (hA : AlphaAt w fp ap A) (hT : Tabs w) (hP : CellsAt w pp P.cells g) :
    Calls Tryz.prog 16 #[.agg #[.slice fp A.feats.length fc, .slice ap A.lets.length ac], .int .u32 v, .agg #[.string P.name, .slice pp P.cells.length pc], .int .i64 n, .string s] w fun e w' => e = .returned (.tuple #[.string (formS A v P n s), .int .i64 (formE A v P n s)]) ∧ Ext w w' := by
  have hx0 : Ext w (w.alloc (.cells #[.slice fp A.feats.length fc, .slice ap A.lets.length ac] 25)) := (Ext.refl _).alloc _
  obtain ⟨W1, hW1⟩ : ∃ W1, w.alloc (.cells #[.slice fp A.feats.length fc, .slice ap A.lets.length ac] 25) = W1 := ⟨_, rfl⟩
  have hx1 : Ext W1 (W1.alloc (.cells #[.string P.name, .slice pp P.cells.length pc] 39)) := (Ext.refl _).alloc _
  obtain ⟨W2, hW2⟩ : ∃ W2, W1.alloc (.cells #[.string P.name, .slice pp P.cells.length pc] 39) = W2 := ⟨_, rfl⟩
  rw [hW1] at hx0
  rw [hW2] at hx1
  have z1 : W1.heap.size = w.heap.size + 1 := by rw [← hW1, size_alloc]
  have HB := Lib.hid (fun W (hW : Ext W2 W) => (by
    have h := hx1.trans hW
    rw [← hW1] at h
    have h2 := hW
    rw [← hW2] at h2
    have c0 := h2.cell0 0
    have c1 := h2.cell0 1
    have l0 := h2.lt0
    rw [z1] at c0 c1 l0
    exact ⟨h.cell0 0, h.cell0 1, h.lt0, c0, c1, l0⟩ : W.cell? ⟨w.heap.size, 0, none⟩ = some (.slice fp A.feats.length fc) ∧ W.cell? ⟨w.heap.size, 1, none⟩ = some (.slice ap A.lets.length ac) ∧ w.heap.size < W.heap.size ∧ W.cell? ⟨w.heap.size + 1, 0, none⟩ = some (.string P.name) ∧ W.cell? ⟨w.heap.size + 1, 1, none⟩ = some (.slice pp P.cells.length pc) ∧ w.heap.size + 1 < W.heap.size))
  have hwW2 : Ext w W2 := hx0.trans hx1
  have HX := Lib.hid hwW2
  have hW2e : (w.alloc (.cells #[.slice fp A.feats.length fc, .slice ap A.lets.length ac] 25)).alloc (.cells #[.string P.name, .slice pp P.cells.length pc] 39) = W2 := by rw [hW1, hW2]
  obtain ⟨d0, d1, l0, c0, c1, l1⟩ := HB.out _ (Ext.refl _)
  clear hW1 hW2 hx0 hx1 z1
  have hcel := cell17_any fp ap pp fc ac pc A v hv P g n hnl hnh s hs hn9 W2 (hA.mono hwW2) (hT.ext hwW2) (hP.mono hwW2)
  have HWL := Lib.hid hwW2.le
  by_cases h0 : cellE A v P n s = 0
  · obtain ⟨k1, k2⟩ := form_one h0
    obtain ⟨k3, k4, k5, k6, k7⟩ := cellE_ok h0
    have hok := classE_ok1 k3
    obtain ⟨_, _, hin, h64⟩ := spell_ok k7
    obtain ⟨m, rfl⟩ : ∃ m : Nat, n = (m : Int) := ⟨n.toNat, by omega⟩
    have hm : m < P.cells.length := by omega
    have h8 := ((parB_affs (parE_ok k4).2).2.2.2 m hm)
    rw [Int.toNat_natCast] at k1 k2
    have HFD := Lib.hid (fun W (hW : Ext w W) lp lc (hl : SlAt W lp (spell A s).1 lc) => Formed17_any fp ap lp (g m).1 fc ac lc (g m).2 A v hv (cx P.cells m).tags (cx P.cells m).affs (fun i hi => hsm m hm i hi) hok (fun i hi => h8.2 i hi) (spell A s).1 hin (Nat.le_trans h64 (by decide)) W (hA.mono hW) ((hP.affs m hm).mono hW) hl)
    have HCC := Lib.hid (fun W (hW : Ext w W) => (hP.mono hW).cells hm)
    have HON := Lib.hid (hcel.mono fun e w' h => (⟨h.1.1 h0, h.2⟩ : PutRes _ ((spell A s).1, 0) e w' ∧ Ext _ w'))
    rw [← k1, ← k2]
    obtain ⟨L, hL⟩ : ∃ L, (spell A s).1 = L := ⟨_, rfl⟩
    rw [hL] at HFD HON ⊢
    obtain ⟨xs, hxs⟩ : ∃ xs, (cx P.cells m).affs = xs := ⟨_, rfl⟩
    obtain ⟨tg, htg⟩ : ∃ tg, (cx P.cells m).tags = tg := ⟨_, rfl⟩
    obtain ⟨gm, hgm⟩ : ∃ gm, g m = gm := ⟨_, rfl⟩
    obtain ⟨xp, xc⟩ := gm
    rw [hxs, htg] at HFD HCC
    rw [hxs]
    rw [hgm] at HFD HCC
    dsimp only at HFD HCC
    obtain ⟨M, hM⟩ : ∃ M, putUp A v xs L = M := ⟨_, rfl⟩
    rw [hM] at HFD ⊢
    obtain ⟨M1, M2⟩ := M
    dsimp only at HFD ⊢
    have hpb := hP.big
    clear hcel h0 k1 k2 k3 k4 k5 k6 k7 hin h64 h8 hok hL hxs htg hgm hM hwW2 hA hT hP hsm
    go_enter Tryz.func16, Tryz.ntmps16
    go_wp2_with fail
    refine HON.out.mono ?_
    rintro e w1 ⟨⟨rp, rc, rfl, hol⟩, hy1⟩
    clear hW2e d0 d1 l0 c0 c1 l1
    obtain ⟨d0, d1, l0, c0, c1, l1⟩ := HB.out _ hy1
    have hw1 := HX.out.trans hy1
    obtain ⟨b, off, rfl, lb, k0, k1⟩ := HCC.out _ hw1
    have HLS := Lib.hid (SlAt.own hol)
    have HFK := Lib.hid (fun W (hW : Ext w1 W) => HFD.out W (hw1.trans hW) rp rc (HLS.out.mono hW))
    clear hol
    have HS4 := Lib.hid (fun W (hW : Ext w1 W) => (⟨hW, (HB.out _ (hy1.trans hW)).1, (HB.out _ (hy1.trans hW)).2.1, (HB.out _ (hy1.trans hW)).2.2.2.2.1, (hW.facts.1 _ _ lb).trans k0, (hW.facts.1 _ _ lb).trans k1⟩ : Ext w1 W ∧ W.cell? ⟨w.heap.size, 0, none⟩ = some (.slice fp A.feats.length fc) ∧ W.cell? ⟨w.heap.size, 1, none⟩ = some (.slice ap A.lets.length ac) ∧ W.cell? ⟨w.heap.size + 1, 1, none⟩ = some (.slice (some ⟨b, off, none⟩) P.cells.length pc) ∧ W.cell? ⟨b, off + m * 2, none⟩ = some (.int .u64 (tg : Int)) ∧ W.cell? ⟨b, off + m * 2 + 1, none⟩ = some (.slice xp xs.length xc)))
    go_wp2_with fail
    go_region_held3 (fun W => Ext w1 W ∧ W.cell? ⟨w.heap.size, 0, none⟩ = some (.slice fp A.feats.length fc) ∧ W.cell? ⟨w.heap.size, 1, none⟩ = some (.slice ap A.lets.length ac) ∧ W.cell? ⟨w.heap.size + 1, 1, none⟩ = some (.slice (some ⟨b, off, none⟩) P.cells.length pc) ∧ W.cell? ⟨b, off + m * 2, none⟩ = some (.int .u64 (tg : Int)) ∧ W.cell? ⟨b, off + m * 2 + 1, none⟩ = some (.slice xp xs.length xc))
      (exact HS4.out _ (by first | assumption | exact (Ext.refl _).drew | exact Ext.refl _))
      ((go_at_call 34; refine (HFK.out _ (Ext.refl _).drew).mono ?_; rintro e w5 ⟨⟨mp, mc, rfl, hom⟩, hq5⟩; have hE5 : Ext w1 w5 := ((Ext.refl _).drew).trans hq5))
    have hcv := hom.at_.text (P := Tryz.prog) (src := 58) (dst := 9) Tryz.underlying58 Tryz.underlying21 Tryz.underlying9 mc
    clear hom hq5
    go_wp2_with fail
    go_ret2
    exact ⟨rfl, hw1.trans hE5⟩
  · obtain ⟨k1, k2⟩ := form_no h0
    rw [k1, k2]
    have HON := Lib.hid (hcel.mono fun e w' h => (⟨h.1.2 h0, h.2⟩ : (∃ p n9 c, e = .returned (.tuple #[.slice p n9 c, .int .i64 (cellE A v P n s)])) ∧ Ext _ w'))
    have gE : (cellE A v P n s != 0) = true := by rw [bne_iff_ne]; exact h0
    obtain ⟨E, hE⟩ : ∃ E, cellE A v P n s = E := ⟨_, rfl⟩
    rw [hE] at HON gE ⊢
    clear hcel h0 k1 k2 hE hwW2
    go_enter Tryz.func16, Tryz.ntmps16
    go_wp2_with fail
    refine HON.out.mono ?_
    rintro e w1 ⟨⟨p, n9, c, rfl⟩, hy1⟩
    go_wp2_with fail
    go_ret2
    exact ⟨rfl, HX.out.trans hy1⟩

set_option maxRecDepth 100000 in
set_option maxHeartbeats 4000000 in
theorem Stems17_any (fp ap pp : Option Addr) (fc ac pc : Nat) (A : Alpha) (v : Nat) (hv : v < 4294967296) (P : Para) (g : Nat → Option Addr × Nat) (n : Int) (hnl : -9223372036854775808 ≤ n) (hnh : n ≤ 9223372036854775807) (s : ByteArray) (hs : s.size ≤ 140737488351232) (hn9 : P.name.size ≤ 140737488351232) (hsm : ∀ k, k < P.cells.length → ∀ j, j < (cx P.cells k).affs.length → (ax (cx P.cells k).affs j).small) (w : World) (hA : AlphaAt w fp ap A) (hT : Tabs w) (hP : CellsAt w pp P.cells g) :
    Calls Tryz.prog 17 #[.agg #[.slice fp A.feats.length fc, .slice ap A.lets.length ac], .int .u32 v, .agg #[.string P.name, .slice pp P.cells.length pc], .int .i64 n, .string s] w fun e w' => OptAt2 (stemS A v P n s) (cellE A v P n s) e w' ∧ Ext w w' := by
  have hx0 : Ext w (w.alloc (.cells #[.slice fp A.feats.length fc, .slice ap A.lets.length ac] 25)) := (Ext.refl _).alloc _
  obtain ⟨W1, hW1⟩ : ∃ W1, w.alloc (.cells #[.slice fp A.feats.length fc, .slice ap A.lets.length ac] 25) = W1 := ⟨_, rfl⟩
  have hx1 : Ext W1 (W1.alloc (.cells #[.string P.name, .slice pp P.cells.length pc] 39)) := (Ext.refl _).alloc _
  obtain ⟨W2, hW2⟩ : ∃ W2, W1.alloc (.cells #[.string P.name, .slice pp P.cells.length pc] 39) = W2 := ⟨_, rfl⟩
  rw [hW1] at hx0
  rw [hW2] at hx1
  have z1 : W1.heap.size = w.heap.size + 1 := by rw [← hW1, size_alloc]
  have HB := Lib.hid (fun W (hW : Ext W2 W) => (by
    have h := hx1.trans hW
    rw [← hW1] at h
    have h2 := hW
    rw [← hW2] at h2
    have c0 := h2.cell0 0
    have c1 := h2.cell0 1
    have l0 := h2.lt0
    rw [z1] at c0 c1 l0
    exact ⟨h.cell0 0, h.cell0 1, h.lt0, c0, c1, l0⟩ : W.cell? ⟨w.heap.size, 0, none⟩ = some (.slice fp A.feats.length fc) ∧ W.cell? ⟨w.heap.size, 1, none⟩ = some (.slice ap A.lets.length ac) ∧ w.heap.size < W.heap.size ∧ W.cell? ⟨w.heap.size + 1, 0, none⟩ = some (.string P.name) ∧ W.cell? ⟨w.heap.size + 1, 1, none⟩ = some (.slice pp P.cells.length pc) ∧ w.heap.size + 1 < W.heap.size))
  have hwW2 : Ext w W2 := hx0.trans hx1
  have HX := Lib.hid hwW2
  have hW2e : (w.alloc (.cells #[.slice fp A.feats.length fc, .slice ap A.lets.length ac] 25)).alloc (.cells #[.string P.name, .slice pp P.cells.length pc] 39) = W2 := by rw [hW1, hW2]
  obtain ⟨d0, d1, l0, c0, c1, l1⟩ := HB.out _ (Ext.refl _)
  clear hW1 hW2 hx0 hx1 z1
  have hcel := cell17_any fp ap pp fc ac pc A v hv P g n hnl hnh s hs hn9 W2 (hA.mono hwW2) (hT.ext hwW2) (hP.mono hwW2)
  by_cases h0 : cellE A v P n s = 0
  · obtain ⟨k3, k4, k5, k6, k7⟩ := cellE_ok h0
    have hok := classE_ok1 k3
    obtain ⟨_, _, hin, h64⟩ := spell_ok k7
    obtain ⟨m, rfl⟩ : ∃ m : Nat, n = (m : Int) := ⟨n.toNat, by omega⟩
    have hm : m < P.cells.length := by omega
    have h8 := ((parB_affs (parE_ok k4).2).2.2.2 m hm)
    have hst : stemS A v P (m : Int) s = optS (offDn A v (cx P.cells m).affs (cx P.cells m).affs.length (spell A s).1) := by unfold stemS; rw [if_pos h0, Int.toNat_natCast]
    rw [hst, h0]
    have HTK := Lib.hid (fun k (hk : k < (cx P.cells m).affs.length) c (hc : InA A c) (hcl : c.length ≤ 256) W (hW : Ext w W) lp lc (hl : SlAt W lp c lc) => Taken17_any fp ap lp fc ac lc A v hv (ax (cx P.cells m).affs k) ((hP.affs m hm).wf k hk) (hsm m hm k hk) hok (h8.2 k hk) c hc hcl W (hA.mono hW) hl)
    have HCC := Lib.hid (fun W (hW : Ext w W) => (hP.mono hW).cells hm)
    have HXC := Lib.hid (fun W (hW : Ext w W) i (hi : i < (cx P.cells m).affs.length) => ((hP.affs m hm).mono hW).cells hi)
    have HON := Lib.hid (hcel.mono fun e w' h => (⟨h.1.1 h0, h.2⟩ : PutRes _ ((spell A s).1, 0) e w' ∧ Ext _ w'))
    have hxb := (hP.affs m hm).big
    have HI0 := Lib.hid hin
    have hl0 : (spell A s).1.length ≤ 256 := Nat.le_trans h64 (by decide)
    obtain ⟨L, hL⟩ : ∃ L, (spell A s).1 = L := ⟨_, rfl⟩
    rw [hL] at HON HI0 hl0 ⊢
    obtain ⟨xs, hxs⟩ : ∃ xs, (cx P.cells m).affs = xs := ⟨_, rfl⟩
    obtain ⟨tg, htg⟩ : ∃ tg, (cx P.cells m).tags = tg := ⟨_, rfl⟩
    obtain ⟨gm, hgm⟩ : ∃ gm, g m = gm := ⟨_, rfl⟩
    obtain ⟨xp, xc⟩ := gm
    rw [hxs] at HTK HXC hxb
    rw [hxs, htg] at HCC
    rw [hxs]
    rw [hgm] at HXC HCC
    dsimp only at HXC HCC
    obtain ⟨R, hR⟩ : ∃ R, offDn A v xs xs.length L = R := ⟨_, rfl⟩
    have HR := Lib.hid hR
    rw [hR]
    have hpb := hP.big
    clear hcel h0 k3 k4 k5 k6 k7 hin h64 h8 hok hL hxs htg hgm hR hwW2 hA hT hP hsm hst
    go_enter Tryz.func17, Tryz.ntmps17
    go_wp2_with fail
    refine HON.out.mono ?_
    rintro e w1 ⟨⟨rp, rc, rfl, hol⟩, hy1⟩
    clear hW2e d0 d1 l0 c0 c1 l1
    obtain ⟨d0, d1, l0, c0, c1, l1⟩ := HB.out _ hy1
    have hw1 := HX.out.trans hy1
    obtain ⟨b, off, rfl, lb, k0, k1⟩ := HCC.out _ hw1
    have HLS := Lib.hid (SlAt.own hol)
    clear hol
    have hya : Ext w1 (w1.alloc (.cells #[.int .u64 (tg : Int), .slice xp xs.length xc] 54)) := (Ext.refl _).alloc _
    have HCB := Lib.hid (fun W (hW : Ext (w1.alloc (.cells #[.int .u64 (tg : Int), .slice xp xs.length xc] 54)) W) => (⟨hW.cell0 0, hW.cell0 1, hW.lt0⟩ : W.cell? ⟨w1.heap.size, 0, none⟩ = some (.int .u64 (tg : Int)) ∧ W.cell? ⟨w1.heap.size, 1, none⟩ = some (.slice xp xs.length xc) ∧ w1.heap.size < W.heap.size))
    obtain ⟨m0, m1, m2⟩ := HCB.out _ (Ext.refl _)
    have HLS2 := Lib.hid (HLS.out.mono hya)
    go_wp2_with fail
    go_loopw [12, 15] (fun l i wr => ∃ (r : Nat) (z : Int) (c : List Int) (cp : Option Addr) (cc : Nat), r ≤ xs.length ∧ i = .int .i64 z ∧ z = (r : Int) - 1 ∧ l = .slice cp c.length cc ∧ c.length ≤ 256 ∧ Ext (w1.alloc (.cells #[.int .u64 (tg : Int), .slice xp xs.length xc] 54)) wr ∧ Hid (InA A c) ∧ Hid (SlAt wr cp c cc) ∧ Hid (offDn A v xs r c = R)) (fun _ i _ => (intOf i + 1).toNat)
    case atStart => exact ⟨xs.length, _, L, rp, rc, Nat.le_refl _, rfl, by first | rfl | omega | (simp; done), rfl, hl0, Ext.refl _, HI0, HLS2, HR⟩
    case round =>
      clear d0 d1 l0 c0 c1 l1 k0 k1 lb m0 m1 m2
      obtain ⟨r, z, c, cp, cc, hr, rfl, hz, rfl, hcl, hx, HCI, HCS, HCR⟩ := hrel
      have hx1 := hya.trans hx
      have hwr := hw1.trans hx1
      cases r with
      | zero =>
        have hz1 : z = -1 := by omega
        clear hz
        subst hz1
        have hc2 : R = some c := HCR.out.symm
        subst hc2
        have hcv := HCS.out.at_.text (P := Tryz.prog) (src := 58) (dst := 9) Tryz.underlying58 Tryz.underlying21 Tryz.underlying9 cc
        go_wp2_with fail
        go_ret2
        refine ⟨⟨_, _, rfl, fun t ht => ?_⟩, hwr.alloc _⟩
        have ht2 : runesBytes c = t := by simpa [optS] using ht
        subst ht2
        exact ⟨wr.heap.size, rfl, by simp, by simp⟩
      | succ q =>
        have hz1 : z = (q : Int) := by omega
        clear hz
        subst hz1
        have hlt : q < xs.length := by omega
        obtain ⟨b2, off2, e2, hbw2, a0, a1, a2, a3⟩ := HXC.out _ hwr q hlt
        have HTW := Lib.hid (fun W (hW : Ext wr W) => HTK.out q hlt c HCI.out hcl W (hwr.trans hW) cp cc (HCS.out.mono hW))
        have HN := Lib.hid (fun h => (offDn_none (A := A) (v := v) (xs := xs) (k := q) (l := c) h).symm.trans HCR.out)
        have HS := Lib.hid (fun t h => (⟨(offDn_some (A := A) (v := v) (xs := xs) (k := q) (l := c) (s := t) h).symm.trans HCR.out, offL_in h HCI.out, Nat.le_trans (offL_len h) hcl⟩ : offDn A v xs q t = R ∧ InA A t ∧ t.length ≤ 256))
        obtain ⟨x, hx9⟩ : ∃ x, ax xs q = x := ⟨_, rfl⟩
        rw [hx9] at a0 a1 a2 a3 HTW HN HS
        obtain ⟨O, hO⟩ : ∃ O, offL A v x c = O := ⟨_, rfl⟩
        rw [hO] at HTW HN HS
        subst e2
        clear hx9 hO
        obtain ⟨d0, d1, l0, c0, c1, l1⟩ := HB.out _ (hy1.trans hx1)
        obtain ⟨m0, m1, m2⟩ := HCB.out _ hx
        have HTV := Lib.hid (fun W (hW : Ext wr W) => (HTW.out W hW).mono fun e w' h => (⟨off_q h.1, h.2⟩ : (∃ mp mn mc mb, e = .returned (.tuple #[.slice mp mn mc, .bool mb]) ∧ Hid ((mb = false → mp = none ∧ mn = 0 ∧ mc = 0 ∧ O = none) ∧ (mb = true → ∃ t, O = some t ∧ mn = t.length ∧ SlAt w' mp t mc))) ∧ Ext W w'))
        have HS4 := Lib.hid (fun W (hW : Ext wr W) => (⟨hW, (HB.out _ ((hy1.trans hx1).trans hW)).1, (HB.out _ ((hy1.trans hx1).trans hW)).2.1, (HCB.out _ (hx.trans hW)).2.1, (hW.facts.1 _ _ hbw2).trans a0, (hW.facts.1 _ _ hbw2).trans a1, (hW.facts.1 _ _ hbw2).trans a2, (hW.facts.1 _ _ hbw2).trans a3⟩ : Ext wr W ∧ W.cell? ⟨w.heap.size, 0, none⟩ = some (.slice fp A.feats.length fc) ∧ W.cell? ⟨w.heap.size, 1, none⟩ = some (.slice ap A.lets.length ac) ∧ W.cell? ⟨w1.heap.size, 1, none⟩ = some (.slice (some ⟨b2, off2, none⟩) xs.length xc) ∧ W.cell? ⟨b2, off2 + q * 4, none⟩ = some (.int .u8 (x.kind : Int)) ∧ W.cell? ⟨b2, off2 + q * 4 + 1, none⟩ = some (.string x.form) ∧ W.cell? ⟨b2, off2 + q * 4 + 2, none⟩ = some (.string x.other) ∧ W.cell? ⟨b2, off2 + q * 4 + 3, none⟩ = some (.int .i64 x.pos)))
        go_wp2_with fail
        go_region_held3 (fun W => Ext wr W ∧ W.cell? ⟨w.heap.size, 0, none⟩ = some (.slice fp A.feats.length fc) ∧ W.cell? ⟨w.heap.size, 1, none⟩ = some (.slice ap A.lets.length ac) ∧ W.cell? ⟨w1.heap.size, 1, none⟩ = some (.slice (some ⟨b2, off2, none⟩) xs.length xc) ∧ W.cell? ⟨b2, off2 + q * 4, none⟩ = some (.int .u8 (x.kind : Int)) ∧ W.cell? ⟨b2, off2 + q * 4 + 1, none⟩ = some (.string x.form) ∧ W.cell? ⟨b2, off2 + q * 4 + 2, none⟩ = some (.string x.other) ∧ W.cell? ⟨b2, off2 + q * 4 + 3, none⟩ = some (.int .i64 x.pos))
          (exact HS4.out _ (by first | assumption | exact (Ext.refl _).drew | exact Ext.refl _))
          ((go_at_call 31; refine (HTV.out _ (Ext.refl _).drew).mono ?_; rintro e w5 ⟨⟨mp, mn, mc, mb, rfl, HQ⟩, hq5⟩; have hE5 : Ext wr w5 := ((Ext.refl _).drew).trans hq5))
        cases mb
        · obtain ⟨rfl, rfl, rfl, hO2⟩ := HQ.out.1 rfl
          have hR2 := HN.out hO2
          subst hR2
          clear HS HQ
          go_wp2_with fail
          go_ret2
          exact ⟨⟨none, 0, rfl, fun t ht => by cases ht⟩, hwr.trans hE5⟩
        · obtain ⟨t, hO2, hmn, hts⟩ := HQ.out.2 rfl
          obtain ⟨t1, t2, t3⟩ := HS.out t hO2
          have HT1 := Lib.hid t1
          have HT2 := Lib.hid t2
          have HTS := Lib.hid hts
          subst hmn
          clear HN HQ HS t1 t2 hts hO2
          go_wp2_with fail
          exact ⟨⟨q, _, t, mp, mc, by omega, rfl, by first | rfl | omega | go_num, rfl, t3, hx.trans hE5, HT2, HTS, HT1⟩, by simp [intOf]⟩
  · have hst := (stem_no9 h0 : stemS A v P n s = [])
    rw [hst]
    have HON := Lib.hid (hcel.mono fun e w' h => (⟨h.1.2 h0, h.2⟩ : (∃ p n9 c, e = .returned (.tuple #[.slice p n9 c, .int .i64 (cellE A v P n s)])) ∧ Ext _ w'))
    have gE : (cellE A v P n s != 0) = true := by rw [bne_iff_ne]; exact h0
    obtain ⟨E, hE⟩ : ∃ E, cellE A v P n s = E := ⟨_, rfl⟩
    rw [hE] at HON gE ⊢
    clear hcel h0 hst hE hwW2
    go_enter Tryz.func17, Tryz.ntmps17
    go_wp2_with fail
    refine HON.out.mono ?_
    rintro e w1 ⟨⟨p, n9, c, rfl⟩, hy1⟩
    go_wp2_with fail
    go_ret2
    exact ⟨⟨none, 0, rfl, fun t ht => by cases ht⟩, HX.out.trans hy1⟩
end Go.Proofs.YtkmfhcjdaglikaaGreatDoor

namespace Go.Proofs.YtkmfhcjdaglikaaGreatDoor
open Go.RowKit Go.Cg Go.Shelf Go.Maps

def txt9 (l : List ByteArray) (j : Nat) : ByteArray := l.getD j ByteArray.empty
theorem opt_reads {w : World} {rp : Option Addr} {T : List ByteArray} (hT : T.length ≤ 1) (h : ∀ s, T = [s] → ∃ b, rp = some ⟨b, 0, none⟩ ∧ b < w.heap.size ∧ w.cell? ⟨b, 0, none⟩ = some (.string s)) : Reads w rp T.length fun j => .string (txt9 T j) := by
  match T, hT, h with
  | [], _, _ => exact .inl rfl
  | [s], _, h =>
    obtain ⟨b, e, h1, h2⟩ := h s rfl
    refine .inr ⟨b, 0, e, h1, fun j hj => ?_⟩
    obtain rfl : j = 0 := by simp at hj; omega
    exact h2

set_option maxHeartbeats 1000000 in
theorem SameWords9_any (pa pb : Option Addr) (ca cb : Nat) (a : List ByteArray) (ha : a.length ≤ 100000) (w : World) (h1 : Reads w pa a.length fun j => .string (txt9 a j)) (h2 : Reads w pb a.length fun j => .string (txt9 a j)) :
    Calls Tryz.prog 10 #[.slice pa a.length ca, .slice pb a.length cb] w fun e w' => e = .returned (.bool true) ∧ Ext w w' := by
  go_enter Tryz.func10, Tryz.ntmps10
  go_wp2_with fail
  go_loopw [5] (fun i wr => ∃ k : Nat, k ≤ a.length ∧ i = .int .i64 k ∧ Ext w wr) (fun i _ => a.length - (intOf i).toNat)
  case atStart => exact ⟨0, Nat.zero_le _, rfl, Ext.refl _⟩
  case round =>
    obtain ⟨k, hk, rfl, hx⟩ := hrel
    by_cases hlt : k < a.length
    · obtain ⟨b1, o1, rfl, hb1, k0⟩ := (h1.mono hx).cells_ hlt
      obtain ⟨b2, o2, rfl, hb2, k1⟩ := (h2.mono hx).cells_ hlt
      have c0 := k0 k hlt
      have d0 := k1 k hlt
      clear k0 k1
      go_wp2_with fail
      (refine wp_region_ext (by kernel_rfl) (by kernel_rfl) ?_; intro ι hι g hg; have q_c0 := hg.cell c0; have q_d0 := hg.cell d0; clear c0 d0; (repeat (go_big_quiet_step (fail))); refine wpQuiet_nil ?_; rintro w2 ⟨i2, rfl⟩; have hq := hg.ext i2; generalize g i2 = w2 at hq ⊢; clear q_c0 q_d0 i2 hg g hι ι)
      go_wp2_with fail
      exact ⟨⟨k + 1, by omega, by go_num, hx.trans hq⟩, by simp [intOf]; omega⟩
    · go_wp2_with fail
      go_ret
      exact ⟨rfl, hx⟩

set_option maxRecDepth 100000 in
set_option maxHeartbeats 4000000 in
theorem paradigmAffixes_any (fp ap : Option Addr) (fc ac : Nat) (A : Alpha) (v : Nat) (hv : v < 4294967296) (s : ByteArray) (hs : s.size ≤ 140737488351232) (x : Aff) (hwf : x.wf) (w : World) (hA : AlphaAt w fp ap A) (hT : Tabs w) :
    Calls Tryz.prog 3 #[.agg #[.slice fp A.feats.length fc, .slice ap A.lets.length ac], .int .u32 v, .string s, .agg #[.int .u8 (x.kind : Int), .string x.form, .string x.other, .int .i64 x.pos]] w fun e w' => e = .returned (.bool true) ∧ Ext w w' := by
  have hx0 : Ext w (w.alloc (.cells #[.slice fp A.feats.length fc, .slice ap A.lets.length ac] 25)) := (Ext.refl _).alloc _
  obtain ⟨W1, hW1⟩ : ∃ W1, w.alloc (.cells #[.slice fp A.feats.length fc, .slice ap A.lets.length ac] 25) = W1 := ⟨_, rfl⟩
  have hx1 : Ext W1 (W1.alloc (.cells #[.int .u8 (x.kind : Int), .string x.form, .string x.other, .int .i64 x.pos] 28)) := (Ext.refl _).alloc _
  obtain ⟨W2, hW2⟩ : ∃ W2, W1.alloc (.cells #[.int .u8 (x.kind : Int), .string x.form, .string x.other, .int .i64 x.pos] 28) = W2 := ⟨_, rfl⟩
  rw [hW1] at hx0
  rw [hW2] at hx1
  have z1 : W1.heap.size = w.heap.size + 1 := by rw [← hW1, size_alloc]
  have HB := Lib.hid (fun W (hW : Ext W2 W) => (by
    have h := hx1.trans hW
    rw [← hW1] at h
    have h2 := hW
    rw [← hW2] at h2
    have c0 := h2.cell0 0
    have c1 := h2.cell0 1
    have c2 := h2.cell0 2
    have c3 := h2.cell0 3
    have l0 := h2.lt0
    rw [z1] at c0 c1 c2 c3 l0
    exact ⟨h.cell0 0, h.cell0 1, h.lt0, c0, c1, c2, c3, l0⟩ : W.cell? ⟨w.heap.size, 0, none⟩ = some (.slice fp A.feats.length fc) ∧ W.cell? ⟨w.heap.size, 1, none⟩ = some (.slice ap A.lets.length ac) ∧ w.heap.size < W.heap.size ∧ W.cell? ⟨w.heap.size + 1, 0, none⟩ = some (.int .u8 (x.kind : Int)) ∧ W.cell? ⟨w.heap.size + 1, 1, none⟩ = some (.string x.form) ∧ W.cell? ⟨w.heap.size + 1, 2, none⟩ = some (.string x.other) ∧ W.cell? ⟨w.heap.size + 1, 3, none⟩ = some (.int .i64 x.pos) ∧ w.heap.size + 1 < W.heap.size))
  have hwW2 : Ext w W2 := hx0.trans hx1
  have HX := Lib.hid hwW2
  have HAL := Lib.hid (alive17_any W2 (hT.ext hwW2))
  have hW2e : (w.alloc (.cells #[.slice fp A.feats.length fc, .slice ap A.lets.length ac] 25)).alloc (.cells #[.int .u8 (x.kind : Int), .string x.form, .string x.other, .int .i64 x.pos] 28) = W2 := by rw [hW1, hW2]
  have hf1 := hwf.2.1
  have ho1 := hwf.2.2.1
  by_cases hg1 : 2000 < s.size
  · clear hW1 hW2 hx0 hx1 z1 hwW2
    go_enter Tryz.func3, Tryz.ntmps3
    go_wp2_with fail
    refine HAL.out.mono ?_
    rintro e w1 ⟨rfl, hy1⟩
    obtain ⟨_, _, _, c0, c1, c2, c3, l1⟩ := HB.out _ hy1
    go_wp2_with fail
    go_ret
    exact ⟨rfl, HX.out.trans hy1⟩
  by_cases hg2 : 4000 < x.form.size + x.other.size
  · clear hW1 hW2 hx0 hx1 z1 hwW2
    go_enter Tryz.func3, Tryz.ntmps3
    go_wp2_with fail
    refine HAL.out.mono ?_
    rintro e w1 ⟨rfl, hy1⟩
    obtain ⟨_, _, _, c0, c1, c2, c3, l1⟩ := HB.out _ hy1
    go_wp2_with fail
    go_ret
    exact ⟨rfl, HX.out.trans hy1⟩
  have hsm : x.small := ⟨by omega, by omega⟩
  have HPT := Lib.hid (fun W (hW : Ext w W) => put_any fp ap fc ac A v hv s hs x hwf hsm W (hA.mono hW) (hT.ext hW))
  have HOS := Lib.hid (fun W (hW : Ext w W) => off_any fp ap fc ac A v hv s hs x hwf hsm W (hA.mono hW) (hT.ext hW))
  have HPR := Lib.hid (fun W (hW : Ext w W) => Put17_any fp ap fc ac A v hv s hs x hwf hsm W (hA.mono hW) (hT.ext hW))
  have HOR := Lib.hid (fun W (hW : Ext w W) => Off17_any fp ap fc ac A v hv s hs x hwf hsm W (hA.mono hW) (hT.ext hW))
  have hlen := offS_len A v s x
  obtain ⟨d0, d1, l0, c0, c1, c2, c3, l1⟩ := HB.out _ (Ext.refl _)
  clear hW1 hW2 hx0 hx1 z1 hwW2 hA hT
  obtain ⟨V, hV⟩ : ∃ V, putS A v s x = V := ⟨_, rfl⟩
  obtain ⟨E, hE⟩ : ∃ E, putE A v s x = E := ⟨_, rfl⟩
  obtain ⟨O, hO⟩ : ∃ O, oneE A v s x = O := ⟨_, rfl⟩
  obtain ⟨T, hT9⟩ : ∃ T, offS A v s x = T := ⟨_, rfl⟩
  rw [hV, hE] at HPT HPR
  rw [hT9, hO] at HOS HOR
  rw [hT9] at hlen
  have gV : (V.toList == V.toList) = true := by simp
  have gE : (E == E) = true := by simp
  have gO : (O == O) = true := by simp
  clear hV hE hO hT9
  go_enter Tryz.func3, Tryz.ntmps3
  go_wp2_with fail
  refine HAL.out.mono ?_
  rintro e w1 ⟨rfl, hy1⟩
  clear hW2e d0 d1 l0 c0 c1 c2 c3 l1
  obtain ⟨d0, d1, l0, c0, c1, c2, c3, l1⟩ := HB.out _ hy1
  go_wp2_with fail
  refine (HPT.out _ (HX.out.trans hy1)).mono ?_
  rintro e w2 ⟨rfl, hy2⟩
  have hz2 := hy1.trans hy2
  obtain ⟨d0, d1, l0, c0, c1, c2, c3, l1⟩ := HB.out _ hz2
  go_wp2_with fail
  refine (HOS.out _ (HX.out.trans hz2)).mono ?_
  rintro e w3 ⟨⟨rp, rc, rfl, hr⟩, hy3⟩
  have hz3 := hz2.trans hy3
  have HR := Lib.hid (opt_reads hlen hr)
  clear hr
  obtain ⟨d0, d1, l0, c0, c1, c2, c3, l1⟩ := HB.out _ hz3
  go_wp2_with fail
  refine (HPR.out _ (HX.out.trans hz3)).mono ?_
  rintro e w4 ⟨rfl, hy4⟩
  have hz4 := hz3.trans hy4
  obtain ⟨d0, d1, l0, c0, c1, c2, c3, l1⟩ := HB.out _ hz4
  go_wp2_with fail
  refine (HOR.out _ (HX.out.trans hz4)).mono ?_
  rintro e w5 ⟨⟨qp, qc, rfl, hq⟩, hy5⟩
  have hz5 := hz4.trans hy5
  have HQ := Lib.hid (opt_reads hlen hq)
  clear hq
  have HSW := Lib.hid (SameWords9_any rp qp rc qc T (by omega) w5 (HR.out.mono (hy4.trans hy5)) HQ.out)
  go_wp2_with fail
  refine HSW.out.mono ?_
  rintro e w6 ⟨rfl, hy6⟩
  go_wp2_with fail
  go_ret
  exact ⟨rfl, HX.out.trans (hz5.trans hy6)⟩
end Go.Proofs.YtkmfhcjdaglikaaGreatDoor
