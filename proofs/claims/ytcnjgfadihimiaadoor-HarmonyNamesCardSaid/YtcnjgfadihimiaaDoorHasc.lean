/- Contract: cognatelaw14.row; the law HarmonyNames, walked. -/
import Derived.Test.YtcnjgfadihimiaaDoorHarmc
import Derived.Laws.IdiomStrings
namespace Go.Cg
open Go.RowKit Go.Lib
/-- a letter e and k - 1 letters a -/
def eaL (k : Nat) : List UInt8 := 101 :: List.replicate (k - 1) 97
def eaV (k : Nat) : List Value := (eaL k).map fun b => .int .u8 (b.toNat : Int)
theorem eaL_len {k : Nat} (h : 1 ≤ k) : (eaL k).length = k := by simp [eaL]; omega
theorem eaV_succ {k : Nat} (h : 1 ≤ k) : eaV (k + 1) = eaV k ++ [.int .u8 97] := by
  unfold eaV eaL
  obtain ⟨m, rfl⟩ : ∃ m, k = m + 1 := ⟨k - 1, by omega⟩
  simp [List.replicate_succ']
theorem ea_row (w : World) (T : TypeId) : (w.alloc (.cells #[.int .u8 101] T)).ownsRow w.heap.size T 1 (.slice (some ⟨w.heap.size, 0, none⟩) 1 1) 1 (eaV 1) :=
  ⟨rfl, .inr ⟨w.heap.size, 1, #[.int .u8 101], rfl, Nat.le_refl _, heap_alloc_new _ _, Nat.le_refl _, by unfold maxLen; omega, rfl, rfl⟩⟩
end Go.Cg
namespace Go.Proofs.YtcnjgfadihimiaaDoor
open Go.RowKit Go.Cg Go.Shelf Go.Maps

theorem infoU8 : (Tryd.prog.info? 5).map (fun i => (i.zero, i.size, i.bytes)) = some (some (.int .u8 0), 1, 1) := by kernel_rfl

set_option maxRecDepth 100000 in
set_option maxHeartbeats 2000000 in
theorem row14_any (n : Nat) (h1 : 1 ≤ n) (h2 : n ≤ 100) (w : World) :
    Calls Tryd.prog 13 #[.int .i64 (n : Int)] w fun e w' => e = .returned (.string ⟨(eaL n).toArray⟩) ∧ Ext w w' := by
  obtain ⟨i0, hi, hz0, hz1, hz2⟩ := info_parts infoU8
  have H0 := Lib.hid (ea_row w 5)
  go_enter Tryd.func13, Tryd.ntmps13
  go_wp2_with fail
  go_loopw [3, 4] (fun b i wr => ∃ (k : Nat) (p : Option Addr) (c : Nat), 1 ≤ k ∧ k ≤ n ∧ i = .int .i64 k ∧ b = .slice p k c ∧ Ext w wr ∧ wr.ownsRow w.heap.size 5 1 (.slice p k c) k (eaV k)) (fun _ i _ => n - (intOf i).toNat)
  case atStart => exact ⟨1, _, 1, Nat.le_refl _, h1, rfl, rfl, (Ext.refl _).alloc _, H0.out⟩
  case round =>
    obtain ⟨k, p, c, hk1, hk, rfl, rfl, hx, hown⟩ := hrel
    by_cases hlt : k < n
    · have HE := Lib.hid (eaV_succ hk1)
      have hle := hx.le
      go_wp2_with (at_builtin; go_loud (refine wpList_append_own _ rfl _ _ 57 rfl w.heap.size 5 i0 (.int .u8 0) 1 1 Tryd.underlying57 hi hz0 hz1 hz2 rfl (by decide) (.slice p k c) k _ rfl (ownsRow_ext hown ((Ext.refl _).alloc _)) ⟨wr.heap.size, 0, none⟩ 1 1 [.int .u8 97] rfl rfl (one_cell _ _ _) (by simp [Value.oneCell']) (by unfold maxLen; omega) (by omega) (by simp; omega) ?_); intro v' w4 hown4 hgrow _)
      obtain ⟨p', c', hv'⟩ := ownsRow_slice hown4
      subst hv'
      exact ⟨⟨k + 1, p', c', by omega, by omega, by go_num, rfl, Ext.append (hx.alloc _) (ownsRow_ext hown ((Ext.refl _).alloc _)) hgrow (Nat.le_refl _), by rw [HE.out]; exact hown4⟩, by simp [intOf]; omega⟩
    · have e : k = n := by omega
      subst e
      obtain ⟨g, hp⟩ : ∃ g, p = some ⟨g, 0, none⟩ := by
        rcases hown.2 with ⟨_, h0⟩ | ⟨g, cap, cur, hv, _⟩
        · omega
        · simp only [Value.slice.injEq] at hv; exact ⟨g, hv.1⟩
      subst hp
      have hcv := run_convert_bytes_back (P := Tryd.prog) wr 57 9 5 ⟨g, 0, none⟩ c (eaL k) Tryd.underlying57 Tryd.underlying5 Tryd.underlying9 (fun j hj => by
        have e : ((⟨g, 0, none⟩ : Addr).add j) = ⟨g, j, none⟩ := by unfold Addr.add; split <;> simp_all
        rw [eaL_len hk1] at hj
        rw [e, hown.cellAt j (by omega)]
        unfold eaV
        rw [List.getElem?_map, List.getElem?_eq_getElem (by rw [eaL_len hk1]; exact hj)]
        rfl)
      rw [eaL_len hk1] at hcv
      clear hown
      go_wp2_with fail
      go_ret
      exact ⟨rfl, hx⟩

def r64 : ByteArray := ⟨(eaL 64).toArray⟩
def r65 : ByteArray := ⟨(eaL 65).toArray⟩
def e64 : ByteArray := ⟨(List.replicate 64 101).toArray⟩
def badS : ByteArray := ⟨#[255]⟩
def xS : ByteArray := ⟨#[120]⟩
def noA : Alpha := ⟨[], []⟩
theorem hn_1 : sprS smpA r64 1 2 = e64 := by decide +kernel
theorem hn_1e : signE smpA r64 [1, 2] = 0 := by decide +kernel
theorem hn_2 : sprS smpA r65 1 2 = ⟨#[]⟩ := by decide +kernel
theorem hn_2e : signE smpA r65 [1, 2] = 4 := by decide +kernel
theorem hn_3 : backS noA badS 8 8 = ⟨#[]⟩ := by decide +kernel
theorem hn_3e : signE noA badS [8, 8] = 7 := by decide +kernel
theorem hn_4 : backS smpA badS 8 8 = ⟨#[]⟩ := by decide +kernel
theorem hn_4e : signE smpA badS [8, 8] = 6 := by decide +kernel
theorem hn_5 : keepsB smpA xS 8 8 = false := by decide +kernel
theorem hn_5e : signE smpA xS [8, 8] = 5 := by decide +kernel
theorem hn_6 : keepsB smpA t_t 8 8 = false := by decide +kernel
theorem hn_6e : signE smpA t_t [8, 8] = 20 := by decide +kernel
theorem hn_7 : meetS smpA t_t 1 8 8 = ⟨#[]⟩ := by decide +kernel
theorem hn_7e : signE smpA t_t [1, 8, 8] = 20 := by decide +kernel
theorem hn_8 : meetS smpA t_t 1 1 2147483648 = ⟨#[]⟩ := by decide +kernel
theorem hn_8e : signE smpA t_t [1, 1, 2147483648] = 20 := by decide +kernel
theorem hn_9e : setsE smpA 1 8 = 20 := by decide +kernel
theorem hn_10e : setsE smpA 8 0 = 20 := by decide +kernel

theorem e64_size : e64.size = 64 := by decide +kernel
theorem e64_at : ∀ i : Fin 64, (e64.data.toList.getD i.val 0).toNat = 101 := by decide +kernel
theorem noA_at (W : World) : AlphaAt W none none noA := ⟨.inl rfl, .inl rfl, by decide, by decide, fun i hi => absurd hi (by simp [noA]), fun i hi => absurd hi (by simp [noA])⟩

set_option maxRecDepth 100000 in
set_option maxHeartbeats 8000000 in
theorem harmonyNames_any (w : World) (hT : Tabs w) : Calls Tryd.prog 3 #[] w fun e w' => e = .returned (.bool true) ∧ Ext w w' := by
  have hr64 := fun W => row14_any 64 (by decide) (by decide) W
  have hr65 := fun W => row14_any 65 (by decide) (by decide) W
  rw [show (⟨(eaL 64).toArray⟩ : ByteArray) = r64 from rfl] at hr64
  rw [show (⟨(eaL 65).toArray⟩ : ByteArray) = r65 from rfl] at hr65
  have h1 := fun fp lp fc lc W hA hT => spreadW_any fp lp fc lc smpA r64 (by decide +kernel) 1 2 (by decide) (by decide) W hA hT
  rw [hn_1, hn_1e] at h1
  have h2 := fun fp lp fc lc W hA hT => spreadW_any fp lp fc lc smpA r65 (by decide +kernel) 1 2 (by decide) (by decide) W hA hT
  rw [hn_2, hn_2e] at h2
  have h3 := fun W hT => back_any none none 0 0 noA badS (by decide) 8 8 (by decide) (by decide) W (noA_at W) hT
  rw [hn_3, hn_3e] at h3
  simp only [noA, List.length_nil, badS] at h3
  have h4 := fun fp lp fc lc W hA hT => back_any fp lp fc lc smpA badS (by decide) 8 8 (by decide) (by decide) W hA hT
  rw [hn_4, hn_4e] at h4
  simp only [badS] at h4
  have h5 := fun fp lp fc lc W hA hT => keeps_any fp lp fc lc smpA xS (by decide) 8 8 (by decide) (by decide) W hA hT
  rw [hn_5, hn_5e] at h5
  simp only [xS] at h5
  have h6 := fun fp lp fc lc W hA hT => keeps_any fp lp fc lc smpA t_t (by decide) 8 8 (by decide) (by decide) W hA hT
  rw [hn_6, hn_6e] at h6
  simp only [t_t] at h6
  have h7 := fun fp lp fc lc W hA hT => meet_any fp lp fc lc smpA t_t (by decide) 1 8 8 (by decide) (by decide) (by decide) W hA hT
  rw [hn_7, hn_7e] at h7
  simp only [t_t] at h7
  have h8 := fun fp lp fc lc W hA hT => meet_any fp lp fc lc smpA t_t (by decide) 1 1 2147483648 (by decide) (by decide) (by decide) W hA hT
  rw [hn_8, hn_8e] at h8
  simp only [t_t] at h8
  have h9 := fun fp lp fc lc W hA => sets_any fp lp fc lc smpA 1 8 (by decide) (by decide) W hA
  rw [hn_9e] at h9
  have h10 := fun fp lp fc lc W hA => sets_any fp lp fc lc smpA 8 0 (by decide) (by decide) W hA
  rw [hn_10e] at h10
  have hsz := e64_size
  have hat : ∀ i (h : i < e64.size), (e64[i].toNat : Int) = 101 := fun i h => by
    have h2 : i < 64 := by rw [← e64_size]; exact h
    have := e64_at ⟨i, h2⟩
    have e : e64.data.toList.getD i 0 = e64[i] := by
      rw [List.getD_eq_getElem?_getD, List.getElem?_eq_getElem (by simpa using h)]; rfl
    rw [e] at this
    omega
  obtain ⟨S, hS, hat⟩ : ∃ S, e64 = S ∧ ∀ i (h : i < S.size), (S[i].toNat : Int) = 101 := ⟨_, rfl, hat⟩
  rw [hS] at h1 hsz
  obtain ⟨R1, hR1⟩ : ∃ R, r64 = R := ⟨_, rfl⟩
  obtain ⟨R2, hR2⟩ : ∃ R, r65 = R := ⟨_, rfl⟩
  rw [hR1] at hr64 h1
  rw [hR2] at hr65 h2
  have H1 := Lib.hid h1
  have H2 := Lib.hid h2
  have H3 := Lib.hid h3
  have H4 := Lib.hid h4
  have H5 := Lib.hid h5
  have H6 := Lib.hid h6
  have H7 := Lib.hid h7
  have H8 := Lib.hid h8
  have H9 := Lib.hid h9
  have H10 := Lib.hid h10
  have HR1 := Lib.hid hr64
  have HR2 := Lib.hid hr65
  have HAT := Lib.hid hat
  have HSZ := Lib.hid hsz
  have gz : ((S.size : Int) != 64) = false := by rw [hsz]; rfl
  have HAL := Lib.hid (alive14_any w hT)
  clear h1 h2 h3 h4 h5 h6 h7 h8 h9 h10 hr64 hr65 hat hsz hS hR1 hR2
  go_enter Tryd.func3, Tryd.ntmps3
  go_wp2_with fail
  refine HAL.out.mono ?_
  rintro e w0 ⟨rfl, hx0⟩
  go_wp2_with fail
  refine (sample14_any _).mono ?_
  rintro e w1 ⟨fp, lp, fc, lc, rfl, hA, hx1⟩
  have hb : Ext w1 (w1.alloc (.cells #[.slice fp smpA.feats.length fc, .slice lp smpA.lets.length lc] 26)) := (Ext.refl _).alloc _
  have HBX := Lib.hid (fun W (hW : Ext (w1.alloc (.cells #[.slice fp smpA.feats.length fc, .slice lp smpA.lets.length lc] 26)) W) => (⟨hW.cell0 0, hW.cell0 1, hW.lt0⟩ : W.cell? ⟨w1.heap.size, 0, none⟩ = some (.slice fp smpA.feats.length fc) ∧ W.cell? ⟨w1.heap.size, 1, none⟩ = some (.slice lp smpA.lets.length lc) ∧ w1.heap.size < W.heap.size))
  have hyb := (hx0.trans hx1).trans hb
  obtain ⟨W0, hW0⟩ : ∃ W0, w1.alloc (.cells #[.slice fp smpA.feats.length fc, .slice lp smpA.lets.length lc] 26) = W0 := ⟨_, rfl⟩
  have hAW := hA.mono hb
  rw [hW0] at HBX hyb hAW
  have HW0 := Lib.hid hW0
  clear hb hA hW0
  go_wp2_with fail
  rw [HW0.out]
  obtain ⟨d0, d1, l0⟩ := HBX.out _ (Ext.refl _)
  (refine wp_region_ext (by kernel_rfl) (by kernel_rfl) ?_; intro ι hι g hg; have q_d0 := hg.cell d0; have q_d1 := hg.cell d1; clear d0 d1; (repeat (go_big_quiet_step ((first | (go_at_call 13; exact hg.call (HR1.out _)) | (go_at_call 12; exact hg.call (H1.out fp lp fc lc _ (hAW.mono (hg.ext _)) (hT.ext (hyb.trans (hg.ext _))))))))); refine wpQuiet_nil ?_; rintro w2 ⟨i2, rfl⟩; have hx2 := hg.ext i2; generalize g i2 = w2 at hx2 ⊢; clear q_d0 q_d1 i2 hg g hι ι)
  obtain ⟨d0, d1, l0⟩ := HBX.out _ hx2
  go_wp2_with fail
  have hAW2 := hAW.mono hx2
  have hyb2 := hyb.trans hx2
  (refine wp_region_ext (by kernel_rfl) (by kernel_rfl) ?_; intro ι hι g hg; have q_d0 := hg.cell d0; have q_d1 := hg.cell d1; clear d0 d1; (repeat (go_big_quiet_step ((first | (go_at_call 13; exact hg.call (HR2.out _)) | (go_at_call 12; exact hg.call (H2.out fp lp fc lc _ (hAW2.mono (hg.ext _)) (hT.ext (hyb2.trans (hg.ext _))))))))); refine wpQuiet_nil ?_; rintro w3 ⟨i2, rfl⟩; have hx3 := hg.ext i2; generalize g i2 = w3 at hx3 ⊢; clear q_d0 q_d1 i2 hg g hι ι)
  have hx3 := hx2.trans hx3
  obtain ⟨d0, d1, l0⟩ := HBX.out _ hx3
  go_wp2_with fail
  refine (H3.out _ (hT.ext (hyb.trans hx3))).mono ?_
  rintro e w4 ⟨rfl, hx4⟩
  have hx4 := hx3.trans hx4
  obtain ⟨d0, d1, l0⟩ := HBX.out _ hx4
  go_wp2_with fail
  refine (H4.out fp lp fc lc _ (hAW.mono hx4) (hT.ext (hyb.trans hx4))).mono ?_
  rintro e w5 ⟨rfl, hx5⟩
  have hx5 := hx4.trans hx5
  obtain ⟨d0, d1, l0⟩ := HBX.out _ hx5
  go_wp2_with fail
  refine (H5.out fp lp fc lc _ (hAW.mono hx5) (hT.ext (hyb.trans hx5))).mono ?_
  rintro e w6 ⟨rfl, hx6⟩
  have hx6 := hx5.trans hx6
  obtain ⟨d0, d1, l0⟩ := HBX.out _ hx6
  go_wp2_with fail
  refine (H6.out fp lp fc lc _ (hAW.mono hx6) (hT.ext (hyb.trans hx6))).mono ?_
  rintro e w7 ⟨rfl, hx7⟩
  have hx7 := hx6.trans hx7
  obtain ⟨d0, d1, l0⟩ := HBX.out _ hx7
  go_wp2_with fail
  refine (H7.out fp lp fc lc _ (hAW.mono hx7) (hT.ext (hyb.trans hx7))).mono ?_
  rintro e w8 ⟨rfl, hx8⟩
  have hx8 := hx7.trans hx8
  obtain ⟨d0, d1, l0⟩ := HBX.out _ hx8
  go_wp2_with fail
  refine (H8.out fp lp fc lc _ (hAW.mono hx8) (hT.ext (hyb.trans hx8))).mono ?_
  rintro e w9 ⟨rfl, hx9⟩
  have hx9 := hx8.trans hx9
  obtain ⟨d0, d1, l0⟩ := HBX.out _ hx9
  go_wp2_with fail
  refine (H9.out fp lp fc lc _ (hAW.mono hx9)).mono ?_
  rintro e w10 ⟨v9, vs9, rfl, _, hx10⟩
  have hx10 := hx9.trans hx10
  obtain ⟨d0, d1, l0⟩ := HBX.out _ hx10
  go_wp2_with fail
  refine (H10.out fp lp fc lc _ (hAW.mono hx10)).mono ?_
  rintro e w11 ⟨v10, vs10, rfl, _, hx11⟩
  have hx11 := hyb.trans (hx10.trans hx11)
  clear d0 d1 l0
  go_wp2_with fail
  go_loopw [23] (fun i wr => ∃ k : Nat, k ≤ S.size ∧ i = .int .i64 k ∧ Ext w wr) (fun i _ => S.size - (intOf i).toNat)
  case atStart => exact ⟨0, Nat.zero_le _, rfl, hx11⟩
  case round =>
    obtain ⟨k, hk, rfl, hx⟩ := hrel
    by_cases hlt : k < S.size
    · have gb : ((S[k].toNat : Int) != 101) = false := by rw [HAT.out k hlt]; rfl
      have h64 : S.size ≤ 64 := by rw [HSZ.out]; omega
      go_wp2_with fail
      exact ⟨⟨k + 1, by omega, by go_num, hx⟩, by simp [intOf]; omega⟩
    · have e : k = S.size := by omega
      subst e
      have h64 : S.size ≤ 64 := by rw [HSZ.out]; omega
      go_wp2_with fail
      go_ret
      exact ⟨rfl, hx⟩

end Go.Proofs.YtcnjgfadihimiaaDoor
