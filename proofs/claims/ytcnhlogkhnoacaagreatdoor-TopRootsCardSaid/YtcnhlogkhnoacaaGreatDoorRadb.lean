/- Contracts: word.Peaks, radical.parted: a word's letters and which of them have a class. -/
import Derived.Test.YtcnhlogkhnoacaaGreatDoorLetz
import Derived.Test.YtcnhlogkhnoacaaGreatDoorRadz
namespace Go.Proofs.YtcnhlogkhnoacaaGreatDoor
open Go.RowKit Go.Cg Go.Shelf Go.Maps

theorem infoI : (Tryz.prog.info? 3).map (fun i => (i.zero, i.size, i.bytes)) = some (some (.int .i64 0), 1, 8) := by kernel_rfl
def radE (A : Alpha) (s : ByteArray) (p : Nat) : Int := if (spell A s).2 ≠ 0 then (spell A s).2 else classE A p 0
theorem radE_eq (A : Alpha) (s : ByteArray) (p : Nat) : radE A s p = if (spell A s).2 ≠ 0 then (spell A s).2 else classE A p 0 := rfl
def peaksL (A : Alpha) (s : ByteArray) (p : Nat) : List Nat := if radE A s p = 0 then peaksTo (spell A s).1 (hasL A p 0) (spell A s).1.length else []
theorem peaksL_eq (A : Alpha) (s : ByteArray) (p : Nat) : peaksL A s p = if radE A s p = 0 then peaksTo (spell A s).1 (hasL A p 0) (spell A s).1.length else [] := rfl

set_option maxRecDepth 100000 in
set_option maxHeartbeats 2000000 in
theorem peaks_any (fp lp : Option Addr) (fc lc : Nat) (A : Alpha) (s : ByteArray) (p : Nat) (hs : s.size ≤ 140737488351232) (hp : p < 4294967296) (w : World) (hA : AlphaAt w fp lp A) (hT : Tabs w) :
    Calls Tryz.prog 78 #[.agg #[.slice fp A.feats.length fc, .slice lp A.lets.length lc], .string s, .int .u32 p, .int .u32 0] w fun e w' => ∃ rp rc, e = .returned (.tuple #[.slice rp (peaksL A s p).length rc, .int .i64 (radE A s p)]) ∧ w'.ownsRow w.heap.size 3 1 (.slice rp (peaksL A s p).length rc) (peaksL A s p).length (intCells (peaksL A s p)) ∧ Ext w w' := by
  have hx3 : Ext w (w.alloc (.cells #[.slice fp A.feats.length fc, .slice lp A.lets.length lc] 25)) := (Ext.refl _).alloc _
  obtain ⟨i0, hi, hz0, hz1, hz2⟩ := info_parts infoI
  have hcon := letters_any fp lp fc lc A s hs _ (hA.mono hx3) (hT.ext hx3)
  have h64 := spell_len A s
  have hfe := radE_eq A s p
  have hfl := peaksL_eq A s p
  have hcls := fun (h : (spell A s).2 = 0) (hc : classE A p 0 = 0) => peaksTo_congr (l := (spell A s).1) (q := fun r => decide (r ∈ classL A p 0)) (q' := hasL A p 0) (k := (spell A s).1.length) (fun j hj => class_has (spell_ok h).1 hc ((spell_ok h).2.2.1 _ (by rw [rn_eq hj]; exact List.getElem_mem hj)))
  obtain ⟨F, hF⟩ : ∃ F, radE A s p = F := ⟨_, rfl⟩
  obtain ⟨L, hL⟩ : ∃ L, peaksL A s p = L := ⟨_, rfl⟩
  rw [hF] at hfe hfl
  rw [hL] at hfl
  rw [hF, hL]
  clear hF hL
  obtain ⟨l, hl⟩ : ∃ l, (spell A s).1 = l := ⟨_, rfl⟩
  obtain ⟨er, her⟩ : ∃ er, (spell A s).2 = er := ⟨_, rfl⟩
  rw [hl, her] at hcon hcls
  rw [her] at hfe
  rw [hl] at h64 hfl
  clear hl her
  have hcl := fun W hW => class_any fp lp fc lc A p 0 hp (by omega) W (hA.mono hW)
  obtain ⟨cl, hcl2⟩ : ∃ cl, classL A p 0 = cl := ⟨_, rfl⟩
  obtain ⟨ce, hce⟩ : ∃ ce, classE A p 0 = ce := ⟨_, rfl⟩
  rw [hcl2, hce] at hcl hcls
  rw [hce] at hfe
  have HCL := Lib.hid hcl
  clear hcl hcl2 hce
  by_cases h0 : er = 0
  · subst h0
    rw [if_neg (by decide : ¬ ((0 : Int) ≠ 0))] at hfe
    by_cases hc0 : ce = 0
    · subst hc0
      subst hfe
      rw [if_pos rfl, ← hcls rfl rfl] at hfl
      subst hfl
      clear hcls
      go_enter Tryz.func78, Tryz.ntmps78
      go_wp2_with (first | (go_at_call 36; refine hcon.mono ?_; rintro e w1 ⟨lrp, lrc, rfl, ho, hx1⟩; have d0 := hx1.cell0 0; have d1 := hx1.cell0 1; simp at d0 d1) | (go_at_call 115; refine (HCL.out _ (hx3.trans hx1)).mono ?_; rintro e w2 ⟨crp, crc, rfl, hoc, hx2⟩))
      clear d0 d1
      go_loopw [13, 37] (fun out i wr => ∃ k : Nat, k ≤ l.length ∧ i = .int .i64 k ∧ Ext w2 wr ∧ wr.ownsRow w2.heap.size 3 1 out (peaksTo l (fun r => decide (r ∈ cl)) k).length (intCells (peaksTo l (fun r => decide (r ∈ cl)) k))) (fun _ i _ => l.length - (intOf i).toNat)
      case atStart => exact ⟨0, Nat.zero_le _, rfl, Ext.refl _, World.ownsRow_nil _ _ _ _⟩
      case round =>
        obtain ⟨k, hk, rfl, hx, hown⟩ := hrel
        obtain ⟨rp, rc, rfl⟩ := ownsRow_slice hown
        by_cases hlt : k < l.length
        · obtain ⟨b, off, e0, hbw, c0⟩ := (ho.at_.mono (hx2.trans hx)).cells hlt
          subst e0
          have hlen := peaksTo_len l (fun r => decide (r ∈ cl)) k
          have hcn := fun W hW => Contains_any crp crc cl (rn l k) W (hoc.at_.mono hW)
          have HC := Lib.hid hcn
          clear hcn
          cases hq : decide (rn l k ∈ cl)
          · have HS := Lib.hid (peaksTo_no (l := l) (q := fun r => decide (r ∈ cl)) (k := k) hq)
            go_wp2_with (go_at_call 116; refine (HC.out _ hx).mono ?_; rintro e w3 ⟨rfl, hx4⟩; rw [hq])
            refine ⟨⟨k + 1, by omega, by go_num, hx.trans hx4, ?_⟩, by simp [intOf]; omega⟩
            rw [HS.out]; exact ownsRow_ext hown hx4
          · have HS := Lib.hid (peaksTo_yes (l := l) (q := fun r => decide (r ∈ cl)) (k := k) hq)
            go_wp2_with (first | (go_at_call 116; refine (HC.out _ hx).mono ?_; rintro e w3 ⟨rfl, hx4⟩; rw [hq]; have hown3 := ownsRow_ext hown hx4) | (at_builtin; go_loud (refine wpList_append_own _ rfl _ _ 37 rfl w2.heap.size 3 i0 (.int .i64 0) 1 8 Tryz.underlying37 hi hz0 hz1 hz2 rfl (by decide) _ _ _ rfl (hown3.alloc _) ⟨w3.heap.size, 0, none⟩ 1 1 [.int .i64 k] rfl rfl (one_cell _ _ _) (by simp [Value.oneCell']) (by unfold maxLen; omega) (by omega) (by simp; have := hx.le; have := hx4.le; omega) ?_); intro v' w4 hown4 hgrow _))
            refine ⟨⟨k + 1, by omega, by go_num, Ext.append ((hx.trans hx4).alloc _) (hown3.alloc _) hgrow (Nat.le_refl _), ?_⟩, by simp [intOf]; omega⟩
            rw [HS.out, List.length_append, intCells_append]; exact hown4
        · go_wp2_with fail
          go_ret2
          have e : k = l.length := by omega
          subst e
          exact ⟨rp, rc, rfl, ownsRow_base hown ((hx3.trans hx1).trans hx2).le, ((hx3.trans hx1).trans hx2).trans hx⟩
    · rw [if_neg (by rw [hfe]; exact hc0)] at hfl
      subst hfe
      subst hfl
      have hn : (F != 0) = true := by rw [bne_iff_ne]; exact hc0
      clear hcls
      go_enter Tryz.func78, Tryz.ntmps78
      go_wp2_with (first | (go_at_call 36; refine hcon.mono ?_; rintro e w1 ⟨lrp, lrc, rfl, ho, hx1⟩; have d0 := hx1.cell0 0; have d1 := hx1.cell0 1; simp at d0 d1) | (go_at_call 115; refine (HCL.out _ (hx3.trans hx1)).mono ?_; rintro e w2 ⟨crp, crc, rfl, hoc, hx2⟩))
      go_ret2
      exact ⟨none, 0, rfl, World.ownsRow_nil _ _ _ _, (hx3.trans hx1).trans hx2⟩
  · have hn : (er != 0) = true := by rw [bne_iff_ne]; exact h0
    rw [if_pos h0] at hfe
    subst hfe
    rw [if_neg h0] at hfl
    subst hfl
    clear hcls
    go_enter Tryz.func78, Tryz.ntmps78
    go_wp2_with (go_at_call 36; refine hcon.mono ?_; rintro e w1 ⟨lrp, lrc, rfl, ho, hx1⟩)
    go_ret2
    exact ⟨none, 0, rfl, World.ownsRow_nil _ _ _ _, hx3.trans hx1⟩

theorem lawI : Keyed Tryz.prog 3 := int_keyed Tryz.underlying3
theorem keyI {i : Nat} (h : i ≤ 64) : keyOf Tryz.prog 3 (.int .i64 (i : Int)) = some (.int .i64 (i : Int)) := keyOf_int_mk Tryz.underlying3 (WalkArith.wf_i64 (by omega))
/-- the set of the first k numbers -/
def setTo (a : List Nat) : Nat → Lit → Option Lit
  | 0 => fun _ => none
  | k + 1 => putFn (setTo a k) (.int .i64 ((nth a k : Nat) : Int)) (.bool true)
theorem setTo_get (a : List Nat) (i : Nat) : ∀ k, (setTo a k (.int .i64 (i : Int))).getD (.bool false) = .bool ((List.range k).any fun j => decide (nth a j = i))
  | 0 => rfl
  | k + 1 => by
    show (putFn _ _ _ _).getD _ = _
    unfold putFn
    rw [List.range_succ, List.any_append]
    by_cases h : i = nth a k
    · rw [if_pos (by rw [h]; exact WideAt.sameKey_self (lit_int_key _ _))]; simp [h]
    · rw [if_neg (fun hs => h (by
        have := WideAt.sameKey_eq hs
        simp only [Lit.int.injEq, true_and] at this
        omega)), setTo_get a i k]
      have e : decide (nth a k = i) = false := decide_eq_false (fun e => h e.symm)
      simp [e]
theorem setTo_mem {a : List Nat} {i : Nat} : (setTo a a.length (.int .i64 (i : Int))).getD (.bool false) = .bool (decide (i ∈ a)) := by
  rw [setTo_get]
  congr 1
  cases h : ((List.range a.length).any fun j => decide (nth a j = i))
  · symm
    apply decide_eq_false
    intro hm
    obtain ⟨j, hj, e⟩ := List.getElem_of_mem hm
    exact any_no h j hj (by rw [nth_eq hj]; exact e)
  · symm
    apply decide_eq_true
    obtain ⟨j, hj, e⟩ := any_yes h
    rw [← e]; exact nth_mem hj
/-- which of a word's letters have the class, as a set of places -/
theorem set_has {l : List Int} {q : Int → Bool} {k : Nat} (hk : k < l.length) : (setTo (peaksTo l q l.length) (peaksTo l q l.length).length (.int .i64 (k : Int))).getD (.bool false) = .bool (q (rn l k)) := by
  rw [setTo_mem]
  congr 1
  rw [Bool.eq_iff_iff, decide_eq_true_iff, mem_peaksTo]
  exact ⟨fun h => h.2, fun h => ⟨hk, h⟩⟩

set_option maxRecDepth 100000 in
set_option maxHeartbeats 2000000 in
theorem parted_any (fp lp : Option Addr) (fc lc : Nat) (A : Alpha) (s : ByteArray) (p : Nat) (hs : s.size ≤ 140737488351232) (hp : p < 4294967296) (w : World) (hA : AlphaAt w fp lp A) (hT : Tabs w) :
    Calls Tryz.prog 40 #[.agg #[.slice fp A.feats.length fc, .slice lp A.lets.length lc], .string s, .int .u32 p] w fun e w' => (radE A s p = 0 → ∃ rp rc mb, e = .returned (.tuple #[.slice rp (spell A s).1.length rc, .map (some mb), .int .i64 0]) ∧ OwnRunes 21 w.heap.size w' rp rc (spell A s).1 ∧ w.heap.size ≤ mb ∧ MapFn Tryz.prog w' 3 4 mb (peaksL A s p).length (setTo (peaksL A s p) (peaksL A s p).length)) ∧ (radE A s p ≠ 0 → e = .returned (.tuple #[.slice none 0 0, .map none, .int .i64 (radE A s p)])) ∧ Ext w w' := by
  have hx3 : Ext w (w.alloc (.cells #[.slice fp A.feats.length fc, .slice lp A.lets.length lc] 25)) := (Ext.refl _).alloc _
  have hcon := letters_any fp lp fc lc A s hs _ (hA.mono hx3) (hT.ext hx3)
  have hpk := fun W hW => peaks_any fp lp fc lc A s p hs hp W (hA.mono hW) (hT.ext hW)
  have HP := Lib.hid hpk
  clear hpk
  have hmm := @run_makeMap Tryz.prog
  have h64 := spell_len A s
  have hfe := radE_eq A s p
  have hpl : (peaksL A s p).length ≤ 64 := by
    unfold peaksL; split
    · exact Nat.le_trans (peaksTo_len _ _ _) h64
    · simp
  have hlb : ∀ k, k < (peaksL A s p).length → nth (peaksL A s p) k ≤ 64 := by
    unfold peaksL; split
    · intro k hk
      have := ((mem_peaksTo _ _ _ _).1 (nth_mem hk)).1
      omega
    · intro k hk; simp at hk
  have HLB := Lib.hid hlb
  clear hlb
  obtain ⟨F, hF⟩ : ∃ F, radE A s p = F := ⟨_, rfl⟩
  obtain ⟨L, hL⟩ : ∃ L, peaksL A s p = L := ⟨_, rfl⟩
  rw [hF] at hfe HP
  rw [hL] at HP hpl HLB
  rw [hF, hL]
  clear hF hL
  obtain ⟨l, hl⟩ : ∃ l, (spell A s).1 = l := ⟨_, rfl⟩
  obtain ⟨er, her⟩ : ∃ er, (spell A s).2 = er := ⟨_, rfl⟩
  rw [hl, her] at hcon
  rw [her] at hfe
  rw [hl] at h64
  rw [hl]
  clear hl her
  by_cases h0 : er = 0
  · subst h0
    rw [if_neg (by decide : ¬ ((0 : Int) ≠ 0))] at hfe
    clear hfe
    by_cases hc0 : F = 0
    · subst hc0
      go_enter Tryz.func40, Tryz.ntmps40
      go_wp2_with (first | (go_at_call 36; refine hcon.mono ?_; rintro e w1 ⟨lrp, lrc, rfl, ho, hx1⟩; have d0 := hx1.cell0 0; have d1 := hx1.cell0 1; simp at d0 d1) | (go_at_call 78; refine (HP.out _ (hx3.trans hx1)).mono ?_; rintro e w2 ⟨prp, prc, rfl, hop, hx2⟩))
      have hrd := ownsRow_reads hop (f := fun j => .int .i64 ((nth L j : Nat) : Int)) (fun j hj => intCells_at (by omega))
      rw [Nat.mul_one] at hrd
      have hle : w.heap.size ≤ w2.heap.size := ((hx3.trans hx1).trans hx2).le
      go_loopw [37] (fun i wr => ∃ k : Nat, k ≤ L.length ∧ i = .int .i64 k ∧ Ext w2 wr ∧ MapFn Tryz.prog wr 3 4 w2.heap.size k (setTo L k)) (fun i _ => L.length - (intOf i).toNat)
      case atStart => exact ⟨0, Nat.zero_le _, rfl, (Ext.refl _).alloc _, MapFn.made Tryz.prog w2 3 4⟩
      case round =>
        obtain ⟨k, hk, rfl, hx, hM⟩ := hrel
        by_cases hlt : k < L.length
        · obtain ⟨b, off, e0, hbw, hcs⟩ := (hrd.mono hx).cells_ hlt
          subst e0
          have c0 := hcs k hlt
          have hkb : nth L k ≤ 64 := HLB.out k hlt
          go_wp2_with (at_mapUpdate; refine wpList_mapUpdate_fn _ rfl _ _ _ 104 rfl 3 4 w2.heap.size k (setTo L k) hM lawI Tryz.underlying104 (by unfold maxLen; omega) rfl _ _ _ (.bool true) rfl rfl (keyI hkb) (plainElem_bool Tryz.underlying4 true) ?_; intro w4 hM2 hg2 hs2)
          exact ⟨⟨k + 1, by omega, by go_num, hx.grown hg2 (by rintro j ⟨⟩; simp), hM2⟩, by simp [intOf]; omega⟩
        · go_wp2_with fail
          go_ret3
          have e : k = L.length := by omega
          subst e
          exact ⟨fun _ => ⟨lrp, lrc, w2.heap.size, rfl, OwnRunes_base ((ho.ext hx2).ext hx) (hx3.le), hle, hM⟩, fun h => absurd rfl h, ((hx3.trans hx1).trans hx2).trans hx⟩
    · have hn : (F != 0) = true := by rw [bne_iff_ne]; exact hc0
      go_enter Tryz.func40, Tryz.ntmps40
      go_wp2_with (first | (go_at_call 36; refine hcon.mono ?_; rintro e w1 ⟨lrp, lrc, rfl, ho, hx1⟩; have d0 := hx1.cell0 0; have d1 := hx1.cell0 1; simp at d0 d1) | (go_at_call 78; refine (HP.out _ (hx3.trans hx1)).mono ?_; rintro e w2 ⟨prp, prc, rfl, hop, hx2⟩))
      go_ret3
      exact ⟨fun h => absurd h hc0, fun _ => rfl, (hx3.trans hx1).trans hx2⟩
  · have hn : (er != 0) = true := by rw [bne_iff_ne]; exact h0
    rw [if_pos h0] at hfe
    subst hfe
    go_enter Tryz.func40, Tryz.ntmps40
    go_wp2_with (go_at_call 36; refine hcon.mono ?_; rintro e w1 ⟨lrp, lrc, rfl, ho, hx1⟩)
    go_ret3
    exact ⟨fun h => absurd h h0, fun _ => rfl, hx3.trans hx1⟩
end Go.Proofs.YtcnhlogkhnoacaaGreatDoor
