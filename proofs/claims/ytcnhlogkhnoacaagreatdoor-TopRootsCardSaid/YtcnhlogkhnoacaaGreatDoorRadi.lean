/- Contracts: radical.Merge, radical.split, radical.Split. -/
import Derived.Test.YtcnhlogkhnoacaaGreatDoorRadh
import Derived.Test.YtcnhlogkhnoacaaGreatDoorRada
import Derived.Laws.IdiomStrings
namespace Go.Proofs.YtcnhlogkhnoacaaGreatDoor
open Go.RowKit Go.Cg Go.Shelf Go.Maps

/-- '[]rune(form)', of a form that may be: a new row of its runes -/
theorem form_row {A : Alpha} {fm : ByteArray} (h : formB A fm = true) (W : World) : ∃ c W', (convert 9 36 (.string fm)).run Tryz.prog W = .ok (.slice (some ⟨W.heap.size, 0, none⟩) (formL A fm).length c) W' ∧ OwnRunes 21 W.heap.size W' (some ⟨W.heap.size, 0, none⟩) c (formL A fm) ∧ Ext W W' := by
  obtain ⟨h1, h2, h3, h4⟩ := form_ok h
  have hz : (Conv.runesFrom fm fm.size 0 #[]).size = (formL A fm).length := by rw [h4]; simp
  have hrun := run_runes_of_string (P := Tryz.prog) W 9 36 21 fm Tryz.underlying9 Tryz.underlying36 Tryz.underlying21 (by rw [hz]; omega)
  rw [hz] at hrun
  have hge := grownCap_ge W (formL A fm).length 0 21
  have hle := grownCap_le_maxLen W (formL A fm).length 0 21 (by unfold maxLen; omega)
  refine ⟨_, _, hrun, ⟨⟨by simp, .inr ⟨W.heap.size, _, _, rfl, Nat.le_refl _, heap_alloc_new W.drew _, hge, hle, ?_, ?_⟩⟩, by omega, ?_⟩, ((Ext.refl W).drew).alloc _⟩
  · rw [h4]; simp; omega
  · rw [h4]; simp
  · exact mem_rn (q := fun r => -2147483648 ≤ r ∧ r ≤ 2147483647) fun r hr => by have := (h2 r hr).2; omega

set_option maxRecDepth 100000 in
set_option maxHeartbeats 2000000 in
theorem split_any (lp fp : Option Addr) (lc fc : Nat) (l f : List Int) (hl : l.length ≤ 64) (_hf : f.length ≤ 65) (w : World) (hL : RunesAt w lp l) (hF : RunesAt w fp f) :
    Calls Tryz.prog 39 #[.slice lp l.length lc, .slice fp f.length fc] w fun e w' => e = .returned (.tuple #[.string (if fitsB l f = true then runesBytes (atHoles l f f.length) else ⟨#[]⟩), .bool (fitsB l f)]) ∧ Ext w w' := by
  by_cases hlen : l.length = f.length
  · have g0 : ((l.length : Int) != f.length) = false := by rw [hlen]; simp
    have hfit := fun h2 => fits_yes (l := l) (f := f) hlen h2
    have hno := fun i hi h1 h2 => fits_no (l := l) (f := f) (i := i) hi h1 h2
    obtain ⟨B, hB⟩ : ∃ B, fitsB l f = B := ⟨_, rfl⟩
    rw [hB] at hfit hno ⊢
    have HFIT := Lib.hid hfit
    have HNO := Lib.hid hno
    clear hfit hno hB
    go_enter Tryz.func39, Tryz.ntmps39
    go_wp2_with fail
    go_loopw [6, 16] (fun root i wr => ∃ k : Nat, k ≤ f.length ∧ i = .int .i64 k ∧ root = .string (runesBytes (atHoles l f k)) ∧ Ext w wr ∧ Hid (∀ j, j < k → rn f j = 95 ∨ rn f j = rn l j)) (fun _ i _ => f.length - (intOf i).toNat)
    case atStart => exact ⟨0, Nat.zero_le _, rfl, rfl, Ext.refl _, fun j hj => by omega⟩
    case round =>
      obtain ⟨k, hk, rfl, rfl, hx, HN⟩ := hrel
      by_cases hlt : k < f.length
      · obtain ⟨b, off, e0, hbw, c0⟩ := (hF.mono hx).cells hlt
        subst e0
        obtain ⟨b2, off2, e1, hbw2, c2⟩ := (hL.mono hx).cells (show k < l.length by omega)
        subst e1
        cases he : (rn f k == 95)
        · cases he2 : (rn f k == rn l k)
          · have hb := HNO.out k hlt (by simpa using he) (by simpa using he2)
            subst hb
            go_wp2_with fail
            go_ret2
            exact ⟨rfl, hx⟩
          · have HS := Lib.hid (atHoles_no (l := l) (f := f) (k := k) (by simpa using he))
            go_wp2_with fail
            refine ⟨⟨k + 1, by omega, by go_num, by rw [HS.out], hx, upto_succ HN.out (.inr (by simpa using he2))⟩, by simp [intOf]; omega⟩
        · have hst : runesBytes (atHoles l f (k + 1)) = runesBytes (atHoles l f k) ++ Utf8.encode (rn l k) := by
            rw [atHoles_yes (by simpa using he), rb_append, rb_cons, rb_nil, ByteArray.append_empty]
          have HS := Lib.hid hst
          clear hst
          have hs1 := runesBytes_size_le (atHoles l f k)
          have hs2 := atHoles_le l f k
          have hs3 := enc_size_le (rn l k)
          have hs4 : ((runesBytes (atHoles l f k)).size : Int) ≤ 8388608 := by omega
          have hs5 : ((Utf8.encode (rn l k)).size : Int) ≤ 8388608 := by omega
          have hs6 : (runesBytes (atHoles l f k)).size + (Utf8.encode (rn l k)).size ≤ 9223372036854775807 := by omega
          go_wp2_with fail
          refine ⟨⟨k + 1, by omega, by go_num, by rw [HS.out], hx, upto_succ HN.out (.inl (by simpa using he))⟩, by simp [intOf]; omega⟩
      · have e : k = f.length := by omega
        subst e
        have hb := HFIT.out fun j hj => HN.out j hj
        subst hb
        go_wp2_with fail
        go_ret2
        exact ⟨rfl, hx⟩
  · have g0 : ((l.length : Int) != f.length) = true := by rw [bne_iff_ne]; omega
    rw [fits_len hlen]
    go_enter Tryz.func39, Tryz.ntmps39
    go_wp2_with fail
    go_ret2
    exact ⟨rfl, Ext.refl _⟩

def splitE (A : Alpha) (s nm fm : ByteArray) : Int := if (spell A s).2 ≠ 0 then (spell A s).2 else if nmB nm = true ∧ formB A fm = true then 0 else 130
def splitB (A : Alpha) (s nm fm : ByteArray) : Bool := decide (splitE A s nm fm = 0) && fitsB (spell A s).1 (formL A fm)
def splitS (A : Alpha) (s nm fm : ByteArray) : ByteArray := if splitB A s nm fm = true then runesBytes (atHoles (spell A s).1 (formL A fm) (formL A fm).length) else ⟨#[]⟩
theorem splitE_eq (A : Alpha) (s nm fm : ByteArray) : splitE A s nm fm = if (spell A s).2 ≠ 0 then (spell A s).2 else if nmB nm = true ∧ formB A fm = true then 0 else 130 := rfl
theorem splitB_eq (A : Alpha) (s nm fm : ByteArray) : splitB A s nm fm = (decide (splitE A s nm fm = 0) && fitsB (spell A s).1 (formL A fm)) := rfl
theorem splitS_eq (A : Alpha) (s nm fm : ByteArray) : splitS A s nm fm = if splitB A s nm fm = true then runesBytes (atHoles (spell A s).1 (formL A fm) (formL A fm).length) else ⟨#[]⟩ := rfl

set_option maxRecDepth 100000 in
set_option maxHeartbeats 2000000 in
theorem split_word_any (fp lp : Option Addr) (fc lc : Nat) (A : Alpha) (s nm fm : ByteArray) (hs : s.size ≤ 140737488351232) (hn : nm.size ≤ 140737488351232) (hf : fm.size ≤ 140737488351232) (w : World) (hA : AlphaAt w fp lp A) (hT : Tabs w) :
    Calls Tryz.prog 16 #[.agg #[.slice fp A.feats.length fc, .slice lp A.lets.length lc], .string s, .agg #[.string nm, .string fm]] w fun e w' => e = .returned (.tuple #[.string (splitS A s nm fm), .bool (splitB A s nm fm), .int .i64 (splitE A s nm fm)]) ∧ Ext w w' := by
  have hx4 : Ext w ((w.alloc (.cells #[.slice fp A.feats.length fc, .slice lp A.lets.length lc] 25)).alloc (.cells #[.string nm, .string fm] 41)) := ((Ext.refl _).alloc _).alloc _
  have hxb : Ext (w.alloc (.cells #[.slice fp A.feats.length fc, .slice lp A.lets.length lc] 25)) ((w.alloc (.cells #[.slice fp A.feats.length fc, .slice lp A.lets.length lc] 25)).alloc (.cells #[.string nm, .string fm] 41)) := (Ext.refl _).alloc _
  have hbx : ∀ W, Ext ((w.alloc (.cells #[.slice fp A.feats.length fc, .slice lp A.lets.length lc] 25)).alloc (.cells #[.string nm, .string fm] 41)) W → W.cell? ⟨w.heap.size + 1, 0, none⟩ = some (.string nm) ∧ W.cell? ⟨w.heap.size + 1, 1, none⟩ = some (.string fm) ∧ W.cell? ⟨w.heap.size, 0, none⟩ = some (.slice fp A.feats.length fc) ∧ W.cell? ⟨w.heap.size, 1, none⟩ = some (.slice lp A.lets.length lc) ∧ w.heap.size + 1 < W.heap.size := fun W hW => by
    have e0 := hW.cell0 0
    have e1 := hW.cell0 1
    have b0 := (hxb.trans hW).cell0 0
    have b1 := (hxb.trans hW).cell0 1
    have l0 := hW.lt0
    rw [size_alloc] at e0 e1 l0
    exact ⟨e0, e1, b0, b1, l0⟩
  have HBX := Lib.hid hbx
  clear hbx
  have hcon := letters_any fp lp fc lc A s hs _ (hA.mono hx4) (hT.ext hx4)
  have hck := fun W hW => shapeCheck_any fp lp fc lc A nm fm hn hf W (hA.mono hW) (hT.ext hW)
  have h64 := spell_len A s
  have hO := fun (h : (spell A s).2 = 0) => (spell_ok h).1
  have hfe := splitE_eq A s nm fm
  have hfb := splitB_eq A s nm fm
  have hfs := splitS_eq A s nm fm
  obtain ⟨F, hF⟩ : ∃ F, splitE A s nm fm = F := ⟨_, rfl⟩
  obtain ⟨B, hB⟩ : ∃ B, splitB A s nm fm = B := ⟨_, rfl⟩
  obtain ⟨S, hS⟩ : ∃ S, splitS A s nm fm = S := ⟨_, rfl⟩
  rw [hF] at hfe hfb
  rw [hB] at hfb hfs
  rw [hS] at hfs
  rw [hF, hB, hS]
  clear hF hB hS
  obtain ⟨l, hl⟩ : ∃ l, (spell A s).1 = l := ⟨_, rfl⟩
  obtain ⟨er, her⟩ : ∃ er, (spell A s).2 = er := ⟨_, rfl⟩
  rw [hl, her] at hcon
  rw [her] at hfe hO
  rw [hl] at hfb hfs h64
  clear hl her
  by_cases h0 : er = 0
  · subst h0
    rw [if_neg (by decide : ¬ ((0 : Int) ≠ 0))] at hfe
    have hok := hO rfl
    clear hO
    by_cases hsh : nmB nm = true ∧ formB A fm = true
    · rw [if_pos hsh] at hfe
      subst hfe
      rw [decide_eq_true rfl, Bool.true_and] at hfb
      rw [shapeE_ok hok hsh] at hck
      have hfr := fun W => form_row hsh.2 W
      have hfl := formL_len A fm
      obtain ⟨f, hff⟩ : ∃ f, formL A fm = f := ⟨_, rfl⟩
      rw [hff] at hfr hfl hfb hfs
      have hsp := fun lp lc fp fc W hL hF => split_any lp fp lc fc l f h64 hfl W hL hF
      rw [← hfb, ← hfs] at hsp
      have HFR := Lib.hid hfr
      have HCK := Lib.hid hck
      have HSP := Lib.hid hsp
      clear hfr hck hsp hff hsh hok hfb hfs
      go_enter Tryz.func16, Tryz.ntmps16
      go_wp2_with (first | (go_at_call 36; refine hcon.mono ?_; rintro e w1 ⟨lrp, lrc, rfl, ho, hx1⟩; obtain ⟨e0, e1, b0, b1, l0⟩ := HBX.out _ hx1) | (go_at_call 37; refine (HCK.out _ (hx4.trans hx1)).mono ?_; rintro e w2 ⟨rfl, hx2⟩; obtain ⟨e0, e1, b0, b1, l0⟩ := HBX.out _ (hx1.trans hx2); obtain ⟨cc, w3, hcv, hof, hx3⟩ := HFR.out w2) | (go_at_call 39; refine (HSP.out _ _ _ _ _ ((ho.at_.mono hx2).mono hx3) hof.at_).mono ?_; rintro e w5 ⟨rfl, hx5⟩))
      go_ret3
      exact ⟨rfl, (((hx4.trans hx1).trans hx2).trans hx3).trans hx5⟩
    · rw [if_neg hsh] at hfe
      subst hfe
      rw [decide_eq_false (by decide), Bool.false_and] at hfb
      subst hfb
      rw [if_neg (by decide)] at hfs
      subst hfs
      rw [shapeE_no hok hsh] at hck
      have HCK := Lib.hid hck
      clear hck hsh hok
      go_enter Tryz.func16, Tryz.ntmps16
      go_wp2_with (first | (go_at_call 36; refine hcon.mono ?_; rintro e w1 ⟨lrp, lrc, rfl, ho, hx1⟩; obtain ⟨e0, e1, b0, b1, l0⟩ := HBX.out _ hx1) | (go_at_call 37; refine (HCK.out _ (hx4.trans hx1)).mono ?_; rintro e w2 ⟨rfl, hx2⟩; obtain ⟨e0, e1, b0, b1, l0⟩ := HBX.out _ (hx1.trans hx2)))
      go_ret3
      exact ⟨rfl, (hx4.trans hx1).trans hx2⟩
  · have hn0 : (er != 0) = true := by rw [bne_iff_ne]; exact h0
    rw [if_pos h0] at hfe
    subst hfe
    rw [decide_eq_false h0, Bool.false_and] at hfb
    subst hfb
    rw [if_neg (by decide)] at hfs
    subst hfs
    clear hO hck
    go_enter Tryz.func16, Tryz.ntmps16
    go_wp2_with (go_at_call 36; refine hcon.mono ?_; rintro e w1 ⟨lrp, lrc, rfl, ho, hx1⟩)
    go_ret3
    exact ⟨rfl, hx4.trans hx1⟩

end Go.Proofs.YtcnhlogkhnoacaaGreatDoor
