/- Contracts: cognateref13.parted, Radicals, Shape. -/
import Derived.Test.YtnngljflnfjppaaDoorRadc
import Derived.Test.YtnngljflnfjppaaDoorRada
import Derived.Test.YtnngljflnfjppaaDoorRegt
import Derived.Test.YtnngljflnfjppaaDoorHeld
namespace Go.Cg
open Go.RowKit Go.Lib
theorem ownsRow_some {w : World} {B : Nat} {e : TypeId} {size n : Nat} {p : Option Addr} {c : Nat} {xs : List Value} (h : w.ownsRow B e size (.slice p n c) n xs) (h0 : 0 < n) : ∃ g, p = some ⟨g, 0, none⟩ ∧ n ≤ c ∧ B ≤ g := by
  rcases h.2 with ⟨_, hn⟩ | ⟨g, cap, cur, hv, hb, hg, hn, hc, _⟩
  · omega
  · simp only [Value.slice.injEq, true_and] at hv
    obtain ⟨rfl, rfl⟩ := hv
    exact ⟨g, rfl, hn, hb⟩
/-- the cells of a row of bools: of which letters has the class -/
def boolCells (l : List Int) (q : Int → Bool) (k : Nat) : List Value := (l.take k).map fun r => .bool (q r)
theorem boolCells_zero (l : List Int) (q : Int → Bool) : boolCells l q 0 = [] := rfl
theorem boolCells_succ {l : List Int} {q : Int → Bool} {k : Nat} (h : k < l.length) : boolCells l q (k + 1) = boolCells l q k ++ [.bool (q (rn l k))] := by
  unfold boolCells; rw [take_rn h, List.map_append]; rfl
theorem boolCells_at {l : List Int} {q : Int → Bool} {j k : Nat} (h : j < k) (hk : k ≤ l.length) : (boolCells l q k)[j]? = some (.bool (q (rn l j))) := by
  unfold boolCells
  rw [List.getElem?_map, List.getElem?_take, if_pos h, List.getElem?_eq_getElem (by omega), rn_eq (by omega)]; rfl
end Go.Cg
namespace Go.Proofs.YtnngljflnfjppaaDoor
open Go.RowKit Go.Cg Go.Shelf Go.Maps

theorem infoBo : (Tryd.prog.info? 4).map (fun i => (i.zero, i.size, i.bytes)) = some (some (.bool false), 1, 1) := by kernel_rfl
theorem classE_may {A : Alpha} (hA : A.Ok) (p : Nat) : classE A p 0 = if mayB A.feats.length p 0 = true then 0 else 20 := by unfold classE; rw [if_pos hA]

set_option maxRecDepth 100000 in
set_option maxHeartbeats 2000000 in
theorem parted13_any (fp lp : Option Addr) (fc lc : Nat) (A : Alpha) (s : ByteArray) (p : Nat) (hs : s.size ≤ 140737488351232) (hp : p < 4294967296) (w : World) (hA : AlphaAt w fp lp A) (hT : Tabs w) :
    Calls Tryd.prog 47 #[.agg #[.slice fp A.feats.length fc, .slice lp A.lets.length lc], .string s, .int .u32 p] w fun e w' => (radE A s p = 0 → ∃ rp rc bp bc, e = .returned (.tuple #[.slice rp (spell A s).1.length rc, .slice bp (spell A s).1.length bc, .int .i64 0]) ∧ OwnRunes 21 w.heap.size w' rp rc (spell A s).1 ∧ w'.ownsRow w.heap.size 4 1 (.slice bp (spell A s).1.length bc) (spell A s).1.length (boolCells (spell A s).1 (hasL A p 0) (spell A s).1.length) ∧ (∀ g k, rp = some ⟨g, 0, none⟩ → bp = some ⟨k, 0, none⟩ → g ≠ k)) ∧ (radE A s p ≠ 0 → e = .returned (.tuple #[.slice none 0 0, .slice none 0 0, .int .i64 (radE A s p)])) ∧ Ext w w' := by
  have hx3 : Ext w (w.alloc (.cells #[.slice fp A.feats.length fc, .slice lp A.lets.length lc] 26)) := (Ext.refl _).alloc _
  obtain ⟨i0, hi, hz0, hz1, hz2⟩ := info_parts infoBo
  have hcon := Letters_any fp lp fc lc A s hs _ (hA.mono hx3) (hT.ext hx3)
  have hfb := hA.fbig
  have h64 := spell_len A s
  have hfe := radE_eq A s p
  have hce := fun (h : (spell A s).2 = 0) => classE_may (spell_ok h).1 p
  obtain ⟨F, hF⟩ : ∃ F, radE A s p = F := ⟨_, rfl⟩
  rw [hF] at hfe ⊢
  clear hF
  obtain ⟨l, hl⟩ : ∃ l, (spell A s).1 = l := ⟨_, rfl⟩
  obtain ⟨er, her⟩ : ∃ er, (spell A s).2 = er := ⟨_, rfl⟩
  rw [hl, her] at hcon
  rw [her] at hfe hce
  rw [hl] at h64 ⊢
  clear hl her
  by_cases h0 : er = 0
  · subst h0
    rw [if_neg (by decide : ¬ ((0 : Int) ≠ 0)), hce rfl] at hfe
    clear hce
    cases hmay : mayB A.feats.length p 0
    · rw [hmay, if_neg (by decide)] at hfe
      subst hfe
      go_enter Tryd.func47, Tryd.ntmps47
      go_wp2_with (first | (go_at_call 49; refine hcon.mono ?_; rintro e w1 ⟨lrp, lrc, rfl, ho, hx1⟩; have d0 := hx1.cell0 0; have d1 := hx1.cell0 1; have l0 := hx1.lt0; simp at d0 d1) | (go_at_call 71; refine (May_any _ _ _ _ p 0 hp (by decide) hfb _).mono ?_; rintro e w2 ⟨rfl, hx2⟩; rw [hmay]))
      go_ret3
      exact ⟨fun h => absurd h (by decide), fun _ => rfl, (hx3.trans hx1).trans hx2⟩
    · rw [hmay, if_pos rfl] at hfe
      subst hfe
      have hhas := fun r W hW => Has03_any fp lp fc lc A r p hp W (hA.mono hW)
      obtain ⟨q, hq⟩ : ∃ q, hasL A p 0 = q := ⟨_, rfl⟩
      rw [hq] at hhas ⊢
      clear hq
      have HH := Lib.hid hhas
      clear hhas
      go_enter Tryd.func47, Tryd.ntmps47
      go_wp2_with (first | (go_at_call 49; refine hcon.mono ?_; rintro e w1 ⟨lrp, lrc, rfl, ho, hx1⟩; have d0 := hx1.cell0 0; have d1 := hx1.cell0 1; have l0 := hx1.lt0; simp at d0 d1) | (go_at_call 71; refine (May_any _ _ _ _ p 0 hp (by decide) hfb _).mono ?_; rintro e w2 ⟨rfl, hx2⟩; rw [hmay]))
      clear d0 d1 l0
      have hxw : Ext w w2 := (hx3.trans hx1).trans hx2
      have hxb : Ext (w.alloc (.cells #[.slice fp A.feats.length fc, .slice lp A.lets.length lc] 26)) w2 := hx1.trans hx2
      have hlg : 0 < l.length → ∃ g, lrp = some ⟨g, 0, none⟩ ∧ l.length ≤ lrc ∧ (w.alloc (.cells #[.slice fp A.feats.length fc, .slice lp A.lets.length lc] 26)).heap.size ≤ g := OwnRunes_some ho
      have hg2 : ∀ g, lrp = some ⟨g, 0, none⟩ → g < w2.heap.size := fun g hg => by
        have := (ho.1.lt g (by rw [hg]; rfl)).2
        exact Nat.lt_of_lt_of_le this hx2.le
      have HL := Lib.hid hlg
      have HG := Lib.hid hg2
      clear hlg hg2 hcon
      go_loopw [11, 12] (fun out i wr => ∃ k : Nat, k ≤ l.length ∧ i = .int .i64 k ∧ Ext w2 wr ∧ wr.ownsRow w2.heap.size 4 1 out k (boolCells l q k)) (fun _ i _ => l.length - (intOf i).toNat)
      case atStart => exact ⟨0, Nat.zero_le _, rfl, Ext.refl _, World.ownsRow_nil _ _ _ _⟩
      case round =>
        obtain ⟨k, hk, rfl, hx, hown⟩ := hrel
        obtain ⟨rp, rc, rfl⟩ := ownsRow_slice hown
        by_cases hlt : k < l.length
        · obtain ⟨b, off, e0, hbw, c0⟩ := (ho.at_.mono (hx2.trans hx)).cells hlt
          have hbw2 : b < w2.heap.size := by
            obtain ⟨g, e1, _, _⟩ := HL.out (by omega)
            rw [e0] at e1
            cases e1
            exact HG.out b e0
          subst e0
          have d0 := (hxb.trans hx).cell0 0
          have d1 := (hxb.trans hx).cell0 1
          have l0 := (hxb.trans hx).lt0
          simp at d0 d1
          have HS := Lib.hid (boolCells_succ (q := q) hlt)
          have HH2 := Lib.hid (fun W (hW : Ext wr W) => HH.out (rn l k) W (hxw.trans (hx.trans hW)))
          go_wp2_with fail
          have hS4 := fun (W : World) (hW : Ext w2 W) => (⟨hW, (hxb.trans hW).cell0 0, (hxb.trans hW).cell0 1, (hW.facts.1 b (off + k) hbw2).trans ((hx.facts.1 b (off + k) hbw2).symm.trans c0)⟩ : Ext w2 W ∧ W.cell? ⟨w.heap.size, 0, none⟩ = some (.slice fp A.feats.length fc) ∧ W.cell? ⟨w.heap.size, 1, none⟩ = some (.slice lp A.lets.length lc) ∧ W.cell? ⟨b, off + k, none⟩ = some (.int .i32 (rn l k)))
          have HS4 := Lib.hid hS4
          clear hS4
          go_region_held3 (fun W => Ext w2 W ∧ W.cell? ⟨w.heap.size, 0, none⟩ = some (.slice fp A.feats.length fc) ∧ W.cell? ⟨w.heap.size, 1, none⟩ = some (.slice lp A.lets.length lc) ∧ W.cell? ⟨b, off + k, none⟩ = some (.int .i32 (rn l k))) (exact HS4.out _ (by first | assumption | exact hx.drew | exact hx.trans hE5 | exact (hx.trans hE5).alloc _))
            (first
              | (go_at_call 72; refine (HH2.out _ (Ext.refl _).drew).mono ?_; rintro e w5 ⟨rfl, hq5⟩; have hE5 : Ext wr w5 := ((Ext.refl _).drew).trans hq5)
              | (rw [if_pos (by rfl)]; refine wp_append_own _ _ _ 84 rfl w2.heap.size 4 i0 (.bool false) 1 1 Tryd.underlying84 hi hz0 hz1 hz2 rfl (by decide) (.slice rp k rc) k (boolCells l q k) (by rfl) ((ownsRow_ext hown hE5).alloc _) ⟨w5.heap.size, 0, none⟩ 1 1 [.bool (q (rn l k))] (by rfl) rfl (one_cell w5 (.bool (q (rn l k))) 4) (by simp [Value.oneCell']) (by unfold maxLen; omega) (by omega) (by simp; have := hx.le; have := hE5.le; omega) ?_; intro v' w4 hown4 hgrow _; have hE4 : Ext w2 w4 := Ext.append ((hx.trans hE5).alloc _) ((ownsRow_ext hown hE5).alloc _) hgrow (Nat.le_refl _)))
          go_wp2_with fail
          refine ⟨⟨k + 1, by omega, by go_num, hE4, ?_⟩, by simp [intOf]; omega⟩
          rw [HS.out]; exact hown4
        · have e : k = l.length := by omega
          subst e
          go_wp2_with fail
          go_ret3
          refine ⟨fun _ => ⟨lrp, lrc, rp, rc, rfl, OwnRunes_base ((ho.ext hx2).ext hx) hx3.le, ownsRow_base hown hxw.le, fun g k hg hk he => ?_⟩, fun h => absurd rfl h, hxw.trans hx⟩
          subst he hg hk
          have := (hown.lt g rfl).1
          have h2 := HG.out g rfl
          omega
  · have hn : (er != 0) = true := by rw [bne_iff_ne]; exact h0
    rw [if_pos h0] at hfe
    subst hfe
    clear hce
    go_enter Tryd.func47, Tryd.ntmps47
    go_wp2_with (go_at_call 49; refine hcon.mono ?_; rintro e w1 ⟨lrp, lrc, rfl, ho, hx1⟩)
    go_ret3
    exact ⟨fun h => absurd h h0, fun _ => rfl, hx3.trans hx1⟩


set_option maxRecDepth 100000 in
set_option maxHeartbeats 2000000 in
theorem Radicals13_any (fp lp : Option Addr) (fc lc : Nat) (A : Alpha) (s : ByteArray) (p : Nat) (hs : s.size ≤ 140737488351232) (hp : p < 4294967296) (w : World) (hA : AlphaAt w fp lp A) (hT : Tabs w) :
    Calls Tryd.prog 14 #[.agg #[.slice fp A.feats.length fc, .slice lp A.lets.length lc], .string s, .int .u32 p] w fun e w' => e = .returned (.tuple #[.string (radS A s p), .int .i64 (radE A s p)]) ∧ Ext w w' := by
  have hx3 : Ext w (w.alloc (.cells #[.slice fp A.feats.length fc, .slice lp A.lets.length lc] 26)) := (Ext.refl _).alloc _
  obtain ⟨i0, hi, hz0, hz1, hz2⟩ := info_parts infoR
  have hcon := parted13_any fp lp fc lc A s p hs hp _ (hA.mono hx3) (hT.ext hx3)
  have h64 := spell_len A s
  have hfs := radS_eq A s p
  obtain ⟨F, hF⟩ : ∃ F, radE A s p = F := ⟨_, rfl⟩
  obtain ⟨S, hS⟩ : ∃ S, radS A s p = S := ⟨_, rfl⟩
  rw [hF] at hfs hcon
  rw [hS] at hfs
  rw [hF, hS]
  clear hF hS
  obtain ⟨l, hl⟩ : ∃ l, (spell A s).1 = l := ⟨_, rfl⟩
  rw [hl] at hcon h64 hfs
  clear hl
  by_cases h0 : F = 0
  · subst h0
    rw [if_pos rfl] at hfs
    obtain ⟨q, hq⟩ : ∃ q, hasL A p 0 = q := ⟨_, rfl⟩
    rw [hq] at hcon hfs
    clear hq
    rw [← keepTo_all] at hfs
    subst hfs
    go_enter Tryd.func14, Tryd.ntmps14
    go_wp2_with (go_at_call 47; refine hcon.mono ?_; rintro e w1 ⟨hok, _, hx1⟩; obtain ⟨lrp, lrc, bp, bc, rfl, ho, hob, hne⟩ := hok rfl; clear hok)
    have hrb := ownsRow_reads hob (f := fun j => .bool (q (rn l j))) (fun j hj => boolCells_at (by omega) (Nat.le_refl _))
    rw [Nat.mul_one] at hrb
    go_loopw [11, 12] (fun out i wr => ∃ k : Nat, k ≤ l.length ∧ i = .int .i64 k ∧ Ext w1 wr ∧ wr.ownsRow w1.heap.size 21 1 out (keepTo l q k).length ((keepTo l q k).map (Value.int .i32))) (fun _ i _ => l.length - (intOf i).toNat)
    case atStart => exact ⟨0, Nat.zero_le _, rfl, Ext.refl _, World.ownsRow_nil _ _ _ _⟩
    case round =>
      obtain ⟨k, hk, rfl, hx, hown⟩ := hrel
      obtain ⟨rp, rc, rfl⟩ := ownsRow_slice hown
      by_cases hlt : k < l.length
      · obtain ⟨b, off, e0, hbw, c0⟩ := (ho.at_.mono hx).cells hlt
        subst e0
        obtain ⟨b2, off2, e1, hbw2, hcs⟩ := (hrb.mono hx).cells_ hlt
        subst e1
        have c2 := hcs k hlt
        have hlen := keepTo_len l q k
        clear hcs
        cases hq : q (rn l k)
        · rw [hq] at c2
          have HS := Lib.hid (keepTo_yes hlt hq)
          go_wp2_with (at_builtin; go_loud (refine wpList_append_own _ rfl _ _ 33 rfl w1.heap.size 21 i0 (.int .i32 0) 1 4 Tryd.underlying33 hi hz0 hz1 hz2 rfl (by decide) _ _ _ rfl (hown.alloc _) ⟨wr.heap.size, 0, none⟩ 1 1 [.int .i32 (rn l k)] rfl rfl (one_cell _ _ _) (by simp [Value.oneCell']) (by unfold maxLen; omega) (by omega) (by simp; have := hx.le; omega) ?_); intro v' w4 hown4 hgrow _)
          refine ⟨⟨k + 1, by omega, by go_num, Ext.append (hx.alloc _) (hown.alloc _) hgrow (Nat.le_refl _), ?_⟩, by simp [intOf]; omega⟩
          rw [HS.out, List.length_append, List.map_append]; exact hown4
        · rw [hq] at c2
          have HS := Lib.hid (keepTo_no hlt hq)
          go_wp2_with fail
          refine ⟨⟨k + 1, by omega, by go_num, hx, ?_⟩, by simp [intOf]; omega⟩
          rw [HS.out]; exact hown
      · have e : k = l.length := by omega
        subst e
        have hlen := keepTo_len l q l.length
        have hwf : ∀ r ∈ keepTo l q l.length, -2147483648 ≤ r ∧ r ≤ 2147483647 := fun r hr => by
          obtain ⟨j, hj, e⟩ := List.getElem_of_mem (keepTo_mem hr)
          have := ho.2.2 j hj
          rwa [rn_eq hj, e] at this
        have hor : OwnRunes 21 w1.heap.size wr rp rc (keepTo l q l.length) := ⟨hown, by omega, mem_rn hwf⟩
        have htx := Text_any rp rc _ (by omega) wr hor.at_
        have HTX := Lib.hid htx
        clear htx
        go_wp2_with (go_at_call 48; refine HTX.out.mono ?_; rintro e w5 ⟨rfl, hx5⟩)
        go_ret2
        exact ⟨rfl, ((hx3.trans hx1).trans hx).trans hx5⟩
  · have hn : (F != 0) = true := by rw [bne_iff_ne]; exact h0
    rw [if_neg h0] at hfs
    subst hfs
    go_enter Tryd.func14, Tryd.ntmps14
    go_wp2_with (go_at_call 47; refine hcon.mono ?_; rintro e w1 ⟨_, hno, hx1⟩; obtain rfl := hno h0)
    go_ret2
    exact ⟨rfl, hx3.trans hx1⟩

set_option maxRecDepth 100000 in
set_option maxHeartbeats 2000000 in
theorem Shape13_any (fp lp : Option Addr) (fc lc : Nat) (A : Alpha) (s : ByteArray) (p : Nat) (hs : s.size ≤ 140737488351232) (hp : p < 4294967296) (w : World) (hA : AlphaAt w fp lp A) (hT : Tabs w) :
    Calls Tryd.prog 16 #[.agg #[.slice fp A.feats.length fc, .slice lp A.lets.length lc], .string s, .int .u32 p] w fun e w' => e = .returned (.tuple #[.agg #[.string ⟨#[]⟩, .string (shapeS A s p)], .int .i64 (radE A s p)]) ∧ Ext w w' := by
  have hx4 : Ext w ((w.alloc (.cells #[.slice fp A.feats.length fc, .slice lp A.lets.length lc] 26)).alloc (.cells #[.string ⟨#[]⟩, .string ⟨#[]⟩] 41)) := ((Ext.refl _).alloc _).alloc _
  have hcon := parted13_any fp lp fc lc A s p hs hp _ (hA.mono hx4) (hT.ext hx4)
  have h64 := spell_len A s
  have hfs := shapeS_eq A s p
  obtain ⟨F, hF⟩ : ∃ F, radE A s p = F := ⟨_, rfl⟩
  obtain ⟨S, hS⟩ : ∃ S, shapeS A s p = S := ⟨_, rfl⟩
  rw [hF] at hfs hcon
  rw [hS] at hfs
  rw [hF, hS]
  clear hF hS
  obtain ⟨l, hl⟩ : ∃ l, (spell A s).1 = l := ⟨_, rfl⟩
  rw [hl] at hcon h64 hfs
  clear hl
  have hcell : ((w.alloc (.cells #[.slice fp A.feats.length fc, .slice lp A.lets.length lc] 26)).alloc (.cells #[.string ⟨#[]⟩, .string ⟨#[]⟩] 41)).heap[w.heap.size + 1]? = some (.cells #[.string ⟨#[]⟩, .string ⟨#[]⟩] 41 (0, 0)) := heap_alloc2_new _ _ _
  obtain ⟨W0, hW0⟩ : ∃ W0, (w.alloc (.cells #[.slice fp A.feats.length fc, .slice lp A.lets.length lc] 26)).alloc (.cells #[.string ⟨#[]⟩, .string ⟨#[]⟩] 41) = W0 := ⟨_, rfl⟩
  have hsz0 : W0.heap.size = w.heap.size + 1 + 1 := by rw [← hW0, size_alloc, size_alloc]
  have HW0 := Lib.hid hW0
  clear hW0
  by_cases h0 : F = 0
  · subst h0
    rw [if_pos rfl] at hfs
    obtain ⟨q, hq⟩ : ∃ q, hasL A p 0 = q := ⟨_, rfl⟩
    rw [hq] at hcon hfs
    clear hq
    rw [← holesTo_all] at hfs
    subst hfs
    go_enter Tryd.func16, Tryd.ntmps16
    go_wp2_with (go_at_call 47; refine hcon.mono ?_; rintro e w1 ⟨hok, _, hx1⟩; obtain ⟨lrp, lrc, bp, bc, rfl, ho, hob, hne⟩ := hok rfl; clear hok)
    rw [HW0.out] at ho hob hx1 hx4 hcell
    clear hcon
    have hlg : 0 < l.length → ∃ g, lrp = some ⟨g, 0, none⟩ ∧ l.length ≤ lrc ∧ W0.heap.size ≤ g := OwnRunes_some ho
    have hbg : 0 < l.length → ∃ g, bp = some ⟨g, 0, none⟩ ∧ l.length ≤ bc ∧ W0.heap.size ≤ g := ownsRow_some hob
    have hwf0 := ho.2.2
    have HNE := Lib.hid hne
    clear hne
    go_loopw [11] (fun i wr => ∃ k : Nat, k ≤ l.length ∧ i = .int .i64 k ∧ Ext W0 wr ∧ wr.ownsRow W0.heap.size 21 1 (.slice lrp l.length lrc) l.length ((holesTo l q k).map (Value.int .i32)) ∧ wr.ownsRow W0.heap.size 4 1 (.slice bp l.length bc) l.length (boolCells l q l.length)) (fun i _ => l.length - (intOf i).toNat)
    case atStart => exact ⟨0, Nat.zero_le _, rfl, hx1, ho.1, hob⟩
    case round =>
      clear hob ho
      obtain ⟨k, hk, rfl, hx, hown, hob⟩ := hrel
      by_cases hlt : k < l.length
      · obtain ⟨g, e0, hgc, hgb⟩ := hlg (by omega)
        subst e0
        obtain ⟨g2, e1, hgc2, hgb2⟩ := hbg (by omega)
        subst e1
        have hne : g ≠ g2 := HNE.out g g2 rfl rfl
        have c2 := hob.cellAt k (by omega)
        rw [boolCells_at hlt (Nat.le_refl _)] at c2
        have hlw2 := (hob.lt g2 rfl).2
        cases hq : q (rn l k)
        · rw [hq] at c2
          have hst : (holesTo l q (k + 1)).map (Value.int .i32) = ((holesTo l q k).map (Value.int .i32)).set k (.int .i32 95) := by rw [holesTo_no hlt hq, List.map_set]
          have HS := Lib.hid hst
          clear hst
          have c0 := hown.cellAt k (by omega)
          have f0 := hown.frozenAt k
          have hlw := (hown.lt g rfl).2
          rw [List.getElem?_map, List.getElem?_eq_getElem (by rw [holesTo_len hk]; exact hlt)] at c0
          go_wp2_with fail
          refine ⟨⟨k + 1, by omega, by go_num, hx.setCell hgb _, ?_, ownsRow_setCell_other hob (by simp [Value.ownBlock]; omega) _⟩, by simp [intOf]; omega⟩
          rw [HS.out]; exact (hown.stored k _).1
        · rw [hq] at c2
          have HS := Lib.hid (holesTo_yes hlt hq)
          go_wp2_with fail
          refine ⟨⟨k + 1, by omega, by go_num, hx, ?_, hob⟩, by simp [intOf]; omega⟩
          rw [HS.out]; exact hown
      · have e : k = l.length := by omega
        subst e
        have hlen : (holesTo l q l.length).length = l.length := holesTo_len (Nat.le_refl _)
        have hwf : ∀ r ∈ holesTo l q l.length, -2147483648 ≤ r ∧ r ≤ 2147483647 := fun r hr => by
          rw [holesTo_all] at hr
          obtain ⟨x, hx, rfl⟩ := List.mem_map.1 hr
          unfold holed
          split
          · obtain ⟨j, hj, e⟩ := List.getElem_of_mem hx
            have := hwf0 j hj
            rwa [rn_eq hj, e] at this
          · omega
        have hor : OwnRunes 21 W0.heap.size wr lrp lrc (holesTo l q l.length) := ⟨by rw [hlen]; exact hown, by omega, mem_rn hwf⟩
        have htx := Text_any lrp lrc _ (by omega) wr hor.at_
        rw [hlen] at htx
        have HTX := Lib.hid htx
        clear htx
        go_wp2_with (go_at_call 48; refine HTX.out.mono ?_; rintro e w5 ⟨rfl, hx5⟩; have hcw := (Below.block (hx.trans hx5) (w.heap.size + 1) (by omega)).trans hcell; have e0 : w5.cell? ⟨w.heap.size + 1, 0, none⟩ = some (.string ⟨#[]⟩) := (by rw [Lib.cell_of_heap hcw]; rfl); have e1 : w5.cell? ⟨w.heap.size + 1, 1, none⟩ = some (.string ⟨#[]⟩) := (by rw [Lib.cell_of_heap hcw]; rfl); have f0 := Lib.frozen_of_heap hcw 0; have f1 := Lib.frozen_of_heap hcw 1; have hlw := (Array.getElem?_eq_some_iff.1 hcw).1)
        refine bodyPost_ret (results_cell_row2 rfl _ _ (w.heap.size + 1) 41 #[.string ⟨#[]⟩, .string (runesBytes (holesTo l q l.length))] (0, 0) _ _ rfl (set_two hcw) Tryd.underlying41 rfl (by kernel_rfl) rfl) rfl ⟨rfl, ?_⟩
        exact (((hx4.trans hx).trans hx5).setCell (p := ⟨w.heap.size + 1, 0, none⟩) (by simp) _).setCell (p := ⟨w.heap.size + 1, 1, none⟩) (by simp) _
  · have hn : (F != 0) = true := by rw [bne_iff_ne]; exact h0
    rw [if_neg h0] at hfs
    subst hfs
    go_enter Tryd.func16, Tryd.ntmps16
    rw [HW0.out] at hx4 hcell
    go_wp2_with (go_at_call 47; refine hcon.mono ?_; rintro e w1 ⟨_, hno, hx1⟩; obtain rfl := hno h0; rw [HW0.out] at hx1; have hcw := (Below.block hx1 (w.heap.size + 1) (by omega)).trans hcell; have e0 : w1.cell? ⟨w.heap.size + 1, 0, none⟩ = some (.string ⟨#[]⟩) := (by rw [Lib.cell_of_heap hcw]; rfl); have e1 : w1.cell? ⟨w.heap.size + 1, 1, none⟩ = some (.string ⟨#[]⟩) := (by rw [Lib.cell_of_heap hcw]; rfl); have f0 := Lib.frozen_of_heap hcw 0; have f1 := Lib.frozen_of_heap hcw 1; have hlw := (Array.getElem?_eq_some_iff.1 hcw).1)
    refine bodyPost_ret (results_cell_row2 rfl _ _ (w.heap.size + 1) 41 #[.string ⟨#[]⟩, .string ⟨#[]⟩] (0, 0) _ _ rfl (set_two hcw) Tryd.underlying41 rfl (by kernel_rfl) rfl) rfl ⟨rfl, ?_⟩
    exact ((hx4.trans hx1).setCell (p := ⟨w.heap.size + 1, 0, none⟩) (by simp) _).setCell (p := ⟨w.heap.size + 1, 1, none⟩) (by simp) _

end Go.Proofs.YtnngljflnfjppaaDoor
