/- Contracts: feature.Text and the reference's Text. -/
import Derived.Test.YtnngljflnfjppaaDoorFele
import Derived.Test.YtnngljflnfjppaaDoorFely
import Derived.Test.YtnngljflnfjppaaDoorShelg
namespace Go.Proofs.YtnngljflnfjppaaDoor
open Go.RowKit Go.Cg Go.Shelf Go.Maps

theorem bit_at {p k : Nat} (hp : p < 4294967296) : bits BinOp.and IntKind.u32 ((p : Int) / 2 ^ k) 1 = if p.testBit k then 1 else 0 := by
  have e : (p : Int) / 2 ^ k = ((p / 2 ^ k : Nat) : Int) := by simp
  have hl : p / 2 ^ k < 4294967296 := Nat.lt_of_le_of_lt (Nat.div_le_self _ _) hp
  have := u32_and_nat (p / 2 ^ k) 1 hl (by decide)
  rw [e, show (1 : Int) = ((1 : Nat) : Int) from rfl, this, Nat.and_one_is_mod, Nat.testBit_eq_decide_div_mod_eq]
  by_cases h : p / 2 ^ k % 2 = 1
  · simp [h]
  · have h0 : p / 2 ^ k % 2 = 0 := by omega
    simp [h0]
theorem strCells_app (a b : ByteArray) : Lib.strCells (a ++ b) = Lib.strCells a ++ Lib.strCells b := by
  unfold Lib.strCells; rw [dl_append, List.map_append]
theorem ext_below {a w w' : World} {B : Nat} (h : Ext a w) (hb : Below B w w') (hB : a.heap.size ≤ B) : Ext a w' := Below.trans h (Below.mono hb hB)

set_option maxRecDepth 100000 in
set_option maxHeartbeats 1000000 in
theorem text_any (fp lp : Option Addr) (fc lc : Nat) (A : Alpha) (p m : Nat) (hp : p < 4294967296) (hm : m < 4294967296) (w : World) (hA : AlphaAt w fp lp A) :
    Calls Tryd.prog 39 #[.agg #[.slice fp A.feats.length fc, .slice lp A.lets.length lc], .int .u32 p, .int .u32 m] w fun e w' => e = .returned (.tuple #[.string (textS A p m), .int .i64 (classE A p m)]) ∧ Ext w w' := by
  have hx3 : Ext w (w.alloc (.cells #[.slice fp A.feats.length fc, .slice lp A.lets.length lc] 26)) := (Ext.refl _).alloc _
  have hfb := hA.fbig
  by_cases hok : A.Ok
  · have hC := checkN_ok hok
    cases hmay : mayB A.feats.length p m
    · have hE : classE A p m = 20 := by unfold classE; rw [if_pos hok, hmay]; rfl
      have hL : textS A p m = ⟨#[]⟩ := by unfold textS; rw [hE]; rfl
      rw [hE, hL]
      go_enter Tryd.func39, Tryd.ntmps39
      go_wp2_with (first | (go_at_call 10; refine (check_any _ _ _ _ _ _ (hA.mono hx3)).mono ?_; rintro e w1 ⟨rfl, hx1⟩; have hs1 := hx1.lt0; have d0 := hx1.cell0 0; have d1 := hx1.cell0 1; simp at d0 d1) | (go_at_call 44; refine (within_any _ _ _ _ _ _ hp hm hfb _).mono ?_; rintro e w2 ⟨rfl, hx2⟩))
      go_ret2
      exact ⟨rfl, (hx3.trans hx1).trans hx2⟩
    · have hE : classE A p m = 0 := classE_zero hok hmay
      have hL : textS A p m = textTo A p m A.feats.length := by unfold textS; rw [hE]; rfl
      rw [hE, hL]
      have h24 := hok.1
      go_enter Tryd.func39, Tryd.ntmps39
      go_wp2_with (first | (go_at_call 10; refine (check_any _ _ _ _ _ _ (hA.mono hx3)).mono ?_; rintro e w1 ⟨rfl, hx1⟩; have hs1 := hx1.lt0; have d0 := hx1.cell0 0; have d1 := hx1.cell0 1; simp at d0 d1) | (go_at_call 44; refine (within_any _ _ _ _ _ _ hp hm hfb _).mono ?_; rintro e w2 ⟨rfl, hx2⟩; have hxb := hx1.trans hx2; have e0 := hxb.cell0 0; have e1 := hxb.cell0 1; simp at e0 e1; have hs2 := hxb.lt0))
      clear d0 d1 hs1
      go_loopw [25] (fun i wr => ∃ k : Nat, k ≤ A.feats.length ∧ i = .int .i64 k ∧ Ext (w.alloc (.cells #[.slice fp A.feats.length fc, .slice lp A.lets.length lc] 26)) wr ∧ Lib.IsBuilder 105 5 w2.heap.size w2.heap.size (Lib.strCells (textTo A p m k)) wr) (fun i _ => A.feats.length - (intOf i).toNat)
      case atStart => exact ⟨0, Nat.zero_le _, rfl, hxb.alloc _, Lib.fresh_isBuilder _ _ _⟩
      case round =>
        obtain ⟨k, hk, rfl, hx, hB⟩ := hrel
        by_cases hlt : k < A.feats.length
        · obtain ⟨b, off, rfl, hbw, c0⟩ := (hA.mono hx.box).fcells hlt
          have hn32 : (A.ft k).size ≤ 32 := by have := (hok.2.2.2.1 k hlt).1; unfold nameOk at this; simp at this; omega
          have hle := textTo_le hok p m k (by omega)
          have b1 := bit_at (k := k) hp
          have b2 := bit_at (k := k) hm
          have hw2 : w2.heap.size ≤ wr.heap.size := by
            have := hB
            rcases this with h | h
            · have := h.lt; omega
            · have := h.lt; omega
          have hbase : (w.alloc (.cells #[.slice (some ⟨b, off, none⟩) A.feats.length fc, .slice lp A.lets.length lc] 26)).heap.size ≤ w2.heap.size := hxb.le
          have HW := Lib.hid (fun (W : World) (s : ByteArray) (hs : s.size = 1 + (A.ft k).size) (h : Lib.IsBuilder 105 5 w2.heap.size w2.heap.size (Lib.strCells (textTo A p m k)) W) (hW : w2.heap.size ≤ W.heap.size) => write_any w2.heap.size w2.heap.size _ s W h (by rw [Lib.strCells_length]; omega) hW)
          have hs43 : ((⟨#[43]⟩ : ByteArray) ++ A.ft k).size = 1 + (A.ft k).size := by rw [ByteArray.size_append]; rfl
          have hs45 : ((⟨#[45]⟩ : ByteArray) ++ A.ft k).size = 1 + (A.ft k).size := by rw [ByteArray.size_append]; rfl
          cases hpb : p.testBit k
          · have g1 : (bits BinOp.and IntKind.u32 ((p : Int) / 2 ^ k) 1 == 1) = false := by rw [b1, hpb]; rfl
            cases hmb : m.testBit k
            · have g2 : (bits BinOp.and IntKind.u32 ((m : Int) / 2 ^ k) 1 == 1) = false := by rw [b2, hmb]; rfl
              have hst : textTo A p m (k + 1) = textTo A p m k := by rw [textTo, hpb, hmb]; rfl
              clear b1 b2 HW
              go_wp2_with fail
              exact ⟨⟨k + 1, by omega, by go_num, hx, by rw [hst]; exact hB⟩, by simp [intOf]; omega⟩
            · have g2 : (bits BinOp.and IntKind.u32 ((m : Int) / 2 ^ k) 1 == 1) = true := by rw [b2, hmb]; rfl
              have hst : textTo A p m (k + 1) = textTo A p m k ++ ((⟨#[45]⟩ : ByteArray) ++ A.ft k) := by rw [textTo, hpb, hmb]; rfl
              clear b1 b2
              go_wp2_with (go_at_call 64; refine (HW.out _ _ hs45 hB hw2).mono ?_; rintro e w4 ⟨rfl, hB4, hx4⟩)
              exact ⟨⟨k + 1, by omega, by go_num, ext_below hx hx4 hbase, by rw [hst, strCells_app]; exact hB4⟩, by simp [intOf]; omega⟩
          · have g1 : (bits BinOp.and IntKind.u32 ((p : Int) / 2 ^ k) 1 == 1) = true := by rw [b1, hpb]; rfl
            have hst : textTo A p m (k + 1) = textTo A p m k ++ ((⟨#[43]⟩ : ByteArray) ++ A.ft k) := by rw [textTo, hpb]; rfl
            clear b1 b2
            go_wp2_with (go_at_call 64; refine (HW.out _ _ hs43 hB hw2).mono ?_; rintro e w4 ⟨rfl, hB4, hx4⟩)
            exact ⟨⟨k + 1, by omega, by go_num, ext_below hx hx4 hbase, by rw [hst, strCells_app]; exact hB4⟩, by simp [intOf]; omega⟩
        · have e : k = A.feats.length := by omega
          have hw2 : w2.heap.size ≤ wr.heap.size := by
            have := hB
            rcases this with h | h
            · have := h.lt; omega
            · have := h.lt; omega
          have hbase : (w.alloc (.cells #[.slice fp A.feats.length fc, .slice lp A.lets.length lc] 26)).heap.size ≤ w2.heap.size := hxb.le
          rw [e] at hB
          go_wp2_with fail
          refine (Tryd.Builder_String_any w2.heap.size w2.heap.size (textTo A p m A.feats.length).data.toList wr hB hw2).mono ?_
          rintro e w4 ⟨rfl, hx4⟩
          go_wp2_with fail
          go_ret2
          exact ⟨rfl, (ext_below hx hx4 hbase).box⟩
  · have hC := checkN_bad hok
    have hE : classE A p m = 7 := by unfold classE; rw [if_neg hok]
    have hL : textS A p m = ⟨#[]⟩ := by unfold textS; rw [hE]; rfl
    rw [hE, hL]
    go_enter Tryd.func39, Tryd.ntmps39
    go_wp2_with (first | (go_at_call 10; refine (check_any _ _ _ _ _ _ (hA.mono hx3)).mono ?_; rintro e w1 ⟨rfl, hx1⟩))
    go_ret2
    exact ⟨rfl, hx3.trans hx1⟩
theorem bit_and {p k : Nat} (hp : p < 4294967296) (hk : k < 24) : bits BinOp.and IntKind.u32 (p : Int) ((2 : Int) ^ k % 4294967296) = if p.testBit k then ((2 ^ k : Nat) : Int) else 0 := by
  have h2 : 2 ^ k < 2 ^ 24 := Nat.pow_lt_pow_right (by omega) hk
  have e : (2 : Nat) ^ 24 = 16777216 := by decide
  rw [bit_wrap hk, u32_and_nat p (2 ^ k) hp (by omega), and_bit]
  split <;> rfl

end Go.Proofs.YtnngljflnfjppaaDoor
