/- Contracts: SameSpans of like rows, double.put, double.Front, the law's abt and awake. -/
import Derived.Test.YtcjdpicepjoeoaaDoorDoubc
namespace Go.Proofs.YtcjdpicepjoeoaaDoor
open Go.RowKit Go.Cg Go.Shelf Go.Maps

def SpanAt (w : World) (p : Option Addr) (z : List (Nat × Nat)) : Prop := Reads w p (z.length * 2) (fun j => ((spanCells z)[j]?).getD (.bool false))
theorem SpanAt.mono {w w' : World} {p : Option Addr} {z : List (Nat × Nat)} (h : SpanAt w p z) (hx : Ext w w') : SpanAt w' p z := Reads.mono h hx
theorem SpanAt.of_own {w : World} {B T c : Nat} {p : Option Addr} {z : List (Nat × Nat)} (h : w.ownsRow B T 2 (.slice p z.length c) z.length (spanCells z)) : SpanAt w p z :=
  ownsRow_reads h fun j hj => by
    have : j < (spanCells z).length := by rw [spanCells_len]; omega
    rw [List.getElem?_eq_getElem this]; rfl
theorem SpanAt.cells {w : World} {p : Option Addr} {z : List (Nat × Nat)} (h : SpanAt w p z) {i : Nat} (hi : i < z.length) :
    ∃ b off, p = some ⟨b, off, none⟩ ∧ b < w.heap.size ∧ w.cell? ⟨b, off + i * 2, none⟩ = some (.int .i64 ((z.getD i (0, 0)).1 : Nat)) ∧ w.cell? ⟨b, off + i * 2 + 1, none⟩ = some (.int .i64 ((z.getD i (0, 0)).2 : Nat)) := by
  rcases h with h0 | ⟨b, off, hp, hlt, hc⟩
  · omega
  · obtain ⟨s0, s1⟩ := spanCells_at z i hi
    have e0 := hc (i * 2) (by omega)
    have e1 := hc (i * 2 + 1) (by omega)
    rw [Nat.mul_comm] at s0 s1
    simp only [s0] at e0
    simp only [s1] at e1
    exact ⟨b, off, hp, hlt, e0, e1⟩

set_option maxHeartbeats 1000000 in
theorem SameSpans_same (ap bp : Option Addr) (ac bc : Nat) (z : List (Nat × Nat)) (hz : z.length ≤ 64) (w : World) (ha : SpanAt w ap z) (hb : SpanAt w bp z) :
    Calls Tryd.prog 12 #[.slice ap z.length ac, .slice bp z.length bc] w fun e w' => e = .returned (.bool true) ∧ Ext w w' := by
  go_enter Tryd.func12, Tryd.ntmps12
  go_wp2_with fail
  go_loopw [5] (fun i wr => ∃ k : Nat, k ≤ z.length ∧ i = .int .i64 k ∧ Ext w wr) (fun i _ => z.length - (intOf i).toNat)
  case atStart => exact ⟨0, Nat.zero_le _, rfl, Ext.refl _⟩
  case round =>
    obtain ⟨k, hk, rfl, hx⟩ := hrel
    by_cases hlt : k < z.length
    · obtain ⟨b1, o1, rfl, hb1, c0, c1⟩ := (ha.mono hx).cells hlt
      obtain ⟨b2, o2, rfl, hb2, d0, d1⟩ := (hb.mono hx).cells hlt
      go_wp2_with fail
      (refine wp_region_ext (by kernel_rfl) (by kernel_rfl) ?_; intro ι hι g hg; have q_c0 := hg.cell c0; have q_c1 := hg.cell c1; have q_d0 := hg.cell d0; have q_d1 := hg.cell d1; clear c0 c1 d0 d1; (repeat (go_big_quiet_step (fail))); refine wpQuiet_nil ?_; rintro w2 ⟨i2, rfl⟩; have hq := hg.ext i2; generalize g i2 = w2 at hq ⊢; clear q_c0 q_c1 q_d0 q_d1 i2 hg g hι ι)
      go_wp2_with fail
      refine ⟨⟨k + 1, by omega, by go_num, hx.trans hq⟩, by simp [intOf]; omega⟩
    · go_wp2_with fail
      go_ret
      exact ⟨rfl, hx⟩

set_option maxHeartbeats 1000000 in
theorem put_any (p : Option Addr) (c : Nat) (l : List Int) (n : Nat) (w : World) (h : RunesAt w p l) (hp : (∃ b off, p = some ⟨b, off, none⟩) ∨ (p = none ∧ c = 0)) (hc : l.length ≤ c) (hn : n ≤ l.length) (h64 : l.length ≤ 64) :
    Calls Tryd.prog 30 #[.slice p l.length c, .int .i64 n] w fun e w' => e = .returned (.string (runesBytes (l.take n ++ l))) ∧ Ext w w' := by
  have hbig := h.big
  have hcv : ∀ W, Ext w W → (convert 37 9 (.slice p l.length c)).run Tryd.prog W = .ok (.string (runesBytes l)) W := fun W hW =>
    (h.mono hW).text (P := Tryd.prog) (src := 37) (dst := 9) Tryd.underlying37 Tryd.underlying21 Tryd.underlying9 c
  have hcw : ∀ W, Ext w W → (convert 37 9 (.slice p n c)).run Tryd.prog W = .ok (.string (runesBytes (l.take n))) W := by
    intro W hW
    have := ((h.take n).mono hW).text (P := Tryd.prog) (src := 37) (dst := 9) Tryd.underlying37 Tryd.underlying21 Tryd.underlying9 c
    rw [List.length_take, Nat.min_eq_left hn] at this
    exact this
  rw [rb_append]
  have hs1 := rb_size_le (l.take n)
  have hs2 := rb_size_le l
  rw [List.length_take, Nat.min_eq_left hn] at hs1
  have hs3 : ((runesBytes (l.take n)).size : Int) ≤ 8388608 := by omega
  have hs4 : ((runesBytes l).size : Int) ≤ 8388608 := by omega
  have hs5 : (runesBytes (l.take n)).size + (runesBytes l).size ≤ 9223372036854775807 := by omega
  rcases hp with ⟨b, off, rfl⟩ | ⟨rfl, rfl⟩
  · go_enter Tryd.func30, Tryd.ntmps30
    go_wp2_with fail
    (refine wp_region_ext (by kernel_rfl) (by kernel_rfl) ?_; intro ι hι g hg; have q_hcv := fun i => hcv _ (hg.ext i); have q_hcw := fun i => hcw _ (hg.ext i); clear hcv hcw; (repeat (go_big_quiet_step (fail))); refine wpQuiet_nil ?_; rintro w2 ⟨i2, rfl⟩; have hq := hg.ext i2; generalize g i2 = w2 at hq ⊢; clear q_hcv q_hcw i2 hg g hι ι)
    go_wp2_with fail
    go_ret
    exact ⟨rfl, hq⟩
  · go_enter Tryd.func30, Tryd.ntmps30
    go_wp2_with fail
    (refine wp_region_ext (by kernel_rfl) (by kernel_rfl) ?_; intro ι hι g hg; have q_hcv := fun i => hcv _ (hg.ext i); have q_hcw := fun i => hcw _ (hg.ext i); clear hcv hcw; (repeat (go_big_quiet_step (fail))); refine wpQuiet_nil ?_; rintro w2 ⟨i2, rfl⟩; have hq := hg.ext i2; generalize g i2 = w2 at hq ⊢; clear q_hcv q_hcw i2 hg g hι ι)
    go_wp2_with fail
    go_ret
    exact ⟨rfl, hq⟩

theorem OwnRunes_form {T B : Nat} {w : World} {p : Option Addr} {c : Nat} {l : List Int} (h : OwnRunes T B w p c l) : ((∃ b off, p = some ⟨b, off, none⟩) ∨ (p = none ∧ c = 0)) ∧ l.length ≤ c := by
  rcases h.1.2 with ⟨hv, hn⟩ | ⟨g, cap, cur, hv, hb, hg, hn, hc, _⟩
  · simp only [Value.slice.injEq] at hv
    exact ⟨.inr ⟨hv.1, hv.2.2⟩, by omega⟩
  · simp only [Value.slice.injEq, true_and] at hv
    obtain ⟨rfl, rfl⟩ := hv
    exact ⟨.inl ⟨g, 0, rfl⟩, hn⟩

def abtA : Alpha := ⟨[⟨#[118]⟩], [⟨97, 1, 0⟩, ⟨98, 0, 0⟩, ⟨116, 0, 0⟩]⟩

set_option maxHeartbeats 1000000 in
theorem abt_any (w : World) :
    Calls Tryd.prog 23 #[] w fun e w' => ∃ fp lp fc lc, e = .returned (.agg #[.slice fp abtA.feats.length fc, .slice lp abtA.lets.length lc]) ∧ AlphaAt w' fp lp abtA ∧ Ext w w' := by
  go_enter Tryd.func23, Tryd.ntmps23
  go_wp2_with fail
  obtain ⟨W1, hW1⟩ : ∃ W1, w.alloc (.cells #[.slice (some ⟨w.heap.size + 1, 0, none⟩) 1 1, .slice (some ⟨w.heap.size + 1 + 1, 0, none⟩) 3 3] 25) = W1 := ⟨_, rfl⟩
  have hz1 : W1.heap.size = w.heap.size + 1 := by rw [← hW1, size_alloc]
  have hb1 : W1.heap[w.heap.size]? = some (.cells #[.slice (some ⟨w.heap.size + 1, 0, none⟩) 1 1, .slice (some ⟨w.heap.size + 1 + 1, 0, none⟩) 3 3] 25 (0, 0)) := by rw [← hW1]; exact heap_alloc_new _ _
  have hx1 : Ext w W1 := by rw [← hW1]; exact (Ext.refl _).alloc _
  rw [hW1]
  clear hW1
  obtain ⟨W2, hW2⟩ : ∃ W2, W1.alloc (.cells #[.string ⟨#[118]⟩] 9) = W2 := ⟨_, rfl⟩
  have hz2 : W2.heap.size = w.heap.size + 1 + 1 := by rw [← hW2, size_alloc, hz1]
  have hc2 : W2.cell? ⟨w.heap.size + 1, 0, none⟩ = some (.string ⟨#[118]⟩) := by
    have := (Ext.refl (W1.alloc (.cells #[.string ⟨#[118]⟩] 9))).cell0 0
    rw [hW2, hz1] at this; exact this
  have hx2 : Ext W1 W2 := by rw [← hW2]; exact (Ext.refl _).alloc _
  rw [hW2]
  clear hW2
  obtain ⟨W3, hW3⟩ : ∃ W3, W2.alloc (.cells #[.int .i32 97, .int .u32 1, .int .u32 0, .int .i32 98, .int .u32 0, .int .u32 0, .int .i32 116, .int .u32 0, .int .u32 0] 66) = W3 := ⟨_, rfl⟩
  have hc3 : ∀ j, W3.cell? ⟨w.heap.size + 1 + 1, j, none⟩ = #[Value.int .i32 97, .int .u32 1, .int .u32 0, .int .i32 98, .int .u32 0, .int .u32 0, .int .i32 116, .int .u32 0, .int .u32 0][j]? := by
    intro j
    have := (Ext.refl (W2.alloc (.cells #[.int .i32 97, .int .u32 1, .int .u32 0, .int .i32 98, .int .u32 0, .int .u32 0, .int .i32 116, .int .u32 0, .int .u32 0] 66))).cell0 j
    rw [hW3, hz2] at this; exact this
  have hz3 : W3.heap.size = w.heap.size + 1 + 1 + 1 := by rw [← hW3, size_alloc, hz2]
  have hx3 : Ext W2 W3 := by rw [← hW3]; exact (Ext.refl _).alloc _
  rw [hW3]
  clear hW3
  refine bodyPost_ret (results_cell_row rfl _ _ w.heap.size 25 #[.slice (some ⟨w.heap.size + 1, 0, none⟩) 1 1, .slice (some ⟨w.heap.size + 1 + 1, 0, none⟩) 3 3] (0, 0) _ rfl ((Below.block (hx2.trans hx3) w.heap.size (by omega)).trans hb1) Tryd.underlying25 rfl (by kernel_rfl)) rfl ?_
  refine ⟨_, _, _, _, rfl, ⟨.inr ⟨w.heap.size + 1, 0, rfl, by omega, fun j hj => ?_⟩, .inr ⟨w.heap.size + 1 + 1, 0, rfl, by omega, fun j hj => ?_⟩, by decide, by decide, ?_, ?_⟩, (hx1.trans hx2).trans hx3⟩
  · have h1 : j < 1 := hj
    have h2 : j = 0 := by omega
    subst h2
    exact (hx3.facts.1 _ _ (by omega)).trans hc2
  · have h1 : j < 9 := hj
    rw [Nat.zero_add, hc3]
    match j, h1 with
    | 0, _ => rfl
    | 1, _ => rfl
    | 2, _ => rfl
    | 3, _ => rfl
    | 4, _ => rfl
    | 5, _ => rfl
    | 6, _ => rfl
    | 7, _ => rfl
    | 8, _ => rfl
  · intro i hi
    have h1 : i < 3 := hi
    unfold Letter.wf
    match i, h1 with
    | 0, _ => decide
    | 1, _ => decide
    | 2, _ => decide
  · intro i hi
    have h1 : i < 1 := hi
    match i, h1 with
    | 0, _ => decide

def frontE (A : Alpha) (s : ByteArray) (n : Int) : Int := if (spell A s).2 ≠ 0 then (spell A s).2 else if n < 0 ∨ 64 < n then 2 else if ((spell A s).1.length : Int) < n then 150 else 0
def frontS (A : Alpha) (s : ByteArray) (n : Int) : ByteArray := if frontE A s n = 0 then runesBytes ((spell A s).1.take n.toNat ++ (spell A s).1) else ⟨#[]⟩
theorem frontE_eq (A : Alpha) (s : ByteArray) (n : Int) : frontE A s n = if (spell A s).2 ≠ 0 then (spell A s).2 else if n < 0 ∨ 64 < n then 2 else if ((spell A s).1.length : Int) < n then 150 else 0 := rfl
theorem frontS_eq (A : Alpha) (s : ByteArray) (n : Int) : frontS A s n = if frontE A s n = 0 then runesBytes ((spell A s).1.take n.toNat ++ (spell A s).1) else ⟨#[]⟩ := rfl

set_option maxHeartbeats 1000000 in
theorem front_any (fp lp : Option Addr) (fc lc : Nat) (A : Alpha) (s : ByteArray) (n : Int) (hs : s.size ≤ 140737488351232) (hn : -9223372036854775808 ≤ n ∧ n ≤ 9223372036854775807) (w : World) (hA : AlphaAt w fp lp A) (hT : Tabs w) :
    Calls Tryd.prog 14 #[.agg #[.slice fp A.feats.length fc, .slice lp A.lets.length lc], .string s, .int .i64 n] w fun e w' => e = .returned (.tuple #[.string (frontS A s n), .int .i64 (frontE A s n)]) ∧ Ext w w' := by
  have hx3 : Ext w (w.alloc (.cells #[.slice fp A.feats.length fc, .slice lp A.lets.length lc] 25)) := (Ext.refl _).alloc _
  have hcon := letters_any fp lp fc lc A s hs _ (hA.mono hx3) (hT.ext hx3)
  have h64 := spell_len A s
  have hfe := frontE_eq A s n
  have hfs := frontS_eq A s n
  obtain ⟨F, hF⟩ : ∃ F, frontE A s n = F := ⟨_, rfl⟩
  obtain ⟨S, hS⟩ : ∃ S, frontS A s n = S := ⟨_, rfl⟩
  rw [hF] at hfe hfs
  rw [hS] at hfs
  rw [hF, hS]
  clear hF hS
  obtain ⟨l, hl⟩ : ∃ l, (spell A s).1 = l := ⟨_, rfl⟩
  obtain ⟨er, her⟩ : ∃ er, (spell A s).2 = er := ⟨_, rfl⟩
  rw [hl, her] at hcon hfe
  rw [hl] at h64 hfs
  clear hl her
  by_cases h0 : er = 0
  · subst h0
    rw [if_neg (by decide : ¬ ((0 : Int) ≠ 0))] at hfe
    by_cases h1 : n < 0
    · rw [if_pos (.inl h1)] at hfe
      subst hfe
      rw [if_neg (by decide)] at hfs
      subst hfs
      go_enter Tryd.func14, Tryd.ntmps14
      go_wp2_with (go_at_call 13; refine hcon.mono ?_; rintro e w1 ⟨lrp, lrc, rfl, ho, hx1⟩)
      go_ret2
      exact ⟨rfl, hx3.trans hx1⟩
    · by_cases h2 : 64 < n
      · rw [if_pos (.inr h2)] at hfe
        subst hfe
        rw [if_neg (by decide)] at hfs
        subst hfs
        go_enter Tryd.func14, Tryd.ntmps14
        go_wp2_with (go_at_call 13; refine hcon.mono ?_; rintro e w1 ⟨lrp, lrc, rfl, ho, hx1⟩)
        go_ret2
        exact ⟨rfl, hx3.trans hx1⟩
      · rw [if_neg (by omega)] at hfe
        by_cases h3 : (l.length : Int) < n
        · rw [if_pos h3] at hfe
          subst hfe
          rw [if_neg (by decide)] at hfs
          subst hfs
          go_enter Tryd.func14, Tryd.ntmps14
          go_wp2_with (go_at_call 13; refine hcon.mono ?_; rintro e w1 ⟨lrp, lrc, rfl, ho, hx1⟩)
          go_ret2
          exact ⟨rfl, hx3.trans hx1⟩
        · rw [if_neg h3] at hfe
          subst hfe
          rw [if_pos rfl] at hfs
          subst hfs
          obtain ⟨m, rfl⟩ : ∃ m : Nat, n = m := ⟨n.toNat, by omega⟩
          rw [Int.toNat_natCast]
          go_enter Tryd.func14, Tryd.ntmps14
          go_wp2_with (first | (go_at_call 13; refine hcon.mono ?_; rintro e w1 ⟨lrp, lrc, rfl, ho, hx1⟩) | (go_at_call 30; refine (put_any _ _ _ _ _ ho.at_ (OwnRunes_form ho).1 (OwnRunes_form ho).2 (by omega) h64).mono ?_; rintro e w2 ⟨rfl, hx2⟩))
          go_ret2
          exact ⟨rfl, (hx3.trans hx1).trans hx2⟩
  · have hn : (er != 0) = true := by rw [bne_iff_ne]; exact h0
    rw [if_pos h0] at hfe
    subst hfe
    rw [if_neg h0] at hfs
    subst hfs
    go_enter Tryd.func14, Tryd.ntmps14
    go_wp2_with (go_at_call 13; refine hcon.mono ?_; rintro e w1 ⟨lrp, lrc, rfl, ho, hx1⟩)
    go_ret2
    exact ⟨rfl, hx3.trans hx1⟩

end Go.Proofs.YtcjdpicepjoeoaaDoor
