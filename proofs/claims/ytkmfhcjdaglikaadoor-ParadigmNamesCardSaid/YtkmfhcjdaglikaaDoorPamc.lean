/- Contracts: slices.Backward over affixes, stemmed.off, Off, Stems; cognatelaw17.sample, alive. -/
import Derived.Test.YtkmfhcjdaglikaaDoorPamb
import Derived.Test.YtkmfhcjdaglikaaDoorRngx
import Derived.Carry
import Derived.Test.YtkmfhcjdaglikaaDoorDouba
import Derived.Deep.RegionHeld3
namespace Go.Cg
open Go.RowKit Go.Lib
/-- an affix's number, with the affix -/
def aencs (L : List Aff) (x : {i : Nat // i < L.length}) : Array Value :=
  #[.int .i64 (x.1 : Int), .agg #[.int .u8 ((ax L x.1).kind : Int), .string (ax L x.1).form, .string (ax L x.1).other, .int .i64 (ax L x.1).pos]]
/-- the first k numbers from the end -/
def downs (n k : Nat) : List Nat := (List.range k).map fun j => n - 1 - j
theorem downs_succ (n k : Nat) : downs n (k + 1) = downs n k ++ [n - 1 - k] := by simp [downs, List.range_succ]
theorem downs_len (n k : Nat) : (downs n k).length = k := by simp [downs]
/-- what a round keeps: what lay below n₁, and the iterator's own box -/
def KpB (n₁ Bs : Nat) (W W' : World) : Prop := Below n₁ W W' ∧ W'.heap[Bs]? = W.heap[Bs]?
theorem kpB_t {n₁ Bs : Nat} {A B C : World} (h : KpB n₁ Bs A B) (k : KpB n₁ Bs B C) : KpB n₁ Bs A C := ⟨h.1.trans k.1, k.2.trans h.2⟩
theorem kpB_b {n₁ Bs : Nat} {w : World} (hn : n₁ ≤ w.heap.size) (hB : Bs < w.heap.size) (W : World) (l : Nat) (o o' : Obj) (hl : w.heap.size ≤ l) (h : W.heap[l]? = some o) (hc : o.isCells = false) (hw : o.isWalk = false) : KpB n₁ Bs W (W.putObj l o') :=
  ⟨belowK_b hn W l o o' hl h hc hw, World.putObj_heap_other (by omega)⟩
theorem kpB_ext {n₁ Bs : Nat} {W W' : World} (h : Ext W W') (hn : n₁ ≤ W.heap.size) (hB : Bs < W.heap.size) : KpB n₁ Bs W W' := ⟨Below.mono h hn, h.block Bs hB⟩
theorem ext_below {Wl W W' : World} {n₁ : Nat} (h : Ext Wl W) (hn : Wl.heap.size ≤ n₁) (h2 : Below n₁ W W') : Ext Wl W' := Below.trans h (Below.mono h2 hn)
theorem boxX {W W' : World} {B : Nat} {t : TypeId} {v : Value} (h : Boxed W B t v) (hx : Ext W W') : Boxed W' B t v := (hx.block B h.lt).trans h
/-- a block of cells lies as it lay -/
theorem cells_own {β : Type} (B : Nat) (f : β → Obj) (hf : ∀ x, (f x).isCells = true) : Own (fun s W => W.heap[B]? = some (f s)) := fun s X Y row hs hg hrow =>
  (hg.block B (Array.getElem?_eq_some_iff.1 hs).1 (fun e' => by obtain ⟨o, ho, hc⟩ := hrow B e'.symm; rw [hs] at ho; cases ho; rw [hf] at hc; cases hc)).trans hs
theorem cell_of {W : World} {B j : Nat} {cs : Array Value} {t : TypeId} {v : Value} (h : W.heap[B]? = some (.cells cs t (0, 0))) (hv : cs[j]? = some v) : W.cell? ⟨B, j, none⟩ = some v := by
  simp [World.cell?, h, hv]
end Go.Cg
namespace Go.Proofs.YtkmfhcjdaglikaaDoor
open Go.RowKit Go.Cg Go.Shelf Go.Maps

attribute [local go_sem] Oper.semAt_some

set_option maxRecDepth 100000 in
set_option maxHeartbeats 4000000 in
theorem aback1_in (n l Bs n₀ xc : Nat) (hn : 1 ≤ n) (xp : Option Addr) (L : List Aff) (J Jx : List {i : Nat // i < L.length} → World → Prop)
    (hY : ∀ pre x W, J pre W → pre.length < L.length → YieldAt Fence.wide (n - 1) Tryd.prog l (aencs L x) W fun e W' =>
      (e = .returned (.bool true) ∧ J (pre ++ [x]) W' ∧ KpB n₀ Bs W W') ∨ (e = .returned (.bool false) ∧ Jx (pre ++ [x]) W'))
    (Wl W : World) (hg : Wl.heap.size ≤ n₀) (hE : Ext Wl W) (hBs : W.cell? ⟨Bs, 0, none⟩ = some (.slice xp L.length xc)) (hL : AffsAt Wl xp L) (h0 : J [] W) :
    CallsIn Fence.wide n Tryd.prog 57 #[.func (.yield l) #[] #[], .pointer (some ⟨Bs, 0, none⟩)] W fun e W' => (∃ v, e = .returned v) ∧
      ((∃ ys : List {i : Nat // i < L.length}, ys.map Subtype.val = downs L.length L.length ∧ J ys W') ∨ (∃ pre : List {i : Nat // i < L.length}, (∃ k, k ≤ L.length ∧ pre.map Subtype.val = downs L.length k) ∧ Jx pre W')) := by
  have hbig := hL.big
  refine callsIn_of_wp Tryd.func57 rfl trivial ?_ rfl
  simp only [Tryd.ntmps57, List.size_toArray, List.length_cons, List.length_nil, Nat.reduceAdd, Nat.reduceSub, Array.replicate_succ, Array.replicate_zero, List.push_toArray, List.append_toArray, List.nil_append, List.cons_append]
  gi_wp2
  gi_loopw [3] (fun i wr => ∃ (r : Nat) (z : Int) (pre : List {i : Nat // i < L.length}), r ≤ L.length ∧ i = .int .i64 z ∧ z = (r : Int) - 1 ∧ pre.map Subtype.val = downs L.length (L.length - r) ∧ J pre wr ∧ KpB n₀ Bs W wr)
    (fun i _ => (intOf i + 1).toNat)
  case atStart => exact ⟨L.length, _, [], Nat.le_refl _, rfl, by first | rfl | omega | (simp; done), by simp [downs], h0, Below.refl _ _, rfl⟩
  case round =>
    obtain ⟨r, z, pre, hr, rfl, hz, hpre, hJs, hnx⟩ := hrel
    have cb : wr.cell? ⟨Bs, 0, none⟩ = some (.slice xp L.length xc) := by rw [← hBs]; simp only [World.cell?, hnx.2]
    cases r with
    | zero =>
      have hz1 : z = -1 := by omega
      clear hz
      gi_wp2
      go_end0
      exact ⟨⟨_, rfl⟩, .inl ⟨pre, by simpa using hpre, hJs⟩⟩
    | succ s =>
      have hz1 : z = (s : Int) := by omega
      clear hz
      subst hz1
      have hs : s < L.length := by omega
      have hlen : pre.length < L.length := by
        have := congrArg List.length hpre
        rw [List.length_map, downs_len] at this; omega
      obtain ⟨b, off, e0, hbw, c0, c1, c2, c3⟩ := (hL.mono (ext_below hE hg hnx.1)).cells hs
      subst e0
      obtain ⟨fn, tmps, assign, body, hy, hR⟩ := hY pre ⟨s, hs⟩ wr hJs hlen
      have hne : (pre ++ [(⟨s, hs⟩ : {i : Nat // i < L.length})]).map Subtype.val = downs L.length (L.length - s) := by
        rw [List.map_append, hpre, show L.length - s = (L.length - (s + 1)) + 1 by omega, downs_succ]
        simp; omega
      simp only [aencs] at hy
      gi_wp2
      refine hR.mono ?_
      rintro e W3 (⟨rfl, hJ3, hk3⟩ | ⟨rfl, hJx3⟩)
      · gi_wp2
        go_roundw
        case rel => exact ⟨s, _, _, by omega, rfl, by first | rfl | omega | go_num, hne, hJ3, kpB_t hnx hk3⟩
        case measure => simp [intOf]
      · gi_wp2
        refine bodyPost_ret (results_none rfl _ _ _) rfl ?_
        exact ⟨⟨_, rfl⟩, .inr ⟨_, ⟨L.length - s, by omega, hne⟩, hJx3⟩⟩

set_option maxHeartbeats 1000000 in
theorem abackward_in (n : Nat) (a : Option Addr) (len cap : Nat) (w : World) :
    CallsIn Fence.wide n Tryd.prog 44 #[.slice a len cap] w fun e w' => e = .returned (.func (.func 57) #[] #[.pointer (some ⟨w.heap.size, 0, none⟩)]) ∧ w' = w.alloc (.cells #[.slice a len cap] 37) := by
  refine callsIn_of_wp Tryd.func44 rfl trivial ?_ rfl
  simp only [Tryd.ntmps44, List.size_toArray, List.length_cons, List.length_nil, Nat.reduceAdd, Nat.reduceSub, Array.replicate_succ, Array.replicate_zero, List.push_toArray, List.append_toArray, List.nil_append, List.cons_append]
  gi_wp2
  go_ret
  exact ⟨rfl, rfl⟩

theorem aback_stops (n Bs n₀ xc : Nat) (hn : 1 ≤ n) (xp : Option Addr) (L : List Aff) (Wl w : World) (hn₀ : n₀ ≤ w.heap.size) (hg : Wl.heap.size ≤ n₀) (hE : Ext Wl w) (hB0 : Bs < w.heap.size)
    (hc : w.cell? ⟨Bs, 0, none⟩ = some (.slice xp L.length xc)) (hL : AffsAt Wl xp L) :
    SeqStopsK Fence.wide n Tryd.prog 57 #[.pointer (some ⟨Bs, 0, none⟩)] (aencs L) (KpB n₀ Bs) (fun ys => ys.map Subtype.val = downs L.length L.length)
      (fun pre => ∃ k, k ≤ L.length ∧ pre.map Subtype.val = downs L.length k) L.length w := fun l J Jx W hW _ _ hY h0 =>
  aback1_in n l Bs n₀ xc hn xp L J Jx hY Wl W hg (ext_below hE hg (hW.mono hn₀)) ((hW.cell (p := ⟨Bs, 0, none⟩) hB0).trans hc) hL h0
end Go.Proofs.YtkmfhcjdaglikaaDoor

namespace Go.Cg
open Go.RowKit Go.Lib
theorem Reads.own {W W' : World} {row : Option Nat} {p : Option Addr} {k : Nat} {f : Nat → Value} (h : Reads W p k f) (hg : W.grownBy W' row) (hr : ∀ r, row = some r → ∃ o : Obj, W.heap[r]? = some o ∧ o.isCells = false) : Reads W' p k f := by
  rcases h with h | ⟨b, off, hp, hb, hc⟩
  · exact .inl h
  · rcases Nat.eq_zero_or_pos k with h0 | h0
    · exact .inl h0
    · have hne : some b ≠ row := fun e => by
        obtain ⟨o, ho, h2⟩ := hr b e.symm
        have h3 := hc 0 h0
        unfold World.cell? at h3
        rw [ho] at h3
        cases o <;> first | (cases h2; done) | (simp at h3; done)
      refine .inr ⟨b, off, hp, Nat.lt_of_lt_of_le hb hg.size, fun j hj => ?_⟩
      have e := hg.block b hb hne
      have h3 := hc j hj
      unfold World.cell? at h3 ⊢
      rw [e]; exact h3
end Go.Cg
namespace Go.Proofs.YtkmfhcjdaglikaaDoor
open Go.RowKit Go.Cg Go.Shelf Go.Maps

attribute [local go_sem] Oper.semAt_some

theorem SlAt.own_ {W W' : World} {row : Option Nat} {p : Option Addr} {l : List Int} {c : Nat} (h : SlAt W p l c) (hg : W.grownBy W' row) (hr : ∀ r, row = some r → ∃ o : Obj, W.heap[r]? = some o ∧ o.isCells = false) : SlAt W' p l c := ⟨⟨h.at_.reads.own hg hr, h.at_.big, h.at_.wf⟩, h.form, h.room⟩
theorem SlAt.box {W : World} {p : Option Addr} {l : List Int} {k o : Nat} {t : TypeId} {q : Option Addr} {n m : Nat} (h : SlAt W p l k) (hb : Boxed W o t (.slice q n m)) (u : Value) : SlAt (W.setCell ⟨o, 0, none⟩ u) p l k := by
  refine ⟨⟨?_, h.at_.big, h.at_.wf⟩, h.form, h.room⟩
  rcases h.at_.reads with h0 | ⟨b, off, hp, hlt, hc⟩
  · exact .inl h0
  · rcases Nat.eq_zero_or_pos l.length with h0 | h0
    · exact .inl h0
    · refine Reads.setCell_ne (.inr ⟨b, off, hp, hlt, hc⟩) (fun b' off' e => ?_) u
      rw [hp] at e
      cases e
      intro e2
      subst e2
      have h1 := hc 0 h0
      unfold World.cell? at h1
      rw [show W.heap[b]? = _ from hb] at h1
      cases off with
      | zero => simp at h1
      | succ m => simp at h1
def OptAt (T : List ByteArray) (e : Ending) (w' : World) : Prop := ∃ rp rc, e = .returned (.slice rp T.length rc) ∧ ∀ s, T = [s] → ∃ b, rp = some ⟨b, 0, none⟩ ∧ b < w'.heap.size ∧ w'.cell? ⟨b, 0, none⟩ = some (.string s)

/-- what holds between two rounds -/
def OffI (A : Alpha) (v : Nat) (xs : List Aff) (l0 : List Int) (Wl : World) (o : Nat) (tl ts : TypeId) (pre : List {i : Nat // i < xs.length}) (W : World) : Prop :=
  ∃ (c : List Int) (cp : Option Addr) (cc : Nat), Boxed W o tl (.slice cp c.length cc) ∧ Boxed W (o + 1) ts (.slice none 0 0) ∧ SlAt W cp c cc ∧ InA A c ∧ c.length ≤ 256 ∧ Ext Wl W ∧ o + 1 + 1 < W.heap.size ∧
    (pre.map Subtype.val = downs xs.length pre.length → offDn A v xs xs.length l0 = offDn A v xs (xs.length - pre.length) c)
theorem OffI.own {A : Alpha} {v : Nat} {xs : List Aff} {l0 : List Int} {Wl : World} {o B : Nat} {tl ts : TypeId} (hB : Wl.heap.size ≤ B) : OwnFrom B (OffI A v xs l0 Wl o tl ts) := fun s X Y row hs hg hr => by
  obtain ⟨c, cp, cc, h1, h2, h3, h4, h5, h6, h7, h8⟩ := hs
  exact ⟨c, cp, cc, boxed_own _ _ (fun (_ : Unit) => _) () X Y row h1 hg (fun r e => (hr r e).2), boxed_own _ _ (fun (_ : Unit) => _) () X Y row h2 hg (fun r e => (hr r e).2), SlAt.own_ h3 hg (fun r e => (hr r e).2), h4, h5, ownFrom_ext hB () X Y row h6 hg hr, Nat.lt_of_lt_of_le h7 hg.size, h8⟩
/-- what holds where the loop is left -/
def OffX (A : Alpha) (v : Nat) (xs : List Aff) (l0 : List Int) (Wl : World) (o : Nat) (ts : TypeId) (c : Code) (pre : List {i : Nat // i < xs.length}) (W : World) : Prop :=
  c = .ret ∧ Boxed W (o + 1) ts (.slice none 0 0) ∧ Ext Wl W ∧ (pre.map Subtype.val = downs xs.length pre.length → offDn A v xs xs.length l0 = none)
theorem OffX.own {A : Alpha} {v : Nat} {xs : List Aff} {l0 : List Int} {Wl : World} {o B : Nat} {ts : TypeId} {c : Code} (hB : Wl.heap.size ≤ B) : OwnFrom B (OffX A v xs l0 Wl o ts c) := fun s X Y row hs hg hr => by
  obtain ⟨h1, h2, h3, h4⟩ := hs
  exact ⟨h1, boxed_own _ _ (fun (_ : Unit) => _) () X Y row h2 hg (fun r e => (hr r e).2), ownFrom_ext hB () X Y row h3 hg hr, h4⟩
theorem downs_next {n : Nat} {pre : List {i : Nat // i < n}} {x : {i : Nat // i < n}} (h : (pre ++ [x]).map Subtype.val = downs n (pre ++ [x]).length) : pre.map Subtype.val = downs n pre.length ∧ x.1 = n - 1 - pre.length := by
  rw [List.length_append, show [x].length = 1 from rfl, downs_succ, List.map_append] at h
  have h2 := List.append_inj h (by simp [downs_len])
  exact ⟨h2.1, by simpa using h2.2⟩
theorem off_none {A : Alpha} {v : Nat} {xs : List Aff} {l0 c : List Int} {pre : List {i : Nat // i < xs.length}} {x : {i : Nat // i < xs.length}} (h : pre.map Subtype.val = downs xs.length pre.length → offDn A v xs xs.length l0 = offDn A v xs (xs.length - pre.length) c) (hlen : pre.length < xs.length)
    (h2 : offL A v (ax xs x.1) c = none) : (pre ++ [x]).map Subtype.val = downs xs.length (pre ++ [x]).length → offDn A v xs xs.length l0 = none := fun h3 => by
  obtain ⟨h4, h5⟩ := downs_next h3
  rw [h h4, show xs.length - pre.length = x.1 + 1 by omega, offDn_none h2]
theorem off_some {A : Alpha} {v : Nat} {xs : List Aff} {l0 c s : List Int} {pre : List {i : Nat // i < xs.length}} {x : {i : Nat // i < xs.length}} (h : pre.map Subtype.val = downs xs.length pre.length → offDn A v xs xs.length l0 = offDn A v xs (xs.length - pre.length) c) (hlen : pre.length < xs.length)
    (h2 : offL A v (ax xs x.1) c = some s) : (pre ++ [x]).map Subtype.val = downs xs.length (pre ++ [x]).length → offDn A v xs xs.length l0 = offDn A v xs (xs.length - (pre ++ [x]).length) s := fun h3 => by
  obtain ⟨h4, h5⟩ := downs_next h3
  rw [h h4, show xs.length - pre.length = x.1 + 1 by omega, offDn_some h2, List.length_append, show [x].length = 1 from rfl, show xs.length - (pre.length + 1) = x.1 by omega]
theorem offL_no {A : Alpha} {v : Nat} {x : Aff} {c : List Int} (h : offC A v x c = none) : offL A v x c = none := by unfold offL; rw [h]
theorem offL_ne {A : Alpha} {v : Nat} {x : Aff} {c s : List Int} (h : offC A v x c = some s) (h2 : ¬ mkL A v x s = (c, 0)) : offL A v x c = none := by unfold offL; rw [h]; exact if_neg h2
theorem offL_yes {A : Alpha} {v : Nat} {x : Aff} {c s : List Int} (h : offC A v x c = some s) (h2 : mkL A v x s = (c, 0)) : offL A v x c = some s := by unfold offL; rw [h]; exact if_pos h2
theorem offC_len {A : Alpha} {v : Nat} {x : Aff} {l s : List Int} (h : offC A v x l = some s) : s.length ≤ l.length := (offC_sub h).2

set_option maxRecDepth 100000 in
set_option maxHeartbeats 8000000 in
theorem soff_any (fp ap lp xp : Option Addr) (fc ac lc xc mb : Nat) (A : Alpha) (v : Nat) (l : List Int) (xs : List Aff) (hok : A.Ok) (hl : InA A l) (hl2 : l.length ≤ 256) (hsm : ∀ i, i < xs.length → (ax xs i).small) (hxs : ∀ i, i < xs.length → affB A (ax xs i) = true) (w : World) (hA : AlphaAt w fp ap A) (hT : Tabs w) (hM : ConsAt w mb A v) (hL : SlAt w lp l lc) (hX : AffsAt w xp xs) :
    Calls Tryd.prog 31 #[.agg #[.slice fp A.feats.length fc, .slice ap A.lets.length ac, .map (some mb)], .slice lp l.length lc, .slice xp xs.length xc] w fun e w' => OptAt (optS (offDn A v xs xs.length l)) e w' ∧ Ext w w' := by
  have hx0 : Ext w (w.alloc (.cells #[.slice fp A.feats.length fc, .slice ap A.lets.length ac, .map (some mb)] 74)) := (Ext.refl _).alloc _
  have hzl : (w.alloc (.cells #[.slice fp A.feats.length fc, .slice ap A.lets.length ac, .map (some mb)] 74)).heap.size = w.heap.size + 1 := size_alloc _ _
  obtain ⟨Wl, hWl⟩ : ∃ Wl, w.alloc (.cells #[.slice fp A.feats.length fc, .slice ap A.lets.length ac, .map (some mb)] 74) = Wl := ⟨_, rfl⟩
  rw [hWl] at hx0 hzl
  have HBX := Lib.hid (fun W (hW : Ext Wl W) => (by
    rw [← hWl] at hW
    exact ⟨hW.cell0 0, hW.cell0 1, hW.cell0 2, hW.lt0⟩ : W.cell? ⟨w.heap.size, 0, none⟩ = some (.slice fp A.feats.length fc) ∧ W.cell? ⟨w.heap.size, 1, none⟩ = some (.slice ap A.lets.length ac) ∧ W.cell? ⟨w.heap.size, 2, none⟩ = some (.map (some mb)) ∧ w.heap.size < W.heap.size))
  obtain ⟨o, ho⟩ : ∃ o, w.heap.size + 1 = o := ⟨_, rfl⟩
  rw [ho] at hzl
  have bL := ((Boxed.new Wl 75 (.slice lp l.length lc)).alloc (.cells #[.slice none 0 0] 23)).alloc (.cells #[.slice xp xs.length xc] 37)
  have bT := (Boxed.new (Wl.alloc (.cells #[.slice lp l.length lc] 75)) 23 (.slice none 0 0)).alloc (.cells #[.slice xp xs.length xc] 37)
  have bB := Boxed.new ((Wl.alloc (.cells #[.slice lp l.length lc] 75)).alloc (.cells #[.slice none 0 0] 23)) 37 (.slice xp xs.length xc)
  have hx1 : Ext Wl (((Wl.alloc (.cells #[.slice lp l.length lc] 75)).alloc (.cells #[.slice none 0 0] 23)).alloc (.cells #[.slice xp xs.length xc] 37)) := (((Ext.refl _).alloc _).alloc _).alloc _
  have hs0 : (((Wl.alloc (.cells #[.slice lp l.length lc] 75)).alloc (.cells #[.slice none 0 0] 23)).alloc (.cells #[.slice xp xs.length xc] 37)).heap.size = o + 1 + 1 + 1 := by simp only [World.size_alloc, hzl]
  simp only [World.size_alloc, hzl] at bL bT bB
  have HMD := Lib.hid (fun i (hi : i < xs.length) W (hW : Ext w W) => made_any fp ap fc ac A (ax xs i) (hX.wf i hi) (hsm i hi) hok W (hA.mono hW) (hT.ext hW))
  have HXS := Lib.hid hxs
  have HOK := Lib.hid hok
  have hXl := hX.mono hx0
  have hLl := hL.mono hx0
  have HMM := Lib.hid (fun W (hW : Ext w W) => hM.mono hW)
  have hxb := hX.big
  clear hsm hxs hok hX hA hT
  refine (callsIn_wide (n := 8)).1 ?_
  refine callsIn_of_wp_marks Tryd.func31 rfl trivial ?_ rfl
  simp only [Tryd.ntmps31, List.size_toArray, List.length_cons, List.length_nil, Nat.reduceAdd, Nat.reduceSub, Array.replicate_succ, Array.replicate_zero, List.push_toArray, List.append_toArray, List.nil_append, List.cons_append]
  gi_wp2_with (refine ⟨trivial, ?_⟩; gi_at_call 44; refine (abackward_in _ _ _ _ _).mono ?_; rintro e w' ⟨rfl, rfl⟩)
  obtain ⟨W0, hW0⟩ : ∃ W0, ((Wl.alloc (.cells #[.slice lp l.length lc] 75)).alloc (.cells #[.slice none 0 0] 23)).alloc (.cells #[.slice xp xs.length xc] 37) = W0 := ⟨_, rfl⟩
  rw [hW0] at bL bT bB hx1 hs0 ⊢
  clear hW0 hWl
  refine wpIn_rangeFunc_ownH rfl (by omega) (gf := 57) (lb := #[.pointer (some ⟨o + 1 + 1, 0, none⟩)]) rfl trivial (enters_of Tryd.func57 (by kernel_rfl) rfl)
    (aback_stops _ (o + 1 + 1) o xc (by omega) xp xs Wl W0 (by omega) (by omega) hx1 (by omega) bB.cell hXl) kpB_t (kpB_b (by omega) (by omega)) (Below.refl _ _) (fun _ => rfl)
    (OffI A v xs l Wl o 75 23)
    (OffX A v xs l Wl o 23)
    (OffI.own (by omega))
    (fun _ => OffX.own (by omega))
    ⟨l, lp, lc, bL, bT, hLl.mono hx1, hl, hl2, hx1, by omega, fun _ => rfl⟩
    (fun x a' W => ∃ Bx, o + 1 + 1 < Bx ∧ W.heap[Bx]? = some (.cells #[.int .u8 ((ax xs x.1).kind : Int), .string (ax xs x.1).form, .string (ax xs x.1).other, .int .i64 (ax xs x.1).pos] 36 (0, 0)) ∧ a' = { tmps := #[.agg #[.slice fp A.feats.length fc, .slice ap A.lets.length ac, .map (some mb)], .slice lp l.length lc, .slice xp xs.length xc, .pointer (some ⟨w.heap.size, 0, none⟩), .pointer (some ⟨o, 0, none⟩), undef, .pointer (some ⟨o + 1, 0, none⟩), undef, .pointer (some ⟨Bx, 0, none⟩), undef, undef, undef, undef, undef, undef, .slice xp xs.length xc, .func (.func 57) #[] #[.pointer (some ⟨o + 1 + 1, 0, none⟩)], .int .i64 (x.1 : Int), .agg #[.int .u8 ((ax xs x.1).kind : Int), .string (ax xs x.1).form, .string (ax xs x.1).other, .int .i64 (ax xs x.1).pos], undef, undef, undef, undef, undef, undef, undef, undef, undef, undef, undef, undef, undef, undef, undef, undef, undef, undef, undef, undef, undef, undef, undef, undef, undef, undef, undef, undef, undef, undef, undef, undef, undef, undef, undef], defers := [] })
    (fun x a' _ X Y row hs hg hr => by
      obtain ⟨Bx, h1, h2, h3⟩ := hs
      exact ⟨Bx, h1, cells_own Bx (fun (_ : Unit) => .cells #[.int .u8 ((ax xs x.1).kind : Int), .string (ax xs x.1).form, .string (ax xs x.1).other, .int .i64 (ax xs x.1).pos] 36 (0, 0)) (fun _ => rfl) () X Y row h2 hg (fun r e => (hr r e).2), h3⟩)
    ?assign ?body ?done ?stop
  case assign =>
    rintro lo pre x W K ⟨c, cp, cc, h1, h2, h3, h4, h5, h6, h7, h8⟩ hK
    simp only [aencs]
    gi_wp2
    exact hK _ _ (keeps_of_ext ((Ext.refl W).alloc _)) (kpB_ext ((Ext.refl W).alloc _) (by omega) h7) ⟨c, cp, cc, h1.alloc _, h2.alloc _, h3.mono ((Ext.refl W).alloc _), h4, h5, h6.alloc _, (by rw [World.size_alloc]; omega), h8⟩ ⟨W.heap.size, h7, World.alloc_heap_new _ _, rfl⟩
  case body =>
    rintro lo pre ⟨j, hj⟩ a' W hlo _ ⟨c, cp, cc, h1, h2, h3, h4, h5, h6, h7, h8⟩ ⟨Bx, hBx, hbx, rfl⟩ hlen
    have HMK := Lib.hid (HMD.out j hj)
    have HXK := Lib.hid (HXS.out j hj)
    have HN := Lib.hid (fun h => off_none (x := ⟨j, hj⟩) h8 hlen h)
    have HS := Lib.hid (fun s h => off_some (x := ⟨j, hj⟩) (s := s) h8 hlen h)
    dsimp only at hbx HN HS
    obtain ⟨x, hxx⟩ : ∃ x, ax xs j = x := ⟨_, rfl⟩
    rw [hxx] at HMK HXK HN HS hbx
    simp only [hxx]
    have x0 := cell_of (j := 0) hbx rfl
    have x1 := cell_of (j := 1) hbx rfl
    have x2 := cell_of (j := 2) hbx rfl
    have x3 := cell_of (j := 3) hbx rfl
    obtain ⟨d0, d1, d2, l0⟩ := HBX.out _ h6
    have hbl := (Array.getElem?_eq_some_iff.1 hbx).1
    have hd : 1 ≤ 8 - 1 - 1 := by omega
    clear hxx h8
    gi_wp2_with (refine ⟨trivial, ?_⟩; gi_at_call 28; refine (CallsIn.inRound lo (callsIn_wide.2 (HMK.out _ (hx0.trans h6)))).mono ?_; rintro e w2 ⟨⟨yv, rfl, hyv⟩, hy2⟩; rw [HXK.out]; obtain ⟨d0, d1, d2, l0⟩ := HBX.out _ (h6.trans hy2); have hz2 := h6.trans hy2; have k2 := (boxX h1 hy2).cell; have hyv2 := hyv HXK.out; obtain ⟨T, val, F, e1, hmet, hcf, hcall⟩ := off_call (fp := fp) (ap := ap) (fc := fc) (ac := ac) HOK.out HXK.out hyv2 (HMM.out _ (hx0.trans hz2)); obtain ⟨T2, val2, F2, e2, hmet2, hcf2, hcall2⟩ := put_call (fp := fp) (ap := ap) (fc := fc) (ac := ac) HOK.out HXK.out hyv2 (HMM.out _ (hx0.trans hz2)); subst e1; cases e2; have HC := Lib.hid (hcall w2 c cp cc (Ext.refl _) (h3.mono hy2) h4 h5); have HC2 := Lib.hid hcall2; clear hcall hcall2 hyv hyv2)
    cases hO : offC A v x c with
    | none =>
      rw [hO] at HC
      have HX9 := Lib.hid (HN.out (offL_no hO))
      clear hO HN HS
      refine ⟨trivial, ?_⟩
      refine (CallsIn.inRound lo (callsIn_wide.2 HC.out)).mono ?_
      rintro e w3 ⟨rfl, hy3⟩
      have hT3 := boxX h2 (hy2.trans hy3)
      have k6 := hT3.cell
      have f6 := hT3.frozen
      gi_wp2
      exact ⟨(keeps_of_ext (hy2.trans hy3)).trans ((KeepsOthers.setCell _ _ _).from _), rfl, hT3.set _, ((hz2.trans hy3).setCell (by simp; omega) _), HX9.out⟩
    | some s =>
      rw [hO] at HC
      refine ⟨trivial, ?_⟩
      refine (CallsIn.inRound lo (callsIn_wide.2 HC.out)).mono ?_
      rintro e w3 ⟨⟨rp, rc, rfl, hs3⟩, hy3⟩
      have hz3 := hz2.trans hy3
      have hsl := Nat.le_trans (offC_len hO) h5
      have hsi := offC_in hO h4
      have hc2 := HC2.out w3 s rp rc hy3 hs3 hsi hsl
      have HLN := Lib.hid (fun h => HN.out (offL_ne hO h))
      have HLY := Lib.hid (fun h => HS.out s (offL_yes hO h))
      have HSI := Lib.hid hsi
      obtain ⟨MR, hMR⟩ : ∃ MR, mkL A v x s = MR := ⟨_, rfl⟩
      rw [hMR] at hc2 HLN HLY
      obtain ⟨R, E⟩ := MR
      have HCP := Lib.hid hc2
      obtain ⟨d0, d1, d2, l0⟩ := HBX.out _ hz3
      clear hO HN HS HC HC2 hc2 hMR hsi x0 x1 x2 x3
      by_cases hE : E = 0
      · subst hE
        gi_wp2
        refine ⟨trivial, ?_⟩
        refine (CallsIn.inRound lo (callsIn_wide.2 HCP.out)).mono ?_
        rintro e w4 ⟨⟨bp, bc, rfl, hb4⟩, hy4⟩
        have hy234 := hy2.trans (hy3.trans hy4)
        have k4 := (boxX h1 hy234).cell
        have hEq := Equal_any bp cp bc cc R c w4 hb4.at_ (h3.mono hy234).at_
        dsimp only at hb4 ⊢
        by_cases hRc : R = c
        · have HX9 := Lib.hid (HLY.out (by rw [hRc]))
          rw [decide_eq_true hRc] at hEq
          have HEQ := Lib.hid hEq
          clear hRc HLN HLY HCP hEq
          gi_wp2_with (refine ⟨trivial, ?_⟩; gi_at_call 45; refine (CallsIn.inRound lo (callsIn_wide.2 HEQ.out)).mono ?_; rintro e w5 ⟨rfl, hy5⟩; have hL5 := boxX h1 (hy234.trans hy5); have k7 := hL5.cell; have f7 := hL5.frozen)
          have hT5 := boxX h2 (hy234.trans hy5)
          have hkp := kpB_ext (hy234.trans hy5) (n₁ := o) (Bs := o + 1 + 1) (by omega) h7
          have hle5 := (hy234.trans hy5).le
          exact ⟨(keeps_of_ext (hy234.trans hy5)).trans ((KeepsOthers.setCell _ _ _).from _), ⟨hkp.1.setCell (p := ⟨o, 0, none⟩) (Nat.le_refl _) _, (Below.heap_setCell _ _ _ _ (by simp; omega)).trans hkp.2⟩, s, rp, rc, hL5.set _, hT5.other (by omega) _, SlAt.box (hs3.mono (hy4.trans hy5)) hL5 _, HSI.out, hsl, ((h6.trans (hy234.trans hy5)).setCell (by simp; omega) _), by rw [World.size_setCell]; omega, HX9.out⟩
        · have HX9 := Lib.hid (HLN.out (fun h => hRc (by injection h)))
          rw [decide_eq_false hRc] at hEq
          have HEQ := Lib.hid hEq
          clear hRc HLN HLY HCP hEq
          gi_wp2_with (refine ⟨trivial, ?_⟩; gi_at_call 45; refine (CallsIn.inRound lo (callsIn_wide.2 HEQ.out)).mono ?_; rintro e w5 ⟨rfl, hy5⟩; have hT5 := boxX h2 (hy234.trans hy5); have k6 := hT5.cell; have f6 := hT5.frozen)
          exact ⟨(keeps_of_ext (hy234.trans hy5)).trans ((KeepsOthers.setCell _ _ _).from _), rfl, hT5.set _, ((h6.trans (hy234.trans hy5)).setCell (by simp; omega) _), HX9.out⟩
      · have HX9 := Lib.hid (HLN.out (fun h => hE (by injection h)))
        have gE : (E != 0) = true := by rw [bne_iff_ne]; exact hE
        clear hE HLN HLY
        gi_wp2
        refine ⟨trivial, ?_⟩
        refine (CallsIn.inRound lo (callsIn_wide.2 HCP.out)).mono ?_
        rintro e w4 ⟨⟨bp, bc, rfl, hb4⟩, hy4⟩
        dsimp only
        have hT5 := boxX h2 (hy2.trans (hy3.trans hy4))
        have k6 := hT5.cell
        have f6 := hT5.frozen
        gi_wp2
        refine ⟨trivial, ?_⟩
        gi_wp2
        exact ⟨(keeps_of_ext (hy2.trans (hy3.trans hy4))).trans ((KeepsOthers.setCell _ _ _).from _), rfl, hT5.set _, ((h6.trans (hy2.trans (hy3.trans hy4))).setCell (by simp; omega) _), HX9.out⟩
  case done =>
    rintro D ys W hD hys ⟨c, cp, cc, h1, h2, h3, h4, h5, h6, h7, h8⟩ hK
    have hyl : ys.length = xs.length := by have := congrArg List.length hys; rwa [List.length_map, downs_len] at this
    have hres := h8 (by rw [hyl]; exact hys)
    rw [hyl, Nat.sub_self, offDn] at hres
    have hcv := h3.at_.text (P := Tryd.prog) (src := 75) (dst := 9) Tryd.underlying75 Tryd.underlying21 Tryd.underlying9 cc
    have k1 := h1.cell
    have h2a := h2.alloc (.cells #[.string (runesBytes c)] 9)
    have k2 := h2a.cell
    have f2 := h2a.frozen
    have hKa : (W.alloc (.cells #[.string (runesBytes c)] 9)).heap[D]? = some (.deferred (some [])) := (Below.heap_alloc _ _ _ (Array.getElem?_eq_some_iff.1 hK).1).trans hK
    have hDW := (Array.getElem?_eq_some_iff.1 hK).1
    clear h8
    gi_wp2
    have hK1 := (KeepsOthers.setCell (W.alloc (.cells #[.string (runesBytes c)] 9)) ⟨o + 1, 0, none⟩ (.slice (some ⟨W.heap.size, 0, none⟩) 1 1)).same D _ hKa rfl
    have c8 := ((h2a.set (.slice (some ⟨W.heap.size, 0, none⟩) 1 1)).kept (grownBy_putObj' _ D (.deferred none)) (by intro e; simp at e; omega)).cell
    have hnew : Boxed (W.alloc (.cells #[.string (runesBytes c)] 9)) W.heap.size 9 (.string (runesBytes c)) := Boxed.new _ _ _
    have c9 := ((hnew.other (B' := o + 1) (by omega) (.slice (some ⟨W.heap.size, 0, none⟩) 1 1)).kept (grownBy_putObj' _ D (.deferred none)) (by intro e; simp at e; omega))
    refine ⟨by simp, .inl ⟨_, _, rfl, run_takeDeferred hK1, ?_⟩⟩
    refine ⟨.slice (some ⟨W.heap.size, 0, none⟩) 1 1, ?_, ⟨some ⟨W.heap.size, 0, none⟩, 1, by rw [hres]; rfl, fun s hs => ?_⟩, Ext.putObj (((hx0.trans h6).alloc _).setCell (by simp; omega) _) (by have := hx0.le; omega) hK1 rfl rfl _⟩
    · simp [results, Tryd.f31, go_sem, c8]
    · rw [hres] at hs
      have hs2 : runesBytes c = s := by simpa [optS] using hs
      rw [← hs2]
      exact ⟨_, rfl, c9.lt, c9.cell⟩
  case stop =>
    rintro D c pre W hD ⟨j, hj, hpre⟩ ⟨rfl, h2, h6, h8⟩ hK
    have hpl : pre.length = j := by have := congrArg List.length hpre; rwa [List.length_map, downs_len] at this
    have hres := h8 (by rw [hpl]; exact hpre)
    gi_wp2
    have c8 := (h2.kept (grownBy_putObj' _ D (.deferred none)) (by intro e; simp at e; omega)).cell
    refine ⟨by simp, .inl ⟨_, _, rfl, run_takeDeferred hK, ?_⟩⟩
    refine ⟨.slice none 0 0, ?_, ⟨none, 0, by rw [hres]; rfl, fun s hs => by rw [hres] at hs; cases hs⟩, Ext.putObj (hx0.trans h6) (by have := hx0.le; omega) hK rfl rfl _⟩
    simp [results, Tryd.f31, go_sem, c8]
end Go.Proofs.YtkmfhcjdaglikaaDoor

namespace Go.Proofs.YtkmfhcjdaglikaaDoor
open Go.RowKit Go.Cg Go.Shelf Go.Maps

def OptAt2 (T : List ByteArray) (E : Int) (e : Ending) (w' : World) : Prop := ∃ rp rc, e = .returned (.tuple #[.slice rp T.length rc, .int .i64 E]) ∧ ∀ s, T = [s] → ∃ b, rp = some ⟨b, 0, none⟩ ∧ b < w'.heap.size ∧ w'.cell? ⟨b, 0, none⟩ = some (.string s)
theorem off_one {A : Alpha} {v : Nat} {s : ByteArray} {x : Aff} (h : oneE A v s x = 0) : optS (offDn A v [x] 1 (spell A s).1) = offS A v s x := by
  unfold offS
  rw [if_pos h]
  show optS (match offL A v x (spell A s).1 with | none => none | some s => some s) = _
  cases offL A v x (spell A s).1 <;> rfl
theorem stem_one {A : Alpha} {v : Nat} {P : Para} {n : Int} {s : ByteArray} (h : cellE A v P n s = 0) : optS (offDn A v (cx P.cells n.toNat).affs (cx P.cells n.toNat).affs.length (spell A s).1) = stemS A v P n s := by
  unfold stemS; rw [if_pos h]
theorem stem_no {A : Alpha} {v : Nat} {P : Para} {n : Int} {s : ByteArray} (h : cellE A v P n s ≠ 0) : stemS A v P n s = [] := if_neg h

set_option maxRecDepth 100000 in
set_option maxHeartbeats 4000000 in
theorem off_any (fp ap : Option Addr) (fc ac : Nat) (A : Alpha) (v : Nat) (hv : v < 4294967296) (s : ByteArray) (hs : s.size ≤ 140737488351232) (x : Aff) (hwf : x.wf) (hsm : x.small) (w : World) (hA : AlphaAt w fp ap A) (hT : Tabs w) :
    Calls Tryd.prog 14 #[.agg #[.slice fp A.feats.length fc, .slice ap A.lets.length ac], .int .u32 v, .string s, .agg #[.int .u8 (x.kind : Int), .string x.form, .string x.other, .int .i64 x.pos]] w fun e w' => OptAt2 (offS A v s x) (oneE A v s x) e w' ∧ Ext w w' := by
  have hx0 : Ext w (w.alloc (.cells #[.slice fp A.feats.length fc, .slice ap A.lets.length ac] 26)) := (Ext.refl _).alloc _
  obtain ⟨W1, hW1⟩ : ∃ W1, w.alloc (.cells #[.slice fp A.feats.length fc, .slice ap A.lets.length ac] 26) = W1 := ⟨_, rfl⟩
  have hx1 : Ext W1 (W1.alloc (.cells #[.int .u8 (x.kind : Int), .string x.form, .string x.other, .int .i64 x.pos] 36)) := (Ext.refl _).alloc _
  obtain ⟨W2, hW2⟩ : ∃ W2, W1.alloc (.cells #[.int .u8 (x.kind : Int), .string x.form, .string x.other, .int .i64 x.pos] 36) = W2 := ⟨_, rfl⟩
  rw [hW1] at hx0
  rw [hW2] at hx1
  have z1 : W1.heap.size = w.heap.size + 1 := by rw [← hW1, size_alloc]
  have HB0 := Lib.hid (fun W (hW : Ext W2 W) => (by
    have h := hx1.trans hW
    rw [← hW1] at h
    exact ⟨h.cell0 0, h.cell0 1, h.lt0⟩ : W.cell? ⟨w.heap.size, 0, none⟩ = some (.slice fp A.feats.length fc) ∧ W.cell? ⟨w.heap.size, 1, none⟩ = some (.slice ap A.lets.length ac) ∧ w.heap.size < W.heap.size))
  have HB1 := Lib.hid (fun W (hW : Ext W2 W) => (by
    have h := hW
    rw [← hW2] at h
    have c0 := h.cell0 0
    have c1 := h.cell0 1
    have c2 := h.cell0 2
    have c3 := h.cell0 3
    have l0 := h.lt0
    rw [z1] at c0 c1 c2 c3 l0
    exact ⟨c0, c1, c2, c3, l0⟩ : W.cell? ⟨w.heap.size + 1, 0, none⟩ = some (.int .u8 (x.kind : Int)) ∧ W.cell? ⟨w.heap.size + 1, 1, none⟩ = some (.string x.form) ∧ W.cell? ⟨w.heap.size + 1, 2, none⟩ = some (.string x.other) ∧ W.cell? ⟨w.heap.size + 1, 3, none⟩ = some (.int .i64 x.pos) ∧ w.heap.size + 1 < W.heap.size))
  have hwW2 : Ext w W2 := hx0.trans hx1
  have HX := Lib.hid hwW2
  have hone := one_any fp ap fc ac A v hv s hs x hwf hsm W2 (hA.mono hwW2) (hT.ext hwW2)
  have hW2e : (w.alloc (.cells #[.slice fp A.feats.length fc, .slice ap A.lets.length ac] 26)).alloc (.cells #[.int .u8 (x.kind : Int), .string x.form, .string x.other, .int .i64 x.pos] 36) = W2 := by rw [hW1, hW2]
  obtain ⟨d0, d1, l0⟩ := HB0.out _ (Ext.refl _)
  obtain ⟨c0, c1, c2, c3, l1⟩ := HB1.out _ (Ext.refl _)
  clear hW1 hW2 hx0 hx1 z1 hwW2
  by_cases h0 : oneE A v s x = 0
  · have k1 := off_one h0
    obtain ⟨k3, k4, k5⟩ := oneE_ok h0
    have hok := classE_ok1 k3
    obtain ⟨_, _, hin, h64⟩ := spell_ok k4
    have HSP := Lib.hid (fun lp lc mb W (hW : Ext w W) hM hL => soff_any fp ap lp (some ⟨W.heap.size, 0, none⟩) fc ac lc 1 mb A v (spell A s).1 [x] hok hin (Nat.le_trans h64 (by decide)) (fun i hi => by match i, hi with | 0, _ => exact hsm) (fun i hi => by match i, hi with | 0, _ => exact k5) (W.alloc (.cells #[.int .u8 (x.kind : Int), .string x.form, .string x.other, .int .i64 x.pos] 36)) (hA.mono (hW.alloc _)) (hT.ext (hW.alloc _)) (ConsAt.mono hM ((Ext.refl W).alloc _)) (SlAt.mono hL ((Ext.refl W).alloc _)) (affs_one hwf))
    rw [show ([x] : List Aff).length = 1 from rfl, k1] at HSP
    rw [h0] at hone
    have HON := Lib.hid (hone.mono fun e w' h => (⟨h.1.1 rfl, h.2⟩ : _ ∧ Ext _ w'))
    obtain ⟨L, hL⟩ : ∃ L, (spell A s).1 = L := ⟨_, rfl⟩
    rw [hL] at HSP HON
    obtain ⟨PS, hPS⟩ : ∃ PS, offS A v s x = PS := ⟨_, rfl⟩
    rw [hPS] at HSP ⊢
    rw [h0]
    clear hone h0 k1 k3 k4 k5 hin h64 hL hPS
    go_enter Tryd.func14, Tryd.ntmps14
    go_wp2_with fail
    refine HON.out.mono ?_
    rintro e w1 ⟨⟨mb, rp, rc, rfl, hM, hL⟩, hy1⟩
    clear hW2e d0 d1 l0 c0 c1 c2 c3 l1
    have hb1 := (Ext.refl w1).alloc (.cells #[.slice fp A.feats.length fc, .slice ap A.lets.length ac, .map (some mb)] 74)
    have hz2 := hy1.trans hb1
    obtain ⟨e0, e1, e2, _, _, _, l2⟩ := (⟨heap_alloc_new _ _⟩ : Box3 (w1.alloc (.cells #[.slice fp A.feats.length fc, .slice ap A.lets.length ac, .map (some mb)] 74)) w1.heap.size (.slice fp A.feats.length fc) (.slice ap A.lets.length ac) (.map (some mb)) 74).facts
    obtain ⟨c0, c1, c2, c3, l1⟩ := HB1.out _ hz2
    have hsp := Lib.hid (HSP.out rp rc mb _ (HX.out.trans hz2) (hM.mono hb1) (hL.mono hb1))
    have hz3 := hz2.alloc (.cells #[.int .u8 (x.kind : Int), .string x.form, .string x.other, .int .i64 x.pos] 36)
    clear HSP HON hM hL
    go_wp2_with fail
    rw [size_alloc] at hsp
    refine hsp.out.mono ?_
    rintro e w3 ⟨⟨qp, qc, rfl, hq⟩, hy3⟩
    go_wp2_with fail
    go_ret2
    exact ⟨⟨qp, qc, rfl, hq⟩, HX.out.trans (hz3.trans hy3)⟩
  · rw [offS_err h0]
    have HON := Lib.hid (hone.mono fun e w' h => (⟨h.1.2 h0, h.2⟩ : _ ∧ Ext _ w'))
    have gE : (oneE A v s x != 0) = true := by rw [bne_iff_ne]; exact h0
    obtain ⟨E, hE⟩ : ∃ E, oneE A v s x = E := ⟨_, rfl⟩
    rw [hE] at HON gE ⊢
    clear hone h0 hE
    go_enter Tryd.func14, Tryd.ntmps14
    go_wp2_with fail
    refine HON.out.mono ?_
    rintro e w1 ⟨⟨pa, na, ka, pb, nb, kb, m, p, n, k, rfl⟩, hy1⟩
    clear hW2e d0 d1 l0 c0 c1 c2 c3 l1
    go_wp2_with fail
    go_ret2
    exact ⟨⟨none, 0, rfl, fun s hs => by cases hs⟩, (HX.out.trans hy1).alloc _⟩

set_option maxRecDepth 100000 in
set_option maxHeartbeats 8000000 in
theorem stems_any (fp ap pp : Option Addr) (fc ac pc : Nat) (A : Alpha) (v : Nat) (hv : v < 4294967296) (P : Para) (g : Nat → Option Addr × Nat) (n : Int) (hnl : -9223372036854775808 ≤ n) (hnh : n ≤ 9223372036854775807) (s : ByteArray) (hs : s.size ≤ 140737488351232) (hn9 : P.name.size ≤ 140737488351232) (hsm : ∀ k, k < P.cells.length → ∀ j, j < (cx P.cells k).affs.length → (ax (cx P.cells k).affs j).small) (w : World) (hA : AlphaAt w fp ap A) (hT : Tabs w) (hP : CellsAt w pp P.cells g) :
    Calls Tryd.prog 16 #[.agg #[.slice fp A.feats.length fc, .slice ap A.lets.length ac], .int .u32 v, .agg #[.string P.name, .slice pp P.cells.length pc], .int .i64 n, .string s] w fun e w' => OptAt2 (stemS A v P n s) (cellE A v P n s) e w' ∧ Ext w w' := by
  have hx0 : Ext w (w.alloc (.cells #[.slice fp A.feats.length fc, .slice ap A.lets.length ac] 26)) := (Ext.refl _).alloc _
  obtain ⟨W1, hW1⟩ : ∃ W1, w.alloc (.cells #[.slice fp A.feats.length fc, .slice ap A.lets.length ac] 26) = W1 := ⟨_, rfl⟩
  have hx1 : Ext W1 (W1.alloc (.cells #[.string P.name, .slice pp P.cells.length pc] 32)) := (Ext.refl _).alloc _
  obtain ⟨W2, hW2⟩ : ∃ W2, W1.alloc (.cells #[.string P.name, .slice pp P.cells.length pc] 32) = W2 := ⟨_, rfl⟩
  rw [hW1] at hx0
  rw [hW2] at hx1
  have z1 : W1.heap.size = w.heap.size + 1 := by rw [← hW1, size_alloc]
  have HB0 := Lib.hid (fun W (hW : Ext W2 W) => (by
    have h := hx1.trans hW
    rw [← hW1] at h
    exact ⟨h.cell0 0, h.cell0 1, h.lt0⟩ : W.cell? ⟨w.heap.size, 0, none⟩ = some (.slice fp A.feats.length fc) ∧ W.cell? ⟨w.heap.size, 1, none⟩ = some (.slice ap A.lets.length ac) ∧ w.heap.size < W.heap.size))
  have HB1 := Lib.hid (fun W (hW : Ext W2 W) => (by
    have h := hW
    rw [← hW2] at h
    have c0 := h.cell0 0
    have c1 := h.cell0 1
    have l0 := h.lt0
    rw [z1] at c0 c1 l0
    exact ⟨c0, c1, l0⟩ : W.cell? ⟨w.heap.size + 1, 0, none⟩ = some (.string P.name) ∧ W.cell? ⟨w.heap.size + 1, 1, none⟩ = some (.slice pp P.cells.length pc) ∧ w.heap.size + 1 < W.heap.size))
  have hwW2 : Ext w W2 := hx0.trans hx1
  have HX := Lib.hid hwW2
  have hcel := cell_any fp ap pp fc ac pc A v hv P g n hnl hnh s hs hn9 hsm W2 (hA.mono hwW2) (hT.ext hwW2) (hP.mono hwW2)
  have hW2e : (w.alloc (.cells #[.slice fp A.feats.length fc, .slice ap A.lets.length ac] 26)).alloc (.cells #[.string P.name, .slice pp P.cells.length pc] 32) = W2 := by rw [hW1, hW2]
  obtain ⟨d0, d1, l0⟩ := HB0.out _ (Ext.refl _)
  obtain ⟨c0, c1, l1⟩ := HB1.out _ (Ext.refl _)
  clear hW1 hW2 hx0 hx1 z1 hwW2
  by_cases h0 : cellE A v P n s = 0
  · have k1 := stem_one h0
    obtain ⟨k3, k4, k5, k6, k7⟩ := cellE_ok h0
    have hok := classE_ok1 k3
    obtain ⟨_, _, hin, h64⟩ := spell_ok k7
    obtain ⟨m, rfl⟩ : ∃ m : Nat, n = (m : Int) := ⟨n.toNat, by omega⟩
    have hm : m < P.cells.length := by omega
    have h8 := ((parB_affs (parE_ok k4).2).2.2.2 m hm)
    rw [Int.toNat_natCast] at k1
    have HSP := Lib.hid (fun lp lc mb W (hW : Ext w W) hM hL => soff_any fp ap lp (g m).1 fc ac lc (g m).2 mb A v (spell A s).1 (cx P.cells m).affs hok hin (Nat.le_trans h64 (by decide)) (fun i hi => hsm m hm i hi) (fun i hi => h8.2 i hi) W (hA.mono hW) (hT.ext hW) hM hL ((hP.affs m hm).mono hW))
    rw [k1] at HSP
    rw [h0] at hcel
    have HON := Lib.hid (hcel.mono fun e w' h => (⟨h.1.1 rfl, h.2⟩ : _ ∧ Ext _ w'))
    obtain ⟨L, hL⟩ : ∃ L, (spell A s).1 = L := ⟨_, rfl⟩
    rw [hL] at HSP HON
    obtain ⟨PS, hPS⟩ : ∃ PS, stemS A v P (m : Int) s = PS := ⟨_, rfl⟩
    rw [hPS] at HSP ⊢
    rw [h0]
    have hpb := hP.big
    have HCC := Lib.hid (fun W (hW : Ext w W) => (hP.mono hW).cells hm)
    clear hcel h0 k1 k3 k4 k5 k6 k7 hin h64 hL hPS h8 hok
    go_enter Tryd.func16, Tryd.ntmps16
    go_wp2_with fail
    refine HON.out.mono ?_
    rintro e w1 ⟨⟨mb, rp, rc, rfl, hM, hL⟩, hy1⟩
    clear hW2e d0 d1 l0 c0 c1 l1
    have hb1 := (Ext.refl w1).alloc (.cells #[.slice fp A.feats.length fc, .slice ap A.lets.length ac, .map (some mb)] 74)
    have hz2 := hy1.trans hb1
    obtain ⟨e0, e1, e2, _, _, _, l2⟩ := (⟨heap_alloc_new _ _⟩ : Box3 (w1.alloc (.cells #[.slice fp A.feats.length fc, .slice ap A.lets.length ac, .map (some mb)] 74)) w1.heap.size (.slice fp A.feats.length fc) (.slice ap A.lets.length ac) (.map (some mb)) 74).facts
    obtain ⟨c0, c1, l1⟩ := HB1.out _ hz2
    obtain ⟨b, off, rfl, lb, k0, k1⟩ := HCC.out _ (HX.out.trans hz2)
    have hsp := Lib.hid (fun W (hW : Ext (w1.alloc (.cells #[.slice fp A.feats.length fc, .slice ap A.lets.length ac, .map (some mb)] 74)) W) => HSP.out rp rc mb W (HX.out.trans (hz2.trans hW)) (hM.mono (hb1.trans hW)) (hL.mono (hb1.trans hW)))
    obtain ⟨xs, hxs⟩ : ∃ xs, g m = xs := ⟨_, rfl⟩
    obtain ⟨xp, xc⟩ := xs
    rw [hxs] at hsp k1
    dsimp only at hsp k1
    clear HSP HON hM hL hxs
    have hwz := w1.size_alloc (.cells #[.slice fp A.feats.length fc, .slice ap A.lets.length ac, .map (some mb)] 74)
    obtain ⟨Wz, hWz⟩ : ∃ Wz, w1.alloc (.cells #[.slice fp A.feats.length fc, .slice ap A.lets.length ac, .map (some mb)] 74) = Wz := ⟨_, rfl⟩
    rw [hWz] at hb1 hz2 e0 e1 e2 l2 c0 c1 l1 lb k0 k1 hsp hwz
    have HS4 := Lib.hid (fun (W : World) (hW : Ext Wz W) => (⟨hW, (hW.facts.1 _ _ l2).trans e0, (hW.facts.1 _ _ l2).trans e1, (hW.facts.1 _ _ l2).trans e2, (hW.facts.1 _ _ l1).trans c0, (hW.facts.1 _ _ l1).trans c1, (hW.facts.1 _ _ lb).trans k1⟩ : Ext Wz W ∧ W.cell? ⟨w1.heap.size, 0, none⟩ = some (.slice fp A.feats.length fc) ∧ W.cell? ⟨w1.heap.size, 1, none⟩ = some (.slice ap A.lets.length ac) ∧ W.cell? ⟨w1.heap.size, 2, none⟩ = some (.map (some mb)) ∧ W.cell? ⟨w.heap.size + 1, 0, none⟩ = some (.string P.name) ∧ W.cell? ⟨w.heap.size + 1, 1, none⟩ = some (.slice (some ⟨b, off, none⟩) P.cells.length pc) ∧ W.cell? ⟨b, off + m * 2 + 1, none⟩ = some (.slice xp (cx P.cells m).affs.length xc)))
    go_wp2_with fail
    go_region_held3 (fun W => Ext Wz W ∧ W.cell? ⟨w1.heap.size, 0, none⟩ = some (.slice fp A.feats.length fc) ∧ W.cell? ⟨w1.heap.size, 1, none⟩ = some (.slice ap A.lets.length ac) ∧ W.cell? ⟨w1.heap.size, 2, none⟩ = some (.map (some mb)) ∧ W.cell? ⟨w.heap.size + 1, 0, none⟩ = some (.string P.name) ∧ W.cell? ⟨w.heap.size + 1, 1, none⟩ = some (.slice (some ⟨b, off, none⟩) P.cells.length pc) ∧ W.cell? ⟨b, off + m * 2 + 1, none⟩ = some (.slice xp (cx P.cells m).affs.length xc)) (exact HS4.out _ (by first | assumption | exact Ext.refl _ | exact (Ext.refl _).drew))
      (first
        | (go_at_call 31; refine (hsp.out _ (Ext.refl _).drew).mono ?_; rintro e w3 ⟨⟨qp, qc, rfl, hq⟩, hy3⟩; have hE3 : Ext Wz w3 := ((Ext.refl Wz).drew).trans hy3))
    go_wp2_with fail
    go_ret2
    exact ⟨⟨qp, qc, rfl, hq⟩, HX.out.trans (hz2.trans hE3)⟩
  · rw [stem_no h0]
    have HON := Lib.hid (hcel.mono fun e w' h => (⟨h.1.2 h0, h.2⟩ : _ ∧ Ext _ w'))
    have gE : (cellE A v P n s != 0) = true := by rw [bne_iff_ne]; exact h0
    obtain ⟨E, hE⟩ : ∃ E, cellE A v P n s = E := ⟨_, rfl⟩
    rw [hE] at HON gE ⊢
    clear hcel h0 hE
    go_enter Tryd.func16, Tryd.ntmps16
    go_wp2_with fail
    refine HON.out.mono ?_
    rintro e w1 ⟨⟨pa, na, ka, pb, nb, kb, m, p, n, k, rfl⟩, hy1⟩
    clear hW2e d0 d1 l0 c0 c1 l1
    go_wp2_with fail
    go_ret2
    exact ⟨⟨none, 0, rfl, fun s hs => by cases hs⟩, (HX.out.trans hy1).alloc _⟩
end Go.Proofs.YtkmfhcjdaglikaaDoor

namespace Go.Cg
open Go.RowKit Go.Lib
/-- the paradigm of the document's examples -/
def par17 : Para := ⟨⟨#[]⟩, [⟨3, [⟨6, ⟨#[]⟩, ⟨#[]⟩, 1⟩, ⟨2, ⟨#[97]⟩, ⟨#[]⟩, 0⟩]⟩, ⟨1, []⟩]⟩
def par17g (b : Nat) (i : Nat) : Option Addr × Nat := if i = 0 then (some ⟨b, 0, none⟩, 2) else (none, 0)
end Go.Cg
namespace Go.Proofs.YtkmfhcjdaglikaaDoor
open Go.RowKit Go.Cg Go.Shelf Go.Maps

def samA : Alpha := ⟨[⟨#[118, 111, 119, 101, 108]⟩], [⟨97, 1, 0⟩, ⟨105, 1, 0⟩, ⟨107, 0, 1⟩, ⟨116, 0, 1⟩, ⟨98, 0, 1⟩]⟩

set_option maxHeartbeats 1000000 in
theorem sample17_any (w : World) :
    Calls Tryd.prog 9 #[] w fun e w' => ∃ fp lp fc lc, e = .returned (.agg #[.slice fp samA.feats.length fc, .slice lp samA.lets.length lc]) ∧ AlphaAt w' fp lp samA ∧ Ext w w' := by
  go_enter Tryd.func9, Tryd.ntmps9
  go_wp2_with fail
  obtain ⟨W1, hW1⟩ : ∃ W1, w.alloc (.cells #[.slice (some ⟨w.heap.size + 1, 0, none⟩) 1 1, .slice (some ⟨w.heap.size + 1 + 1, 0, none⟩) 5 5] 26) = W1 := ⟨_, rfl⟩
  have hz1 : W1.heap.size = w.heap.size + 1 := by rw [← hW1, size_alloc]
  have hb1 : W1.heap[w.heap.size]? = some (.cells #[.slice (some ⟨w.heap.size + 1, 0, none⟩) 1 1, .slice (some ⟨w.heap.size + 1 + 1, 0, none⟩) 5 5] 26 (0, 0)) := by rw [← hW1]; exact heap_alloc_new _ _
  have hx1 : Ext w W1 := by rw [← hW1]; exact (Ext.refl _).alloc _
  rw [hW1]
  clear hW1
  obtain ⟨W2, hW2⟩ : ∃ W2, W1.alloc (.cells #[.string ⟨#[118, 111, 119, 101, 108]⟩] 9) = W2 := ⟨_, rfl⟩
  have hz2 : W2.heap.size = w.heap.size + 1 + 1 := by rw [← hW2, size_alloc, hz1]
  have hc2 : ∀ j, W2.cell? ⟨w.heap.size + 1, j, none⟩ = #[Value.string ⟨#[118, 111, 119, 101, 108]⟩][j]? := by
    intro j
    have := (Ext.refl (W1.alloc (.cells #[.string ⟨#[118, 111, 119, 101, 108]⟩] 9))).cell0 j
    rw [hW2, hz1] at this; exact this
  have hx2 : Ext W1 W2 := by rw [← hW2]; exact (Ext.refl _).alloc _
  rw [hW2]
  clear hW2
  obtain ⟨W3, hW3⟩ : ∃ W3, W2.alloc (.cells #[.int .i32 97, .int .u32 1, .int .u32 0, .int .i32 105, .int .u32 1, .int .u32 0, .int .i32 107, .int .u32 0, .int .u32 1, .int .i32 116, .int .u32 0, .int .u32 1, .int .i32 98, .int .u32 0, .int .u32 1] 64) = W3 := ⟨_, rfl⟩
  have hc3 : ∀ j, W3.cell? ⟨w.heap.size + 1 + 1, j, none⟩ = #[Value.int .i32 97, .int .u32 1, .int .u32 0, .int .i32 105, .int .u32 1, .int .u32 0, .int .i32 107, .int .u32 0, .int .u32 1, .int .i32 116, .int .u32 0, .int .u32 1, .int .i32 98, .int .u32 0, .int .u32 1][j]? := by
    intro j
    have := (Ext.refl (W2.alloc (.cells #[.int .i32 97, .int .u32 1, .int .u32 0, .int .i32 105, .int .u32 1, .int .u32 0, .int .i32 107, .int .u32 0, .int .u32 1, .int .i32 116, .int .u32 0, .int .u32 1, .int .i32 98, .int .u32 0, .int .u32 1] 64))).cell0 j
    rw [hW3, hz2] at this; exact this
  have hz3 : W3.heap.size = w.heap.size + 1 + 1 + 1 := by rw [← hW3, size_alloc, hz2]
  have hx3 : Ext W2 W3 := by rw [← hW3]; exact (Ext.refl _).alloc _
  rw [hW3]
  clear hW3
  refine bodyPost_ret (results_cell_row rfl _ _ w.heap.size 26 #[.slice (some ⟨w.heap.size + 1, 0, none⟩) 1 1, .slice (some ⟨w.heap.size + 1 + 1, 0, none⟩) 5 5] (0, 0) _ rfl ((Below.block (hx2.trans hx3) w.heap.size (by omega)).trans hb1) Tryd.underlying26 rfl (by kernel_rfl)) rfl ?_
  refine ⟨_, _, _, _, rfl, ⟨.inr ⟨w.heap.size + 1, 0, rfl, by omega, fun j hj => ?_⟩, .inr ⟨w.heap.size + 1 + 1, 0, rfl, by omega, fun j hj => ?_⟩, by decide, by decide, ?_, ?_⟩, (hx1.trans hx2).trans hx3⟩
  · have h1 : j < 1 := hj
    rw [Nat.zero_add, hx3.facts.1 _ _ (by omega), hc2]
    match j, h1 with
    | 0, _ => rfl
  · have h1 : j < 15 := hj
    rw [Nat.zero_add, hc3]
    match j, h1 with
    | 0, _ => rfl
    | 1, _ => rfl
    | 2, _ => rfl
    | 3, _ => rfl
    | 4, _ => rfl
    | 5, _ => rfl
    | 6, _ => rfl
    | 7, _ => rfl
    | 8, _ => rfl
    | 9, _ => rfl
    | 10, _ => rfl
    | 11, _ => rfl
    | 12, _ => rfl
    | 13, _ => rfl
    | 14, _ => rfl
  · intro i hi
    have h1 : i < 5 := hi
    unfold Letter.wf
    match i, h1 with
    | 0, _ => decide
    | 1, _ => decide
    | 2, _ => decide
    | 3, _ => decide
    | 4, _ => decide
  · intro i hi
    have h1 : i < 1 := hi
    match i, h1 with
    | 0, _ => decide


def x17a : Aff := ⟨4, ⟨#[116, 97]⟩, ⟨#[]⟩, 1⟩
def x17b : Aff := ⟨5, ⟨#[95, 97, 95, 105]⟩, ⟨#[]⟩, 0⟩
def x17c : Aff := ⟨5, ⟨#[95, 97, 95, 97, 95]⟩, ⟨#[]⟩, 0⟩
def x17d : Aff := ⟨2, ⟨#[97, 116]⟩, ⟨#[]⟩, 0⟩
def kitS : ByteArray := ⟨#[107, 105, 116]⟩
theorem al_1 : putE samA 1 kitS x17a = 0 := by decide +kernel
theorem al_1s : putS samA 1 kitS x17a = ⟨#[107, 116, 97, 105, 116]⟩ := by decide +kernel
theorem al_2 : putE samA 1 kitS x17b = 0 := by decide +kernel
theorem al_2s : putS samA 1 kitS x17b = ⟨#[107, 97, 116, 105]⟩ := by decide +kernel
theorem al_3 : putE samA 1 kitS x17c = 130 := by decide +kernel
theorem al_3s : putS samA 1 kitS x17c = ⟨#[]⟩ := by decide +kernel
theorem al_4 : formE samA 1 par17 0 kitS = 0 := by decide +kernel
theorem al_4s : formS samA 1 par17 0 kitS = ⟨#[107, 107, 105, 116, 97]⟩ := by decide +kernel
theorem al_5 : cellE samA 1 par17 0 ⟨#[107, 107, 105, 116, 97]⟩ = 0 := by decide +kernel
theorem al_5s : stemS samA 1 par17 0 ⟨#[107, 107, 105, 116, 97]⟩ = [⟨#[107, 105, 116]⟩] := by decide +kernel
theorem al_6 : oneE samA 1 kitS x17d = 0 := by decide +kernel
theorem al_6s : offS samA 1 kitS x17d = [] := by decide +kernel
theorem al_7 : oneE samA 1 ⟨#[107, 97, 116, 105]⟩ x17b = 0 := by decide +kernel
theorem al_7s : offS samA 1 ⟨#[107, 97, 116, 105]⟩ x17b = [⟨#[107, 116]⟩] := by decide +kernel
theorem al_8 : formE samA 1 par17 2 kitS = 8 := by decide +kernel
theorem al_8s : formS samA 1 par17 2 kitS = ⟨#[]⟩ := by decide +kernel
theorem al_9 : findTo par17.cells 2 2 = [0] := by decide +kernel
theorem par17_small : ∀ k, k < par17.cells.length → ∀ j, j < (cx par17.cells k).affs.length → (ax (cx par17.cells k).affs j).small := by
  intro k hk j hj
  unfold Aff.small
  have h1 : k < 2 := hk
  match k, h1 with
  | 0, _ =>
    have h2 : j < 2 := hj
    match j, h2 with
    | 0, _ => decide
    | 1, _ => decide
  | 1, _ =>
    have h2 : j < 0 := hj
    omega
theorem x17_wf : x17a.wf ∧ x17b.wf ∧ x17c.wf ∧ x17d.wf := by unfold Aff.wf; decide
theorem x17_small : x17a.small ∧ x17b.small ∧ x17c.small ∧ x17d.small := by unfold Aff.small; decide
end Go.Proofs.YtkmfhcjdaglikaaDoor

namespace Go.Proofs.YtkmfhcjdaglikaaDoor
open Go.RowKit Go.Cg Go.Shelf Go.Maps

/-- where the examples' paradigm lies -/
theorem par17_at {W : World} {B : Nat} (h1 : ∀ j, W.cell? ⟨B + 1, j, none⟩ = #[Value.int .u8 6, .string ⟨#[]⟩, .string ⟨#[]⟩, .int .i64 1, .int .u8 2, .string ⟨#[97]⟩, .string ⟨#[]⟩, .int .i64 0][j]?)
    (h2 : ∀ j, W.cell? ⟨B + 1 + 1, j, none⟩ = #[Value.int .u64 3, .slice (some ⟨B + 1, 0, none⟩) 2 2, .int .u64 1, .slice none 0 0][j]?) (hB : B + 1 + 1 < W.heap.size) : CellsAt W (some ⟨B + 1 + 1, 0, none⟩) par17.cells (par17g (B + 1)) := by
  refine ⟨.inr ⟨B + 1 + 1, 0, rfl, hB, fun j hj => ?_⟩, fun i hi => ?_, fun i hi => ?_, by decide⟩
  · have hj2 : j < 4 := hj
    rw [Nat.zero_add, h2]
    match j, hj2 with
    | 0, _ => rfl
    | 1, _ => rfl
    | 2, _ => rfl
    | 3, _ => rfl
  · have hi2 : i < 2 := hi
    match i, hi2 with
    | 0, _ =>
      refine ⟨.inr ⟨B + 1, 0, rfl, by omega, fun j hj => ?_⟩, fun j hj => ?_, by decide⟩
      · have hj2 : j < 8 := hj
        rw [Nat.zero_add, h1]
        match j, hj2 with
        | 0, _ => rfl
        | 1, _ => rfl
        | 2, _ => rfl
        | 3, _ => rfl
        | 4, _ => rfl
        | 5, _ => rfl
        | 6, _ => rfl
        | 7, _ => rfl
      · have hj2 : j < 2 := hj
        unfold Aff.wf
        match j, hj2 with
        | 0, _ => decide
        | 1, _ => decide
    | 1, _ => exact ⟨.inl rfl, fun j hj => absurd hj (Nat.not_lt_zero _), by decide⟩
  · have hi2 : i < 2 := hi
    match i, hi2 with
    | 0, _ => decide
    | 1, _ => decide
/-- a row of one text -/
theorem opt_one {T : List ByteArray} {s : ByteArray} {E : Int} {e : Ending} {w' : World} (hT : T = [s]) (h : OptAt2 T E e w') : ∃ b c, e = .returned (.tuple #[.slice (some ⟨b, 0, none⟩) 1 c, .int .i64 E]) ∧ b < w'.heap.size ∧ w'.cell? ⟨b, 0, none⟩ = some (.string s) := by
  obtain ⟨rp, rc, rfl, h2⟩ := h
  obtain ⟨b, rfl, h3, h4⟩ := h2 s hT
  subst hT
  exact ⟨b, rc, rfl, h3, h4⟩
theorem opt_nil {T : List ByteArray} {E : Int} {e : Ending} {w' : World} (hT : T = []) (h : OptAt2 T E e w') : ∃ p c, e = .returned (.tuple #[.slice p 0 c, .int .i64 E]) := by
  obtain ⟨rp, rc, rfl, h2⟩ := h
  subst hT
  exact ⟨rp, rc, rfl⟩

theorem al17_p1 (fp ap : Option Addr) (fc ac : Nat) (W : World) (hA : AlphaAt W fp ap samA) (hT : Tabs W) : Calls Tryd.prog 13 #[.agg #[.slice fp 1 fc, .slice ap 5 ac], .int .u32 1, .string ⟨#[107, 105, 116]⟩, .agg #[.int .u8 4, .string ⟨#[116, 97]⟩, .string ⟨#[]⟩, .int .i64 1]] W fun e w' => e = .returned (.tuple #[.string ⟨#[107, 116, 97, 105, 116]⟩, .int .i64 0]) ∧ Ext W w' := by
  have h := put_any fp ap fc ac samA 1 (by decide) kitS (by decide) x17a x17_wf.1 x17_small.1 W hA hT
  rw [al_1s, al_1] at h
  exact h
theorem al17_p2 (fp ap : Option Addr) (fc ac : Nat) (W : World) (hA : AlphaAt W fp ap samA) (hT : Tabs W) : Calls Tryd.prog 13 #[.agg #[.slice fp 1 fc, .slice ap 5 ac], .int .u32 1, .string ⟨#[107, 105, 116]⟩, .agg #[.int .u8 5, .string ⟨#[95, 97, 95, 105]⟩, .string ⟨#[]⟩, .int .i64 0]] W fun e w' => e = .returned (.tuple #[.string ⟨#[107, 97, 116, 105]⟩, .int .i64 0]) ∧ Ext W w' := by
  have h := put_any fp ap fc ac samA 1 (by decide) kitS (by decide) x17b x17_wf.2.1 x17_small.2.1 W hA hT
  rw [al_2s, al_2] at h
  exact h
theorem al17_p3 (fp ap : Option Addr) (fc ac : Nat) (W : World) (hA : AlphaAt W fp ap samA) (hT : Tabs W) : Calls Tryd.prog 13 #[.agg #[.slice fp 1 fc, .slice ap 5 ac], .int .u32 1, .string ⟨#[107, 105, 116]⟩, .agg #[.int .u8 5, .string ⟨#[95, 97, 95, 97, 95]⟩, .string ⟨#[]⟩, .int .i64 0]] W fun e w' => e = .returned (.tuple #[.string ⟨#[]⟩, .int .i64 130]) ∧ Ext W w' := by
  have h := put_any fp ap fc ac samA 1 (by decide) kitS (by decide) x17c x17_wf.2.2.1 x17_small.2.2.1 W hA hT
  rw [al_3s, al_3] at h
  exact h
theorem al17_p4 (fp ap : Option Addr) (fc ac : Nat) (W : World) (hA : AlphaAt W fp ap samA) (hT : Tabs W) (B : Nat) (hP : CellsAt W (some ⟨B + 1 + 1, 0, none⟩) par17.cells (par17g (B + 1))) : Calls Tryd.prog 15 #[.agg #[.slice fp 1 fc, .slice ap 5 ac], .int .u32 1, .agg #[.string ⟨#[]⟩, .slice (some ⟨B + 1 + 1, 0, none⟩) 2 2], .int .i64 0, .string ⟨#[107, 105, 116]⟩] W fun e w' => e = .returned (.tuple #[.string ⟨#[107, 107, 105, 116, 97]⟩, .int .i64 0]) ∧ Ext W w' := by
  have h := form_any fp ap _ fc ac 2 samA 1 (by decide) par17 _ 0 (by decide) (by decide) kitS (by decide) (by decide) par17_small W hA hT hP
  rw [al_4s, al_4] at h
  exact h
theorem al17_p5 (fp ap : Option Addr) (fc ac : Nat) (W : World) (hA : AlphaAt W fp ap samA) (hT : Tabs W) (B : Nat) (hP : CellsAt W (some ⟨B + 1 + 1, 0, none⟩) par17.cells (par17g (B + 1))) : Calls Tryd.prog 16 #[.agg #[.slice fp 1 fc, .slice ap 5 ac], .int .u32 1, .agg #[.string ⟨#[]⟩, .slice (some ⟨B + 1 + 1, 0, none⟩) 2 2], .int .i64 0, .string ⟨#[107, 107, 105, 116, 97]⟩] W fun e w' => (∃ b c, e = .returned (.tuple #[.slice (some ⟨b, 0, none⟩) 1 c, .int .i64 0]) ∧ b < w'.heap.size ∧ w'.cell? ⟨b, 0, none⟩ = some (.string ⟨#[107, 105, 116]⟩)) ∧ Ext W w' := by
  have h := stems_any fp ap _ fc ac 2 samA 1 (by decide) par17 _ 0 (by decide) (by decide) ⟨#[107, 107, 105, 116, 97]⟩ (by decide) (by decide) par17_small W hA hT hP
  rw [al_5] at h
  exact h.mono fun e w' h => ⟨opt_one al_5s h.1, h.2⟩
theorem al17_p6 (fp ap : Option Addr) (fc ac : Nat) (W : World) (hA : AlphaAt W fp ap samA) (hT : Tabs W) : Calls Tryd.prog 14 #[.agg #[.slice fp 1 fc, .slice ap 5 ac], .int .u32 1, .string ⟨#[107, 105, 116]⟩, .agg #[.int .u8 2, .string ⟨#[97, 116]⟩, .string ⟨#[]⟩, .int .i64 0]] W fun e w' => (∃ p c, e = .returned (.tuple #[.slice p 0 c, .int .i64 0])) ∧ Ext W w' := by
  have h := off_any fp ap fc ac samA 1 (by decide) kitS (by decide) x17d x17_wf.2.2.2 x17_small.2.2.2 W hA hT
  rw [al_6] at h
  exact h.mono fun e w' h => ⟨opt_nil al_6s h.1, h.2⟩
theorem al17_p7 (fp ap : Option Addr) (fc ac : Nat) (W : World) (hA : AlphaAt W fp ap samA) (hT : Tabs W) : Calls Tryd.prog 14 #[.agg #[.slice fp 1 fc, .slice ap 5 ac], .int .u32 1, .string ⟨#[107, 97, 116, 105]⟩, .agg #[.int .u8 5, .string ⟨#[95, 97, 95, 105]⟩, .string ⟨#[]⟩, .int .i64 0]] W fun e w' => (∃ b c, e = .returned (.tuple #[.slice (some ⟨b, 0, none⟩) 1 c, .int .i64 0]) ∧ b < w'.heap.size ∧ w'.cell? ⟨b, 0, none⟩ = some (.string ⟨#[107, 116]⟩)) ∧ Ext W w' := by
  have h := off_any fp ap fc ac samA 1 (by decide) ⟨#[107, 97, 116, 105]⟩ (by decide) x17b x17_wf.2.1 x17_small.2.1 W hA hT
  rw [al_7] at h
  exact h.mono fun e w' h => ⟨opt_one al_7s h.1, h.2⟩
theorem al17_p8 (fp ap : Option Addr) (fc ac : Nat) (W : World) (hA : AlphaAt W fp ap samA) (hT : Tabs W) (B : Nat) (hP : CellsAt W (some ⟨B + 1 + 1, 0, none⟩) par17.cells (par17g (B + 1))) : Calls Tryd.prog 15 #[.agg #[.slice fp 1 fc, .slice ap 5 ac], .int .u32 1, .agg #[.string ⟨#[]⟩, .slice (some ⟨B + 1 + 1, 0, none⟩) 2 2], .int .i64 2, .string ⟨#[107, 105, 116]⟩] W fun e w' => e = .returned (.tuple #[.string ⟨#[]⟩, .int .i64 8]) ∧ Ext W w' := by
  have h := form_any fp ap _ fc ac 2 samA 1 (by decide) par17 _ 2 (by decide) (by decide) kitS (by decide) (by decide) par17_small W hA hT hP
  rw [al_8s, al_8] at h
  exact h
theorem al17_p9 (B : Nat) (W : World) (hP : CellsAt W (some ⟨B + 1 + 1, 0, none⟩) par17.cells (par17g (B + 1))) : Calls Tryd.prog 20 #[.agg #[.string ⟨#[]⟩, .slice (some ⟨B + 1 + 1, 0, none⟩) 2 2], .int .u64 2] W fun e w' => (∃ b c, e = .returned (.slice (some ⟨b, 0, none⟩) 1 c) ∧ b < w'.heap.size ∧ w'.cell? ⟨b, 0, none⟩ = some (.int .i64 0)) ∧ Ext W w' := by
  have h := find_any _ 2 par17 _ 2 (by decide) W hP
  rw [show par17.cells.length = 2 from rfl, al_9] at h
  refine h.mono ?_
  rintro e w' ⟨rp, rc, rfl, hown, hx⟩
  obtain ⟨g, rfl, _, _⟩ := own_some hown (by decide)
  have hc : w'.cell? ⟨g, 0, none⟩ = some (.int .i64 0) := hown.cellAt 0 (by decide)
  have hg : g < w'.heap.size := by
    apply Classical.byContradiction
    intro hn
    unfold World.cell? at hc
    rw [Array.getElem?_eq_none (show w'.heap.size ≤ g by omega)] at hc
    cases hc
  exact ⟨⟨g, rc, rfl, hg, hc⟩, hx⟩

set_option maxRecDepth 100000 in
set_option maxHeartbeats 8000000 in
theorem alive17_any (w : World) (hT : Tabs w) :
    Calls Tryd.prog 8 #[] w fun e w' => e = .returned (.bool true) ∧ Ext w w' := by
  go_enter Tryd.func8, Tryd.ntmps8
  go_wp2_with fail
  refine (sample17_any _).mono ?_
  rintro e w1 ⟨fp, ap, fc, ac, rfl, hA, hx1⟩
  rw [show samA.feats.length = 1 from rfl, show samA.lets.length = 5 from rfl]
  obtain ⟨B, hB⟩ : ∃ B, w1.heap.size = B := ⟨_, rfl⟩
  obtain ⟨W2, hW2⟩ : ∃ W2, w1.alloc (.cells #[.slice fp 1 fc, .slice ap 5 ac] 26) = W2 := ⟨_, rfl⟩
  have z2 : W2.heap.size = B + 1 := by rw [← hW2, size_alloc, hB]
  have hx2 : Ext w1 W2 := by rw [← hW2]; exact (Ext.refl _).alloc _
  have hb2 : ∀ W, Ext W2 W → W.cell? ⟨B, 0, none⟩ = some (.slice fp 1 fc) ∧ W.cell? ⟨B, 1, none⟩ = some (.slice ap 5 ac) ∧ B < W.heap.size := fun W hW => by
    rw [← hW2] at hW
    have c0 := hW.cell0 0
    have c1 := hW.cell0 1
    have l0 := hW.lt0
    rw [hB] at c0 c1 l0
    exact ⟨c0, c1, l0⟩
  obtain ⟨W3, hW3⟩ : ∃ W3, W2.alloc (.cells #[.int .u8 6, .string ⟨#[]⟩, .string ⟨#[]⟩, .int .i64 1, .int .u8 2, .string ⟨#[97]⟩, .string ⟨#[]⟩, .int .i64 0] 36) = W3 := ⟨_, rfl⟩
  have z3 : W3.heap.size = B + 1 + 1 := by rw [← hW3, size_alloc, z2]
  have hx3 : Ext W2 W3 := by rw [← hW3]; exact (Ext.refl _).alloc _
  have hb3 : ∀ W, Ext W3 W → ∀ j, W.cell? ⟨B + 1, j, none⟩ = #[Value.int .u8 6, .string ⟨#[]⟩, .string ⟨#[]⟩, .int .i64 1, .int .u8 2, .string ⟨#[97]⟩, .string ⟨#[]⟩, .int .i64 0][j]? := fun W hW j => by
    rw [← hW3] at hW
    have c0 := hW.cell0 j
    rw [z2] at c0
    exact c0
  obtain ⟨W4, hW4⟩ : ∃ W4, W3.alloc (.cells #[.int .u64 3, .slice (some ⟨B + 1, 0, none⟩) 2 2, .int .u64 1, .slice none 0 0] 45) = W4 := ⟨_, rfl⟩
  have z4 : W4.heap.size = B + 1 + 1 + 1 := by rw [← hW4, size_alloc, z3]
  have hx4 : Ext W3 W4 := by rw [← hW4]; exact (Ext.refl _).alloc _
  have hb4 : ∀ W, Ext W4 W → ∀ j, W.cell? ⟨B + 1 + 1, j, none⟩ = #[Value.int .u64 3, .slice (some ⟨B + 1, 0, none⟩) 2 2, .int .u64 1, .slice none 0 0][j]? := fun W hW j => by
    rw [← hW4] at hW
    have c0 := hW.cell0 j
    rw [z3] at c0
    exact c0
  obtain ⟨W5, hW5⟩ : ∃ W5, W4.alloc (.cells #[.string ⟨#[]⟩, .slice (some ⟨B + 1 + 1, 0, none⟩) 2 2] 32) = W5 := ⟨_, rfl⟩
  have z5 : W5.heap.size = B + 1 + 1 + 1 + 1 := by rw [← hW5, size_alloc, z4]
  have hx5 : Ext W4 W5 := by rw [← hW5]; exact (Ext.refl _).alloc _
  have hb5 : ∀ W, Ext W5 W → W.cell? ⟨B + 1 + 1 + 1, 0, none⟩ = some (.string ⟨#[]⟩) ∧ W.cell? ⟨B + 1 + 1 + 1, 1, none⟩ = some (.slice (some ⟨B + 1 + 1, 0, none⟩) 2 2) ∧ B + 1 + 1 + 1 < W.heap.size := fun W hW => by
    rw [← hW5] at hW
    have c0 := hW.cell0 0
    have c1 := hW.cell0 1
    have l0 := hW.lt0
    rw [z4] at c0 c1 l0
    exact ⟨c0, c1, l0⟩
  have HB := Lib.hid (fun W (hW : Ext W5 W) => (⟨(hb2 W (hx3.trans (hx4.trans (hx5.trans hW)))).1, (hb2 W (hx3.trans (hx4.trans (hx5.trans hW)))).2.1, (hb2 W (hx3.trans (hx4.trans (hx5.trans hW)))).2.2, hb5 W hW⟩ : W.cell? ⟨B, 0, none⟩ = some (.slice fp 1 fc) ∧ W.cell? ⟨B, 1, none⟩ = some (.slice ap 5 ac) ∧ B < W.heap.size ∧ W.cell? ⟨B + 1 + 1 + 1, 0, none⟩ = some (.string ⟨#[]⟩) ∧ W.cell? ⟨B + 1 + 1 + 1, 1, none⟩ = some (.slice (some ⟨B + 1 + 1, 0, none⟩) 2 2) ∧ B + 1 + 1 + 1 < W.heap.size))
  have hP5 : CellsAt W5 (some ⟨B + 1 + 1, 0, none⟩) par17.cells (par17g (B + 1)) := par17_at (hb3 W5 (hx4.trans hx5)) (hb4 W5 hx5) (by omega)
  have hw5 := hx1.trans (hx2.trans (hx3.trans (hx4.trans hx5)))
  have hA5 := hA.mono (hx2.trans (hx3.trans (hx4.trans hx5)))
  have HT := Lib.hid (fun W (hW : Ext W5 W) => hT.ext (hw5.trans hW))
  have HA := Lib.hid (fun W (hW : Ext W5 W) => hA5.mono hW)
  have HP := Lib.hid (fun W (hW : Ext W5 W) => hP5.mono hW)
  have HW5 := Lib.hid hw5
  clear hb2 hb3 hb4 hb5 hx1 hx2 hx3 hx4 hx5 hA hA5 hP5 hw5 hT
  obtain ⟨a0, a1, a2, a3, a4, a5⟩ := HB.out _ (Ext.refl _)
  have q1 := Lib.hid (al17_p1 fp ap fc ac _ (HA.out _ (Ext.refl W5)) (HT.out _ (Ext.refl W5)))
  go_wp2_with fail
  refine q1.out.mono ?_
  rintro e v1 ⟨rfl, hy1⟩
  have h1 : Ext W5 v1 := hy1
  clear hW2 hW3 hW4 hW5
  clear a0 a1 a2 a3 a4 a5 q1
  obtain ⟨a0, a1, a2, a3, a4, a5⟩ := HB.out _ h1
  have q2 := Lib.hid (al17_p2 fp ap fc ac _ (HA.out _ (h1)) (HT.out _ (h1)))
  go_wp2_with fail
  refine q2.out.mono ?_
  rintro e v2 ⟨rfl, hy2⟩
  have h2 : Ext W5 v2 := h1.trans hy2
  clear a0 a1 a2 a3 a4 a5 q2
  obtain ⟨a0, a1, a2, a3, a4, a5⟩ := HB.out _ h2
  have q3 := Lib.hid (al17_p3 fp ap fc ac _ (HA.out _ (h2)) (HT.out _ (h2)))
  go_wp2_with fail
  refine q3.out.mono ?_
  rintro e v3 ⟨rfl, hy3⟩
  have h3 : Ext W5 v3 := h2.trans hy3
  clear a0 a1 a2 a3 a4 a5 q3
  obtain ⟨a0, a1, a2, a3, a4, a5⟩ := HB.out _ h3
  have q4 := Lib.hid (al17_p4 fp ap fc ac _ (HA.out _ (h3)) (HT.out _ (h3)) B (HP.out _ (h3)))
  go_wp2_with fail
  refine q4.out.mono ?_
  rintro e v4 ⟨rfl, hy4⟩
  have h4 : Ext W5 v4 := h3.trans hy4
  clear a0 a1 a2 a3 a4 a5 q4
  obtain ⟨a0, a1, a2, a3, a4, a5⟩ := HB.out _ h4
  have q5 := Lib.hid (al17_p5 fp ap fc ac _ (HA.out _ (h4)) (HT.out _ (h4)) B (HP.out _ (h4)))
  go_wp2_with fail
  refine q5.out.mono ?_
  rintro e v5 ⟨⟨sb5, sc5, rfl, sl5, ss5⟩, hy5⟩
  have h5 : Ext W5 v5 := h4.trans hy5
  clear a0 a1 a2 a3 a4 a5 q5
  obtain ⟨a0, a1, a2, a3, a4, a5⟩ := HB.out _ h5
  have q6 := Lib.hid (al17_p6 fp ap fc ac _ (HA.out _ (h5)) (HT.out _ (h5)))
  go_wp2_with fail
  refine q6.out.mono ?_
  rintro e v6 ⟨⟨sp6, sc6, rfl⟩, hy6⟩
  have h6 : Ext W5 v6 := h5.trans hy6
  clear a0 a1 a2 a3 a4 a5 q6
  obtain ⟨a0, a1, a2, a3, a4, a5⟩ := HB.out _ h6
  have ss5 := (hy6.facts.1 _ _ sl5).trans ss5
  have sl5 := Nat.lt_of_lt_of_le sl5 hy6.le
  have q7 := Lib.hid (al17_p7 fp ap fc ac _ (HA.out _ (h6)) (HT.out _ (h6)))
  go_wp2_with fail
  refine q7.out.mono ?_
  rintro e v7 ⟨⟨sb7, sc7, rfl, sl7, ss7⟩, hy7⟩
  have h7 : Ext W5 v7 := h6.trans hy7
  clear a0 a1 a2 a3 a4 a5 q7
  obtain ⟨a0, a1, a2, a3, a4, a5⟩ := HB.out _ h7
  have ss5 := (hy7.facts.1 _ _ sl5).trans ss5
  have sl5 := Nat.lt_of_lt_of_le sl5 hy7.le
  have q8 := Lib.hid (al17_p8 fp ap fc ac _ (HA.out _ (h7)) (HT.out _ (h7)) B (HP.out _ (h7)))
  go_wp2_with fail
  refine q8.out.mono ?_
  rintro e v8 ⟨rfl, hy8⟩
  have h8 : Ext W5 v8 := h7.trans hy8
  clear a0 a1 a2 a3 a4 a5 q8
  obtain ⟨a0, a1, a2, a3, a4, a5⟩ := HB.out _ h8
  have ss5 := (hy8.facts.1 _ _ sl5).trans ss5
  have sl5 := Nat.lt_of_lt_of_le sl5 hy8.le
  have ss7 := (hy8.facts.1 _ _ sl7).trans ss7
  have sl7 := Nat.lt_of_lt_of_le sl7 hy8.le
  have q9 := Lib.hid (al17_p9 B _ (HP.out _ (h8)))
  go_wp2_with fail
  refine q9.out.mono ?_
  rintro e v9 ⟨⟨sb9, sc9, rfl, sl9, ss9⟩, hy9⟩
  have h9 : Ext W5 v9 := h8.trans hy9
  clear a0 a1 a2 a3 a4 a5 q9
  obtain ⟨a0, a1, a2, a3, a4, a5⟩ := HB.out _ h9
  have ss5 := (hy9.facts.1 _ _ sl5).trans ss5
  have sl5 := Nat.lt_of_lt_of_le sl5 hy9.le
  have ss7 := (hy9.facts.1 _ _ sl7).trans ss7
  have sl7 := Nat.lt_of_lt_of_le sl7 hy9.le
  go_wp2_with fail
  go_ret
  exact ⟨rfl, HW5.out.trans h9⟩
end Go.Proofs.YtkmfhcjdaglikaaDoor
