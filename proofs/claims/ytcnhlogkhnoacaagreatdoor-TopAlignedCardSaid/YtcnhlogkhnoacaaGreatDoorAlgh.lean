/- Contracts: align.Sum, Both. -/
import Derived.Test.YtcnhlogkhnoacaaGreatDoorAlgw
import Derived.Test.YtcnhlogkhnoacaaGreatDoorAlgp
import Derived.Deep.AppendLies
namespace Go.Cg
open Go.RowKit Go.Lib
theorem pc_farC (A : Alpha) (p : Int × Int) : pc (farC A) p = farC A p.1 p.2 := by
  unfold pc
  by_cases h : p.1 = p.2
  · rw [if_pos h, h, farC_same]
  · rw [if_neg h]
    by_cases h0 : p.1 = 0 ∨ p.2 = 0
    · rw [if_pos h0, farC_gap h h0]
    · rw [if_neg h0]
/-- the first error of pairs -/
def errP (A : Alpha) : List (Int × Int) → Int
  | [] => 0
  | p :: l => if pairE A p.1 p.2 ≠ 0 then pairE A p.1 p.2 else errP A l
theorem errP_at {A : Alpha} : ∀ {l : List (Int × Int)} {k : Nat}, k < l.length → (∀ j, j < k → pairE A (pA l j) (pB l j) = 0) → pairE A (pA l k) (pB l k) ≠ 0 → errP A l = pairE A (pA l k) (pB l k)
  | [], k, h, _, _ => by simp at h
  | p :: l, 0, _, _, h => by unfold errP; exact if_pos h
  | p :: l, k + 1, hk, h0, h => by
    have h1 : pairE A p.1 p.2 = 0 := h0 0 (by omega)
    have ih := errP_at (A := A) (l := l) (k := k) (by simpa using hk) (fun j hj => h0 (j + 1) (by omega)) h
    unfold errP
    rw [if_neg (by omega), ih]; rfl
theorem errP_none {A : Alpha} : ∀ {l : List (Int × Int)}, (∀ j, j < l.length → pairE A (pA l j) (pB l j) = 0) → errP A l = 0
  | [], _ => rfl
  | p :: l, h0 => by
    have h1 : pairE A p.1 p.2 = 0 := h0 0 (by simp)
    have ih := errP_none (A := A) (l := l) (fun j hj => h0 (j + 1) (by simpa using hj))
    unfold errP
    rw [if_neg (by omega), ih]
theorem errP_all {A : Alpha} : ∀ {l : List (Int × Int)}, errP A l = 0 → ∀ p ∈ l, pairE A p.1 p.2 = 0
  | [], _, p, h => by cases h
  | q :: l, h0, p, hp => by
    unfold errP at h0
    by_cases h1 : pairE A q.1 q.2 = 0
    · rw [if_neg (by omega)] at h0
      rcases List.mem_cons.1 hp with rfl | hp
      · exact h1
      · exact errP_all h0 p hp
    · rw [if_pos h1] at h0; exact absurd h0 h1
theorem errP_mem {A : Alpha} : ∀ {l : List (Int × Int)}, (∀ p ∈ l, pairE A p.1 p.2 = 0) → errP A l = 0
  | [], _ => rfl
  | q :: l, h => by
    unfold errP
    rw [if_neg (fun k => k (h q (List.mem_cons_self ..))), errP_mem fun p hp => h p (List.mem_cons_of_mem _ hp)]
def sumTo (A : Alpha) (l : List (Int × Int)) : Nat → Nat
  | 0 => 0
  | k + 1 => sumTo A l k + farC A (pA l k) (pB l k)
theorem sumTo_succ (A : Alpha) (l : List (Int × Int)) (k : Nat) : sumTo A l (k + 1) = sumTo A l k + farC A (pA l k) (pB l k) := rfl
theorem sumTo_cons (A : Alpha) (p : Int × Int) (l : List (Int × Int)) : ∀ k, sumTo A (p :: l) (k + 1) = farC A p.1 p.2 + sumTo A l k
  | 0 => by
    show 0 + farC A p.1 p.2 = _ + 0
    omega
  | k + 1 => by
    rw [sumTo_succ, sumTo_cons A p l k, sumTo_succ]
    show _ + farC A (pA l k) (pB l k) = _
    omega
theorem sumTo_all (A : Alpha) : ∀ l : List (Int × Int), sumTo A l l.length = sumC (farC A) l
  | [] => rfl
  | p :: l => by
    rw [List.length_cons, sumTo_cons, sumTo_all A l, sumC, pc_farC]
theorem sumTo_le (A : Alpha) (l : List (Int × Int)) : ∀ k, sumTo A l k ≤ 34 * k
  | 0 => Nat.le_refl _
  | k + 1 => by
    have := sumTo_le A l k
    have h2 := farC_le A (pA l k) (pB l k)
    rw [sumTo_succ]; omega
def sumE (A : Alpha) (l : List (Int × Int)) : Int := if A.Ok then (if 256 < l.length then 4 else errP A l) else 7
def sumN (A : Alpha) (l : List (Int × Int)) : Nat := if sumE A l = 0 then sumTo A l l.length else 0
def bothX (A : Alpha) (l : List (Int × Int)) : ByteArray := if sumE A l = 0 then runesBytes (lefts l) else ⟨#[]⟩
def bothY (A : Alpha) (l : List (Int × Int)) : ByteArray := if sumE A l = 0 then runesBytes (rights l) else ⟨#[]⟩
theorem take_pair {l : List (Int × Int)} {k : Nat} (h : k < l.length) : l.take (k + 1) = l.take k ++ [(pA l k, pB l k)] := by
  rw [List.take_add_one, List.getElem?_eq_getElem h, pA_eq h, pB_eq h]; rfl
theorem lefts_app (a b : List (Int × Int)) : lefts (a ++ b) = lefts a ++ lefts b := by unfold lefts; rw [List.map_append, List.filter_append]
theorem rights_app (a b : List (Int × Int)) : rights (a ++ b) = rights a ++ rights b := by unfold rights; rw [List.map_append, List.filter_append]
theorem lefts_no {l : List (Int × Int)} {k : Nat} (h : k < l.length) (h0 : pA l k = 0) : lefts (l.take (k + 1)) = lefts (l.take k) := by
  rw [take_pair h, lefts_app, lefts_cons]
  show _ ++ (if pA l k = 0 then lefts [] else _) = _
  rw [if_pos h0]; simp [lefts]
theorem lefts_yes {l : List (Int × Int)} {k : Nat} (h : k < l.length) (h0 : pA l k ≠ 0) : lefts (l.take (k + 1)) = lefts (l.take k) ++ [pA l k] := by
  rw [take_pair h, lefts_app, lefts_cons]
  show _ ++ (if pA l k = 0 then lefts [] else pA l k :: lefts []) = _
  rw [if_neg h0]; simp [lefts]
theorem rights_no {l : List (Int × Int)} {k : Nat} (h : k < l.length) (h0 : pB l k = 0) : rights (l.take (k + 1)) = rights (l.take k) := by
  rw [take_pair h, rights_app, rights_cons]
  show _ ++ (if pB l k = 0 then rights [] else _) = _
  rw [if_pos h0]; simp [rights]
theorem rights_yes {l : List (Int × Int)} {k : Nat} (h : k < l.length) (h0 : pB l k ≠ 0) : rights (l.take (k + 1)) = rights (l.take k) ++ [pB l k] := by
  rw [take_pair h, rights_app, rights_cons]
  show _ ++ (if pB l k = 0 then rights [] else pB l k :: rights []) = _
  rw [if_neg h0]; simp [rights]
theorem lefts_len (l : List (Int × Int)) : (lefts l).length ≤ l.length := by
  unfold lefts; exact Nat.le_trans (List.length_filter_le _ _) (by simp)
theorem rights_len (l : List (Int × Int)) : (rights l).length ≤ l.length := by
  unfold rights; exact Nat.le_trans (List.length_filter_le _ _) (by simp)
theorem lefts_mem {l : List (Int × Int)} {r : Int} (h : r ∈ lefts l) : ∃ i, i < l.length ∧ pA l i = r := by
  obtain ⟨p, hp, e⟩ := List.mem_map.1 (List.mem_filter.1 h).1
  obtain ⟨i, hi, e2⟩ := List.getElem_of_mem hp
  exact ⟨i, hi, by rw [pA_eq hi, e2, e]⟩
theorem rights_mem {l : List (Int × Int)} {r : Int} (h : r ∈ rights l) : ∃ i, i < l.length ∧ pB l i = r := by
  obtain ⟨p, hp, e⟩ := List.mem_map.1 (List.mem_filter.1 h).1
  obtain ⟨i, hi, e2⟩ := List.getElem_of_mem hp
  exact ⟨i, hi, by rw [pB_eq hi, e2, e]⟩
theorem lefts_wf {w : World} {p : Option Addr} {l : List (Int × Int)} (h : PairsAt w p l) : ∀ i, i < (lefts l).length → -2147483648 ≤ rn (lefts l) i ∧ rn (lefts l) i ≤ 2147483647 :=
  mem_rn (q := fun r => -2147483648 ≤ r ∧ r ≤ 2147483647) fun r hr => by
    obtain ⟨i, hi, e⟩ := lefts_mem hr
    rw [← e]; exact (h.wf i hi).1
theorem rights_wf {w : World} {p : Option Addr} {l : List (Int × Int)} (h : PairsAt w p l) : ∀ i, i < (rights l).length → -2147483648 ≤ rn (rights l) i ∧ rn (rights l) i ≤ 2147483647 :=
  mem_rn (q := fun r => -2147483648 ≤ r ∧ r ≤ 2147483647) fun r hr => by
    obtain ⟨i, hi, e⟩ := rights_mem hr
    rw [← e]; exact (h.wf i hi).2
theorem one_cell_at {w : World} {v : Value} {T : TypeId} {n : Nat} (h : w.heap.size = n) : ∀ j u, [v][j]? = some u → (w.alloc (.cells #[v] T (0, 0))).cell? ((⟨n, 0, none⟩ : Addr).add j) = some u := by
  subst h
  exact one_cell w v T
theorem apart_or {xv yv : Value} (h : ∀ g, xv.ownBlock = some g → yv.ownBlock ≠ some g) : yv.ownBlock = none ∨ yv.ownBlock ≠ xv.ownBlock := by
  cases hy : yv.ownBlock with
  | none => exact .inl rfl
  | some b => exact .inr fun e => h b e.symm hy
theorem apart_or' {xv yv : Value} (h : ∀ g, xv.ownBlock = some g → yv.ownBlock ≠ some g) : xv.ownBlock = none ∨ xv.ownBlock ≠ yv.ownBlock := by
  cases hx : xv.ownBlock with
  | none => exact .inl rfl
  | some b => exact .inr fun e => h b hx e.symm
theorem apart_new {xv : Value} {g1 n c : Nat} (h : xv.ownBlock ≠ some g1) : ∀ g, xv.ownBlock = some g → (Value.slice (some ⟨g1, 0, none⟩) n c).ownBlock ≠ some g := fun g hg he => by
  simp only [Value.ownBlock, Option.some.injEq] at he
  exact h (by rw [hg, he])
theorem apart_new' {yv : Value} {g1 n c : Nat} (h : yv.ownBlock ≠ some g1) : ∀ g, (Value.slice (some ⟨g1, 0, none⟩) n c).ownBlock = some g → yv.ownBlock ≠ some g := fun g hg he => by
  simp only [Value.ownBlock, Option.some.injEq] at hg
  exact h (by rw [he, hg])
theorem own_no {w : World} {B : Nat} {e : TypeId} {k n : Nat} {v : Value} {xs : List Value} (h : w.ownsRow B e k v n xs) {g : Nat} (hg : w.heap.size ≤ g) : v.ownBlock ≠ some g := fun he => by
  have := (h.lt g he).2
  omega
end Go.Cg
namespace Go.Proofs.YtcnhlogkhnoacaaGreatDoor
open Go.RowKit Go.Cg Go.Shelf Go.Maps

set_option maxRecDepth 100000 in
set_option maxHeartbeats 4000000 in
theorem sum_any (fp lp pp : Option Addr) (fc lc pcap : Nat) (A : Alpha) (l : List (Int × Int)) (w : World) (hA : AlphaAt w fp lp A) (hP : PairsAt w pp l) :
    Calls Tryz.prog 9 #[.agg #[.slice fp A.feats.length fc, .slice lp A.lets.length lc], .slice pp l.length pcap] w fun e w' => e = .returned (.tuple #[.int .i64 (sumN A l : Nat), .int .i64 (sumE A l)]) ∧ Ext w w' := by
  have hx3 : Ext w (w.alloc (.cells #[.slice fp A.feats.length fc, .slice lp A.lets.length lc] 25)) := (Ext.refl _).alloc _
  have hck := check_any fp lp fc lc A _ (hA.mono hx3)
  have HBX := Lib.hid (fun W (hW : Ext (w.alloc (.cells #[.slice fp A.feats.length fc, .slice lp A.lets.length lc] 25)) W) => (⟨hW.cell0 0, hW.cell0 1, hW.lt0⟩ : W.cell? ⟨w.heap.size, 0, none⟩ = some (.slice fp A.feats.length fc) ∧ W.cell? ⟨w.heap.size, 1, none⟩ = some (.slice lp A.lets.length lc) ∧ w.heap.size < W.heap.size))
  have hE : sumE A l = if A.Ok then (if 256 < l.length then 4 else errP A l) else 7 := rfl
  have hN : sumN A l = if sumE A l = 0 then sumTo A l l.length else 0 := rfl
  obtain ⟨E, hEE⟩ : ∃ v, sumE A l = v := ⟨_, rfl⟩
  obtain ⟨N, hNN⟩ : ∃ v, sumN A l = v := ⟨_, rfl⟩
  rw [hEE] at hE hN ⊢
  rw [hNN] at hN ⊢
  clear hEE hNN
  by_cases hok : A.Ok
  · rw [checkN_ok hok] at hck
    rw [if_pos hok] at hE
    have hco := fun x y W (hW : Ext w W) => (show Calls Tryz.prog 34 #[.agg #[.slice fp A.feats.length fc, .slice lp A.lets.length lc], .int .i32 x, .int .i32 y] W fun e w' => e = .returned (.tuple #[.int .i64 ((if pairE A x y = 0 then farC A x y else 0 : Nat) : Int), .int .i64 (pairE A x y)]) ∧ Ext W w' by
      have h := Cost_any fp lp fc lc A x y W (hA.mono hW)
      have e1 : costE A x y = pairE A x y := if_pos hok
      have e2 : costN A x y = if pairE A x y = 0 then farC A x y else 0 := by unfold costN; rw [e1]
      rw [e1, e2] at h; exact h)
    by_cases h4 : 256 < l.length
    · rw [if_pos h4] at hE
      subst hE
      rw [if_neg (by decide)] at hN
      subst hN
      have g1 : decide ((l.length : Int) > 256) = true := decide_eq_true (by omega)
      have g2 : decide ((256 : Int) < l.length) = true := decide_eq_true (by omega)
      clear h4 hco
      go_enter Tryz.func9, Tryz.ntmps9
      go_wp2_with (go_at_call 33; refine hck.mono ?_; rintro e w1 ⟨rfl, hx1⟩)
      go_ret2
      exact ⟨rfl, hx3.trans hx1⟩
    · rw [if_neg h4] at hE
      have g1 : decide ((l.length : Int) > 256) = false := decide_eq_false (by omega)
      have g2 : decide ((256 : Int) < l.length) = false := decide_eq_false (by omega)
      have herr := fun k hk (h1 : ∀ j, j < k → pairE A (pA l j) (pB l j) = 0) h2 => errP_at (A := A) (l := l) (k := k) hk h1 h2
      have hnon := fun (h1 : ∀ j, j < l.length → pairE A (pA l j) (pB l j) = 0) => errP_none h1
      have hsl := sumTo_le A l
      have hss := sumTo_succ A l
      have hfl := farC_le A
      obtain ⟨S, hS⟩ : ∃ S, sumTo A l = S := ⟨_, rfl⟩
      rw [hS] at hN hsl hss
      have hS0 : S 0 = 0 := by rw [← hS]; rfl
      obtain ⟨R, hR⟩ : ∃ R, errP A l = R := ⟨_, rfl⟩
      rw [hR] at hE herr hnon
      have b4 : l.length ≤ 256 := by omega
      clear hS hR h4
      have HE := Lib.hid hE
      have HN := Lib.hid hN
      have HCO := Lib.hid hco
      have HERR := Lib.hid herr
      have HNON := Lib.hid hnon
      have HSL := Lib.hid hsl
      have HSS := Lib.hid hss
      have HFL := Lib.hid hfl
      clear hE hN hco herr hnon hsl hss hfl
      go_enter Tryz.func9, Tryz.ntmps9
      go_wp2_with (go_at_call 33; refine hck.mono ?_; rintro e w1 ⟨rfl, hx1⟩)
      have hxw := hx3.trans hx1
      clear hck
      go_loopw [7, 22] (fun sm i wr => ∃ k : Nat, k ≤ l.length ∧ i = .int .i64 k ∧ sm = .int .i64 (S k : Nat) ∧ Ext w1 wr ∧ Hid (∀ j, j < k → pairE A (pA l j) (pB l j) = 0)) (fun _ i _ => l.length - (intOf i).toNat)
      case atStart => exact ⟨0, Nat.zero_le _, rfl, by rw [hS0]; rfl, Ext.refl _, fun j hj => by omega⟩
      case round =>
        obtain ⟨k, hk, rfl, rfl, hx, HZ⟩ := hrel
        by_cases hlt : k < l.length
        · obtain ⟨b, off, e0, hbw, c0, c1⟩ := (hP.mono (hxw.trans hx)).cells hlt
          subst e0
          obtain ⟨d0, d1, l0⟩ := HBX.out _ (hx1.trans hx)
          have hco := HCO.out (pA l k) (pB l k)
          have her := HERR.out k hlt HZ.out
          have hsl := HSL.out k
          have hss := HSS.out k
          have hfl := HFL.out (pA l k) (pB l k)
          obtain ⟨a, ha⟩ : ∃ v, pA l k = v := ⟨_, rfl⟩
          obtain ⟨b2, hb⟩ : ∃ v, pB l k = v := ⟨_, rfl⟩
          rw [ha] at c0 hco her hss hfl
          rw [hb] at c1 hco her hss hfl
          obtain ⟨pe, hpe⟩ : ∃ v, pairE A a b2 = v := ⟨_, rfl⟩
          obtain ⟨fa, hfa⟩ : ∃ v, farC A a b2 = v := ⟨_, rfl⟩
          rw [hpe] at hco her
          rw [hfa] at hco hss hfl
          have HZ2 := Lib.hid (show pairE A (pA l k) (pB l k) = pe by rw [ha, hb, hpe])
          clear ha hb hpe hfa
          by_cases hz : pe = 0
          · subst hz
            rw [if_pos rfl] at hco
            have HCO2 := Lib.hid hco
            have HSS2 := Lib.hid hss
            clear her hss hco
            go_wp2_with (go_at_call 34; refine (HCO2.out _ ((hxw.trans hx).alloc _)).mono ?_; rintro e w3 ⟨rfl, hx5⟩)
            exact ⟨⟨k + 1, by omega, by go_num, by rw [HSS2.out]; congr 1, (hx.alloc _).trans hx5, upto_succ HZ.out HZ2.out⟩, by simp [intOf]; omega⟩
          · have hr := her hz
            have he := HE.out
            rw [hr] at he
            have hn := HN.out
            rw [he, if_neg hz] at hn
            subst hn
            subst he
            rw [if_neg hz] at hco
            have HCO2 := Lib.hid hco
            have gz : (E != 0) = true := by rw [bne_iff_ne]; exact hz
            clear hr her hz hss hco
            go_wp2_with (go_at_call 34; refine (HCO2.out _ ((hxw.trans hx).alloc _)).mono ?_; rintro e w3 ⟨rfl, hx5⟩)
            go_ret2
            exact ⟨rfl, ((hxw.trans hx).alloc _).trans hx5⟩
        · have e : k = l.length := by omega
          subst e
          have he := HE.out
          rw [HNON.out HZ.out] at he
          subst he
          have hn := HN.out
          rw [if_pos rfl] at hn
          subst hn
          go_wp2_with fail
          go_ret2
          exact ⟨rfl, hxw.trans hx⟩
  · rw [checkN_bad hok] at hck
    rw [if_neg hok] at hE
    subst hE
    rw [if_neg (by decide)] at hN
    subst hN
    go_enter Tryz.func9, Tryz.ntmps9
    go_wp2_with (go_at_call 33; refine hck.mono ?_; rintro e w1 ⟨rfl, hx1⟩)
    go_ret2
    exact ⟨rfl, hx3.trans hx1⟩

set_option maxRecDepth 100000 in
set_option maxHeartbeats 4000000 in
theorem both_any (fp lp pp : Option Addr) (fc lc pcap : Nat) (A : Alpha) (l : List (Int × Int)) (w : World) (hA : AlphaAt w fp lp A) (hP : PairsAt w pp l) :
    Calls Tryz.prog 10 #[.agg #[.slice fp A.feats.length fc, .slice lp A.lets.length lc], .slice pp l.length pcap] w fun e w' => e = .returned (.tuple #[.string (bothX A l), .string (bothY A l), .int .i64 (sumE A l)]) ∧ Ext w w' := by
  have hx3 : Ext w (w.alloc (.cells #[.slice fp A.feats.length fc, .slice lp A.lets.length lc] 25)) := (Ext.refl _).alloc _
  have hsu := sum_any fp lp pp fc lc pcap A l _ (hA.mono hx3) (hP.mono hx3)
  obtain ⟨i0, hi, hz0, hz1, hz2⟩ := info_parts infoR
  have hX : bothX A l = if sumE A l = 0 then runesBytes (lefts l) else ⟨#[]⟩ := rfl
  have hY : bothY A l = if sumE A l = 0 then runesBytes (rights l) else ⟨#[]⟩ := rfl
  have h256 : sumE A l = 0 → l.length ≤ 256 := fun h => by
    unfold sumE at h
    split at h
    · split at h
      · cases h
      · omega
    · cases h
  obtain ⟨E, hEE⟩ : ∃ v, sumE A l = v := ⟨_, rfl⟩
  rw [hEE] at hX hY hsu h256 ⊢
  obtain ⟨N, hNN⟩ : ∃ v, sumN A l = v := ⟨_, rfl⟩
  rw [hNN] at hsu
  clear hEE hNN
  by_cases h0 : E = 0
  · subst h0
    have hl6 := h256 rfl
    rw [if_pos rfl] at hX hY
    rw [hX, hY]
    have HSU := Lib.hid hsu
    clear h256 hX hY hsu
    have lw := Lib.hid (lefts_wf hP)
    have rw_ := Lib.hid (rights_wf hP)
    go_enter Tryz.func10, Tryz.ntmps10
    go_wp2_with (go_at_call 9; refine HSU.out.mono ?_; rintro e w1 ⟨rfl, hx1⟩)
    have hxw := hx3.trans hx1
    go_loopw [9, 10, 24] (fun xv yv i wr => ∃ k : Nat, k ≤ l.length ∧ i = .int .i64 k ∧ Ext w1 wr ∧ wr.ownsRow w1.heap.size 21 1 xv (lefts (l.take k)).length ((lefts (l.take k)).map (Value.int .i32)) ∧ wr.ownsRow w1.heap.size 21 1 yv (rights (l.take k)).length ((rights (l.take k)).map (Value.int .i32)) ∧ Hid (∀ g, xv.ownBlock = some g → yv.ownBlock ≠ some g)) (fun _ _ i _ => l.length - (intOf i).toNat)
    case atStart => exact ⟨0, Nat.zero_le _, rfl, Ext.refl _, World.ownsRow_nil _ _ _ _, World.ownsRow_nil _ _ _ _, fun g hg => by cases hg⟩
    case round =>
      obtain ⟨k, hk, rfl, hx, hox, hoy, HAP⟩ := hrel
      obtain ⟨xp, xc, rfl⟩ := ownsRow_slice hox
      obtain ⟨yp, yc, rfl⟩ := ownsRow_slice hoy
      by_cases hlt : k < l.length
      · obtain ⟨b, off, e0, hbw, c0, c1⟩ := (hP.mono (hxw.trans hx)).cells hlt
        subst e0
        have hll := lefts_len (l.take k)
        have hrl := rights_len (l.take k)
        rw [List.length_take] at hll hrl
        have hle := hx.le
        have HXL := Lib.hid (fun (h : (pA l k != 0) = false) => lefts_no hlt (by simpa using h))
        have HYL := Lib.hid (fun (h : (pB l k != 0) = false) => rights_no hlt (by simpa using h))
        have HXM := Lib.hid (fun (h : (pA l k != 0) = true) => lefts_yes hlt (by simpa using h))
        have HYM := Lib.hid (fun (h : (pB l k != 0) = true) => rights_yes hlt (by simpa using h))
        cases ga : (pA l k != 0)
        · have HX := Lib.hid (HXL.out ga)
          cases gb : (pB l k != 0)
          · have HY := Lib.hid (HYL.out gb)
            go_wp2_with fail
            refine ⟨⟨k + 1, by omega, by go_num, hx.alloc _, ?_, ?_, HAP.out⟩, by simp [intOf]; omega⟩
            · rw [HX.out]; exact hox.alloc _
            · rw [HY.out]; exact hoy.alloc _
          · have HY := Lib.hid (HYM.out gb)
            go_wp2_with (at_builtin; go_loud (refine wpList_append_lies _ rfl _ _ 36 rfl w1.heap.size 21 i0 (.int .i32 0) 1 4 Tryz.underlying36 hi hz0 hz1 hz2 rfl (by decide) (.slice yp (rights (l.take k)).length yc) _ _ rfl (ownsRow_ext hoy (by repeat (first | assumption | exact Ext.refl _ | refine Ext.alloc ?_ _ | refine Ext.drew ?_ | refine Ext.drewN ?_ _ | refine Ext.setCell ?_ (by first | (simp; done) | (simp; omega) | omega) _ | (refine Ext.trans ?_ (by assumption))))) ⟨wr.heap.size + 1, 0, none⟩ 1 1 [.int .i32 (pB l k)] rfl rfl (one_cell_at (by simp)) (by simp [Value.oneCell']) (by omega) (by unfold maxLen; omega) (by omega) (by simp; omega) _ rfl ?_); intro gy cy wy howny hgrowy haty hlty)
            refine ⟨⟨k + 1, by omega, by go_num, Ext.append (by repeat (first | assumption | exact Ext.refl _ | refine Ext.alloc ?_ _ | refine Ext.drew ?_ | refine Ext.drewN ?_ _ | refine Ext.setCell ?_ (by first | (simp; done) | (simp; omega) | omega) _ | (refine Ext.trans ?_ (by assumption)))) (ownsRow_ext hoy (by repeat (first | assumption | exact Ext.refl _ | refine Ext.alloc ?_ _ | refine Ext.drew ?_ | refine Ext.drewN ?_ _ | refine Ext.setCell ?_ (by first | (simp; done) | (simp; omega) | omega) _ | (refine Ext.trans ?_ (by assumption))))) hgrowy (Nat.le_refl _), ?_, ?_, apart_new ?_⟩, by simp [intOf]; omega⟩
            · rw [HX.out]; exact ((hox.alloc _).alloc _).kept hgrowy (apart_or' HAP.out)
            · rw [HY.out, List.length_append, List.map_append]; exact howny
            · rcases haty with h | h
              · exact fun e => HAP.out _ e h
              · exact own_no hox (by rw [h]; first | (simp; done) | (simp; omega))
        · have HX := Lib.hid (HXM.out ga)
          cases gb : (pB l k != 0)
          · have HY := Lib.hid (HYL.out gb)
            go_wp2_with (at_builtin; go_loud (refine wpList_append_lies _ rfl _ _ 36 rfl w1.heap.size 21 i0 (.int .i32 0) 1 4 Tryz.underlying36 hi hz0 hz1 hz2 rfl (by decide) (.slice xp (lefts (l.take k)).length xc) _ _ rfl (ownsRow_ext hox (by repeat (first | assumption | exact Ext.refl _ | refine Ext.alloc ?_ _ | refine Ext.drew ?_ | refine Ext.drewN ?_ _ | refine Ext.setCell ?_ (by first | (simp; done) | (simp; omega) | omega) _ | (refine Ext.trans ?_ (by assumption))))) ⟨wr.heap.size + 1, 0, none⟩ 1 1 [.int .i32 (pA l k)] rfl rfl (one_cell_at (by simp)) (by simp [Value.oneCell']) (by omega) (by unfold maxLen; omega) (by omega) (by simp; omega) _ rfl ?_); intro gx cx wx hownx hgrowx hatx hltx; have fbx : some wr.heap.size ≠ (Value.slice xp (lefts (l.take k)).length xc).ownBlock := fun e => own_no hox (Nat.le_refl _) e.symm; have e1x := hgrowx.cell (a := ⟨wr.heap.size, 1, none⟩) (v := .int .i32 (pB l k)) (((Ext.refl _).alloc _ : Ext (wr.alloc (.cells #[.int .i32 (pA l k), .int .i32 (pB l k)] 97)) _).cell0 1) fbx; have lsx : wr.heap.size < wx.heap.size := (by have := hgrowx.size; simp at this; omega))
            refine ⟨⟨k + 1, by omega, by go_num, Ext.append (by repeat (first | assumption | exact Ext.refl _ | refine Ext.alloc ?_ _ | refine Ext.drew ?_ | refine Ext.drewN ?_ _ | refine Ext.setCell ?_ (by first | (simp; done) | (simp; omega) | omega) _ | (refine Ext.trans ?_ (by assumption)))) (ownsRow_ext hox (by repeat (first | assumption | exact Ext.refl _ | refine Ext.alloc ?_ _ | refine Ext.drew ?_ | refine Ext.drewN ?_ _ | refine Ext.setCell ?_ (by first | (simp; done) | (simp; omega) | omega) _ | (refine Ext.trans ?_ (by assumption))))) hgrowx (Nat.le_refl _), ?_, ?_, apart_new' ?_⟩, by simp [intOf]; omega⟩
            · rw [HX.out, List.length_append, List.map_append]; exact hownx
            · rw [HY.out]; exact ((hoy.alloc _).alloc _).kept hgrowx (apart_or HAP.out)
            · rcases hatx with h | h
              · exact HAP.out _ h
              · exact own_no hoy (by rw [h]; first | (simp; done) | (simp; omega))
          · have HY := Lib.hid (HYM.out gb)
            go_wp2_with (first | (at_builtin; go_loud (refine wpList_append_lies _ rfl _ _ 36 rfl w1.heap.size 21 i0 (.int .i32 0) 1 4 Tryz.underlying36 hi hz0 hz1 hz2 rfl (by decide) (.slice xp (lefts (l.take k)).length xc) _ _ rfl (ownsRow_ext hox (by repeat (first | assumption | exact Ext.refl _ | refine Ext.alloc ?_ _ | refine Ext.drew ?_ | refine Ext.drewN ?_ _ | refine Ext.setCell ?_ (by first | (simp; done) | (simp; omega) | omega) _ | (refine Ext.trans ?_ (by assumption))))) ⟨wr.heap.size + 1, 0, none⟩ 1 1 [.int .i32 (pA l k)] rfl rfl (one_cell_at (by simp)) (by simp [Value.oneCell']) (by omega) (by unfold maxLen; omega) (by omega) (by simp; omega) _ rfl ?_); intro gx cx wx hownx hgrowx hatx hltx; have fbx : some wr.heap.size ≠ (Value.slice xp (lefts (l.take k)).length xc).ownBlock := fun e => own_no hox (Nat.le_refl _) e.symm; have e1x := hgrowx.cell (a := ⟨wr.heap.size, 1, none⟩) (v := .int .i32 (pB l k)) (((Ext.refl _).alloc _ : Ext (wr.alloc (.cells #[.int .i32 (pA l k), .int .i32 (pB l k)] 97)) _).cell0 1) fbx; have lsx : wr.heap.size < wx.heap.size := (by have := hgrowx.size; simp at this; omega); have hoyx := ((hoy.alloc _).alloc _).kept hgrowx (apart_or HAP.out)) | (at_builtin; go_loud (refine wpList_append_lies _ rfl _ _ 36 rfl w1.heap.size 21 i0 (.int .i32 0) 1 4 Tryz.underlying36 hi hz0 hz1 hz2 rfl (by decide) (.slice yp (rights (l.take k)).length yc) _ _ rfl (hoyx.alloc _) ⟨wx.heap.size, 0, none⟩ 1 1 [.int .i32 (pB l k)] rfl rfl (one_cell _ _ _) (by simp [Value.oneCell']) (by omega) (by unfold maxLen; omega) (by omega) (by simp; omega) _ rfl ?_); intro gy cy wy howny hgrowy haty hlty))
            have hny : (Value.slice yp (rights (l.take k)).length yc).ownBlock ≠ some gx := by
              rcases hatx with h | h
              · exact HAP.out _ h
              · exact own_no hoy (by rw [h]; first | (simp; done) | (simp; omega))
            have hEx : Ext w1 wx := Ext.append (by repeat (first | assumption | exact Ext.refl _ | refine Ext.alloc ?_ _ | refine Ext.drew ?_ | refine Ext.drewN ?_ _ | refine Ext.setCell ?_ (by first | (simp; done) | (simp; omega) | omega) _ | (refine Ext.trans ?_ (by assumption)))) (ownsRow_ext hox (by repeat (first | assumption | exact Ext.refl _ | refine Ext.alloc ?_ _ | refine Ext.drew ?_ | refine Ext.drewN ?_ _ | refine Ext.setCell ?_ (by first | (simp; done) | (simp; omega) | omega) _ | (refine Ext.trans ?_ (by assumption))))) hgrowx (Nat.le_refl _)
            refine ⟨⟨k + 1, by omega, by go_num, Ext.append (hEx.alloc _) (hoyx.alloc _) hgrowy (Nat.le_refl _), ?_, ?_, apart_new ?_⟩, by simp [intOf]; omega⟩
            · rw [HX.out, List.length_append, List.map_append]; exact (hownx.alloc _).kept hgrowy (apart_or' (apart_new' hny))
            · rw [HY.out, List.length_append, List.map_append]; exact howny
            · simp only [Value.ownBlock, ne_eq, Option.some.injEq]
              intro e
              rcases haty with h | h
              · exact hny (by rw [h, e])
              · rw [size_alloc] at h; omega
      · have e : k = l.length := by omega
        subst e
        rw [List.take_length] at hox hoy
        have hll := lefts_len l
        have hrl := rights_len l
        have hcx := (show OwnRunes 21 w1.heap.size wr xp xc (lefts l) from ⟨hox, by omega, lw.out⟩).at_
        have hcy := (show OwnRunes 21 w1.heap.size wr yp yc (rights l) from ⟨hoy, by omega, rw_.out⟩).at_
        have hc1 := hcx.text (P := Tryz.prog) (src := 36) (dst := 9) Tryz.underlying36 Tryz.underlying21 Tryz.underlying9 xc
        have hc2 := hcy.text (P := Tryz.prog) (src := 36) (dst := 9) Tryz.underlying36 Tryz.underlying21 Tryz.underlying9 yc
        have hc3 := (hcx.mono (Ext.refl _).drew).text (P := Tryz.prog) (src := 36) (dst := 9) Tryz.underlying36 Tryz.underlying21 Tryz.underlying9 xc
        have hc4 := (hcy.mono (Ext.refl _).drew).text (P := Tryz.prog) (src := 36) (dst := 9) Tryz.underlying36 Tryz.underlying21 Tryz.underlying9 yc
        go_wp2_with fail
        go_region
        all_goals (try go_wp2_with fail)
        all_goals go_ret3
        all_goals exact ⟨rfl, (hxw.trans hx).drew⟩
  · rw [if_neg h0] at hX hY
    rw [hX, hY]
    have gE : (E != 0) = true := by rw [bne_iff_ne]; exact h0
    clear hX hY h0 h256
    go_enter Tryz.func10, Tryz.ntmps10
    go_wp2_with (go_at_call 9; refine hsu.mono ?_; rintro e w1 ⟨rfl, hx1⟩)
    go_ret3
    exact ⟨rfl, hx3.trans hx1⟩

end Go.Proofs.YtcnhlogkhnoacaaGreatDoor
