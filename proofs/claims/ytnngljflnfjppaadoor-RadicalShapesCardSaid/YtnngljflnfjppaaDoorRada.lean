/- Contracts: cognateref01.Rune, one, Text: what runes' text is. -/
import Derived.Test.YtnngljflnfjppaaDoorRadz
import Derived.Test.YtnngljflnfjppaaDoorWorda
import Derived.Laws.IdiomStrings
import Derived.Laws.BytesArg
namespace Go.Cg
open Go.RowKit Go.Lib
/-- the cells of a text's bytes -/
def byteCells (s : ByteArray) : List Value := s.data.toList.map fun x => .int .u8 (x.toNat : Int)
theorem byteCells_len (s : ByteArray) : (byteCells s).length = s.size := by unfold byteCells; rw [List.length_map, Array.length_toList]; rfl
theorem byteCells_append (a b : ByteArray) : byteCells (a ++ b) = byteCells a ++ byteCells b := by simp [byteCells]
theorem byteCells_one (s : ByteArray) : ∀ u ∈ byteCells s, u.oneCell' = true := by
  intro u hu
  obtain ⟨x, _, rfl⟩ := List.mem_map.1 hu
  rfl
theorem enc_size_le (r : Int) : (Utf8.encode r).size ≤ 4 := by
  unfold Utf8.encode
  simp only
  repeat' split
  all_goals exact Nat.le_of_ble_eq_true rfl
theorem encode_bad {r : Int} (h : Utf8.valid r = false) : Utf8.encode r = ⟨#[239, 191, 189]⟩ := by
  unfold Utf8.encode
  simp only [h, Bool.false_eq_true, if_false]
  decide
theorem cells_news {w : World} {cs : Array Value} {T : TypeId} {fr : Nat × Nat} {b : Nat} (hb : w.heap[b]? = some (.cells cs T fr)) {xs : List Value} (h : cs.toList = xs) : ∀ (j : Nat) (u : Value), xs[j]? = some u → w.cell? ((⟨b, 0, none⟩ : Addr).add j) = some u := by
  intro j u hu
  have e0 : ((⟨b, 0, none⟩ : Addr).add j) = ⟨b, j, none⟩ := by simp [Addr.add]; exact fun h => h.symm
  rw [e0]
  have : w.cell? ⟨b, j, none⟩ = cs[j]? := by simp [World.cell?, hb]
  rw [this, ← hu, ← h]; simp
theorem mod256 {n : Nat} (h : n < 256) : ((UInt8.ofNat n).toNat : Int) = n := by
  have : (UInt8.ofNat n).toNat = n := u8_toNat h
  omega
theorem u8v (n : Nat) : (((UInt8.ofNat n).toNat : Nat) : Int) = (n : Int) % 256 := by
  have : (UInt8.ofNat n).toNat = n % 256 := UInt8.toNat_ofNat'
  omega
theorem w32_in {q : Nat} (h : q ≤ 1114111) : wrap32 (q : Int) = q := IntWalk.wrap32_in _ (by omega)
theorem wlead (k d c : Nat) (hk : k ≤ 240) (hc : c ≤ 1114111) : wrap32 ((k : Int) + wrap32 ((c : Int) / (d : Int))) % 256 = (((UInt8.ofNat (k + c / d)).toNat : Nat) : Int) := by
  have h1 : c / d ≤ c := Nat.div_le_self c d
  have e : (c : Int) / (d : Int) = ((c / d : Nat) : Int) := rfl
  rw [u8v, e]
  generalize c / d = q at *
  rw [w32_in (by omega), IntWalk.wrap32_in _ (by omega)]
  omega
theorem wmid (d c : Nat) (hc : c ≤ 1114111) : wrap32 (128 + (wrap32 ((c : Int) / (d : Int))).tmod 64) % 256 = (((UInt8.ofNat (128 + c / d % 64)).toNat : Nat) : Int) := by
  have h1 : c / d ≤ c := Nat.div_le_self c d
  have e : (c : Int) / (d : Int) = ((c / d : Nat) : Int) := rfl
  have e2 : ((c / d : Nat) : Int).tmod 64 = ((c / d % 64 : Nat) : Int) := rfl
  rw [u8v, e, w32_in (by omega), e2, IntWalk.wrap32_in _ (by omega)]
  omega
theorem wlast (c : Nat) : 128 + (c : Int) % 64 = (((UInt8.ofNat (128 + c % 64)).toNat : Nat) : Int) := by
  rw [u8v]; omega
end Go.Cg
namespace Go.Proofs.YtnngljflnfjppaaDoor
open Go.RowKit Go.Cg Go.Shelf Go.Maps

theorem valid_eq (r : Int) : Utf8.valid r = decide ((0 ≤ r ∧ r < 55296) ∨ (57344 ≤ r ∧ r ≤ 1114111)) := by
  unfold Utf8.valid
  rw [Bool.eq_iff_iff]
  simp

theorem Rune01_any (r : Int) (h1 : -2147483648 ≤ r) (h2 : r ≤ 2147483647) (w : World) :
    Calls Tryd.prog 96 #[.int .i32 r] w fun e w' => e = .returned (.bool (Utf8.valid r)) ∧ w' = w := by
  have hV := valid_eq r
  obtain ⟨V, hV2⟩ : ∃ V, Utf8.valid r = V := ⟨_, rfl⟩
  rw [hV2] at hV ⊢
  have HV := Lib.hid hV
  clear hV hV2
  go_enter Tryd.func96, Tryd.ntmps96
  go_wp2
  all_goals go_ret
  all_goals (refine ⟨ret_bool ?_, rfl⟩; rw [HV.out]; first | exact (decide_eq_true (by omega)).symm | exact (decide_eq_false (by omega)).symm | (rw [Bool.eq_iff_iff]; simp only [Bool.or_eq_true, decide_eq_true_eq]; omega))

set_option maxRecDepth 100000 in
set_option maxHeartbeats 1000000 in
theorem one_any (r : Int) (h1 : -2147483648 ≤ r) (h2 : r ≤ 2147483647) (w : World) :
    Calls Tryd.prog 73 #[.int .i32 r] w fun e w' => ∃ b c, e = .returned (.slice (some ⟨b, 0, none⟩) (Utf8.encode r).size c) ∧ (Utf8.encode r).size ≤ c ∧ (∀ (j : Nat) (u : Value), (byteCells (Utf8.encode r))[j]? = some u → w'.cell? ((⟨b, 0, none⟩ : Addr).add j) = some u) ∧ Ext w w' := by
  cases hv : Utf8.valid r
  · rw [encode_bad hv]
    go_enter Tryd.func73, Tryd.ntmps73
    go_wp2_with (go_at_call 96; refine (Rune01_any r h1 h2 _).mono ?_; rintro e w1 ⟨rfl, rfl⟩; rw [hv])
    go_ret
    refine ⟨_, 3, rfl, by decide, cells_news (heap_alloc_new _ _) ?_, (Ext.refl _).alloc _⟩
    rfl
  · obtain ⟨c, rfl⟩ : ∃ c : Nat, r = c := ⟨r.toNat, by rw [valid_eq] at hv; simp at hv; omega⟩
    have hrn := fun W => Rune01_any (c : Int) h1 h2 W
    rw [hv] at hrn
    have HR := Lib.hid hrn
    have hc : c ≤ 1114111 := by have := valid_cases hv; omega
    have HC := Lib.hid hc
    have HV := Lib.hid hv
    clear hrn hv h1 h2 hc
    by_cases c1 : c < 128
    · rw [enc1 HV.out c1]
      have g1 : decide ((c : Int) < 128) = true := decide_eq_true (by omega)
      clear c1
      go_enter Tryd.func73, Tryd.ntmps73
      go_wp2_with (go_at_call 96; refine (HR.out _).mono ?_; rintro e w1 ⟨rfl, rfl⟩)
      go_ret
      refine ⟨_, 1, rfl, Nat.le_refl _, cells_news (heap_alloc_new _ _) ?_, (Ext.refl _).alloc _⟩
      show [Value.int .u8 ((c : Int) % 256)] = [Value.int .u8 (((UInt8.ofNat c).toNat : Nat) : Int)]
      rw [u8v]
    · by_cases c2 : c < 2048
      · rw [enc2 HV.out (by omega) c2]
        have g1 : decide ((c : Int) < 128) = false := decide_eq_false (by omega)
        have g2 : decide ((c : Int) < 2048) = true := decide_eq_true (by omega)
        clear c1 c2
        go_enter Tryd.func73, Tryd.ntmps73
        go_wp2_with (go_at_call 96; refine (HR.out _).mono ?_; rintro e w1 ⟨rfl, rfl⟩)
        go_ret
        refine ⟨_, 2, rfl, Nat.le_refl _, cells_news (heap_alloc_new _ _) ?_, (Ext.refl _).alloc _⟩
        rw [show wrap32 (192 + wrap32 ((c : Int) / 64)) % 256 = _ from wlead 192 64 c (by decide) HC.out, wlast]
        rfl
      · by_cases c3 : c < 65536
        · rw [enc3 HV.out (by omega) c3]
          have g1 : decide ((c : Int) < 128) = false := decide_eq_false (by omega)
          have g2 : decide ((c : Int) < 2048) = false := decide_eq_false (by omega)
          have g3 : decide ((c : Int) < 65536) = true := decide_eq_true (by omega)
          clear c1 c2 c3
          go_enter Tryd.func73, Tryd.ntmps73
          go_wp2_with (go_at_call 96; refine (HR.out _).mono ?_; rintro e w1 ⟨rfl, rfl⟩)
          go_ret
          refine ⟨_, 3, rfl, Nat.le_refl _, cells_news (heap_alloc_new _ _) ?_, (Ext.refl _).alloc _⟩
          rw [show wrap32 (224 + wrap32 ((c : Int) / 4096)) % 256 = _ from wlead 224 4096 c (by decide) HC.out, show wrap32 (128 + (wrap32 ((c : Int) / 64)).tmod 64) % 256 = _ from wmid 64 c HC.out, wlast]
          rfl
        · rw [enc4 HV.out (by omega)]
          have g1 : decide ((c : Int) < 128) = false := decide_eq_false (by omega)
          have g2 : decide ((c : Int) < 2048) = false := decide_eq_false (by omega)
          have g3 : decide ((c : Int) < 65536) = false := decide_eq_false (by omega)
          clear c1 c2 c3
          go_enter Tryd.func73, Tryd.ntmps73
          go_wp2_with (go_at_call 96; refine (HR.out _).mono ?_; rintro e w1 ⟨rfl, rfl⟩)
          go_ret
          refine ⟨_, 4, rfl, Nat.le_refl _, cells_news (heap_alloc_new _ _) ?_, (Ext.refl _).alloc _⟩
          rw [show wrap32 (240 + wrap32 ((c : Int) / 262144)) % 256 = _ from wlead 240 262144 c (by decide) HC.out, show wrap32 (128 + (wrap32 ((c : Int) / 4096)).tmod 64) % 256 = _ from wmid 4096 c HC.out, show wrap32 (128 + (wrap32 ((c : Int) / 64)).tmod 64) % 256 = _ from wmid 64 c HC.out, wlast]
          rfl

theorem infoB : (Tryd.prog.info? 5).map (fun i => (i.zero, i.size, i.bytes)) = some (some (.int .u8 0), 1, 1) := by kernel_rfl

set_option maxRecDepth 100000 in
set_option maxHeartbeats 1000000 in
theorem Text_any (p : Option Addr) (c : Nat) (l : List Int) (hn : l.length ≤ 100000) (w : World) (h : RunesAt w p l) :
    Calls Tryd.prog 48 #[.slice p l.length c] w fun e w' => e = .returned (.string (runesBytes l)) ∧ Ext w w' := by
  obtain ⟨i0, hi, hz0, hz1, hz2⟩ := info_parts infoB
  go_enter Tryd.func48, Tryd.ntmps48
  go_wp2_with fail
  go_loopw [3, 4] (fun out i wr => ∃ k : Nat, k ≤ l.length ∧ i = .int .i64 k ∧ Ext w wr ∧ wr.ownsRow w.heap.size 5 1 out (runesBytes (l.take k)).size (byteCells (runesBytes (l.take k)))) (fun _ i _ => l.length - (intOf i).toNat)
  case atStart => exact ⟨0, Nat.zero_le _, rfl, Ext.refl _, World.ownsRow_nil _ _ _ _⟩
  case round =>
    obtain ⟨k, hk, rfl, hx, hown⟩ := hrel
    obtain ⟨rp, rc, rfl⟩ := ownsRow_slice hown
    by_cases hlt : k < l.length
    · obtain ⟨b, off, e0, hbw, c0⟩ := (h.mono hx).cells hlt
      subst e0
      have hwf := h.wf k hlt
      have hsz := runesBytes_size_le (l.take k)
      have hlk : (l.take k).length = k := by rw [List.length_take]; omega
      have hst : runesBytes (l.take (k + 1)) = runesBytes (l.take k) ++ Utf8.encode (rn l k) := by
        rw [take_rn hlt, rb_append, rb_cons, rb_nil, ByteArray.append_empty]
      have HS := Lib.hid hst
      clear hst
      have hes := enc_size_le (rn l k)
      have H1 := Lib.hid hwf
      go_wp2_with (first | (go_at_call 73; refine (one_any (rn l k) H1.out.1 H1.out.2 wr).mono ?_; rintro e w3 ⟨ob, oc, rfl, hoc, hnews, hx4⟩; have hown3 := ownsRow_ext hown hx4) | (at_builtin; go_loud (refine wpList_append_own _ rfl _ _ 36 rfl w.heap.size 5 i0 (.int .u8 0) 1 1 Tryd.underlying36 hi hz0 hz1 hz2 rfl (by decide) _ _ _ rfl hown3 ⟨ob, 0, none⟩ (Utf8.encode (rn l k)).size oc (byteCells (Utf8.encode (rn l k))) rfl (by rw [byteCells_len]; omega) hnews (byteCells_one _) (by unfold maxLen; omega) (by omega) (by have := hx.le; have := hx4.le; omega) ?_); intro v' w4 hown4 hgrow _))
      refine ⟨⟨k + 1, by omega, by go_num, Ext.append (hx.trans hx4) hown3 hgrow (Nat.le_refl _), ?_⟩, by simp [intOf]; omega⟩
      rw [HS.out, ByteArray.size_append, byteCells_append]; exact hown4
    · have e : k = l.length := by omega
      subst e
      rw [List.take_length] at hown
      have hcv : (convert 36 9 (.slice rp (runesBytes l).size rc)).run Tryd.prog wr = .ok (.string (runesBytes l)) wr := by
        have hrd := ownsRow_reads hown (f := fun j => (byteCells (runesBytes l)).getD j (.int .u8 0)) (fun j hj => by
          have : j < (byteCells (runesBytes l)).length := by rw [byteCells_len]; omega
          rw [List.getElem?_eq_getElem this]; simp [List.getD, this])
        rcases hrd with h0 | ⟨b, off, e, hbw, hc⟩
        · have hz : (runesBytes l).size = 0 := by omega
          have he : runesBytes l = ByteArray.empty := ext_get! (by rw [hz]; rfl) (fun k hk => absurd hk (by omega))
          rw [hz, he]
          rw [run_convert_bytes_string wr _ _ _ rp 0 rc Tryd.underlying36 Tryd.underlying5 Tryd.underlying9]
          cases rp <;> simp [Conv.bytesToString, loadCells] <;> rfl
        · subst e
          have := run_convert_bytes_back (P := Tryd.prog) wr 36 9 5 ⟨b, off, none⟩ rc (runesBytes l).data.toList Tryd.underlying36 Tryd.underlying5 Tryd.underlying9 (fun j hj => by
            have e2 : ((⟨b, off, none⟩ : Addr).add j) = ⟨b, off + j, none⟩ := by simp [Addr.add]
            have hj2 : j < (runesBytes l).size * 1 := by rw [Nat.mul_one]; simpa using hj
            rw [e2, hc j hj2]
            simp only [byteCells, List.getD, List.getElem?_map, List.getElem?_eq_getElem hj, Option.map_some, Option.getD_some])
          have e3 : (runesBytes l).data.toList.length = (runesBytes l).size := by rw [Array.length_toList]; rfl
          rw [e3] at this
          exact this
      go_wp2_with fail
      go_ret
      exact ⟨rfl, hx⟩

end Go.Proofs.YtnngljflnfjppaaDoor
