/- Shapes as plain functions: a form's pieces, what is filled into its holes, what stands at them. -/
import Derived.Test.YtcnhlogkhnoacaaGreatDoorRadz
import Derived.Test.YtcnhlogkhnoacaaGreatDoorCodez
import Derived.Lib.TrimUEq
import Derived.Lib.ValidU
import Derived.Lib.RuneCount
namespace Go.Cg
open Go.RowKit Go.Lib

/-! ### names -/
def nms : List UInt8 := [97, 98, 99, 100, 101, 102, 103, 104, 105, 106, 107, 108, 109, 110, 111, 112, 113, 114, 115, 116, 117, 118, 119, 120, 121, 122, 48, 49, 50, 51, 52, 53, 54, 55, 56, 57, 45]
def isNm (c : UInt8) : Bool := decide ((97 ≤ c.toNat ∧ c.toNat ≤ 122) ∨ (48 ≤ c.toNat ∧ c.toNat ≤ 57) ∨ c.toNat = 45)
theorem nms_fin : ∀ i : Fin 256, nms.contains (UInt8.ofNat i.val) = isNm (UInt8.ofNat i.val) := by decide +kernel
theorem nms_contains (c : UInt8) : nms.contains c = isNm c := by
  have := nms_fin ⟨c.toNat, c.toNat_lt⟩
  simpa using this
/-- may a text be a shape's name? -/
def nmB (s : ByteArray) : Bool := decide (s.size ≤ 32) && s.data.toList.all isNm
theorem trim_nm (s r : ByteArray) (h : (⟨(Lib.trimS s.data.toList nms).toArray⟩ : ByteArray) = r) : r.toList.isEmpty = s.data.toList.all isNm := by
  subst h
  rw [Lib.toList_data]
  have e := trimS_nil s.data.toList nms
  have e2 : s.data.toList.all (nms.contains ·) = s.data.toList.all isNm := by simp only [nms_contains]
  rw [e2] at e
  cases h : s.data.toList.all isNm
  · rw [h] at e
    cases h3 : Lib.trimS s.data.toList nms with
    | nil => exact absurd (e.1 h3) (by decide)
    | cons a b => rfl
  · rw [e.2 h]; rfl
theorem nm_at {s : ByteArray} {k : Nat} (h : k < s.size) (hp : isNm s[k] = false) : nmB s = false := by
  have : s.data.toList.all isNm = false := by
    rw [List.all_eq_false]
    exact ⟨s[k], List.mem_of_getElem? (i := k) (by rw [List.getElem?_eq_getElem (by simpa using h)]; rfl), by simp [hp]⟩
  simp [nmB, this]
theorem nm_all {s : ByteArray} (h : ∀ j, (hj : j < s.size) → isNm s[j] = true) : nmB s = decide (s.size ≤ 32) := by
  have : s.data.toList.all isNm = true := by
    rw [List.all_eq_true]
    intro c hc
    obtain ⟨j, hj, rfl⟩ := List.getElem_of_mem hc
    exact h j hj
  simp [nmB, this]

/-! ### forms -/
/-- may a piece of a form be? -/
def pieceB (A : Alpha) (s : ByteArray) (pos : Nat) : Bool := !badAt s pos && (runeAt s pos == 95 || decide (0 ≤ findLetter A (runeAt s pos)))
def formFrom (A : Alpha) (s : ByteArray) : Nat → Nat → List Int → List Int × Bool
  | 0, _, acc => (acc, decide (acc.length ≤ 64))
  | f + 1, pos, acc =>
    if pos < s.size ∧ acc.length ≤ 64 then
      (if pieceB A s pos = true then formFrom A s f (pos + (Utf8.decode s pos).2) (acc ++ [runeAt s pos]) else ([], false))
    else (acc, decide (acc.length ≤ 64))
def formB (A : Alpha) (s : ByteArray) : Bool := (formFrom A s s.size 0 []).2
def formL (A : Alpha) (s : ByteArray) : List Int := (formFrom A s s.size 0 []).1
theorem formFrom_end {A : Alpha} {s : ByteArray} {f pos : Nat} {acc : List Int} (h : ¬ (pos < s.size ∧ acc.length ≤ 64)) : formFrom A s f pos acc = (acc, decide (acc.length ≤ 64)) := by
  cases f with
  | zero => rfl
  | succ f => rw [formFrom, if_neg h]
theorem formFrom_no {A : Alpha} {s : ByteArray} {f pos : Nat} {acc : List Int} (h : pos < s.size) (h2 : acc.length ≤ 64) (hp : pieceB A s pos = false) : formFrom A s (f + 1) pos acc = ([], false) := by
  rw [formFrom, if_pos ⟨h, h2⟩, if_neg (by rw [hp]; decide)]
theorem formFrom_yes {A : Alpha} {s : ByteArray} {f pos : Nat} {acc : List Int} (h : pos < s.size) (h2 : acc.length ≤ 64) (hp : pieceB A s pos = true) : formFrom A s (f + 1) pos acc = formFrom A s f (pos + (Utf8.decode s pos).2) (acc ++ [runeAt s pos]) := by
  rw [formFrom, if_pos ⟨h, h2⟩, if_pos hp]
/-- all pieces from a place on may be -/
def allFrom (A : Alpha) (s : ByteArray) : Nat → Nat → Bool
  | 0, _ => true
  | f + 1, pos => if pos < s.size then pieceB A s pos && allFrom A s f (pos + (Utf8.decode s pos).2) else true
/-- no piece from a place on is broken -/
def soundFrom (s : ByteArray) : Nat → Nat → Bool
  | 0, _ => true
  | f + 1, pos => if pos < s.size then !badAt s pos && soundFrom s f (pos + (Utf8.decode s pos).2) else true
theorem allFrom_end {A : Alpha} {s : ByteArray} {f pos : Nat} (h : ¬ pos < s.size) : allFrom A s f pos = true := by
  cases f with
  | zero => rfl
  | succ f => rw [allFrom, if_neg h]
theorem allFrom_step {A : Alpha} {s : ByteArray} {f pos : Nat} (h : pos < s.size) : allFrom A s (f + 1) pos = (pieceB A s pos && allFrom A s f (pos + (Utf8.decode s pos).2)) := by rw [allFrom, if_pos h]
theorem soundFrom_step {s : ByteArray} {f pos : Nat} (h : pos < s.size) : soundFrom s (f + 1) pos = (!badAt s pos && soundFrom s f (pos + (Utf8.decode s pos).2)) := by rw [soundFrom, if_pos h]
theorem formFrom_snd (A : Alpha) (s : ByteArray) : ∀ (f pos : Nat) (acc : List Int), s.size ≤ pos + f → (formFrom A s f pos acc).2 = (decide (acc.length + runeCountFrom s f pos ≤ 64) && allFrom A s f pos)
  | 0, pos, acc, h => by
    show decide (acc.length ≤ 64) = (decide (acc.length + 0 ≤ 64) && true)
    rw [Nat.add_zero, Bool.and_true]
  | f + 1, pos, acc, h => by
    by_cases hp : pos < s.size
    · have hw := width_pos s pos hp
      have hr : runeCountFrom s (f + 1) pos = 1 + runeCountFrom s f (pos + (Utf8.decode s pos).2) := by rw [runeCountFrom, if_pos hp]
      rw [hr, allFrom_step hp]
      by_cases hl : acc.length ≤ 64
      · cases hb : pieceB A s pos
        · rw [formFrom_no hp hl hb]; simp
        · rw [formFrom_yes hp hl hb, formFrom_snd A s f _ _ (by omega)]
          rw [Bool.true_and, List.length_append, List.length_singleton, Nat.add_assoc]
      · rw [formFrom_end (fun h => hl h.2)]
        have e1 : decide (acc.length ≤ 64) = false := decide_eq_false hl
        have e2 : decide (acc.length + (1 + runeCountFrom s f (pos + (Utf8.decode s pos).2)) ≤ 64) = false := decide_eq_false (by omega)
        show decide (acc.length ≤ 64) = _
        rw [e1, e2]; rfl
    · rw [formFrom_end (fun h => hp h.1), runeCountFrom_end s _ _ hp, allFrom_end hp]; simp
theorem allFrom_sound (A : Alpha) (s : ByteArray) : ∀ (f pos : Nat), allFrom A s f pos = true → soundFrom s f pos = true
  | 0, _, _ => rfl
  | f + 1, pos, h => by
    by_cases hp : pos < s.size
    · rw [allFrom_step hp, Bool.and_eq_true] at h
      have hb : badAt s pos = false := by
        have := h.1
        unfold pieceB at this
        cases hb : badAt s pos
        · rfl
        · rw [hb] at this; cases this
      rw [soundFrom_step hp, hb, allFrom_sound A s f _ h.2]; rfl
    · rw [soundFrom, if_neg hp]
theorem validGo_sound (s : ByteArray) : ∀ (f pos : Nat), validGoD f (s.data.toList.drop pos) = soundFrom s f pos
  | 0, _ => rfl
  | f + 1, pos => by
    rw [validGoD, soundFrom]
    by_cases hp : pos < s.size
    · have hne : s.data.toList.drop pos ≠ [] := by
        intro h
        have := congrArg List.length h
        rw [List.length_drop, Array.length_toList] at this
        have e : s.data.size = s.size := rfl
        simp at this; omega
      rw [if_neg hne, if_pos hp, decodeL_drop, List.drop_drop, validGo_sound s f]
      unfold badAt
      by_cases hb : (Utf8.decode s pos).1 = 65533 ∧ (Utf8.decode s pos).2 = 1
      · rw [if_pos hb, hb.1, hb.2]; rfl
      · rw [if_neg hb]
        have : (((Utf8.decode s pos).1 == 65533) && ((Utf8.decode s pos).2 == 1)) = false := by
          cases h1 : ((Utf8.decode s pos).1 == 65533) <;> cases h2 : ((Utf8.decode s pos).2 == 1) <;> simp_all
        rw [this]; rfl
    · have he : s.data.toList.drop pos = [] := List.drop_eq_nil_of_le (by rw [Array.length_toList]; exact Nat.le_of_not_lt hp)
      rw [if_pos he, if_neg hp]
theorem valid_sound (s : ByteArray) : validD s.data.toList = soundFrom s s.size 0 := by
  have := validGo_sound s s.size 0
  rw [List.drop_zero] at this
  unfold validD
  rw [Array.length_toList]
  exact this
theorem formB_eq (A : Alpha) (s : ByteArray) : formB A s = (decide (runeCount s ≤ 64) && allFrom A s s.size 0) := by
  unfold formB runeCount
  rw [formFrom_snd A s _ _ _ (by omega)]; simp

/-- what is read of a form that may be -/
theorem formFrom_spec (A : Alpha) (s : ByteArray) : ∀ (f pos : Nat) (acc : List Int), s.size ≤ pos + f → pos ≤ s.size → (formFrom A s f pos acc).2 = true →
    ∃ l, (formFrom A s f pos acc).1 = acc ++ l ∧ runesBytes l = s.extract pos s.size ∧ (∀ r ∈ l, (r = 95 ∨ 0 ≤ findLetter A r) ∧ 0 ≤ r ∧ r ≤ 2147483647) ∧ (acc ++ l).length ≤ 64 ∧ ∀ v, Conv.runesFrom s f pos v = v ++ (l.map (Value.int .i32)).toArray
  | 0, pos, acc, h, hp, hb => ⟨[], by simp [formFrom], by
      rw [rb_nil]
      have : pos = s.size := by omega
      subst this
      exact ext_get! (by rw [ByteArray.size_extract]; simp) (fun k hk => absurd hk (by simp)), fun r hr => by simp at hr, by simpa [formFrom] using hb, fun v => by simp [Conv.runesFrom]⟩
  | f + 1, pos, acc, h, hp, hb => by
    by_cases hlt : pos < s.size
    · by_cases hl : acc.length ≤ 64
      · cases hq : pieceB A s pos
        · rw [formFrom_no hlt hl hq] at hb; cases hb
        · rw [formFrom_yes hlt hl hq] at hb ⊢
          have hw := width_pos s pos hlt
          have hw2 := width_le s pos hlt
          obtain ⟨l, h1, h2, h3, h4, h5⟩ := formFrom_spec A s f _ _ (by omega) hw2 hb
          have hq2 : badAt s pos = false ∧ (runeAt s pos = 95 ∨ 0 ≤ findLetter A (runeAt s pos)) := by
            unfold pieceB at hq
            simp only [Bool.and_eq_true, Bool.not_eq_true', Bool.or_eq_true, beq_iff_eq, decide_eq_true_eq] at hq
            exact hq
          refine ⟨runeAt s pos :: l, by rw [h1]; simp, ?_, ?_, by simpa using h4, fun v => ?_⟩
          · rw [rb_cons, h2, (enc_dec s pos hlt hq2.1).2]
            rw [ByteArray.extract_append_extract]; congr 1 <;> omega
          · intro r hr
            rcases List.mem_cons.1 hr with rfl | hr
            · exact ⟨hq2.2, runeAt_range s pos⟩
            · exact h3 r hr
          · rw [Conv.runesFrom, if_pos hlt]
            have e : Conv.runesFrom s f (pos + (Utf8.decode s pos).2) (v.push (.int .i32 (Int.ofNat (Utf8.decode s pos).1))) = _ := h5 _
            show Conv.runesFrom s f (pos + (Utf8.decode s pos).2) (v.push (.int .i32 (Int.ofNat (Utf8.decode s pos).1))) = _
            rw [e]
            show v.push (.int .i32 (runeAt s pos)) ++ _ = _
            simp
      · rw [formFrom_end (fun h => hl h.2)] at hb
        exact absurd (of_decide_eq_true hb) hl
    · rw [formFrom_end (fun h => hlt h.1)] at hb ⊢
      refine ⟨[], by simp, ?_, fun r hr => by simp at hr, by simpa using of_decide_eq_true hb, fun v => ?_⟩
      · rw [rb_nil]
        exact ext_get! (by rw [ByteArray.size_extract]; simp; omega) (fun k hk => absurd hk (by simp))
      · rw [Conv.runesFrom, if_neg hlt]; simp
theorem form_ok {A : Alpha} {s : ByteArray} (h : formB A s = true) : runesBytes (formL A s) = s ∧ (∀ r ∈ formL A s, (r = 95 ∨ 0 ≤ findLetter A r) ∧ 0 ≤ r ∧ r ≤ 2147483647) ∧ (formL A s).length ≤ 64 ∧ Conv.runesFrom s s.size 0 #[] = ((formL A s).map (Value.int .i32)).toArray := by
  obtain ⟨l, h1, h2, h3, h4, h5⟩ := formFrom_spec A s s.size 0 [] (by omega) (by omega) h
  have e : formL A s = l := by unfold formL; rw [h1]; rfl
  rw [e]
  refine ⟨by rw [h2, ByteArray.extract_zero_size], h3, by simpa using h4, ?_⟩
  rw [h5]; simp
theorem formFrom_len (A : Alpha) (s : ByteArray) : ∀ (f pos : Nat) (acc : List Int), acc.length ≤ 65 → (∀ r ∈ acc, 0 ≤ r ∧ r ≤ 2147483647) → (formFrom A s f pos acc).1.length ≤ 65 ∧ ∀ r ∈ (formFrom A s f pos acc).1, 0 ≤ r ∧ r ≤ 2147483647
  | 0, pos, acc, h, hr => ⟨h, hr⟩
  | f + 1, pos, acc, h, hr => by
    by_cases hc : pos < s.size ∧ acc.length ≤ 64
    · cases hq : pieceB A s pos
      · rw [formFrom_no hc.1 hc.2 hq]; simp
      · rw [formFrom_yes hc.1 hc.2 hq]
        refine formFrom_len A s f _ _ (by simp; omega) fun r hm => ?_
        rcases List.mem_append.1 hm with hm | hm
        · exact hr r hm
        · rw [List.mem_singleton.1 hm]; exact runeAt_range s pos
    · rw [formFrom_end hc]; exact ⟨h, hr⟩
theorem formL_len (A : Alpha) (s : ByteArray) : (formL A s).length ≤ 65 := (formFrom_len A s s.size 0 [] (by simp) (fun r hr => by cases hr)).1

set_option maxRecDepth 100000 in
/-- a piece that may be, in a text made of runes -/
theorem formFrom_rb {A : Alpha} (hA : A.Ok) : ∀ (l : List Int) (p : ByteArray) (acc : List Int) (s : ByteArray) (f : Nat), (∀ r ∈ l, r = 95 ∨ 0 ≤ findLetter A r) → s = p ++ runesBytes l → s.size ≤ p.size + f → acc.length + l.length ≤ 64 → formFrom A s f p.size acc = (acc ++ l, true)
  | [], p, acc, s, f, hl, hs, hf, hn => by
    rw [formFrom_end (by rw [hs, ByteArray.size_append, rb_nil]; simp), List.append_nil, decide_eq_true (by simpa using hn)]
  | r :: l, p, acc, s, f, hl, hs, hf, hn => by
    rw [List.length_cons] at hn
    have hok : 0 ≤ r ∧ r ≤ 1114111 ∧ r ≠ 65533 ∧ Utf8.valid r = true := by
      rcases hl r (List.mem_cons_self ..) with h | h
      · subst h; exact ⟨by decide, by decide, by decide, by decide⟩
      · exact runeOk_facts (letter_ok hA h)
    obtain ⟨h1, h2, h3, hv⟩ := hok
    rw [rb_cons] at hs
    have hz : p.size + (Utf8.encode r).size ≤ s.size := by rw [hs, ByteArray.size_append, ByteArray.size_append]; omega
    obtain ⟨c, rfl⟩ : ∃ c : Nat, r = c := ⟨r.toNat, by omega⟩
    have hd : Utf8.decode s p.size = (c, (Utf8.encode (c : Int)).size) := dec_enc c hv s p.size hz fun k hk => by rw [hs, get!_append_right, get!_append_left _ _ _ hk]
    have hsz : 1 ≤ (Utf8.encode (c : Int)).size := by
      by_cases c1 : c < 128
      · rw [enc1 hv c1]; exact Nat.le_refl 1
      · by_cases c2 : c < 2048
        · rw [enc2 hv (by omega) c2]; show 1 ≤ 2; omega
        · by_cases c3 : c < 65536
          · rw [enc3 hv (by omega) c3]; show 1 ≤ 3; omega
          · rw [enc4 hv (by omega)]; show 1 ≤ 4; omega
    have hra : runeAt s p.size = (c : Int) := by unfold runeAt; rw [hd]
    obtain ⟨f, rfl⟩ : ∃ g, f = g + 1 := ⟨f - 1, by omega⟩
    have hbad : badAt s p.size = false := by
      unfold badAt; rw [hd]
      have : (c == 65533) = false := by rw [beq_eq_false_iff_ne]; omega
      show ((c == 65533) && _) = false
      rw [this]; rfl
    have hpc : pieceB A s p.size = true := by
      unfold pieceB
      rw [hbad, hra]
      rcases hl c (List.mem_cons_self ..) with h | h
      · rw [h]; rfl
      · rw [decide_eq_true h]; simp
    rw [formFrom_yes (by omega) (by omega) hpc, hra, hd]
    have hsz2 : (p ++ Utf8.encode (c : Int)).size = p.size + (Utf8.encode (c : Int)).size := ByteArray.size_append ..
    have := formFrom_rb hA l (p ++ Utf8.encode (c : Int)) (acc ++ [(c : Int)]) s f (fun x hx => hl x (List.mem_cons_of_mem _ hx)) (by rw [hs, ByteArray.append_assoc]) (by omega) (by simp; omega)
    rw [hsz2] at this
    dsimp only
    rw [this]; simp
theorem form_rb {A : Alpha} (hA : A.Ok) {l : List Int} (hl : ∀ r ∈ l, r = 95 ∨ 0 ≤ findLetter A r) (hn : l.length ≤ 64) : formB A (runesBytes l) = true ∧ formL A (runesBytes l) = l := by
  have := formFrom_rb hA l ByteArray.empty [] (runesBytes l) (runesBytes l).size hl (by simp) (by omega) (by simpa using hn)
  have e : formFrom A (runesBytes l) (runesBytes l).size 0 [] = ([] ++ l, true) := by simpa using this
  unfold formB formL
  rw [e]
  exact ⟨rfl, rfl⟩

/-! ### holes, what is filled into them, what stands at them -/
def holeN (l : List Int) : Nat := l.count 95
theorem enc_hole {r : Int} (h : Utf8.valid r = true) : (Utf8.encode r).data.toList.count 95 = if r = 95 then 1 else 0 := by
  obtain ⟨c, rfl⟩ : ∃ c : Nat, r = c := ⟨r.toNat, by
    unfold Utf8.valid at h
    simp only [Bool.or_eq_true, Bool.and_eq_true, decide_eq_true_eq] at h
    omega⟩
  have hc := valid_cases h
  have far : ∀ n : Nat, n < 256 → n ≠ 95 → UInt8.ofNat n ≠ 95 := fun n hn h2 e => h2 (by
    have := congrArg UInt8.toNat e
    rw [u8_toNat hn] at this
    exact this)
  have none_ : ∀ bs : List UInt8, (∀ b ∈ bs, b ≠ 95) → bs.count 95 = 0 := fun bs hb => List.count_eq_zero.2 fun hm => hb 95 hm rfl
  by_cases c1 : c < 128
  · rw [enc1 h c1]
    by_cases e2 : c = 95
    · subst e2; rfl
    · rw [if_neg (by omega)]
      have a1 := far c (by omega) e2
      refine none_ [UInt8.ofNat c] fun b hb => ?_
      rw [List.mem_singleton.1 hb]; exact a1
  · rw [if_neg (by omega)]
    by_cases c2 : c < 2048
    · rw [enc2 h (by omega) c2]
      have a1 := far (192 + c / 64) (by omega) (by omega)
      have a2 := far (128 + c % 64) (by omega) (by omega)
      refine none_ [UInt8.ofNat (192 + c / 64), UInt8.ofNat (128 + c % 64)] fun b hb => ?_
      rcases List.mem_cons.1 hb with e | hb
      · rw [e]; exact a1
      · rw [List.mem_singleton.1 hb]; exact a2
    · by_cases c3 : c < 65536
      · rw [enc3 h (by omega) c3]
        have a1 := far (224 + c / 4096) (by omega) (by omega)
        have a2 := far (128 + c / 64 % 64) (by omega) (by omega)
        have a3 := far (128 + c % 64) (by omega) (by omega)
        refine none_ [UInt8.ofNat (224 + c / 4096), UInt8.ofNat (128 + c / 64 % 64), UInt8.ofNat (128 + c % 64)] fun b hb => ?_
        rcases List.mem_cons.1 hb with e | hb
        · rw [e]; exact a1
        · rcases List.mem_cons.1 hb with e | hb
          · rw [e]; exact a2
          · rw [List.mem_singleton.1 hb]; exact a3
      · rw [enc4 h (by omega)]
        have a1 := far (240 + c / 262144) (by omega) (by omega)
        have a2 := far (128 + c / 4096 % 64) (by omega) (by omega)
        have a3 := far (128 + c / 64 % 64) (by omega) (by omega)
        have a4 := far (128 + c % 64) (by omega) (by omega)
        refine none_ [UInt8.ofNat (240 + c / 262144), UInt8.ofNat (128 + c / 4096 % 64), UInt8.ofNat (128 + c / 64 % 64), UInt8.ofNat (128 + c % 64)] fun b hb => ?_
        rcases List.mem_cons.1 hb with e | hb
        · rw [e]; exact a1
        · rcases List.mem_cons.1 hb with e | hb
          · rw [e]; exact a2
          · rcases List.mem_cons.1 hb with e | hb
            · rw [e]; exact a3
            · rw [List.mem_singleton.1 hb]; exact a4
/-- how often a text has the hole's byte -/
def txtHoles (s : ByteArray) : Nat := s.data.toList.count 95
theorem txtHoles_le (s : ByteArray) : txtHoles s ≤ s.size := by
  unfold txtHoles; exact Nat.le_trans (List.count_le_length ..) (by rw [Array.length_toList]; exact Nat.le_refl _)
theorem rb_holes : ∀ {l : List Int}, (∀ r ∈ l, Utf8.valid r = true) → txtHoles (runesBytes l) = holeN l
  | [], _ => rfl
  | r :: l, h => by
    have ih := rb_holes (fun x hx => h x (List.mem_cons_of_mem _ hx))
    unfold txtHoles at ih ⊢
    rw [rb_cons]
    have e : (Utf8.encode r ++ runesBytes l).data.toList = (Utf8.encode r).data.toList ++ (runesBytes l).data.toList := by simp
    rw [e, List.count_append, enc_hole (h r (List.mem_cons_self ..)), ih]
    unfold holeN
    rw [List.count_cons]
    by_cases e2 : r = 95
    · subst e2; simp; omega
    · simp [e2]
/-- of a form that may be: how many holes its text has -/
theorem form_holes {A : Alpha} (hA : A.Ok) {s : ByteArray} (h : formB A s = true) : txtHoles s = holeN (formL A s) := by
  obtain ⟨h1, h2, h3, h4⟩ := form_ok h
  have := rb_holes (l := formL A s) (fun r hr => by
    rcases (h2 r hr).1 with e | e
    · subst e; decide
    · exact (runeOk_facts (letter_ok hA e)).2.2.2)
  rwa [h1] at this

/-- the first k of a form's runes, with a root's letters in the holes -/
def fillTo (l f : List Int) : Nat → List Int
  | 0 => []
  | k + 1 => fillTo l f k ++ [if rn f k = 95 then rn l (holeN (f.take k)) else rn f k]
theorem fillTo_len (l f : List Int) : ∀ k, (fillTo l f k).length = k
  | 0 => rfl
  | k + 1 => by rw [fillTo, List.length_append, fillTo_len l f k]; rfl
theorem holeN_take {f : List Int} {k : Nat} (h : k < f.length) : holeN (f.take (k + 1)) = holeN (f.take k) + if rn f k = 95 then 1 else 0 := by
  unfold holeN
  rw [take_rn h, List.count_append, List.count_singleton]
  by_cases e : rn f k = 95
  · simp [e]
  · simp [e]
theorem holeN_take_le (f : List Int) (k : Nat) : holeN (f.take k) ≤ holeN f := by
  unfold holeN
  exact List.Sublist.count_le 95 (List.take_sublist k f)
theorem holeN_lt {f : List Int} {k : Nat} (h : k < f.length) (he : rn f k = 95) : holeN (f.take k) < holeN f := by
  have h1 := holeN_take h
  rw [if_pos he] at h1
  have := holeN_take_le f (k + 1)
  omega
/-- the form's runes, those below j filled -/
def fillMix (l f : List Int) (j : Nat) : List Int := fillTo l f j ++ f.drop j
theorem fillMix_zero (l f : List Int) : fillMix l f 0 = f := rfl
theorem fillMix_all (l f : List Int) : fillMix l f f.length = fillTo l f f.length := by unfold fillMix; rw [List.drop_length, List.append_nil]
theorem fillMix_len {l f : List Int} {j : Nat} (h : j ≤ f.length) : (fillMix l f j).length = f.length := by unfold fillMix; rw [List.length_append, fillTo_len, List.length_drop]; omega
theorem fillMix_at {l f : List Int} {j : Nat} (_h : j < f.length) : rn (fillMix l f j) j = rn f j := by
  unfold fillMix rn
  have e := fillTo_len l f j
  rw [List.getD_eq_getElem?_getD, List.getElem?_append_right (by omega), e, List.getElem?_drop, List.getD_eq_getElem?_getD]; simp
theorem fillMix_hole {l f : List Int} {j : Nat} (h : j < f.length) (he : rn f j = 95) : fillMix l f (j + 1) = (fillMix l f j).set j (rn l (holeN (f.take j))) := by
  unfold fillMix
  have e := fillTo_len l f j
  rw [fillTo, if_pos he, drop_rn h, List.set_append_right _ _ (by omega), e, Nat.sub_self]
  simp
theorem fillMix_same {l f : List Int} {j : Nat} (h : j < f.length) (he : rn f j ≠ 95) : fillMix l f (j + 1) = fillMix l f j := by
  unfold fillMix
  rw [fillTo, if_neg he, drop_rn h]
  simp
theorem fillTo_mem {l f : List Int} {r : Int} : ∀ k, k ≤ f.length → holeN f ≤ l.length → r ∈ fillTo l f k → r ∈ l ∨ (r ∈ f ∧ r ≠ 95)
  | 0, _, _, h => by cases h
  | k + 1, hk, hh, h => by
    rw [fillTo] at h
    rcases List.mem_append.1 h with h | h
    · exact fillTo_mem k (by omega) hh h
    · rw [List.mem_singleton] at h
      by_cases e : rn f k = 95
      · rw [if_pos e] at h
        have := holeN_lt (by omega) e
        rw [h, rn_eq (show holeN (f.take k) < l.length by omega)]
        exact .inl (List.getElem_mem _)
      · rw [if_neg e] at h
        rw [h]
        exact .inr ⟨by rw [rn_eq (show k < f.length by omega)]; exact List.getElem_mem _, e⟩
/-- what stands at the first k places' holes -/
def atHoles (l f : List Int) : Nat → List Int
  | 0 => []
  | k + 1 => if rn f k = 95 then atHoles l f k ++ [rn l k] else atHoles l f k
theorem atHoles_yes {l f : List Int} {k : Nat} (h : rn f k = 95) : atHoles l f (k + 1) = atHoles l f k ++ [rn l k] := by rw [atHoles, if_pos h]
theorem atHoles_no {l f : List Int} {k : Nat} (h : rn f k ≠ 95) : atHoles l f (k + 1) = atHoles l f k := by rw [atHoles, if_neg h]
theorem atHoles_len (l f : List Int) : ∀ k, k ≤ f.length → (atHoles l f k).length = holeN (f.take k)
  | 0, _ => rfl
  | k + 1, h => by
    have ih := atHoles_len l f k (by omega)
    rw [holeN_take (by omega)]
    by_cases e : rn f k = 95
    · rw [atHoles_yes e, List.length_append, ih, if_pos e]; rfl
    · rw [atHoles_no e, ih, if_neg e]; rfl
theorem atHoles_le (l f : List Int) : ∀ k, (atHoles l f k).length ≤ k
  | 0 => Nat.le_refl _
  | k + 1 => by
    have := atHoles_le l f k
    rw [atHoles]; split
    · simp; omega
    · omega
theorem atHoles_mem {l f : List Int} {r : Int} : ∀ k, k ≤ l.length → r ∈ atHoles l f k → r ∈ l
  | 0, _, h => by cases h
  | k + 1, hk, h => by
    rw [atHoles] at h
    split at h
    · rcases List.mem_append.1 h with h | h
      · exact atHoles_mem k (by omega) h
      · rw [List.mem_singleton.1 h, rn_eq (show k < l.length by omega)]; exact List.getElem_mem _
    · exact atHoles_mem k (by omega) h
/-- is a word of a form? -/
def fitsB (l f : List Int) : Bool := decide (l.length = f.length ∧ ∀ i : Fin f.length, rn f i = 95 ∨ rn f i = rn l i)
theorem fits_yes {l f : List Int} (h1 : l.length = f.length) (h2 : ∀ i, i < f.length → rn f i = 95 ∨ rn f i = rn l i) : fitsB l f = true := decide_eq_true ⟨h1, fun i => h2 i.1 i.2⟩
theorem fits_len {l f : List Int} (h : l.length ≠ f.length) : fitsB l f = false := decide_eq_false fun c => h c.1
theorem fits_no {l f : List Int} {i : Nat} (hi : i < f.length) (h : rn f i ≠ 95) (h2 : rn f i ≠ rn l i) : fitsB l f = false := decide_eq_false fun c => (c.2 ⟨i, hi⟩).elim h h2
theorem fits_iff {l f : List Int} : fitsB l f = true ↔ l.length = f.length ∧ ∀ i, i < f.length → rn f i = 95 ∨ rn f i = rn l i := by
  unfold fitsB
  rw [decide_eq_true_iff]
  exact ⟨fun h => ⟨h.1, fun i hi => h.2 ⟨i, hi⟩⟩, fun h => ⟨h.1, fun i => h.2 i.1 i.2⟩⟩
end Go.Cg
