/- Codes: runes to bytes and back; what is spelled is the text again. -/
import Derived.Test.YtcnhlogkhnoacaaGreatDoorWordz
import Derived.Laws.Cover4
import Derived.Laws.Runes
namespace Go.Cg
open Go.RowKit Go.Lib

theorem rb_foldl (l : List Int) : ∀ s : ByteArray, l.foldl (fun r n => r ++ Utf8.encode n) s = s ++ runesBytes l := by
  induction l with
  | nil => intro s; simp [runesBytes]
  | cons n l ih =>
    intro s
    have h2 : runesBytes (n :: l) = (ByteArray.empty ++ Utf8.encode n) ++ runesBytes l := by
      show List.foldl _ _ l = _
      exact ih _
    rw [List.foldl_cons, ih, h2, ByteArray.empty_append, ByteArray.append_assoc]
theorem rb_nil : runesBytes [] = ByteArray.empty := rfl
theorem rb_cons (r : Int) (l : List Int) : runesBytes (r :: l) = Utf8.encode r ++ runesBytes l := by
  have h2 : runesBytes (r :: l) = l.foldl (fun r n => r ++ Utf8.encode n) (ByteArray.empty ++ Utf8.encode r) := rfl
  rw [h2, rb_foldl, ByteArray.empty_append]
theorem rb_append (a b : List Int) : runesBytes (a ++ b) = runesBytes a ++ runesBytes b := by
  induction a with
  | nil => rw [List.nil_append, rb_nil, ByteArray.empty_append]
  | cons r a ih => rw [List.cons_append, rb_cons, rb_cons, ih, ByteArray.append_assoc]

theorem get!_append_right (p q : ByteArray) (k : Nat) : (p ++ q).get! (p.size + k) = q.get! k := by
  by_cases h : k < q.size
  · have h1 : p.size + k < (p ++ q).size := by rw [ByteArray.size_append]; omega
    rw [Go.Proofs.Utf8W.get!_of_lt _ _ h1, Go.Proofs.Utf8W.get!_of_lt _ _ h, ByteArray.getElem_append_right (by omega)]
    simp
  · have z : ∀ (s : ByteArray) (i : Nat), s.size ≤ i → s.get! i = default := fun s i hi => by
      show s.data[i]! = default
      exact getElem!_neg s.data i (by simpa using hi)
    rw [z _ _ (by rw [ByteArray.size_append]; omega), z _ _ (by omega)]
theorem get!_append_left (p q : ByteArray) (k : Nat) (h : k < p.size) : (p ++ q).get! k = p.get! k := by
  have h1 : k < (p ++ q).size := by rw [ByteArray.size_append]; omega
  rw [Go.Proofs.Utf8W.get!_of_lt _ _ h1, Go.Proofs.Utf8W.get!_of_lt _ _ h, ByteArray.getElem_append_left h]

theorem valid_cases {c : Nat} (hv : Utf8.valid (c : Int) = true) : c < 55296 ∨ (57344 ≤ c ∧ c ≤ 1114111) := by
  rw [validRune_eq] at hv
  unfold validRune at hv
  have := of_decide_eq_true hv
  omega
theorem valid_of {c : Nat} (h : c < 55296 ∨ (57344 ≤ c ∧ c ≤ 1114111)) : Utf8.valid (c : Int) = true := by
  rw [validRune_eq]; unfold validRune
  exact decide_eq_true (by omega)
theorem enc1 {c : Nat} (hv : Utf8.valid (c : Int) = true) (h : c < 128) : Utf8.encode (c : Int) = ⟨#[UInt8.ofNat c]⟩ := by
  unfold Utf8.encode; simp [hv, h]
theorem enc2 {c : Nat} (hv : Utf8.valid (c : Int) = true) (h : 128 ≤ c) (h2 : c < 2048) : Utf8.encode (c : Int) = ⟨#[UInt8.ofNat (192 + c / 64), UInt8.ofNat (128 + c % 64)]⟩ := by
  unfold Utf8.encode; simp [hv, show ¬ c < 128 by omega, h2]
theorem enc3 {c : Nat} (hv : Utf8.valid (c : Int) = true) (h : 2048 ≤ c) (h2 : c < 65536) : Utf8.encode (c : Int) = ⟨#[UInt8.ofNat (224 + c / 4096), UInt8.ofNat (128 + c / 64 % 64), UInt8.ofNat (128 + c % 64)]⟩ := by
  unfold Utf8.encode; simp [hv, show ¬ c < 128 by omega, show ¬ c < 2048 by omega, h2]
theorem enc4 {c : Nat} (hv : Utf8.valid (c : Int) = true) (h : 65536 ≤ c) : Utf8.encode (c : Int) = ⟨#[UInt8.ofNat (240 + c / 262144), UInt8.ofNat (128 + c / 4096 % 64), UInt8.ofNat (128 + c / 64 % 64), UInt8.ofNat (128 + c % 64)]⟩ := by
  unfold Utf8.encode; simp [hv, show ¬ c < 128 by omega, show ¬ c < 2048 by omega, show ¬ c < 65536 by omega]
theorem u8_toNat {n : Nat} (h : n < 256) : (UInt8.ofNat n).toNat = n := by
  rw [UInt8.toNat_ofNat']; omega

/-- a rune's bytes are read as the rune -/
theorem dec_enc (c : Nat) (hv : Utf8.valid (c : Int) = true) (s : ByteArray) (pos : Nat) (hs : pos + (Utf8.encode (c : Int)).size ≤ s.size)
    (hk : ∀ k, k < (Utf8.encode (c : Int)).size → s.get! (pos + k) = (Utf8.encode (c : Int)).get! k) : Utf8.decode s pos = (c, (Utf8.encode (c : Int)).size) := by
  have hc := valid_cases hv
  rw [Lib.decode_at]
  by_cases h1 : c < 128
  · rw [enc1 hv h1] at hs hk ⊢
    have k0 : s.get! pos = UInt8.ofNat c := hk 0 (by show 0 < 1; omega)
    have b0 : (s.get! pos).toNat = c := by rw [k0]; exact u8_toNat (by omega)
    rw [b0]
    unfold decodeN
    rw [if_pos h1]; rfl
  · by_cases h2 : c < 2048
    · rw [enc2 hv (by omega) h2] at hs hk ⊢
      have hs' : pos + 2 ≤ s.size := hs
      have k0 : s.get! pos = UInt8.ofNat (192 + c / 64) := hk 0 (by show 0 < 2; omega)
      have k1 : s.get! (pos + 1) = UInt8.ofNat (128 + c % 64) := hk 1 (by show 1 < 2; omega)
      have b0 : (s.get! pos).toNat = 192 + c / 64 := by rw [k0]; exact u8_toNat (by omega)
      have b1 : (s.get! (pos + 1)).toNat = 128 + c % 64 := by rw [k1]; exact u8_toNat (by omega)
      rw [b0, b1]
      unfold decodeN
      rw [if_neg (by omega), if_pos (by omega), if_pos (by omega)]
      exact Prod.ext (by show _ = c; omega) rfl
    · by_cases h3 : c < 65536
      · rw [enc3 hv (by omega) h3] at hs hk ⊢
        have hs' : pos + 3 ≤ s.size := hs
        have k0 : s.get! pos = UInt8.ofNat (224 + c / 4096) := hk 0 (by show 0 < 3; omega)
        have k1 : s.get! (pos + 1) = UInt8.ofNat (128 + c / 64 % 64) := hk 1 (by show 1 < 3; omega)
        have k2 : s.get! (pos + 2) = UInt8.ofNat (128 + c % 64) := hk 2 (by show 2 < 3; omega)
        have b0 : (s.get! pos).toNat = 224 + c / 4096 := by rw [k0]; exact u8_toNat (by omega)
        have b1 : (s.get! (pos + 1)).toNat = 128 + c / 64 % 64 := by rw [k1]; exact u8_toNat (by omega)
        have b2 : (s.get! (pos + 2)).toNat = 128 + c % 64 := by rw [k2]; exact u8_toNat (by omega)
        rw [b0, b1, b2]
        have e : (224 + c / 4096) % 16 * 4096 + (128 + c / 64 % 64) % 64 * 64 + (128 + c % 64) % 64 = c := by omega
        unfold decodeN
        rw [e, if_neg (by omega), if_neg (by omega), if_pos (by omega), if_pos (by omega)]; rfl
      · rw [enc4 hv (by omega)] at hs hk ⊢
        have hs' : pos + 4 ≤ s.size := hs
        have k0 : s.get! pos = UInt8.ofNat (240 + c / 262144) := hk 0 (by show 0 < 4; omega)
        have k1 : s.get! (pos + 1) = UInt8.ofNat (128 + c / 4096 % 64) := hk 1 (by show 1 < 4; omega)
        have k2 : s.get! (pos + 2) = UInt8.ofNat (128 + c / 64 % 64) := hk 2 (by show 2 < 4; omega)
        have k3 : s.get! (pos + 3) = UInt8.ofNat (128 + c % 64) := hk 3 (by show 3 < 4; omega)
        have b0 : (s.get! pos).toNat = 240 + c / 262144 := by rw [k0]; exact u8_toNat (by omega)
        have b1 : (s.get! (pos + 1)).toNat = 128 + c / 4096 % 64 := by rw [k1]; exact u8_toNat (by omega)
        have b2 : (s.get! (pos + 2)).toNat = 128 + c / 64 % 64 := by rw [k2]; exact u8_toNat (by omega)
        have b3 : (s.get! (pos + 3)).toNat = 128 + c % 64 := by rw [k3]; exact u8_toNat (by omega)
        rw [b0, b1, b2, b3]
        have e : (240 + c / 262144) % 8 * 262144 + (128 + c / 4096 % 64) % 64 * 4096 + (128 + c / 64 % 64) % 64 * 64 + (128 + c % 64) % 64 = c := by omega
        unfold decodeN
        rw [e, if_neg (by omega), if_neg (by omega), if_neg (by omega), if_pos (by omega), if_pos (by omega)]; rfl

theorem ext_get! {a b : ByteArray} (h : a.size = b.size) (hk : ∀ k, k < a.size → a.get! k = b.get! k) : a = b := by
  apply ByteArray.ext_getElem h
  intro i h1 h2
  have := hk i h1
  rwa [Go.Proofs.Utf8W.get!_of_lt _ _ h1, Go.Proofs.Utf8W.get!_of_lt _ _ h2] at this
theorem u8_of {n : Nat} {x : UInt8} (h : x.toNat = n) : UInt8.ofNat n = x := by rw [← h]; exact UInt8.ofNat_toNat

/-- what is read as a rune is the rune's bytes -/
theorem enc_dec (s : ByteArray) (pos : Nat) (hp : pos < s.size) (hb : badAt s pos = false) : Utf8.valid (runeAt s pos) = true ∧ Utf8.encode (runeAt s pos) = s.extract pos (pos + (Utf8.decode s pos).2) := by
  have hw := width_le s pos hp
  have hb' : ¬ ((Utf8.decode s pos).1 = 65533 ∧ (Utf8.decode s pos).2 = 1) := by
    unfold badAt at hb
    rintro ⟨h1, h2⟩
    rw [h1, h2] at hb; cases hb
  clear hb
  unfold runeAt
  rw [Lib.decode_at] at hb' hw ⊢
  have t0 := (s.get! pos).toNat_lt
  have t1 := (s.get! (pos + 1)).toNat_lt
  have t2 := (s.get! (pos + 2)).toNat_lt
  have t3 := (s.get! (pos + 3)).toNat_lt
  have hz : ∀ n, pos + n ≤ s.size → (s.extract pos (pos + n)).size = n := fun n hn => by rw [ByteArray.size_extract]; omega
  have hg : ∀ n k, pos + n ≤ s.size → k < n → (s.extract pos (pos + n)).get! k = s.get! (pos + k) := fun n k hn hk => get!_extract s pos (pos + n) k (by omega) hn
  obtain ⟨b0, e0⟩ : ∃ b0, (s.get! pos).toNat = b0 := ⟨_, rfl⟩
  obtain ⟨b1, e1⟩ : ∃ b1, (s.get! (pos + 1)).toNat = b1 := ⟨_, rfl⟩
  obtain ⟨b2, e2⟩ : ∃ b2, (s.get! (pos + 2)).toNat = b2 := ⟨_, rfl⟩
  obtain ⟨b3, e3⟩ : ∃ b3, (s.get! (pos + 3)).toNat = b3 := ⟨_, rfl⟩
  rw [e0, e1, e2, e3] at hb' hw ⊢
  rw [e0] at t0; rw [e1] at t1; rw [e2] at t2; rw [e3] at t3
  unfold decodeN at hb' hw ⊢
  split
  · rename_i h1
    have hv := valid_of (c := b0) (by omega)
    refine ⟨hv, ?_⟩
    show Utf8.encode (b0 : Int) = s.extract pos (pos + 1)
    rw [enc1 hv h1]
    refine ext_get! (hz 1 (by omega)).symm fun k hk => ?_
    have hk' : k < 1 := hk
    rw [hg 1 k (by omega) hk']
    match k, hk' with
    | 0, _ => exact u8_of e0
  · rename_i h1
    rw [if_neg h1] at hb' hw
    split
    · rename_i h2
      rw [if_pos h2] at hb' hw
      split
      · rename_i h3
        rw [if_pos h3] at hb' hw
        have hw : pos + 2 ≤ s.size := hw
        have hv := valid_of (c := b0 % 32 * 64 + b1 % 64) (by omega)
        refine ⟨hv, ?_⟩
        show Utf8.encode ((b0 % 32 * 64 + b1 % 64 : Nat) : Int) = s.extract pos (pos + 2)
        rw [enc2 hv (by omega) (by omega)]
        refine ext_get! (hz 2 hw).symm fun k hk => ?_
        have hk' : k < 2 := hk
        rw [hg 2 k hw hk']
        match k, hk' with
        | 0, _ => exact u8_of (e0.trans (by omega))
        | 1, _ => exact u8_of (e1.trans (by omega))
      · rename_i h3
        rw [if_neg h3] at hb'
        exact absurd ⟨rfl, rfl⟩ hb'
    · rename_i h2
      rw [if_neg h2] at hb' hw
      split
      · rename_i h4
        rw [if_pos h4] at hb' hw
        split
        · rename_i h3
          rw [if_pos h3] at hb' hw
          have hw : pos + 3 ≤ s.size := hw
          have hv := valid_of (c := b0 % 16 * 4096 + b1 % 64 * 64 + b2 % 64) (by omega)
          refine ⟨hv, ?_⟩
          show Utf8.encode ((b0 % 16 * 4096 + b1 % 64 * 64 + b2 % 64 : Nat) : Int) = s.extract pos (pos + 3)
          rw [enc3 hv (by omega) (by omega)]
          refine ext_get! (hz 3 hw).symm fun k hk => ?_
          have hk' : k < 3 := hk
          rw [hg 3 k hw hk']
          match k, hk' with
          | 0, _ => exact u8_of (e0.trans (by omega))
          | 1, _ => exact u8_of (e1.trans (by omega))
          | 2, _ => exact u8_of (e2.trans (by omega))
        · rename_i h3
          rw [if_neg h3] at hb'
          exact absurd ⟨rfl, rfl⟩ hb'
      · rename_i h4
        rw [if_neg h4] at hb' hw
        split
        · rename_i h5
          rw [if_pos h5] at hb' hw
          split
          · rename_i h3
            rw [if_pos h3] at hb' hw
            have hw : pos + 4 ≤ s.size := hw
            have hv := valid_of (c := b0 % 8 * 262144 + b1 % 64 * 4096 + b2 % 64 * 64 + b3 % 64) (by omega)
            refine ⟨hv, ?_⟩
            show Utf8.encode ((b0 % 8 * 262144 + b1 % 64 * 4096 + b2 % 64 * 64 + b3 % 64 : Nat) : Int) = s.extract pos (pos + 4)
            rw [enc4 hv (by omega)]
            refine ext_get! (hz 4 hw).symm fun k hk => ?_
            have hk' : k < 4 := hk
            rw [hg 4 k hw hk']
            match k, hk' with
            | 0, _ => exact u8_of (e0.trans (by omega))
            | 1, _ => exact u8_of (e1.trans (by omega))
            | 2, _ => exact u8_of (e2.trans (by omega))
            | 3, _ => exact u8_of (e3.trans (by omega))
          · rename_i h3
            rw [if_neg h3] at hb'
            exact absurd ⟨rfl, rfl⟩ hb'
        · rename_i h5
          rw [if_neg h5] at hb'
          exact absurd ⟨rfl, rfl⟩ hb'

/-- a row of letters of an alphabet -/
def InA (A : Alpha) (l : List Int) : Prop := ∀ r ∈ l, 0 ≤ findLetter A r
theorem letter_ok {A : Alpha} (hA : A.Ok) {r : Int} (h : 0 ≤ findLetter A r) : runeOk r = true := by
  obtain ⟨i, _, hi, he, _⟩ := findLetter_some h
  rw [← he]; exact (hA.2.2.2.2 i hi).1
theorem runeOk_facts {r : Int} (h : runeOk r = true) : 0 ≤ r ∧ r ≤ 1114111 ∧ r ≠ 65533 ∧ Utf8.valid r = true := by
  unfold runeOk at h
  have := of_decide_eq_true h
  refine ⟨by omega, by omega, by omega, ?_⟩
  rw [validRune_eq]; unfold validRune
  exact decide_eq_true (by omega)

theorem rb_mid (p q : ByteArray) (_l : List Int) (r : Int) (hr : runeOk r = true) (s : ByteArray) (hs : s = p ++ (Utf8.encode r ++ q)) : Utf8.decode s p.size = (r.toNat, (Utf8.encode r).size) ∧ p.size + (Utf8.encode r).size ≤ s.size := by
  obtain ⟨h1, h2, h3, hv⟩ := runeOk_facts hr
  obtain ⟨c, rfl⟩ : ∃ c : Nat, r = c := ⟨r.toNat, by omega⟩
  have hz : p.size + (Utf8.encode (c : Int)).size ≤ s.size := by rw [hs, ByteArray.size_append, ByteArray.size_append]; omega
  refine ⟨dec_enc c hv s p.size hz fun k hk => ?_, hz⟩
  rw [hs, get!_append_right, get!_append_left _ _ _ hk]
theorem enc_size_pos {r : Int} (hr : runeOk r = true) : 1 ≤ (Utf8.encode r).size := by
  have h := (rb_mid ByteArray.empty ByteArray.empty [] r hr _ rfl)
  have hw := h.2
  obtain ⟨h1, h2, h3, hv⟩ := runeOk_facts hr
  obtain ⟨c, rfl⟩ : ∃ c : Nat, r = c := ⟨r.toNat, by omega⟩
  by_cases c1 : c < 128
  · rw [enc1 hv c1]; exact Nat.le_refl 1
  · by_cases c2 : c < 2048
    · rw [enc2 hv (by omega) c2]; show 1 ≤ 2; omega
    · by_cases c3 : c < 65536
      · rw [enc3 hv (by omega) c3]; show 1 ≤ 3; omega
      · rw [enc4 hv (by omega)]; show 1 ≤ 4; omega

/-- what letters' text is spelled as -/
theorem spellFrom_rb {A : Alpha} (hA : A.Ok) : ∀ (l : List Int) (p : ByteArray) (acc : List Int) (s : ByteArray) (f : Nat), InA A l → s = p ++ runesBytes l → s.size ≤ p.size + f → acc.length + l.length ≤ 64 → spellFrom A s f p.size acc = (acc ++ l, 0)
  | [], p, acc, s, f, hl, hs, hf, hn => by
    rw [spellFrom_end _ _ _ _ _ (by rw [hs, ByteArray.size_append, rb_nil]; simp), List.append_nil]
  | r :: l, p, acc, s, f, hl, hs, hf, hn => by
    have hr := hl r (List.mem_cons_self ..)
    have hok := letter_ok hA hr
    obtain ⟨h1, h2, h3, hv⟩ := runeOk_facts hok
    rw [rb_cons] at hs
    obtain ⟨hd, hz⟩ := rb_mid p (runesBytes l) l r hok s hs
    have hsz := enc_size_pos hok
    have hra : runeAt s p.size = r := by unfold runeAt; rw [hd]; show ((r.toNat : Nat) : Int) = r; omega
    obtain ⟨f, rfl⟩ : ∃ g, f = g + 1 := ⟨f - 1, by omega⟩
    have hbad : badAt s p.size = false := by
      unfold badAt; rw [hd]
      have : (r.toNat == 65533) = false := by rw [beq_eq_false_iff_ne]; omega
      rw [this]; rfl
    rw [List.length_cons] at hn
    rw [spellFrom_step A s f p.size acc (by omega) hbad (by rw [hra]; omega) (by omega), hra, hd]
    have hsz2 : (p ++ Utf8.encode r).size = p.size + (Utf8.encode r).size := ByteArray.size_append ..
    have := spellFrom_rb hA l (p ++ Utf8.encode r) (acc ++ [r]) s f (fun x hx => hl x (List.mem_cons_of_mem _ hx)) (by rw [hs, ByteArray.append_assoc]) (by omega) (by simp; omega)
    rw [hsz2] at this
    show spellFrom A s f (p.size + (Utf8.encode r).size) _ = _
    rw [this]; simp
theorem spell_rb {A : Alpha} (hA : A.Ok) {l : List Int} (hl : InA A l) (hn : l.length ≤ 64) : spell A (runesBytes l) = (l, 0) := by
  unfold spell
  rw [if_pos hA]
  have := spellFrom_rb hA l ByteArray.empty [] (runesBytes l) (runesBytes l).size hl (by simp) (by omega) (by simpa using hn)
  simpa using this

theorem spellFrom_back (A : Alpha) (s : ByteArray) : ∀ (f pos : Nat) (acc : List Int), s.size ≤ pos + f → pos ≤ s.size → acc.length ≤ 64 → (spellFrom A s f pos acc).2 = 0 → ∃ l, (spellFrom A s f pos acc).1 = acc ++ l ∧ runesBytes l = s.extract pos s.size ∧ InA A l ∧ (acc ++ l).length ≤ 64
  | 0, pos, acc, hf, hp, hl, _ => ⟨[], by simp [spellFrom], by
      rw [rb_nil]
      have : pos = s.size := by omega
      subst this
      exact ext_get! (by rw [ByteArray.size_extract]; simp) (fun k hk => absurd hk (by simp)), fun r hr => by simp at hr, by simpa using hl⟩
  | f + 1, pos, acc, hf, hp, hl, h0 => by
    by_cases hlt : pos < s.size
    · cases hb : badAt s pos
      · by_cases hn : findLetter A (runeAt s pos) < 0
        · rw [spellFrom_none A s f pos acc hlt hb hn] at h0; cases h0
        · by_cases h64 : acc.length = 64
          · rw [spellFrom_many A s f pos acc hlt hb hn h64] at h0; cases h0
          · have hw := width_pos s pos hlt
            have hw2 := width_le s pos hlt
            rw [spellFrom_step A s f pos acc hlt hb hn h64] at h0 ⊢
            obtain ⟨l, h1, h2, h3, h4⟩ := spellFrom_back A s f _ _ (by omega) hw2 (by simp; omega) h0
            refine ⟨runeAt s pos :: l, by rw [h1]; simp, ?_, ?_, by simpa using h4⟩
            · rw [rb_cons, h2, (enc_dec s pos hlt hb).2]
              rw [ByteArray.extract_append_extract]; congr 1 <;> omega
            · intro r hr
              rcases List.mem_cons.1 hr with rfl | hr
              · omega
              · exact h3 r hr
      · rw [spellFrom_bad A s f pos acc hlt hb] at h0; cases h0
    · rw [spellFrom_end A s _ pos acc hlt]
      refine ⟨[], by simp, ?_, fun r hr => by simp at hr, by simpa using hl⟩
      rw [rb_nil]
      exact ext_get! (by rw [ByteArray.size_extract]; simp; omega) (fun k hk => absurd hk (by simp))
/-- of a word: what its letters are -/
theorem spell_ok {A : Alpha} {s : ByteArray} (h : (spell A s).2 = 0) : A.Ok ∧ runesBytes (spell A s).1 = s ∧ InA A (spell A s).1 ∧ (spell A s).1.length ≤ 64 := by
  unfold spell at h ⊢
  by_cases hA : A.Ok
  · rw [if_pos hA] at h ⊢
    obtain ⟨l, h1, h2, h3, h4⟩ := spellFrom_back A s s.size 0 [] (by omega) (by omega) (by simp) h
    rw [List.nil_append] at h1 h4
    rw [h1]
    refine ⟨hA, ?_, h3, h4⟩
    rw [h2, ByteArray.extract_zero_size]
  · rw [if_neg hA] at h; cases h
theorem spellFrom_err (A : Alpha) (s : ByteArray) : ∀ (f pos : Nat) (acc : List Int), (spellFrom A s f pos acc).2 ≠ 0 → (spellFrom A s f pos acc).1 = []
  | 0, pos, acc, h => absurd rfl h
  | f + 1, pos, acc, h => by
    by_cases hlt : pos < s.size
    · cases hb : badAt s pos
      · by_cases hn : findLetter A (runeAt s pos) < 0
        · rw [spellFrom_none A s f pos acc hlt hb hn]
        · by_cases h64 : acc.length = 64
          · rw [spellFrom_many A s f pos acc hlt hb hn h64]
          · rw [spellFrom_step A s f pos acc hlt hb hn h64] at h ⊢
            exact spellFrom_err A s f _ _ h
      · rw [spellFrom_bad A s f pos acc hlt hb]
    · rw [spellFrom_end A s _ pos acc hlt] at h; exact absurd rfl h
theorem spell_err {A : Alpha} {s : ByteArray} (h : (spell A s).2 ≠ 0) : (spell A s).1 = [] := by
  unfold spell at h ⊢
  by_cases hA : A.Ok
  · rw [if_pos hA] at h ⊢; exact spellFrom_err A s _ _ _ h
  · rw [if_neg hA]
theorem spellFrom_rune (A : Alpha) (s : ByteArray) : ∀ (f pos : Nat) (acc : List Int), (∀ r ∈ acc, 0 ≤ r ∧ r ≤ 2147483647) → acc.length ≤ 64 → (∀ r ∈ (spellFrom A s f pos acc).1, 0 ≤ r ∧ r ≤ 2147483647) ∧ (spellFrom A s f pos acc).1.length ≤ 64
  | 0, pos, acc, h, hl => ⟨h, hl⟩
  | f + 1, pos, acc, h, hl => by
    by_cases hlt : pos < s.size
    · cases hb : badAt s pos
      · by_cases hn : findLetter A (runeAt s pos) < 0
        · rw [spellFrom_none A s f pos acc hlt hb hn]; simp
        · by_cases h64 : acc.length = 64
          · rw [spellFrom_many A s f pos acc hlt hb hn h64]; simp
          · rw [spellFrom_step A s f pos acc hlt hb hn h64]
            refine spellFrom_rune A s f _ _ (fun r hr => ?_) (by simp; omega)
            rcases List.mem_append.1 hr with hr | hr
            · exact h r hr
            · rw [List.mem_singleton.1 hr]; exact runeAt_range s pos
      · rw [spellFrom_bad A s f pos acc hlt hb]; simp
    · rw [spellFrom_end A s _ pos acc hlt]; exact ⟨h, hl⟩

/-- letters' texts tell the letters -/
theorem rb_inj : ∀ (a b : List Int), (∀ r ∈ a, runeOk r = true) → (∀ r ∈ b, runeOk r = true) → runesBytes a = runesBytes b → a = b
  | [], [], _, _, _ => rfl
  | [], r :: b, _, hb, h => by
    have := enc_size_pos (hb r (List.mem_cons_self ..))
    have h2 := congrArg ByteArray.size h
    rw [rb_nil, rb_cons, ByteArray.size_append] at h2
    have h3 : ByteArray.empty.size = 0 := rfl
    omega
  | r :: a, [], ha, _, h => by
    have := enc_size_pos (ha r (List.mem_cons_self ..))
    have h2 := congrArg ByteArray.size h
    rw [rb_nil, rb_cons, ByteArray.size_append] at h2
    have h3 : ByteArray.empty.size = 0 := rfl
    omega
  | x :: a, y :: b, ha, hb, h => by
    have hx := ha x (List.mem_cons_self ..)
    have hy := hb y (List.mem_cons_self ..)
    rw [rb_cons, rb_cons] at h
    have d1 := (rb_mid ByteArray.empty (runesBytes a) [] x hx _ (by rw [ByteArray.empty_append])).1
    have d2 := (rb_mid ByteArray.empty (runesBytes b) [] y hy _ (by rw [ByteArray.empty_append])).1
    rw [h, d2] at d1
    have e : x = y := by
      have := congrArg Prod.fst d1
      have f1 := runeOk_facts hx
      have f2 := runeOk_facts hy
      simp at this; omega
    subst e
    have h3 : runesBytes a = runesBytes b := by
      have h4 := congrArg ByteArray.size h
      rw [ByteArray.size_append, ByteArray.size_append] at h4
      refine ext_get! (by omega) fun k hk => ?_
      have := congrArg (fun z => ByteArray.get! z ((Utf8.encode x).size + k)) h
      rwa [get!_append_right, get!_append_right] at this
    rw [rb_inj a b (fun r hr => ha r (List.mem_cons_of_mem _ hr)) (fun r hr => hb r (List.mem_cons_of_mem _ hr)) h3]
theorem rb_inj_in {A : Alpha} (hA : A.Ok) {a b : List Int} (ha : InA A a) (hb : InA A b) : runesBytes a = runesBytes b ↔ a = b :=
  ⟨rb_inj a b (fun r hr => letter_ok hA (ha r hr)) (fun r hr => letter_ok hA (hb r hr)), fun h => by rw [h]⟩
end Go.Cg
