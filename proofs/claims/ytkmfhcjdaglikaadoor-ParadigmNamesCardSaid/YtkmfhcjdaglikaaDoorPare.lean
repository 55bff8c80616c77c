/- Contracts: '[]rune(text)' of any text, word.Check; what made gives. -/
import Derived.Test.YtkmfhcjdaglikaaDoorParb
import Derived.Test.YtkmfhcjdaglikaaDoorRadh
import Derived.Deep.CutRange
import Derived.Laws.IdiomStrings
namespace Go.Cg
open Go.RowKit Go.Lib
/-- the runes of a text -/
def runesOf (s : ByteArray) : Nat → Nat → List Int
  | 0, _ => []
  | f + 1, pos => if pos < s.size then runeAt s pos :: runesOf s f (pos + (Utf8.decode s pos).2) else []
theorem runesOf_conv (s : ByteArray) : ∀ (f pos : Nat) (v : Array Value), Conv.runesFrom s f pos v = v ++ ((runesOf s f pos).map (Value.int .i32)).toArray
  | 0, pos, v => by simp [runesOf, Conv.runesFrom]
  | f + 1, pos, v => by
    rw [Conv.runesFrom, runesOf]
    by_cases h : pos < s.size
    · rw [if_pos h, if_pos h]
      have e : Conv.runesFrom s f (pos + (Utf8.decode s pos).2) (v.push (.int .i32 (Int.ofNat (Utf8.decode s pos).1))) = _ := runesOf_conv s f _ _
      show Conv.runesFrom s f (pos + (Utf8.decode s pos).2) (v.push (.int .i32 (Int.ofNat (Utf8.decode s pos).1))) = _
      rw [e]
      show v.push (.int .i32 (runeAt s pos)) ++ _ = _
      simp
    · rw [if_neg h, if_neg h]; simp
theorem runesOf_len (s : ByteArray) : ∀ (f pos : Nat), (runesOf s f pos).length ≤ f
  | 0, _ => Nat.le_refl _
  | f + 1, pos => by
    have := runesOf_len s f (pos + (Utf8.decode s pos).2)
    rw [runesOf]; split
    · rw [List.length_cons]; omega
    · exact Nat.zero_le _
theorem runesOf_wf (s : ByteArray) : ∀ (f pos : Nat), ∀ r ∈ runesOf s f pos, 0 ≤ r ∧ r ≤ 2147483647
  | 0, _, r, hr => by cases hr
  | f + 1, pos, r, hr => by
    rw [runesOf] at hr; split at hr
    · rcases List.mem_cons.1 hr with rfl | hr
      · exact runeAt_range s pos
      · exact runesOf_wf s f _ r hr
    · cases hr
def strR (s : ByteArray) : List Int := runesOf s s.size 0
theorem strR_conv (s : ByteArray) : Conv.runesFrom s s.size 0 #[] = ((strR s).map (Value.int .i32)).toArray := by
  rw [runesOf_conv]; simp [strR]
theorem strR_len (s : ByteArray) : (strR s).length ≤ s.size := runesOf_len s _ _
theorem strR_zero {s : ByteArray} : (strR s).length = 0 ↔ s.size = 0 := by
  constructor
  · intro h
    rcases Nat.eq_zero_or_pos s.size with e | e
    · exact e
    · exfalso
      obtain ⟨f, hf⟩ : ∃ f, s.size = f + 1 := ⟨s.size - 1, by omega⟩
      unfold strR at h
      rw [hf, runesOf, if_pos (by omega)] at h
      cases h
  · intro h; have := strR_len s; omega
theorem map_int_inj : ∀ {a b : List Int}, a.map (Value.int .i32) = b.map (Value.int .i32) → a = b
  | [], [], _ => rfl
  | x :: a, y :: b, h => by
    simp only [List.map_cons, List.cons.injEq, Value.int.injEq, true_and] at h
    rw [h.1, map_int_inj h.2]
theorem strR_of {s : ByteArray} {l : List Int} (h : Conv.runesFrom s s.size 0 #[] = (l.map (Value.int .i32)).toArray) : strR s = l := by
  rw [strR_conv] at h
  exact map_int_inj (by simpa using congrArg Array.toList h)
theorem spellFrom_runes (A : Alpha) (s : ByteArray) : ∀ (f pos : Nat) (acc : List Int), s.size ≤ pos + f → acc.length ≤ 64 → (spellFrom A s f pos acc).2 = 0 → (spellFrom A s f pos acc).1 = acc ++ runesOf s f pos
  | 0, pos, acc, _, _, _ => by simp [spellFrom, runesOf]
  | f + 1, pos, acc, hf, hl, h0 => by
    rw [runesOf]
    by_cases hlt : pos < s.size
    · rw [if_pos hlt]
      cases hb : badAt s pos
      · by_cases hn : findLetter A (runeAt s pos) < 0
        · rw [spellFrom_none A s f pos acc hlt hb hn] at h0; cases h0
        · by_cases h64 : acc.length = 64
          · rw [spellFrom_many A s f pos acc hlt hb hn h64] at h0; cases h0
          · have hw := width_pos s pos hlt
            rw [spellFrom_step A s f pos acc hlt hb hn h64] at h0 ⊢
            rw [spellFrom_runes A s f _ _ (by omega) (by simp; omega) h0]; simp
      · rw [spellFrom_bad A s f pos acc hlt hb] at h0; cases h0
    · rw [if_neg hlt, spellFrom_end A s _ pos acc hlt]; simp
theorem strR_word {A : Alpha} {s : ByteArray} (h : (spell A s).2 = 0) : strR s = (spell A s).1 := by
  have hA := (spell_ok h).1
  unfold spell at h ⊢
  rw [if_pos hA] at h ⊢
  have := spellFrom_runes A s s.size 0 [] (by omega) (by simp) h
  rw [List.nil_append] at this
  exact this.symm
theorem strR_form {A : Alpha} {s : ByteArray} (h : formB A s = true) : strR s = formL A s := strR_of (form_ok h).2.2.2
end Go.Cg
namespace Go.Proofs.YtkmfhcjdaglikaaDoor
open Go.RowKit Go.Cg Go.Shelf Go.Maps

/-- '[]rune(text)': a new row of its runes -/
theorem str_row (s : ByteArray) (hs : s.size ≤ 1048576) (W : World) : ∃ c W', (convert 9 75 (.string s)).run Tryd.prog W = .ok (.slice (some ⟨W.heap.size, 0, none⟩) (strR s).length c) W' ∧ OwnRunes 21 W.heap.size W' (some ⟨W.heap.size, 0, none⟩) c (strR s) ∧ Ext W W' := by
  have h4 := strR_conv s
  have hl := strR_len s
  have hz : (Conv.runesFrom s s.size 0 #[]).size = (strR s).length := by rw [h4]; simp
  have hrun := run_runes_of_string (P := Tryd.prog) W 9 75 21 s Tryd.underlying9 Tryd.underlying75 Tryd.underlying21 (by rw [hz]; omega)
  rw [hz] at hrun
  have hge := grownCap_ge W (strR s).length 0 21
  have hle := grownCap_le_maxLen W (strR s).length 0 21 (by unfold maxLen; omega)
  refine ⟨_, _, hrun, ⟨⟨by simp, .inr ⟨W.heap.size, _, _, rfl, Nat.le_refl _, heap_alloc_new W.drew _, hge, hle, ?_, ?_⟩⟩, by omega, ?_⟩, ((Ext.refl W).drew).alloc _⟩
  · rw [h4]; simp; omega
  · rw [h4]; simp
  · exact mem_rn (q := fun r => -2147483648 ≤ r ∧ r ≤ 2147483647) fun r hr => by have := runesOf_wf s _ _ r hr; omega
/-- '[]rune(text)' at a step -/
theorem wp_str {s : ByteArray} (hs : s.size ≤ 1048576) {o : Oper} {a : Act} {w : World} {K : Act → World → Prop} {Q : Exit → Act → World → Prop} (x : Operand) (ho : o.op = .convert 9 75 x) (hx : a.eval x = .string s)
    (hk : ∀ p c w', OwnRunes 21 w.heap.size w' p c (strR s) → Ext w w' → K (a.put o.dst (.slice p (strR s).length c)) w') : Oper.wp Tryd.prog o a w K Q := by
  obtain ⟨c, w', hrun, hof, hx5⟩ := str_row s hs w
  unfold Oper.wp
  simp [execOp, ho, hx, hrun, Result.andThen]
  exact hk _ _ _ hof hx5

set_option maxHeartbeats 400000 in
theorem wdcheck_any (fp lp : Option Addr) (fc lc : Nat) (A : Alpha) (s : ByteArray) (hs : s.size ≤ 140737488351232) (w : World) (hA : AlphaAt w fp lp A) (hT : Tabs w) :
    Calls Tryd.prog 19 #[.agg #[.slice fp A.feats.length fc, .slice lp A.lets.length lc], .string s] w fun e w' => e = .returned (.int .i64 (spell A s).2) ∧ Ext w w' := by
  have hx3 : Ext w (w.alloc (.cells #[.slice fp A.feats.length fc, .slice lp A.lets.length lc] 26)) := (Ext.refl _).alloc _
  have hcon := letters_any fp lp fc lc A s hs _ (hA.mono hx3) (hT.ext hx3)
  go_enter Tryd.func19, Tryd.ntmps19
  go_wp2_with (go_at_call 33; refine hcon.mono ?_; rintro e w1 ⟨lrp, lrc, rfl, ho, hx1⟩)
  go_ret
  exact ⟨rfl, hx3.trans hx1⟩

/-- what made gives for an affix that may be -/
def AffV (B : Nat) (w : World) (x : Aff) (v : Value) : Prop := match x.kind with
  | 1 => ∃ p c, v = .iface 96 (.agg #[.slice p (strR x.form).length c, .slice none 0 0]) ∧ OwnRunes 21 B w p c (strR x.form)
  | 2 => ∃ p c, v = .iface 96 (.agg #[.slice none 0 0, .slice p (strR x.form).length c]) ∧ OwnRunes 21 B w p c (strR x.form)
  | 3 => ∃ p c p2 c2, v = .iface 96 (.agg #[.slice p (strR x.form).length c, .slice p2 (strR x.other).length c2]) ∧ OwnRunes 21 B w p c (strR x.form) ∧ OwnRunes 21 B w p2 c2 (strR x.other)
  | 4 => ∃ p c, v = .iface 98 (.agg #[.slice p (strR x.form).length c, .int .i64 x.pos]) ∧ OwnRunes 21 B w p c (strR x.form)
  | 5 => ∃ p c, v = .iface 100 (.agg #[.slice p (strR x.form).length c]) ∧ OwnRunes 21 B w p c (strR x.form)
  | 6 => v = .iface 103 (.agg #[.int .i64 x.pos])
  | _ => True
def AffRes (B : Nat) (A : Alpha) (x : Aff) (e : Ending) (w' : World) : Prop := ∃ v, e = .returned (.tuple #[v, .bool (affB A x)]) ∧ (affB A x = true → AffV B w' x v)
end Go.Proofs.YtkmfhcjdaglikaaDoor
