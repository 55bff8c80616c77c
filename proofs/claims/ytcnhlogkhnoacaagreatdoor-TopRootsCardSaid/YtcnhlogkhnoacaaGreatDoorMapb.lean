/- A map of plain elements that the call itself makes, told by a plain function from keys to elements: made, looked up, stored into. -/
import Derived.Test.YtcnhlogkhnoacaaGreatDoorBase
namespace Go.Cg
open Go.RowKit Go.Maps Go.ChangeMaps Go.MapKept

/-- Block b of w is a map of at most n entries that holds just what f says. -/
def MapFn (P : Program) (w : World) (K E : TypeId) (b n : Nat) (f : Lit → Option Lit) : Prop :=
  ∃ D : DataW Unit, w.ownsMap P K (plainElem P E) b n D ∧ ∀ kl, WideAt.IsKeyLit kl → has D kl = (f kl).isSome ∧ ∀ z, D.atKey kl (.lit z) = .lit ((f kl).getD z)

theorem MapFn.made (P : Program) (w : World) (K E : TypeId) : MapFn P (w.alloc (.map #[] 0)) K E w.heap.size 0 (fun _ => none) :=
  ⟨.map [], World.ownsMap_made w P K _, fun _ _ => ⟨rfl, fun _ => rfl⟩⟩

theorem MapFn.lt {P : Program} {w : World} {K E : TypeId} {b n : Nat} {f : Lit → Option Lit} (h : MapFn P w K E b n f) : b < w.heap.size := by
  obtain ⟨D, hD, _⟩ := h; exact hD.lt

theorem MapFn.ext {P : Program} {w w' : World} {K E : TypeId} {b n : Nat} {f : Lit → Option Lit} (h : MapFn P w K E b n f) (hx : Ext w w') : MapFn P w' K E b n f := by
  obtain ⟨D, hD, hf⟩ := h
  refine ⟨D, ?_, hf⟩
  obtain ⟨es, clock, hb, r⟩ := hD
  exact ⟨es, clock, (Below.block hx b (Array.getElem?_eq_some_iff.1 hb).1).trans hb, r⟩

theorem MapFn.mono {P : Program} {w : World} {K E : TypeId} {b n m : Nat} {f : Lit → Option Lit} (h : MapFn P w K E b n f) (hn : n ≤ m) : MapFn P w K E b m f := by
  obtain ⟨D, hD, hf⟩ := h; exact ⟨D, hD.mono hn, hf⟩

theorem zero_bool {P : Program} {e : TypeId} (h : (P.info? e).map (·.zero) = some (some (.bool false))) (w : World) : (zeroValue e).run P w = .ok (.bool false) w := by
  cases hi : P.info? e with
  | none => rw [hi] at h; cases h
  | some i =>
    rw [hi] at h
    simp only [Option.map_some, Option.some.injEq] at h
    simp [zeroValue, typeInfo, hi, h]
theorem zero_int {P : Program} {e : TypeId} {k : IntKind} (h : (P.info? e).map (·.zero) = some (some (.int k 0))) (w : World) : (zeroValue e).run P w = .ok (.int k 0) w := by
  cases hi : P.info? e with
  | none => rw [hi] at h; cases h
  | some i =>
    rw [hi] at h
    simp only [Option.map_some, Option.some.injEq] at h
    simp [zeroValue, typeInfo, hi, h]

section
variable {P : Program} {w : World} {K E t : TypeId} {b n : Nat} {f : Lit → Option Lit}

/-- 'm[k]', elements bools -/
theorem MapFn.look_bool (h : MapFn P w K E b n f) (hK : Keyed P K) (ht : P.underlying t = some (.map K E)) (he : P.underlying E = some .bool) (hz : (P.info? E).map (·.zero) = some (some (.bool false)))
    {key : Value} {kl : Lit} (hkey : keyOf P K key = some kl) {x : Bool} (hx : (f kl).getD (.bool false) = .bool x) :
    (Instr.lookup t (.map (some b)) key false).run P w = .ok (.bool x) w := by
  obtain ⟨D, hD, hf⟩ := h
  obtain ⟨v, ps, hrun, hv⟩ := hD.lookup (P := P) hK ht (zero_bool hz w) (plainElem_bool he false) hkey
  rw [(hf kl (hK.key hkey)).2, hx] at hv
  have : v = .bool x := by
    unfold plainElem at hv; rw [he] at hv
    cases v <;> simp at hv
    exact congrArg Value.bool hv.1
  rw [hrun, this]

/-- 'm[k]', elements integers -/
theorem MapFn.look_int {q : IntKind} (h : MapFn P w K E b n f) (hK : Keyed P K) (ht : P.underlying t = some (.map K E)) (he : P.underlying E = some (.int q)) (hz : (P.info? E).map (·.zero) = some (some (.int q 0)))
    {key : Value} {kl : Lit} (hkey : keyOf P K key = some kl) {x : Int} (hx : (f kl).getD (.int q 0) = .int q x) :
    (Instr.lookup t (.map (some b)) key false).run P w = .ok (.int q x) w := by
  obtain ⟨D, hD, hf⟩ := h
  obtain ⟨v, ps, hrun, hv⟩ := hD.lookup (P := P) hK ht (zero_int hz w) (plainElem_int he (by cases q <;> decide)) hkey
  rw [(hf kl (hK.key hkey)).2, hx] at hv
  obtain ⟨c, rfl, hc, _⟩ := plainElem_int_inv he hv
  simp only [Prod.mk.injEq, DataW.lit.injEq, Lit.int.injEq, true_and] at hc
  rw [hrun, ← hc.1]

/-- 'v, ok := m[k]', elements integers -/
theorem MapFn.look_int_ok {q : IntKind} (h : MapFn P w K E b n f) (hK : Keyed P K) (ht : P.underlying t = some (.map K E)) (he : P.underlying E = some (.int q)) (hz : (P.info? E).map (·.zero) = some (some (.int q 0)))
    {key : Value} {kl : Lit} (hkey : keyOf P K key = some kl) {x : Int} (hx : (f kl).getD (.int q 0) = .int q x) :
    (Instr.lookup t (.map (some b)) key true).run P w = .ok (.tuple #[.int q x, .bool (f kl).isSome]) w := by
  obtain ⟨D, hD, hf⟩ := h
  obtain ⟨v, ps, hrun, hv⟩ := hD.look_ok (P := P) hK ht (zero_int hz w) (plainElem_int he (by cases q <;> decide)) hkey
  rw [(hf kl (hK.key hkey)).2, hx] at hv
  obtain ⟨c, rfl, hc, _⟩ := plainElem_int_inv he hv
  simp only [Prod.mk.injEq, DataW.lit.injEq, Lit.int.injEq, true_and] at hc
  rw [hrun, ← hc.1, (hf kl (hK.key hkey)).1]

/-- 'v, ok := m[k]', elements bools -/
theorem MapFn.look_bool_ok (h : MapFn P w K E b n f) (hK : Keyed P K) (ht : P.underlying t = some (.map K E)) (he : P.underlying E = some .bool) (hz : (P.info? E).map (·.zero) = some (some (.bool false)))
    {key : Value} {kl : Lit} (hkey : keyOf P K key = some kl) {x : Bool} (hx : (f kl).getD (.bool false) = .bool x) :
    (Instr.lookup t (.map (some b)) key true).run P w = .ok (.tuple #[.bool x, .bool (f kl).isSome]) w := by
  obtain ⟨D, hD, hf⟩ := h
  obtain ⟨v, ps, hrun, hv⟩ := hD.look_ok (P := P) hK ht (zero_bool hz w) (plainElem_bool he false) hkey
  rw [(hf kl (hK.key hkey)).2, hx] at hv
  have : v = .bool x := by
    unfold plainElem at hv; rw [he] at hv
    cases v <;> simp at hv
    exact congrArg Value.bool hv.1
  rw [hrun, this, (hf kl (hK.key hkey)).1]

/-- f with one key more -/
def putFn (f : Lit → Option Lit) (kl v : Lit) : Lit → Option Lit := fun k => if k.sameKey kl then some v else f k

/-- 'm[k] = v' -/
theorem MapFn.store (h : MapFn P w K E b n f) (hK : Keyed P K) (ht : P.underlying t = some (.map K E)) (hn : n < maxLen) {key val : Value} {kl vl : Lit} (hkey : keyOf P K key = some kl) (hv : plainElem (H := Unit) P E val = some (.lit vl, [])) :
    ∃ w', (Instr.mapUpdate t (.map (some b)) key val).run P w = .ok () w' ∧ MapFn P w' K E b (n + 1) (putFn f kl vl) ∧ w.grownBy w' (some b) ∧ w'.heap.size = w.heap.size := by
  obtain ⟨D, hD, hf⟩ := h
  obtain ⟨w', hrun, hown, hturn⟩ := hD.store hK ht hn hkey hv
  have hm := hD.isMap
  refine ⟨w', hrun, ⟨_, hown, fun k hk => ?_⟩, hturn.grown, ?_⟩
  · unfold putFn
    by_cases e : k = kl
    · subst e
      rw [if_pos (WideAt.sameKey_self hk)]
      exact ⟨has_put_same hm hk _, fun z => atKey_put_same hm hk _ _⟩
    · rw [if_neg (fun hs => e (WideAt.sameKey_eq hs)), has_put_other e]
      exact ⟨(hf k hk).1, fun z => by rw [atKey_put_other e]; exact (hf k hk).2 z⟩
  · obtain ⟨es, clock, es', clock', hb, rfl⟩ := hturn
    simp [setBlock]
end

/-- 'm[k] = v' at the operation, for the walk. -/
theorem wpList_mapUpdate_fn {P : Program} (w : World) {ops : Array Oper} {rest : List Oper} {o : Oper} {a : Act} {Q : Exit → Act → World → Prop}
    (hg : o.guard = none) (m x v : Operand) (t : TypeId) (hop : o.op = Op.mapUpdate t m x v)
    (K E : TypeId) (b n : Nat) (f : Lit → Option Lit) (h : MapFn P w K E b n f) (hK : Keyed P K) (ht : P.underlying t = some (.map K E)) (hn : n < maxLen)
    (hm : a.eval m = .map (some b)) (key val : Value) (kl vl : Lit) (hx : a.eval x = key) (hv : a.eval v = val) (hkey : keyOf P K key = some kl) (hval : plainElem (H := Unit) P E val = some (.lit vl, []))
    (hC : ∀ w', MapFn P w' K E b (n + 1) (putFn f kl vl) → w.grownBy w' (some b) → w'.heap.size = w.heap.size → wpList P ops Q rest (a.put o.dst undef) w') :
    wpList P ops Q (o :: rest) a w := by
  refine wpList_plain hg fun K' hK' => ?_
  obtain ⟨w', hrun, r1, r2, r3⟩ := h.store hK ht hn hkey hval
  unfold Oper.wp
  simp [execOp, hop, hm, hx, hv, hrun, Result.andThen]
  exact hK' _ _ (hC w' r1 r2 r3)

/-- behind a store into a map of the call's own: what lay below is as it was -/
theorem Ext.grown {a w w' : World} {row : Option Nat} (h : Ext a w) (hg : w.grownBy w' row) (hr : ∀ k, row = some k → a.heap.size ≤ k) : Ext a w' :=
  Below.grown h hg (Below.size h) hr

end Go.Cg
