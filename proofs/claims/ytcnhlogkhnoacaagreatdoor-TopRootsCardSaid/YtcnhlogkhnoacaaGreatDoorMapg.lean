/- A map that the call itself makes, elements of whatever type (read by a plain reader R), told by a function from keys. -/
import Derived.Test.YtcnhlogkhnoacaaGreatDoorMapb
namespace Go.Cg
open Go.RowKit Go.Maps Go.ChangeMaps Go.MapKept

/-- Block b of w is a map of at most n entries that holds just what f says. -/
def MapG (P : Program) (w : World) (K : TypeId) (R : Value → Option (DataW Unit × List MemPlace)) (b n : Nat) (f : Lit → Option (DataW Unit)) : Prop :=
  ∃ D : DataW Unit, w.ownsMap P K R b n D ∧ ∀ kl, WideAt.IsKeyLit kl → has D kl = (f kl).isSome ∧ ∀ z, D.atKey kl z = (f kl).getD z
variable {P : Program} {w : World} {K E t : TypeId} {R : Value → Option (DataW Unit × List MemPlace)} {b n : Nat} {f : Lit → Option (DataW Unit)}
theorem MapG.made (P : Program) (w : World) (K : TypeId) (R : Value → Option (DataW Unit × List MemPlace)) : MapG P (w.alloc (.map #[] 0)) K R w.heap.size 0 (fun _ => none) :=
  ⟨.map [], World.ownsMap_made w P K _, fun _ _ => ⟨rfl, fun _ => rfl⟩⟩
theorem MapG.lt (h : MapG P w K R b n f) : b < w.heap.size := by
  obtain ⟨D, hD, _⟩ := h; exact hD.lt
theorem MapG.ext {w' : World} (h : MapG P w K R b n f) (hx : Ext w w') : MapG P w' K R b n f := by
  obtain ⟨D, hD, hf⟩ := h
  refine ⟨D, ?_, hf⟩
  obtain ⟨es, clock, hb, r⟩ := hD
  exact ⟨es, clock, (Below.block hx b (Array.getElem?_eq_some_iff.1 hb).1).trans hb, r⟩
theorem MapG.mono {m : Nat} (h : MapG P w K R b n f) (hn : n ≤ m) : MapG P w K R b m f := by
  obtain ⟨D, hD, hf⟩ := h; exact ⟨D, hD.mono hn, hf⟩
/-- kept where another block is written -/
theorem MapG.kept {w' : World} {row : Option Nat} (h : MapG P w K R b n f) (hg : w.grownBy w' row) (hne : some b ≠ row) : MapG P w' K R b n f := by
  obtain ⟨D, hD, hf⟩ := h
  refine ⟨D, ?_, hf⟩
  obtain ⟨es, clock, hb, r⟩ := hD
  exact ⟨es, clock, (hg.block b (Array.getElem?_eq_some_iff.1 hb).1 hne).trans hb, r⟩
/-- 'm[k]' -/
theorem MapG.look (h : MapG P w K R b n f) (hK : Keyed P K) (ht : P.underlying t = some (.map K E)) {z : Value} (hz : (zeroValue E).run P w = .ok z w) {zd : DataW Unit} {zp : List MemPlace} (hzd : R z = some (zd, zp))
    {key : Value} {kl : Lit} (hkey : keyOf P K key = some kl) : ∃ v ps, (Instr.lookup t (.map (some b)) key false).run P w = .ok v w ∧ R v = some ((f kl).getD zd, ps) := by
  obtain ⟨D, hD, hf⟩ := h
  obtain ⟨v, ps, hrun, hv⟩ := hD.lookup (P := P) hK ht hz hzd hkey
  rw [(hf kl (hK.key hkey)).2] at hv
  exact ⟨v, ps, hrun, hv⟩
/-- 'v, ok := m[k]' -/
theorem MapG.look_ok (h : MapG P w K R b n f) (hK : Keyed P K) (ht : P.underlying t = some (.map K E)) {z : Value} (hz : (zeroValue E).run P w = .ok z w) {zd : DataW Unit} {zp : List MemPlace} (hzd : R z = some (zd, zp))
    {key : Value} {kl : Lit} (hkey : keyOf P K key = some kl) : ∃ v ps, (Instr.lookup t (.map (some b)) key true).run P w = .ok (.tuple #[v, .bool (f kl).isSome]) w ∧ R v = some ((f kl).getD zd, ps) := by
  obtain ⟨D, hD, hf⟩ := h
  obtain ⟨v, ps, hrun, hv⟩ := hD.look_ok (P := P) hK ht hz hzd hkey
  rw [(hf kl (hK.key hkey)).2] at hv
  rw [(hf kl (hK.key hkey)).1] at hrun
  exact ⟨v, ps, hrun, hv⟩
/-- f with one key more -/
def putG (f : Lit → Option (DataW Unit)) (kl : Lit) (v : DataW Unit) : Lit → Option (DataW Unit) := fun k => if k.sameKey kl then some v else f k
/-- 'm[k] = v' -/
theorem MapG.store (h : MapG P w K R b n f) (hK : Keyed P K) (ht : P.underlying t = some (.map K E)) (hn : n < maxLen) {key val : Value} {kl : Lit} {d : DataW Unit} {ps : List MemPlace} (hkey : keyOf P K key = some kl) (hv : R val = some (d, ps)) :
    ∃ w', (Instr.mapUpdate t (.map (some b)) key val).run P w = .ok () w' ∧ MapG P w' K R b (n + 1) (putG f kl d) ∧ w.grownBy w' (some b) ∧ w'.heap.size = w.heap.size := by
  obtain ⟨D, hD, hf⟩ := h
  obtain ⟨w', hrun, hown, hturn⟩ := hD.store hK ht hn hkey hv
  have hm := hD.isMap
  refine ⟨w', hrun, ⟨_, hown, fun k hk => ?_⟩, hturn.grown, ?_⟩
  · unfold putG
    by_cases e : k = kl
    · subst e
      rw [if_pos (WideAt.sameKey_self hk)]
      exact ⟨has_put_same hm hk _, fun z => atKey_put_same hm hk _ _⟩
    · rw [if_neg (fun hs => e (WideAt.sameKey_eq hs)), has_put_other e]
      exact ⟨(hf k hk).1, fun z => by rw [atKey_put_other e]; exact (hf k hk).2 z⟩
  · obtain ⟨es, clock, es', clock', hb, rfl⟩ := hturn
    simp [setBlock]
/-- 'm[k] = v' at the operation, for the walk. -/
theorem wpList_mapUpdate_g {P : Program} (w : World) {ops : Array Oper} {rest : List Oper} {o : Oper} {a : Act} {Q : Exit → Act → World → Prop}
    (hg : o.guard = none) (m x v : Operand) (t : TypeId) (hop : o.op = Op.mapUpdate t m x v)
    (K E : TypeId) (R : Value → Option (DataW Unit × List MemPlace)) (b n : Nat) (f : Lit → Option (DataW Unit)) (h : MapG P w K R b n f) (hK : Keyed P K) (ht : P.underlying t = some (.map K E)) (hn : n < maxLen)
    (hm : a.eval m = .map (some b)) (key val : Value) (kl : Lit) (d : DataW Unit) (ps : List MemPlace) (hx : a.eval x = key) (hv : a.eval v = val) (hkey : keyOf P K key = some kl) (hval : R val = some (d, ps))
    (hC : ∀ w', MapG P w' K R b (n + 1) (putG f kl d) → w.grownBy w' (some b) → w'.heap.size = w.heap.size → wpList P ops Q rest (a.put o.dst undef) w') :
    wpList P ops Q (o :: rest) a w := by
  refine wpList_plain hg fun K' hK' => ?_
  obtain ⟨w', hrun, r1, r2, r3⟩ := h.store hK ht hn hkey hval
  unfold Oper.wp
  simp [execOp, hop, hm, hx, hv, hrun, Result.andThen]
  exact hK' _ _ (hC w' r1 r2 r3)
end Go.Cg
