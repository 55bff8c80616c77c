/- Contract of the reference's Check and asked. -/
import Derived.Test.YtkmfhcjdaglikaaDoorFeatc
import Derived.Test.YtkmfhcjdaglikaaDoorBasb
namespace Go.Proofs.YtkmfhcjdaglikaaDoor
open Go.RowKit Go.Cg Go.Shelf

/- a running '&&' over a row, one step on -/
def RunAnd (o : Bool) (P : Prop) (q : Nat → Prop) (m : Nat) : Prop := o = true ↔ P ∧ ∀ t, t < m → q t
theorem RunAnd.start {o : Bool} {P : Prop} {q : Nat → Prop} (h : o = true ↔ P) : RunAnd o P q 0 :=
  ⟨fun e => ⟨h.1 e, fun t ht => by omega⟩, fun e => h.2 e.1⟩
theorem RunAnd.no {P : Prop} {m : Nat} {q : Nat → Prop} (h : RunAnd false P q m) : RunAnd false P q (m + 1) :=
  ⟨fun e => (by cases e), fun e => h.2 ⟨e.1, fun t ht => e.2 t (by omega)⟩⟩
theorem RunAnd.hit {o : Bool} {P : Prop} {m : Nat} {q : Nat → Prop} (_h : RunAnd o P q m) (hm : ¬ q m) : RunAnd false P q (m + 1) :=
  ⟨fun e => (by cases e), fun e => absurd (e.2 m (by omega)) hm⟩
theorem RunAnd.on {P : Prop} {m : Nat} {q : Nat → Prop} (h : RunAnd true P q m) (hm : q m) : RunAnd true P q (m + 1) :=
  ⟨fun _ => ⟨(h.1 rfl).1, fun t ht => by
    rcases Nat.lt_or_eq_of_le (Nat.le_of_lt_succ ht) with h' | rfl
    · exact (h.1 rfl).2 t h'
    · exact hm⟩, fun _ => rfl⟩
def letP (A : Alpha) (k : Nat) : Prop := runeOk (A.at_ k).rune = true ∧ mayB A.feats.length (A.at_ k).plus (A.at_ k).minus = true
theorem letP_iff {A : Alpha} {k : Nat} {b : Bool} (h : runeOk (A.at_ k).rune = b) : (b && mayB A.feats.length (A.at_ k).plus (A.at_ k).minus) = true ↔ letP A k := by
  subst h; rw [Bool.and_eq_true]; rfl
theorem upto_succ {k : Nat} {q : Nat → Prop} (h : ∀ j, j < k → q j) (hk : q k) : ∀ j, j < k + 1 → q j := fun j hj => by
  rcases Nat.lt_or_eq_of_le (Nat.le_of_lt_succ hj) with h' | rfl
  · exact h j h'
  · exact hk

end Go.Proofs.YtkmfhcjdaglikaaDoor
