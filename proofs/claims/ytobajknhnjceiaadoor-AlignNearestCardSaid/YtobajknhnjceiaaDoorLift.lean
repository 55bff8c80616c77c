/- A row of texts that comes in, opened. -/
import Derived.Test.YtobajknhnjceiaaDoorLifc
import Derived.Test.YtobajknhnjceiaaDoorAlgq
namespace Go.Proofs.YtobajknhnjceiaaDoor
open Go.RowKit Go.Cg Go.ChangeShapes Go.WideShapes

section
variable {H : Type} {enc : TypeId × Value → H} {W : World} {base : Nat} {sp : Nat → Bool}
set_option maxRecDepth 100000 in
theorem open_texts {v : Value} {d : DataW H} {p : List MemPlace} (hval : Value.okWide Tryd.prog W .any base 22 v) (h : DataW.Trod enc Tryd.prog W 0 sp true 22 v d p) (hsz : ∀ n ∈ d.weights Tryd.prog 22, n ≤ reachBytes) :
    ∃ tp tc L, v = .slice tp L.length tc ∧ TextsAt W tp L := by
  obtain ⟨a, len, cap, rfl⟩ := okWide_slice Tryd.underlying22 hval
  obtain ⟨fuel, hf⟩ := h
  obtain ⟨fp, fc, F, e, hr, hb, hs⟩ := open_feats (y := (d, p)) (show DataW.trod enc Tryd.prog W 0 sp true fuel 22 [.slice a len cap] = some (d, p) from hf) hsz
  exact ⟨fp, fc, F, e, hr, hb, hs⟩
end
end Go.Proofs.YtobajknhnjceiaaDoor
