/- ParadigmChain: a cell's form is its affixes put one behind the other; its stems, put, make the word: the row for inputs of bulk at most 1048576, and its card. -/
import Derived.Test.YtkmfhcjdaglikaaDoorPaqe
import Derived.Test.YtkmfhcjdaglikaaDoorLifr
import Derived.Test.YtkmfhcjdaglikaaDoorTie
import Derived.Test.YtkmfhcjdaglikaaDoorCards
import Derived.Carry
import Derived.ShutString
import Derived.SevenTiedAt
import Derived.Deep.DeepHandedRow
namespace Go.Proofs.YtkmfhcjdaglikaaDoor.paradigmChain
open Go.RowKit Go.Cg Go.ChangeShapes Go.WideShapes Go.ChangeAt
open Go.ChangeMaps (open_string shut_string)

set_option maxRecDepth 100000 in
set_option maxHeartbeats 1000000 in
theorem lifted (os : Os) (started : os.Started) (H : Type) (enc : TypeId × Value → H) (F : Stop.Interp) :
    ReturnsInHanded {} Tryd.checked os 4 .any ((Rows.OpenSpec.upto Rows.paradigmChainSpec).preRow enc Tryd.prog Tryd.f4 Rows.paradigmChainUptoRow.domain false Rows.paradigmChainUptoRow.laid) (((Rows.OpenSpec.upto Rows.paradigmChainSpec).at F).post enc Tryd.prog Tryd.f4 false true false false) := by
  obtain ⟨x, hx⟩ : ∃ x, DataW.whole enc Tryd.prog ((World.laidAll Tryd.prog os laidD).forCall (fun _ _ => 0) ⟨#[], #[.agg #[.slice none 0 0, .slice none 0 0], .int .u32 0, .agg #[.string ⟨#[]⟩, .slice none 0 0], .int .i64 0, .string ⟨#[]⟩], []⟩).memory Tryd.f4.params.toList (Rows.OpenSpec.upto Rows.paradigmChainSpec).vars false (#[.agg #[.slice none 0 0, .slice none 0 0], .int .u32 0, .agg #[.string ⟨#[]⟩, .slice none 0 0], .int .i64 0, .string ⟨#[]⟩] : Array Value).toList 8 = some x := Option.isSome_iff_exists.1 (by kernel_rfl)
  have hb : (DataW.whole enc Tryd.prog ((World.laidAll Tryd.prog os laidD).forCall (fun _ _ => 0) ⟨#[], #[.agg #[.slice none 0 0, .slice none 0 0], .int .u32 0, .agg #[.string ⟨#[]⟩, .slice none 0 0], .int .i64 0, .string ⟨#[]⟩], []⟩).memory Tryd.f4.params.toList (Rows.OpenSpec.upto Rows.paradigmChainSpec).vars false (#[.agg #[.slice none 0 0, .slice none 0 0], .int .u32 0, .agg #[.string ⟨#[]⟩, .slice none 0 0], .int .i64 0, .string ⟨#[]⟩] : Array Value).toList 8).map (fun x => Rows.uptoSmall H (x.1 ++ x.2.1)) = some true := by kernel_rfl
  rw [hx] at hb
  have hokB : Input.okWideB Tryd.prog ((World.laidAll Tryd.prog os laidD).forCall (fun _ _ => 0) ⟨#[], #[.agg #[.slice none 0 0, .slice none 0 0], .int .u32 0, .agg #[.string ⟨#[]⟩, .slice none 0 0], .int .i64 0, .string ⟨#[]⟩], []⟩) 4 ⟨#[], #[.agg #[.slice none 0 0, .slice none 0 0], .int .u32 0, .agg #[.string ⟨#[]⟩, .slice none 0 0], .int .i64 0, .string ⟨#[]⟩], []⟩ = true := by kernel_rfl
  refine returnsInHanded_of_row (C := Tryd.checked) (s := (Rows.OpenSpec.upto Rows.paradigmChainSpec)) own started (by kernel_rfl) Tryd.func4
    ⟨World.laidAll Tryd.prog os laidD, fun _ _ => 0, ⟨#[], #[.agg #[.slice none 0 0, .slice none 0 0], .int .u32 0, .agg #[.string ⟨#[]⟩, .slice none 0 0], .int .i64 0, .string ⟨#[]⟩], []⟩, World.laidAll_os _ _ _, World.shaped_of_ZipB (by kernel_rfl) (by kernel_rfl), (Input.okWide_of_okWideB (base := 0) hokB).1, (Input.okWide_of_okWideB hokB).2,
      OpenSpec.preRow_of_cond 8 hx (by rfl) (fun k hk => by cases hk; exact Option.some.inj hb) (by kernel_rfl) (laid_met os _), by
        simp only [Assume.holds]
        exact ⟨by simp, by simp, fun _ => Modest.zero, by simp, by simp⟩⟩ ?_
  intro W base args ds gs before hval0 hW _ hcond hsz0 hL _ _
  have hbulk : Rows.uptoBulkAll (ds ++ gs) ≤ 1048576 := of_decide_eq_true (hcond _ rfl)
  clear hcond hb hx hokB x
  have hsz : (DataW.weightsEach Tryd.prog (Tryd.f4.params.toList ++ Rows.paradigmChainSpec.plain.varTypes Tryd.prog) (ds ++ gs)).all (· ≤ reachBytes) = true := hsz0
  clear hsz0
  have hval : ∀ (j : Nat) t v, Tryd.f4.params[j]? = some t → args[j]? = some v → Value.okWide Tryd.prog W .any base t v := hval0
  have hW' := hW
  obtain ⟨p, q, hA0, hV, rfl, _, _⟩ := hW
  have hA : DataW.TrodAll enc Tryd.prog W 0 (fun _ => true) true Tryd.f4.params.toList args.toList ds p := hA0
  rw [Tryd.params4] at hA hval hsz
  obtain ⟨v0, v1, v2, v3, v4, d0, d1, d2, d3, d4, p0, p1, p2, p3, p4, rfl, rfl, rfl, h0, h1, h2, h3, h4⟩ := trodAll_five hA
  obtain ⟨rfl, rfl⟩ := trodVars_none hV
  clear hA0 hval0
  simp only [List.append_nil] at hW'
  have h0k := h0
  have hlt0 : ∀ x ∈ p0, x.block < W.heap.size := fun x hx => by have := hW'.lt x (by simp [hx]); simpa using this
  obtain ⟨fp, lp, fc, lc, A, rfl, hAl⟩ := open_alpha (hval 0 26 v0 rfl rfl) h0 (fun k hk => by
    have := List.all_eq_true.1 hsz k (DataW.weights_mem_each (j := 0) rfl rfl k hk)
    simpa using this)
  obtain ⟨n1, rfl, rfl, rfl, w1⟩ := open_int Tryd.underlying40 (hval 1 40 v1 rfl rfl) h1
  have b1 := bounds_u32 w1
  obtain ⟨m1, rfl⟩ : ∃ m : Nat, n1 = (m : Int) := ⟨n1.toNat, by omega⟩
  have h2k := h2
  have hlt2 : ∀ x ∈ p2, x.block < W.heap.size := fun x hx => by have := hW'.lt x (by simp [hx]); simpa using this
  obtain ⟨cp2, cc2, P2, g2, rfl, hn2, hC2, hup2⟩ := open_para (hval 2 32 v2 rfl rfl) h2 (fun k hk => by
    have := List.all_eq_true.1 hsz k (DataW.weights_mem_each (j := 2) rfl rfl k hk)
    simpa using this)
  obtain ⟨n3, rfl, rfl, rfl, w3⟩ := open_int Tryd.underlying3 (hval 3 3 v3 rfl rfl) h3
  have b3 := bounds_i64 w3
  obtain ⟨s4, rfl, rfl, rfl, ws4⟩ := open_string Tryd.underlying9 (hval 4 9 v4 rfl rfl) h4
  have hs4 : s4.size ≤ 140737488351232 := sized_string hsz (j := 4) rfl rfl
  have hbk : Rows.uptoBulk d2 ≤ 1048576 := Nat.le_trans (bulks.part_le (l := _) (by simp)) hbulk
  refine (paradigmChain_any fp lp fc lc A m1 (by omega) cp2 cc2 P2 g2 n3 b3 s4 hs4 W hAl hC2 (of_laid hL) hn2 (hup2 hbk).2).mono fun e W' ⟨he, hx⟩ => ?_
  subst he
  refine ⟨_, rfl, _, _, _, [], (p0 ++ p2), [], hW', ?_, ?_, rfl, hx.frame _, fun h => by cases h⟩
  · exact trodAll_mk1 (shut_bool Tryd.underlying4 _)
  · have := trodAll_mk5 (Below.trod laidOut (by kernel_rfl) (of_decide_eq_true (by kernel_rfl)) h0k hx hlt0) (shut_int Tryd.underlying40 w1) (Below.trod laidOut (by kernel_rfl) (of_decide_eq_true (by kernel_rfl)) h2k hx hlt2) (shut_int Tryd.underlying3 w3) (shut_string Tryd.underlying9 ws4)
    simp only [List.append_nil] at this
    exact this

theorem row_holds : Rows.ParadigmChainUptoSaid :=
  OpenClaim.holds_of_cond 4 Tryd.f4 rfl rfl rfl rfl rfl rfl rfl ⟨rfl, rfl, rfl, rfl, rfl⟩ rfl rfl rfl rfl rfl (by kernel_rfl) Tryd.func4 (by kernel_rfl)
    (of_decide_eq_true (by kernel_rfl)) (by unfold Func.isWrapper; first | (rw [if_pos (by decide +kernel)]; kernel_rfl) | (rw [if_neg (by decide +kernel)]; exact ⟨rfl, rfl⟩))
    (fun os started H enc _ F => by rw [OpenClaim.pre_eq_preRow]; exact lifted os started H enc F)

/-- THE TIED CARD -/
theorem card_holds : Rows.ParadigmChainUptoCardSaid :=
  Claim7.holds_tied_plain_at .later [] [.data, .pinned] true Rows.paradigmChainUptoCard.stood.harness true row_holds (fun _ h => by cases h) (by kernel_rfl) (fun _ h => by cases h) paradigmChainUpto_row_tie rfl ⟨rfl, rfl⟩ (by kernel_rfl) rfl
    (fun f fn hf hfn => by
      obtain rfl : f = 4 := Option.some.inj ((show Tryd.prog.funcNamed "cognate/cognatelaw17.ParadigmChain" = some 4 by kernel_rfl).symm.trans hf) |>.symm
      obtain rfl : fn = Tryd.f4 := (Option.some.inj (Tryd.func4.symm.trans hfn)).symm
      exact ⟨by kernel_rfl, fun j t ht => by
        rw [Tryd.params4] at ht
        have hm : t ∈ ([26, 40, 32, 3, 9] : List TypeId) := by simpa using Array.mem_of_getElem? ht
        have hall : (([26, 40, 32, 3, 9] : List TypeId).all fun u => !Tryd.prog.wantsStandIn u) = true := by kernel_rfl
        exact (show Tryd.prog.wantsStandIn t = false by simpa using List.all_eq_true.1 hall t hm)⟩)
    (by kernel_rfl)
#print axioms card_holds
end Go.Proofs.YtkmfhcjdaglikaaDoor.paradigmChain
