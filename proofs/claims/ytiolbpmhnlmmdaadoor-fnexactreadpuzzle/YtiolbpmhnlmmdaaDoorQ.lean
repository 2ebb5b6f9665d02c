/- For every text the law FnExactReadPuzzle answers true, and the text reads as before; the listed package variables hold what the program's text lays, to which the card ties them. -/
import Derived.Test.YtiolbpmhnlmmdaaDoorAK
import Derived.Test.YtiolbpmhnlmmdaaDoorAO

set_option linter.unusedSimpArgs false
set_option linter.unusedVariables false

namespace Go.Proofs.YtiolbpmhnlmmdaaDoor
open Go.ChangeShapes Go.WideShapes Go.ChangeAt Go.RowKit Go.Proofs.Dev
theorem fnExactReadPuzzle_fact0 : (Rows.fnExactReadPuzzleRow.wf (OpenSpec.ofChange Rows.fnExactReadPuzzleSpec)) = true := by kernel_rfl
theorem fnExactReadPuzzle_fact1 : (laidOutB Tryd.prog) = true := by kernel_rfl
theorem fnExactReadPuzzle_fact2 : (mapsRowed Tryd.prog) = true := by kernel_rfl
theorem fnExactReadPuzzle_fact3 : (Tryd.f5.params.all (Tryd.prog.readableRec ·)) = true := by kernel_rfl
theorem fnExactReadPuzzle_fact4 : (namedTie Tryd.prog Rows.fnExactReadPuzzleRow.named Rows.fnExactReadPuzzleSpec.vars) = true := by kernel_rfl
theorem fnExactReadPuzzle_fact5 : ((Rows.fnExactReadPuzzleRow.stops == [])) = true := by kernel_rfl
theorem fnExactReadPuzzle_fact6 : ((Tryd.prog.stops == [])) = true := by kernel_rfl
theorem fnExactReadPuzzle_fact7 : ((Rows.fnExactReadPuzzleRow.knobs == [])) = true := by kernel_rfl
theorem fnExactReadPuzzle_fact8 : ((Tryd.prog.stopKnobs == [])) = true := by kernel_rfl
theorem fnExactReadPuzzle_fact9 : ((Rows.fnExactReadPuzzleRow.inPlace == Tryd.prog.inPlace 5)) = true := by kernel_rfl
theorem fnExactReadPuzzle_fact10 : ((Rows.fnExactReadPuzzleRow.unfollowed == Tryd.prog.unfollowed 5)) = true := by kernel_rfl
theorem fnExactReadPuzzle_fact11 : ((Rows.fnExactReadPuzzleRow.recurses == Tryd.prog.recurses 5)) = true := by kernel_rfl
theorem fnExactReadPuzzle_fact12 : ((Rows.fnExactReadPuzzleRow.named == Tryd.prog.varsNamed 5)) = true := by kernel_rfl
theorem fnExactReadPuzzle_fact13 : ((Rows.fnExactReadPuzzleRow.maps == (Tryd.f5.params.toList ++ Rows.fnExactReadPuzzleSpec.plain.varTypes Tryd.prog).any (Tryd.prog.mapsRec ·))) = true := by kernel_rfl
theorem fnExactReadPuzzle_fact14 : ((Rows.fnExactReadPuzzleRow.ifaces == (Tryd.f5.params.toList ++ Rows.fnExactReadPuzzleSpec.plain.varTypes Tryd.prog).any (Tryd.prog.ifacesRec ·))) = true := by kernel_rfl
theorem fnExactReadPuzzle_fact15 : ((Rows.fnExactReadPuzzleRow.mapsOut == Tryd.prog.mapsAmong Tryd.f5.resultTypes.toList)) = true := by kernel_rfl
theorem fnExactReadPuzzle_fact16 : ((Rows.fnExactReadPuzzleRow.loops == (Tryd.f5.params.toList ++ Rows.fnExactReadPuzzleSpec.plain.varTypes Tryd.prog).any (Tryd.prog.loopsFrom ·))) = true := by kernel_rfl
theorem fnExactReadPuzzle_fact17 : ((Rows.fnExactReadPuzzleRow.wideKeys == (Tryd.f5.params.toList ++ Rows.fnExactReadPuzzleSpec.plain.varTypes Tryd.prog ++ Tryd.f5.resultTypes.toList).any (Tryd.prog.wideKeysFrom ·))) = true := by kernel_rfl
theorem fnExactReadPuzzle_fact18 : (Rows.fnExactReadPuzzleSpec.vars.all (Tryd.prog.varReadable ·)) = true := by kernel_rfl
theorem fnExactReadPuzzle_fact19 : (Tryd.f5.resultTypes.all (fun t => Tryd.prog.readableRec t && decide (t < Tryd.prog.types.size))) = true := by kernel_rfl
theorem fnExactReadPuzzle_fact20 : ((Rows.fnExactReadPuzzleRow.ifacesOut == Tryd.f5.resultTypes.toList.any (Tryd.prog.ifacesRec ·))) = true := by kernel_rfl
theorem fnExactReadPuzzle_fact21 : ((Rows.fnExactReadPuzzleRow.loopsOut == Tryd.f5.resultTypes.toList.any (Tryd.prog.loopsFrom ·))) = true := by kernel_rfl
theorem fnExactReadPuzzle_fact22 : ((Rows.fnExactReadPuzzleRow.plainKeys == Tryd.prog.plainKeys)) = true := by kernel_rfl
theorem fnExactReadPuzzle_fact23 : (Rows.fnExactReadPuzzleRow.shortTexts.isNone) = true := by kernel_rfl
theorem fnExactReadPuzzle_fact24 : (Tryd.prog.stopsHeard) = true := by kernel_rfl
theorem fnExactReadPuzzle_fact25 : (Tryd.prog.mayEnter) = true := fact_mayEnter
theorem fnExactReadPuzzle_fact26 : ((Rows.fnExactReadPuzzleRow.lifted == Tryd.prog.liftsFinal)) = true := by rw [fact_liftsFinal]; rfl
theorem fnExactReadPuzzle_fact27 : ((Tryd.prog.make == some Rows.fnExactReadPuzzleRow.make)) = true := by rw [fact_make]; rfl
theorem fnExactReadPuzzle_fact28 : Rows.fnExactReadPuzzleRow.domain = [] ∧ Rows.fnExactReadPuzzleRow.kinds = [] := ⟨rfl, rfl⟩
theorem fnExactReadPuzzle_fact29 : ((Rows.fnExactReadPuzzleRow.pinned == Rows.fnExactReadPuzzleRow.pinnedBy)) = true := by kernel_rfl
theorem fnExactReadPuzzle_fact30 : ((Rows.fnExactReadPuzzleRow.veiled == (Tryd.f5.params.toList ++ Rows.fnExactReadPuzzleSpec.plain.varTypes Tryd.prog ++ Tryd.f5.resultTypes.toList).any (Tryd.prog.veiledRec ·))) = true := by kernel_rfl
theorem fnExactReadPuzzle_fact31 : (Rows.fnExactReadPuzzleRow.veiledFits Tryd.prog Tryd.f5.params.toList (Tryd.f5.params.toList ++ Rows.fnExactReadPuzzleSpec.plain.varTypes Tryd.prog ++ Tryd.f5.resultTypes.toList)) = true := by kernel_rfl
theorem fnExactReadPuzzle_facts : joinedFacts Tryd.prog 5 Tryd.f5 Rows.fnExactReadPuzzleSpec Rows.fnExactReadPuzzleRow = true :=
  joinedFacts_of fnExactReadPuzzle_fact0 fnExactReadPuzzle_fact1 fnExactReadPuzzle_fact2 fnExactReadPuzzle_fact3 fnExactReadPuzzle_fact4 fnExactReadPuzzle_fact5 fnExactReadPuzzle_fact6 fnExactReadPuzzle_fact7 fnExactReadPuzzle_fact8 fnExactReadPuzzle_fact9 fnExactReadPuzzle_fact10 fnExactReadPuzzle_fact11 fnExactReadPuzzle_fact12 fnExactReadPuzzle_fact13 fnExactReadPuzzle_fact14 fnExactReadPuzzle_fact15 fnExactReadPuzzle_fact16 fnExactReadPuzzle_fact17 fnExactReadPuzzle_fact18 fnExactReadPuzzle_fact19 fnExactReadPuzzle_fact20 fnExactReadPuzzle_fact21 fnExactReadPuzzle_fact22 fnExactReadPuzzle_fact23 fnExactReadPuzzle_fact24 fnExactReadPuzzle_fact25 fnExactReadPuzzle_fact26 fnExactReadPuzzle_fact27 fnExactReadPuzzle_fact28 fnExactReadPuzzle_fact29 fnExactReadPuzzle_fact30 fnExactReadPuzzle_fact31

set_option maxRecDepth 100000 in
theorem fnExactReadPuzzle_lifted (os : Os) (started : os.Started) (H : Type) (enc : TypeId × Value → H) :
    ReturnsInHanded {} Tryd.checked os 5 .any (fun w args => (Rows.fnExactReadPuzzleSpec.pre enc Tryd.prog Tryd.f5 Rows.fnExactReadPuzzleRow.domain false w args ∧ laidMetH Tryd.prog Rows.fnExactReadPuzzleRow.laid w) ∧ sizedMet enc Tryd.prog Tryd.f5 (OpenSpec.ofChange Rows.fnExactReadPuzzleSpec) false w args)
      (Rows.fnExactReadPuzzleSpec.post enc Tryd.prog Tryd.f5 false true false false) := by
  refine returns_shaped (C := Tryd.checked) (X := fun w _ => laidMetH Tryd.prog Rows.fnExactReadPuzzleRow.laid w) (fun _ _ _ hh h => h.of_heap hh) own started (by kernel_rfl) Tryd.func5
    (ChangeSpec.witness_shaped (enc := enc) (C := Tryd.checked) (os := os) (X := fun w _ => laidMetH Tryd.prog Rows.fnExactReadPuzzleRow.laid w) false (World.laidAll Tryd.prog os Rows.fnExactReadPuzzleRow.laid) #[.string ⟨#[]⟩] 8 (World.laidAll_os _ _ _)
      (World.shaped_of_ZipB (by kernel_rfl) (by kernel_rfl)) (by kernel_rfl) (by kernel_rfl) (by kernel_rfl)
      (by rw [MakeChecks.laidMetH_plain _ _ _ (by kernel_rfl)]; exact laidMet_laidAll _ (by kernel_rfl) (by kernel_rfl))) ?_
  intro W base args ds gs before hval0 hW hcnd _ hL hsh
  have hval : ∀ (j : Nat) t v, Tryd.f5.params[j]? = some t → args[j]? = some v → Value.okWide Tryd.prog W .any base t v := hval0
  have hW' : DataW.Whole enc Tryd.prog Tryd.f5.params.toList Rows.fnExactReadPuzzleSpec.vars false W args.toList ds gs before := hW
  obtain ⟨p, q, hA0, hV, hpq, hfz, hnd⟩ := hW
  have hA : DataW.TrodAll enc Tryd.prog W 0 (fun _ => true) true Tryd.f5.params.toList args.toList ds p := hA0
  rw [Tryd.params5] at hA hval
  obtain ⟨v0, d0, rfl, rfl, h0⟩ := trodAll_one hA
  obtain ⟨xs, hx, r0⟩ := read_text Tryd.underlying9 (hval 0 9 v0 rfl rfl) h0
  obtain ⟨rfl, rfl⟩ := trodVars_none hV
  exact law_post (tb := 4) (gb_of hsh) (s_FnExactReadPuzzle xs hx) (RL_one r0) laidOut
    (by
      rw [Tryd.params5]
      intro t ht
      simp at ht
      subst ht
      exact ⟨rStr, of_decide_eq_true (by kernel_rfl)⟩) hW' rfl rfl (by kernel_rfl) Tryd.underlying4

theorem fnExactReadPuzzle_holds : Rows.FnExactReadPuzzleSaid :=
  OpenClaim.holds_of_wide 5 Tryd.f5 rfl rfl rfl rfl rfl rfl rfl ⟨rfl, rfl, rfl, rfl, rfl⟩ rfl rfl rfl rfl rfl (by kernel_rfl) Tryd.func5 fnExactReadPuzzle_facts
    (of_decide_eq_true (by kernel_rfl)) (by unfold Func.isWrapper; first | (rw [if_pos (by decide +kernel)]; kernel_rfl) | (rw [if_neg (by decide +kernel)]; exact ⟨rfl, rfl⟩))
    (fun os started H enc _ => fnExactReadPuzzle_lifted os started H enc)

theorem fnExactReadPuzzle_card_holds : Rows.FnExactReadPuzzleCardSaid :=
  Claim7.holds_tied_plain_at .later [] [.data, .pinned] true (true, "9d6f34a35e15a95c98876e1dfee1fe7e473a8f326694ff565d09015eac068bff") true fnExactReadPuzzle_holds (fun _ h => by cases h) (by kernel_rfl) (fun _ h => by cases h) fnExactReadPuzzle_row_tie rfl ⟨rfl, rfl⟩ (by kernel_rfl) rfl
    (fun f fn hf hfn => by
      obtain rfl : f = 5 := Option.some.inj ((show Tryd.prog.funcNamed "loop.example/dominotilings/laws.FnExactReadPuzzle" = some 5 by kernel_rfl).symm.trans hf) |>.symm
      obtain rfl : fn = Tryd.f5 := (Option.some.inj (Tryd.func5.symm.trans hfn)).symm
      exact ⟨by kernel_rfl, fun j t ht => by
        rw [Tryd.params5] at ht
        have hm : t ∈ [9] := by simpa using Array.mem_of_getElem? ht
        have hall : ([9].all fun u => !Tryd.prog.wantsStandIn u) = true := by kernel_rfl
        exact (show Tryd.prog.wantsStandIn t = false by simpa using List.all_eq_true.1 hall t hm)⟩)
    (by kernel_rfl)

end Go.Proofs.YtiolbpmhnlmmdaaDoor
