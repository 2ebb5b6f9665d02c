/- For every code the law FnReadPuzzle answers true, and the code reads as before; the listed package variables hold what the program's text lays, to which the card ties them. -/
import Derived.Test.YtiolbpmhnlmmdaaDoorAK
import Derived.Test.YtiolbpmhnlmmdaaDoorAR

set_option linter.unusedSimpArgs false
set_option linter.unusedVariables false

namespace Go.Proofs.YtiolbpmhnlmmdaaDoor
open Go.ChangeShapes Go.WideShapes Go.ChangeAt Go.RowKit Go.Proofs.Dev
theorem fnReadPuzzle_fact0 : (Rows.fnReadPuzzleRow.wf (OpenSpec.ofChange Rows.fnReadPuzzleSpec)) = true := by kernel_rfl
theorem fnReadPuzzle_fact1 : (laidOutB Tryd.prog) = true := by kernel_rfl
theorem fnReadPuzzle_fact2 : (mapsRowed Tryd.prog) = true := by kernel_rfl
theorem fnReadPuzzle_fact3 : (Tryd.f9.params.all (Tryd.prog.readableRec ·)) = true := by kernel_rfl
theorem fnReadPuzzle_fact4 : (namedTie Tryd.prog Rows.fnReadPuzzleRow.named Rows.fnReadPuzzleSpec.vars) = true := by kernel_rfl
theorem fnReadPuzzle_fact5 : ((Rows.fnReadPuzzleRow.stops == [])) = true := by kernel_rfl
theorem fnReadPuzzle_fact6 : ((Tryd.prog.stops == [])) = true := by kernel_rfl
theorem fnReadPuzzle_fact7 : ((Rows.fnReadPuzzleRow.knobs == [])) = true := by kernel_rfl
theorem fnReadPuzzle_fact8 : ((Tryd.prog.stopKnobs == [])) = true := by kernel_rfl
theorem fnReadPuzzle_fact9 : ((Rows.fnReadPuzzleRow.inPlace == Tryd.prog.inPlace 9)) = true := by kernel_rfl
theorem fnReadPuzzle_fact10 : ((Rows.fnReadPuzzleRow.unfollowed == Tryd.prog.unfollowed 9)) = true := by kernel_rfl
theorem fnReadPuzzle_fact11 : ((Rows.fnReadPuzzleRow.recurses == Tryd.prog.recurses 9)) = true := by kernel_rfl
theorem fnReadPuzzle_fact12 : ((Rows.fnReadPuzzleRow.named == Tryd.prog.varsNamed 9)) = true := by kernel_rfl
theorem fnReadPuzzle_fact13 : ((Rows.fnReadPuzzleRow.maps == (Tryd.f9.params.toList ++ Rows.fnReadPuzzleSpec.plain.varTypes Tryd.prog).any (Tryd.prog.mapsRec ·))) = true := by kernel_rfl
theorem fnReadPuzzle_fact14 : ((Rows.fnReadPuzzleRow.ifaces == (Tryd.f9.params.toList ++ Rows.fnReadPuzzleSpec.plain.varTypes Tryd.prog).any (Tryd.prog.ifacesRec ·))) = true := by kernel_rfl
theorem fnReadPuzzle_fact15 : ((Rows.fnReadPuzzleRow.mapsOut == Tryd.prog.mapsAmong Tryd.f9.resultTypes.toList)) = true := by kernel_rfl
theorem fnReadPuzzle_fact16 : ((Rows.fnReadPuzzleRow.loops == (Tryd.f9.params.toList ++ Rows.fnReadPuzzleSpec.plain.varTypes Tryd.prog).any (Tryd.prog.loopsFrom ·))) = true := by kernel_rfl
theorem fnReadPuzzle_fact17 : ((Rows.fnReadPuzzleRow.wideKeys == (Tryd.f9.params.toList ++ Rows.fnReadPuzzleSpec.plain.varTypes Tryd.prog ++ Tryd.f9.resultTypes.toList).any (Tryd.prog.wideKeysFrom ·))) = true := by kernel_rfl
theorem fnReadPuzzle_fact18 : (Rows.fnReadPuzzleSpec.vars.all (Tryd.prog.varReadable ·)) = true := by kernel_rfl
theorem fnReadPuzzle_fact19 : (Tryd.f9.resultTypes.all (fun t => Tryd.prog.readableRec t && decide (t < Tryd.prog.types.size))) = true := by kernel_rfl
theorem fnReadPuzzle_fact20 : ((Rows.fnReadPuzzleRow.ifacesOut == Tryd.f9.resultTypes.toList.any (Tryd.prog.ifacesRec ·))) = true := by kernel_rfl
theorem fnReadPuzzle_fact21 : ((Rows.fnReadPuzzleRow.loopsOut == Tryd.f9.resultTypes.toList.any (Tryd.prog.loopsFrom ·))) = true := by kernel_rfl
theorem fnReadPuzzle_fact22 : ((Rows.fnReadPuzzleRow.plainKeys == Tryd.prog.plainKeys)) = true := by kernel_rfl
theorem fnReadPuzzle_fact23 : (Rows.fnReadPuzzleRow.shortTexts.isNone) = true := by kernel_rfl
theorem fnReadPuzzle_fact24 : (Tryd.prog.stopsHeard) = true := by kernel_rfl
theorem fnReadPuzzle_fact25 : (Tryd.prog.mayEnter) = true := fact_mayEnter
theorem fnReadPuzzle_fact26 : ((Rows.fnReadPuzzleRow.lifted == Tryd.prog.liftsFinal)) = true := by rw [fact_liftsFinal]; rfl
theorem fnReadPuzzle_fact27 : ((Tryd.prog.make == some Rows.fnReadPuzzleRow.make)) = true := by rw [fact_make]; rfl
theorem fnReadPuzzle_fact28 : Rows.fnReadPuzzleRow.domain = [] ∧ Rows.fnReadPuzzleRow.kinds = [] := ⟨rfl, rfl⟩
theorem fnReadPuzzle_fact29 : ((Rows.fnReadPuzzleRow.pinned == Rows.fnReadPuzzleRow.pinnedBy)) = true := by kernel_rfl
theorem fnReadPuzzle_fact30 : ((Rows.fnReadPuzzleRow.veiled == (Tryd.f9.params.toList ++ Rows.fnReadPuzzleSpec.plain.varTypes Tryd.prog ++ Tryd.f9.resultTypes.toList).any (Tryd.prog.veiledRec ·))) = true := by kernel_rfl
theorem fnReadPuzzle_fact31 : (Rows.fnReadPuzzleRow.veiledFits Tryd.prog Tryd.f9.params.toList (Tryd.f9.params.toList ++ Rows.fnReadPuzzleSpec.plain.varTypes Tryd.prog ++ Tryd.f9.resultTypes.toList)) = true := by kernel_rfl
theorem fnReadPuzzle_facts : joinedFacts Tryd.prog 9 Tryd.f9 Rows.fnReadPuzzleSpec Rows.fnReadPuzzleRow = true :=
  joinedFacts_of fnReadPuzzle_fact0 fnReadPuzzle_fact1 fnReadPuzzle_fact2 fnReadPuzzle_fact3 fnReadPuzzle_fact4 fnReadPuzzle_fact5 fnReadPuzzle_fact6 fnReadPuzzle_fact7 fnReadPuzzle_fact8 fnReadPuzzle_fact9 fnReadPuzzle_fact10 fnReadPuzzle_fact11 fnReadPuzzle_fact12 fnReadPuzzle_fact13 fnReadPuzzle_fact14 fnReadPuzzle_fact15 fnReadPuzzle_fact16 fnReadPuzzle_fact17 fnReadPuzzle_fact18 fnReadPuzzle_fact19 fnReadPuzzle_fact20 fnReadPuzzle_fact21 fnReadPuzzle_fact22 fnReadPuzzle_fact23 fnReadPuzzle_fact24 fnReadPuzzle_fact25 fnReadPuzzle_fact26 fnReadPuzzle_fact27 fnReadPuzzle_fact28 fnReadPuzzle_fact29 fnReadPuzzle_fact30 fnReadPuzzle_fact31

set_option maxRecDepth 100000 in
theorem fnReadPuzzle_lifted (os : Os) (started : os.Started) (H : Type) (enc : TypeId × Value → H) :
    ReturnsInHanded {} Tryd.checked os 9 .any (fun w args => (Rows.fnReadPuzzleSpec.pre enc Tryd.prog Tryd.f9 Rows.fnReadPuzzleRow.domain false w args ∧ laidMetH Tryd.prog Rows.fnReadPuzzleRow.laid w) ∧ sizedMet enc Tryd.prog Tryd.f9 (OpenSpec.ofChange Rows.fnReadPuzzleSpec) false w args)
      (Rows.fnReadPuzzleSpec.post enc Tryd.prog Tryd.f9 false true false false) := by
  refine returns_shaped (C := Tryd.checked) (X := fun w _ => laidMetH Tryd.prog Rows.fnReadPuzzleRow.laid w) (fun _ _ _ hh h => h.of_heap hh) own started (by kernel_rfl) Tryd.func9
    (ChangeSpec.witness_shaped (enc := enc) (C := Tryd.checked) (os := os) (X := fun w _ => laidMetH Tryd.prog Rows.fnReadPuzzleRow.laid w) false (World.laidAll Tryd.prog os Rows.fnReadPuzzleRow.laid) #[.slice none 0 0] 8 (World.laidAll_os _ _ _)
      (World.shaped_of_ZipB (by kernel_rfl) (by kernel_rfl)) (by kernel_rfl) (by kernel_rfl) (by kernel_rfl)
      (by rw [MakeChecks.laidMetH_plain _ _ _ (by kernel_rfl)]; exact laidMet_laidAll _ (by kernel_rfl) (by kernel_rfl))) ?_
  intro W base args ds gs before hval0 hW hcnd _ hL hsh
  have hval : ∀ (j : Nat) t v, Tryd.f9.params[j]? = some t → args[j]? = some v → Value.okWide Tryd.prog W .any base t v := hval0
  have hW' : DataW.Whole enc Tryd.prog Tryd.f9.params.toList Rows.fnReadPuzzleSpec.vars false W args.toList ds gs before := hW
  obtain ⟨p, q, hA0, hV, hpq, hfz, hnd⟩ := hW
  have hA : DataW.TrodAll enc Tryd.prog W 0 (fun _ => true) true Tryd.f9.params.toList args.toList ds p := hA0
  rw [Tryd.params9] at hA hval
  obtain ⟨v0, d0, rfl, rfl, h0⟩ := trodAll_one hA
  obtain ⟨xs, hx, hB, r0⟩ := read_bytes Tryd.underlying52 Tryd.underlying5 cells5 (hval 0 52 v0 rfl rfl) h0
  obtain ⟨rfl, rfl⟩ := trodVars_none hV
  exact law_post (tb := 4) (gb_of hsh) (byte_law (l_FnReadPuzzle xs hB)) (RL_one r0) laidOut
    (by
      rw [Tryd.params9]
      intro t ht
      simp at ht
      subst ht
      exact ⟨rBytes, of_decide_eq_true (by kernel_rfl)⟩) hW' rfl rfl (by kernel_rfl) Tryd.underlying4

theorem fnReadPuzzle_holds : Rows.FnReadPuzzleSaid :=
  OpenClaim.holds_of_wide 9 Tryd.f9 rfl rfl rfl rfl rfl rfl rfl ⟨rfl, rfl, rfl, rfl, rfl⟩ rfl rfl rfl rfl rfl (by kernel_rfl) Tryd.func9 fnReadPuzzle_facts
    (of_decide_eq_true (by kernel_rfl)) (by unfold Func.isWrapper; first | (rw [if_pos (by decide +kernel)]; kernel_rfl) | (rw [if_neg (by decide +kernel)]; exact ⟨rfl, rfl⟩))
    (fun os started H enc _ => fnReadPuzzle_lifted os started H enc)

theorem fnReadPuzzle_card_holds : Rows.FnReadPuzzleCardSaid :=
  Claim7.holds_tied_plain_at .later [] [.data, .pinned] true (true, "9d6f34a35e15a95c98876e1dfee1fe7e473a8f326694ff565d09015eac068bff") true fnReadPuzzle_holds (fun _ h => by cases h) (by kernel_rfl) (fun _ h => by cases h) fnReadPuzzle_row_tie rfl ⟨rfl, rfl⟩ (by kernel_rfl) rfl
    (fun f fn hf hfn => by
      obtain rfl : f = 9 := Option.some.inj ((show Tryd.prog.funcNamed "loop.example/dominotilings/laws.FnReadPuzzle" = some 9 by kernel_rfl).symm.trans hf) |>.symm
      obtain rfl : fn = Tryd.f9 := (Option.some.inj (Tryd.func9.symm.trans hfn)).symm
      exact ⟨by kernel_rfl, fun j t ht => by
        rw [Tryd.params9] at ht
        have hm : t ∈ [52] := by simpa using Array.mem_of_getElem? ht
        have hall : ([52].all fun u => !Tryd.prog.wantsStandIn u) = true := by kernel_rfl
        exact (show Tryd.prog.wantsStandIn t = false by simpa using List.all_eq_true.1 hall t hm)⟩)
    (by kernel_rfl)

end Go.Proofs.YtiolbpmhnlmmdaaDoor
