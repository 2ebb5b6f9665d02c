/- For every code the law FnPuzzleText answers true, and the code reads as before; the listed package variables hold what the program's text lays, to which the card ties them. -/
import Derived.Test.YtiolbpmhnlmmdaaDoorAK
import Derived.Test.YtiolbpmhnlmmdaaDoorAR

set_option linter.unusedSimpArgs false
set_option linter.unusedVariables false

namespace Go.Proofs.YtiolbpmhnlmmdaaDoor
open Go.ChangeShapes Go.WideShapes Go.ChangeAt Go.RowKit Go.Proofs.Dev
theorem fnPuzzleText_fact0 : (Rows.fnPuzzleTextRow.wf (OpenSpec.ofChange Rows.fnPuzzleTextSpec)) = true := by kernel_rfl
theorem fnPuzzleText_fact1 : (laidOutB Tryd.prog) = true := by kernel_rfl
theorem fnPuzzleText_fact2 : (mapsRowed Tryd.prog) = true := by kernel_rfl
theorem fnPuzzleText_fact3 : (Tryd.f8.params.all (Tryd.prog.readableRec ·)) = true := by kernel_rfl
theorem fnPuzzleText_fact4 : (namedTie Tryd.prog Rows.fnPuzzleTextRow.named Rows.fnPuzzleTextSpec.vars) = true := by kernel_rfl
theorem fnPuzzleText_fact5 : ((Rows.fnPuzzleTextRow.stops == [])) = true := by kernel_rfl
theorem fnPuzzleText_fact6 : ((Tryd.prog.stops == [])) = true := by kernel_rfl
theorem fnPuzzleText_fact7 : ((Rows.fnPuzzleTextRow.knobs == [])) = true := by kernel_rfl
theorem fnPuzzleText_fact8 : ((Tryd.prog.stopKnobs == [])) = true := by kernel_rfl
theorem fnPuzzleText_fact9 : ((Rows.fnPuzzleTextRow.inPlace == Tryd.prog.inPlace 8)) = true := by kernel_rfl
theorem fnPuzzleText_fact10 : ((Rows.fnPuzzleTextRow.unfollowed == Tryd.prog.unfollowed 8)) = true := by kernel_rfl
theorem fnPuzzleText_fact11 : ((Rows.fnPuzzleTextRow.recurses == Tryd.prog.recurses 8)) = true := by kernel_rfl
theorem fnPuzzleText_fact12 : ((Rows.fnPuzzleTextRow.named == Tryd.prog.varsNamed 8)) = true := by kernel_rfl
theorem fnPuzzleText_fact13 : ((Rows.fnPuzzleTextRow.maps == (Tryd.f8.params.toList ++ Rows.fnPuzzleTextSpec.plain.varTypes Tryd.prog).any (Tryd.prog.mapsRec ·))) = true := by kernel_rfl
theorem fnPuzzleText_fact14 : ((Rows.fnPuzzleTextRow.ifaces == (Tryd.f8.params.toList ++ Rows.fnPuzzleTextSpec.plain.varTypes Tryd.prog).any (Tryd.prog.ifacesRec ·))) = true := by kernel_rfl
theorem fnPuzzleText_fact15 : ((Rows.fnPuzzleTextRow.mapsOut == Tryd.prog.mapsAmong Tryd.f8.resultTypes.toList)) = true := by kernel_rfl
theorem fnPuzzleText_fact16 : ((Rows.fnPuzzleTextRow.loops == (Tryd.f8.params.toList ++ Rows.fnPuzzleTextSpec.plain.varTypes Tryd.prog).any (Tryd.prog.loopsFrom ·))) = true := by kernel_rfl
theorem fnPuzzleText_fact17 : ((Rows.fnPuzzleTextRow.wideKeys == (Tryd.f8.params.toList ++ Rows.fnPuzzleTextSpec.plain.varTypes Tryd.prog ++ Tryd.f8.resultTypes.toList).any (Tryd.prog.wideKeysFrom ·))) = true := by kernel_rfl
theorem fnPuzzleText_fact18 : (Rows.fnPuzzleTextSpec.vars.all (Tryd.prog.varReadable ·)) = true := by kernel_rfl
theorem fnPuzzleText_fact19 : (Tryd.f8.resultTypes.all (fun t => Tryd.prog.readableRec t && decide (t < Tryd.prog.types.size))) = true := by kernel_rfl
theorem fnPuzzleText_fact20 : ((Rows.fnPuzzleTextRow.ifacesOut == Tryd.f8.resultTypes.toList.any (Tryd.prog.ifacesRec ·))) = true := by kernel_rfl
theorem fnPuzzleText_fact21 : ((Rows.fnPuzzleTextRow.loopsOut == Tryd.f8.resultTypes.toList.any (Tryd.prog.loopsFrom ·))) = true := by kernel_rfl
theorem fnPuzzleText_fact22 : ((Rows.fnPuzzleTextRow.plainKeys == Tryd.prog.plainKeys)) = true := by kernel_rfl
theorem fnPuzzleText_fact23 : (Rows.fnPuzzleTextRow.shortTexts.isNone) = true := by kernel_rfl
theorem fnPuzzleText_fact24 : (Tryd.prog.stopsHeard) = true := by kernel_rfl
theorem fnPuzzleText_fact25 : (Tryd.prog.mayEnter) = true := fact_mayEnter
theorem fnPuzzleText_fact26 : ((Rows.fnPuzzleTextRow.lifted == Tryd.prog.liftsFinal)) = true := by rw [fact_liftsFinal]; rfl
theorem fnPuzzleText_fact27 : ((Tryd.prog.make == some Rows.fnPuzzleTextRow.make)) = true := by rw [fact_make]; rfl
theorem fnPuzzleText_fact28 : Rows.fnPuzzleTextRow.domain = [] ∧ Rows.fnPuzzleTextRow.kinds = [] := ⟨rfl, rfl⟩
theorem fnPuzzleText_fact29 : ((Rows.fnPuzzleTextRow.pinned == Rows.fnPuzzleTextRow.pinnedBy)) = true := by kernel_rfl
theorem fnPuzzleText_fact30 : ((Rows.fnPuzzleTextRow.veiled == (Tryd.f8.params.toList ++ Rows.fnPuzzleTextSpec.plain.varTypes Tryd.prog ++ Tryd.f8.resultTypes.toList).any (Tryd.prog.veiledRec ·))) = true := by kernel_rfl
theorem fnPuzzleText_fact31 : (Rows.fnPuzzleTextRow.veiledFits Tryd.prog Tryd.f8.params.toList (Tryd.f8.params.toList ++ Rows.fnPuzzleTextSpec.plain.varTypes Tryd.prog ++ Tryd.f8.resultTypes.toList)) = true := by kernel_rfl
theorem fnPuzzleText_facts : joinedFacts Tryd.prog 8 Tryd.f8 Rows.fnPuzzleTextSpec Rows.fnPuzzleTextRow = true :=
  joinedFacts_of fnPuzzleText_fact0 fnPuzzleText_fact1 fnPuzzleText_fact2 fnPuzzleText_fact3 fnPuzzleText_fact4 fnPuzzleText_fact5 fnPuzzleText_fact6 fnPuzzleText_fact7 fnPuzzleText_fact8 fnPuzzleText_fact9 fnPuzzleText_fact10 fnPuzzleText_fact11 fnPuzzleText_fact12 fnPuzzleText_fact13 fnPuzzleText_fact14 fnPuzzleText_fact15 fnPuzzleText_fact16 fnPuzzleText_fact17 fnPuzzleText_fact18 fnPuzzleText_fact19 fnPuzzleText_fact20 fnPuzzleText_fact21 fnPuzzleText_fact22 fnPuzzleText_fact23 fnPuzzleText_fact24 fnPuzzleText_fact25 fnPuzzleText_fact26 fnPuzzleText_fact27 fnPuzzleText_fact28 fnPuzzleText_fact29 fnPuzzleText_fact30 fnPuzzleText_fact31

set_option maxRecDepth 100000 in
theorem fnPuzzleText_lifted (os : Os) (started : os.Started) (H : Type) (enc : TypeId × Value → H) :
    ReturnsInHanded {} Tryd.checked os 8 .any (fun w args => (Rows.fnPuzzleTextSpec.pre enc Tryd.prog Tryd.f8 Rows.fnPuzzleTextRow.domain false w args ∧ laidMetH Tryd.prog Rows.fnPuzzleTextRow.laid w) ∧ sizedMet enc Tryd.prog Tryd.f8 (OpenSpec.ofChange Rows.fnPuzzleTextSpec) false w args)
      (Rows.fnPuzzleTextSpec.post enc Tryd.prog Tryd.f8 false true false false) := by
  refine returns_shaped (C := Tryd.checked) (X := fun w _ => laidMetH Tryd.prog Rows.fnPuzzleTextRow.laid w) (fun _ _ _ hh h => h.of_heap hh) own started (by kernel_rfl) Tryd.func8
    (ChangeSpec.witness_shaped (enc := enc) (C := Tryd.checked) (os := os) (X := fun w _ => laidMetH Tryd.prog Rows.fnPuzzleTextRow.laid w) false (World.laidAll Tryd.prog os Rows.fnPuzzleTextRow.laid) #[.slice none 0 0] 8 (World.laidAll_os _ _ _)
      (World.shaped_of_ZipB (by kernel_rfl) (by kernel_rfl)) (by kernel_rfl) (by kernel_rfl) (by kernel_rfl)
      (by rw [MakeChecks.laidMetH_plain _ _ _ (by kernel_rfl)]; exact laidMet_laidAll _ (by kernel_rfl) (by kernel_rfl))) ?_
  intro W base args ds gs before hval0 hW hcnd _ hL hsh
  have hval : ∀ (j : Nat) t v, Tryd.f8.params[j]? = some t → args[j]? = some v → Value.okWide Tryd.prog W .any base t v := hval0
  have hW' : DataW.Whole enc Tryd.prog Tryd.f8.params.toList Rows.fnPuzzleTextSpec.vars false W args.toList ds gs before := hW
  obtain ⟨p, q, hA0, hV, hpq, hfz, hnd⟩ := hW
  have hA : DataW.TrodAll enc Tryd.prog W 0 (fun _ => true) true Tryd.f8.params.toList args.toList ds p := hA0
  rw [Tryd.params8] at hA hval
  obtain ⟨v0, d0, rfl, rfl, h0⟩ := trodAll_one hA
  obtain ⟨xs, hx, hB, r0⟩ := read_bytes Tryd.underlying52 Tryd.underlying5 cells5 (hval 0 52 v0 rfl rfl) h0
  obtain ⟨rfl, rfl⟩ := trodVars_none hV
  exact law_post (tb := 4) (gb_of hsh) (byte_law (l_FnPuzzleText xs hB)) (RL_one r0) laidOut
    (by
      rw [Tryd.params8]
      intro t ht
      simp at ht
      subst ht
      exact ⟨rBytes, of_decide_eq_true (by kernel_rfl)⟩) hW' rfl rfl (by kernel_rfl) Tryd.underlying4

theorem fnPuzzleText_holds : Rows.FnPuzzleTextSaid :=
  OpenClaim.holds_of_wide 8 Tryd.f8 rfl rfl rfl rfl rfl rfl rfl ⟨rfl, rfl, rfl, rfl, rfl⟩ rfl rfl rfl rfl rfl (by kernel_rfl) Tryd.func8 fnPuzzleText_facts
    (of_decide_eq_true (by kernel_rfl)) (by unfold Func.isWrapper; first | (rw [if_pos (by decide +kernel)]; kernel_rfl) | (rw [if_neg (by decide +kernel)]; exact ⟨rfl, rfl⟩))
    (fun os started H enc _ => fnPuzzleText_lifted os started H enc)

theorem fnPuzzleText_card_holds : Rows.FnPuzzleTextCardSaid :=
  Claim7.holds_tied_plain_at .later [] [.data, .pinned] true (true, "9d6f34a35e15a95c98876e1dfee1fe7e473a8f326694ff565d09015eac068bff") true fnPuzzleText_holds (fun _ h => by cases h) (by kernel_rfl) (fun _ h => by cases h) fnPuzzleText_row_tie rfl ⟨rfl, rfl⟩ (by kernel_rfl) rfl
    (fun f fn hf hfn => by
      obtain rfl : f = 8 := Option.some.inj ((show Tryd.prog.funcNamed "loop.example/dominotilings/laws.FnPuzzleText" = some 8 by kernel_rfl).symm.trans hf) |>.symm
      obtain rfl : fn = Tryd.f8 := (Option.some.inj (Tryd.func8.symm.trans hfn)).symm
      exact ⟨by kernel_rfl, fun j t ht => by
        rw [Tryd.params8] at ht
        have hm : t ∈ [52] := by simpa using Array.mem_of_getElem? ht
        have hall : ([52].all fun u => !Tryd.prog.wantsStandIn u) = true := by kernel_rfl
        exact (show Tryd.prog.wantsStandIn t = false by simpa using List.all_eq_true.1 hall t hm)⟩)
    (by kernel_rfl)

end Go.Proofs.YtiolbpmhnlmmdaaDoor
