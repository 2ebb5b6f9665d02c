/- For every deed the law FnExactDeedText answers true, and the deed and the words of deeds read as before; the listed package variables hold what the program's text lays, to which the card ties them. -/
import Derived.Test.YtiolbpmhnlmmdaaDoorAI

set_option linter.unusedSimpArgs false
set_option linter.unusedVariables false

namespace Go.Proofs.YtiolbpmhnlmmdaaDoor
open Go.ChangeShapes Go.WideShapes Go.ChangeAt Go.RowKit Go.Proofs.Dev
theorem fnExactDeedText_fact0 : (Rows.fnExactDeedTextRow.wf (OpenSpec.ofChange Rows.fnExactDeedTextSpec)) = true := by kernel_rfl
theorem fnExactDeedText_fact1 : (laidOutB Tryd.prog) = true := by kernel_rfl
theorem fnExactDeedText_fact2 : (mapsRowed Tryd.prog) = true := by kernel_rfl
theorem fnExactDeedText_fact3 : (Tryd.f3.params.all (Tryd.prog.readableRec ·)) = true := by kernel_rfl
theorem fnExactDeedText_fact4 : (namedTie Tryd.prog Rows.fnExactDeedTextRow.named Rows.fnExactDeedTextSpec.vars) = true := by kernel_rfl
theorem fnExactDeedText_fact5 : ((Rows.fnExactDeedTextRow.stops == [])) = true := by kernel_rfl
theorem fnExactDeedText_fact6 : ((Tryd.prog.stops == [])) = true := by kernel_rfl
theorem fnExactDeedText_fact7 : ((Rows.fnExactDeedTextRow.knobs == [])) = true := by kernel_rfl
theorem fnExactDeedText_fact8 : ((Tryd.prog.stopKnobs == [])) = true := by kernel_rfl
theorem fnExactDeedText_fact9 : ((Rows.fnExactDeedTextRow.inPlace == Tryd.prog.inPlace 3)) = true := by kernel_rfl
theorem fnExactDeedText_fact10 : ((Rows.fnExactDeedTextRow.unfollowed == Tryd.prog.unfollowed 3)) = true := by kernel_rfl
theorem fnExactDeedText_fact11 : ((Rows.fnExactDeedTextRow.recurses == Tryd.prog.recurses 3)) = true := by kernel_rfl
theorem fnExactDeedText_fact12 : ((Rows.fnExactDeedTextRow.named == Tryd.prog.varsNamed 3)) = true := by kernel_rfl
theorem fnExactDeedText_fact13 : ((Rows.fnExactDeedTextRow.maps == (Tryd.f3.params.toList ++ Rows.fnExactDeedTextSpec.plain.varTypes Tryd.prog).any (Tryd.prog.mapsRec ·))) = true := by kernel_rfl
theorem fnExactDeedText_fact14 : ((Rows.fnExactDeedTextRow.ifaces == (Tryd.f3.params.toList ++ Rows.fnExactDeedTextSpec.plain.varTypes Tryd.prog).any (Tryd.prog.ifacesRec ·))) = true := by kernel_rfl
theorem fnExactDeedText_fact15 : ((Rows.fnExactDeedTextRow.mapsOut == Tryd.prog.mapsAmong Tryd.f3.resultTypes.toList)) = true := by kernel_rfl
theorem fnExactDeedText_fact16 : ((Rows.fnExactDeedTextRow.loops == (Tryd.f3.params.toList ++ Rows.fnExactDeedTextSpec.plain.varTypes Tryd.prog).any (Tryd.prog.loopsFrom ·))) = true := by kernel_rfl
theorem fnExactDeedText_fact17 : ((Rows.fnExactDeedTextRow.wideKeys == (Tryd.f3.params.toList ++ Rows.fnExactDeedTextSpec.plain.varTypes Tryd.prog ++ Tryd.f3.resultTypes.toList).any (Tryd.prog.wideKeysFrom ·))) = true := by kernel_rfl
theorem fnExactDeedText_fact18 : (Rows.fnExactDeedTextSpec.vars.all (Tryd.prog.varReadable ·)) = true := by kernel_rfl
theorem fnExactDeedText_fact19 : (Tryd.f3.resultTypes.all (fun t => Tryd.prog.readableRec t && decide (t < Tryd.prog.types.size))) = true := by kernel_rfl
theorem fnExactDeedText_fact20 : ((Rows.fnExactDeedTextRow.ifacesOut == Tryd.f3.resultTypes.toList.any (Tryd.prog.ifacesRec ·))) = true := by kernel_rfl
theorem fnExactDeedText_fact21 : ((Rows.fnExactDeedTextRow.loopsOut == Tryd.f3.resultTypes.toList.any (Tryd.prog.loopsFrom ·))) = true := by kernel_rfl
theorem fnExactDeedText_fact22 : ((Rows.fnExactDeedTextRow.plainKeys == Tryd.prog.plainKeys)) = true := by kernel_rfl
theorem fnExactDeedText_fact23 : (Rows.fnExactDeedTextRow.shortTexts.isNone) = true := by kernel_rfl
theorem fnExactDeedText_fact24 : (Tryd.prog.stopsHeard) = true := by kernel_rfl
theorem fnExactDeedText_fact25 : (Tryd.prog.mayEnter) = true := fact_mayEnter
theorem fnExactDeedText_fact26 : ((Rows.fnExactDeedTextRow.lifted == Tryd.prog.liftsFinal)) = true := by rw [fact_liftsFinal]; rfl
theorem fnExactDeedText_fact27 : ((Tryd.prog.make == some Rows.fnExactDeedTextRow.make)) = true := by rw [fact_make]; rfl
theorem fnExactDeedText_fact28 : Rows.fnExactDeedTextRow.domain = [] ∧ Rows.fnExactDeedTextRow.kinds = [] := ⟨rfl, rfl⟩
theorem fnExactDeedText_fact29 : ((Rows.fnExactDeedTextRow.pinned == Rows.fnExactDeedTextRow.pinnedBy)) = true := by kernel_rfl
theorem fnExactDeedText_fact30 : ((Rows.fnExactDeedTextRow.veiled == (Tryd.f3.params.toList ++ Rows.fnExactDeedTextSpec.plain.varTypes Tryd.prog ++ Tryd.f3.resultTypes.toList).any (Tryd.prog.veiledRec ·))) = true := by kernel_rfl
theorem fnExactDeedText_fact31 : (Rows.fnExactDeedTextRow.veiledFits Tryd.prog Tryd.f3.params.toList (Tryd.f3.params.toList ++ Rows.fnExactDeedTextSpec.plain.varTypes Tryd.prog ++ Tryd.f3.resultTypes.toList)) = true := by kernel_rfl
theorem fnExactDeedText_facts : joinedFacts Tryd.prog 3 Tryd.f3 Rows.fnExactDeedTextSpec Rows.fnExactDeedTextRow = true :=
  joinedFacts_of fnExactDeedText_fact0 fnExactDeedText_fact1 fnExactDeedText_fact2 fnExactDeedText_fact3 fnExactDeedText_fact4 fnExactDeedText_fact5 fnExactDeedText_fact6 fnExactDeedText_fact7 fnExactDeedText_fact8 fnExactDeedText_fact9 fnExactDeedText_fact10 fnExactDeedText_fact11 fnExactDeedText_fact12 fnExactDeedText_fact13 fnExactDeedText_fact14 fnExactDeedText_fact15 fnExactDeedText_fact16 fnExactDeedText_fact17 fnExactDeedText_fact18 fnExactDeedText_fact19 fnExactDeedText_fact20 fnExactDeedText_fact21 fnExactDeedText_fact22 fnExactDeedText_fact23 fnExactDeedText_fact24 fnExactDeedText_fact25 fnExactDeedText_fact26 fnExactDeedText_fact27 fnExactDeedText_fact28 fnExactDeedText_fact29 fnExactDeedText_fact30 fnExactDeedText_fact31

set_option maxRecDepth 100000 in
theorem fnExactDeedText_lifted (os : Os) (started : os.Started) (H : Type) (enc : TypeId × Value → H) :
    ReturnsInHanded {} Tryd.checked os 3 .any (fun w args => (Rows.fnExactDeedTextSpec.pre enc Tryd.prog Tryd.f3 Rows.fnExactDeedTextRow.domain false w args ∧ laidMetH Tryd.prog Rows.fnExactDeedTextRow.laid w) ∧ sizedMet enc Tryd.prog Tryd.f3 (OpenSpec.ofChange Rows.fnExactDeedTextSpec) false w args)
      (Rows.fnExactDeedTextSpec.post enc Tryd.prog Tryd.f3 false true false false) := by
  refine returnsInHanded_of_change_and (C := Tryd.checked) (X := fun w _ => laidMetH Tryd.prog Rows.fnExactDeedTextRow.laid w) (fun _ _ _ hh h => h.of_heap hh) own started (by kernel_rfl) Tryd.func3
    (ChangeSpec.witness_shaped (enc := enc) (C := Tryd.checked) (os := os) (X := fun w _ => laidMetH Tryd.prog Rows.fnExactDeedTextRow.laid w) false (World.laidAll Tryd.prog os Rows.fnExactDeedTextRow.laid) #[.agg #[.int .i64 0, .int .i64 0, .int .i64 0]] 8 (World.laidAll_os _ _ _)
      (World.shaped_of_ZipB (by kernel_rfl) (by kernel_rfl)) (by kernel_rfl) (by kernel_rfl) (by kernel_rfl)
      (by rw [MakeChecks.laidMetH_plain _ _ _ (by kernel_rfl)]; exact laidMet_laidAll _ (by kernel_rfl) (by kernel_rfl))) ?_
  intro W base args ds gs before hval0 hW hcnd _ hL _
  have hval : ∀ (j : Nat) t v, Tryd.f3.params[j]? = some t → args[j]? = some v → Value.okWide Tryd.prog W .any base t v := hval0
  have hW' : DataW.Whole enc Tryd.prog Tryd.f3.params.toList Rows.fnExactDeedTextSpec.vars false W args.toList ds gs before := hW
  obtain ⟨p, q, hA0, hV, hpq, hfz, hnd⟩ := hW
  have hA : DataW.TrodAll enc Tryd.prog W 0 (fun _ => true) true Tryd.f3.params.toList args.toList ds p := hA0
  rw [Tryd.params3] at hA hval
  obtain ⟨v0, d0, rfl, rfl, h0⟩ := trodAll_one hA
  obtain ⟨d, hs, r0⟩ := read_deed Tryd.underlying23 oneDeed kDeed Tryd.underlying3 Tryd.underlying3 Tryd.underlying3 (hval 0 23 v0 rfl rfl) h0
  exact law_postV (tb := 4) (gb_of (by kernel_rfl) (by simp [Rows.fnExactDeedTextRow]) hL (fun _ hp => by cases hp)) (s_FnExactDeedText d) (RL_one r0) laidOut
    (by
      rw [Tryd.params3]
      intro t ht
      simp at ht
      subst ht
      exact ⟨rDeed, of_decide_eq_true (by kernel_rfl)⟩) hW' rfl (fun g1 _ => rfl) (by kernel_rfl) Tryd.underlying4 gWords tWords Tryd.underlying62 rWords

theorem fnExactDeedText_holds : Rows.FnExactDeedTextSaid :=
  OpenClaim.holds_of_wide 3 Tryd.f3 rfl rfl rfl rfl rfl rfl rfl ⟨rfl, rfl, rfl, rfl, rfl⟩ rfl rfl rfl rfl rfl (by kernel_rfl) Tryd.func3 fnExactDeedText_facts
    (of_decide_eq_true (by kernel_rfl)) (by unfold Func.isWrapper; first | (rw [if_pos (by decide +kernel)]; kernel_rfl) | (rw [if_neg (by decide +kernel)]; exact ⟨rfl, rfl⟩))
    (fun os started H enc _ => fnExactDeedText_lifted os started H enc)

theorem fnExactDeedText_card_holds : Rows.FnExactDeedTextCardSaid :=
  Claim7.holds_tied_plain_at .later [] [.data, .data, .data, .widerDeep] true (true, "9d6f34a35e15a95c98876e1dfee1fe7e473a8f326694ff565d09015eac068bff") true fnExactDeedText_holds (fun _ h => by cases h) (by kernel_rfl) (fun _ h => by cases h) fnExactDeedText_row_tie rfl ⟨rfl, rfl⟩ (by kernel_rfl) rfl
    (fun f fn hf hfn => by
      obtain rfl : f = 3 := Option.some.inj ((show Tryd.prog.funcNamed "loop.example/dominotilings/laws.FnExactDeedText" = some 3 by kernel_rfl).symm.trans hf) |>.symm
      obtain rfl : fn = Tryd.f3 := (Option.some.inj (Tryd.func3.symm.trans hfn)).symm
      exact ⟨by kernel_rfl, fun j t ht => by
        rw [Tryd.params3] at ht
        have hm : t ∈ [23] := by simpa using Array.mem_of_getElem? ht
        have hall : ([23].all fun u => !Tryd.prog.wantsStandIn u) = true := by kernel_rfl
        exact (show Tryd.prog.wantsStandIn t = false by simpa using List.all_eq_true.1 hall t hm)⟩)
    (by kernel_rfl)

end Go.Proofs.YtiolbpmhnlmmdaaDoor
