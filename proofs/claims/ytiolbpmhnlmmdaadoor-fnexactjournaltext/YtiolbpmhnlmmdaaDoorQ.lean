/- For every list of deeds the law FnExactJournalText answers true, and the list and the words of deeds read as before; the listed package variables hold what the program's text lays, to which the card ties them. -/
import Derived.Test.YtiolbpmhnlmmdaaDoorAJ
import Derived.Test.YtiolbpmhnlmmdaaDoorAK

set_option linter.unusedSimpArgs false
set_option linter.unusedVariables false

namespace Go.Proofs.YtiolbpmhnlmmdaaDoor
open Go.ChangeShapes Go.WideShapes Go.ChangeAt Go.RowKit Go.Proofs.Dev
theorem fnExactJournalText_fact0 : (Rows.fnExactJournalTextRow.wf (OpenSpec.ofChange Rows.fnExactJournalTextSpec)) = true := by kernel_rfl
theorem fnExactJournalText_fact1 : (laidOutB Tryd.prog) = true := by kernel_rfl
theorem fnExactJournalText_fact2 : (mapsRowed Tryd.prog) = true := by kernel_rfl
theorem fnExactJournalText_fact3 : (Tryd.f4.params.all (Tryd.prog.readableRec ·)) = true := by kernel_rfl
theorem fnExactJournalText_fact4 : (namedTie Tryd.prog Rows.fnExactJournalTextRow.named Rows.fnExactJournalTextSpec.vars) = true := by kernel_rfl
theorem fnExactJournalText_fact5 : ((Rows.fnExactJournalTextRow.stops == [])) = true := by kernel_rfl
theorem fnExactJournalText_fact6 : ((Tryd.prog.stops == [])) = true := by kernel_rfl
theorem fnExactJournalText_fact7 : ((Rows.fnExactJournalTextRow.knobs == [])) = true := by kernel_rfl
theorem fnExactJournalText_fact8 : ((Tryd.prog.stopKnobs == [])) = true := by kernel_rfl
theorem fnExactJournalText_fact9 : ((Rows.fnExactJournalTextRow.inPlace == Tryd.prog.inPlace 4)) = true := by kernel_rfl
theorem fnExactJournalText_fact10 : ((Rows.fnExactJournalTextRow.unfollowed == Tryd.prog.unfollowed 4)) = true := by kernel_rfl
theorem fnExactJournalText_fact11 : ((Rows.fnExactJournalTextRow.recurses == Tryd.prog.recurses 4)) = true := by kernel_rfl
theorem fnExactJournalText_fact12 : ((Rows.fnExactJournalTextRow.named == Tryd.prog.varsNamed 4)) = true := by kernel_rfl
theorem fnExactJournalText_fact13 : ((Rows.fnExactJournalTextRow.maps == (Tryd.f4.params.toList ++ Rows.fnExactJournalTextSpec.plain.varTypes Tryd.prog).any (Tryd.prog.mapsRec ·))) = true := by kernel_rfl
theorem fnExactJournalText_fact14 : ((Rows.fnExactJournalTextRow.ifaces == (Tryd.f4.params.toList ++ Rows.fnExactJournalTextSpec.plain.varTypes Tryd.prog).any (Tryd.prog.ifacesRec ·))) = true := by kernel_rfl
theorem fnExactJournalText_fact15 : ((Rows.fnExactJournalTextRow.mapsOut == Tryd.prog.mapsAmong Tryd.f4.resultTypes.toList)) = true := by kernel_rfl
theorem fnExactJournalText_fact16 : ((Rows.fnExactJournalTextRow.loops == (Tryd.f4.params.toList ++ Rows.fnExactJournalTextSpec.plain.varTypes Tryd.prog).any (Tryd.prog.loopsFrom ·))) = true := by kernel_rfl
theorem fnExactJournalText_fact17 : ((Rows.fnExactJournalTextRow.wideKeys == (Tryd.f4.params.toList ++ Rows.fnExactJournalTextSpec.plain.varTypes Tryd.prog ++ Tryd.f4.resultTypes.toList).any (Tryd.prog.wideKeysFrom ·))) = true := by kernel_rfl
theorem fnExactJournalText_fact18 : (Rows.fnExactJournalTextSpec.vars.all (Tryd.prog.varReadable ·)) = true := by kernel_rfl
theorem fnExactJournalText_fact19 : (Tryd.f4.resultTypes.all (fun t => Tryd.prog.readableRec t && decide (t < Tryd.prog.types.size))) = true := by kernel_rfl
theorem fnExactJournalText_fact20 : ((Rows.fnExactJournalTextRow.ifacesOut == Tryd.f4.resultTypes.toList.any (Tryd.prog.ifacesRec ·))) = true := by kernel_rfl
theorem fnExactJournalText_fact21 : ((Rows.fnExactJournalTextRow.loopsOut == Tryd.f4.resultTypes.toList.any (Tryd.prog.loopsFrom ·))) = true := by kernel_rfl
theorem fnExactJournalText_fact22 : ((Rows.fnExactJournalTextRow.plainKeys == Tryd.prog.plainKeys)) = true := by kernel_rfl
theorem fnExactJournalText_fact23 : (Rows.fnExactJournalTextRow.shortTexts.isNone) = true := by kernel_rfl
theorem fnExactJournalText_fact24 : (Tryd.prog.stopsHeard) = true := by kernel_rfl
theorem fnExactJournalText_fact25 : (Tryd.prog.mayEnter) = true := fact_mayEnter
theorem fnExactJournalText_fact26 : ((Rows.fnExactJournalTextRow.lifted == Tryd.prog.liftsFinal)) = true := by rw [fact_liftsFinal]; rfl
theorem fnExactJournalText_fact27 : ((Tryd.prog.make == some Rows.fnExactJournalTextRow.make)) = true := by rw [fact_make]; rfl
theorem fnExactJournalText_fact28 : Rows.fnExactJournalTextRow.domain = [] ∧ Rows.fnExactJournalTextRow.kinds = [] := ⟨rfl, rfl⟩
theorem fnExactJournalText_fact29 : ((Rows.fnExactJournalTextRow.pinned == Rows.fnExactJournalTextRow.pinnedBy)) = true := by kernel_rfl
theorem fnExactJournalText_fact30 : ((Rows.fnExactJournalTextRow.veiled == (Tryd.f4.params.toList ++ Rows.fnExactJournalTextSpec.plain.varTypes Tryd.prog ++ Tryd.f4.resultTypes.toList).any (Tryd.prog.veiledRec ·))) = true := by kernel_rfl
theorem fnExactJournalText_fact31 : (Rows.fnExactJournalTextRow.veiledFits Tryd.prog Tryd.f4.params.toList (Tryd.f4.params.toList ++ Rows.fnExactJournalTextSpec.plain.varTypes Tryd.prog ++ Tryd.f4.resultTypes.toList)) = true := by kernel_rfl
theorem fnExactJournalText_facts : joinedFacts Tryd.prog 4 Tryd.f4 Rows.fnExactJournalTextSpec Rows.fnExactJournalTextRow = true :=
  joinedFacts_of fnExactJournalText_fact0 fnExactJournalText_fact1 fnExactJournalText_fact2 fnExactJournalText_fact3 fnExactJournalText_fact4 fnExactJournalText_fact5 fnExactJournalText_fact6 fnExactJournalText_fact7 fnExactJournalText_fact8 fnExactJournalText_fact9 fnExactJournalText_fact10 fnExactJournalText_fact11 fnExactJournalText_fact12 fnExactJournalText_fact13 fnExactJournalText_fact14 fnExactJournalText_fact15 fnExactJournalText_fact16 fnExactJournalText_fact17 fnExactJournalText_fact18 fnExactJournalText_fact19 fnExactJournalText_fact20 fnExactJournalText_fact21 fnExactJournalText_fact22 fnExactJournalText_fact23 fnExactJournalText_fact24 fnExactJournalText_fact25 fnExactJournalText_fact26 fnExactJournalText_fact27 fnExactJournalText_fact28 fnExactJournalText_fact29 fnExactJournalText_fact30 fnExactJournalText_fact31

set_option maxRecDepth 100000 in
theorem fnExactJournalText_lifted (os : Os) (started : os.Started) (H : Type) (enc : TypeId × Value → H) :
    ReturnsInHanded {} Tryd.checked os 4 .any (fun w args => (Rows.fnExactJournalTextSpec.pre enc Tryd.prog Tryd.f4 Rows.fnExactJournalTextRow.domain false w args ∧ laidMetH Tryd.prog Rows.fnExactJournalTextRow.laid w) ∧ sizedMet enc Tryd.prog Tryd.f4 (OpenSpec.ofChange Rows.fnExactJournalTextSpec) false w args)
      (Rows.fnExactJournalTextSpec.post enc Tryd.prog Tryd.f4 false true false false) := by
  refine returnsInHanded_of_change_and (C := Tryd.checked) (X := fun w _ => laidMetH Tryd.prog Rows.fnExactJournalTextRow.laid w) (fun _ _ _ hh h => h.of_heap hh) own started (by kernel_rfl) Tryd.func4
    (ChangeSpec.witness_shaped (enc := enc) (C := Tryd.checked) (os := os) (X := fun w _ => laidMetH Tryd.prog Rows.fnExactJournalTextRow.laid w) false (World.laidAll Tryd.prog os Rows.fnExactJournalTextRow.laid) #[.slice none 0 0] 8 (World.laidAll_os _ _ _)
      (World.shaped_of_ZipB (by kernel_rfl) (by kernel_rfl)) (by kernel_rfl) (by kernel_rfl) (by kernel_rfl)
      (by rw [MakeChecks.laidMetH_plain _ _ _ (by kernel_rfl)]; exact laidMet_laidAll _ (by kernel_rfl) (by kernel_rfl))) ?_
  intro W base args ds gs before hval0 hW hcnd _ hL _
  have hval : ∀ (j : Nat) t v, Tryd.f4.params[j]? = some t → args[j]? = some v → Value.okWide Tryd.prog W .any base t v := hval0
  have hW' : DataW.Whole enc Tryd.prog Tryd.f4.params.toList Rows.fnExactJournalTextSpec.vars false W args.toList ds gs before := hW
  obtain ⟨p, q, hA0, hV, hpq, hfz, hnd⟩ := hW
  have hA : DataW.TrodAll enc Tryd.prog W 0 (fun _ => true) true Tryd.f4.params.toList args.toList ds p := hA0
  rw [Tryd.params4] at hA hval
  obtain ⟨v0, d0, rfl, rfl, h0⟩ := trodAll_one hA
  obtain ⟨xs, hx, hs, r0⟩ := read_deeds Tryd.underlying28 Tryd.underlying23 kDeed rfl rfl rfl kInt kInt kInt Tryd.underlying3 Tryd.underlying3 Tryd.underlying3 (hval 0 28 v0 rfl rfl) h0
  have hm : maxLen ≤ 9223372036854775807 := by decide
  exact law_postV (tb := 4) (gb_of (by kernel_rfl) (by simp [Rows.fnExactJournalTextRow]) hL (fun _ hp => by cases hp)) (s_FnExactJournalText xs (Nat.le_trans hx hm)) (RL_one r0) laidOut
    (by
      rw [Tryd.params4]
      intro t ht
      simp at ht
      subst ht
      exact ⟨rDeeds, of_decide_eq_true (by kernel_rfl)⟩) hW' rfl (fun g1 _ => rfl) (by kernel_rfl) Tryd.underlying4 gWords tWords Tryd.underlying62 rWords

theorem fnExactJournalText_holds : Rows.FnExactJournalTextSaid :=
  OpenClaim.holds_of_wide 4 Tryd.f4 rfl rfl rfl rfl rfl rfl rfl ⟨rfl, rfl, rfl, rfl, rfl⟩ rfl rfl rfl rfl rfl (by kernel_rfl) Tryd.func4 fnExactJournalText_facts
    (of_decide_eq_true (by kernel_rfl)) (by unfold Func.isWrapper; first | (rw [if_pos (by decide +kernel)]; kernel_rfl) | (rw [if_neg (by decide +kernel)]; exact ⟨rfl, rfl⟩))
    (fun os started H enc _ => fnExactJournalText_lifted os started H enc)

theorem fnExactJournalText_card_holds : Rows.FnExactJournalTextCardSaid :=
  Claim7.holds_tied_plain_at .later [] [.data, .data, .data, .widerDeep] true (true, "9d6f34a35e15a95c98876e1dfee1fe7e473a8f326694ff565d09015eac068bff") true fnExactJournalText_holds (fun _ h => by cases h) (by kernel_rfl) (fun _ h => by cases h) fnExactJournalText_row_tie rfl ⟨rfl, rfl⟩ (by kernel_rfl) rfl
    (fun f fn hf hfn => by
      obtain rfl : f = 4 := Option.some.inj ((show Tryd.prog.funcNamed "loop.example/dominotilings/laws.FnExactJournalText" = some 4 by kernel_rfl).symm.trans hf) |>.symm
      obtain rfl : fn = Tryd.f4 := (Option.some.inj (Tryd.func4.symm.trans hfn)).symm
      exact ⟨by kernel_rfl, fun j t ht => by
        rw [Tryd.params4] at ht
        have hm : t ∈ [28] := by simpa using Array.mem_of_getElem? ht
        have hall : ([28].all fun u => !Tryd.prog.wantsStandIn u) = true := by kernel_rfl
        exact (show Tryd.prog.wantsStandIn t = false by simpa using List.all_eq_true.1 hall t hm)⟩)
    (by kernel_rfl)

end Go.Proofs.YtiolbpmhnlmmdaaDoor
