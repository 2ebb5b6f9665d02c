/- For every text the law FnExactReadJournal answers true, and the text and the words of deeds read as before; the listed package variables hold what the program's text lays, to which the card ties them. -/
import Derived.Test.YtiolbpmhnlmmdaaDoorAI
import Derived.Test.YtiolbpmhnlmmdaaDoorAJ

set_option linter.unusedSimpArgs false
set_option linter.unusedVariables false

namespace Go.Proofs.YtiolbpmhnlmmdaaDoor
open Go.ChangeShapes Go.WideShapes Go.ChangeAt Go.RowKit Go.Proofs.Dev
theorem fnExactReadJournal_fact0 : (Rows.fnExactReadJournalRow.wf (OpenSpec.ofChange Rows.fnExactReadJournalSpec)) = true := by kernel_rfl
theorem fnExactReadJournal_fact1 : (laidOutB Tryd.prog) = true := by kernel_rfl
theorem fnExactReadJournal_fact2 : (mapsRowed Tryd.prog) = true := by kernel_rfl
theorem fnExactReadJournal_fact3 : (Tryd.f7.params.all (Tryd.prog.readableRec ·)) = true := by kernel_rfl
theorem fnExactReadJournal_fact4 : (namedTie Tryd.prog Rows.fnExactReadJournalRow.named Rows.fnExactReadJournalSpec.vars) = true := by kernel_rfl
theorem fnExactReadJournal_fact5 : ((Rows.fnExactReadJournalRow.stops == [])) = true := by kernel_rfl
theorem fnExactReadJournal_fact6 : ((Tryd.prog.stops == [])) = true := by kernel_rfl
theorem fnExactReadJournal_fact7 : ((Rows.fnExactReadJournalRow.knobs == [])) = true := by kernel_rfl
theorem fnExactReadJournal_fact8 : ((Tryd.prog.stopKnobs == [])) = true := by kernel_rfl
theorem fnExactReadJournal_fact9 : ((Rows.fnExactReadJournalRow.inPlace == Tryd.prog.inPlace 7)) = true := by kernel_rfl
theorem fnExactReadJournal_fact10 : ((Rows.fnExactReadJournalRow.unfollowed == Tryd.prog.unfollowed 7)) = true := by kernel_rfl
theorem fnExactReadJournal_fact11 : ((Rows.fnExactReadJournalRow.recurses == Tryd.prog.recurses 7)) = true := by kernel_rfl
theorem fnExactReadJournal_fact12 : ((Rows.fnExactReadJournalRow.named == Tryd.prog.varsNamed 7)) = true := by kernel_rfl
theorem fnExactReadJournal_fact13 : ((Rows.fnExactReadJournalRow.maps == (Tryd.f7.params.toList ++ Rows.fnExactReadJournalSpec.plain.varTypes Tryd.prog).any (Tryd.prog.mapsRec ·))) = true := by kernel_rfl
theorem fnExactReadJournal_fact14 : ((Rows.fnExactReadJournalRow.ifaces == (Tryd.f7.params.toList ++ Rows.fnExactReadJournalSpec.plain.varTypes Tryd.prog).any (Tryd.prog.ifacesRec ·))) = true := by kernel_rfl
theorem fnExactReadJournal_fact15 : ((Rows.fnExactReadJournalRow.mapsOut == Tryd.prog.mapsAmong Tryd.f7.resultTypes.toList)) = true := by kernel_rfl
theorem fnExactReadJournal_fact16 : ((Rows.fnExactReadJournalRow.loops == (Tryd.f7.params.toList ++ Rows.fnExactReadJournalSpec.plain.varTypes Tryd.prog).any (Tryd.prog.loopsFrom ·))) = true := by kernel_rfl
theorem fnExactReadJournal_fact17 : ((Rows.fnExactReadJournalRow.wideKeys == (Tryd.f7.params.toList ++ Rows.fnExactReadJournalSpec.plain.varTypes Tryd.prog ++ Tryd.f7.resultTypes.toList).any (Tryd.prog.wideKeysFrom ·))) = true := by kernel_rfl
theorem fnExactReadJournal_fact18 : (Rows.fnExactReadJournalSpec.vars.all (Tryd.prog.varReadable ·)) = true := by kernel_rfl
theorem fnExactReadJournal_fact19 : (Tryd.f7.resultTypes.all (fun t => Tryd.prog.readableRec t && decide (t < Tryd.prog.types.size))) = true := by kernel_rfl
theorem fnExactReadJournal_fact20 : ((Rows.fnExactReadJournalRow.ifacesOut == Tryd.f7.resultTypes.toList.any (Tryd.prog.ifacesRec ·))) = true := by kernel_rfl
theorem fnExactReadJournal_fact21 : ((Rows.fnExactReadJournalRow.loopsOut == Tryd.f7.resultTypes.toList.any (Tryd.prog.loopsFrom ·))) = true := by kernel_rfl
theorem fnExactReadJournal_fact22 : ((Rows.fnExactReadJournalRow.plainKeys == Tryd.prog.plainKeys)) = true := by kernel_rfl
theorem fnExactReadJournal_fact23 : (Rows.fnExactReadJournalRow.shortTexts.isNone) = true := by kernel_rfl
theorem fnExactReadJournal_fact24 : (Tryd.prog.stopsHeard) = true := by kernel_rfl
theorem fnExactReadJournal_fact25 : (Tryd.prog.mayEnter) = true := fact_mayEnter
theorem fnExactReadJournal_fact26 : ((Rows.fnExactReadJournalRow.lifted == Tryd.prog.liftsFinal)) = true := by rw [fact_liftsFinal]; rfl
theorem fnExactReadJournal_fact27 : ((Tryd.prog.make == some Rows.fnExactReadJournalRow.make)) = true := by rw [fact_make]; rfl
theorem fnExactReadJournal_fact28 : Rows.fnExactReadJournalRow.domain = [] ∧ Rows.fnExactReadJournalRow.kinds = [] := ⟨rfl, rfl⟩
theorem fnExactReadJournal_fact29 : ((Rows.fnExactReadJournalRow.pinned == Rows.fnExactReadJournalRow.pinnedBy)) = true := by kernel_rfl
theorem fnExactReadJournal_fact30 : ((Rows.fnExactReadJournalRow.veiled == (Tryd.f7.params.toList ++ Rows.fnExactReadJournalSpec.plain.varTypes Tryd.prog ++ Tryd.f7.resultTypes.toList).any (Tryd.prog.veiledRec ·))) = true := by kernel_rfl
theorem fnExactReadJournal_fact31 : (Rows.fnExactReadJournalRow.veiledFits Tryd.prog Tryd.f7.params.toList (Tryd.f7.params.toList ++ Rows.fnExactReadJournalSpec.plain.varTypes Tryd.prog ++ Tryd.f7.resultTypes.toList)) = true := by kernel_rfl
theorem fnExactReadJournal_facts : joinedFacts Tryd.prog 7 Tryd.f7 Rows.fnExactReadJournalSpec Rows.fnExactReadJournalRow = true :=
  joinedFacts_of fnExactReadJournal_fact0 fnExactReadJournal_fact1 fnExactReadJournal_fact2 fnExactReadJournal_fact3 fnExactReadJournal_fact4 fnExactReadJournal_fact5 fnExactReadJournal_fact6 fnExactReadJournal_fact7 fnExactReadJournal_fact8 fnExactReadJournal_fact9 fnExactReadJournal_fact10 fnExactReadJournal_fact11 fnExactReadJournal_fact12 fnExactReadJournal_fact13 fnExactReadJournal_fact14 fnExactReadJournal_fact15 fnExactReadJournal_fact16 fnExactReadJournal_fact17 fnExactReadJournal_fact18 fnExactReadJournal_fact19 fnExactReadJournal_fact20 fnExactReadJournal_fact21 fnExactReadJournal_fact22 fnExactReadJournal_fact23 fnExactReadJournal_fact24 fnExactReadJournal_fact25 fnExactReadJournal_fact26 fnExactReadJournal_fact27 fnExactReadJournal_fact28 fnExactReadJournal_fact29 fnExactReadJournal_fact30 fnExactReadJournal_fact31

set_option maxRecDepth 100000 in
theorem fnExactReadJournal_lifted (os : Os) (started : os.Started) (H : Type) (enc : TypeId × Value → H) :
    ReturnsInHanded {} Tryd.checked os 7 .any (fun w args => (Rows.fnExactReadJournalSpec.pre enc Tryd.prog Tryd.f7 Rows.fnExactReadJournalRow.domain false w args ∧ laidMetH Tryd.prog Rows.fnExactReadJournalRow.laid w) ∧ sizedMet enc Tryd.prog Tryd.f7 (OpenSpec.ofChange Rows.fnExactReadJournalSpec) false w args)
      (Rows.fnExactReadJournalSpec.post enc Tryd.prog Tryd.f7 false true false false) := by
  refine returns_shaped (C := Tryd.checked) (X := fun w _ => laidMetH Tryd.prog Rows.fnExactReadJournalRow.laid w) (fun _ _ _ hh h => h.of_heap hh) own started (by kernel_rfl) Tryd.func7
    (ChangeSpec.witness_shaped (enc := enc) (C := Tryd.checked) (os := os) (X := fun w _ => laidMetH Tryd.prog Rows.fnExactReadJournalRow.laid w) false (World.laidAll Tryd.prog os Rows.fnExactReadJournalRow.laid) #[.string ⟨#[]⟩] 8 (World.laidAll_os _ _ _)
      (World.shaped_of_ZipB (by kernel_rfl) (by kernel_rfl)) (by kernel_rfl) (by kernel_rfl) (by kernel_rfl)
      (by rw [MakeChecks.laidMetH_plain _ _ _ (by kernel_rfl)]; exact laidMet_laidAll _ (by kernel_rfl) (by kernel_rfl))) ?_
  intro W base args ds gs before hval0 hW hcnd _ hL hsh
  have hval : ∀ (j : Nat) t v, Tryd.f7.params[j]? = some t → args[j]? = some v → Value.okWide Tryd.prog W .any base t v := hval0
  have hW' : DataW.Whole enc Tryd.prog Tryd.f7.params.toList Rows.fnExactReadJournalSpec.vars false W args.toList ds gs before := hW
  obtain ⟨p, q, hA0, hV, hpq, hfz, hnd⟩ := hW
  have hA : DataW.TrodAll enc Tryd.prog W 0 (fun _ => true) true Tryd.f7.params.toList args.toList ds p := hA0
  rw [Tryd.params7] at hA hval
  obtain ⟨v0, d0, rfl, rfl, h0⟩ := trodAll_one hA
  obtain ⟨xs, hx, r0⟩ := read_text Tryd.underlying9 (hval 0 9 v0 rfl rfl) h0
  exact law_postV (tb := 4) (gb_of (by kernel_rfl) (by simp [Rows.fnExactReadJournalRow]) hL (gp_of (by kernel_rfl) (by simp [Rows.fnExactReadJournalRow]) (by simp [Rows.fnExactReadJournalRow]) hsh hL)) (s_FnExactReadJournal xs hx) (RL_one r0) laidOut
    (by
      rw [Tryd.params7]
      intro t ht
      simp at ht
      subst ht
      exact ⟨rStr, of_decide_eq_true (by kernel_rfl)⟩) hW' rfl (fun g1 _ => rfl) (by kernel_rfl) Tryd.underlying4 gWords tWords Tryd.underlying62 rWords

theorem fnExactReadJournal_holds : Rows.FnExactReadJournalSaid :=
  OpenClaim.holds_of_wide 7 Tryd.f7 rfl rfl rfl rfl rfl rfl rfl ⟨rfl, rfl, rfl, rfl, rfl⟩ rfl rfl rfl rfl rfl (by kernel_rfl) Tryd.func7 fnExactReadJournal_facts
    (of_decide_eq_true (by kernel_rfl)) (by unfold Func.isWrapper; first | (rw [if_pos (by decide +kernel)]; kernel_rfl) | (rw [if_neg (by decide +kernel)]; exact ⟨rfl, rfl⟩))
    (fun os started H enc _ => fnExactReadJournal_lifted os started H enc)

theorem fnExactReadJournal_card_holds : Rows.FnExactReadJournalCardSaid :=
  Claim7.holds_tied_plain_at .later [] [.data, .data, .data, .data, .sentinel, .sentinel, .widerDeep, .pinned] true (true, "9d6f34a35e15a95c98876e1dfee1fe7e473a8f326694ff565d09015eac068bff") true fnExactReadJournal_holds (fun _ h => by cases h) (by kernel_rfl) (fun _ h => by cases h) fnExactReadJournal_row_tie rfl ⟨rfl, rfl⟩ (by kernel_rfl) rfl
    (fun f fn hf hfn => by
      obtain rfl : f = 7 := Option.some.inj ((show Tryd.prog.funcNamed "loop.example/dominotilings/laws.FnExactReadJournal" = some 7 by kernel_rfl).symm.trans hf) |>.symm
      obtain rfl : fn = Tryd.f7 := (Option.some.inj (Tryd.func7.symm.trans hfn)).symm
      exact ⟨by kernel_rfl, fun j t ht => by
        rw [Tryd.params7] at ht
        have hm : t ∈ [9] := by simpa using Array.mem_of_getElem? ht
        have hall : ([9].all fun u => !Tryd.prog.wantsStandIn u) = true := by kernel_rfl
        exact (show Tryd.prog.wantsStandIn t = false by simpa using List.all_eq_true.1 hall t hm)⟩)
    (by kernel_rfl)

end Go.Proofs.YtiolbpmhnlmmdaaDoor
