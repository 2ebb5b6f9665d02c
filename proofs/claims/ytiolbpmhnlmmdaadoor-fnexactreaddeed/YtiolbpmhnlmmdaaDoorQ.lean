/- For every text the law FnExactReadDeed answers true, and the text and the words of deeds read as before; the listed package variables hold what the program's text lays, to which the card ties them. -/
import Derived.Test.YtiolbpmhnlmmdaaDoorAI
import Derived.Test.YtiolbpmhnlmmdaaDoorAJ

set_option linter.unusedSimpArgs false
set_option linter.unusedVariables false

namespace Go.Proofs.YtiolbpmhnlmmdaaDoor
open Go.ChangeShapes Go.WideShapes Go.ChangeAt Go.RowKit Go.Proofs.Dev
theorem fnExactReadDeed_fact0 : (Rows.fnExactReadDeedRow.wf (OpenSpec.ofChange Rows.fnExactReadDeedSpec)) = true := by kernel_rfl
theorem fnExactReadDeed_fact1 : (laidOutB Tryd.prog) = true := by kernel_rfl
theorem fnExactReadDeed_fact2 : (mapsRowed Tryd.prog) = true := by kernel_rfl
theorem fnExactReadDeed_fact3 : (Tryd.f6.params.all (Tryd.prog.readableRec ·)) = true := by kernel_rfl
theorem fnExactReadDeed_fact4 : (namedTie Tryd.prog Rows.fnExactReadDeedRow.named Rows.fnExactReadDeedSpec.vars) = true := by kernel_rfl
theorem fnExactReadDeed_fact5 : ((Rows.fnExactReadDeedRow.stops == [])) = true := by kernel_rfl
theorem fnExactReadDeed_fact6 : ((Tryd.prog.stops == [])) = true := by kernel_rfl
theorem fnExactReadDeed_fact7 : ((Rows.fnExactReadDeedRow.knobs == [])) = true := by kernel_rfl
theorem fnExactReadDeed_fact8 : ((Tryd.prog.stopKnobs == [])) = true := by kernel_rfl
theorem fnExactReadDeed_fact9 : ((Rows.fnExactReadDeedRow.inPlace == Tryd.prog.inPlace 6)) = true := by kernel_rfl
theorem fnExactReadDeed_fact10 : ((Rows.fnExactReadDeedRow.unfollowed == Tryd.prog.unfollowed 6)) = true := by kernel_rfl
theorem fnExactReadDeed_fact11 : ((Rows.fnExactReadDeedRow.recurses == Tryd.prog.recurses 6)) = true := by kernel_rfl
theorem fnExactReadDeed_fact12 : ((Rows.fnExactReadDeedRow.named == Tryd.prog.varsNamed 6)) = true := by kernel_rfl
theorem fnExactReadDeed_fact13 : ((Rows.fnExactReadDeedRow.maps == (Tryd.f6.params.toList ++ Rows.fnExactReadDeedSpec.plain.varTypes Tryd.prog).any (Tryd.prog.mapsRec ·))) = true := by kernel_rfl
theorem fnExactReadDeed_fact14 : ((Rows.fnExactReadDeedRow.ifaces == (Tryd.f6.params.toList ++ Rows.fnExactReadDeedSpec.plain.varTypes Tryd.prog).any (Tryd.prog.ifacesRec ·))) = true := by kernel_rfl
theorem fnExactReadDeed_fact15 : ((Rows.fnExactReadDeedRow.mapsOut == Tryd.prog.mapsAmong Tryd.f6.resultTypes.toList)) = true := by kernel_rfl
theorem fnExactReadDeed_fact16 : ((Rows.fnExactReadDeedRow.loops == (Tryd.f6.params.toList ++ Rows.fnExactReadDeedSpec.plain.varTypes Tryd.prog).any (Tryd.prog.loopsFrom ·))) = true := by kernel_rfl
theorem fnExactReadDeed_fact17 : ((Rows.fnExactReadDeedRow.wideKeys == (Tryd.f6.params.toList ++ Rows.fnExactReadDeedSpec.plain.varTypes Tryd.prog ++ Tryd.f6.resultTypes.toList).any (Tryd.prog.wideKeysFrom ·))) = true := by kernel_rfl
theorem fnExactReadDeed_fact18 : (Rows.fnExactReadDeedSpec.vars.all (Tryd.prog.varReadable ·)) = true := by kernel_rfl
theorem fnExactReadDeed_fact19 : (Tryd.f6.resultTypes.all (fun t => Tryd.prog.readableRec t && decide (t < Tryd.prog.types.size))) = true := by kernel_rfl
theorem fnExactReadDeed_fact20 : ((Rows.fnExactReadDeedRow.ifacesOut == Tryd.f6.resultTypes.toList.any (Tryd.prog.ifacesRec ·))) = true := by kernel_rfl
theorem fnExactReadDeed_fact21 : ((Rows.fnExactReadDeedRow.loopsOut == Tryd.f6.resultTypes.toList.any (Tryd.prog.loopsFrom ·))) = true := by kernel_rfl
theorem fnExactReadDeed_fact22 : ((Rows.fnExactReadDeedRow.plainKeys == Tryd.prog.plainKeys)) = true := by kernel_rfl
theorem fnExactReadDeed_fact23 : (Rows.fnExactReadDeedRow.shortTexts.isNone) = true := by kernel_rfl
theorem fnExactReadDeed_fact24 : (Tryd.prog.stopsHeard) = true := by kernel_rfl
theorem fnExactReadDeed_fact25 : (Tryd.prog.mayEnter) = true := fact_mayEnter
theorem fnExactReadDeed_fact26 : ((Rows.fnExactReadDeedRow.lifted == Tryd.prog.liftsFinal)) = true := by rw [fact_liftsFinal]; rfl
theorem fnExactReadDeed_fact27 : ((Tryd.prog.make == some Rows.fnExactReadDeedRow.make)) = true := by rw [fact_make]; rfl
theorem fnExactReadDeed_fact28 : Rows.fnExactReadDeedRow.domain = [] ∧ Rows.fnExactReadDeedRow.kinds = [] := ⟨rfl, rfl⟩
theorem fnExactReadDeed_fact29 : ((Rows.fnExactReadDeedRow.pinned == Rows.fnExactReadDeedRow.pinnedBy)) = true := by kernel_rfl
theorem fnExactReadDeed_fact30 : ((Rows.fnExactReadDeedRow.veiled == (Tryd.f6.params.toList ++ Rows.fnExactReadDeedSpec.plain.varTypes Tryd.prog ++ Tryd.f6.resultTypes.toList).any (Tryd.prog.veiledRec ·))) = true := by kernel_rfl
theorem fnExactReadDeed_fact31 : (Rows.fnExactReadDeedRow.veiledFits Tryd.prog Tryd.f6.params.toList (Tryd.f6.params.toList ++ Rows.fnExactReadDeedSpec.plain.varTypes Tryd.prog ++ Tryd.f6.resultTypes.toList)) = true := by kernel_rfl
theorem fnExactReadDeed_facts : joinedFacts Tryd.prog 6 Tryd.f6 Rows.fnExactReadDeedSpec Rows.fnExactReadDeedRow = true :=
  joinedFacts_of fnExactReadDeed_fact0 fnExactReadDeed_fact1 fnExactReadDeed_fact2 fnExactReadDeed_fact3 fnExactReadDeed_fact4 fnExactReadDeed_fact5 fnExactReadDeed_fact6 fnExactReadDeed_fact7 fnExactReadDeed_fact8 fnExactReadDeed_fact9 fnExactReadDeed_fact10 fnExactReadDeed_fact11 fnExactReadDeed_fact12 fnExactReadDeed_fact13 fnExactReadDeed_fact14 fnExactReadDeed_fact15 fnExactReadDeed_fact16 fnExactReadDeed_fact17 fnExactReadDeed_fact18 fnExactReadDeed_fact19 fnExactReadDeed_fact20 fnExactReadDeed_fact21 fnExactReadDeed_fact22 fnExactReadDeed_fact23 fnExactReadDeed_fact24 fnExactReadDeed_fact25 fnExactReadDeed_fact26 fnExactReadDeed_fact27 fnExactReadDeed_fact28 fnExactReadDeed_fact29 fnExactReadDeed_fact30 fnExactReadDeed_fact31

set_option maxRecDepth 100000 in
theorem fnExactReadDeed_lifted (os : Os) (started : os.Started) (H : Type) (enc : TypeId × Value → H) :
    ReturnsInHanded {} Tryd.checked os 6 .any (fun w args => (Rows.fnExactReadDeedSpec.pre enc Tryd.prog Tryd.f6 Rows.fnExactReadDeedRow.domain false w args ∧ laidMetH Tryd.prog Rows.fnExactReadDeedRow.laid w) ∧ sizedMet enc Tryd.prog Tryd.f6 (OpenSpec.ofChange Rows.fnExactReadDeedSpec) false w args)
      (Rows.fnExactReadDeedSpec.post enc Tryd.prog Tryd.f6 false true false false) := by
  refine returns_shaped (C := Tryd.checked) (X := fun w _ => laidMetH Tryd.prog Rows.fnExactReadDeedRow.laid w) (fun _ _ _ hh h => h.of_heap hh) own started (by kernel_rfl) Tryd.func6
    (ChangeSpec.witness_shaped (enc := enc) (C := Tryd.checked) (os := os) (X := fun w _ => laidMetH Tryd.prog Rows.fnExactReadDeedRow.laid w) false (World.laidAll Tryd.prog os Rows.fnExactReadDeedRow.laid) #[.string ⟨#[]⟩] 8 (World.laidAll_os _ _ _)
      (World.shaped_of_ZipB (by kernel_rfl) (by kernel_rfl)) (by kernel_rfl) (by kernel_rfl) (by kernel_rfl)
      (by rw [MakeChecks.laidMetH_plain _ _ _ (by kernel_rfl)]; exact laidMet_laidAll _ (by kernel_rfl) (by kernel_rfl))) ?_
  intro W base args ds gs before hval0 hW hcnd _ hL hsh
  have hval : ∀ (j : Nat) t v, Tryd.f6.params[j]? = some t → args[j]? = some v → Value.okWide Tryd.prog W .any base t v := hval0
  have hW' : DataW.Whole enc Tryd.prog Tryd.f6.params.toList Rows.fnExactReadDeedSpec.vars false W args.toList ds gs before := hW
  obtain ⟨p, q, hA0, hV, hpq, hfz, hnd⟩ := hW
  have hA : DataW.TrodAll enc Tryd.prog W 0 (fun _ => true) true Tryd.f6.params.toList args.toList ds p := hA0
  rw [Tryd.params6] at hA hval
  obtain ⟨v0, d0, rfl, rfl, h0⟩ := trodAll_one hA
  obtain ⟨xs, hx, r0⟩ := read_text Tryd.underlying9 (hval 0 9 v0 rfl rfl) h0
  exact law_postV (tb := 4) (gb_of (by kernel_rfl) (by simp [Rows.fnExactReadDeedRow]) hL (gp_of (by kernel_rfl) (by simp [Rows.fnExactReadDeedRow]) (by simp [Rows.fnExactReadDeedRow]) hsh hL)) (s_FnExactReadDeed xs hx) (RL_one r0) laidOut
    (by
      rw [Tryd.params6]
      intro t ht
      simp at ht
      subst ht
      exact ⟨rStr, of_decide_eq_true (by kernel_rfl)⟩) hW' rfl (fun g1 _ => rfl) (by kernel_rfl) Tryd.underlying4 gWords tWords Tryd.underlying62 rWords

theorem fnExactReadDeed_holds : Rows.FnExactReadDeedSaid :=
  OpenClaim.holds_of_wide 6 Tryd.f6 rfl rfl rfl rfl rfl rfl rfl ⟨rfl, rfl, rfl, rfl, rfl⟩ rfl rfl rfl rfl rfl (by kernel_rfl) Tryd.func6 fnExactReadDeed_facts
    (of_decide_eq_true (by kernel_rfl)) (by unfold Func.isWrapper; first | (rw [if_pos (by decide +kernel)]; kernel_rfl) | (rw [if_neg (by decide +kernel)]; exact ⟨rfl, rfl⟩))
    (fun os started H enc _ => fnExactReadDeed_lifted os started H enc)

theorem fnExactReadDeed_card_holds : Rows.FnExactReadDeedCardSaid :=
  Claim7.holds_tied_plain_at .later [] [.data, .data, .data, .data, .sentinel, .sentinel, .widerDeep, .pinned] true (true, "9d6f34a35e15a95c98876e1dfee1fe7e473a8f326694ff565d09015eac068bff") true fnExactReadDeed_holds (fun _ h => by cases h) (by kernel_rfl) (fun _ h => by cases h) fnExactReadDeed_row_tie rfl ⟨rfl, rfl⟩ (by kernel_rfl) rfl
    (fun f fn hf hfn => by
      obtain rfl : f = 6 := Option.some.inj ((show Tryd.prog.funcNamed "loop.example/dominotilings/laws.FnExactReadDeed" = some 6 by kernel_rfl).symm.trans hf) |>.symm
      obtain rfl : fn = Tryd.f6 := (Option.some.inj (Tryd.func6.symm.trans hfn)).symm
      exact ⟨by kernel_rfl, fun j t ht => by
        rw [Tryd.params6] at ht
        have hm : t ∈ [9] := by simpa using Array.mem_of_getElem? ht
        have hall : ([9].all fun u => !Tryd.prog.wantsStandIn u) = true := by kernel_rfl
        exact (show Tryd.prog.wantsStandIn t = false by simpa using List.all_eq_true.1 hall t hm)⟩)
    (by kernel_rfl)

end Go.Proofs.YtiolbpmhnlmmdaaDoor
