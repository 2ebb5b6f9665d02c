/- For every code the law FnReadDeed answers true, and the code and the words of deeds read as before; the listed package variables hold what the program's text lays, to which the card ties them. -/
import Derived.Test.YtiolbpmhnlmmdaaGreatDoorAK
import Derived.Test.YtiolbpmhnlmmdaaGreatDoorAS

set_option linter.unusedSimpArgs false
set_option linter.unusedVariables false

namespace Go.Proofs.YtiolbpmhnlmmdaaGreatDoor
open Go.ChangeShapes Go.WideShapes Go.ChangeAt Go.RowKit Go.Proofs.Dev
theorem fnReadDeed_fact0 : (Rows.fnReadDeedRow.wf (OpenSpec.ofChange Rows.fnReadDeedSpec)) = true := by kernel_rfl
theorem fnReadDeed_fact1 : (laidOutB Tryz.prog) = true := by kernel_rfl
theorem fnReadDeed_fact2 : (mapsRowed Tryz.prog) = true := by kernel_rfl
theorem fnReadDeed_fact3 : (Tryz.f4.params.all (Tryz.prog.readableRec ·)) = true := by kernel_rfl
theorem fnReadDeed_fact4 : (namedTie Tryz.prog Rows.fnReadDeedRow.named Rows.fnReadDeedSpec.vars) = true := by kernel_rfl
theorem fnReadDeed_fact5 : ((Rows.fnReadDeedRow.stops == [])) = true := by kernel_rfl
theorem fnReadDeed_fact6 : ((Tryz.prog.stops == [])) = true := by kernel_rfl
theorem fnReadDeed_fact7 : ((Rows.fnReadDeedRow.knobs == [])) = true := by kernel_rfl
theorem fnReadDeed_fact8 : ((Tryz.prog.stopKnobs == [])) = true := by kernel_rfl
theorem fnReadDeed_fact9 : ((Rows.fnReadDeedRow.inPlace == Tryz.prog.inPlace 4)) = true := by kernel_rfl
theorem fnReadDeed_fact10 : ((Rows.fnReadDeedRow.unfollowed == Tryz.prog.unfollowed 4)) = true := by kernel_rfl
theorem fnReadDeed_fact11 : ((Rows.fnReadDeedRow.recurses == Tryz.prog.recurses 4)) = true := by kernel_rfl
theorem fnReadDeed_fact12 : ((Rows.fnReadDeedRow.named == Tryz.prog.varsNamed 4)) = true := by kernel_rfl
theorem fnReadDeed_fact13 : ((Rows.fnReadDeedRow.maps == (Tryz.f4.params.toList ++ Rows.fnReadDeedSpec.plain.varTypes Tryz.prog).any (Tryz.prog.mapsRec ·))) = true := by kernel_rfl
theorem fnReadDeed_fact14 : ((Rows.fnReadDeedRow.ifaces == (Tryz.f4.params.toList ++ Rows.fnReadDeedSpec.plain.varTypes Tryz.prog).any (Tryz.prog.ifacesRec ·))) = true := by kernel_rfl
theorem fnReadDeed_fact15 : ((Rows.fnReadDeedRow.mapsOut == Tryz.prog.mapsAmong Tryz.f4.resultTypes.toList)) = true := by kernel_rfl
theorem fnReadDeed_fact16 : ((Rows.fnReadDeedRow.loops == (Tryz.f4.params.toList ++ Rows.fnReadDeedSpec.plain.varTypes Tryz.prog).any (Tryz.prog.loopsFrom ·))) = true := by kernel_rfl
theorem fnReadDeed_fact17 : ((Rows.fnReadDeedRow.wideKeys == (Tryz.f4.params.toList ++ Rows.fnReadDeedSpec.plain.varTypes Tryz.prog ++ Tryz.f4.resultTypes.toList).any (Tryz.prog.wideKeysFrom ·))) = true := by kernel_rfl
theorem fnReadDeed_fact18 : (Rows.fnReadDeedSpec.vars.all (Tryz.prog.varReadable ·)) = true := by kernel_rfl
theorem fnReadDeed_fact19 : (Tryz.f4.resultTypes.all (fun t => Tryz.prog.readableRec t && decide (t < Tryz.prog.types.size))) = true := by kernel_rfl
theorem fnReadDeed_fact20 : ((Rows.fnReadDeedRow.ifacesOut == Tryz.f4.resultTypes.toList.any (Tryz.prog.ifacesRec ·))) = true := by kernel_rfl
theorem fnReadDeed_fact21 : ((Rows.fnReadDeedRow.loopsOut == Tryz.f4.resultTypes.toList.any (Tryz.prog.loopsFrom ·))) = true := by kernel_rfl
theorem fnReadDeed_fact22 : ((Rows.fnReadDeedRow.plainKeys == Tryz.prog.plainKeys)) = true := by kernel_rfl
theorem fnReadDeed_fact23 : (Rows.fnReadDeedRow.shortTexts.isNone) = true := by kernel_rfl
theorem fnReadDeed_fact24 : (Tryz.prog.stopsHeard) = true := by kernel_rfl
theorem fnReadDeed_fact25 : (Tryz.prog.mayEnter) = true := fact_mayEnter
theorem fnReadDeed_fact26 : ((Rows.fnReadDeedRow.lifted == Tryz.prog.liftsFinal)) = true := by rw [fact_liftsFinal]; rfl
theorem fnReadDeed_fact27 : ((Tryz.prog.make == some Rows.fnReadDeedRow.make)) = true := by rw [fact_make]; rfl
theorem fnReadDeed_fact28 : Rows.fnReadDeedRow.domain = [] ∧ Rows.fnReadDeedRow.kinds = [] := ⟨rfl, rfl⟩
theorem fnReadDeed_fact29 : ((Rows.fnReadDeedRow.pinned == Rows.fnReadDeedRow.pinnedBy)) = true := by kernel_rfl
theorem fnReadDeed_fact30 : ((Rows.fnReadDeedRow.veiled == (Tryz.f4.params.toList ++ Rows.fnReadDeedSpec.plain.varTypes Tryz.prog ++ Tryz.f4.resultTypes.toList).any (Tryz.prog.veiledRec ·))) = true := by kernel_rfl
theorem fnReadDeed_fact31 : (Rows.fnReadDeedRow.veiledFits Tryz.prog Tryz.f4.params.toList (Tryz.f4.params.toList ++ Rows.fnReadDeedSpec.plain.varTypes Tryz.prog ++ Tryz.f4.resultTypes.toList)) = true := by kernel_rfl
theorem fnReadDeed_facts : joinedFacts Tryz.prog 4 Tryz.f4 Rows.fnReadDeedSpec Rows.fnReadDeedRow = true :=
  joinedFacts_of fnReadDeed_fact0 fnReadDeed_fact1 fnReadDeed_fact2 fnReadDeed_fact3 fnReadDeed_fact4 fnReadDeed_fact5 fnReadDeed_fact6 fnReadDeed_fact7 fnReadDeed_fact8 fnReadDeed_fact9 fnReadDeed_fact10 fnReadDeed_fact11 fnReadDeed_fact12 fnReadDeed_fact13 fnReadDeed_fact14 fnReadDeed_fact15 fnReadDeed_fact16 fnReadDeed_fact17 fnReadDeed_fact18 fnReadDeed_fact19 fnReadDeed_fact20 fnReadDeed_fact21 fnReadDeed_fact22 fnReadDeed_fact23 fnReadDeed_fact24 fnReadDeed_fact25 fnReadDeed_fact26 fnReadDeed_fact27 fnReadDeed_fact28 fnReadDeed_fact29 fnReadDeed_fact30 fnReadDeed_fact31

set_option maxRecDepth 100000 in
theorem fnReadDeed_lifted (os : Os) (started : os.Started) (H : Type) (enc : TypeId × Value → H) :
    ReturnsInHanded {} Tryz.checked os 4 .any (fun w args => (Rows.fnReadDeedSpec.pre enc Tryz.prog Tryz.f4 Rows.fnReadDeedRow.domain false w args ∧ laidMetH Tryz.prog Rows.fnReadDeedRow.laid w) ∧ sizedMet enc Tryz.prog Tryz.f4 (OpenSpec.ofChange Rows.fnReadDeedSpec) false w args)
      (Rows.fnReadDeedSpec.post enc Tryz.prog Tryz.f4 false true false false) := by
  refine returns_shaped (C := Tryz.checked) (X := fun w _ => laidMetH Tryz.prog Rows.fnReadDeedRow.laid w) (fun _ _ _ hh h => h.of_heap hh) own started (by kernel_rfl) Tryz.func4
    (ChangeSpec.witness_shaped (enc := enc) (C := Tryz.checked) (os := os) (X := fun w _ => laidMetH Tryz.prog Rows.fnReadDeedRow.laid w) false (World.laidAll Tryz.prog os Rows.fnReadDeedRow.laid) #[.slice none 0 0] 8 (World.laidAll_os _ _ _)
      (World.shaped_of_ZipB (by kernel_rfl) (by kernel_rfl)) (by kernel_rfl) (by kernel_rfl) (by kernel_rfl)
      (by rw [MakeChecks.laidMetH_plain _ _ _ (by kernel_rfl)]; exact laidMet_laidAll _ (by kernel_rfl) (by kernel_rfl))) ?_
  intro W base args ds gs before hval0 hW hcnd _ hL hsh
  have hval : ∀ (j : Nat) t v, Tryz.f4.params[j]? = some t → args[j]? = some v → Value.okWide Tryz.prog W .any base t v := hval0
  have hW' : DataW.Whole enc Tryz.prog Tryz.f4.params.toList Rows.fnReadDeedSpec.vars false W args.toList ds gs before := hW
  obtain ⟨p, q, hA0, hV, hpq, hfz, hnd⟩ := hW
  have hA : DataW.TrodAll enc Tryz.prog W 0 (fun _ => true) true Tryz.f4.params.toList args.toList ds p := hA0
  rw [Tryz.params4] at hA hval
  obtain ⟨v0, d0, rfl, rfl, h0⟩ := trodAll_one hA
  obtain ⟨xs, hx, hB, r0⟩ := read_bytes Tryz.underlying22 Tryz.underlying5 cells5 (hval 0 22 v0 rfl rfl) h0
  exact law_postV (tb := 4) (gb_of (by kernel_rfl) (by simp [Rows.fnReadDeedRow]) hL (gp_of (by kernel_rfl) (by simp [Rows.fnReadDeedRow]) (by simp [Rows.fnReadDeedRow]) hsh hL)) (byte_law (l_FnReadDeed xs hB)) (RL_one r0) laidOut
    (by
      rw [Tryz.params4]
      intro t ht
      simp at ht
      subst ht
      exact ⟨rBytes, of_decide_eq_true (by kernel_rfl)⟩) hW' rfl (fun g1 _ => rfl) (by kernel_rfl) Tryz.underlying4 gWords tWords Tryz.underlying52 rWords

theorem fnReadDeed_holds : Rows.FnReadDeedSaid :=
  OpenClaim.holds_of_wide 4 Tryz.f4 rfl rfl rfl rfl rfl rfl rfl ⟨rfl, rfl, rfl, rfl, rfl⟩ rfl rfl rfl rfl rfl (by kernel_rfl) Tryz.func4 fnReadDeed_facts
    (of_decide_eq_true (by kernel_rfl)) (by unfold Func.isWrapper; first | (rw [if_pos (by decide +kernel)]; kernel_rfl) | (rw [if_neg (by decide +kernel)]; exact ⟨rfl, rfl⟩))
    (fun os started H enc _ => fnReadDeed_lifted os started H enc)

theorem fnReadDeed_card_holds : Rows.FnReadDeedCardSaid :=
  Claim7.holds_tied_plain_at .later [] [.data, .data, .data, .data, .sentinel, .sentinel, .widerDeep, .pinned] true (true, "68b1c8e988e5b9e2a4fe91f3125e02505fca18fa9a923a843404129cf2df9427") true fnReadDeed_holds (fun _ h => by cases h) (by kernel_rfl) (fun _ h => by cases h) fnReadDeed_row_tie rfl ⟨rfl, rfl⟩ (by kernel_rfl) rfl
    (fun f fn hf hfn => by
      obtain rfl : f = 4 := Option.some.inj ((show Tryz.prog.funcNamed "loop.example/dominotilings/laws.FnReadDeed" = some 4 by kernel_rfl).symm.trans hf) |>.symm
      obtain rfl : fn = Tryz.f4 := (Option.some.inj (Tryz.func4.symm.trans hfn)).symm
      exact ⟨by kernel_rfl, fun j t ht => by
        rw [Tryz.params4] at ht
        have hm : t ∈ [22] := by simpa using Array.mem_of_getElem? ht
        have hall : ([22].all fun u => !Tryz.prog.wantsStandIn u) = true := by kernel_rfl
        exact (show Tryz.prog.wantsStandIn t = false by simpa using List.all_eq_true.1 hall t hm)⟩)
    (by kernel_rfl)

end Go.Proofs.YtiolbpmhnlmmdaaGreatDoor
