/- For every code the law FnDeedText answers true, and the code and the words of deeds read as before; the listed package variables hold what the program's text lays, to which the card ties them. -/
import Derived.Test.YtiolbpmhnlmmdaaGreatDoorAK
import Derived.Test.YtiolbpmhnlmmdaaGreatDoorAS

set_option linter.unusedSimpArgs false
set_option linter.unusedVariables false

namespace Go.Proofs.YtiolbpmhnlmmdaaGreatDoor
open Go.ChangeShapes Go.WideShapes Go.ChangeAt Go.RowKit Go.Proofs.Dev
theorem fnDeedText_fact0 : (Rows.fnDeedTextRow.wf (OpenSpec.ofChange Rows.fnDeedTextSpec)) = true := by kernel_rfl
theorem fnDeedText_fact1 : (laidOutB Tryz.prog) = true := by kernel_rfl
theorem fnDeedText_fact2 : (mapsRowed Tryz.prog) = true := by kernel_rfl
theorem fnDeedText_fact3 : (Tryz.f3.params.all (Tryz.prog.readableRec ·)) = true := by kernel_rfl
theorem fnDeedText_fact4 : (namedTie Tryz.prog Rows.fnDeedTextRow.named Rows.fnDeedTextSpec.vars) = true := by kernel_rfl
theorem fnDeedText_fact5 : ((Rows.fnDeedTextRow.stops == [])) = true := by kernel_rfl
theorem fnDeedText_fact6 : ((Tryz.prog.stops == [])) = true := by kernel_rfl
theorem fnDeedText_fact7 : ((Rows.fnDeedTextRow.knobs == [])) = true := by kernel_rfl
theorem fnDeedText_fact8 : ((Tryz.prog.stopKnobs == [])) = true := by kernel_rfl
theorem fnDeedText_fact9 : ((Rows.fnDeedTextRow.inPlace == Tryz.prog.inPlace 3)) = true := by kernel_rfl
theorem fnDeedText_fact10 : ((Rows.fnDeedTextRow.unfollowed == Tryz.prog.unfollowed 3)) = true := by kernel_rfl
theorem fnDeedText_fact11 : ((Rows.fnDeedTextRow.recurses == Tryz.prog.recurses 3)) = true := by kernel_rfl
theorem fnDeedText_fact12 : ((Rows.fnDeedTextRow.named == Tryz.prog.varsNamed 3)) = true := by kernel_rfl
theorem fnDeedText_fact13 : ((Rows.fnDeedTextRow.maps == (Tryz.f3.params.toList ++ Rows.fnDeedTextSpec.plain.varTypes Tryz.prog).any (Tryz.prog.mapsRec ·))) = true := by kernel_rfl
theorem fnDeedText_fact14 : ((Rows.fnDeedTextRow.ifaces == (Tryz.f3.params.toList ++ Rows.fnDeedTextSpec.plain.varTypes Tryz.prog).any (Tryz.prog.ifacesRec ·))) = true := by kernel_rfl
theorem fnDeedText_fact15 : ((Rows.fnDeedTextRow.mapsOut == Tryz.prog.mapsAmong Tryz.f3.resultTypes.toList)) = true := by kernel_rfl
theorem fnDeedText_fact16 : ((Rows.fnDeedTextRow.loops == (Tryz.f3.params.toList ++ Rows.fnDeedTextSpec.plain.varTypes Tryz.prog).any (Tryz.prog.loopsFrom ·))) = true := by kernel_rfl
theorem fnDeedText_fact17 : ((Rows.fnDeedTextRow.wideKeys == (Tryz.f3.params.toList ++ Rows.fnDeedTextSpec.plain.varTypes Tryz.prog ++ Tryz.f3.resultTypes.toList).any (Tryz.prog.wideKeysFrom ·))) = true := by kernel_rfl
theorem fnDeedText_fact18 : (Rows.fnDeedTextSpec.vars.all (Tryz.prog.varReadable ·)) = true := by kernel_rfl
theorem fnDeedText_fact19 : (Tryz.f3.resultTypes.all (fun t => Tryz.prog.readableRec t && decide (t < Tryz.prog.types.size))) = true := by kernel_rfl
theorem fnDeedText_fact20 : ((Rows.fnDeedTextRow.ifacesOut == Tryz.f3.resultTypes.toList.any (Tryz.prog.ifacesRec ·))) = true := by kernel_rfl
theorem fnDeedText_fact21 : ((Rows.fnDeedTextRow.loopsOut == Tryz.f3.resultTypes.toList.any (Tryz.prog.loopsFrom ·))) = true := by kernel_rfl
theorem fnDeedText_fact22 : ((Rows.fnDeedTextRow.plainKeys == Tryz.prog.plainKeys)) = true := by kernel_rfl
theorem fnDeedText_fact23 : (Rows.fnDeedTextRow.shortTexts.isNone) = true := by kernel_rfl
theorem fnDeedText_fact24 : (Tryz.prog.stopsHeard) = true := by kernel_rfl
theorem fnDeedText_fact25 : (Tryz.prog.mayEnter) = true := fact_mayEnter
theorem fnDeedText_fact26 : ((Rows.fnDeedTextRow.lifted == Tryz.prog.liftsFinal)) = true := by rw [fact_liftsFinal]; rfl
theorem fnDeedText_fact27 : ((Tryz.prog.make == some Rows.fnDeedTextRow.make)) = true := by rw [fact_make]; rfl
theorem fnDeedText_fact28 : Rows.fnDeedTextRow.domain = [] ∧ Rows.fnDeedTextRow.kinds = [] := ⟨rfl, rfl⟩
theorem fnDeedText_fact29 : ((Rows.fnDeedTextRow.pinned == Rows.fnDeedTextRow.pinnedBy)) = true := by kernel_rfl
theorem fnDeedText_fact30 : ((Rows.fnDeedTextRow.veiled == (Tryz.f3.params.toList ++ Rows.fnDeedTextSpec.plain.varTypes Tryz.prog ++ Tryz.f3.resultTypes.toList).any (Tryz.prog.veiledRec ·))) = true := by kernel_rfl
theorem fnDeedText_fact31 : (Rows.fnDeedTextRow.veiledFits Tryz.prog Tryz.f3.params.toList (Tryz.f3.params.toList ++ Rows.fnDeedTextSpec.plain.varTypes Tryz.prog ++ Tryz.f3.resultTypes.toList)) = true := by kernel_rfl
theorem fnDeedText_facts : joinedFacts Tryz.prog 3 Tryz.f3 Rows.fnDeedTextSpec Rows.fnDeedTextRow = true :=
  joinedFacts_of fnDeedText_fact0 fnDeedText_fact1 fnDeedText_fact2 fnDeedText_fact3 fnDeedText_fact4 fnDeedText_fact5 fnDeedText_fact6 fnDeedText_fact7 fnDeedText_fact8 fnDeedText_fact9 fnDeedText_fact10 fnDeedText_fact11 fnDeedText_fact12 fnDeedText_fact13 fnDeedText_fact14 fnDeedText_fact15 fnDeedText_fact16 fnDeedText_fact17 fnDeedText_fact18 fnDeedText_fact19 fnDeedText_fact20 fnDeedText_fact21 fnDeedText_fact22 fnDeedText_fact23 fnDeedText_fact24 fnDeedText_fact25 fnDeedText_fact26 fnDeedText_fact27 fnDeedText_fact28 fnDeedText_fact29 fnDeedText_fact30 fnDeedText_fact31

set_option maxRecDepth 100000 in
theorem fnDeedText_lifted (os : Os) (started : os.Started) (H : Type) (enc : TypeId × Value → H) :
    ReturnsInHanded {} Tryz.checked os 3 .any (fun w args => (Rows.fnDeedTextSpec.pre enc Tryz.prog Tryz.f3 Rows.fnDeedTextRow.domain false w args ∧ laidMetH Tryz.prog Rows.fnDeedTextRow.laid w) ∧ sizedMet enc Tryz.prog Tryz.f3 (OpenSpec.ofChange Rows.fnDeedTextSpec) false w args)
      (Rows.fnDeedTextSpec.post enc Tryz.prog Tryz.f3 false true false false) := by
  refine returns_shaped (C := Tryz.checked) (X := fun w _ => laidMetH Tryz.prog Rows.fnDeedTextRow.laid w) (fun _ _ _ hh h => h.of_heap hh) own started (by kernel_rfl) Tryz.func3
    (ChangeSpec.witness_shaped (enc := enc) (C := Tryz.checked) (os := os) (X := fun w _ => laidMetH Tryz.prog Rows.fnDeedTextRow.laid w) false (World.laidAll Tryz.prog os Rows.fnDeedTextRow.laid) #[.slice none 0 0] 8 (World.laidAll_os _ _ _)
      (World.shaped_of_ZipB (by kernel_rfl) (by kernel_rfl)) (by kernel_rfl) (by kernel_rfl) (by kernel_rfl)
      (by rw [MakeChecks.laidMetH_plain _ _ _ (by kernel_rfl)]; exact laidMet_laidAll _ (by kernel_rfl) (by kernel_rfl))) ?_
  intro W base args ds gs before hval0 hW hcnd _ hL hsh
  have hval : ∀ (j : Nat) t v, Tryz.f3.params[j]? = some t → args[j]? = some v → Value.okWide Tryz.prog W .any base t v := hval0
  have hW' : DataW.Whole enc Tryz.prog Tryz.f3.params.toList Rows.fnDeedTextSpec.vars false W args.toList ds gs before := hW
  obtain ⟨p, q, hA0, hV, hpq, hfz, hnd⟩ := hW
  have hA : DataW.TrodAll enc Tryz.prog W 0 (fun _ => true) true Tryz.f3.params.toList args.toList ds p := hA0
  rw [Tryz.params3] at hA hval
  obtain ⟨v0, d0, rfl, rfl, h0⟩ := trodAll_one hA
  obtain ⟨xs, hx, hB, r0⟩ := read_bytes Tryz.underlying22 Tryz.underlying5 cells5 (hval 0 22 v0 rfl rfl) h0
  exact law_postV (tb := 4) (gb_of (by kernel_rfl) (by simp [Rows.fnDeedTextRow]) hL (gp_of (by kernel_rfl) (by simp [Rows.fnDeedTextRow]) (by simp [Rows.fnDeedTextRow]) hsh hL)) (byte_law (l_FnDeedText xs hB)) (RL_one r0) laidOut
    (by
      rw [Tryz.params3]
      intro t ht
      simp at ht
      subst ht
      exact ⟨rBytes, of_decide_eq_true (by kernel_rfl)⟩) hW' rfl (fun g1 _ => rfl) (by kernel_rfl) Tryz.underlying4 gWords tWords Tryz.underlying52 rWords

theorem fnDeedText_holds : Rows.FnDeedTextSaid :=
  OpenClaim.holds_of_wide 3 Tryz.f3 rfl rfl rfl rfl rfl rfl rfl ⟨rfl, rfl, rfl, rfl, rfl⟩ rfl rfl rfl rfl rfl (by kernel_rfl) Tryz.func3 fnDeedText_facts
    (of_decide_eq_true (by kernel_rfl)) (by unfold Func.isWrapper; first | (rw [if_pos (by decide +kernel)]; kernel_rfl) | (rw [if_neg (by decide +kernel)]; exact ⟨rfl, rfl⟩))
    (fun os started H enc _ => fnDeedText_lifted os started H enc)

theorem fnDeedText_card_holds : Rows.FnDeedTextCardSaid :=
  Claim7.holds_tied_plain_at .later [] [.data, .data, .data, .data, .sentinel, .sentinel, .widerDeep, .pinned] true (true, "68b1c8e988e5b9e2a4fe91f3125e02505fca18fa9a923a843404129cf2df9427") true fnDeedText_holds (fun _ h => by cases h) (by kernel_rfl) (fun _ h => by cases h) fnDeedText_row_tie rfl ⟨rfl, rfl⟩ (by kernel_rfl) rfl
    (fun f fn hf hfn => by
      obtain rfl : f = 3 := Option.some.inj ((show Tryz.prog.funcNamed "loop.example/dominotilings/laws.FnDeedText" = some 3 by kernel_rfl).symm.trans hf) |>.symm
      obtain rfl : fn = Tryz.f3 := (Option.some.inj (Tryz.func3.symm.trans hfn)).symm
      exact ⟨by kernel_rfl, fun j t ht => by
        rw [Tryz.params3] at ht
        have hm : t ∈ [22] := by simpa using Array.mem_of_getElem? ht
        have hall : ([22].all fun u => !Tryz.prog.wantsStandIn u) = true := by kernel_rfl
        exact (show Tryz.prog.wantsStandIn t = false by simpa using List.all_eq_true.1 hall t hm)⟩)
    (by kernel_rfl)

end Go.Proofs.YtiolbpmhnlmmdaaGreatDoor
