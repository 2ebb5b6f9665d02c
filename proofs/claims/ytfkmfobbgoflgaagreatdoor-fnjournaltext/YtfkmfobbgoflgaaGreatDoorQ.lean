/- For every code the law FnJournalText answers true, and the code and the words of deeds read as before; the listed package variables hold what the program's text lays, to which the card ties them. -/
import Derived.Test.YtfkmfobbgoflgaaGreatDoorAK
import Derived.Test.YtfkmfobbgoflgaaGreatDoorAY

set_option linter.unusedSimpArgs false
set_option linter.unusedVariables false

namespace Go.Proofs.YtfkmfobbgoflgaaGreatDoor
open Go.ChangeShapes Go.WideShapes Go.ChangeAt Go.RowKit Go.Proofs.Dev
theorem fnJournalText_fact0 : (Rows.fnJournalTextRow.wf (OpenSpec.ofChange Rows.fnJournalTextSpec)) = true := by kernel_rfl
theorem fnJournalText_fact1 : (laidOutB Tryz.prog) = true := by kernel_rfl
theorem fnJournalText_fact2 : (mapsRowed Tryz.prog) = true := by kernel_rfl
theorem fnJournalText_fact3 : (Tryz.f3.params.all (Tryz.prog.readableRec ·)) = true := by kernel_rfl
theorem fnJournalText_fact4 : (namedTie Tryz.prog Rows.fnJournalTextRow.named Rows.fnJournalTextSpec.vars) = true := by kernel_rfl
theorem fnJournalText_fact5 : ((Rows.fnJournalTextRow.stops == [])) = true := by kernel_rfl
theorem fnJournalText_fact6 : ((Tryz.prog.stops == [])) = true := by kernel_rfl
theorem fnJournalText_fact7 : ((Rows.fnJournalTextRow.knobs == [])) = true := by kernel_rfl
theorem fnJournalText_fact8 : ((Tryz.prog.stopKnobs == [])) = true := by kernel_rfl
theorem fnJournalText_fact9 : ((Rows.fnJournalTextRow.inPlace == Tryz.prog.inPlace 3)) = true := by kernel_rfl
theorem fnJournalText_fact10 : ((Rows.fnJournalTextRow.unfollowed == Tryz.prog.unfollowed 3)) = true := by kernel_rfl
theorem fnJournalText_fact11 : ((Rows.fnJournalTextRow.recurses == Tryz.prog.recurses 3)) = true := by kernel_rfl
theorem fnJournalText_fact12 : ((Rows.fnJournalTextRow.named == Tryz.prog.varsNamed 3)) = true := by kernel_rfl
theorem fnJournalText_fact13 : ((Rows.fnJournalTextRow.maps == (Tryz.f3.params.toList ++ Rows.fnJournalTextSpec.plain.varTypes Tryz.prog).any (Tryz.prog.mapsRec ·))) = true := by kernel_rfl
theorem fnJournalText_fact14 : ((Rows.fnJournalTextRow.ifaces == (Tryz.f3.params.toList ++ Rows.fnJournalTextSpec.plain.varTypes Tryz.prog).any (Tryz.prog.ifacesRec ·))) = true := by kernel_rfl
theorem fnJournalText_fact15 : ((Rows.fnJournalTextRow.mapsOut == Tryz.prog.mapsAmong Tryz.f3.resultTypes.toList)) = true := by kernel_rfl
theorem fnJournalText_fact16 : ((Rows.fnJournalTextRow.loops == (Tryz.f3.params.toList ++ Rows.fnJournalTextSpec.plain.varTypes Tryz.prog).any (Tryz.prog.loopsFrom ·))) = true := by kernel_rfl
theorem fnJournalText_fact17 : ((Rows.fnJournalTextRow.wideKeys == (Tryz.f3.params.toList ++ Rows.fnJournalTextSpec.plain.varTypes Tryz.prog ++ Tryz.f3.resultTypes.toList).any (Tryz.prog.wideKeysFrom ·))) = true := by kernel_rfl
theorem fnJournalText_fact18 : (Rows.fnJournalTextSpec.vars.all (Tryz.prog.varReadable ·)) = true := by kernel_rfl
theorem fnJournalText_fact19 : (Tryz.f3.resultTypes.all (fun t => Tryz.prog.readableRec t && decide (t < Tryz.prog.types.size))) = true := by kernel_rfl
theorem fnJournalText_fact20 : ((Rows.fnJournalTextRow.ifacesOut == Tryz.f3.resultTypes.toList.any (Tryz.prog.ifacesRec ·))) = true := by kernel_rfl
theorem fnJournalText_fact21 : ((Rows.fnJournalTextRow.loopsOut == Tryz.f3.resultTypes.toList.any (Tryz.prog.loopsFrom ·))) = true := by kernel_rfl
theorem fnJournalText_fact22 : ((Rows.fnJournalTextRow.plainKeys == Tryz.prog.plainKeys)) = true := by kernel_rfl
theorem fnJournalText_fact23 : (Rows.fnJournalTextRow.shortTexts.isNone) = true := by kernel_rfl
theorem fnJournalText_fact24 : (Tryz.prog.stopsHeard) = true := by kernel_rfl
theorem fnJournalText_fact25 : (Tryz.prog.mayEnter) = true := fact_mayEnter
theorem fnJournalText_fact26 : ((Rows.fnJournalTextRow.lifted == Tryz.prog.liftsFinal)) = true := by rw [fact_liftsFinal]; rfl
theorem fnJournalText_fact27 : ((Tryz.prog.make == some Rows.fnJournalTextRow.make)) = true := by rw [fact_make]; rfl
theorem fnJournalText_fact28 : Rows.fnJournalTextRow.domain = [] ∧ Rows.fnJournalTextRow.kinds = [] := ⟨rfl, rfl⟩
theorem fnJournalText_fact29 : ((Rows.fnJournalTextRow.pinned == Rows.fnJournalTextRow.pinnedBy)) = true := by kernel_rfl
theorem fnJournalText_fact30 : ((Rows.fnJournalTextRow.veiled == (Tryz.f3.params.toList ++ Rows.fnJournalTextSpec.plain.varTypes Tryz.prog ++ Tryz.f3.resultTypes.toList).any (Tryz.prog.veiledRec ·))) = true := by kernel_rfl
theorem fnJournalText_fact31 : (Rows.fnJournalTextRow.veiledFits Tryz.prog Tryz.f3.params.toList (Tryz.f3.params.toList ++ Rows.fnJournalTextSpec.plain.varTypes Tryz.prog ++ Tryz.f3.resultTypes.toList)) = true := by kernel_rfl
theorem fnJournalText_facts : joinedFacts Tryz.prog 3 Tryz.f3 Rows.fnJournalTextSpec Rows.fnJournalTextRow = true :=
  joinedFacts_of fnJournalText_fact0 fnJournalText_fact1 fnJournalText_fact2 fnJournalText_fact3 fnJournalText_fact4 fnJournalText_fact5 fnJournalText_fact6 fnJournalText_fact7 fnJournalText_fact8 fnJournalText_fact9 fnJournalText_fact10 fnJournalText_fact11 fnJournalText_fact12 fnJournalText_fact13 fnJournalText_fact14 fnJournalText_fact15 fnJournalText_fact16 fnJournalText_fact17 fnJournalText_fact18 fnJournalText_fact19 fnJournalText_fact20 fnJournalText_fact21 fnJournalText_fact22 fnJournalText_fact23 fnJournalText_fact24 fnJournalText_fact25 fnJournalText_fact26 fnJournalText_fact27 fnJournalText_fact28 fnJournalText_fact29 fnJournalText_fact30 fnJournalText_fact31

set_option maxRecDepth 100000 in
theorem fnJournalText_lifted (os : Os) (started : os.Started) (H : Type) (enc : TypeId × Value → H) :
    ReturnsInHanded {} Tryz.checked os 3 .any (fun w args => (Rows.fnJournalTextSpec.pre enc Tryz.prog Tryz.f3 Rows.fnJournalTextRow.domain false w args ∧ laidMetH Tryz.prog Rows.fnJournalTextRow.laid w) ∧ sizedMet enc Tryz.prog Tryz.f3 (OpenSpec.ofChange Rows.fnJournalTextSpec) false w args)
      (Rows.fnJournalTextSpec.post enc Tryz.prog Tryz.f3 false true false false) := by
  refine returns_shaped (C := Tryz.checked) (X := fun w _ => laidMetH Tryz.prog Rows.fnJournalTextRow.laid w) (fun _ _ _ hh h => h.of_heap hh) own started (by kernel_rfl) Tryz.func3
    (ChangeSpec.witness_shaped (enc := enc) (C := Tryz.checked) (os := os) (X := fun w _ => laidMetH Tryz.prog Rows.fnJournalTextRow.laid w) false (World.laidAll Tryz.prog os Rows.fnJournalTextRow.laid) #[.slice none 0 0] 8 (World.laidAll_os _ _ _)
      (World.shaped_of_ZipB (by kernel_rfl) (by kernel_rfl)) (by kernel_rfl) (by kernel_rfl) (by kernel_rfl)
      (by rw [MakeChecks.laidMetH_plain _ _ _ (by kernel_rfl)]; exact laidMet_laidAll _ (by kernel_rfl) (by kernel_rfl))) ?_
  intro W base args ds gs before hval0 hW hcnd _ hL hsh
  have hval : ∀ (j : Nat) t v, Tryz.f3.params[j]? = some t → args[j]? = some v → Value.okWide Tryz.prog W .any base t v := hval0
  have hW' : DataW.Whole enc Tryz.prog Tryz.f3.params.toList Rows.fnJournalTextSpec.vars false W args.toList ds gs before := hW
  obtain ⟨p, q, hA0, hV, hpq, hfz, hnd⟩ := hW
  have hA : DataW.TrodAll enc Tryz.prog W 0 (fun _ => true) true Tryz.f3.params.toList args.toList ds p := hA0
  rw [Tryz.params3] at hA hval
  obtain ⟨v0, d0, rfl, rfl, h0⟩ := trodAll_one hA
  obtain ⟨xs, hx, hB, r0⟩ := read_bytes Tryz.underlying22 Tryz.underlying5 cells5 (hval 0 22 v0 rfl rfl) h0
  exact law_postV (tb := 4) (gb_of (by kernel_rfl) (by simp [Rows.fnJournalTextRow]) hL (gp_of (by kernel_rfl) (by simp [Rows.fnJournalTextRow]) (by simp [Rows.fnJournalTextRow]) hsh hL)) (byte_law (l_FnJournalText xs hB)) (RL_one r0) laidOut
    (by
      rw [Tryz.params3]
      intro t ht
      simp at ht
      subst ht
      exact ⟨rBytes, of_decide_eq_true (by kernel_rfl)⟩) hW' rfl (fun g1 _ => rfl) (by kernel_rfl) Tryz.underlying4 gWords tWords Tryz.underlying58 rWords

theorem fnJournalText_holds : Rows.FnJournalTextSaid :=
  OpenClaim.holds_of_wide 3 Tryz.f3 rfl rfl rfl rfl rfl rfl rfl ⟨rfl, rfl, rfl, rfl, rfl⟩ rfl rfl rfl rfl rfl (by kernel_rfl) Tryz.func3 fnJournalText_facts
    (of_decide_eq_true (by kernel_rfl)) (by unfold Func.isWrapper; first | (rw [if_pos (by decide +kernel)]; kernel_rfl) | (rw [if_neg (by decide +kernel)]; exact ⟨rfl, rfl⟩))
    (fun os started H enc _ => fnJournalText_lifted os started H enc)

theorem fnJournalText_card_holds : Rows.FnJournalTextCardSaid :=
  Claim7.holds_tied_plain_at .later [] [.data, .data, .data, .data, .sentinel, .sentinel, .widerDeep, .pinned] true (true, "afa837f5c4d68b516dd8c875bf7798ccf155dfb08526095c68c37820e6ebda0c") true fnJournalText_holds (fun _ h => by cases h) (by kernel_rfl) (fun _ h => by cases h) fnJournalText_row_tie rfl ⟨rfl, rfl⟩ (by kernel_rfl) rfl
    (fun f fn hf hfn => by
      obtain rfl : f = 3 := Option.some.inj ((show Tryz.prog.funcNamed "loop.example/dominotilings/laws.FnJournalText" = some 3 by kernel_rfl).symm.trans hf) |>.symm
      obtain rfl : fn = Tryz.f3 := (Option.some.inj (Tryz.func3.symm.trans hfn)).symm
      exact ⟨by kernel_rfl, fun j t ht => by
        rw [Tryz.params3] at ht
        have hm : t ∈ [22] := by simpa using Array.mem_of_getElem? ht
        have hall : ([22].all fun u => !Tryz.prog.wantsStandIn u) = true := by kernel_rfl
        exact (show Tryz.prog.wantsStandIn t = false by simpa using List.all_eq_true.1 hall t hm)⟩)
    (by kernel_rfl)

end Go.Proofs.YtfkmfobbgoflgaaGreatDoor
