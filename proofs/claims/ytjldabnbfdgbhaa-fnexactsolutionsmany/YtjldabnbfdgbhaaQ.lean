/- For all arguments the law of SolutionsMany answers true: the program returns what the reference returns, and changes no argument. -/
import Derived.Test.YtjldabnbfdgbhaaJ
import Derived.Test.YtjldabnbfdgbhaaW
import Derived.Test.YtjldabnbfdgbhaaAD

set_option linter.unusedSimpArgs false
set_option linter.unusedVariables false

namespace Go.Proofs.Ytjldabnbfdgbhaa
open Go.ChangeShapes Go.WideShapes Go.ChangeAt Go.RowKit Go.Proofs.Dev
theorem cells49 : Try.prog.cellsOf 49 = 6 := by kernel_rfl
theorem cells25 : Try.prog.cellsOf 25 = 1 := by kernel_rfl
theorem cells36 : Try.prog.cellsOf 36 = 1 := by kernel_rfl
theorem cells22 : Try.prog.cellsOf 22 = 1 := by kernel_rfl
theorem readable49 : Try.prog.readableRec 49 = true := by kernel_rfl

end Go.Proofs.Ytjldabnbfdgbhaa

namespace Go.Proofs.Ytjldabnbfdgbhaa
open Go.ChangeShapes Go.WideShapes Go.ChangeAt Go.RowKit Go.Proofs.Dev
theorem fnExactSolutionsMany_fact0 : (Rows.fnExactSolutionsManyRow.wf (OpenSpec.ofChange Rows.fnExactSolutionsManySpec)) = true := by kernel_rfl
theorem fnExactSolutionsMany_fact1 : (laidOutB Try.prog) = true := by kernel_rfl
theorem fnExactSolutionsMany_fact2 : (mapsRowed Try.prog) = true := by kernel_rfl
theorem fnExactSolutionsMany_fact3 : (Try.f13.params.all (Try.prog.readableRec ·)) = true := by kernel_rfl
theorem fnExactSolutionsMany_fact4 : (namedTie Try.prog Rows.fnExactSolutionsManyRow.named Rows.fnExactSolutionsManySpec.vars) = true := by kernel_rfl
theorem fnExactSolutionsMany_fact5 : ((Rows.fnExactSolutionsManyRow.stops == [])) = true := by kernel_rfl
theorem fnExactSolutionsMany_fact6 : ((Try.prog.stops == [])) = true := by kernel_rfl
theorem fnExactSolutionsMany_fact7 : ((Rows.fnExactSolutionsManyRow.knobs == [])) = true := by kernel_rfl
theorem fnExactSolutionsMany_fact8 : ((Try.prog.stopKnobs == [])) = true := by kernel_rfl
theorem fnExactSolutionsMany_fact9 : ((Rows.fnExactSolutionsManyRow.inPlace == Try.prog.inPlace 13)) = true := by kernel_rfl
theorem fnExactSolutionsMany_fact10 : ((Rows.fnExactSolutionsManyRow.unfollowed == Try.prog.unfollowed 13)) = true := by kernel_rfl
theorem fnExactSolutionsMany_fact11 : ((Rows.fnExactSolutionsManyRow.recurses == Try.prog.recurses 13)) = true := by kernel_rfl
theorem fnExactSolutionsMany_fact12 : ((Rows.fnExactSolutionsManyRow.named == Try.prog.varsNamed 13)) = true := by kernel_rfl
theorem fnExactSolutionsMany_fact13 : ((Rows.fnExactSolutionsManyRow.maps == (Try.f13.params.toList ++ Rows.fnExactSolutionsManySpec.plain.varTypes Try.prog).any (Try.prog.mapsRec ·))) = true := by kernel_rfl
theorem fnExactSolutionsMany_fact14 : ((Rows.fnExactSolutionsManyRow.ifaces == (Try.f13.params.toList ++ Rows.fnExactSolutionsManySpec.plain.varTypes Try.prog).any (Try.prog.ifacesRec ·))) = true := by kernel_rfl
theorem fnExactSolutionsMany_fact15 : ((Rows.fnExactSolutionsManyRow.mapsOut == Try.prog.mapsAmong Try.f13.resultTypes.toList)) = true := by kernel_rfl
theorem fnExactSolutionsMany_fact16 : ((Rows.fnExactSolutionsManyRow.loops == (Try.f13.params.toList ++ Rows.fnExactSolutionsManySpec.plain.varTypes Try.prog).any (Try.prog.loopsFrom ·))) = true := by kernel_rfl
theorem fnExactSolutionsMany_fact17 : ((Rows.fnExactSolutionsManyRow.wideKeys == (Try.f13.params.toList ++ Rows.fnExactSolutionsManySpec.plain.varTypes Try.prog ++ Try.f13.resultTypes.toList).any (Try.prog.wideKeysFrom ·))) = true := by kernel_rfl
theorem fnExactSolutionsMany_fact18 : (Rows.fnExactSolutionsManySpec.vars.all (Try.prog.varReadable ·)) = true := by kernel_rfl
theorem fnExactSolutionsMany_fact19 : (Try.f13.resultTypes.all (fun t => Try.prog.readableRec t && decide (t < Try.prog.types.size))) = true := by kernel_rfl
theorem fnExactSolutionsMany_fact20 : ((Rows.fnExactSolutionsManyRow.ifacesOut == Try.f13.resultTypes.toList.any (Try.prog.ifacesRec ·))) = true := by kernel_rfl
theorem fnExactSolutionsMany_fact21 : ((Rows.fnExactSolutionsManyRow.loopsOut == Try.f13.resultTypes.toList.any (Try.prog.loopsFrom ·))) = true := by kernel_rfl
theorem fnExactSolutionsMany_fact22 : ((Rows.fnExactSolutionsManyRow.plainKeys == Try.prog.plainKeys)) = true := by kernel_rfl
theorem fnExactSolutionsMany_fact23 : (Rows.fnExactSolutionsManyRow.shortTexts.isNone) = true := by kernel_rfl
theorem fnExactSolutionsMany_fact24 : (Try.prog.stopsHeard) = true := by kernel_rfl
theorem fnExactSolutionsMany_fact25 : (Try.prog.mayEnter) = true := fact_mayEnter
theorem fnExactSolutionsMany_fact26 : ((Rows.fnExactSolutionsManyRow.lifted == Try.prog.liftsFinal)) = true := by rw [fact_liftsFinal]; rfl
theorem fnExactSolutionsMany_fact27 : ((Try.prog.make == some Rows.fnExactSolutionsManyRow.make)) = true := by rw [fact_make]; rfl
theorem fnExactSolutionsMany_fact28 : Rows.fnExactSolutionsManyRow.domain = [] ∧ Rows.fnExactSolutionsManyRow.kinds = [] := ⟨rfl, rfl⟩
theorem fnExactSolutionsMany_fact29 : ((Rows.fnExactSolutionsManyRow.pinned == Rows.fnExactSolutionsManyRow.pinnedBy)) = true := by kernel_rfl
theorem fnExactSolutionsMany_fact30 : ((Rows.fnExactSolutionsManyRow.veiled == (Try.f13.params.toList ++ Rows.fnExactSolutionsManySpec.plain.varTypes Try.prog ++ Try.f13.resultTypes.toList).any (Try.prog.veiledRec ·))) = true := by kernel_rfl
theorem fnExactSolutionsMany_fact31 : (Rows.fnExactSolutionsManyRow.veiledFits Try.prog Try.f13.params.toList (Try.f13.params.toList ++ Rows.fnExactSolutionsManySpec.plain.varTypes Try.prog ++ Try.f13.resultTypes.toList)) = true := by kernel_rfl
theorem fnExactSolutionsMany_facts : joinedFacts Try.prog 13 Try.f13 Rows.fnExactSolutionsManySpec Rows.fnExactSolutionsManyRow = true :=
  joinedFacts_of fnExactSolutionsMany_fact0 fnExactSolutionsMany_fact1 fnExactSolutionsMany_fact2 fnExactSolutionsMany_fact3 fnExactSolutionsMany_fact4 fnExactSolutionsMany_fact5 fnExactSolutionsMany_fact6 fnExactSolutionsMany_fact7 fnExactSolutionsMany_fact8 fnExactSolutionsMany_fact9 fnExactSolutionsMany_fact10 fnExactSolutionsMany_fact11 fnExactSolutionsMany_fact12 fnExactSolutionsMany_fact13 fnExactSolutionsMany_fact14 fnExactSolutionsMany_fact15 fnExactSolutionsMany_fact16 fnExactSolutionsMany_fact17 fnExactSolutionsMany_fact18 fnExactSolutionsMany_fact19 fnExactSolutionsMany_fact20 fnExactSolutionsMany_fact21 fnExactSolutionsMany_fact22 fnExactSolutionsMany_fact23 fnExactSolutionsMany_fact24 fnExactSolutionsMany_fact25 fnExactSolutionsMany_fact26 fnExactSolutionsMany_fact27 fnExactSolutionsMany_fact28 fnExactSolutionsMany_fact29 fnExactSolutionsMany_fact30 fnExactSolutionsMany_fact31

set_option maxRecDepth 100000 in
theorem fnExactSolutionsMany_lifted (os : Os) (started : os.Started) (H : Type) (enc : TypeId × Value → H) :
    ReturnsInHanded {} Try.checked os 13 .any (Rows.fnExactSolutionsManySpec.pre6 enc Try.prog Try.f13 Rows.fnExactSolutionsManyRow.domain false) (Rows.fnExactSolutionsManySpec.post enc Try.prog Try.f13 false true false false) := by
  refine returnsInHanded_of_change (C := Try.checked) own started (by kernel_rfl) Try.func13
    (ChangeSpec.witness6 (enc := enc) (C := Try.checked) false ⟨#[], #[.agg #[.int .i64 0, .int .i64 0, .slice none 0 0], .slice none 0 0], []⟩ 8 (by kernel_rfl) (by kernel_rfl) (by kernel_rfl) (by kernel_rfl)) ?_
  intro W base args ds gs before hval0 hW hcnd _
  have hval : ∀ (j : Nat) t v, Try.f13.params[j]? = some t → args[j]? = some v → Value.okWide Try.prog W .any base t v := hval0
  have hW' : DataW.Whole enc Try.prog Try.f13.params.toList Rows.fnExactSolutionsManySpec.vars false W args.toList ds gs before := hW
  obtain ⟨p, q, hA0, hV, hpq, hfz, hnd⟩ := hW
  have hA : DataW.TrodAll enc Try.prog W 0 (fun _ => true) true Try.f13.params.toList args.toList ds p := hA0
  rw [Try.params13] at hA hval
  obtain ⟨v0, v1, d0, d1, p0, p1, rfl, rfl, rfl, h0, h1⟩ := trodAll_two hA
  obtain ⟨rfl, rfl⟩ := trodVars_none hV
  rw [List.append_nil] at hpq
  subst hpq
  obtain ⟨W0, T0, cs0, _, _, hl0, r0⟩ := read_region Try.underlying24 one24 cells24 Try.underlying3 Try.underlying3 Try.underlying22 Try.underlying4 cells4 (hval 0 24 v0 rfl rfl) h0
  obtain ⟨xs1, hl1, _, r1⟩ := read_ints Try.underlying25 Try.underlying3 cells3 (hval 1 25 v1 rfl rfl) h1
  exact law_post (tb := 4) (s_FnExactSolutionsMany W0 T0 cs0 xs1 hl0) (RL.cons0 r0 (RL.cons0 r1 RL.nil0)) laidOut
    (by
      rw [Try.params13]
      intro t ht
      simp at ht
      rcases ht with rfl | rfl
      · exact ⟨readable.1, of_decide_eq_true (by kernel_rfl)⟩
      · exact ⟨readable.2.1, of_decide_eq_true (by kernel_rfl)⟩) hW' rfl rfl (by kernel_rfl) Try.underlying4

theorem fnExactSolutionsMany_holds : Rows.FnExactSolutionsManySaid :=
  OpenClaim.holds_of_wide 13 Try.f13 rfl rfl rfl rfl rfl rfl rfl ⟨rfl, rfl, rfl, rfl, rfl⟩ rfl rfl rfl rfl rfl (by kernel_rfl) Try.func13 fnExactSolutionsMany_facts
    (of_decide_eq_true (by kernel_rfl)) (by unfold Func.isWrapper; first | (rw [if_pos (by decide +kernel)]; kernel_rfl) | (rw [if_neg (by decide +kernel)]; exact ⟨rfl, rfl⟩))
    (fun os started H enc _ => fnExactSolutionsMany_lifted os started H enc)

end Go.Proofs.Ytjldabnbfdgbhaa
