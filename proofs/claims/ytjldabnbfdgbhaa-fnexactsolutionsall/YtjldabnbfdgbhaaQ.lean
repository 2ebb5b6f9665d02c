/- For all arguments the law of SolutionsAll answers true: the program returns what the reference returns, changes no argument, and keeps none. -/
import Derived.Test.YtjldabnbfdgbhaaJ
import Derived.Test.YtjldabnbfdgbhaaW
import Derived.Test.YtjldabnbfdgbhaaAG

set_option linter.unusedSimpArgs false
set_option linter.unusedVariables false

namespace Go.Proofs.Ytjldabnbfdgbhaa
open Go.ChangeShapes Go.WideShapes Go.ChangeAt Go.RowKit Go.Proofs.Dev
theorem cells49 : Try.prog.cellsOf 49 = 6 := by kernel_rfl
theorem cells25 : Try.prog.cellsOf 25 = 1 := by kernel_rfl
theorem cells36 : Try.prog.cellsOf 36 = 1 := by kernel_rfl
theorem cells22 : Try.prog.cellsOf 22 = 1 := by kernel_rfl
theorem readable49 : Try.prog.readableRec 49 = true := by kernel_rfl

end Go.Proofs.Ytjldabnbfdgbhaa

namespace Go.Proofs.Ytjldabnbfdgbhaa
open Go.ChangeShapes Go.WideShapes Go.ChangeAt Go.RowKit Go.Proofs.Dev
theorem fnExactSolutionsAll_fact0 : (Rows.fnExactSolutionsAllRow.wf (OpenSpec.ofChange Rows.fnExactSolutionsAllSpec)) = true := by kernel_rfl
theorem fnExactSolutionsAll_fact1 : (laidOutB Try.prog) = true := by kernel_rfl
theorem fnExactSolutionsAll_fact2 : (mapsRowed Try.prog) = true := by kernel_rfl
theorem fnExactSolutionsAll_fact3 : (Try.f17.params.all (Try.prog.readableRec ·)) = true := by kernel_rfl
theorem fnExactSolutionsAll_fact4 : (namedTie Try.prog Rows.fnExactSolutionsAllRow.named Rows.fnExactSolutionsAllSpec.vars) = true := by kernel_rfl
theorem fnExactSolutionsAll_fact5 : ((Rows.fnExactSolutionsAllRow.stops == [])) = true := by kernel_rfl
theorem fnExactSolutionsAll_fact6 : ((Try.prog.stops == [])) = true := by kernel_rfl
theorem fnExactSolutionsAll_fact7 : ((Rows.fnExactSolutionsAllRow.knobs == [])) = true := by kernel_rfl
theorem fnExactSolutionsAll_fact8 : ((Try.prog.stopKnobs == [])) = true := by kernel_rfl
theorem fnExactSolutionsAll_fact9 : ((Rows.fnExactSolutionsAllRow.inPlace == Try.prog.inPlace 17)) = true := by kernel_rfl
theorem fnExactSolutionsAll_fact10 : ((Rows.fnExactSolutionsAllRow.unfollowed == Try.prog.unfollowed 17)) = true := by kernel_rfl
theorem fnExactSolutionsAll_fact11 : ((Rows.fnExactSolutionsAllRow.recurses == Try.prog.recurses 17)) = true := by kernel_rfl
theorem fnExactSolutionsAll_fact12 : ((Rows.fnExactSolutionsAllRow.named == Try.prog.varsNamed 17)) = true := by kernel_rfl
theorem fnExactSolutionsAll_fact13 : ((Rows.fnExactSolutionsAllRow.maps == (Try.f17.params.toList ++ Rows.fnExactSolutionsAllSpec.plain.varTypes Try.prog).any (Try.prog.mapsRec ·))) = true := by kernel_rfl
theorem fnExactSolutionsAll_fact14 : ((Rows.fnExactSolutionsAllRow.ifaces == (Try.f17.params.toList ++ Rows.fnExactSolutionsAllSpec.plain.varTypes Try.prog).any (Try.prog.ifacesRec ·))) = true := by kernel_rfl
theorem fnExactSolutionsAll_fact15 : ((Rows.fnExactSolutionsAllRow.mapsOut == Try.prog.mapsAmong Try.f17.resultTypes.toList)) = true := by kernel_rfl
theorem fnExactSolutionsAll_fact16 : ((Rows.fnExactSolutionsAllRow.loops == (Try.f17.params.toList ++ Rows.fnExactSolutionsAllSpec.plain.varTypes Try.prog).any (Try.prog.loopsFrom ·))) = true := by kernel_rfl
theorem fnExactSolutionsAll_fact17 : ((Rows.fnExactSolutionsAllRow.wideKeys == (Try.f17.params.toList ++ Rows.fnExactSolutionsAllSpec.plain.varTypes Try.prog ++ Try.f17.resultTypes.toList).any (Try.prog.wideKeysFrom ·))) = true := by kernel_rfl
theorem fnExactSolutionsAll_fact18 : (Rows.fnExactSolutionsAllSpec.vars.all (Try.prog.varReadable ·)) = true := by kernel_rfl
theorem fnExactSolutionsAll_fact19 : (Try.f17.resultTypes.all (fun t => Try.prog.readableRec t && decide (t < Try.prog.types.size))) = true := by kernel_rfl
theorem fnExactSolutionsAll_fact20 : ((Rows.fnExactSolutionsAllRow.ifacesOut == Try.f17.resultTypes.toList.any (Try.prog.ifacesRec ·))) = true := by kernel_rfl
theorem fnExactSolutionsAll_fact21 : ((Rows.fnExactSolutionsAllRow.loopsOut == Try.f17.resultTypes.toList.any (Try.prog.loopsFrom ·))) = true := by kernel_rfl
theorem fnExactSolutionsAll_fact22 : ((Rows.fnExactSolutionsAllRow.plainKeys == Try.prog.plainKeys)) = true := by kernel_rfl
theorem fnExactSolutionsAll_fact23 : (Rows.fnExactSolutionsAllRow.shortTexts.isNone) = true := by kernel_rfl
theorem fnExactSolutionsAll_fact24 : (Try.prog.stopsHeard) = true := by kernel_rfl
theorem fnExactSolutionsAll_fact25 : (Try.prog.mayEnter) = true := fact_mayEnter
theorem fnExactSolutionsAll_fact26 : ((Rows.fnExactSolutionsAllRow.lifted == Try.prog.liftsFinal)) = true := by rw [fact_liftsFinal]; rfl
theorem fnExactSolutionsAll_fact27 : ((Try.prog.make == some Rows.fnExactSolutionsAllRow.make)) = true := by rw [fact_make]; rfl
theorem fnExactSolutionsAll_fact28 : Rows.fnExactSolutionsAllRow.domain = [] ∧ Rows.fnExactSolutionsAllRow.kinds = [] := ⟨rfl, rfl⟩
theorem fnExactSolutionsAll_fact29 : ((Rows.fnExactSolutionsAllRow.pinned == Rows.fnExactSolutionsAllRow.pinnedBy)) = true := by kernel_rfl
theorem fnExactSolutionsAll_fact30 : ((Rows.fnExactSolutionsAllRow.veiled == (Try.f17.params.toList ++ Rows.fnExactSolutionsAllSpec.plain.varTypes Try.prog ++ Try.f17.resultTypes.toList).any (Try.prog.veiledRec ·))) = true := by kernel_rfl
theorem fnExactSolutionsAll_fact31 : (Rows.fnExactSolutionsAllRow.veiledFits Try.prog Try.f17.params.toList (Try.f17.params.toList ++ Rows.fnExactSolutionsAllSpec.plain.varTypes Try.prog ++ Try.f17.resultTypes.toList)) = true := by kernel_rfl
theorem fnExactSolutionsAll_facts : joinedFacts Try.prog 17 Try.f17 Rows.fnExactSolutionsAllSpec Rows.fnExactSolutionsAllRow = true :=
  joinedFacts_of fnExactSolutionsAll_fact0 fnExactSolutionsAll_fact1 fnExactSolutionsAll_fact2 fnExactSolutionsAll_fact3 fnExactSolutionsAll_fact4 fnExactSolutionsAll_fact5 fnExactSolutionsAll_fact6 fnExactSolutionsAll_fact7 fnExactSolutionsAll_fact8 fnExactSolutionsAll_fact9 fnExactSolutionsAll_fact10 fnExactSolutionsAll_fact11 fnExactSolutionsAll_fact12 fnExactSolutionsAll_fact13 fnExactSolutionsAll_fact14 fnExactSolutionsAll_fact15 fnExactSolutionsAll_fact16 fnExactSolutionsAll_fact17 fnExactSolutionsAll_fact18 fnExactSolutionsAll_fact19 fnExactSolutionsAll_fact20 fnExactSolutionsAll_fact21 fnExactSolutionsAll_fact22 fnExactSolutionsAll_fact23 fnExactSolutionsAll_fact24 fnExactSolutionsAll_fact25 fnExactSolutionsAll_fact26 fnExactSolutionsAll_fact27 fnExactSolutionsAll_fact28 fnExactSolutionsAll_fact29 fnExactSolutionsAll_fact30 fnExactSolutionsAll_fact31

set_option maxRecDepth 100000 in
theorem fnExactSolutionsAll_lifted (os : Os) (started : os.Started) (H : Type) (enc : TypeId × Value → H) :
    ReturnsInHanded {} Try.checked os 17 .any (Rows.fnExactSolutionsAllSpec.pre6 enc Try.prog Try.f17 Rows.fnExactSolutionsAllRow.domain false) (Rows.fnExactSolutionsAllSpec.post enc Try.prog Try.f17 false true false false) := by
  refine returnsInHanded_of_change (C := Try.checked) own started (by kernel_rfl) Try.func17
    (ChangeSpec.witness6 (enc := enc) (C := Try.checked) false ⟨#[], #[.agg #[.int .i64 0, .int .i64 0, .slice none 0 0], .slice none 0 0], []⟩ 8 (by kernel_rfl) (by kernel_rfl) (by kernel_rfl) (by kernel_rfl)) ?_
  intro W base args ds gs before hval0 hW hcnd _
  have hval : ∀ (j : Nat) t v, Try.f17.params[j]? = some t → args[j]? = some v → Value.okWide Try.prog W .any base t v := hval0
  have hW' : DataW.Whole enc Try.prog Try.f17.params.toList Rows.fnExactSolutionsAllSpec.vars false W args.toList ds gs before := hW
  obtain ⟨p, q, hA0, hV, hpq, hfz, hnd⟩ := hW
  have hA : DataW.TrodAll enc Try.prog W 0 (fun _ => true) true Try.f17.params.toList args.toList ds p := hA0
  rw [Try.params17] at hA hval
  obtain ⟨v0, v1, d0, d1, p0, p1, rfl, rfl, rfl, h0, h1⟩ := trodAll_two hA
  obtain ⟨rfl, rfl⟩ := trodVars_none hV
  rw [List.append_nil] at hpq
  subst hpq
  obtain ⟨W0, T0, cs0, _, _, hl0, r0⟩ := read_region Try.underlying24 one24 cells24 Try.underlying3 Try.underlying3 Try.underlying22 Try.underlying4 cells4 (hval 0 24 v0 rfl rfl) h0
  obtain ⟨xs1, hl1, _, r1⟩ := read_ints Try.underlying25 Try.underlying3 cells3 (hval 1 25 v1 rfl rfl) h1
  exact law_post (tb := 4) (s_FnExactSolutionsAll W0 T0 cs0 xs1 hl0) (RL.cons0 r0 (RL.cons0 r1 RL.nil0)) laidOut
    (by
      rw [Try.params17]
      intro t ht
      simp at ht
      rcases ht with rfl | rfl
      · exact ⟨readable.1, of_decide_eq_true (by kernel_rfl)⟩
      · exact ⟨readable.2.1, of_decide_eq_true (by kernel_rfl)⟩) hW' rfl rfl (by kernel_rfl) Try.underlying4

theorem fnExactSolutionsAll_holds : Rows.FnExactSolutionsAllSaid :=
  OpenClaim.holds_of_wide 17 Try.f17 rfl rfl rfl rfl rfl rfl rfl ⟨rfl, rfl, rfl, rfl, rfl⟩ rfl rfl rfl rfl rfl (by kernel_rfl) Try.func17 fnExactSolutionsAll_facts
    (of_decide_eq_true (by kernel_rfl)) (by unfold Func.isWrapper; first | (rw [if_pos (by decide +kernel)]; kernel_rfl) | (rw [if_neg (by decide +kernel)]; exact ⟨rfl, rfl⟩))
    (fun os started H enc _ => fnExactSolutionsAll_lifted os started H enc)

end Go.Proofs.Ytjldabnbfdgbhaa
