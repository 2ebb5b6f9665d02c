/- For every code the law FnSolutionsMany answers true, and the code reads as before; no condition. -/
import Derived.Test.YtfkmfobbgoflgaaAJ
import Derived.Test.YtfkmfobbgoflgaaAT

set_option linter.unusedSimpArgs false
set_option linter.unusedVariables false

namespace Go.Proofs.Ytfkmfobbgoflgaa
open Go.ChangeShapes Go.WideShapes Go.ChangeAt Go.RowKit Go.Proofs.Dev
theorem fnSolutionsMany_fact0 : (Rows.fnSolutionsManyRow.wf (OpenSpec.ofChange Rows.fnSolutionsManySpec)) = true := by kernel_rfl
theorem fnSolutionsMany_fact1 : (laidOutB Try.prog) = true := by kernel_rfl
theorem fnSolutionsMany_fact2 : (mapsRowed Try.prog) = true := by kernel_rfl
theorem fnSolutionsMany_fact3 : (Try.f3.params.all (Try.prog.readableRec ·)) = true := by kernel_rfl
theorem fnSolutionsMany_fact4 : (namedTie Try.prog Rows.fnSolutionsManyRow.named Rows.fnSolutionsManySpec.vars) = true := by kernel_rfl
theorem fnSolutionsMany_fact5 : ((Rows.fnSolutionsManyRow.stops == [])) = true := by kernel_rfl
theorem fnSolutionsMany_fact6 : ((Try.prog.stops == [])) = true := by kernel_rfl
theorem fnSolutionsMany_fact7 : ((Rows.fnSolutionsManyRow.knobs == [])) = true := by kernel_rfl
theorem fnSolutionsMany_fact8 : ((Try.prog.stopKnobs == [])) = true := by kernel_rfl
theorem fnSolutionsMany_fact9 : ((Rows.fnSolutionsManyRow.inPlace == Try.prog.inPlace 3)) = true := by kernel_rfl
theorem fnSolutionsMany_fact10 : ((Rows.fnSolutionsManyRow.unfollowed == Try.prog.unfollowed 3)) = true := by kernel_rfl
theorem fnSolutionsMany_fact11 : ((Rows.fnSolutionsManyRow.recurses == Try.prog.recurses 3)) = true := by kernel_rfl
theorem fnSolutionsMany_fact12 : ((Rows.fnSolutionsManyRow.named == Try.prog.varsNamed 3)) = true := by kernel_rfl
theorem fnSolutionsMany_fact13 : ((Rows.fnSolutionsManyRow.maps == (Try.f3.params.toList ++ Rows.fnSolutionsManySpec.plain.varTypes Try.prog).any (Try.prog.mapsRec ·))) = true := by kernel_rfl
theorem fnSolutionsMany_fact14 : ((Rows.fnSolutionsManyRow.ifaces == (Try.f3.params.toList ++ Rows.fnSolutionsManySpec.plain.varTypes Try.prog).any (Try.prog.ifacesRec ·))) = true := by kernel_rfl
theorem fnSolutionsMany_fact15 : ((Rows.fnSolutionsManyRow.mapsOut == Try.prog.mapsAmong Try.f3.resultTypes.toList)) = true := by kernel_rfl
theorem fnSolutionsMany_fact16 : ((Rows.fnSolutionsManyRow.loops == (Try.f3.params.toList ++ Rows.fnSolutionsManySpec.plain.varTypes Try.prog).any (Try.prog.loopsFrom ·))) = true := by kernel_rfl
theorem fnSolutionsMany_fact17 : ((Rows.fnSolutionsManyRow.wideKeys == (Try.f3.params.toList ++ Rows.fnSolutionsManySpec.plain.varTypes Try.prog ++ Try.f3.resultTypes.toList).any (Try.prog.wideKeysFrom ·))) = true := by kernel_rfl
theorem fnSolutionsMany_fact18 : (Rows.fnSolutionsManySpec.vars.all (Try.prog.varReadable ·)) = true := by kernel_rfl
theorem fnSolutionsMany_fact19 : (Try.f3.resultTypes.all (fun t => Try.prog.readableRec t && decide (t < Try.prog.types.size))) = true := by kernel_rfl
theorem fnSolutionsMany_fact20 : ((Rows.fnSolutionsManyRow.ifacesOut == Try.f3.resultTypes.toList.any (Try.prog.ifacesRec ·))) = true := by kernel_rfl
theorem fnSolutionsMany_fact21 : ((Rows.fnSolutionsManyRow.loopsOut == Try.f3.resultTypes.toList.any (Try.prog.loopsFrom ·))) = true := by kernel_rfl
theorem fnSolutionsMany_fact22 : ((Rows.fnSolutionsManyRow.plainKeys == Try.prog.plainKeys)) = true := by kernel_rfl
theorem fnSolutionsMany_fact23 : (Rows.fnSolutionsManyRow.shortTexts.isNone) = true := by kernel_rfl
theorem fnSolutionsMany_fact24 : (Try.prog.stopsHeard) = true := by kernel_rfl
theorem fnSolutionsMany_fact25 : (Try.prog.mayEnter) = true := fact_mayEnter
theorem fnSolutionsMany_fact26 : ((Rows.fnSolutionsManyRow.lifted == Try.prog.liftsFinal)) = true := by rw [fact_liftsFinal]; rfl
theorem fnSolutionsMany_fact27 : ((Try.prog.make == some Rows.fnSolutionsManyRow.make)) = true := by rw [fact_make]; rfl
theorem fnSolutionsMany_fact28 : Rows.fnSolutionsManyRow.domain = [] ∧ Rows.fnSolutionsManyRow.kinds = [] := ⟨rfl, rfl⟩
theorem fnSolutionsMany_fact29 : ((Rows.fnSolutionsManyRow.pinned == Rows.fnSolutionsManyRow.pinnedBy)) = true := by kernel_rfl
theorem fnSolutionsMany_fact30 : ((Rows.fnSolutionsManyRow.veiled == (Try.f3.params.toList ++ Rows.fnSolutionsManySpec.plain.varTypes Try.prog ++ Try.f3.resultTypes.toList).any (Try.prog.veiledRec ·))) = true := by kernel_rfl
theorem fnSolutionsMany_fact31 : (Rows.fnSolutionsManyRow.veiledFits Try.prog Try.f3.params.toList (Try.f3.params.toList ++ Rows.fnSolutionsManySpec.plain.varTypes Try.prog ++ Try.f3.resultTypes.toList)) = true := by kernel_rfl
theorem fnSolutionsMany_facts : joinedFacts Try.prog 3 Try.f3 Rows.fnSolutionsManySpec Rows.fnSolutionsManyRow = true :=
  joinedFacts_of fnSolutionsMany_fact0 fnSolutionsMany_fact1 fnSolutionsMany_fact2 fnSolutionsMany_fact3 fnSolutionsMany_fact4 fnSolutionsMany_fact5 fnSolutionsMany_fact6 fnSolutionsMany_fact7 fnSolutionsMany_fact8 fnSolutionsMany_fact9 fnSolutionsMany_fact10 fnSolutionsMany_fact11 fnSolutionsMany_fact12 fnSolutionsMany_fact13 fnSolutionsMany_fact14 fnSolutionsMany_fact15 fnSolutionsMany_fact16 fnSolutionsMany_fact17 fnSolutionsMany_fact18 fnSolutionsMany_fact19 fnSolutionsMany_fact20 fnSolutionsMany_fact21 fnSolutionsMany_fact22 fnSolutionsMany_fact23 fnSolutionsMany_fact24 fnSolutionsMany_fact25 fnSolutionsMany_fact26 fnSolutionsMany_fact27 fnSolutionsMany_fact28 fnSolutionsMany_fact29 fnSolutionsMany_fact30 fnSolutionsMany_fact31

set_option maxRecDepth 100000 in
theorem fnSolutionsMany_lifted (os : Os) (started : os.Started) (H : Type) (enc : TypeId × Value → H) :
    ReturnsInHanded {} Try.checked os 3 .any (Rows.fnSolutionsManySpec.pre6 enc Try.prog Try.f3 Rows.fnSolutionsManyRow.domain false) (Rows.fnSolutionsManySpec.post enc Try.prog Try.f3 false true false false) := by
  refine returnsInHanded_of_change (C := Try.checked) own started (by kernel_rfl) Try.func3
    (ChangeSpec.witness6 (enc := enc) (C := Try.checked) false ⟨#[], #[.slice none 0 0], []⟩ 8 (by kernel_rfl) (by kernel_rfl) (by kernel_rfl) (by kernel_rfl)) ?_
  intro W base args ds gs before hval0 hW hcnd _
  have hval : ∀ (j : Nat) t v, Try.f3.params[j]? = some t → args[j]? = some v → Value.okWide Try.prog W .any base t v := hval0
  have hW' : DataW.Whole enc Try.prog Try.f3.params.toList Rows.fnSolutionsManySpec.vars false W args.toList ds gs before := hW
  obtain ⟨p, q, hA0, hV, hpq, hfz, hnd⟩ := hW
  have hA : DataW.TrodAll enc Try.prog W 0 (fun _ => true) true Try.f3.params.toList args.toList ds p := hA0
  rw [Try.params3] at hA hval
  obtain ⟨v0, d0, rfl, rfl, h0⟩ := trodAll_one hA
  obtain ⟨rfl, rfl⟩ := trodVars_none hV
  rw [List.append_nil] at hpq
  subst hpq
  obtain ⟨xs0, hl0, hB0, r0⟩ := read_bytes Try.underlying22 Try.underlying5 cells5 (hval 0 22 v0 rfl rfl) h0
  exact law_post (tb := 4) (byte_law (l_FnSolutionsMany xs0 hB0 )) (RL.cons0 r0 RL.nil0) laidOut
    (by
      rw [Try.params3]
      intro t ht
      simp at ht
      subst ht
      exact ⟨readable22, of_decide_eq_true (by kernel_rfl)⟩) hW' rfl rfl (by kernel_rfl) Try.underlying4

theorem fnSolutionsMany_holds : Rows.FnSolutionsManySaid :=
  OpenClaim.holds_of_wide 3 Try.f3 rfl rfl rfl rfl rfl rfl rfl ⟨rfl, rfl, rfl, rfl, rfl⟩ rfl rfl rfl rfl rfl (by kernel_rfl) Try.func3 fnSolutionsMany_facts
    (of_decide_eq_true (by kernel_rfl)) (by unfold Func.isWrapper; first | (rw [if_pos (by decide +kernel)]; kernel_rfl) | (rw [if_neg (by decide +kernel)]; exact ⟨rfl, rfl⟩))
    (fun os started H enc _ => fnSolutionsMany_lifted os started H enc)

end Go.Proofs.Ytfkmfobbgoflgaa
