/- For every list of bytes the law FnSolutionsAll answers true, and the bytes read as before. -/
import Derived.Test.YtlcoaglnegibkaaJB
import Derived.Test.YtlcoaglnegibkaaBR

set_option linter.unusedSimpArgs false
set_option linter.unusedVariables false

namespace Go.Proofs.Ytlcoaglnegibkaa
open Go.ChangeShapes Go.WideShapes Go.ChangeAt Go.RowKit Go.Proofs.Dev
theorem fnSolutionsAll_fact0 : (Rows.fnSolutionsAllRow.wf (OpenSpec.ofChange Rows.fnSolutionsAllSpec)) = true := by kernel_rfl
theorem fnSolutionsAll_fact1 : (laidOutB Try.prog) = true := by kernel_rfl
theorem fnSolutionsAll_fact2 : (mapsRowed Try.prog) = true := by kernel_rfl
theorem fnSolutionsAll_fact3 : (Try.f7.params.all (Try.prog.readableRec ·)) = true := by kernel_rfl
theorem fnSolutionsAll_fact4 : (namedTie Try.prog Rows.fnSolutionsAllRow.named Rows.fnSolutionsAllSpec.vars) = true := by kernel_rfl
theorem fnSolutionsAll_fact5 : ((Rows.fnSolutionsAllRow.stops == [])) = true := by kernel_rfl
theorem fnSolutionsAll_fact6 : ((Try.prog.stops == [])) = true := by kernel_rfl
theorem fnSolutionsAll_fact7 : ((Rows.fnSolutionsAllRow.knobs == [])) = true := by kernel_rfl
theorem fnSolutionsAll_fact8 : ((Try.prog.stopKnobs == [])) = true := by kernel_rfl
theorem fnSolutionsAll_fact9 : ((Rows.fnSolutionsAllRow.inPlace == Try.prog.inPlace 7)) = true := by kernel_rfl
theorem fnSolutionsAll_fact10 : ((Rows.fnSolutionsAllRow.unfollowed == Try.prog.unfollowed 7)) = true := by kernel_rfl
theorem fnSolutionsAll_fact11 : ((Rows.fnSolutionsAllRow.recurses == Try.prog.recurses 7)) = true := by kernel_rfl
theorem fnSolutionsAll_fact12 : ((Rows.fnSolutionsAllRow.named == Try.prog.varsNamed 7)) = true := by kernel_rfl
theorem fnSolutionsAll_fact13 : ((Rows.fnSolutionsAllRow.maps == (Try.f7.params.toList ++ Rows.fnSolutionsAllSpec.plain.varTypes Try.prog).any (Try.prog.mapsRec ·))) = true := by kernel_rfl
theorem fnSolutionsAll_fact14 : ((Rows.fnSolutionsAllRow.ifaces == (Try.f7.params.toList ++ Rows.fnSolutionsAllSpec.plain.varTypes Try.prog).any (Try.prog.ifacesRec ·))) = true := by kernel_rfl
theorem fnSolutionsAll_fact15 : ((Rows.fnSolutionsAllRow.mapsOut == Try.prog.mapsAmong Try.f7.resultTypes.toList)) = true := by kernel_rfl
theorem fnSolutionsAll_fact16 : ((Rows.fnSolutionsAllRow.loops == (Try.f7.params.toList ++ Rows.fnSolutionsAllSpec.plain.varTypes Try.prog).any (Try.prog.loopsFrom ·))) = true := by kernel_rfl
theorem fnSolutionsAll_fact17 : ((Rows.fnSolutionsAllRow.wideKeys == (Try.f7.params.toList ++ Rows.fnSolutionsAllSpec.plain.varTypes Try.prog ++ Try.f7.resultTypes.toList).any (Try.prog.wideKeysFrom ·))) = true := by kernel_rfl
theorem fnSolutionsAll_fact18 : (Rows.fnSolutionsAllSpec.vars.all (Try.prog.varReadable ·)) = true := by kernel_rfl
theorem fnSolutionsAll_fact19 : (Try.f7.resultTypes.all (fun t => Try.prog.readableRec t && decide (t < Try.prog.types.size))) = true := by kernel_rfl
theorem fnSolutionsAll_fact20 : ((Rows.fnSolutionsAllRow.ifacesOut == Try.f7.resultTypes.toList.any (Try.prog.ifacesRec ·))) = true := by kernel_rfl
theorem fnSolutionsAll_fact21 : ((Rows.fnSolutionsAllRow.loopsOut == Try.f7.resultTypes.toList.any (Try.prog.loopsFrom ·))) = true := by kernel_rfl
theorem fnSolutionsAll_fact22 : ((Rows.fnSolutionsAllRow.plainKeys == Try.prog.plainKeys)) = true := by kernel_rfl
theorem fnSolutionsAll_fact23 : (Rows.fnSolutionsAllRow.shortTexts.isNone) = true := by kernel_rfl
theorem fnSolutionsAll_fact24 : (Try.prog.stopsHeard) = true := by kernel_rfl
theorem fnSolutionsAll_fact25 : (Try.prog.mayEnter) = true := fact_mayEnter
theorem fnSolutionsAll_fact26 : ((Rows.fnSolutionsAllRow.lifted == Try.prog.liftsFinal)) = true := by rw [fact_liftsFinal]; rfl
theorem fnSolutionsAll_fact27 : ((Try.prog.make == some Rows.fnSolutionsAllRow.make)) = true := by rw [fact_make]; rfl
theorem fnSolutionsAll_fact28 : Rows.fnSolutionsAllRow.domain = [] ∧ Rows.fnSolutionsAllRow.kinds = [] := ⟨rfl, rfl⟩
theorem fnSolutionsAll_fact29 : ((Rows.fnSolutionsAllRow.pinned == Rows.fnSolutionsAllRow.pinnedBy)) = true := by kernel_rfl
theorem fnSolutionsAll_fact30 : ((Rows.fnSolutionsAllRow.veiled == (Try.f7.params.toList ++ Rows.fnSolutionsAllSpec.plain.varTypes Try.prog ++ Try.f7.resultTypes.toList).any (Try.prog.veiledRec ·))) = true := by kernel_rfl
theorem fnSolutionsAll_fact31 : (Rows.fnSolutionsAllRow.veiledFits Try.prog Try.f7.params.toList (Try.f7.params.toList ++ Rows.fnSolutionsAllSpec.plain.varTypes Try.prog ++ Try.f7.resultTypes.toList)) = true := by kernel_rfl
theorem fnSolutionsAll_facts : joinedFacts Try.prog 7 Try.f7 Rows.fnSolutionsAllSpec Rows.fnSolutionsAllRow = true :=
  joinedFacts_of fnSolutionsAll_fact0 fnSolutionsAll_fact1 fnSolutionsAll_fact2 fnSolutionsAll_fact3 fnSolutionsAll_fact4 fnSolutionsAll_fact5 fnSolutionsAll_fact6 fnSolutionsAll_fact7 fnSolutionsAll_fact8 fnSolutionsAll_fact9 fnSolutionsAll_fact10 fnSolutionsAll_fact11 fnSolutionsAll_fact12 fnSolutionsAll_fact13 fnSolutionsAll_fact14 fnSolutionsAll_fact15 fnSolutionsAll_fact16 fnSolutionsAll_fact17 fnSolutionsAll_fact18 fnSolutionsAll_fact19 fnSolutionsAll_fact20 fnSolutionsAll_fact21 fnSolutionsAll_fact22 fnSolutionsAll_fact23 fnSolutionsAll_fact24 fnSolutionsAll_fact25 fnSolutionsAll_fact26 fnSolutionsAll_fact27 fnSolutionsAll_fact28 fnSolutionsAll_fact29 fnSolutionsAll_fact30 fnSolutionsAll_fact31

set_option maxRecDepth 100000 in
theorem fnSolutionsAll_lifted (os : Os) (started : os.Started) (H : Type) (enc : TypeId × Value → H) :
    ReturnsInHanded {} Try.checked os 7 .any (Rows.fnSolutionsAllSpec.pre6 enc Try.prog Try.f7 Rows.fnSolutionsAllRow.domain false) (Rows.fnSolutionsAllSpec.post enc Try.prog Try.f7 false true false false) := by
  refine returnsInHanded_of_change (C := Try.checked) own started (by kernel_rfl) Try.func7
    (ChangeSpec.witness6 (enc := enc) (C := Try.checked) false ⟨#[], #[.slice none 0 0], []⟩ 8 (by kernel_rfl) (by kernel_rfl) (by kernel_rfl) (by kernel_rfl)) ?_
  intro W base args ds gs before hval0 hW hcnd _
  have hval : ∀ (j : Nat) t v, Try.f7.params[j]? = some t → args[j]? = some v → Value.okWide Try.prog W .any base t v := hval0
  have hW' : DataW.Whole enc Try.prog Try.f7.params.toList Rows.fnSolutionsAllSpec.vars false W args.toList ds gs before := hW
  obtain ⟨p, q, hA0, hV, hpq, hfz, hnd⟩ := hW
  have hA : DataW.TrodAll enc Try.prog W 0 (fun _ => true) true Try.f7.params.toList args.toList ds p := hA0
  rw [Try.params7] at hA hval
  obtain ⟨v0, d0, rfl, rfl, h0⟩ := trodAll_one hA
  obtain ⟨rfl, rfl⟩ := trodVars_none hV
  rw [List.append_nil] at hpq
  subst hpq
  obtain ⟨xs0, hl0, hB0, r0⟩ := read_bytes Try.underlying22 Try.underlying5 cells5 (hval 0 22 v0 rfl rfl) h0
  exact law_post (tb := 4) (byte_law (l_FnSolutionsAll xs0 hB0 )) (RL.cons0 r0 RL.nil0) laidOut
    (by
      rw [Try.params7]
      intro t ht
      simp at ht
      subst ht
      exact ⟨readable22, of_decide_eq_true (by kernel_rfl)⟩) hW' rfl rfl (by kernel_rfl) Try.underlying4

theorem fnSolutionsAll_holds : Rows.FnSolutionsAllSaid :=
  OpenClaim.holds_of_wide 7 Try.f7 rfl rfl rfl rfl rfl rfl rfl ⟨rfl, rfl, rfl, rfl, rfl⟩ rfl rfl rfl rfl rfl (by kernel_rfl) Try.func7 fnSolutionsAll_facts
    (of_decide_eq_true (by kernel_rfl)) (by unfold Func.isWrapper; first | (rw [if_pos (by decide +kernel)]; kernel_rfl) | (rw [if_neg (by decide +kernel)]; exact ⟨rfl, rfl⟩))
    (fun os started H enc _ => fnSolutionsAll_lifted os started H enc)

end Go.Proofs.Ytlcoaglnegibkaa
