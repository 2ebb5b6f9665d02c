/- For every list of bytes the law FnFairOk answers true, and the bytes read as before. -/
import Derived.Test.YtlcoaglnegibkaaJB
import Derived.Test.YtlcoaglnegibkaaBM

set_option linter.unusedSimpArgs false
set_option linter.unusedVariables false

namespace Go.Proofs.Ytlcoaglnegibkaa
open Go.ChangeShapes Go.WideShapes Go.ChangeAt Go.RowKit Go.Proofs.Dev
theorem fnFairOk_fact0 : (Rows.fnFairOkRow.wf (OpenSpec.ofChange Rows.fnFairOkSpec)) = true := by kernel_rfl
theorem fnFairOk_fact1 : (laidOutB Try.prog) = true := by kernel_rfl
theorem fnFairOk_fact2 : (mapsRowed Try.prog) = true := by kernel_rfl
theorem fnFairOk_fact3 : (Try.f5.params.all (Try.prog.readableRec ·)) = true := by kernel_rfl
theorem fnFairOk_fact4 : (namedTie Try.prog Rows.fnFairOkRow.named Rows.fnFairOkSpec.vars) = true := by kernel_rfl
theorem fnFairOk_fact5 : ((Rows.fnFairOkRow.stops == [])) = true := by kernel_rfl
theorem fnFairOk_fact6 : ((Try.prog.stops == [])) = true := by kernel_rfl
theorem fnFairOk_fact7 : ((Rows.fnFairOkRow.knobs == [])) = true := by kernel_rfl
theorem fnFairOk_fact8 : ((Try.prog.stopKnobs == [])) = true := by kernel_rfl
theorem fnFairOk_fact9 : ((Rows.fnFairOkRow.inPlace == Try.prog.inPlace 5)) = true := by kernel_rfl
theorem fnFairOk_fact10 : ((Rows.fnFairOkRow.unfollowed == Try.prog.unfollowed 5)) = true := by kernel_rfl
theorem fnFairOk_fact11 : ((Rows.fnFairOkRow.recurses == Try.prog.recurses 5)) = true := by kernel_rfl
theorem fnFairOk_fact12 : ((Rows.fnFairOkRow.named == Try.prog.varsNamed 5)) = true := by kernel_rfl
theorem fnFairOk_fact13 : ((Rows.fnFairOkRow.maps == (Try.f5.params.toList ++ Rows.fnFairOkSpec.plain.varTypes Try.prog).any (Try.prog.mapsRec ·))) = true := by kernel_rfl
theorem fnFairOk_fact14 : ((Rows.fnFairOkRow.ifaces == (Try.f5.params.toList ++ Rows.fnFairOkSpec.plain.varTypes Try.prog).any (Try.prog.ifacesRec ·))) = true := by kernel_rfl
theorem fnFairOk_fact15 : ((Rows.fnFairOkRow.mapsOut == Try.prog.mapsAmong Try.f5.resultTypes.toList)) = true := by kernel_rfl
theorem fnFairOk_fact16 : ((Rows.fnFairOkRow.loops == (Try.f5.params.toList ++ Rows.fnFairOkSpec.plain.varTypes Try.prog).any (Try.prog.loopsFrom ·))) = true := by kernel_rfl
theorem fnFairOk_fact17 : ((Rows.fnFairOkRow.wideKeys == (Try.f5.params.toList ++ Rows.fnFairOkSpec.plain.varTypes Try.prog ++ Try.f5.resultTypes.toList).any (Try.prog.wideKeysFrom ·))) = true := by kernel_rfl
theorem fnFairOk_fact18 : (Rows.fnFairOkSpec.vars.all (Try.prog.varReadable ·)) = true := by kernel_rfl
theorem fnFairOk_fact19 : (Try.f5.resultTypes.all (fun t => Try.prog.readableRec t && decide (t < Try.prog.types.size))) = true := by kernel_rfl
theorem fnFairOk_fact20 : ((Rows.fnFairOkRow.ifacesOut == Try.f5.resultTypes.toList.any (Try.prog.ifacesRec ·))) = true := by kernel_rfl
theorem fnFairOk_fact21 : ((Rows.fnFairOkRow.loopsOut == Try.f5.resultTypes.toList.any (Try.prog.loopsFrom ·))) = true := by kernel_rfl
theorem fnFairOk_fact22 : ((Rows.fnFairOkRow.plainKeys == Try.prog.plainKeys)) = true := by kernel_rfl
theorem fnFairOk_fact23 : (Rows.fnFairOkRow.shortTexts.isNone) = true := by kernel_rfl
theorem fnFairOk_fact24 : (Try.prog.stopsHeard) = true := by kernel_rfl
theorem fnFairOk_fact25 : (Try.prog.mayEnter) = true := fact_mayEnter
theorem fnFairOk_fact26 : ((Rows.fnFairOkRow.lifted == Try.prog.liftsFinal)) = true := by rw [fact_liftsFinal]; rfl
theorem fnFairOk_fact27 : ((Try.prog.make == some Rows.fnFairOkRow.make)) = true := by rw [fact_make]; rfl
theorem fnFairOk_fact28 : Rows.fnFairOkRow.domain = [] ∧ Rows.fnFairOkRow.kinds = [] := ⟨rfl, rfl⟩
theorem fnFairOk_fact29 : ((Rows.fnFairOkRow.pinned == Rows.fnFairOkRow.pinnedBy)) = true := by kernel_rfl
theorem fnFairOk_fact30 : ((Rows.fnFairOkRow.veiled == (Try.f5.params.toList ++ Rows.fnFairOkSpec.plain.varTypes Try.prog ++ Try.f5.resultTypes.toList).any (Try.prog.veiledRec ·))) = true := by kernel_rfl
theorem fnFairOk_fact31 : (Rows.fnFairOkRow.veiledFits Try.prog Try.f5.params.toList (Try.f5.params.toList ++ Rows.fnFairOkSpec.plain.varTypes Try.prog ++ Try.f5.resultTypes.toList)) = true := by kernel_rfl
theorem fnFairOk_facts : joinedFacts Try.prog 5 Try.f5 Rows.fnFairOkSpec Rows.fnFairOkRow = true :=
  joinedFacts_of fnFairOk_fact0 fnFairOk_fact1 fnFairOk_fact2 fnFairOk_fact3 fnFairOk_fact4 fnFairOk_fact5 fnFairOk_fact6 fnFairOk_fact7 fnFairOk_fact8 fnFairOk_fact9 fnFairOk_fact10 fnFairOk_fact11 fnFairOk_fact12 fnFairOk_fact13 fnFairOk_fact14 fnFairOk_fact15 fnFairOk_fact16 fnFairOk_fact17 fnFairOk_fact18 fnFairOk_fact19 fnFairOk_fact20 fnFairOk_fact21 fnFairOk_fact22 fnFairOk_fact23 fnFairOk_fact24 fnFairOk_fact25 fnFairOk_fact26 fnFairOk_fact27 fnFairOk_fact28 fnFairOk_fact29 fnFairOk_fact30 fnFairOk_fact31

set_option maxRecDepth 100000 in
theorem fnFairOk_lifted (os : Os) (started : os.Started) (H : Type) (enc : TypeId × Value → H) :
    ReturnsInHanded {} Try.checked os 5 .any (Rows.fnFairOkSpec.pre6 enc Try.prog Try.f5 Rows.fnFairOkRow.domain false) (Rows.fnFairOkSpec.post enc Try.prog Try.f5 false true false false) := by
  refine returnsInHanded_of_change (C := Try.checked) own started (by kernel_rfl) Try.func5
    (ChangeSpec.witness6 (enc := enc) (C := Try.checked) false ⟨#[], #[.slice none 0 0], []⟩ 8 (by kernel_rfl) (by kernel_rfl) (by kernel_rfl) (by kernel_rfl)) ?_
  intro W base args ds gs before hval0 hW hcnd _
  have hval : ∀ (j : Nat) t v, Try.f5.params[j]? = some t → args[j]? = some v → Value.okWide Try.prog W .any base t v := hval0
  have hW' : DataW.Whole enc Try.prog Try.f5.params.toList Rows.fnFairOkSpec.vars false W args.toList ds gs before := hW
  obtain ⟨p, q, hA0, hV, hpq, hfz, hnd⟩ := hW
  have hA : DataW.TrodAll enc Try.prog W 0 (fun _ => true) true Try.f5.params.toList args.toList ds p := hA0
  rw [Try.params5] at hA hval
  obtain ⟨v0, d0, rfl, rfl, h0⟩ := trodAll_one hA
  obtain ⟨rfl, rfl⟩ := trodVars_none hV
  rw [List.append_nil] at hpq
  subst hpq
  obtain ⟨xs0, hl0, hB0, r0⟩ := read_bytes Try.underlying22 Try.underlying5 cells5 (hval 0 22 v0 rfl rfl) h0
  exact law_post (tb := 4) (byte_law (l_FnFairOk xs0 hB0 )) (RL.cons0 r0 RL.nil0) laidOut
    (by
      rw [Try.params5]
      intro t ht
      simp at ht
      subst ht
      exact ⟨readable22, of_decide_eq_true (by kernel_rfl)⟩) hW' rfl rfl (by kernel_rfl) Try.underlying4

theorem fnFairOk_holds : Rows.FnFairOkSaid :=
  OpenClaim.holds_of_wide 5 Try.f5 rfl rfl rfl rfl rfl rfl rfl ⟨rfl, rfl, rfl, rfl, rfl⟩ rfl rfl rfl rfl rfl (by kernel_rfl) Try.func5 fnFairOk_facts
    (of_decide_eq_true (by kernel_rfl)) (by unfold Func.isWrapper; first | (rw [if_pos (by decide +kernel)]; kernel_rfl) | (rw [if_neg (by decide +kernel)]; exact ⟨rfl, rfl⟩))
    (fun os started H enc _ => fnFairOk_lifted os started H enc)

end Go.Proofs.Ytlcoaglnegibkaa
