/- For every list of bytes the law FnSolvedOk answers true, and the bytes read as before. -/
import Derived.Test.YtlcoaglnegibkaaJB
import Derived.Test.YtlcoaglnegibkaaBS

set_option linter.unusedSimpArgs false
set_option linter.unusedVariables false

namespace Go.Proofs.Ytlcoaglnegibkaa
open Go.ChangeShapes Go.WideShapes Go.ChangeAt Go.RowKit Go.Proofs.Dev
theorem fnSolvedOk_fact0 : (Rows.fnSolvedOkRow.wf (OpenSpec.ofChange Rows.fnSolvedOkSpec)) = true := by kernel_rfl
theorem fnSolvedOk_fact1 : (laidOutB Try.prog) = true := by kernel_rfl
theorem fnSolvedOk_fact2 : (mapsRowed Try.prog) = true := by kernel_rfl
theorem fnSolvedOk_fact3 : (Try.f6.params.all (Try.prog.readableRec ·)) = true := by kernel_rfl
theorem fnSolvedOk_fact4 : (namedTie Try.prog Rows.fnSolvedOkRow.named Rows.fnSolvedOkSpec.vars) = true := by kernel_rfl
theorem fnSolvedOk_fact5 : ((Rows.fnSolvedOkRow.stops == [])) = true := by kernel_rfl
theorem fnSolvedOk_fact6 : ((Try.prog.stops == [])) = true := by kernel_rfl
theorem fnSolvedOk_fact7 : ((Rows.fnSolvedOkRow.knobs == [])) = true := by kernel_rfl
theorem fnSolvedOk_fact8 : ((Try.prog.stopKnobs == [])) = true := by kernel_rfl
theorem fnSolvedOk_fact9 : ((Rows.fnSolvedOkRow.inPlace == Try.prog.inPlace 6)) = true := by kernel_rfl
theorem fnSolvedOk_fact10 : ((Rows.fnSolvedOkRow.unfollowed == Try.prog.unfollowed 6)) = true := by kernel_rfl
theorem fnSolvedOk_fact11 : ((Rows.fnSolvedOkRow.recurses == Try.prog.recurses 6)) = true := by kernel_rfl
theorem fnSolvedOk_fact12 : ((Rows.fnSolvedOkRow.named == Try.prog.varsNamed 6)) = true := by kernel_rfl
theorem fnSolvedOk_fact13 : ((Rows.fnSolvedOkRow.maps == (Try.f6.params.toList ++ Rows.fnSolvedOkSpec.plain.varTypes Try.prog).any (Try.prog.mapsRec ·))) = true := by kernel_rfl
theorem fnSolvedOk_fact14 : ((Rows.fnSolvedOkRow.ifaces == (Try.f6.params.toList ++ Rows.fnSolvedOkSpec.plain.varTypes Try.prog).any (Try.prog.ifacesRec ·))) = true := by kernel_rfl
theorem fnSolvedOk_fact15 : ((Rows.fnSolvedOkRow.mapsOut == Try.prog.mapsAmong Try.f6.resultTypes.toList)) = true := by kernel_rfl
theorem fnSolvedOk_fact16 : ((Rows.fnSolvedOkRow.loops == (Try.f6.params.toList ++ Rows.fnSolvedOkSpec.plain.varTypes Try.prog).any (Try.prog.loopsFrom ·))) = true := by kernel_rfl
theorem fnSolvedOk_fact17 : ((Rows.fnSolvedOkRow.wideKeys == (Try.f6.params.toList ++ Rows.fnSolvedOkSpec.plain.varTypes Try.prog ++ Try.f6.resultTypes.toList).any (Try.prog.wideKeysFrom ·))) = true := by kernel_rfl
theorem fnSolvedOk_fact18 : (Rows.fnSolvedOkSpec.vars.all (Try.prog.varReadable ·)) = true := by kernel_rfl
theorem fnSolvedOk_fact19 : (Try.f6.resultTypes.all (fun t => Try.prog.readableRec t && decide (t < Try.prog.types.size))) = true := by kernel_rfl
theorem fnSolvedOk_fact20 : ((Rows.fnSolvedOkRow.ifacesOut == Try.f6.resultTypes.toList.any (Try.prog.ifacesRec ·))) = true := by kernel_rfl
theorem fnSolvedOk_fact21 : ((Rows.fnSolvedOkRow.loopsOut == Try.f6.resultTypes.toList.any (Try.prog.loopsFrom ·))) = true := by kernel_rfl
theorem fnSolvedOk_fact22 : ((Rows.fnSolvedOkRow.plainKeys == Try.prog.plainKeys)) = true := by kernel_rfl
theorem fnSolvedOk_fact23 : (Rows.fnSolvedOkRow.shortTexts.isNone) = true := by kernel_rfl
theorem fnSolvedOk_fact24 : (Try.prog.stopsHeard) = true := by kernel_rfl
theorem fnSolvedOk_fact25 : (Try.prog.mayEnter) = true := fact_mayEnter
theorem fnSolvedOk_fact26 : ((Rows.fnSolvedOkRow.lifted == Try.prog.liftsFinal)) = true := by rw [fact_liftsFinal]; rfl
theorem fnSolvedOk_fact27 : ((Try.prog.make == some Rows.fnSolvedOkRow.make)) = true := by rw [fact_make]; rfl
theorem fnSolvedOk_fact28 : Rows.fnSolvedOkRow.domain = [] ∧ Rows.fnSolvedOkRow.kinds = [] := ⟨rfl, rfl⟩
theorem fnSolvedOk_fact29 : ((Rows.fnSolvedOkRow.pinned == Rows.fnSolvedOkRow.pinnedBy)) = true := by kernel_rfl
theorem fnSolvedOk_fact30 : ((Rows.fnSolvedOkRow.veiled == (Try.f6.params.toList ++ Rows.fnSolvedOkSpec.plain.varTypes Try.prog ++ Try.f6.resultTypes.toList).any (Try.prog.veiledRec ·))) = true := by kernel_rfl
theorem fnSolvedOk_fact31 : (Rows.fnSolvedOkRow.veiledFits Try.prog Try.f6.params.toList (Try.f6.params.toList ++ Rows.fnSolvedOkSpec.plain.varTypes Try.prog ++ Try.f6.resultTypes.toList)) = true := by kernel_rfl
theorem fnSolvedOk_facts : joinedFacts Try.prog 6 Try.f6 Rows.fnSolvedOkSpec Rows.fnSolvedOkRow = true :=
  joinedFacts_of fnSolvedOk_fact0 fnSolvedOk_fact1 fnSolvedOk_fact2 fnSolvedOk_fact3 fnSolvedOk_fact4 fnSolvedOk_fact5 fnSolvedOk_fact6 fnSolvedOk_fact7 fnSolvedOk_fact8 fnSolvedOk_fact9 fnSolvedOk_fact10 fnSolvedOk_fact11 fnSolvedOk_fact12 fnSolvedOk_fact13 fnSolvedOk_fact14 fnSolvedOk_fact15 fnSolvedOk_fact16 fnSolvedOk_fact17 fnSolvedOk_fact18 fnSolvedOk_fact19 fnSolvedOk_fact20 fnSolvedOk_fact21 fnSolvedOk_fact22 fnSolvedOk_fact23 fnSolvedOk_fact24 fnSolvedOk_fact25 fnSolvedOk_fact26 fnSolvedOk_fact27 fnSolvedOk_fact28 fnSolvedOk_fact29 fnSolvedOk_fact30 fnSolvedOk_fact31

set_option maxRecDepth 100000 in
theorem fnSolvedOk_lifted (os : Os) (started : os.Started) (H : Type) (enc : TypeId × Value → H) :
    ReturnsInHanded {} Try.checked os 6 .any (Rows.fnSolvedOkSpec.pre6 enc Try.prog Try.f6 Rows.fnSolvedOkRow.domain false) (Rows.fnSolvedOkSpec.post enc Try.prog Try.f6 false true false false) := by
  refine returnsInHanded_of_change (C := Try.checked) own started (by kernel_rfl) Try.func6
    (ChangeSpec.witness6 (enc := enc) (C := Try.checked) false ⟨#[], #[.slice none 0 0], []⟩ 8 (by kernel_rfl) (by kernel_rfl) (by kernel_rfl) (by kernel_rfl)) ?_
  intro W base args ds gs before hval0 hW hcnd _
  have hval : ∀ (j : Nat) t v, Try.f6.params[j]? = some t → args[j]? = some v → Value.okWide Try.prog W .any base t v := hval0
  have hW' : DataW.Whole enc Try.prog Try.f6.params.toList Rows.fnSolvedOkSpec.vars false W args.toList ds gs before := hW
  obtain ⟨p, q, hA0, hV, hpq, hfz, hnd⟩ := hW
  have hA : DataW.TrodAll enc Try.prog W 0 (fun _ => true) true Try.f6.params.toList args.toList ds p := hA0
  rw [Try.params6] at hA hval
  obtain ⟨v0, d0, rfl, rfl, h0⟩ := trodAll_one hA
  obtain ⟨rfl, rfl⟩ := trodVars_none hV
  rw [List.append_nil] at hpq
  subst hpq
  obtain ⟨xs0, hl0, hB0, r0⟩ := read_bytes Try.underlying22 Try.underlying5 cells5 (hval 0 22 v0 rfl rfl) h0
  exact law_post (tb := 4) (byte_law (l_FnSolvedOk xs0 hB0 )) (RL.cons0 r0 RL.nil0) laidOut
    (by
      rw [Try.params6]
      intro t ht
      simp at ht
      subst ht
      exact ⟨readable22, of_decide_eq_true (by kernel_rfl)⟩) hW' rfl rfl (by kernel_rfl) Try.underlying4

theorem fnSolvedOk_holds : Rows.FnSolvedOkSaid :=
  OpenClaim.holds_of_wide 6 Try.f6 rfl rfl rfl rfl rfl rfl rfl ⟨rfl, rfl, rfl, rfl, rfl⟩ rfl rfl rfl rfl rfl (by kernel_rfl) Try.func6 fnSolvedOk_facts
    (of_decide_eq_true (by kernel_rfl)) (by unfold Func.isWrapper; first | (rw [if_pos (by decide +kernel)]; kernel_rfl) | (rw [if_neg (by decide +kernel)]; exact ⟨rfl, rfl⟩))
    (fun os started H enc _ => fnSolvedOk_lifted os started H enc)

end Go.Proofs.Ytlcoaglnegibkaa
