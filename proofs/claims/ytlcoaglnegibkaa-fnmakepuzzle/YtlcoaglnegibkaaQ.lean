/- For every list of bytes the law FnMakePuzzle answers true, and the bytes read as before. -/
import Derived.Test.YtlcoaglnegibkaaJB
import Derived.Test.YtlcoaglnegibkaaBU

set_option linter.unusedSimpArgs false
set_option linter.unusedVariables false

namespace Go.Proofs.Ytlcoaglnegibkaa
open Go.ChangeShapes Go.WideShapes Go.ChangeAt Go.RowKit Go.Proofs.Dev
theorem fnMakePuzzle_fact0 : (Rows.fnMakePuzzleRow.wf (OpenSpec.ofChange Rows.fnMakePuzzleSpec)) = true := by kernel_rfl
theorem fnMakePuzzle_fact1 : (laidOutB Try.prog) = true := by kernel_rfl
theorem fnMakePuzzle_fact2 : (mapsRowed Try.prog) = true := by kernel_rfl
theorem fnMakePuzzle_fact3 : (Try.f12.params.all (Try.prog.readableRec ·)) = true := by kernel_rfl
theorem fnMakePuzzle_fact4 : (namedTie Try.prog Rows.fnMakePuzzleRow.named Rows.fnMakePuzzleSpec.vars) = true := by kernel_rfl
theorem fnMakePuzzle_fact5 : ((Rows.fnMakePuzzleRow.stops == [])) = true := by kernel_rfl
theorem fnMakePuzzle_fact6 : ((Try.prog.stops == [])) = true := by kernel_rfl
theorem fnMakePuzzle_fact7 : ((Rows.fnMakePuzzleRow.knobs == [])) = true := by kernel_rfl
theorem fnMakePuzzle_fact8 : ((Try.prog.stopKnobs == [])) = true := by kernel_rfl
theorem fnMakePuzzle_fact9 : ((Rows.fnMakePuzzleRow.inPlace == Try.prog.inPlace 12)) = true := by kernel_rfl
theorem fnMakePuzzle_fact10 : ((Rows.fnMakePuzzleRow.unfollowed == Try.prog.unfollowed 12)) = true := by kernel_rfl
theorem fnMakePuzzle_fact11 : ((Rows.fnMakePuzzleRow.recurses == Try.prog.recurses 12)) = true := by kernel_rfl
theorem fnMakePuzzle_fact12 : ((Rows.fnMakePuzzleRow.named == Try.prog.varsNamed 12)) = true := by kernel_rfl
theorem fnMakePuzzle_fact13 : ((Rows.fnMakePuzzleRow.maps == (Try.f12.params.toList ++ Rows.fnMakePuzzleSpec.plain.varTypes Try.prog).any (Try.prog.mapsRec ·))) = true := by kernel_rfl
theorem fnMakePuzzle_fact14 : ((Rows.fnMakePuzzleRow.ifaces == (Try.f12.params.toList ++ Rows.fnMakePuzzleSpec.plain.varTypes Try.prog).any (Try.prog.ifacesRec ·))) = true := by kernel_rfl
theorem fnMakePuzzle_fact15 : ((Rows.fnMakePuzzleRow.mapsOut == Try.prog.mapsAmong Try.f12.resultTypes.toList)) = true := by kernel_rfl
theorem fnMakePuzzle_fact16 : ((Rows.fnMakePuzzleRow.loops == (Try.f12.params.toList ++ Rows.fnMakePuzzleSpec.plain.varTypes Try.prog).any (Try.prog.loopsFrom ·))) = true := by kernel_rfl
theorem fnMakePuzzle_fact17 : ((Rows.fnMakePuzzleRow.wideKeys == (Try.f12.params.toList ++ Rows.fnMakePuzzleSpec.plain.varTypes Try.prog ++ Try.f12.resultTypes.toList).any (Try.prog.wideKeysFrom ·))) = true := by kernel_rfl
theorem fnMakePuzzle_fact18 : (Rows.fnMakePuzzleSpec.vars.all (Try.prog.varReadable ·)) = true := by kernel_rfl
theorem fnMakePuzzle_fact19 : (Try.f12.resultTypes.all (fun t => Try.prog.readableRec t && decide (t < Try.prog.types.size))) = true := by kernel_rfl
theorem fnMakePuzzle_fact20 : ((Rows.fnMakePuzzleRow.ifacesOut == Try.f12.resultTypes.toList.any (Try.prog.ifacesRec ·))) = true := by kernel_rfl
theorem fnMakePuzzle_fact21 : ((Rows.fnMakePuzzleRow.loopsOut == Try.f12.resultTypes.toList.any (Try.prog.loopsFrom ·))) = true := by kernel_rfl
theorem fnMakePuzzle_fact22 : ((Rows.fnMakePuzzleRow.plainKeys == Try.prog.plainKeys)) = true := by kernel_rfl
theorem fnMakePuzzle_fact23 : (Rows.fnMakePuzzleRow.shortTexts.isNone) = true := by kernel_rfl
theorem fnMakePuzzle_fact24 : (Try.prog.stopsHeard) = true := by kernel_rfl
theorem fnMakePuzzle_fact25 : (Try.prog.mayEnter) = true := fact_mayEnter
theorem fnMakePuzzle_fact26 : ((Rows.fnMakePuzzleRow.lifted == Try.prog.liftsFinal)) = true := by rw [fact_liftsFinal]; rfl
theorem fnMakePuzzle_fact27 : ((Try.prog.make == some Rows.fnMakePuzzleRow.make)) = true := by rw [fact_make]; rfl
theorem fnMakePuzzle_fact28 : Rows.fnMakePuzzleRow.domain = [] ∧ Rows.fnMakePuzzleRow.kinds = [] := ⟨rfl, rfl⟩
theorem fnMakePuzzle_fact29 : ((Rows.fnMakePuzzleRow.pinned == Rows.fnMakePuzzleRow.pinnedBy)) = true := by kernel_rfl
theorem fnMakePuzzle_fact30 : ((Rows.fnMakePuzzleRow.veiled == (Try.f12.params.toList ++ Rows.fnMakePuzzleSpec.plain.varTypes Try.prog ++ Try.f12.resultTypes.toList).any (Try.prog.veiledRec ·))) = true := by kernel_rfl
theorem fnMakePuzzle_fact31 : (Rows.fnMakePuzzleRow.veiledFits Try.prog Try.f12.params.toList (Try.f12.params.toList ++ Rows.fnMakePuzzleSpec.plain.varTypes Try.prog ++ Try.f12.resultTypes.toList)) = true := by kernel_rfl
theorem fnMakePuzzle_facts : joinedFacts Try.prog 12 Try.f12 Rows.fnMakePuzzleSpec Rows.fnMakePuzzleRow = true :=
  joinedFacts_of fnMakePuzzle_fact0 fnMakePuzzle_fact1 fnMakePuzzle_fact2 fnMakePuzzle_fact3 fnMakePuzzle_fact4 fnMakePuzzle_fact5 fnMakePuzzle_fact6 fnMakePuzzle_fact7 fnMakePuzzle_fact8 fnMakePuzzle_fact9 fnMakePuzzle_fact10 fnMakePuzzle_fact11 fnMakePuzzle_fact12 fnMakePuzzle_fact13 fnMakePuzzle_fact14 fnMakePuzzle_fact15 fnMakePuzzle_fact16 fnMakePuzzle_fact17 fnMakePuzzle_fact18 fnMakePuzzle_fact19 fnMakePuzzle_fact20 fnMakePuzzle_fact21 fnMakePuzzle_fact22 fnMakePuzzle_fact23 fnMakePuzzle_fact24 fnMakePuzzle_fact25 fnMakePuzzle_fact26 fnMakePuzzle_fact27 fnMakePuzzle_fact28 fnMakePuzzle_fact29 fnMakePuzzle_fact30 fnMakePuzzle_fact31

set_option maxRecDepth 100000 in
theorem fnMakePuzzle_lifted (os : Os) (started : os.Started) (H : Type) (enc : TypeId × Value → H) :
    ReturnsInHanded {} Try.checked os 12 .any (Rows.fnMakePuzzleSpec.pre6 enc Try.prog Try.f12 Rows.fnMakePuzzleRow.domain false) (Rows.fnMakePuzzleSpec.post enc Try.prog Try.f12 false true false false) := by
  refine returnsInHanded_of_change (C := Try.checked) own started (by kernel_rfl) Try.func12
    (ChangeSpec.witness6 (enc := enc) (C := Try.checked) false ⟨#[], #[.slice none 0 0], []⟩ 8 (by kernel_rfl) (by kernel_rfl) (by kernel_rfl) (by kernel_rfl)) ?_
  intro W base args ds gs before hval0 hW hcnd _
  have hval : ∀ (j : Nat) t v, Try.f12.params[j]? = some t → args[j]? = some v → Value.okWide Try.prog W .any base t v := hval0
  have hW' : DataW.Whole enc Try.prog Try.f12.params.toList Rows.fnMakePuzzleSpec.vars false W args.toList ds gs before := hW
  obtain ⟨p, q, hA0, hV, hpq, hfz, hnd⟩ := hW
  have hA : DataW.TrodAll enc Try.prog W 0 (fun _ => true) true Try.f12.params.toList args.toList ds p := hA0
  rw [Try.params12] at hA hval
  obtain ⟨v0, d0, rfl, rfl, h0⟩ := trodAll_one hA
  obtain ⟨rfl, rfl⟩ := trodVars_none hV
  rw [List.append_nil] at hpq
  subst hpq
  obtain ⟨xs0, hl0, hB0, r0⟩ := read_bytes Try.underlying22 Try.underlying5 cells5 (hval 0 22 v0 rfl rfl) h0
  exact law_post (tb := 4) (byte_law (l_FnMakePuzzle xs0 hB0 )) (RL.cons0 r0 RL.nil0) laidOut
    (by
      rw [Try.params12]
      intro t ht
      simp at ht
      subst ht
      exact ⟨readable22, of_decide_eq_true (by kernel_rfl)⟩) hW' rfl rfl (by kernel_rfl) Try.underlying4

theorem fnMakePuzzle_holds : Rows.FnMakePuzzleSaid :=
  OpenClaim.holds_of_wide 12 Try.f12 rfl rfl rfl rfl rfl rfl rfl ⟨rfl, rfl, rfl, rfl, rfl⟩ rfl rfl rfl rfl rfl (by kernel_rfl) Try.func12 fnMakePuzzle_facts
    (of_decide_eq_true (by kernel_rfl)) (by unfold Func.isWrapper; first | (rw [if_pos (by decide +kernel)]; kernel_rfl) | (rw [if_neg (by decide +kernel)]; exact ⟨rfl, rfl⟩))
    (fun os started H enc _ => fnMakePuzzle_lifted os started H enc)

end Go.Proofs.Ytlcoaglnegibkaa
