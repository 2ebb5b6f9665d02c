/- For every list of bytes the law FnDead answers true, and the bytes read as before. -/
import Derived.Test.YtlcoaglnegibkaaJB
import Derived.Test.YtlcoaglnegibkaaBM

set_option linter.unusedSimpArgs false
set_option linter.unusedVariables false

namespace Go.Proofs.Ytlcoaglnegibkaa
open Go.ChangeShapes Go.WideShapes Go.ChangeAt Go.RowKit Go.Proofs.Dev
theorem fnDead_fact0 : (Rows.fnDeadRow.wf (OpenSpec.ofChange Rows.fnDeadSpec)) = true := by kernel_rfl
theorem fnDead_fact1 : (laidOutB Try.prog) = true := by kernel_rfl
theorem fnDead_fact2 : (mapsRowed Try.prog) = true := by kernel_rfl
theorem fnDead_fact3 : (Try.f9.params.all (Try.prog.readableRec ·)) = true := by kernel_rfl
theorem fnDead_fact4 : (namedTie Try.prog Rows.fnDeadRow.named Rows.fnDeadSpec.vars) = true := by kernel_rfl
theorem fnDead_fact5 : ((Rows.fnDeadRow.stops == [])) = true := by kernel_rfl
theorem fnDead_fact6 : ((Try.prog.stops == [])) = true := by kernel_rfl
theorem fnDead_fact7 : ((Rows.fnDeadRow.knobs == [])) = true := by kernel_rfl
theorem fnDead_fact8 : ((Try.prog.stopKnobs == [])) = true := by kernel_rfl
theorem fnDead_fact9 : ((Rows.fnDeadRow.inPlace == Try.prog.inPlace 9)) = true := by kernel_rfl
theorem fnDead_fact10 : ((Rows.fnDeadRow.unfollowed == Try.prog.unfollowed 9)) = true := by kernel_rfl
theorem fnDead_fact11 : ((Rows.fnDeadRow.recurses == Try.prog.recurses 9)) = true := by kernel_rfl
theorem fnDead_fact12 : ((Rows.fnDeadRow.named == Try.prog.varsNamed 9)) = true := by kernel_rfl
theorem fnDead_fact13 : ((Rows.fnDeadRow.maps == (Try.f9.params.toList ++ Rows.fnDeadSpec.plain.varTypes Try.prog).any (Try.prog.mapsRec ·))) = true := by kernel_rfl
theorem fnDead_fact14 : ((Rows.fnDeadRow.ifaces == (Try.f9.params.toList ++ Rows.fnDeadSpec.plain.varTypes Try.prog).any (Try.prog.ifacesRec ·))) = true := by kernel_rfl
theorem fnDead_fact15 : ((Rows.fnDeadRow.mapsOut == Try.prog.mapsAmong Try.f9.resultTypes.toList)) = true := by kernel_rfl
theorem fnDead_fact16 : ((Rows.fnDeadRow.loops == (Try.f9.params.toList ++ Rows.fnDeadSpec.plain.varTypes Try.prog).any (Try.prog.loopsFrom ·))) = true := by kernel_rfl
theorem fnDead_fact17 : ((Rows.fnDeadRow.wideKeys == (Try.f9.params.toList ++ Rows.fnDeadSpec.plain.varTypes Try.prog ++ Try.f9.resultTypes.toList).any (Try.prog.wideKeysFrom ·))) = true := by kernel_rfl
theorem fnDead_fact18 : (Rows.fnDeadSpec.vars.all (Try.prog.varReadable ·)) = true := by kernel_rfl
theorem fnDead_fact19 : (Try.f9.resultTypes.all (fun t => Try.prog.readableRec t && decide (t < Try.prog.types.size))) = true := by kernel_rfl
theorem fnDead_fact20 : ((Rows.fnDeadRow.ifacesOut == Try.f9.resultTypes.toList.any (Try.prog.ifacesRec ·))) = true := by kernel_rfl
theorem fnDead_fact21 : ((Rows.fnDeadRow.loopsOut == Try.f9.resultTypes.toList.any (Try.prog.loopsFrom ·))) = true := by kernel_rfl
theorem fnDead_fact22 : ((Rows.fnDeadRow.plainKeys == Try.prog.plainKeys)) = true := by kernel_rfl
theorem fnDead_fact23 : (Rows.fnDeadRow.shortTexts.isNone) = true := by kernel_rfl
theorem fnDead_fact24 : (Try.prog.stopsHeard) = true := by kernel_rfl
theorem fnDead_fact25 : (Try.prog.mayEnter) = true := fact_mayEnter
theorem fnDead_fact26 : ((Rows.fnDeadRow.lifted == Try.prog.liftsFinal)) = true := by rw [fact_liftsFinal]; rfl
theorem fnDead_fact27 : ((Try.prog.make == some Rows.fnDeadRow.make)) = true := by rw [fact_make]; rfl
theorem fnDead_fact28 : Rows.fnDeadRow.domain = [] ∧ Rows.fnDeadRow.kinds = [] := ⟨rfl, rfl⟩
theorem fnDead_fact29 : ((Rows.fnDeadRow.pinned == Rows.fnDeadRow.pinnedBy)) = true := by kernel_rfl
theorem fnDead_fact30 : ((Rows.fnDeadRow.veiled == (Try.f9.params.toList ++ Rows.fnDeadSpec.plain.varTypes Try.prog ++ Try.f9.resultTypes.toList).any (Try.prog.veiledRec ·))) = true := by kernel_rfl
theorem fnDead_fact31 : (Rows.fnDeadRow.veiledFits Try.prog Try.f9.params.toList (Try.f9.params.toList ++ Rows.fnDeadSpec.plain.varTypes Try.prog ++ Try.f9.resultTypes.toList)) = true := by kernel_rfl
theorem fnDead_facts : joinedFacts Try.prog 9 Try.f9 Rows.fnDeadSpec Rows.fnDeadRow = true :=
  joinedFacts_of fnDead_fact0 fnDead_fact1 fnDead_fact2 fnDead_fact3 fnDead_fact4 fnDead_fact5 fnDead_fact6 fnDead_fact7 fnDead_fact8 fnDead_fact9 fnDead_fact10 fnDead_fact11 fnDead_fact12 fnDead_fact13 fnDead_fact14 fnDead_fact15 fnDead_fact16 fnDead_fact17 fnDead_fact18 fnDead_fact19 fnDead_fact20 fnDead_fact21 fnDead_fact22 fnDead_fact23 fnDead_fact24 fnDead_fact25 fnDead_fact26 fnDead_fact27 fnDead_fact28 fnDead_fact29 fnDead_fact30 fnDead_fact31

set_option maxRecDepth 100000 in
theorem fnDead_lifted (os : Os) (started : os.Started) (H : Type) (enc : TypeId × Value → H) :
    ReturnsInHanded {} Try.checked os 9 .any (Rows.fnDeadSpec.pre6 enc Try.prog Try.f9 Rows.fnDeadRow.domain false) (Rows.fnDeadSpec.post enc Try.prog Try.f9 false true false false) := by
  refine returnsInHanded_of_change (C := Try.checked) own started (by kernel_rfl) Try.func9
    (ChangeSpec.witness6 (enc := enc) (C := Try.checked) false ⟨#[], #[.slice none 0 0], []⟩ 8 (by kernel_rfl) (by kernel_rfl) (by kernel_rfl) (by kernel_rfl)) ?_
  intro W base args ds gs before hval0 hW hcnd _
  have hval : ∀ (j : Nat) t v, Try.f9.params[j]? = some t → args[j]? = some v → Value.okWide Try.prog W .any base t v := hval0
  have hW' : DataW.Whole enc Try.prog Try.f9.params.toList Rows.fnDeadSpec.vars false W args.toList ds gs before := hW
  obtain ⟨p, q, hA0, hV, hpq, hfz, hnd⟩ := hW
  have hA : DataW.TrodAll enc Try.prog W 0 (fun _ => true) true Try.f9.params.toList args.toList ds p := hA0
  rw [Try.params9] at hA hval
  obtain ⟨v0, d0, rfl, rfl, h0⟩ := trodAll_one hA
  obtain ⟨rfl, rfl⟩ := trodVars_none hV
  rw [List.append_nil] at hpq
  subst hpq
  obtain ⟨xs0, hl0, hB0, r0⟩ := read_bytes Try.underlying22 Try.underlying5 cells5 (hval 0 22 v0 rfl rfl) h0
  exact law_post (tb := 4) (byte_law (l_FnDead xs0 hB0 )) (RL.cons0 r0 RL.nil0) laidOut
    (by
      rw [Try.params9]
      intro t ht
      simp at ht
      subst ht
      exact ⟨readable22, of_decide_eq_true (by kernel_rfl)⟩) hW' rfl rfl (by kernel_rfl) Try.underlying4

theorem fnDead_holds : Rows.FnDeadSaid :=
  OpenClaim.holds_of_wide 9 Try.f9 rfl rfl rfl rfl rfl rfl rfl ⟨rfl, rfl, rfl, rfl, rfl⟩ rfl rfl rfl rfl rfl (by kernel_rfl) Try.func9 fnDead_facts
    (of_decide_eq_true (by kernel_rfl)) (by unfold Func.isWrapper; first | (rw [if_pos (by decide +kernel)]; kernel_rfl) | (rw [if_neg (by decide +kernel)]; exact ⟨rfl, rfl⟩))
    (fun os started H enc _ => fnDead_lifted os started H enc)

end Go.Proofs.Ytlcoaglnegibkaa
