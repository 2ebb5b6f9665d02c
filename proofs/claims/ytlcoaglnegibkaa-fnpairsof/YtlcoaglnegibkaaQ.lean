/- For every list of bytes the law FnPairsOf answers true, and the bytes read as before. -/
import Derived.Test.YtlcoaglnegibkaaJB
import Derived.Test.YtlcoaglnegibkaaBW

set_option linter.unusedSimpArgs false
set_option linter.unusedVariables false

namespace Go.Proofs.Ytlcoaglnegibkaa
open Go.ChangeShapes Go.WideShapes Go.ChangeAt Go.RowKit Go.Proofs.Dev
theorem fnPairsOf_fact0 : (Rows.fnPairsOfRow.wf (OpenSpec.ofChange Rows.fnPairsOfSpec)) = true := by kernel_rfl
theorem fnPairsOf_fact1 : (laidOutB Try.prog) = true := by kernel_rfl
theorem fnPairsOf_fact2 : (mapsRowed Try.prog) = true := by kernel_rfl
theorem fnPairsOf_fact3 : (Try.f4.params.all (Try.prog.readableRec ·)) = true := by kernel_rfl
theorem fnPairsOf_fact4 : (namedTie Try.prog Rows.fnPairsOfRow.named Rows.fnPairsOfSpec.vars) = true := by kernel_rfl
theorem fnPairsOf_fact5 : ((Rows.fnPairsOfRow.stops == [])) = true := by kernel_rfl
theorem fnPairsOf_fact6 : ((Try.prog.stops == [])) = true := by kernel_rfl
theorem fnPairsOf_fact7 : ((Rows.fnPairsOfRow.knobs == [])) = true := by kernel_rfl
theorem fnPairsOf_fact8 : ((Try.prog.stopKnobs == [])) = true := by kernel_rfl
theorem fnPairsOf_fact9 : ((Rows.fnPairsOfRow.inPlace == Try.prog.inPlace 4)) = true := by kernel_rfl
theorem fnPairsOf_fact10 : ((Rows.fnPairsOfRow.unfollowed == Try.prog.unfollowed 4)) = true := by kernel_rfl
theorem fnPairsOf_fact11 : ((Rows.fnPairsOfRow.recurses == Try.prog.recurses 4)) = true := by kernel_rfl
theorem fnPairsOf_fact12 : ((Rows.fnPairsOfRow.named == Try.prog.varsNamed 4)) = true := by kernel_rfl
theorem fnPairsOf_fact13 : ((Rows.fnPairsOfRow.maps == (Try.f4.params.toList ++ Rows.fnPairsOfSpec.plain.varTypes Try.prog).any (Try.prog.mapsRec ·))) = true := by kernel_rfl
theorem fnPairsOf_fact14 : ((Rows.fnPairsOfRow.ifaces == (Try.f4.params.toList ++ Rows.fnPairsOfSpec.plain.varTypes Try.prog).any (Try.prog.ifacesRec ·))) = true := by kernel_rfl
theorem fnPairsOf_fact15 : ((Rows.fnPairsOfRow.mapsOut == Try.prog.mapsAmong Try.f4.resultTypes.toList)) = true := by kernel_rfl
theorem fnPairsOf_fact16 : ((Rows.fnPairsOfRow.loops == (Try.f4.params.toList ++ Rows.fnPairsOfSpec.plain.varTypes Try.prog).any (Try.prog.loopsFrom ·))) = true := by kernel_rfl
theorem fnPairsOf_fact17 : ((Rows.fnPairsOfRow.wideKeys == (Try.f4.params.toList ++ Rows.fnPairsOfSpec.plain.varTypes Try.prog ++ Try.f4.resultTypes.toList).any (Try.prog.wideKeysFrom ·))) = true := by kernel_rfl
theorem fnPairsOf_fact18 : (Rows.fnPairsOfSpec.vars.all (Try.prog.varReadable ·)) = true := by kernel_rfl
theorem fnPairsOf_fact19 : (Try.f4.resultTypes.all (fun t => Try.prog.readableRec t && decide (t < Try.prog.types.size))) = true := by kernel_rfl
theorem fnPairsOf_fact20 : ((Rows.fnPairsOfRow.ifacesOut == Try.f4.resultTypes.toList.any (Try.prog.ifacesRec ·))) = true := by kernel_rfl
theorem fnPairsOf_fact21 : ((Rows.fnPairsOfRow.loopsOut == Try.f4.resultTypes.toList.any (Try.prog.loopsFrom ·))) = true := by kernel_rfl
theorem fnPairsOf_fact22 : ((Rows.fnPairsOfRow.plainKeys == Try.prog.plainKeys)) = true := by kernel_rfl
theorem fnPairsOf_fact23 : (Rows.fnPairsOfRow.shortTexts.isNone) = true := by kernel_rfl
theorem fnPairsOf_fact24 : (Try.prog.stopsHeard) = true := by kernel_rfl
theorem fnPairsOf_fact25 : (Try.prog.mayEnter) = true := fact_mayEnter
theorem fnPairsOf_fact26 : ((Rows.fnPairsOfRow.lifted == Try.prog.liftsFinal)) = true := by rw [fact_liftsFinal]; rfl
theorem fnPairsOf_fact27 : ((Try.prog.make == some Rows.fnPairsOfRow.make)) = true := by rw [fact_make]; rfl
theorem fnPairsOf_fact28 : Rows.fnPairsOfRow.domain = [] ∧ Rows.fnPairsOfRow.kinds = [] := ⟨rfl, rfl⟩
theorem fnPairsOf_fact29 : ((Rows.fnPairsOfRow.pinned == Rows.fnPairsOfRow.pinnedBy)) = true := by kernel_rfl
theorem fnPairsOf_fact30 : ((Rows.fnPairsOfRow.veiled == (Try.f4.params.toList ++ Rows.fnPairsOfSpec.plain.varTypes Try.prog ++ Try.f4.resultTypes.toList).any (Try.prog.veiledRec ·))) = true := by kernel_rfl
theorem fnPairsOf_fact31 : (Rows.fnPairsOfRow.veiledFits Try.prog Try.f4.params.toList (Try.f4.params.toList ++ Rows.fnPairsOfSpec.plain.varTypes Try.prog ++ Try.f4.resultTypes.toList)) = true := by kernel_rfl
theorem fnPairsOf_facts : joinedFacts Try.prog 4 Try.f4 Rows.fnPairsOfSpec Rows.fnPairsOfRow = true :=
  joinedFacts_of fnPairsOf_fact0 fnPairsOf_fact1 fnPairsOf_fact2 fnPairsOf_fact3 fnPairsOf_fact4 fnPairsOf_fact5 fnPairsOf_fact6 fnPairsOf_fact7 fnPairsOf_fact8 fnPairsOf_fact9 fnPairsOf_fact10 fnPairsOf_fact11 fnPairsOf_fact12 fnPairsOf_fact13 fnPairsOf_fact14 fnPairsOf_fact15 fnPairsOf_fact16 fnPairsOf_fact17 fnPairsOf_fact18 fnPairsOf_fact19 fnPairsOf_fact20 fnPairsOf_fact21 fnPairsOf_fact22 fnPairsOf_fact23 fnPairsOf_fact24 fnPairsOf_fact25 fnPairsOf_fact26 fnPairsOf_fact27 fnPairsOf_fact28 fnPairsOf_fact29 fnPairsOf_fact30 fnPairsOf_fact31

set_option maxRecDepth 100000 in
theorem fnPairsOf_lifted (os : Os) (started : os.Started) (H : Type) (enc : TypeId × Value → H) :
    ReturnsInHanded {} Try.checked os 4 .any (Rows.fnPairsOfSpec.pre6 enc Try.prog Try.f4 Rows.fnPairsOfRow.domain false) (Rows.fnPairsOfSpec.post enc Try.prog Try.f4 false true false false) := by
  refine returnsInHanded_of_change (C := Try.checked) own started (by kernel_rfl) Try.func4
    (ChangeSpec.witness6 (enc := enc) (C := Try.checked) false ⟨#[], #[.slice none 0 0], []⟩ 8 (by kernel_rfl) (by kernel_rfl) (by kernel_rfl) (by kernel_rfl)) ?_
  intro W base args ds gs before hval0 hW hcnd _
  have hval : ∀ (j : Nat) t v, Try.f4.params[j]? = some t → args[j]? = some v → Value.okWide Try.prog W .any base t v := hval0
  have hW' : DataW.Whole enc Try.prog Try.f4.params.toList Rows.fnPairsOfSpec.vars false W args.toList ds gs before := hW
  obtain ⟨p, q, hA0, hV, hpq, hfz, hnd⟩ := hW
  have hA : DataW.TrodAll enc Try.prog W 0 (fun _ => true) true Try.f4.params.toList args.toList ds p := hA0
  rw [Try.params4] at hA hval
  obtain ⟨v0, d0, rfl, rfl, h0⟩ := trodAll_one hA
  obtain ⟨rfl, rfl⟩ := trodVars_none hV
  rw [List.append_nil] at hpq
  subst hpq
  obtain ⟨xs0, hl0, hB0, r0⟩ := read_bytes Try.underlying22 Try.underlying5 cells5 (hval 0 22 v0 rfl rfl) h0
  exact law_post (tb := 4) (byte_law (l_FnPairsOf xs0 hB0 )) (RL.cons0 r0 RL.nil0) laidOut
    (by
      rw [Try.params4]
      intro t ht
      simp at ht
      subst ht
      exact ⟨readable22, of_decide_eq_true (by kernel_rfl)⟩) hW' rfl rfl (by kernel_rfl) Try.underlying4

theorem fnPairsOf_holds : Rows.FnPairsOfSaid :=
  OpenClaim.holds_of_wide 4 Try.f4 rfl rfl rfl rfl rfl rfl rfl ⟨rfl, rfl, rfl, rfl, rfl⟩ rfl rfl rfl rfl rfl (by kernel_rfl) Try.func4 fnPairsOf_facts
    (of_decide_eq_true (by kernel_rfl)) (by unfold Func.isWrapper; first | (rw [if_pos (by decide +kernel)]; kernel_rfl) | (rw [if_neg (by decide +kernel)]; exact ⟨rfl, rfl⟩))
    (fun os started H enc _ => fnPairsOf_lifted os started H enc)

end Go.Proofs.Ytlcoaglnegibkaa
