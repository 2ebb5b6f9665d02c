/- For every list of bytes the law FnPuzzleValid answers true, and the bytes read as before. -/
import Derived.Test.YtlcoaglnegibkaaJB
import Derived.Test.YtlcoaglnegibkaaBL

set_option linter.unusedSimpArgs false
set_option linter.unusedVariables false

namespace Go.Proofs.Ytlcoaglnegibkaa
open Go.ChangeShapes Go.WideShapes Go.ChangeAt Go.RowKit Go.Proofs.Dev
theorem fnPuzzleValid_fact0 : (Rows.fnPuzzleValidRow.wf (OpenSpec.ofChange Rows.fnPuzzleValidSpec)) = true := by kernel_rfl
theorem fnPuzzleValid_fact1 : (laidOutB Try.prog) = true := by kernel_rfl
theorem fnPuzzleValid_fact2 : (mapsRowed Try.prog) = true := by kernel_rfl
theorem fnPuzzleValid_fact3 : (Try.f3.params.all (Try.prog.readableRec ·)) = true := by kernel_rfl
theorem fnPuzzleValid_fact4 : (namedTie Try.prog Rows.fnPuzzleValidRow.named Rows.fnPuzzleValidSpec.vars) = true := by kernel_rfl
theorem fnPuzzleValid_fact5 : ((Rows.fnPuzzleValidRow.stops == [])) = true := by kernel_rfl
theorem fnPuzzleValid_fact6 : ((Try.prog.stops == [])) = true := by kernel_rfl
theorem fnPuzzleValid_fact7 : ((Rows.fnPuzzleValidRow.knobs == [])) = true := by kernel_rfl
theorem fnPuzzleValid_fact8 : ((Try.prog.stopKnobs == [])) = true := by kernel_rfl
theorem fnPuzzleValid_fact9 : ((Rows.fnPuzzleValidRow.inPlace == Try.prog.inPlace 3)) = true := by kernel_rfl
theorem fnPuzzleValid_fact10 : ((Rows.fnPuzzleValidRow.unfollowed == Try.prog.unfollowed 3)) = true := by kernel_rfl
theorem fnPuzzleValid_fact11 : ((Rows.fnPuzzleValidRow.recurses == Try.prog.recurses 3)) = true := by kernel_rfl
theorem fnPuzzleValid_fact12 : ((Rows.fnPuzzleValidRow.named == Try.prog.varsNamed 3)) = true := by kernel_rfl
theorem fnPuzzleValid_fact13 : ((Rows.fnPuzzleValidRow.maps == (Try.f3.params.toList ++ Rows.fnPuzzleValidSpec.plain.varTypes Try.prog).any (Try.prog.mapsRec ·))) = true := by kernel_rfl
theorem fnPuzzleValid_fact14 : ((Rows.fnPuzzleValidRow.ifaces == (Try.f3.params.toList ++ Rows.fnPuzzleValidSpec.plain.varTypes Try.prog).any (Try.prog.ifacesRec ·))) = true := by kernel_rfl
theorem fnPuzzleValid_fact15 : ((Rows.fnPuzzleValidRow.mapsOut == Try.prog.mapsAmong Try.f3.resultTypes.toList)) = true := by kernel_rfl
theorem fnPuzzleValid_fact16 : ((Rows.fnPuzzleValidRow.loops == (Try.f3.params.toList ++ Rows.fnPuzzleValidSpec.plain.varTypes Try.prog).any (Try.prog.loopsFrom ·))) = true := by kernel_rfl
theorem fnPuzzleValid_fact17 : ((Rows.fnPuzzleValidRow.wideKeys == (Try.f3.params.toList ++ Rows.fnPuzzleValidSpec.plain.varTypes Try.prog ++ Try.f3.resultTypes.toList).any (Try.prog.wideKeysFrom ·))) = true := by kernel_rfl
theorem fnPuzzleValid_fact18 : (Rows.fnPuzzleValidSpec.vars.all (Try.prog.varReadable ·)) = true := by kernel_rfl
theorem fnPuzzleValid_fact19 : (Try.f3.resultTypes.all (fun t => Try.prog.readableRec t && decide (t < Try.prog.types.size))) = true := by kernel_rfl
theorem fnPuzzleValid_fact20 : ((Rows.fnPuzzleValidRow.ifacesOut == Try.f3.resultTypes.toList.any (Try.prog.ifacesRec ·))) = true := by kernel_rfl
theorem fnPuzzleValid_fact21 : ((Rows.fnPuzzleValidRow.loopsOut == Try.f3.resultTypes.toList.any (Try.prog.loopsFrom ·))) = true := by kernel_rfl
theorem fnPuzzleValid_fact22 : ((Rows.fnPuzzleValidRow.plainKeys == Try.prog.plainKeys)) = true := by kernel_rfl
theorem fnPuzzleValid_fact23 : (Rows.fnPuzzleValidRow.shortTexts.isNone) = true := by kernel_rfl
theorem fnPuzzleValid_fact24 : (Try.prog.stopsHeard) = true := by kernel_rfl
theorem fnPuzzleValid_fact25 : (Try.prog.mayEnter) = true := fact_mayEnter
theorem fnPuzzleValid_fact26 : ((Rows.fnPuzzleValidRow.lifted == Try.prog.liftsFinal)) = true := by rw [fact_liftsFinal]; rfl
theorem fnPuzzleValid_fact27 : ((Try.prog.make == some Rows.fnPuzzleValidRow.make)) = true := by rw [fact_make]; rfl
theorem fnPuzzleValid_fact28 : Rows.fnPuzzleValidRow.domain = [] ∧ Rows.fnPuzzleValidRow.kinds = [] := ⟨rfl, rfl⟩
theorem fnPuzzleValid_fact29 : ((Rows.fnPuzzleValidRow.pinned == Rows.fnPuzzleValidRow.pinnedBy)) = true := by kernel_rfl
theorem fnPuzzleValid_fact30 : ((Rows.fnPuzzleValidRow.veiled == (Try.f3.params.toList ++ Rows.fnPuzzleValidSpec.plain.varTypes Try.prog ++ Try.f3.resultTypes.toList).any (Try.prog.veiledRec ·))) = true := by kernel_rfl
theorem fnPuzzleValid_fact31 : (Rows.fnPuzzleValidRow.veiledFits Try.prog Try.f3.params.toList (Try.f3.params.toList ++ Rows.fnPuzzleValidSpec.plain.varTypes Try.prog ++ Try.f3.resultTypes.toList)) = true := by kernel_rfl
theorem fnPuzzleValid_facts : joinedFacts Try.prog 3 Try.f3 Rows.fnPuzzleValidSpec Rows.fnPuzzleValidRow = true :=
  joinedFacts_of fnPuzzleValid_fact0 fnPuzzleValid_fact1 fnPuzzleValid_fact2 fnPuzzleValid_fact3 fnPuzzleValid_fact4 fnPuzzleValid_fact5 fnPuzzleValid_fact6 fnPuzzleValid_fact7 fnPuzzleValid_fact8 fnPuzzleValid_fact9 fnPuzzleValid_fact10 fnPuzzleValid_fact11 fnPuzzleValid_fact12 fnPuzzleValid_fact13 fnPuzzleValid_fact14 fnPuzzleValid_fact15 fnPuzzleValid_fact16 fnPuzzleValid_fact17 fnPuzzleValid_fact18 fnPuzzleValid_fact19 fnPuzzleValid_fact20 fnPuzzleValid_fact21 fnPuzzleValid_fact22 fnPuzzleValid_fact23 fnPuzzleValid_fact24 fnPuzzleValid_fact25 fnPuzzleValid_fact26 fnPuzzleValid_fact27 fnPuzzleValid_fact28 fnPuzzleValid_fact29 fnPuzzleValid_fact30 fnPuzzleValid_fact31

set_option maxRecDepth 100000 in
theorem fnPuzzleValid_lifted (os : Os) (started : os.Started) (H : Type) (enc : TypeId × Value → H) :
    ReturnsInHanded {} Try.checked os 3 .any (Rows.fnPuzzleValidSpec.pre6 enc Try.prog Try.f3 Rows.fnPuzzleValidRow.domain false) (Rows.fnPuzzleValidSpec.post enc Try.prog Try.f3 false true false false) := by
  refine returnsInHanded_of_change (C := Try.checked) own started (by kernel_rfl) Try.func3
    (ChangeSpec.witness6 (enc := enc) (C := Try.checked) false ⟨#[], #[.slice none 0 0], []⟩ 8 (by kernel_rfl) (by kernel_rfl) (by kernel_rfl) (by kernel_rfl)) ?_
  intro W base args ds gs before hval0 hW hcnd _
  have hval : ∀ (j : Nat) t v, Try.f3.params[j]? = some t → args[j]? = some v → Value.okWide Try.prog W .any base t v := hval0
  have hW' : DataW.Whole enc Try.prog Try.f3.params.toList Rows.fnPuzzleValidSpec.vars false W args.toList ds gs before := hW
  obtain ⟨p, q, hA0, hV, hpq, hfz, hnd⟩ := hW
  have hA : DataW.TrodAll enc Try.prog W 0 (fun _ => true) true Try.f3.params.toList args.toList ds p := hA0
  rw [Try.params3] at hA hval
  obtain ⟨v0, d0, rfl, rfl, h0⟩ := trodAll_one hA
  obtain ⟨rfl, rfl⟩ := trodVars_none hV
  rw [List.append_nil] at hpq
  subst hpq
  obtain ⟨xs0, hl0, hB0, r0⟩ := read_bytes Try.underlying22 Try.underlying5 cells5 (hval 0 22 v0 rfl rfl) h0
  exact law_post (tb := 4) (byte_law (l_FnPuzzleValid xs0 hB0 )) (RL.cons0 r0 RL.nil0) laidOut
    (by
      rw [Try.params3]
      intro t ht
      simp at ht
      subst ht
      exact ⟨readable22, of_decide_eq_true (by kernel_rfl)⟩) hW' rfl rfl (by kernel_rfl) Try.underlying4

theorem fnPuzzleValid_holds : Rows.FnPuzzleValidSaid :=
  OpenClaim.holds_of_wide 3 Try.f3 rfl rfl rfl rfl rfl rfl rfl ⟨rfl, rfl, rfl, rfl, rfl⟩ rfl rfl rfl rfl rfl (by kernel_rfl) Try.func3 fnPuzzleValid_facts
    (of_decide_eq_true (by kernel_rfl)) (by unfold Func.isWrapper; first | (rw [if_pos (by decide +kernel)]; kernel_rfl) | (rw [if_neg (by decide +kernel)]; exact ⟨rfl, rfl⟩))
    (fun os started H enc _ => fnPuzzleValid_lifted os started H enc)

end Go.Proofs.Ytlcoaglnegibkaa
