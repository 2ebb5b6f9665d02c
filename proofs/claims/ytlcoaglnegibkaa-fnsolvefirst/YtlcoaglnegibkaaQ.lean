/- For every list of bytes the law FnSolveFirst answers true, and the bytes read as before. -/
import Derived.Test.YtlcoaglnegibkaaJB
import Derived.Test.YtlcoaglnegibkaaBN

set_option linter.unusedSimpArgs false
set_option linter.unusedVariables false

namespace Go.Proofs.Ytlcoaglnegibkaa
open Go.ChangeShapes Go.WideShapes Go.ChangeAt Go.RowKit Go.Proofs.Dev
theorem fnSolveFirst_fact0 : (Rows.fnSolveFirstRow.wf (OpenSpec.ofChange Rows.fnSolveFirstSpec)) = true := by kernel_rfl
theorem fnSolveFirst_fact1 : (laidOutB Try.prog) = true := by kernel_rfl
theorem fnSolveFirst_fact2 : (mapsRowed Try.prog) = true := by kernel_rfl
theorem fnSolveFirst_fact3 : (Try.f10.params.all (Try.prog.readableRec ·)) = true := by kernel_rfl
theorem fnSolveFirst_fact4 : (namedTie Try.prog Rows.fnSolveFirstRow.named Rows.fnSolveFirstSpec.vars) = true := by kernel_rfl
theorem fnSolveFirst_fact5 : ((Rows.fnSolveFirstRow.stops == [])) = true := by kernel_rfl
theorem fnSolveFirst_fact6 : ((Try.prog.stops == [])) = true := by kernel_rfl
theorem fnSolveFirst_fact7 : ((Rows.fnSolveFirstRow.knobs == [])) = true := by kernel_rfl
theorem fnSolveFirst_fact8 : ((Try.prog.stopKnobs == [])) = true := by kernel_rfl
theorem fnSolveFirst_fact9 : ((Rows.fnSolveFirstRow.inPlace == Try.prog.inPlace 10)) = true := by kernel_rfl
theorem fnSolveFirst_fact10 : ((Rows.fnSolveFirstRow.unfollowed == Try.prog.unfollowed 10)) = true := by kernel_rfl
theorem fnSolveFirst_fact11 : ((Rows.fnSolveFirstRow.recurses == Try.prog.recurses 10)) = true := by kernel_rfl
theorem fnSolveFirst_fact12 : ((Rows.fnSolveFirstRow.named == Try.prog.varsNamed 10)) = true := by kernel_rfl
theorem fnSolveFirst_fact13 : ((Rows.fnSolveFirstRow.maps == (Try.f10.params.toList ++ Rows.fnSolveFirstSpec.plain.varTypes Try.prog).any (Try.prog.mapsRec ·))) = true := by kernel_rfl
theorem fnSolveFirst_fact14 : ((Rows.fnSolveFirstRow.ifaces == (Try.f10.params.toList ++ Rows.fnSolveFirstSpec.plain.varTypes Try.prog).any (Try.prog.ifacesRec ·))) = true := by kernel_rfl
theorem fnSolveFirst_fact15 : ((Rows.fnSolveFirstRow.mapsOut == Try.prog.mapsAmong Try.f10.resultTypes.toList)) = true := by kernel_rfl
theorem fnSolveFirst_fact16 : ((Rows.fnSolveFirstRow.loops == (Try.f10.params.toList ++ Rows.fnSolveFirstSpec.plain.varTypes Try.prog).any (Try.prog.loopsFrom ·))) = true := by kernel_rfl
theorem fnSolveFirst_fact17 : ((Rows.fnSolveFirstRow.wideKeys == (Try.f10.params.toList ++ Rows.fnSolveFirstSpec.plain.varTypes Try.prog ++ Try.f10.resultTypes.toList).any (Try.prog.wideKeysFrom ·))) = true := by kernel_rfl
theorem fnSolveFirst_fact18 : (Rows.fnSolveFirstSpec.vars.all (Try.prog.varReadable ·)) = true := by kernel_rfl
theorem fnSolveFirst_fact19 : (Try.f10.resultTypes.all (fun t => Try.prog.readableRec t && decide (t < Try.prog.types.size))) = true := by kernel_rfl
theorem fnSolveFirst_fact20 : ((Rows.fnSolveFirstRow.ifacesOut == Try.f10.resultTypes.toList.any (Try.prog.ifacesRec ·))) = true := by kernel_rfl
theorem fnSolveFirst_fact21 : ((Rows.fnSolveFirstRow.loopsOut == Try.f10.resultTypes.toList.any (Try.prog.loopsFrom ·))) = true := by kernel_rfl
theorem fnSolveFirst_fact22 : ((Rows.fnSolveFirstRow.plainKeys == Try.prog.plainKeys)) = true := by kernel_rfl
theorem fnSolveFirst_fact23 : (Rows.fnSolveFirstRow.shortTexts.isNone) = true := by kernel_rfl
theorem fnSolveFirst_fact24 : (Try.prog.stopsHeard) = true := by kernel_rfl
theorem fnSolveFirst_fact25 : (Try.prog.mayEnter) = true := fact_mayEnter
theorem fnSolveFirst_fact26 : ((Rows.fnSolveFirstRow.lifted == Try.prog.liftsFinal)) = true := by rw [fact_liftsFinal]; rfl
theorem fnSolveFirst_fact27 : ((Try.prog.make == some Rows.fnSolveFirstRow.make)) = true := by rw [fact_make]; rfl
theorem fnSolveFirst_fact28 : Rows.fnSolveFirstRow.domain = [] ∧ Rows.fnSolveFirstRow.kinds = [] := ⟨rfl, rfl⟩
theorem fnSolveFirst_fact29 : ((Rows.fnSolveFirstRow.pinned == Rows.fnSolveFirstRow.pinnedBy)) = true := by kernel_rfl
theorem fnSolveFirst_fact30 : ((Rows.fnSolveFirstRow.veiled == (Try.f10.params.toList ++ Rows.fnSolveFirstSpec.plain.varTypes Try.prog ++ Try.f10.resultTypes.toList).any (Try.prog.veiledRec ·))) = true := by kernel_rfl
theorem fnSolveFirst_fact31 : (Rows.fnSolveFirstRow.veiledFits Try.prog Try.f10.params.toList (Try.f10.params.toList ++ Rows.fnSolveFirstSpec.plain.varTypes Try.prog ++ Try.f10.resultTypes.toList)) = true := by kernel_rfl
theorem fnSolveFirst_facts : joinedFacts Try.prog 10 Try.f10 Rows.fnSolveFirstSpec Rows.fnSolveFirstRow = true :=
  joinedFacts_of fnSolveFirst_fact0 fnSolveFirst_fact1 fnSolveFirst_fact2 fnSolveFirst_fact3 fnSolveFirst_fact4 fnSolveFirst_fact5 fnSolveFirst_fact6 fnSolveFirst_fact7 fnSolveFirst_fact8 fnSolveFirst_fact9 fnSolveFirst_fact10 fnSolveFirst_fact11 fnSolveFirst_fact12 fnSolveFirst_fact13 fnSolveFirst_fact14 fnSolveFirst_fact15 fnSolveFirst_fact16 fnSolveFirst_fact17 fnSolveFirst_fact18 fnSolveFirst_fact19 fnSolveFirst_fact20 fnSolveFirst_fact21 fnSolveFirst_fact22 fnSolveFirst_fact23 fnSolveFirst_fact24 fnSolveFirst_fact25 fnSolveFirst_fact26 fnSolveFirst_fact27 fnSolveFirst_fact28 fnSolveFirst_fact29 fnSolveFirst_fact30 fnSolveFirst_fact31

set_option maxRecDepth 100000 in
theorem fnSolveFirst_lifted (os : Os) (started : os.Started) (H : Type) (enc : TypeId × Value → H) :
    ReturnsInHanded {} Try.checked os 10 .any (Rows.fnSolveFirstSpec.pre6 enc Try.prog Try.f10 Rows.fnSolveFirstRow.domain false) (Rows.fnSolveFirstSpec.post enc Try.prog Try.f10 false true false false) := by
  refine returnsInHanded_of_change (C := Try.checked) own started (by kernel_rfl) Try.func10
    (ChangeSpec.witness6 (enc := enc) (C := Try.checked) false ⟨#[], #[.slice none 0 0], []⟩ 8 (by kernel_rfl) (by kernel_rfl) (by kernel_rfl) (by kernel_rfl)) ?_
  intro W base args ds gs before hval0 hW hcnd _
  have hval : ∀ (j : Nat) t v, Try.f10.params[j]? = some t → args[j]? = some v → Value.okWide Try.prog W .any base t v := hval0
  have hW' : DataW.Whole enc Try.prog Try.f10.params.toList Rows.fnSolveFirstSpec.vars false W args.toList ds gs before := hW
  obtain ⟨p, q, hA0, hV, hpq, hfz, hnd⟩ := hW
  have hA : DataW.TrodAll enc Try.prog W 0 (fun _ => true) true Try.f10.params.toList args.toList ds p := hA0
  rw [Try.params10] at hA hval
  obtain ⟨v0, d0, rfl, rfl, h0⟩ := trodAll_one hA
  obtain ⟨rfl, rfl⟩ := trodVars_none hV
  rw [List.append_nil] at hpq
  subst hpq
  obtain ⟨xs0, hl0, hB0, r0⟩ := read_bytes Try.underlying22 Try.underlying5 cells5 (hval 0 22 v0 rfl rfl) h0
  exact law_post (tb := 4) (byte_law (l_FnSolveFirst xs0 hB0 )) (RL.cons0 r0 RL.nil0) laidOut
    (by
      rw [Try.params10]
      intro t ht
      simp at ht
      subst ht
      exact ⟨readable22, of_decide_eq_true (by kernel_rfl)⟩) hW' rfl rfl (by kernel_rfl) Try.underlying4

theorem fnSolveFirst_holds : Rows.FnSolveFirstSaid :=
  OpenClaim.holds_of_wide 10 Try.f10 rfl rfl rfl rfl rfl rfl rfl ⟨rfl, rfl, rfl, rfl, rfl⟩ rfl rfl rfl rfl rfl (by kernel_rfl) Try.func10 fnSolveFirst_facts
    (of_decide_eq_true (by kernel_rfl)) (by unfold Func.isWrapper; first | (rw [if_pos (by decide +kernel)]; kernel_rfl) | (rw [if_neg (by decide +kernel)]; exact ⟨rfl, rfl⟩))
    (fun os started H enc _ => fnSolveFirst_lifted os started H enc)

end Go.Proofs.Ytlcoaglnegibkaa
