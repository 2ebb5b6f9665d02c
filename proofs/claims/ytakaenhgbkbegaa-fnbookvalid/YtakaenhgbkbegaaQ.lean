/- For every list of bytes the law FnBookValid answers true, and the bytes read as before. -/
import Derived.Test.YtakaenhgbkbegaaAK
import Derived.Test.YtakaenhgbkbegaaAS

set_option linter.unusedSimpArgs false
set_option linter.unusedVariables false

namespace Go.Proofs.Ytakaenhgbkbegaa
open Go.ChangeShapes Go.WideShapes Go.ChangeAt Go.RowKit Go.Proofs.Dev
theorem fnBookValid_fact0 : (Rows.fnBookValidRow.wf (OpenSpec.ofChange Rows.fnBookValidSpec)) = true := by kernel_rfl
theorem fnBookValid_fact1 : (laidOutB Try.prog) = true := by kernel_rfl
theorem fnBookValid_fact2 : (mapsRowed Try.prog) = true := by kernel_rfl
theorem fnBookValid_fact3 : (Try.f3.params.all (Try.prog.readableRec ·)) = true := by kernel_rfl
theorem fnBookValid_fact4 : (namedTie Try.prog Rows.fnBookValidRow.named Rows.fnBookValidSpec.vars) = true := by kernel_rfl
theorem fnBookValid_fact5 : ((Rows.fnBookValidRow.stops == [])) = true := by kernel_rfl
theorem fnBookValid_fact6 : ((Try.prog.stops == [])) = true := by kernel_rfl
theorem fnBookValid_fact7 : ((Rows.fnBookValidRow.knobs == [])) = true := by kernel_rfl
theorem fnBookValid_fact8 : ((Try.prog.stopKnobs == [])) = true := by kernel_rfl
theorem fnBookValid_fact9 : ((Rows.fnBookValidRow.inPlace == Try.prog.inPlace 3)) = true := by kernel_rfl
theorem fnBookValid_fact10 : ((Rows.fnBookValidRow.unfollowed == Try.prog.unfollowed 3)) = true := by kernel_rfl
theorem fnBookValid_fact11 : ((Rows.fnBookValidRow.recurses == Try.prog.recurses 3)) = true := by kernel_rfl
theorem fnBookValid_fact12 : ((Rows.fnBookValidRow.named == Try.prog.varsNamed 3)) = true := by kernel_rfl
theorem fnBookValid_fact13 : ((Rows.fnBookValidRow.maps == (Try.f3.params.toList ++ Rows.fnBookValidSpec.plain.varTypes Try.prog).any (Try.prog.mapsRec ·))) = true := by kernel_rfl
theorem fnBookValid_fact14 : ((Rows.fnBookValidRow.ifaces == (Try.f3.params.toList ++ Rows.fnBookValidSpec.plain.varTypes Try.prog).any (Try.prog.ifacesRec ·))) = true := by kernel_rfl
theorem fnBookValid_fact15 : ((Rows.fnBookValidRow.mapsOut == Try.prog.mapsAmong Try.f3.resultTypes.toList)) = true := by kernel_rfl
theorem fnBookValid_fact16 : ((Rows.fnBookValidRow.loops == (Try.f3.params.toList ++ Rows.fnBookValidSpec.plain.varTypes Try.prog).any (Try.prog.loopsFrom ·))) = true := by kernel_rfl
theorem fnBookValid_fact17 : ((Rows.fnBookValidRow.wideKeys == (Try.f3.params.toList ++ Rows.fnBookValidSpec.plain.varTypes Try.prog ++ Try.f3.resultTypes.toList).any (Try.prog.wideKeysFrom ·))) = true := by kernel_rfl
theorem fnBookValid_fact18 : (Rows.fnBookValidSpec.vars.all (Try.prog.varReadable ·)) = true := by kernel_rfl
theorem fnBookValid_fact19 : (Try.f3.resultTypes.all (fun t => Try.prog.readableRec t && decide (t < Try.prog.types.size))) = true := by kernel_rfl
theorem fnBookValid_fact20 : ((Rows.fnBookValidRow.ifacesOut == Try.f3.resultTypes.toList.any (Try.prog.ifacesRec ·))) = true := by kernel_rfl
theorem fnBookValid_fact21 : ((Rows.fnBookValidRow.loopsOut == Try.f3.resultTypes.toList.any (Try.prog.loopsFrom ·))) = true := by kernel_rfl
theorem fnBookValid_fact22 : ((Rows.fnBookValidRow.plainKeys == Try.prog.plainKeys)) = true := by kernel_rfl
theorem fnBookValid_fact23 : (Rows.fnBookValidRow.shortTexts.isNone) = true := by kernel_rfl
theorem fnBookValid_fact24 : (Try.prog.stopsHeard) = true := by kernel_rfl
theorem fnBookValid_fact25 : (Try.prog.mayEnter) = true := fact_mayEnter
theorem fnBookValid_fact26 : ((Rows.fnBookValidRow.lifted == Try.prog.liftsFinal)) = true := by rw [fact_liftsFinal]; rfl
theorem fnBookValid_fact27 : ((Try.prog.make == some Rows.fnBookValidRow.make)) = true := by rw [fact_make]; rfl
theorem fnBookValid_fact28 : Rows.fnBookValidRow.domain = [] ∧ Rows.fnBookValidRow.kinds = [] := ⟨rfl, rfl⟩
theorem fnBookValid_fact29 : ((Rows.fnBookValidRow.pinned == Rows.fnBookValidRow.pinnedBy)) = true := by kernel_rfl
theorem fnBookValid_fact30 : ((Rows.fnBookValidRow.veiled == (Try.f3.params.toList ++ Rows.fnBookValidSpec.plain.varTypes Try.prog ++ Try.f3.resultTypes.toList).any (Try.prog.veiledRec ·))) = true := by kernel_rfl
theorem fnBookValid_fact31 : (Rows.fnBookValidRow.veiledFits Try.prog Try.f3.params.toList (Try.f3.params.toList ++ Rows.fnBookValidSpec.plain.varTypes Try.prog ++ Try.f3.resultTypes.toList)) = true := by kernel_rfl
theorem fnBookValid_facts : joinedFacts Try.prog 3 Try.f3 Rows.fnBookValidSpec Rows.fnBookValidRow = true :=
  joinedFacts_of fnBookValid_fact0 fnBookValid_fact1 fnBookValid_fact2 fnBookValid_fact3 fnBookValid_fact4 fnBookValid_fact5 fnBookValid_fact6 fnBookValid_fact7 fnBookValid_fact8 fnBookValid_fact9 fnBookValid_fact10 fnBookValid_fact11 fnBookValid_fact12 fnBookValid_fact13 fnBookValid_fact14 fnBookValid_fact15 fnBookValid_fact16 fnBookValid_fact17 fnBookValid_fact18 fnBookValid_fact19 fnBookValid_fact20 fnBookValid_fact21 fnBookValid_fact22 fnBookValid_fact23 fnBookValid_fact24 fnBookValid_fact25 fnBookValid_fact26 fnBookValid_fact27 fnBookValid_fact28 fnBookValid_fact29 fnBookValid_fact30 fnBookValid_fact31

set_option maxRecDepth 100000 in
theorem fnBookValid_lifted (os : Os) (started : os.Started) (H : Type) (enc : TypeId × Value → H) :
    ReturnsInHanded {} Try.checked os 3 .any (Rows.fnBookValidSpec.pre6 enc Try.prog Try.f3 Rows.fnBookValidRow.domain false) (Rows.fnBookValidSpec.post enc Try.prog Try.f3 false true false false) := by
  refine returnsInHanded_of_change (C := Try.checked) own started (by kernel_rfl) Try.func3
    (ChangeSpec.witness6 (enc := enc) (C := Try.checked) false ⟨#[], #[.slice none 0 0], []⟩ 8 (by kernel_rfl) (by kernel_rfl) (by kernel_rfl) (by kernel_rfl)) ?_
  intro W base args ds gs before hval0 hW hcnd _
  have hval : ∀ (j : Nat) t v, Try.f3.params[j]? = some t → args[j]? = some v → Value.okWide Try.prog W .any base t v := hval0
  have hW' : DataW.Whole enc Try.prog Try.f3.params.toList Rows.fnBookValidSpec.vars false W args.toList ds gs before := hW
  obtain ⟨p, q, hA0, hV, hpq, hfz, hnd⟩ := hW
  have hA : DataW.TrodAll enc Try.prog W 0 (fun _ => true) true Try.f3.params.toList args.toList ds p := hA0
  rw [Try.params3] at hA hval
  obtain ⟨v0, d0, rfl, rfl, h0⟩ := trodAll_one hA
  obtain ⟨rfl, rfl⟩ := trodVars_none hV
  rw [List.append_nil] at hpq
  subst hpq
  obtain ⟨xs0, hl0, hB0, r0⟩ := read_bytes Try.underlying22 Try.underlying5 cells5 (hval 0 22 v0 rfl rfl) h0
  exact law_post (tb := 4) (byte_law (l_FnBookValid xs0 hB0 )) (RL.cons0 r0 RL.nil0) laidOut
    (by
      rw [Try.params3]
      intro t ht
      simp at ht
      subst ht
      exact ⟨readable22, of_decide_eq_true (by kernel_rfl)⟩) hW' rfl rfl (by kernel_rfl) Try.underlying4

theorem fnBookValid_holds : Rows.FnBookValidSaid :=
  OpenClaim.holds_of_wide 3 Try.f3 rfl rfl rfl rfl rfl rfl rfl ⟨rfl, rfl, rfl, rfl, rfl⟩ rfl rfl rfl rfl rfl (by kernel_rfl) Try.func3 fnBookValid_facts
    (of_decide_eq_true (by kernel_rfl)) (by unfold Func.isWrapper; first | (rw [if_pos (by decide +kernel)]; kernel_rfl) | (rw [if_neg (by decide +kernel)]; exact ⟨rfl, rfl⟩))
    (fun os started H enc _ => fnBookValid_lifted os started H enc)

end Go.Proofs.Ytakaenhgbkbegaa
