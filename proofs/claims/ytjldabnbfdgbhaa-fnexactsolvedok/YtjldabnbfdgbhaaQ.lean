/- FnExactSolvedOk: for every region and every two lists of numbers the law answers true, and the arguments read as before; no condition. -/
import Derived.Test.YtjldabnbfdgbhaaJ
import Derived.Test.YtjldabnbfdgbhaaP

set_option linter.unusedSimpArgs false
set_option linter.unusedVariables false

namespace Go.Proofs.Ytjldabnbfdgbhaa
open Go.ChangeShapes Go.WideShapes Go.ChangeAt Go.RowKit Go.Proofs.Dev
theorem fnExactSolvedOk_fact0 : (Rows.fnExactSolvedOkRow.wf (OpenSpec.ofChange Rows.fnExactSolvedOkSpec)) = true := by kernel_rfl
theorem fnExactSolvedOk_fact1 : (laidOutB Try.prog) = true := by kernel_rfl
theorem fnExactSolvedOk_fact2 : (mapsRowed Try.prog) = true := by kernel_rfl
theorem fnExactSolvedOk_fact3 : (Try.f8.params.all (Try.prog.readableRec ·)) = true := by kernel_rfl
theorem fnExactSolvedOk_fact4 : (namedTie Try.prog Rows.fnExactSolvedOkRow.named Rows.fnExactSolvedOkSpec.vars) = true := by kernel_rfl
theorem fnExactSolvedOk_fact5 : ((Rows.fnExactSolvedOkRow.stops == [])) = true := by kernel_rfl
theorem fnExactSolvedOk_fact6 : ((Try.prog.stops == [])) = true := by kernel_rfl
theorem fnExactSolvedOk_fact7 : ((Rows.fnExactSolvedOkRow.knobs == [])) = true := by kernel_rfl
theorem fnExactSolvedOk_fact8 : ((Try.prog.stopKnobs == [])) = true := by kernel_rfl
theorem fnExactSolvedOk_fact9 : ((Rows.fnExactSolvedOkRow.inPlace == Try.prog.inPlace 8)) = true := by kernel_rfl
theorem fnExactSolvedOk_fact10 : ((Rows.fnExactSolvedOkRow.unfollowed == Try.prog.unfollowed 8)) = true := by kernel_rfl
theorem fnExactSolvedOk_fact11 : ((Rows.fnExactSolvedOkRow.recurses == Try.prog.recurses 8)) = true := by kernel_rfl
theorem fnExactSolvedOk_fact12 : ((Rows.fnExactSolvedOkRow.named == Try.prog.varsNamed 8)) = true := by kernel_rfl
theorem fnExactSolvedOk_fact13 : ((Rows.fnExactSolvedOkRow.maps == (Try.f8.params.toList ++ Rows.fnExactSolvedOkSpec.plain.varTypes Try.prog).any (Try.prog.mapsRec ·))) = true := by kernel_rfl
theorem fnExactSolvedOk_fact14 : ((Rows.fnExactSolvedOkRow.ifaces == (Try.f8.params.toList ++ Rows.fnExactSolvedOkSpec.plain.varTypes Try.prog).any (Try.prog.ifacesRec ·))) = true := by kernel_rfl
theorem fnExactSolvedOk_fact15 : ((Rows.fnExactSolvedOkRow.mapsOut == Try.prog.mapsAmong Try.f8.resultTypes.toList)) = true := by kernel_rfl
theorem fnExactSolvedOk_fact16 : ((Rows.fnExactSolvedOkRow.loops == (Try.f8.params.toList ++ Rows.fnExactSolvedOkSpec.plain.varTypes Try.prog).any (Try.prog.loopsFrom ·))) = true := by kernel_rfl
theorem fnExactSolvedOk_fact17 : ((Rows.fnExactSolvedOkRow.wideKeys == (Try.f8.params.toList ++ Rows.fnExactSolvedOkSpec.plain.varTypes Try.prog ++ Try.f8.resultTypes.toList).any (Try.prog.wideKeysFrom ·))) = true := by kernel_rfl
theorem fnExactSolvedOk_fact18 : (Rows.fnExactSolvedOkSpec.vars.all (Try.prog.varReadable ·)) = true := by kernel_rfl
theorem fnExactSolvedOk_fact19 : (Try.f8.resultTypes.all (fun t => Try.prog.readableRec t && decide (t < Try.prog.types.size))) = true := by kernel_rfl
theorem fnExactSolvedOk_fact20 : ((Rows.fnExactSolvedOkRow.ifacesOut == Try.f8.resultTypes.toList.any (Try.prog.ifacesRec ·))) = true := by kernel_rfl
theorem fnExactSolvedOk_fact21 : ((Rows.fnExactSolvedOkRow.loopsOut == Try.f8.resultTypes.toList.any (Try.prog.loopsFrom ·))) = true := by kernel_rfl
theorem fnExactSolvedOk_fact22 : ((Rows.fnExactSolvedOkRow.plainKeys == Try.prog.plainKeys)) = true := by kernel_rfl
theorem fnExactSolvedOk_fact23 : (Rows.fnExactSolvedOkRow.shortTexts.isNone) = true := by kernel_rfl
theorem fnExactSolvedOk_fact24 : (Try.prog.stopsHeard) = true := by kernel_rfl
theorem fnExactSolvedOk_fact25 : (Try.prog.mayEnter) = true := fact_mayEnter
theorem fnExactSolvedOk_fact26 : ((Rows.fnExactSolvedOkRow.lifted == Try.prog.liftsFinal)) = true := by rw [fact_liftsFinal]; rfl
theorem fnExactSolvedOk_fact27 : ((Try.prog.make == some Rows.fnExactSolvedOkRow.make)) = true := by rw [fact_make]; rfl
theorem fnExactSolvedOk_fact28 : Rows.fnExactSolvedOkRow.domain = [] ∧ Rows.fnExactSolvedOkRow.kinds = [] := ⟨rfl, rfl⟩
theorem fnExactSolvedOk_fact29 : ((Rows.fnExactSolvedOkRow.pinned == Rows.fnExactSolvedOkRow.pinnedBy)) = true := by kernel_rfl
theorem fnExactSolvedOk_fact30 : ((Rows.fnExactSolvedOkRow.veiled == (Try.f8.params.toList ++ Rows.fnExactSolvedOkSpec.plain.varTypes Try.prog ++ Try.f8.resultTypes.toList).any (Try.prog.veiledRec ·))) = true := by kernel_rfl
theorem fnExactSolvedOk_fact31 : (Rows.fnExactSolvedOkRow.veiledFits Try.prog Try.f8.params.toList (Try.f8.params.toList ++ Rows.fnExactSolvedOkSpec.plain.varTypes Try.prog ++ Try.f8.resultTypes.toList)) = true := by kernel_rfl
theorem fnExactSolvedOk_facts : joinedFacts Try.prog 8 Try.f8 Rows.fnExactSolvedOkSpec Rows.fnExactSolvedOkRow = true :=
  joinedFacts_of fnExactSolvedOk_fact0 fnExactSolvedOk_fact1 fnExactSolvedOk_fact2 fnExactSolvedOk_fact3 fnExactSolvedOk_fact4 fnExactSolvedOk_fact5 fnExactSolvedOk_fact6 fnExactSolvedOk_fact7 fnExactSolvedOk_fact8 fnExactSolvedOk_fact9 fnExactSolvedOk_fact10 fnExactSolvedOk_fact11 fnExactSolvedOk_fact12 fnExactSolvedOk_fact13 fnExactSolvedOk_fact14 fnExactSolvedOk_fact15 fnExactSolvedOk_fact16 fnExactSolvedOk_fact17 fnExactSolvedOk_fact18 fnExactSolvedOk_fact19 fnExactSolvedOk_fact20 fnExactSolvedOk_fact21 fnExactSolvedOk_fact22 fnExactSolvedOk_fact23 fnExactSolvedOk_fact24 fnExactSolvedOk_fact25 fnExactSolvedOk_fact26 fnExactSolvedOk_fact27 fnExactSolvedOk_fact28 fnExactSolvedOk_fact29 fnExactSolvedOk_fact30 fnExactSolvedOk_fact31

set_option maxRecDepth 100000 in
theorem fnExactSolvedOk_lifted (os : Os) (started : os.Started) (H : Type) (enc : TypeId × Value → H) :
    ReturnsInHanded {} Try.checked os 8 .any (Rows.fnExactSolvedOkSpec.pre6 enc Try.prog Try.f8 Rows.fnExactSolvedOkRow.domain false) (Rows.fnExactSolvedOkSpec.post enc Try.prog Try.f8 false true false false) := by
  refine returnsInHanded_of_change (C := Try.checked) own started (by kernel_rfl) Try.func8
    (ChangeSpec.witness6 (enc := enc) (C := Try.checked) false ⟨#[], #[.agg #[.int .i64 0, .int .i64 0, .slice none 0 0], .slice none 0 0, .slice none 0 0], []⟩ 8 (by kernel_rfl) (by kernel_rfl) (by kernel_rfl) (by kernel_rfl)) ?_
  intro W base args ds gs before hval0 hW hcnd _
  have hval : ∀ (j : Nat) t v, Try.f8.params[j]? = some t → args[j]? = some v → Value.okWide Try.prog W .any base t v := hval0
  have hW' : DataW.Whole enc Try.prog Try.f8.params.toList Rows.fnExactSolvedOkSpec.vars false W args.toList ds gs before := hW
  obtain ⟨p, q, hA0, hV, hpq, hfz, hnd⟩ := hW
  have hA : DataW.TrodAll enc Try.prog W 0 (fun _ => true) true Try.f8.params.toList args.toList ds p := hA0
  rw [Try.params8] at hA hval
  obtain ⟨v0, v1, v2, d0, d1, d2, p0, p1, p2, rfl, rfl, rfl, h0, h1, h2⟩ := trodAll_three hA
  obtain ⟨rfl, rfl⟩ := trodVars_none hV
  rw [List.append_nil] at hpq
  subst hpq
  obtain ⟨W0, T0, cs0, _, _, hl0, r0⟩ := read_region Try.underlying24 one24 cells24 Try.underlying3 Try.underlying3 Try.underlying22 Try.underlying4 cells4 (hval 0 24 v0 rfl rfl) h0
  obtain ⟨xs1, hl1, _, r1⟩ := read_ints Try.underlying25 Try.underlying3 cells3 (hval 1 25 v1 rfl rfl) h1
  obtain ⟨xs2, hl2, _, r2⟩ := read_ints Try.underlying25 Try.underlying3 cells3 (hval 2 25 v2 rfl rfl) h2
  exact law_post (tb := 4) (s_FnExactSolvedOk W0 T0 cs0 xs1 xs2 hl0) (RL.cons0 r0 (RL.cons0 r1 (RL.cons0 r2 RL.nil0))) laidOut
    (by
      rw [Try.params8]
      intro t ht
      simp at ht
      rcases ht with rfl | rfl
      · exact ⟨readable.1, of_decide_eq_true (by kernel_rfl)⟩
      · exact ⟨readable.2.1, of_decide_eq_true (by kernel_rfl)⟩) hW' rfl rfl (by kernel_rfl) Try.underlying4

theorem fnExactSolvedOk_holds : Rows.FnExactSolvedOkSaid :=
  OpenClaim.holds_of_wide 8 Try.f8 rfl rfl rfl rfl rfl rfl rfl ⟨rfl, rfl, rfl, rfl, rfl⟩ rfl rfl rfl rfl rfl (by kernel_rfl) Try.func8 fnExactSolvedOk_facts
    (of_decide_eq_true (by kernel_rfl)) (by unfold Func.isWrapper; first | (rw [if_pos (by decide +kernel)]; kernel_rfl) | (rw [if_neg (by decide +kernel)]; exact ⟨rfl, rfl⟩))
    (fun os started H enc _ => fnExactSolvedOk_lifted os started H enc)

end Go.Proofs.Ytjldabnbfdgbhaa
