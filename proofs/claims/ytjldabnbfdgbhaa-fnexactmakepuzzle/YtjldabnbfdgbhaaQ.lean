/- The program's MakePuzzle returns what the reference's returns, for all arguments. -/
import Derived.Test.YtjldabnbfdgbhaaJ
import Derived.Test.YtjldabnbfdgbhaaAO

set_option linter.unusedSimpArgs false
set_option linter.unusedVariables false

namespace Go.Proofs.Ytjldabnbfdgbhaa
open Go.ChangeShapes Go.WideShapes Go.ChangeAt Go.RowKit Go.Proofs.Dev
theorem fnExactMakePuzzle_fact0 : (Rows.fnExactMakePuzzleRow.wf (OpenSpec.ofChange Rows.fnExactMakePuzzleSpec)) = true := by kernel_rfl
theorem fnExactMakePuzzle_fact1 : (laidOutB Try.prog) = true := by kernel_rfl
theorem fnExactMakePuzzle_fact2 : (mapsRowed Try.prog) = true := by kernel_rfl
theorem fnExactMakePuzzle_fact3 : (Try.f5.params.all (Try.prog.readableRec ·)) = true := by kernel_rfl
theorem fnExactMakePuzzle_fact4 : (namedTie Try.prog Rows.fnExactMakePuzzleRow.named Rows.fnExactMakePuzzleSpec.vars) = true := by kernel_rfl
theorem fnExactMakePuzzle_fact5 : ((Rows.fnExactMakePuzzleRow.stops == [])) = true := by kernel_rfl
theorem fnExactMakePuzzle_fact6 : ((Try.prog.stops == [])) = true := by kernel_rfl
theorem fnExactMakePuzzle_fact7 : ((Rows.fnExactMakePuzzleRow.knobs == [])) = true := by kernel_rfl
theorem fnExactMakePuzzle_fact8 : ((Try.prog.stopKnobs == [])) = true := by kernel_rfl
theorem fnExactMakePuzzle_fact9 : ((Rows.fnExactMakePuzzleRow.inPlace == Try.prog.inPlace 5)) = true := by kernel_rfl
theorem fnExactMakePuzzle_fact10 : ((Rows.fnExactMakePuzzleRow.unfollowed == Try.prog.unfollowed 5)) = true := by kernel_rfl
theorem fnExactMakePuzzle_fact11 : ((Rows.fnExactMakePuzzleRow.recurses == Try.prog.recurses 5)) = true := by kernel_rfl
theorem fnExactMakePuzzle_fact12 : ((Rows.fnExactMakePuzzleRow.named == Try.prog.varsNamed 5)) = true := by kernel_rfl
theorem fnExactMakePuzzle_fact13 : ((Rows.fnExactMakePuzzleRow.maps == (Try.f5.params.toList ++ Rows.fnExactMakePuzzleSpec.plain.varTypes Try.prog).any (Try.prog.mapsRec ·))) = true := by kernel_rfl
theorem fnExactMakePuzzle_fact14 : ((Rows.fnExactMakePuzzleRow.ifaces == (Try.f5.params.toList ++ Rows.fnExactMakePuzzleSpec.plain.varTypes Try.prog).any (Try.prog.ifacesRec ·))) = true := by kernel_rfl
theorem fnExactMakePuzzle_fact15 : ((Rows.fnExactMakePuzzleRow.mapsOut == Try.prog.mapsAmong Try.f5.resultTypes.toList)) = true := by kernel_rfl
theorem fnExactMakePuzzle_fact16 : ((Rows.fnExactMakePuzzleRow.loops == (Try.f5.params.toList ++ Rows.fnExactMakePuzzleSpec.plain.varTypes Try.prog).any (Try.prog.loopsFrom ·))) = true := by kernel_rfl
theorem fnExactMakePuzzle_fact17 : ((Rows.fnExactMakePuzzleRow.wideKeys == (Try.f5.params.toList ++ Rows.fnExactMakePuzzleSpec.plain.varTypes Try.prog ++ Try.f5.resultTypes.toList).any (Try.prog.wideKeysFrom ·))) = true := by kernel_rfl
theorem fnExactMakePuzzle_fact18 : (Rows.fnExactMakePuzzleSpec.vars.all (Try.prog.varReadable ·)) = true := by kernel_rfl
theorem fnExactMakePuzzle_fact19 : (Try.f5.resultTypes.all (fun t => Try.prog.readableRec t && decide (t < Try.prog.types.size))) = true := by kernel_rfl
theorem fnExactMakePuzzle_fact20 : ((Rows.fnExactMakePuzzleRow.ifacesOut == Try.f5.resultTypes.toList.any (Try.prog.ifacesRec ·))) = true := by kernel_rfl
theorem fnExactMakePuzzle_fact21 : ((Rows.fnExactMakePuzzleRow.loopsOut == Try.f5.resultTypes.toList.any (Try.prog.loopsFrom ·))) = true := by kernel_rfl
theorem fnExactMakePuzzle_fact22 : ((Rows.fnExactMakePuzzleRow.plainKeys == Try.prog.plainKeys)) = true := by kernel_rfl
theorem fnExactMakePuzzle_fact23 : (Rows.fnExactMakePuzzleRow.shortTexts.isNone) = true := by kernel_rfl
theorem fnExactMakePuzzle_fact24 : (Try.prog.stopsHeard) = true := by kernel_rfl
theorem fnExactMakePuzzle_fact25 : (Try.prog.mayEnter) = true := fact_mayEnter
theorem fnExactMakePuzzle_fact26 : ((Rows.fnExactMakePuzzleRow.lifted == Try.prog.liftsFinal)) = true := by rw [fact_liftsFinal]; rfl
theorem fnExactMakePuzzle_fact27 : ((Try.prog.make == some Rows.fnExactMakePuzzleRow.make)) = true := by rw [fact_make]; rfl
theorem fnExactMakePuzzle_fact28 : Rows.fnExactMakePuzzleRow.domain = [] ∧ Rows.fnExactMakePuzzleRow.kinds = [] := ⟨rfl, rfl⟩
theorem fnExactMakePuzzle_fact29 : ((Rows.fnExactMakePuzzleRow.pinned == Rows.fnExactMakePuzzleRow.pinnedBy)) = true := by kernel_rfl
theorem fnExactMakePuzzle_fact30 : ((Rows.fnExactMakePuzzleRow.veiled == (Try.f5.params.toList ++ Rows.fnExactMakePuzzleSpec.plain.varTypes Try.prog ++ Try.f5.resultTypes.toList).any (Try.prog.veiledRec ·))) = true := by kernel_rfl
theorem fnExactMakePuzzle_fact31 : (Rows.fnExactMakePuzzleRow.veiledFits Try.prog Try.f5.params.toList (Try.f5.params.toList ++ Rows.fnExactMakePuzzleSpec.plain.varTypes Try.prog ++ Try.f5.resultTypes.toList)) = true := by kernel_rfl
theorem fnExactMakePuzzle_facts : joinedFacts Try.prog 5 Try.f5 Rows.fnExactMakePuzzleSpec Rows.fnExactMakePuzzleRow = true :=
  joinedFacts_of fnExactMakePuzzle_fact0 fnExactMakePuzzle_fact1 fnExactMakePuzzle_fact2 fnExactMakePuzzle_fact3 fnExactMakePuzzle_fact4 fnExactMakePuzzle_fact5 fnExactMakePuzzle_fact6 fnExactMakePuzzle_fact7 fnExactMakePuzzle_fact8 fnExactMakePuzzle_fact9 fnExactMakePuzzle_fact10 fnExactMakePuzzle_fact11 fnExactMakePuzzle_fact12 fnExactMakePuzzle_fact13 fnExactMakePuzzle_fact14 fnExactMakePuzzle_fact15 fnExactMakePuzzle_fact16 fnExactMakePuzzle_fact17 fnExactMakePuzzle_fact18 fnExactMakePuzzle_fact19 fnExactMakePuzzle_fact20 fnExactMakePuzzle_fact21 fnExactMakePuzzle_fact22 fnExactMakePuzzle_fact23 fnExactMakePuzzle_fact24 fnExactMakePuzzle_fact25 fnExactMakePuzzle_fact26 fnExactMakePuzzle_fact27 fnExactMakePuzzle_fact28 fnExactMakePuzzle_fact29 fnExactMakePuzzle_fact30 fnExactMakePuzzle_fact31

set_option maxRecDepth 100000 in
theorem fnExactMakePuzzle_lifted (os : Os) (started : os.Started) (H : Type) (enc : TypeId × Value → H) :
    ReturnsInHanded {} Try.checked os 5 .any (Rows.fnExactMakePuzzleSpec.pre6 enc Try.prog Try.f5 Rows.fnExactMakePuzzleRow.domain false) (Rows.fnExactMakePuzzleSpec.post enc Try.prog Try.f5 false true false false) := by
  refine returnsInHanded_of_change (C := Try.checked) own started (by kernel_rfl) Try.func5
    (ChangeSpec.witness6 (enc := enc) (C := Try.checked) false ⟨#[], #[.agg #[.int .i64 0, .int .i64 0, .slice none 0 0], .slice none 0 0, .int .i64 0], []⟩ 8 (by kernel_rfl) (by kernel_rfl) (by kernel_rfl) (by kernel_rfl)) ?_
  intro W base args ds gs before hval0 hW hcnd _
  have hval : ∀ (j : Nat) t v, Try.f5.params[j]? = some t → args[j]? = some v → Value.okWide Try.prog W .any base t v := hval0
  have hW' : DataW.Whole enc Try.prog Try.f5.params.toList Rows.fnExactMakePuzzleSpec.vars false W args.toList ds gs before := hW
  obtain ⟨p, q, hA0, hV, hpq, hfz, hnd⟩ := hW
  have hA : DataW.TrodAll enc Try.prog W 0 (fun _ => true) true Try.f5.params.toList args.toList ds p := hA0
  rw [Try.params5] at hA hval
  obtain ⟨v0, v1, v2, d0, d1, d2, p0, p1, p2, rfl, rfl, rfl, h0, h1, h2⟩ := trodAll_three hA
  obtain ⟨rfl, rfl⟩ := trodVars_none hV
  rw [List.append_nil] at hpq
  subst hpq
  obtain ⟨W0, T0, cs0, _, _, hl0, r0⟩ := read_region Try.underlying24 one24 cells24 Try.underlying3 Try.underlying3 Try.underlying22 Try.underlying4 cells4 (hval 0 24 v0 rfl rfl) h0
  obtain ⟨xs1, hl1, _, r1⟩ := read_ints Try.underlying25 Try.underlying3 cells3 (hval 1 25 v1 rfl rfl) h1
  obtain ⟨x2, hl2, rfl⟩ := read_int Try.underlying3 (hval 2 3 v2 rfl rfl) h2
  have r2 : R (cin W [] fun _ => False) (.v (.int .i64 x2)) [] (.int .i64 x2) := by rw [R]; exact ⟨rfl, rfl⟩
  exact law_post (tb := 4) (s_FnExactMakePuzzle W0 T0 cs0 xs1 x2 hl0) (RL.cons0 r0 (RL.cons0 r1 (RL.cons0 r2 RL.nil0))) laidOut
    (by
      rw [Try.params5]
      intro t ht
      simp at ht
      rcases ht with rfl | rfl | rfl
      · exact ⟨readable.1, of_decide_eq_true (by kernel_rfl)⟩
      · exact ⟨readable.2.1, of_decide_eq_true (by kernel_rfl)⟩
      · exact ⟨readable.2.2, of_decide_eq_true (by kernel_rfl)⟩) hW' rfl rfl (by kernel_rfl) Try.underlying4

theorem fnExactMakePuzzle_holds : Rows.FnExactMakePuzzleSaid :=
  OpenClaim.holds_of_wide 5 Try.f5 rfl rfl rfl rfl rfl rfl rfl ⟨rfl, rfl, rfl, rfl, rfl⟩ rfl rfl rfl rfl rfl (by kernel_rfl) Try.func5 fnExactMakePuzzle_facts
    (of_decide_eq_true (by kernel_rfl)) (by unfold Func.isWrapper; first | (rw [if_pos (by decide +kernel)]; kernel_rfl) | (rw [if_neg (by decide +kernel)]; exact ⟨rfl, rfl⟩))
    (fun os started H enc _ => fnExactMakePuzzle_lifted os started H enc)

end Go.Proofs.Ytjldabnbfdgbhaa
