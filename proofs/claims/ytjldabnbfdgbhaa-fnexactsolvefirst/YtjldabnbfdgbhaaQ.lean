/- For all arguments the law of SolveFirst answers true: the program returns what the reference returns, changes no argument, and keeps none. -/
import Derived.Test.YtjldabnbfdgbhaaJ
import Derived.Test.YtjldabnbfdgbhaaW
import Derived.Test.YtjldabnbfdgbhaaAF

set_option linter.unusedSimpArgs false
set_option linter.unusedVariables false

namespace Go.Proofs.Ytjldabnbfdgbhaa
open Go.ChangeShapes Go.WideShapes Go.ChangeAt Go.RowKit Go.Proofs.Dev
theorem cells49 : Try.prog.cellsOf 49 = 6 := by kernel_rfl
theorem cells25 : Try.prog.cellsOf 25 = 1 := by kernel_rfl
theorem cells36 : Try.prog.cellsOf 36 = 1 := by kernel_rfl
theorem cells22 : Try.prog.cellsOf 22 = 1 := by kernel_rfl
theorem readable49 : Try.prog.readableRec 49 = true := by kernel_rfl

end Go.Proofs.Ytjldabnbfdgbhaa

namespace Go.Proofs.Ytjldabnbfdgbhaa
open Go.ChangeShapes Go.WideShapes Go.ChangeAt Go.RowKit Go.Proofs.Dev
theorem fnExactSolveFirst_fact0 : (Rows.fnExactSolveFirstRow.wf (OpenSpec.ofChange Rows.fnExactSolveFirstSpec)) = true := by kernel_rfl
theorem fnExactSolveFirst_fact1 : (laidOutB Try.prog) = true := by kernel_rfl
theorem fnExactSolveFirst_fact2 : (mapsRowed Try.prog) = true := by kernel_rfl
theorem fnExactSolveFirst_fact3 : (Try.f18.params.all (Try.prog.readableRec ·)) = true := by kernel_rfl
theorem fnExactSolveFirst_fact4 : (namedTie Try.prog Rows.fnExactSolveFirstRow.named Rows.fnExactSolveFirstSpec.vars) = true := by kernel_rfl
theorem fnExactSolveFirst_fact5 : ((Rows.fnExactSolveFirstRow.stops == [])) = true := by kernel_rfl
theorem fnExactSolveFirst_fact6 : ((Try.prog.stops == [])) = true := by kernel_rfl
theorem fnExactSolveFirst_fact7 : ((Rows.fnExactSolveFirstRow.knobs == [])) = true := by kernel_rfl
theorem fnExactSolveFirst_fact8 : ((Try.prog.stopKnobs == [])) = true := by kernel_rfl
theorem fnExactSolveFirst_fact9 : ((Rows.fnExactSolveFirstRow.inPlace == Try.prog.inPlace 18)) = true := by kernel_rfl
theorem fnExactSolveFirst_fact10 : ((Rows.fnExactSolveFirstRow.unfollowed == Try.prog.unfollowed 18)) = true := by kernel_rfl
theorem fnExactSolveFirst_fact11 : ((Rows.fnExactSolveFirstRow.recurses == Try.prog.recurses 18)) = true := by kernel_rfl
theorem fnExactSolveFirst_fact12 : ((Rows.fnExactSolveFirstRow.named == Try.prog.varsNamed 18)) = true := by kernel_rfl
theorem fnExactSolveFirst_fact13 : ((Rows.fnExactSolveFirstRow.maps == (Try.f18.params.toList ++ Rows.fnExactSolveFirstSpec.plain.varTypes Try.prog).any (Try.prog.mapsRec ·))) = true := by kernel_rfl
theorem fnExactSolveFirst_fact14 : ((Rows.fnExactSolveFirstRow.ifaces == (Try.f18.params.toList ++ Rows.fnExactSolveFirstSpec.plain.varTypes Try.prog).any (Try.prog.ifacesRec ·))) = true := by kernel_rfl
theorem fnExactSolveFirst_fact15 : ((Rows.fnExactSolveFirstRow.mapsOut == Try.prog.mapsAmong Try.f18.resultTypes.toList)) = true := by kernel_rfl
theorem fnExactSolveFirst_fact16 : ((Rows.fnExactSolveFirstRow.loops == (Try.f18.params.toList ++ Rows.fnExactSolveFirstSpec.plain.varTypes Try.prog).any (Try.prog.loopsFrom ·))) = true := by kernel_rfl
theorem fnExactSolveFirst_fact17 : ((Rows.fnExactSolveFirstRow.wideKeys == (Try.f18.params.toList ++ Rows.fnExactSolveFirstSpec.plain.varTypes Try.prog ++ Try.f18.resultTypes.toList).any (Try.prog.wideKeysFrom ·))) = true := by kernel_rfl
theorem fnExactSolveFirst_fact18 : (Rows.fnExactSolveFirstSpec.vars.all (Try.prog.varReadable ·)) = true := by kernel_rfl
theorem fnExactSolveFirst_fact19 : (Try.f18.resultTypes.all (fun t => Try.prog.readableRec t && decide (t < Try.prog.types.size))) = true := by kernel_rfl
theorem fnExactSolveFirst_fact20 : ((Rows.fnExactSolveFirstRow.ifacesOut == Try.f18.resultTypes.toList.any (Try.prog.ifacesRec ·))) = true := by kernel_rfl
theorem fnExactSolveFirst_fact21 : ((Rows.fnExactSolveFirstRow.loopsOut == Try.f18.resultTypes.toList.any (Try.prog.loopsFrom ·))) = true := by kernel_rfl
theorem fnExactSolveFirst_fact22 : ((Rows.fnExactSolveFirstRow.plainKeys == Try.prog.plainKeys)) = true := by kernel_rfl
theorem fnExactSolveFirst_fact23 : (Rows.fnExactSolveFirstRow.shortTexts.isNone) = true := by kernel_rfl
theorem fnExactSolveFirst_fact24 : (Try.prog.stopsHeard) = true := by kernel_rfl
theorem fnExactSolveFirst_fact25 : (Try.prog.mayEnter) = true := fact_mayEnter
theorem fnExactSolveFirst_fact26 : ((Rows.fnExactSolveFirstRow.lifted == Try.prog.liftsFinal)) = true := by rw [fact_liftsFinal]; rfl
theorem fnExactSolveFirst_fact27 : ((Try.prog.make == some Rows.fnExactSolveFirstRow.make)) = true := by rw [fact_make]; rfl
theorem fnExactSolveFirst_fact28 : Rows.fnExactSolveFirstRow.domain = [] ∧ Rows.fnExactSolveFirstRow.kinds = [] := ⟨rfl, rfl⟩
theorem fnExactSolveFirst_fact29 : ((Rows.fnExactSolveFirstRow.pinned == Rows.fnExactSolveFirstRow.pinnedBy)) = true := by kernel_rfl
theorem fnExactSolveFirst_fact30 : ((Rows.fnExactSolveFirstRow.veiled == (Try.f18.params.toList ++ Rows.fnExactSolveFirstSpec.plain.varTypes Try.prog ++ Try.f18.resultTypes.toList).any (Try.prog.veiledRec ·))) = true := by kernel_rfl
theorem fnExactSolveFirst_fact31 : (Rows.fnExactSolveFirstRow.veiledFits Try.prog Try.f18.params.toList (Try.f18.params.toList ++ Rows.fnExactSolveFirstSpec.plain.varTypes Try.prog ++ Try.f18.resultTypes.toList)) = true := by kernel_rfl
theorem fnExactSolveFirst_facts : joinedFacts Try.prog 18 Try.f18 Rows.fnExactSolveFirstSpec Rows.fnExactSolveFirstRow = true :=
  joinedFacts_of fnExactSolveFirst_fact0 fnExactSolveFirst_fact1 fnExactSolveFirst_fact2 fnExactSolveFirst_fact3 fnExactSolveFirst_fact4 fnExactSolveFirst_fact5 fnExactSolveFirst_fact6 fnExactSolveFirst_fact7 fnExactSolveFirst_fact8 fnExactSolveFirst_fact9 fnExactSolveFirst_fact10 fnExactSolveFirst_fact11 fnExactSolveFirst_fact12 fnExactSolveFirst_fact13 fnExactSolveFirst_fact14 fnExactSolveFirst_fact15 fnExactSolveFirst_fact16 fnExactSolveFirst_fact17 fnExactSolveFirst_fact18 fnExactSolveFirst_fact19 fnExactSolveFirst_fact20 fnExactSolveFirst_fact21 fnExactSolveFirst_fact22 fnExactSolveFirst_fact23 fnExactSolveFirst_fact24 fnExactSolveFirst_fact25 fnExactSolveFirst_fact26 fnExactSolveFirst_fact27 fnExactSolveFirst_fact28 fnExactSolveFirst_fact29 fnExactSolveFirst_fact30 fnExactSolveFirst_fact31

set_option maxRecDepth 100000 in
theorem fnExactSolveFirst_lifted (os : Os) (started : os.Started) (H : Type) (enc : TypeId × Value → H) :
    ReturnsInHanded {} Try.checked os 18 .any (Rows.fnExactSolveFirstSpec.pre6 enc Try.prog Try.f18 Rows.fnExactSolveFirstRow.domain false) (Rows.fnExactSolveFirstSpec.post enc Try.prog Try.f18 false true false false) := by
  refine returnsInHanded_of_change (C := Try.checked) own started (by kernel_rfl) Try.func18
    (ChangeSpec.witness6 (enc := enc) (C := Try.checked) false ⟨#[], #[.agg #[.int .i64 0, .int .i64 0, .slice none 0 0], .slice none 0 0, .slice none 0 0], []⟩ 8 (by kernel_rfl) (by kernel_rfl) (by kernel_rfl) (by kernel_rfl)) ?_
  intro W base args ds gs before hval0 hW hcnd _
  have hval : ∀ (j : Nat) t v, Try.f18.params[j]? = some t → args[j]? = some v → Value.okWide Try.prog W .any base t v := hval0
  have hW' : DataW.Whole enc Try.prog Try.f18.params.toList Rows.fnExactSolveFirstSpec.vars false W args.toList ds gs before := hW
  obtain ⟨p, q, hA0, hV, hpq, hfz, hnd⟩ := hW
  have hA : DataW.TrodAll enc Try.prog W 0 (fun _ => true) true Try.f18.params.toList args.toList ds p := hA0
  rw [Try.params18] at hA hval
  obtain ⟨v0, v1, v2, d0, d1, d2, p0, p1, p2, rfl, rfl, rfl, h0, h1, h2⟩ := trodAll_three hA
  obtain ⟨rfl, rfl⟩ := trodVars_none hV
  rw [List.append_nil] at hpq
  subst hpq
  obtain ⟨W0, T0, cs0, _, _, hl0, r0⟩ := read_region Try.underlying24 one24 cells24 Try.underlying3 Try.underlying3 Try.underlying22 Try.underlying4 cells4 (hval 0 24 v0 rfl rfl) h0
  obtain ⟨xs1, hl1, _, r1⟩ := read_ints Try.underlying25 Try.underlying3 cells3 (hval 1 25 v1 rfl rfl) h1
  obtain ⟨xs2, hl2, _, r2⟩ := read_ints Try.underlying25 Try.underlying3 cells3 (hval 2 25 v2 rfl rfl) h2
  exact law_post (tb := 4) (s_FnExactSolveFirst W0 T0 cs0 xs1 xs2 hl0) (RL.cons0 r0 (RL.cons0 r1 (RL.cons0 r2 RL.nil0))) laidOut
    (by
      rw [Try.params18]
      intro t ht
      simp at ht
      rcases ht with rfl | rfl
      · exact ⟨readable.1, of_decide_eq_true (by kernel_rfl)⟩
      · exact ⟨readable.2.1, of_decide_eq_true (by kernel_rfl)⟩) hW' rfl rfl (by kernel_rfl) Try.underlying4

theorem fnExactSolveFirst_holds : Rows.FnExactSolveFirstSaid :=
  OpenClaim.holds_of_wide 18 Try.f18 rfl rfl rfl rfl rfl rfl rfl ⟨rfl, rfl, rfl, rfl, rfl⟩ rfl rfl rfl rfl rfl (by kernel_rfl) Try.func18 fnExactSolveFirst_facts
    (of_decide_eq_true (by kernel_rfl)) (by unfold Func.isWrapper; first | (rw [if_pos (by decide +kernel)]; kernel_rfl) | (rw [if_neg (by decide +kernel)]; exact ⟨rfl, rfl⟩))
    (fun os started H enc _ => fnExactSolveFirst_lifted os started H enc)

end Go.Proofs.Ytjldabnbfdgbhaa
