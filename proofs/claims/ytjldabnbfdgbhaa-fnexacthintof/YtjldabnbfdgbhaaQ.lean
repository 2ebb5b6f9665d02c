/- For all arguments the law of HintOf answers true: the program returns what the reference returns, and changes no argument. -/
import Derived.Test.YtjldabnbfdgbhaaJ
import Derived.Test.YtjldabnbfdgbhaaW
import Derived.Test.YtjldabnbfdgbhaaAE

set_option linter.unusedSimpArgs false
set_option linter.unusedVariables false

namespace Go.Proofs.Ytjldabnbfdgbhaa
open Go.ChangeShapes Go.WideShapes Go.ChangeAt Go.RowKit Go.Proofs.Dev
theorem cells49 : Try.prog.cellsOf 49 = 6 := by kernel_rfl
theorem cells25 : Try.prog.cellsOf 25 = 1 := by kernel_rfl
theorem cells36 : Try.prog.cellsOf 36 = 1 := by kernel_rfl
theorem cells22 : Try.prog.cellsOf 22 = 1 := by kernel_rfl
theorem readable49 : Try.prog.readableRec 49 = true := by kernel_rfl

end Go.Proofs.Ytjldabnbfdgbhaa

namespace Go.Proofs.Ytjldabnbfdgbhaa
open Go.ChangeShapes Go.WideShapes Go.ChangeAt Go.RowKit Go.Proofs.Dev
theorem fnExactHintOf_fact0 : (Rows.fnExactHintOfRow.wf (OpenSpec.ofChange Rows.fnExactHintOfSpec)) = true := by kernel_rfl
theorem fnExactHintOf_fact1 : (laidOutB Try.prog) = true := by kernel_rfl
theorem fnExactHintOf_fact2 : (mapsRowed Try.prog) = true := by kernel_rfl
theorem fnExactHintOf_fact3 : (Try.f19.params.all (Try.prog.readableRec ·)) = true := by kernel_rfl
theorem fnExactHintOf_fact4 : (namedTie Try.prog Rows.fnExactHintOfRow.named Rows.fnExactHintOfSpec.vars) = true := by kernel_rfl
theorem fnExactHintOf_fact5 : ((Rows.fnExactHintOfRow.stops == [])) = true := by kernel_rfl
theorem fnExactHintOf_fact6 : ((Try.prog.stops == [])) = true := by kernel_rfl
theorem fnExactHintOf_fact7 : ((Rows.fnExactHintOfRow.knobs == [])) = true := by kernel_rfl
theorem fnExactHintOf_fact8 : ((Try.prog.stopKnobs == [])) = true := by kernel_rfl
theorem fnExactHintOf_fact9 : ((Rows.fnExactHintOfRow.inPlace == Try.prog.inPlace 19)) = true := by kernel_rfl
theorem fnExactHintOf_fact10 : ((Rows.fnExactHintOfRow.unfollowed == Try.prog.unfollowed 19)) = true := by kernel_rfl
theorem fnExactHintOf_fact11 : ((Rows.fnExactHintOfRow.recurses == Try.prog.recurses 19)) = true := by kernel_rfl
theorem fnExactHintOf_fact12 : ((Rows.fnExactHintOfRow.named == Try.prog.varsNamed 19)) = true := by kernel_rfl
theorem fnExactHintOf_fact13 : ((Rows.fnExactHintOfRow.maps == (Try.f19.params.toList ++ Rows.fnExactHintOfSpec.plain.varTypes Try.prog).any (Try.prog.mapsRec ·))) = true := by kernel_rfl
theorem fnExactHintOf_fact14 : ((Rows.fnExactHintOfRow.ifaces == (Try.f19.params.toList ++ Rows.fnExactHintOfSpec.plain.varTypes Try.prog).any (Try.prog.ifacesRec ·))) = true := by kernel_rfl
theorem fnExactHintOf_fact15 : ((Rows.fnExactHintOfRow.mapsOut == Try.prog.mapsAmong Try.f19.resultTypes.toList)) = true := by kernel_rfl
theorem fnExactHintOf_fact16 : ((Rows.fnExactHintOfRow.loops == (Try.f19.params.toList ++ Rows.fnExactHintOfSpec.plain.varTypes Try.prog).any (Try.prog.loopsFrom ·))) = true := by kernel_rfl
theorem fnExactHintOf_fact17 : ((Rows.fnExactHintOfRow.wideKeys == (Try.f19.params.toList ++ Rows.fnExactHintOfSpec.plain.varTypes Try.prog ++ Try.f19.resultTypes.toList).any (Try.prog.wideKeysFrom ·))) = true := by kernel_rfl
theorem fnExactHintOf_fact18 : (Rows.fnExactHintOfSpec.vars.all (Try.prog.varReadable ·)) = true := by kernel_rfl
theorem fnExactHintOf_fact19 : (Try.f19.resultTypes.all (fun t => Try.prog.readableRec t && decide (t < Try.prog.types.size))) = true := by kernel_rfl
theorem fnExactHintOf_fact20 : ((Rows.fnExactHintOfRow.ifacesOut == Try.f19.resultTypes.toList.any (Try.prog.ifacesRec ·))) = true := by kernel_rfl
theorem fnExactHintOf_fact21 : ((Rows.fnExactHintOfRow.loopsOut == Try.f19.resultTypes.toList.any (Try.prog.loopsFrom ·))) = true := by kernel_rfl
theorem fnExactHintOf_fact22 : ((Rows.fnExactHintOfRow.plainKeys == Try.prog.plainKeys)) = true := by kernel_rfl
theorem fnExactHintOf_fact23 : (Rows.fnExactHintOfRow.shortTexts.isNone) = true := by kernel_rfl
theorem fnExactHintOf_fact24 : (Try.prog.stopsHeard) = true := by kernel_rfl
theorem fnExactHintOf_fact25 : (Try.prog.mayEnter) = true := fact_mayEnter
theorem fnExactHintOf_fact26 : ((Rows.fnExactHintOfRow.lifted == Try.prog.liftsFinal)) = true := by rw [fact_liftsFinal]; rfl
theorem fnExactHintOf_fact27 : ((Try.prog.make == some Rows.fnExactHintOfRow.make)) = true := by rw [fact_make]; rfl
theorem fnExactHintOf_fact28 : Rows.fnExactHintOfRow.domain = [] ∧ Rows.fnExactHintOfRow.kinds = [] := ⟨rfl, rfl⟩
theorem fnExactHintOf_fact29 : ((Rows.fnExactHintOfRow.pinned == Rows.fnExactHintOfRow.pinnedBy)) = true := by kernel_rfl
theorem fnExactHintOf_fact30 : ((Rows.fnExactHintOfRow.veiled == (Try.f19.params.toList ++ Rows.fnExactHintOfSpec.plain.varTypes Try.prog ++ Try.f19.resultTypes.toList).any (Try.prog.veiledRec ·))) = true := by kernel_rfl
theorem fnExactHintOf_fact31 : (Rows.fnExactHintOfRow.veiledFits Try.prog Try.f19.params.toList (Try.f19.params.toList ++ Rows.fnExactHintOfSpec.plain.varTypes Try.prog ++ Try.f19.resultTypes.toList)) = true := by kernel_rfl
theorem fnExactHintOf_facts : joinedFacts Try.prog 19 Try.f19 Rows.fnExactHintOfSpec Rows.fnExactHintOfRow = true :=
  joinedFacts_of fnExactHintOf_fact0 fnExactHintOf_fact1 fnExactHintOf_fact2 fnExactHintOf_fact3 fnExactHintOf_fact4 fnExactHintOf_fact5 fnExactHintOf_fact6 fnExactHintOf_fact7 fnExactHintOf_fact8 fnExactHintOf_fact9 fnExactHintOf_fact10 fnExactHintOf_fact11 fnExactHintOf_fact12 fnExactHintOf_fact13 fnExactHintOf_fact14 fnExactHintOf_fact15 fnExactHintOf_fact16 fnExactHintOf_fact17 fnExactHintOf_fact18 fnExactHintOf_fact19 fnExactHintOf_fact20 fnExactHintOf_fact21 fnExactHintOf_fact22 fnExactHintOf_fact23 fnExactHintOf_fact24 fnExactHintOf_fact25 fnExactHintOf_fact26 fnExactHintOf_fact27 fnExactHintOf_fact28 fnExactHintOf_fact29 fnExactHintOf_fact30 fnExactHintOf_fact31

set_option maxRecDepth 100000 in
theorem fnExactHintOf_lifted (os : Os) (started : os.Started) (H : Type) (enc : TypeId × Value → H) :
    ReturnsInHanded {} Try.checked os 19 .any (Rows.fnExactHintOfSpec.pre6 enc Try.prog Try.f19 Rows.fnExactHintOfRow.domain false) (Rows.fnExactHintOfSpec.post enc Try.prog Try.f19 false true false false) := by
  refine returnsInHanded_of_change (C := Try.checked) own started (by kernel_rfl) Try.func19
    (ChangeSpec.witness6 (enc := enc) (C := Try.checked) false ⟨#[], #[.agg #[.int .i64 0, .int .i64 0, .slice none 0 0], .slice none 0 0, .slice none 0 0], []⟩ 8 (by kernel_rfl) (by kernel_rfl) (by kernel_rfl) (by kernel_rfl)) ?_
  intro W base args ds gs before hval0 hW hcnd _
  have hval : ∀ (j : Nat) t v, Try.f19.params[j]? = some t → args[j]? = some v → Value.okWide Try.prog W .any base t v := hval0
  have hW' : DataW.Whole enc Try.prog Try.f19.params.toList Rows.fnExactHintOfSpec.vars false W args.toList ds gs before := hW
  obtain ⟨p, q, hA0, hV, hpq, hfz, hnd⟩ := hW
  have hA : DataW.TrodAll enc Try.prog W 0 (fun _ => true) true Try.f19.params.toList args.toList ds p := hA0
  rw [Try.params19] at hA hval
  obtain ⟨v0, v1, v2, d0, d1, d2, p0, p1, p2, rfl, rfl, rfl, h0, h1, h2⟩ := trodAll_three hA
  obtain ⟨rfl, rfl⟩ := trodVars_none hV
  rw [List.append_nil] at hpq
  subst hpq
  obtain ⟨W0, T0, cs0, _, _, hl0, r0⟩ := read_region Try.underlying24 one24 cells24 Try.underlying3 Try.underlying3 Try.underlying22 Try.underlying4 cells4 (hval 0 24 v0 rfl rfl) h0
  obtain ⟨xs1, hl1, _, r1⟩ := read_ints Try.underlying25 Try.underlying3 cells3 (hval 1 25 v1 rfl rfl) h1
  obtain ⟨xs2, hl2, _, r2⟩ := read_ints Try.underlying25 Try.underlying3 cells3 (hval 2 25 v2 rfl rfl) h2
  exact law_post (tb := 4) (s_FnExactHintOf W0 T0 cs0 xs1 xs2 hl0) (RL.cons0 r0 (RL.cons0 r1 (RL.cons0 r2 RL.nil0))) laidOut
    (by
      rw [Try.params19]
      intro t ht
      simp at ht
      rcases ht with rfl | rfl
      · exact ⟨readable.1, of_decide_eq_true (by kernel_rfl)⟩
      · exact ⟨readable.2.1, of_decide_eq_true (by kernel_rfl)⟩) hW' rfl rfl (by kernel_rfl) Try.underlying4

theorem fnExactHintOf_holds : Rows.FnExactHintOfSaid :=
  OpenClaim.holds_of_wide 19 Try.f19 rfl rfl rfl rfl rfl rfl rfl ⟨rfl, rfl, rfl, rfl, rfl⟩ rfl rfl rfl rfl rfl (by kernel_rfl) Try.func19 fnExactHintOf_facts
    (of_decide_eq_true (by kernel_rfl)) (by unfold Func.isWrapper; first | (rw [if_pos (by decide +kernel)]; kernel_rfl) | (rw [if_neg (by decide +kernel)]; exact ⟨rfl, rfl⟩))
    (fun os started H enc _ => fnExactHintOf_lifted os started H enc)

end Go.Proofs.Ytjldabnbfdgbhaa
