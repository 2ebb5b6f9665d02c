/- For all arguments the law of BookNew answers true: the program returns what the reference returns, changes no argument, and keeps none. -/
import Derived.Test.YtjldabnbfdgbhaaJ
import Derived.Test.YtjldabnbfdgbhaaW
import Derived.Test.YtjldabnbfdgbhaaAK

set_option linter.unusedSimpArgs false
set_option linter.unusedVariables false

namespace Go.Proofs.Ytjldabnbfdgbhaa
open Go.ChangeShapes Go.WideShapes Go.ChangeAt Go.RowKit Go.Proofs.Dev
theorem cells49 : Try.prog.cellsOf 49 = 6 := by kernel_rfl
theorem cells25 : Try.prog.cellsOf 25 = 1 := by kernel_rfl
theorem cells36 : Try.prog.cellsOf 36 = 1 := by kernel_rfl
theorem cells22 : Try.prog.cellsOf 22 = 1 := by kernel_rfl
theorem readable49 : Try.prog.readableRec 49 = true := by kernel_rfl

end Go.Proofs.Ytjldabnbfdgbhaa

namespace Go.Proofs.Ytjldabnbfdgbhaa
open Go.ChangeShapes Go.WideShapes Go.ChangeAt Go.RowKit Go.Proofs.Dev
theorem fnExactBookNew_fact0 : (Rows.fnExactBookNewRow.wf (OpenSpec.ofChange Rows.fnExactBookNewSpec)) = true := by kernel_rfl
theorem fnExactBookNew_fact1 : (laidOutB Try.prog) = true := by kernel_rfl
theorem fnExactBookNew_fact2 : (mapsRowed Try.prog) = true := by kernel_rfl
theorem fnExactBookNew_fact3 : (Try.f4.params.all (Try.prog.readableRec ·)) = true := by kernel_rfl
theorem fnExactBookNew_fact4 : (namedTie Try.prog Rows.fnExactBookNewRow.named Rows.fnExactBookNewSpec.vars) = true := by kernel_rfl
theorem fnExactBookNew_fact5 : ((Rows.fnExactBookNewRow.stops == [])) = true := by kernel_rfl
theorem fnExactBookNew_fact6 : ((Try.prog.stops == [])) = true := by kernel_rfl
theorem fnExactBookNew_fact7 : ((Rows.fnExactBookNewRow.knobs == [])) = true := by kernel_rfl
theorem fnExactBookNew_fact8 : ((Try.prog.stopKnobs == [])) = true := by kernel_rfl
theorem fnExactBookNew_fact9 : ((Rows.fnExactBookNewRow.inPlace == Try.prog.inPlace 4)) = true := by kernel_rfl
theorem fnExactBookNew_fact10 : ((Rows.fnExactBookNewRow.unfollowed == Try.prog.unfollowed 4)) = true := by kernel_rfl
theorem fnExactBookNew_fact11 : ((Rows.fnExactBookNewRow.recurses == Try.prog.recurses 4)) = true := by kernel_rfl
theorem fnExactBookNew_fact12 : ((Rows.fnExactBookNewRow.named == Try.prog.varsNamed 4)) = true := by kernel_rfl
theorem fnExactBookNew_fact13 : ((Rows.fnExactBookNewRow.maps == (Try.f4.params.toList ++ Rows.fnExactBookNewSpec.plain.varTypes Try.prog).any (Try.prog.mapsRec ·))) = true := by kernel_rfl
theorem fnExactBookNew_fact14 : ((Rows.fnExactBookNewRow.ifaces == (Try.f4.params.toList ++ Rows.fnExactBookNewSpec.plain.varTypes Try.prog).any (Try.prog.ifacesRec ·))) = true := by kernel_rfl
theorem fnExactBookNew_fact15 : ((Rows.fnExactBookNewRow.mapsOut == Try.prog.mapsAmong Try.f4.resultTypes.toList)) = true := by kernel_rfl
theorem fnExactBookNew_fact16 : ((Rows.fnExactBookNewRow.loops == (Try.f4.params.toList ++ Rows.fnExactBookNewSpec.plain.varTypes Try.prog).any (Try.prog.loopsFrom ·))) = true := by kernel_rfl
theorem fnExactBookNew_fact17 : ((Rows.fnExactBookNewRow.wideKeys == (Try.f4.params.toList ++ Rows.fnExactBookNewSpec.plain.varTypes Try.prog ++ Try.f4.resultTypes.toList).any (Try.prog.wideKeysFrom ·))) = true := by kernel_rfl
theorem fnExactBookNew_fact18 : (Rows.fnExactBookNewSpec.vars.all (Try.prog.varReadable ·)) = true := by kernel_rfl
theorem fnExactBookNew_fact19 : (Try.f4.resultTypes.all (fun t => Try.prog.readableRec t && decide (t < Try.prog.types.size))) = true := by kernel_rfl
theorem fnExactBookNew_fact20 : ((Rows.fnExactBookNewRow.ifacesOut == Try.f4.resultTypes.toList.any (Try.prog.ifacesRec ·))) = true := by kernel_rfl
theorem fnExactBookNew_fact21 : ((Rows.fnExactBookNewRow.loopsOut == Try.f4.resultTypes.toList.any (Try.prog.loopsFrom ·))) = true := by kernel_rfl
theorem fnExactBookNew_fact22 : ((Rows.fnExactBookNewRow.plainKeys == Try.prog.plainKeys)) = true := by kernel_rfl
theorem fnExactBookNew_fact23 : (Rows.fnExactBookNewRow.shortTexts.isNone) = true := by kernel_rfl
theorem fnExactBookNew_fact24 : (Try.prog.stopsHeard) = true := by kernel_rfl
theorem fnExactBookNew_fact25 : (Try.prog.mayEnter) = true := fact_mayEnter
theorem fnExactBookNew_fact26 : ((Rows.fnExactBookNewRow.lifted == Try.prog.liftsFinal)) = true := by rw [fact_liftsFinal]; rfl
theorem fnExactBookNew_fact27 : ((Try.prog.make == some Rows.fnExactBookNewRow.make)) = true := by rw [fact_make]; rfl
theorem fnExactBookNew_fact28 : Rows.fnExactBookNewRow.domain = [] ∧ Rows.fnExactBookNewRow.kinds = [] := ⟨rfl, rfl⟩
theorem fnExactBookNew_fact29 : ((Rows.fnExactBookNewRow.pinned == Rows.fnExactBookNewRow.pinnedBy)) = true := by kernel_rfl
theorem fnExactBookNew_fact30 : ((Rows.fnExactBookNewRow.veiled == (Try.f4.params.toList ++ Rows.fnExactBookNewSpec.plain.varTypes Try.prog ++ Try.f4.resultTypes.toList).any (Try.prog.veiledRec ·))) = true := by kernel_rfl
theorem fnExactBookNew_fact31 : (Rows.fnExactBookNewRow.veiledFits Try.prog Try.f4.params.toList (Try.f4.params.toList ++ Rows.fnExactBookNewSpec.plain.varTypes Try.prog ++ Try.f4.resultTypes.toList)) = true := by kernel_rfl
theorem fnExactBookNew_facts : joinedFacts Try.prog 4 Try.f4 Rows.fnExactBookNewSpec Rows.fnExactBookNewRow = true :=
  joinedFacts_of fnExactBookNew_fact0 fnExactBookNew_fact1 fnExactBookNew_fact2 fnExactBookNew_fact3 fnExactBookNew_fact4 fnExactBookNew_fact5 fnExactBookNew_fact6 fnExactBookNew_fact7 fnExactBookNew_fact8 fnExactBookNew_fact9 fnExactBookNew_fact10 fnExactBookNew_fact11 fnExactBookNew_fact12 fnExactBookNew_fact13 fnExactBookNew_fact14 fnExactBookNew_fact15 fnExactBookNew_fact16 fnExactBookNew_fact17 fnExactBookNew_fact18 fnExactBookNew_fact19 fnExactBookNew_fact20 fnExactBookNew_fact21 fnExactBookNew_fact22 fnExactBookNew_fact23 fnExactBookNew_fact24 fnExactBookNew_fact25 fnExactBookNew_fact26 fnExactBookNew_fact27 fnExactBookNew_fact28 fnExactBookNew_fact29 fnExactBookNew_fact30 fnExactBookNew_fact31

set_option maxRecDepth 100000 in
theorem fnExactBookNew_lifted (os : Os) (started : os.Started) (H : Type) (enc : TypeId × Value → H) :
    ReturnsInHanded {} Try.checked os 4 .any (Rows.fnExactBookNewSpec.pre6 enc Try.prog Try.f4 Rows.fnExactBookNewRow.domain false) (Rows.fnExactBookNewSpec.post enc Try.prog Try.f4 false true false false) := by
  refine returnsInHanded_of_change (C := Try.checked) own started (by kernel_rfl) Try.func4
    (ChangeSpec.witness6 (enc := enc) (C := Try.checked) false ⟨#[], #[.agg #[.int .i64 0, .int .i64 0, .slice none 0 0], .slice none 0 0], []⟩ 8 (by kernel_rfl) (by kernel_rfl) (by kernel_rfl) (by kernel_rfl)) ?_
  intro W base args ds gs before hval0 hW hcnd _
  have hval : ∀ (j : Nat) t v, Try.f4.params[j]? = some t → args[j]? = some v → Value.okWide Try.prog W .any base t v := hval0
  have hW' : DataW.Whole enc Try.prog Try.f4.params.toList Rows.fnExactBookNewSpec.vars false W args.toList ds gs before := hW
  obtain ⟨p, q, hA0, hV, hpq, hfz, hnd⟩ := hW
  have hA : DataW.TrodAll enc Try.prog W 0 (fun _ => true) true Try.f4.params.toList args.toList ds p := hA0
  rw [Try.params4] at hA hval
  obtain ⟨v0, v1, d0, d1, p0, p1, rfl, rfl, rfl, h0, h1⟩ := trodAll_two hA
  obtain ⟨rfl, rfl⟩ := trodVars_none hV
  rw [List.append_nil] at hpq
  subst hpq
  obtain ⟨W0, T0, cs0, _, _, hl0, r0⟩ := read_region Try.underlying24 one24 cells24 Try.underlying3 Try.underlying3 Try.underlying22 Try.underlying4 cells4 (hval 0 24 v0 rfl rfl) h0
  obtain ⟨xs1, hl1, _, r1⟩ := read_ints Try.underlying25 Try.underlying3 cells3 (hval 1 25 v1 rfl rfl) h1
  exact law_post (tb := 4) (s_FnExactBookNew W0 T0 cs0 xs1 hl0) (RL.cons0 r0 (RL.cons0 r1 RL.nil0)) laidOut
    (by
      rw [Try.params4]
      intro t ht
      simp at ht
      rcases ht with rfl | rfl
      · exact ⟨readable.1, of_decide_eq_true (by kernel_rfl)⟩
      · exact ⟨readable.2.1, of_decide_eq_true (by kernel_rfl)⟩) hW' rfl rfl (by kernel_rfl) Try.underlying4

theorem fnExactBookNew_holds : Rows.FnExactBookNewSaid :=
  OpenClaim.holds_of_wide 4 Try.f4 rfl rfl rfl rfl rfl rfl rfl ⟨rfl, rfl, rfl, rfl, rfl⟩ rfl rfl rfl rfl rfl (by kernel_rfl) Try.func4 fnExactBookNew_facts
    (of_decide_eq_true (by kernel_rfl)) (by unfold Func.isWrapper; first | (rw [if_pos (by decide +kernel)]; kernel_rfl) | (rw [if_neg (by decide +kernel)]; exact ⟨rfl, rfl⟩))
    (fun os started H enc _ => fnExactBookNew_lifted os started H enc)

end Go.Proofs.Ytjldabnbfdgbhaa
