/- For all arguments the program's BookSolved returns what the reference's returns: the law answers true, and the arguments read as before. -/
import Derived.Test.YtjldabnbfdgbhaaJ
import Derived.Test.YtjldabnbfdgbhaaW
import Derived.Test.YtjldabnbfdgbhaaX

set_option linter.unusedSimpArgs false
set_option linter.unusedVariables false

namespace Go.Proofs.Ytjldabnbfdgbhaa
open Go.ChangeShapes Go.WideShapes Go.ChangeAt Go.RowKit Go.Proofs.Dev
theorem cells49 : Try.prog.cellsOf 49 = 6 := by kernel_rfl
theorem cells25 : Try.prog.cellsOf 25 = 1 := by kernel_rfl
theorem cells36 : Try.prog.cellsOf 36 = 1 := by kernel_rfl
theorem cells22 : Try.prog.cellsOf 22 = 1 := by kernel_rfl
theorem readable49 : Try.prog.readableRec 49 = true := by kernel_rfl

end Go.Proofs.Ytjldabnbfdgbhaa

namespace Go.Proofs.Ytjldabnbfdgbhaa
open Go.ChangeShapes Go.WideShapes Go.ChangeAt Go.RowKit Go.Proofs.Dev
theorem fnExactBookSolved_fact0 : (Rows.fnExactBookSolvedRow.wf (OpenSpec.ofChange Rows.fnExactBookSolvedSpec)) = true := by kernel_rfl
theorem fnExactBookSolved_fact1 : (laidOutB Try.prog) = true := by kernel_rfl
theorem fnExactBookSolved_fact2 : (mapsRowed Try.prog) = true := by kernel_rfl
theorem fnExactBookSolved_fact3 : (Try.f14.params.all (Try.prog.readableRec ·)) = true := by kernel_rfl
theorem fnExactBookSolved_fact4 : (namedTie Try.prog Rows.fnExactBookSolvedRow.named Rows.fnExactBookSolvedSpec.vars) = true := by kernel_rfl
theorem fnExactBookSolved_fact5 : ((Rows.fnExactBookSolvedRow.stops == [])) = true := by kernel_rfl
theorem fnExactBookSolved_fact6 : ((Try.prog.stops == [])) = true := by kernel_rfl
theorem fnExactBookSolved_fact7 : ((Rows.fnExactBookSolvedRow.knobs == [])) = true := by kernel_rfl
theorem fnExactBookSolved_fact8 : ((Try.prog.stopKnobs == [])) = true := by kernel_rfl
theorem fnExactBookSolved_fact9 : ((Rows.fnExactBookSolvedRow.inPlace == Try.prog.inPlace 14)) = true := by kernel_rfl
theorem fnExactBookSolved_fact10 : ((Rows.fnExactBookSolvedRow.unfollowed == Try.prog.unfollowed 14)) = true := by kernel_rfl
theorem fnExactBookSolved_fact11 : ((Rows.fnExactBookSolvedRow.recurses == Try.prog.recurses 14)) = true := by kernel_rfl
theorem fnExactBookSolved_fact12 : ((Rows.fnExactBookSolvedRow.named == Try.prog.varsNamed 14)) = true := by kernel_rfl
theorem fnExactBookSolved_fact13 : ((Rows.fnExactBookSolvedRow.maps == (Try.f14.params.toList ++ Rows.fnExactBookSolvedSpec.plain.varTypes Try.prog).any (Try.prog.mapsRec ·))) = true := by kernel_rfl
theorem fnExactBookSolved_fact14 : ((Rows.fnExactBookSolvedRow.ifaces == (Try.f14.params.toList ++ Rows.fnExactBookSolvedSpec.plain.varTypes Try.prog).any (Try.prog.ifacesRec ·))) = true := by kernel_rfl
theorem fnExactBookSolved_fact15 : ((Rows.fnExactBookSolvedRow.mapsOut == Try.prog.mapsAmong Try.f14.resultTypes.toList)) = true := by kernel_rfl
theorem fnExactBookSolved_fact16 : ((Rows.fnExactBookSolvedRow.loops == (Try.f14.params.toList ++ Rows.fnExactBookSolvedSpec.plain.varTypes Try.prog).any (Try.prog.loopsFrom ·))) = true := by kernel_rfl
theorem fnExactBookSolved_fact17 : ((Rows.fnExactBookSolvedRow.wideKeys == (Try.f14.params.toList ++ Rows.fnExactBookSolvedSpec.plain.varTypes Try.prog ++ Try.f14.resultTypes.toList).any (Try.prog.wideKeysFrom ·))) = true := by kernel_rfl
theorem fnExactBookSolved_fact18 : (Rows.fnExactBookSolvedSpec.vars.all (Try.prog.varReadable ·)) = true := by kernel_rfl
theorem fnExactBookSolved_fact19 : (Try.f14.resultTypes.all (fun t => Try.prog.readableRec t && decide (t < Try.prog.types.size))) = true := by kernel_rfl
theorem fnExactBookSolved_fact20 : ((Rows.fnExactBookSolvedRow.ifacesOut == Try.f14.resultTypes.toList.any (Try.prog.ifacesRec ·))) = true := by kernel_rfl
theorem fnExactBookSolved_fact21 : ((Rows.fnExactBookSolvedRow.loopsOut == Try.f14.resultTypes.toList.any (Try.prog.loopsFrom ·))) = true := by kernel_rfl
theorem fnExactBookSolved_fact22 : ((Rows.fnExactBookSolvedRow.plainKeys == Try.prog.plainKeys)) = true := by kernel_rfl
theorem fnExactBookSolved_fact23 : (Rows.fnExactBookSolvedRow.shortTexts.isNone) = true := by kernel_rfl
theorem fnExactBookSolved_fact24 : (Try.prog.stopsHeard) = true := by kernel_rfl
theorem fnExactBookSolved_fact25 : (Try.prog.mayEnter) = true := fact_mayEnter
theorem fnExactBookSolved_fact26 : ((Rows.fnExactBookSolvedRow.lifted == Try.prog.liftsFinal)) = true := by rw [fact_liftsFinal]; rfl
theorem fnExactBookSolved_fact27 : ((Try.prog.make == some Rows.fnExactBookSolvedRow.make)) = true := by rw [fact_make]; rfl
theorem fnExactBookSolved_fact28 : Rows.fnExactBookSolvedRow.domain = [] ∧ Rows.fnExactBookSolvedRow.kinds = [] := ⟨rfl, rfl⟩
theorem fnExactBookSolved_fact29 : ((Rows.fnExactBookSolvedRow.pinned == Rows.fnExactBookSolvedRow.pinnedBy)) = true := by kernel_rfl
theorem fnExactBookSolved_fact30 : ((Rows.fnExactBookSolvedRow.veiled == (Try.f14.params.toList ++ Rows.fnExactBookSolvedSpec.plain.varTypes Try.prog ++ Try.f14.resultTypes.toList).any (Try.prog.veiledRec ·))) = true := by kernel_rfl
theorem fnExactBookSolved_fact31 : (Rows.fnExactBookSolvedRow.veiledFits Try.prog Try.f14.params.toList (Try.f14.params.toList ++ Rows.fnExactBookSolvedSpec.plain.varTypes Try.prog ++ Try.f14.resultTypes.toList)) = true := by kernel_rfl
theorem fnExactBookSolved_facts : joinedFacts Try.prog 14 Try.f14 Rows.fnExactBookSolvedSpec Rows.fnExactBookSolvedRow = true :=
  joinedFacts_of fnExactBookSolved_fact0 fnExactBookSolved_fact1 fnExactBookSolved_fact2 fnExactBookSolved_fact3 fnExactBookSolved_fact4 fnExactBookSolved_fact5 fnExactBookSolved_fact6 fnExactBookSolved_fact7 fnExactBookSolved_fact8 fnExactBookSolved_fact9 fnExactBookSolved_fact10 fnExactBookSolved_fact11 fnExactBookSolved_fact12 fnExactBookSolved_fact13 fnExactBookSolved_fact14 fnExactBookSolved_fact15 fnExactBookSolved_fact16 fnExactBookSolved_fact17 fnExactBookSolved_fact18 fnExactBookSolved_fact19 fnExactBookSolved_fact20 fnExactBookSolved_fact21 fnExactBookSolved_fact22 fnExactBookSolved_fact23 fnExactBookSolved_fact24 fnExactBookSolved_fact25 fnExactBookSolved_fact26 fnExactBookSolved_fact27 fnExactBookSolved_fact28 fnExactBookSolved_fact29 fnExactBookSolved_fact30 fnExactBookSolved_fact31

set_option maxRecDepth 100000 in
theorem fnExactBookSolved_lifted (os : Os) (started : os.Started) (H : Type) (enc : TypeId × Value → H) :
    ReturnsInHanded {} Try.checked os 14 .any (Rows.fnExactBookSolvedSpec.pre6 enc Try.prog Try.f14 Rows.fnExactBookSolvedRow.domain false) (Rows.fnExactBookSolvedSpec.post enc Try.prog Try.f14 false true false false) := by
  refine returnsInHanded_of_change (C := Try.checked) own started (by kernel_rfl) Try.func14
    (ChangeSpec.witness6 (enc := enc) (C := Try.checked) false ⟨#[], #[.agg #[.int .i64 0, .int .i64 0, .slice none 0 0, .slice none 0 0, .slice none 0 0, .slice none 0 0]], []⟩ 8 (by kernel_rfl) (by kernel_rfl) (by kernel_rfl) (by kernel_rfl)) ?_
  intro W base args ds gs before hval0 hW hcnd _
  have hval : ∀ (j : Nat) t v, Try.f14.params[j]? = some t → args[j]? = some v → Value.okWide Try.prog W .any base t v := hval0
  have hW' : DataW.Whole enc Try.prog Try.f14.params.toList Rows.fnExactBookSolvedSpec.vars false W args.toList ds gs before := hW
  obtain ⟨p, q, hA0, hV, hpq, hfz, hnd⟩ := hW
  have hA : DataW.TrodAll enc Try.prog W 0 (fun _ => true) true Try.f14.params.toList args.toList ds p := hA0
  rw [Try.params14] at hA hval
  obtain ⟨v0, d0, rfl, rfl, h0⟩ := trodAll_one hA
  obtain ⟨rfl, rfl⟩ := trodVars_none hV
  rw [List.append_nil] at hpq
  subst hpq
  obtain ⟨W0, T0, cs0, ds0, ls0, ps0, hc0, hd0, hl0, hb0, hp0, r0⟩ := read_book Try.underlying49 cells49 Try.underlying24 cells24 cells25 cells25 cells36 ⟨rfl, rfl, rfl, rfl⟩ ⟨rfl, rfl, rfl⟩ cells3 cells3 cells22 Try.underlying3 Try.underlying3 Try.underlying22 Try.underlying4 cells4 Try.underlying25 Try.underlying25 Try.underlying3 cells3 Try.underlying36 Try.underlying25 cells25 (hval 0 49 v0 rfl rfl) h0
  exact law_post (tb := 4) (s_FnExactBookSolved W0 T0 cs0 ds0 ls0 ps0 hc0 hd0 hl0 hb0 hp0) (RL.cons0 r0 RL.nil0) laidOut
    (by
      rw [Try.params14]
      intro t ht
      simp at ht
      subst ht
      exact ⟨readable49, of_decide_eq_true (by kernel_rfl)⟩) hW' rfl rfl (by kernel_rfl) Try.underlying4

theorem fnExactBookSolved_holds : Rows.FnExactBookSolvedSaid :=
  OpenClaim.holds_of_wide 14 Try.f14 rfl rfl rfl rfl rfl rfl rfl ⟨rfl, rfl, rfl, rfl, rfl⟩ rfl rfl rfl rfl rfl (by kernel_rfl) Try.func14 fnExactBookSolved_facts
    (of_decide_eq_true (by kernel_rfl)) (by unfold Func.isWrapper; first | (rw [if_pos (by decide +kernel)]; kernel_rfl) | (rw [if_neg (by decide +kernel)]; exact ⟨rfl, rfl⟩))
    (fun os started H enc _ => fnExactBookSolved_lifted os started H enc)

end Go.Proofs.Ytjldabnbfdgbhaa
