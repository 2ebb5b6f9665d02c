/- For all arguments the program's CellsLeft returns what the reference's returns: the law answers true, and the arguments read as before. -/
import Derived.Test.YtjldabnbfdgbhaaJ
import Derived.Test.YtjldabnbfdgbhaaW
import Derived.Test.YtjldabnbfdgbhaaY

set_option linter.unusedSimpArgs false
set_option linter.unusedVariables false

namespace Go.Proofs.Ytjldabnbfdgbhaa
open Go.ChangeShapes Go.WideShapes Go.ChangeAt Go.RowKit Go.Proofs.Dev
theorem cells49 : Try.prog.cellsOf 49 = 6 := by kernel_rfl
theorem cells25 : Try.prog.cellsOf 25 = 1 := by kernel_rfl
theorem cells36 : Try.prog.cellsOf 36 = 1 := by kernel_rfl
theorem cells22 : Try.prog.cellsOf 22 = 1 := by kernel_rfl
theorem readable49 : Try.prog.readableRec 49 = true := by kernel_rfl

end Go.Proofs.Ytjldabnbfdgbhaa

namespace Go.Proofs.Ytjldabnbfdgbhaa
open Go.ChangeShapes Go.WideShapes Go.ChangeAt Go.RowKit Go.Proofs.Dev
theorem fnExactCellsLeft_fact0 : (Rows.fnExactCellsLeftRow.wf (OpenSpec.ofChange Rows.fnExactCellsLeftSpec)) = true := by kernel_rfl
theorem fnExactCellsLeft_fact1 : (laidOutB Try.prog) = true := by kernel_rfl
theorem fnExactCellsLeft_fact2 : (mapsRowed Try.prog) = true := by kernel_rfl
theorem fnExactCellsLeft_fact3 : (Try.f16.params.all (Try.prog.readableRec ·)) = true := by kernel_rfl
theorem fnExactCellsLeft_fact4 : (namedTie Try.prog Rows.fnExactCellsLeftRow.named Rows.fnExactCellsLeftSpec.vars) = true := by kernel_rfl
theorem fnExactCellsLeft_fact5 : ((Rows.fnExactCellsLeftRow.stops == [])) = true := by kernel_rfl
theorem fnExactCellsLeft_fact6 : ((Try.prog.stops == [])) = true := by kernel_rfl
theorem fnExactCellsLeft_fact7 : ((Rows.fnExactCellsLeftRow.knobs == [])) = true := by kernel_rfl
theorem fnExactCellsLeft_fact8 : ((Try.prog.stopKnobs == [])) = true := by kernel_rfl
theorem fnExactCellsLeft_fact9 : ((Rows.fnExactCellsLeftRow.inPlace == Try.prog.inPlace 16)) = true := by kernel_rfl
theorem fnExactCellsLeft_fact10 : ((Rows.fnExactCellsLeftRow.unfollowed == Try.prog.unfollowed 16)) = true := by kernel_rfl
theorem fnExactCellsLeft_fact11 : ((Rows.fnExactCellsLeftRow.recurses == Try.prog.recurses 16)) = true := by kernel_rfl
theorem fnExactCellsLeft_fact12 : ((Rows.fnExactCellsLeftRow.named == Try.prog.varsNamed 16)) = true := by kernel_rfl
theorem fnExactCellsLeft_fact13 : ((Rows.fnExactCellsLeftRow.maps == (Try.f16.params.toList ++ Rows.fnExactCellsLeftSpec.plain.varTypes Try.prog).any (Try.prog.mapsRec ·))) = true := by kernel_rfl
theorem fnExactCellsLeft_fact14 : ((Rows.fnExactCellsLeftRow.ifaces == (Try.f16.params.toList ++ Rows.fnExactCellsLeftSpec.plain.varTypes Try.prog).any (Try.prog.ifacesRec ·))) = true := by kernel_rfl
theorem fnExactCellsLeft_fact15 : ((Rows.fnExactCellsLeftRow.mapsOut == Try.prog.mapsAmong Try.f16.resultTypes.toList)) = true := by kernel_rfl
theorem fnExactCellsLeft_fact16 : ((Rows.fnExactCellsLeftRow.loops == (Try.f16.params.toList ++ Rows.fnExactCellsLeftSpec.plain.varTypes Try.prog).any (Try.prog.loopsFrom ·))) = true := by kernel_rfl
theorem fnExactCellsLeft_fact17 : ((Rows.fnExactCellsLeftRow.wideKeys == (Try.f16.params.toList ++ Rows.fnExactCellsLeftSpec.plain.varTypes Try.prog ++ Try.f16.resultTypes.toList).any (Try.prog.wideKeysFrom ·))) = true := by kernel_rfl
theorem fnExactCellsLeft_fact18 : (Rows.fnExactCellsLeftSpec.vars.all (Try.prog.varReadable ·)) = true := by kernel_rfl
theorem fnExactCellsLeft_fact19 : (Try.f16.resultTypes.all (fun t => Try.prog.readableRec t && decide (t < Try.prog.types.size))) = true := by kernel_rfl
theorem fnExactCellsLeft_fact20 : ((Rows.fnExactCellsLeftRow.ifacesOut == Try.f16.resultTypes.toList.any (Try.prog.ifacesRec ·))) = true := by kernel_rfl
theorem fnExactCellsLeft_fact21 : ((Rows.fnExactCellsLeftRow.loopsOut == Try.f16.resultTypes.toList.any (Try.prog.loopsFrom ·))) = true := by kernel_rfl
theorem fnExactCellsLeft_fact22 : ((Rows.fnExactCellsLeftRow.plainKeys == Try.prog.plainKeys)) = true := by kernel_rfl
theorem fnExactCellsLeft_fact23 : (Rows.fnExactCellsLeftRow.shortTexts.isNone) = true := by kernel_rfl
theorem fnExactCellsLeft_fact24 : (Try.prog.stopsHeard) = true := by kernel_rfl
theorem fnExactCellsLeft_fact25 : (Try.prog.mayEnter) = true := fact_mayEnter
theorem fnExactCellsLeft_fact26 : ((Rows.fnExactCellsLeftRow.lifted == Try.prog.liftsFinal)) = true := by rw [fact_liftsFinal]; rfl
theorem fnExactCellsLeft_fact27 : ((Try.prog.make == some Rows.fnExactCellsLeftRow.make)) = true := by rw [fact_make]; rfl
theorem fnExactCellsLeft_fact28 : Rows.fnExactCellsLeftRow.domain = [] ∧ Rows.fnExactCellsLeftRow.kinds = [] := ⟨rfl, rfl⟩
theorem fnExactCellsLeft_fact29 : ((Rows.fnExactCellsLeftRow.pinned == Rows.fnExactCellsLeftRow.pinnedBy)) = true := by kernel_rfl
theorem fnExactCellsLeft_fact30 : ((Rows.fnExactCellsLeftRow.veiled == (Try.f16.params.toList ++ Rows.fnExactCellsLeftSpec.plain.varTypes Try.prog ++ Try.f16.resultTypes.toList).any (Try.prog.veiledRec ·))) = true := by kernel_rfl
theorem fnExactCellsLeft_fact31 : (Rows.fnExactCellsLeftRow.veiledFits Try.prog Try.f16.params.toList (Try.f16.params.toList ++ Rows.fnExactCellsLeftSpec.plain.varTypes Try.prog ++ Try.f16.resultTypes.toList)) = true := by kernel_rfl
theorem fnExactCellsLeft_facts : joinedFacts Try.prog 16 Try.f16 Rows.fnExactCellsLeftSpec Rows.fnExactCellsLeftRow = true :=
  joinedFacts_of fnExactCellsLeft_fact0 fnExactCellsLeft_fact1 fnExactCellsLeft_fact2 fnExactCellsLeft_fact3 fnExactCellsLeft_fact4 fnExactCellsLeft_fact5 fnExactCellsLeft_fact6 fnExactCellsLeft_fact7 fnExactCellsLeft_fact8 fnExactCellsLeft_fact9 fnExactCellsLeft_fact10 fnExactCellsLeft_fact11 fnExactCellsLeft_fact12 fnExactCellsLeft_fact13 fnExactCellsLeft_fact14 fnExactCellsLeft_fact15 fnExactCellsLeft_fact16 fnExactCellsLeft_fact17 fnExactCellsLeft_fact18 fnExactCellsLeft_fact19 fnExactCellsLeft_fact20 fnExactCellsLeft_fact21 fnExactCellsLeft_fact22 fnExactCellsLeft_fact23 fnExactCellsLeft_fact24 fnExactCellsLeft_fact25 fnExactCellsLeft_fact26 fnExactCellsLeft_fact27 fnExactCellsLeft_fact28 fnExactCellsLeft_fact29 fnExactCellsLeft_fact30 fnExactCellsLeft_fact31

set_option maxRecDepth 100000 in
theorem fnExactCellsLeft_lifted (os : Os) (started : os.Started) (H : Type) (enc : TypeId × Value → H) :
    ReturnsInHanded {} Try.checked os 16 .any (Rows.fnExactCellsLeftSpec.pre6 enc Try.prog Try.f16 Rows.fnExactCellsLeftRow.domain false) (Rows.fnExactCellsLeftSpec.post enc Try.prog Try.f16 false true false false) := by
  refine returnsInHanded_of_change (C := Try.checked) own started (by kernel_rfl) Try.func16
    (ChangeSpec.witness6 (enc := enc) (C := Try.checked) false ⟨#[], #[.agg #[.int .i64 0, .int .i64 0, .slice none 0 0, .slice none 0 0, .slice none 0 0, .slice none 0 0]], []⟩ 8 (by kernel_rfl) (by kernel_rfl) (by kernel_rfl) (by kernel_rfl)) ?_
  intro W base args ds gs before hval0 hW hcnd _
  have hval : ∀ (j : Nat) t v, Try.f16.params[j]? = some t → args[j]? = some v → Value.okWide Try.prog W .any base t v := hval0
  have hW' : DataW.Whole enc Try.prog Try.f16.params.toList Rows.fnExactCellsLeftSpec.vars false W args.toList ds gs before := hW
  obtain ⟨p, q, hA0, hV, hpq, hfz, hnd⟩ := hW
  have hA : DataW.TrodAll enc Try.prog W 0 (fun _ => true) true Try.f16.params.toList args.toList ds p := hA0
  rw [Try.params16] at hA hval
  obtain ⟨v0, d0, rfl, rfl, h0⟩ := trodAll_one hA
  obtain ⟨rfl, rfl⟩ := trodVars_none hV
  rw [List.append_nil] at hpq
  subst hpq
  obtain ⟨W0, T0, cs0, ds0, ls0, ps0, hc0, hd0, hl0, hb0, hp0, r0⟩ := read_book Try.underlying49 cells49 Try.underlying24 cells24 cells25 cells25 cells36 ⟨rfl, rfl, rfl, rfl⟩ ⟨rfl, rfl, rfl⟩ cells3 cells3 cells22 Try.underlying3 Try.underlying3 Try.underlying22 Try.underlying4 cells4 Try.underlying25 Try.underlying25 Try.underlying3 cells3 Try.underlying36 Try.underlying25 cells25 (hval 0 49 v0 rfl rfl) h0
  exact law_post (tb := 4) (s_FnExactCellsLeft W0 T0 cs0 ds0 ls0 ps0 hc0 hd0 hl0 hb0 hp0) (RL.cons0 r0 RL.nil0) laidOut
    (by
      rw [Try.params16]
      intro t ht
      simp at ht
      subst ht
      exact ⟨readable49, of_decide_eq_true (by kernel_rfl)⟩) hW' rfl rfl (by kernel_rfl) Try.underlying4

theorem fnExactCellsLeft_holds : Rows.FnExactCellsLeftSaid :=
  OpenClaim.holds_of_wide 16 Try.f16 rfl rfl rfl rfl rfl rfl rfl ⟨rfl, rfl, rfl, rfl, rfl⟩ rfl rfl rfl rfl rfl (by kernel_rfl) Try.func16 fnExactCellsLeft_facts
    (of_decide_eq_true (by kernel_rfl)) (by unfold Func.isWrapper; first | (rw [if_pos (by decide +kernel)]; kernel_rfl) | (rw [if_neg (by decide +kernel)]; exact ⟨rfl, rfl⟩))
    (fun os started H enc _ => fnExactCellsLeft_lifted os started H enc)

end Go.Proofs.Ytjldabnbfdgbhaa
