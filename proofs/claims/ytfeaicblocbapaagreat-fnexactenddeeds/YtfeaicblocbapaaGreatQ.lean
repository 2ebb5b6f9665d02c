/- The program's EndDeeds returns what the reference's returns, for all arguments. -/
import Derived.Test.YtfeaicblocbapaaGreatJ
import Derived.Test.YtfeaicblocbapaaGreatW
import Derived.Test.YtfeaicblocbapaaGreatAP

set_option linter.unusedSimpArgs false
set_option linter.unusedVariables false

namespace Go.Proofs.YtfeaicblocbapaaGreat
open Go.ChangeShapes Go.WideShapes Go.ChangeAt Go.RowKit Go.Proofs.Dev
theorem cells49 : Tryz.prog.cellsOf 28 = 6 := by kernel_rfl
theorem cells25 : Tryz.prog.cellsOf 25 = 1 := by kernel_rfl
theorem cells36 : Tryz.prog.cellsOf 26 = 1 := by kernel_rfl
theorem cells22 : Tryz.prog.cellsOf 22 = 1 := by kernel_rfl
theorem readable49 : Tryz.prog.readableRec 28 = true := by kernel_rfl

end Go.Proofs.YtfeaicblocbapaaGreat

namespace Go.Proofs.YtfeaicblocbapaaGreat
open Go.ChangeShapes Go.WideShapes Go.ChangeAt Go.RowKit Go.Proofs.Dev
theorem fnExactEndDeeds_fact0 : (Rows.fnExactEndDeedsRow.wf (OpenSpec.ofChange Rows.fnExactEndDeedsSpec)) = true := by kernel_rfl
theorem fnExactEndDeeds_fact1 : (laidOutB Tryz.prog) = true := by kernel_rfl
theorem fnExactEndDeeds_fact2 : (mapsRowed Tryz.prog) = true := by kernel_rfl
theorem fnExactEndDeeds_fact3 : (Tryz.f3.params.all (Tryz.prog.readableRec ·)) = true := by kernel_rfl
theorem fnExactEndDeeds_fact4 : (namedTie Tryz.prog Rows.fnExactEndDeedsRow.named Rows.fnExactEndDeedsSpec.vars) = true := by kernel_rfl
theorem fnExactEndDeeds_fact5 : ((Rows.fnExactEndDeedsRow.stops == [])) = true := by kernel_rfl
theorem fnExactEndDeeds_fact6 : ((Tryz.prog.stops == [])) = true := by kernel_rfl
theorem fnExactEndDeeds_fact7 : ((Rows.fnExactEndDeedsRow.knobs == [])) = true := by kernel_rfl
theorem fnExactEndDeeds_fact8 : ((Tryz.prog.stopKnobs == [])) = true := by kernel_rfl
theorem fnExactEndDeeds_fact9 : ((Rows.fnExactEndDeedsRow.inPlace == Tryz.prog.inPlace 3)) = true := by kernel_rfl
theorem fnExactEndDeeds_fact10 : ((Rows.fnExactEndDeedsRow.unfollowed == Tryz.prog.unfollowed 3)) = true := by kernel_rfl
theorem fnExactEndDeeds_fact11 : ((Rows.fnExactEndDeedsRow.recurses == Tryz.prog.recurses 3)) = true := by kernel_rfl
theorem fnExactEndDeeds_fact12 : ((Rows.fnExactEndDeedsRow.named == Tryz.prog.varsNamed 3)) = true := by kernel_rfl
theorem fnExactEndDeeds_fact13 : ((Rows.fnExactEndDeedsRow.maps == (Tryz.f3.params.toList ++ Rows.fnExactEndDeedsSpec.plain.varTypes Tryz.prog).any (Tryz.prog.mapsRec ·))) = true := by kernel_rfl
theorem fnExactEndDeeds_fact14 : ((Rows.fnExactEndDeedsRow.ifaces == (Tryz.f3.params.toList ++ Rows.fnExactEndDeedsSpec.plain.varTypes Tryz.prog).any (Tryz.prog.ifacesRec ·))) = true := by kernel_rfl
theorem fnExactEndDeeds_fact15 : ((Rows.fnExactEndDeedsRow.mapsOut == Tryz.prog.mapsAmong Tryz.f3.resultTypes.toList)) = true := by kernel_rfl
theorem fnExactEndDeeds_fact16 : ((Rows.fnExactEndDeedsRow.loops == (Tryz.f3.params.toList ++ Rows.fnExactEndDeedsSpec.plain.varTypes Tryz.prog).any (Tryz.prog.loopsFrom ·))) = true := by kernel_rfl
theorem fnExactEndDeeds_fact17 : ((Rows.fnExactEndDeedsRow.wideKeys == (Tryz.f3.params.toList ++ Rows.fnExactEndDeedsSpec.plain.varTypes Tryz.prog ++ Tryz.f3.resultTypes.toList).any (Tryz.prog.wideKeysFrom ·))) = true := by kernel_rfl
theorem fnExactEndDeeds_fact18 : (Rows.fnExactEndDeedsSpec.vars.all (Tryz.prog.varReadable ·)) = true := by kernel_rfl
theorem fnExactEndDeeds_fact19 : (Tryz.f3.resultTypes.all (fun t => Tryz.prog.readableRec t && decide (t < Tryz.prog.types.size))) = true := by kernel_rfl
theorem fnExactEndDeeds_fact20 : ((Rows.fnExactEndDeedsRow.ifacesOut == Tryz.f3.resultTypes.toList.any (Tryz.prog.ifacesRec ·))) = true := by kernel_rfl
theorem fnExactEndDeeds_fact21 : ((Rows.fnExactEndDeedsRow.loopsOut == Tryz.f3.resultTypes.toList.any (Tryz.prog.loopsFrom ·))) = true := by kernel_rfl
theorem fnExactEndDeeds_fact22 : ((Rows.fnExactEndDeedsRow.plainKeys == Tryz.prog.plainKeys)) = true := by kernel_rfl
theorem fnExactEndDeeds_fact23 : (Rows.fnExactEndDeedsRow.shortTexts.isNone) = true := by kernel_rfl
theorem fnExactEndDeeds_fact24 : (Tryz.prog.stopsHeard) = true := by kernel_rfl
theorem fnExactEndDeeds_fact25 : (Tryz.prog.mayEnter) = true := fact_mayEnter
theorem fnExactEndDeeds_fact26 : ((Rows.fnExactEndDeedsRow.lifted == Tryz.prog.liftsFinal)) = true := by rw [fact_liftsFinal]; rfl
theorem fnExactEndDeeds_fact27 : ((Tryz.prog.make == some Rows.fnExactEndDeedsRow.make)) = true := by rw [fact_make]; rfl
theorem fnExactEndDeeds_fact28 : Rows.fnExactEndDeedsRow.domain = [] ∧ Rows.fnExactEndDeedsRow.kinds = [] := ⟨rfl, rfl⟩
theorem fnExactEndDeeds_fact29 : ((Rows.fnExactEndDeedsRow.pinned == Rows.fnExactEndDeedsRow.pinnedBy)) = true := by kernel_rfl
theorem fnExactEndDeeds_fact30 : ((Rows.fnExactEndDeedsRow.veiled == (Tryz.f3.params.toList ++ Rows.fnExactEndDeedsSpec.plain.varTypes Tryz.prog ++ Tryz.f3.resultTypes.toList).any (Tryz.prog.veiledRec ·))) = true := by kernel_rfl
theorem fnExactEndDeeds_fact31 : (Rows.fnExactEndDeedsRow.veiledFits Tryz.prog Tryz.f3.params.toList (Tryz.f3.params.toList ++ Rows.fnExactEndDeedsSpec.plain.varTypes Tryz.prog ++ Tryz.f3.resultTypes.toList)) = true := by kernel_rfl
theorem fnExactEndDeeds_facts : joinedFacts Tryz.prog 3 Tryz.f3 Rows.fnExactEndDeedsSpec Rows.fnExactEndDeedsRow = true :=
  joinedFacts_of fnExactEndDeeds_fact0 fnExactEndDeeds_fact1 fnExactEndDeeds_fact2 fnExactEndDeeds_fact3 fnExactEndDeeds_fact4 fnExactEndDeeds_fact5 fnExactEndDeeds_fact6 fnExactEndDeeds_fact7 fnExactEndDeeds_fact8 fnExactEndDeeds_fact9 fnExactEndDeeds_fact10 fnExactEndDeeds_fact11 fnExactEndDeeds_fact12 fnExactEndDeeds_fact13 fnExactEndDeeds_fact14 fnExactEndDeeds_fact15 fnExactEndDeeds_fact16 fnExactEndDeeds_fact17 fnExactEndDeeds_fact18 fnExactEndDeeds_fact19 fnExactEndDeeds_fact20 fnExactEndDeeds_fact21 fnExactEndDeeds_fact22 fnExactEndDeeds_fact23 fnExactEndDeeds_fact24 fnExactEndDeeds_fact25 fnExactEndDeeds_fact26 fnExactEndDeeds_fact27 fnExactEndDeeds_fact28 fnExactEndDeeds_fact29 fnExactEndDeeds_fact30 fnExactEndDeeds_fact31

set_option maxRecDepth 100000 in
theorem fnExactEndDeeds_lifted (os : Os) (started : os.Started) (H : Type) (enc : TypeId × Value → H) :
    ReturnsInHanded {} Tryz.checked os 3 .any (Rows.fnExactEndDeedsSpec.pre6 enc Tryz.prog Tryz.f3 Rows.fnExactEndDeedsRow.domain false) (Rows.fnExactEndDeedsSpec.post enc Tryz.prog Tryz.f3 false true false false) := by
  refine returnsInHanded_of_change (C := Tryz.checked) own started (by kernel_rfl) Tryz.func3
    (ChangeSpec.witness6 (enc := enc) (C := Tryz.checked) false ⟨#[], #[.agg #[.int .i64 0, .int .i64 0, .slice none 0 0, .slice none 0 0, .slice none 0 0, .slice none 0 0]], []⟩ 8 (by kernel_rfl) (by kernel_rfl) (by kernel_rfl) (by kernel_rfl)) ?_
  intro W base args ds gs before hval0 hW hcnd _
  have hval : ∀ (j : Nat) t v, Tryz.f3.params[j]? = some t → args[j]? = some v → Value.okWide Tryz.prog W .any base t v := hval0
  have hW' : DataW.Whole enc Tryz.prog Tryz.f3.params.toList Rows.fnExactEndDeedsSpec.vars false W args.toList ds gs before := hW
  obtain ⟨p, q, hA0, hV, hpq, hfz, hnd⟩ := hW
  have hA : DataW.TrodAll enc Tryz.prog W 0 (fun _ => true) true Tryz.f3.params.toList args.toList ds p := hA0
  rw [Tryz.params3] at hA hval
  obtain ⟨v0, d0, rfl, rfl, h0⟩ := trodAll_one hA
  obtain ⟨rfl, rfl⟩ := trodVars_none hV
  rw [List.append_nil] at hpq
  subst hpq
  obtain ⟨W0, T0, cs0, ds0, ls0, ps0, hc0, hd0, hl0, hb0, hp0, r0⟩ := read_book Tryz.underlying28 cells49 Tryz.underlying24 cells24 cells25 cells25 cells36 ⟨rfl, rfl, rfl, rfl⟩ ⟨rfl, rfl, rfl⟩ cells3 cells3 cells22 Tryz.underlying3 Tryz.underlying3 Tryz.underlying22 Tryz.underlying4 cells4 Tryz.underlying25 Tryz.underlying25 Tryz.underlying3 cells3 Tryz.underlying26 Tryz.underlying25 cells25 (hval 0 28 v0 rfl rfl) h0
  exact law_post (tb := 4) (s_FnExactEndDeeds W0 T0 cs0 ds0 ls0 ps0 hc0 hd0 hl0 hb0 hp0) (RL.cons0 r0 RL.nil0) laidOut
    (by
      rw [Tryz.params3]
      intro t ht
      simp at ht
      subst ht
      exact ⟨readable49, of_decide_eq_true (by kernel_rfl)⟩) hW' rfl rfl (by kernel_rfl) Tryz.underlying4

theorem fnExactEndDeeds_holds : Rows.FnExactEndDeedsSaid :=
  OpenClaim.holds_of_wide 3 Tryz.f3 rfl rfl rfl rfl rfl rfl rfl ⟨rfl, rfl, rfl, rfl, rfl⟩ rfl rfl rfl rfl rfl (by kernel_rfl) Tryz.func3 fnExactEndDeeds_facts
    (of_decide_eq_true (by kernel_rfl)) (by unfold Func.isWrapper; first | (rw [if_pos (by decide +kernel)]; kernel_rfl) | (rw [if_neg (by decide +kernel)]; exact ⟨rfl, rfl⟩))
    (fun os started H enc _ => fnExactEndDeeds_lifted os started H enc)

end Go.Proofs.YtfeaicblocbapaaGreat
