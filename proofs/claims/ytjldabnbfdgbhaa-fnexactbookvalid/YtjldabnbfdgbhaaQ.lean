/- For all arguments the program's BookValid returns what the reference's returns: the law answers true, and the arguments read as before. -/
import Derived.Test.YtjldabnbfdgbhaaJ
import Derived.Test.YtjldabnbfdgbhaaW
import Derived.Test.YtjldabnbfdgbhaaX

set_option linter.unusedSimpArgs false
set_option linter.unusedVariables false

namespace Go.Proofs.Ytjldabnbfdgbhaa
open Go.ChangeShapes Go.WideShapes Go.ChangeAt Go.RowKit Go.Proofs.Dev
theorem cells49 : Try.prog.cellsOf 49 = 6 := by kernel_rfl
theorem cells25 : Try.prog.cellsOf 25 = 1 := by kernel_rfl
theorem cells36 : Try.prog.cellsOf 36 = 1 := by kernel_rfl
theorem cells22 : Try.prog.cellsOf 22 = 1 := by kernel_rfl
theorem readable49 : Try.prog.readableRec 49 = true := by kernel_rfl

end Go.Proofs.Ytjldabnbfdgbhaa

namespace Go.Proofs.Ytjldabnbfdgbhaa
open Go.ChangeShapes Go.WideShapes Go.ChangeAt Go.RowKit Go.Proofs.Dev
theorem fnExactBookValid_fact0 : (Rows.fnExactBookValidRow.wf (OpenSpec.ofChange Rows.fnExactBookValidSpec)) = true := by kernel_rfl
theorem fnExactBookValid_fact1 : (laidOutB Try.prog) = true := by kernel_rfl
theorem fnExactBookValid_fact2 : (mapsRowed Try.prog) = true := by kernel_rfl
theorem fnExactBookValid_fact3 : (Try.f11.params.all (Try.prog.readableRec ·)) = true := by kernel_rfl
theorem fnExactBookValid_fact4 : (namedTie Try.prog Rows.fnExactBookValidRow.named Rows.fnExactBookValidSpec.vars) = true := by kernel_rfl
theorem fnExactBookValid_fact5 : ((Rows.fnExactBookValidRow.stops == [])) = true := by kernel_rfl
theorem fnExactBookValid_fact6 : ((Try.prog.stops == [])) = true := by kernel_rfl
theorem fnExactBookValid_fact7 : ((Rows.fnExactBookValidRow.knobs == [])) = true := by kernel_rfl
theorem fnExactBookValid_fact8 : ((Try.prog.stopKnobs == [])) = true := by kernel_rfl
theorem fnExactBookValid_fact9 : ((Rows.fnExactBookValidRow.inPlace == Try.prog.inPlace 11)) = true := by kernel_rfl
theorem fnExactBookValid_fact10 : ((Rows.fnExactBookValidRow.unfollowed == Try.prog.unfollowed 11)) = true := by kernel_rfl
theorem fnExactBookValid_fact11 : ((Rows.fnExactBookValidRow.recurses == Try.prog.recurses 11)) = true := by kernel_rfl
theorem fnExactBookValid_fact12 : ((Rows.fnExactBookValidRow.named == Try.prog.varsNamed 11)) = true := by kernel_rfl
theorem fnExactBookValid_fact13 : ((Rows.fnExactBookValidRow.maps == (Try.f11.params.toList ++ Rows.fnExactBookValidSpec.plain.varTypes Try.prog).any (Try.prog.mapsRec ·))) = true := by kernel_rfl
theorem fnExactBookValid_fact14 : ((Rows.fnExactBookValidRow.ifaces == (Try.f11.params.toList ++ Rows.fnExactBookValidSpec.plain.varTypes Try.prog).any (Try.prog.ifacesRec ·))) = true := by kernel_rfl
theorem fnExactBookValid_fact15 : ((Rows.fnExactBookValidRow.mapsOut == Try.prog.mapsAmong Try.f11.resultTypes.toList)) = true := by kernel_rfl
theorem fnExactBookValid_fact16 : ((Rows.fnExactBookValidRow.loops == (Try.f11.params.toList ++ Rows.fnExactBookValidSpec.plain.varTypes Try.prog).any (Try.prog.loopsFrom ·))) = true := by kernel_rfl
theorem fnExactBookValid_fact17 : ((Rows.fnExactBookValidRow.wideKeys == (Try.f11.params.toList ++ Rows.fnExactBookValidSpec.plain.varTypes Try.prog ++ Try.f11.resultTypes.toList).any (Try.prog.wideKeysFrom ·))) = true := by kernel_rfl
theorem fnExactBookValid_fact18 : (Rows.fnExactBookValidSpec.vars.all (Try.prog.varReadable ·)) = true := by kernel_rfl
theorem fnExactBookValid_fact19 : (Try.f11.resultTypes.all (fun t => Try.prog.readableRec t && decide (t < Try.prog.types.size))) = true := by kernel_rfl
theorem fnExactBookValid_fact20 : ((Rows.fnExactBookValidRow.ifacesOut == Try.f11.resultTypes.toList.any (Try.prog.ifacesRec ·))) = true := by kernel_rfl
theorem fnExactBookValid_fact21 : ((Rows.fnExactBookValidRow.loopsOut == Try.f11.resultTypes.toList.any (Try.prog.loopsFrom ·))) = true := by kernel_rfl
theorem fnExactBookValid_fact22 : ((Rows.fnExactBookValidRow.plainKeys == Try.prog.plainKeys)) = true := by kernel_rfl
theorem fnExactBookValid_fact23 : (Rows.fnExactBookValidRow.shortTexts.isNone) = true := by kernel_rfl
theorem fnExactBookValid_fact24 : (Try.prog.stopsHeard) = true := by kernel_rfl
theorem fnExactBookValid_fact25 : (Try.prog.mayEnter) = true := fact_mayEnter
theorem fnExactBookValid_fact26 : ((Rows.fnExactBookValidRow.lifted == Try.prog.liftsFinal)) = true := by rw [fact_liftsFinal]; rfl
theorem fnExactBookValid_fact27 : ((Try.prog.make == some Rows.fnExactBookValidRow.make)) = true := by rw [fact_make]; rfl
theorem fnExactBookValid_fact28 : Rows.fnExactBookValidRow.domain = [] ∧ Rows.fnExactBookValidRow.kinds = [] := ⟨rfl, rfl⟩
theorem fnExactBookValid_fact29 : ((Rows.fnExactBookValidRow.pinned == Rows.fnExactBookValidRow.pinnedBy)) = true := by kernel_rfl
theorem fnExactBookValid_fact30 : ((Rows.fnExactBookValidRow.veiled == (Try.f11.params.toList ++ Rows.fnExactBookValidSpec.plain.varTypes Try.prog ++ Try.f11.resultTypes.toList).any (Try.prog.veiledRec ·))) = true := by kernel_rfl
theorem fnExactBookValid_fact31 : (Rows.fnExactBookValidRow.veiledFits Try.prog Try.f11.params.toList (Try.f11.params.toList ++ Rows.fnExactBookValidSpec.plain.varTypes Try.prog ++ Try.f11.resultTypes.toList)) = true := by kernel_rfl
theorem fnExactBookValid_facts : joinedFacts Try.prog 11 Try.f11 Rows.fnExactBookValidSpec Rows.fnExactBookValidRow = true :=
  joinedFacts_of fnExactBookValid_fact0 fnExactBookValid_fact1 fnExactBookValid_fact2 fnExactBookValid_fact3 fnExactBookValid_fact4 fnExactBookValid_fact5 fnExactBookValid_fact6 fnExactBookValid_fact7 fnExactBookValid_fact8 fnExactBookValid_fact9 fnExactBookValid_fact10 fnExactBookValid_fact11 fnExactBookValid_fact12 fnExactBookValid_fact13 fnExactBookValid_fact14 fnExactBookValid_fact15 fnExactBookValid_fact16 fnExactBookValid_fact17 fnExactBookValid_fact18 fnExactBookValid_fact19 fnExactBookValid_fact20 fnExactBookValid_fact21 fnExactBookValid_fact22 fnExactBookValid_fact23 fnExactBookValid_fact24 fnExactBookValid_fact25 fnExactBookValid_fact26 fnExactBookValid_fact27 fnExactBookValid_fact28 fnExactBookValid_fact29 fnExactBookValid_fact30 fnExactBookValid_fact31

set_option maxRecDepth 100000 in
theorem fnExactBookValid_lifted (os : Os) (started : os.Started) (H : Type) (enc : TypeId × Value → H) :
    ReturnsInHanded {} Try.checked os 11 .any (Rows.fnExactBookValidSpec.pre6 enc Try.prog Try.f11 Rows.fnExactBookValidRow.domain false) (Rows.fnExactBookValidSpec.post enc Try.prog Try.f11 false true false false) := by
  refine returnsInHanded_of_change (C := Try.checked) own started (by kernel_rfl) Try.func11
    (ChangeSpec.witness6 (enc := enc) (C := Try.checked) false ⟨#[], #[.agg #[.int .i64 0, .int .i64 0, .slice none 0 0, .slice none 0 0, .slice none 0 0, .slice none 0 0]], []⟩ 8 (by kernel_rfl) (by kernel_rfl) (by kernel_rfl) (by kernel_rfl)) ?_
  intro W base args ds gs before hval0 hW hcnd _
  have hval : ∀ (j : Nat) t v, Try.f11.params[j]? = some t → args[j]? = some v → Value.okWide Try.prog W .any base t v := hval0
  have hW' : DataW.Whole enc Try.prog Try.f11.params.toList Rows.fnExactBookValidSpec.vars false W args.toList ds gs before := hW
  obtain ⟨p, q, hA0, hV, hpq, hfz, hnd⟩ := hW
  have hA : DataW.TrodAll enc Try.prog W 0 (fun _ => true) true Try.f11.params.toList args.toList ds p := hA0
  rw [Try.params11] at hA hval
  obtain ⟨v0, d0, rfl, rfl, h0⟩ := trodAll_one hA
  obtain ⟨rfl, rfl⟩ := trodVars_none hV
  rw [List.append_nil] at hpq
  subst hpq
  obtain ⟨W0, T0, cs0, ds0, ls0, ps0, hc0, hd0, hl0, hb0, hp0, r0⟩ := read_book Try.underlying49 cells49 Try.underlying24 cells24 cells25 cells25 cells36 ⟨rfl, rfl, rfl, rfl⟩ ⟨rfl, rfl, rfl⟩ cells3 cells3 cells22 Try.underlying3 Try.underlying3 Try.underlying22 Try.underlying4 cells4 Try.underlying25 Try.underlying25 Try.underlying3 cells3 Try.underlying36 Try.underlying25 cells25 (hval 0 49 v0 rfl rfl) h0
  exact law_post (tb := 4) (s_FnExactBookValid W0 T0 cs0 ds0 ls0 ps0 hc0 hd0 hl0 hb0 hp0) (RL.cons0 r0 RL.nil0) laidOut
    (by
      rw [Try.params11]
      intro t ht
      simp at ht
      subst ht
      exact ⟨readable49, of_decide_eq_true (by kernel_rfl)⟩) hW' rfl rfl (by kernel_rfl) Try.underlying4

theorem fnExactBookValid_holds : Rows.FnExactBookValidSaid :=
  OpenClaim.holds_of_wide 11 Try.f11 rfl rfl rfl rfl rfl rfl rfl ⟨rfl, rfl, rfl, rfl, rfl⟩ rfl rfl rfl rfl rfl (by kernel_rfl) Try.func11 fnExactBookValid_facts
    (of_decide_eq_true (by kernel_rfl)) (by unfold Func.isWrapper; first | (rw [if_pos (by decide +kernel)]; kernel_rfl) | (rw [if_neg (by decide +kernel)]; exact ⟨rfl, rfl⟩))
    (fun os started H enc _ => fnExactBookValid_lifted os started H enc)

end Go.Proofs.Ytjldabnbfdgbhaa
