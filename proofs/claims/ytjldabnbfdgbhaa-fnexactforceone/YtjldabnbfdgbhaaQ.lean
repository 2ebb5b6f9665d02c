/- For all arguments the program's ForceOne returns what the reference's returns: the law answers true, and the arguments read as before. -/
import Derived.Test.YtjldabnbfdgbhaaJ
import Derived.Test.YtjldabnbfdgbhaaU

set_option linter.unusedSimpArgs false
set_option linter.unusedVariables false

namespace Go.Proofs.Ytjldabnbfdgbhaa
open Go.ChangeShapes Go.WideShapes Go.ChangeAt Go.RowKit Go.Proofs.Dev
theorem fnExactForceOne_fact0 : (Rows.fnExactForceOneRow.wf (OpenSpec.ofChange Rows.fnExactForceOneSpec)) = true := by kernel_rfl
theorem fnExactForceOne_fact1 : (laidOutB Try.prog) = true := by kernel_rfl
theorem fnExactForceOne_fact2 : (mapsRowed Try.prog) = true := by kernel_rfl
theorem fnExactForceOne_fact3 : (Try.f12.params.all (Try.prog.readableRec ·)) = true := by kernel_rfl
theorem fnExactForceOne_fact4 : (namedTie Try.prog Rows.fnExactForceOneRow.named Rows.fnExactForceOneSpec.vars) = true := by kernel_rfl
theorem fnExactForceOne_fact5 : ((Rows.fnExactForceOneRow.stops == [])) = true := by kernel_rfl
theorem fnExactForceOne_fact6 : ((Try.prog.stops == [])) = true := by kernel_rfl
theorem fnExactForceOne_fact7 : ((Rows.fnExactForceOneRow.knobs == [])) = true := by kernel_rfl
theorem fnExactForceOne_fact8 : ((Try.prog.stopKnobs == [])) = true := by kernel_rfl
theorem fnExactForceOne_fact9 : ((Rows.fnExactForceOneRow.inPlace == Try.prog.inPlace 12)) = true := by kernel_rfl
theorem fnExactForceOne_fact10 : ((Rows.fnExactForceOneRow.unfollowed == Try.prog.unfollowed 12)) = true := by kernel_rfl
theorem fnExactForceOne_fact11 : ((Rows.fnExactForceOneRow.recurses == Try.prog.recurses 12)) = true := by kernel_rfl
theorem fnExactForceOne_fact12 : ((Rows.fnExactForceOneRow.named == Try.prog.varsNamed 12)) = true := by kernel_rfl
theorem fnExactForceOne_fact13 : ((Rows.fnExactForceOneRow.maps == (Try.f12.params.toList ++ Rows.fnExactForceOneSpec.plain.varTypes Try.prog).any (Try.prog.mapsRec ·))) = true := by kernel_rfl
theorem fnExactForceOne_fact14 : ((Rows.fnExactForceOneRow.ifaces == (Try.f12.params.toList ++ Rows.fnExactForceOneSpec.plain.varTypes Try.prog).any (Try.prog.ifacesRec ·))) = true := by kernel_rfl
theorem fnExactForceOne_fact15 : ((Rows.fnExactForceOneRow.mapsOut == Try.prog.mapsAmong Try.f12.resultTypes.toList)) = true := by kernel_rfl
theorem fnExactForceOne_fact16 : ((Rows.fnExactForceOneRow.loops == (Try.f12.params.toList ++ Rows.fnExactForceOneSpec.plain.varTypes Try.prog).any (Try.prog.loopsFrom ·))) = true := by kernel_rfl
theorem fnExactForceOne_fact17 : ((Rows.fnExactForceOneRow.wideKeys == (Try.f12.params.toList ++ Rows.fnExactForceOneSpec.plain.varTypes Try.prog ++ Try.f12.resultTypes.toList).any (Try.prog.wideKeysFrom ·))) = true := by kernel_rfl
theorem fnExactForceOne_fact18 : (Rows.fnExactForceOneSpec.vars.all (Try.prog.varReadable ·)) = true := by kernel_rfl
theorem fnExactForceOne_fact19 : (Try.f12.resultTypes.all (fun t => Try.prog.readableRec t && decide (t < Try.prog.types.size))) = true := by kernel_rfl
theorem fnExactForceOne_fact20 : ((Rows.fnExactForceOneRow.ifacesOut == Try.f12.resultTypes.toList.any (Try.prog.ifacesRec ·))) = true := by kernel_rfl
theorem fnExactForceOne_fact21 : ((Rows.fnExactForceOneRow.loopsOut == Try.f12.resultTypes.toList.any (Try.prog.loopsFrom ·))) = true := by kernel_rfl
theorem fnExactForceOne_fact22 : ((Rows.fnExactForceOneRow.plainKeys == Try.prog.plainKeys)) = true := by kernel_rfl
theorem fnExactForceOne_fact23 : (Rows.fnExactForceOneRow.shortTexts.isNone) = true := by kernel_rfl
theorem fnExactForceOne_fact24 : (Try.prog.stopsHeard) = true := by kernel_rfl
theorem fnExactForceOne_fact25 : (Try.prog.mayEnter) = true := fact_mayEnter
theorem fnExactForceOne_fact26 : ((Rows.fnExactForceOneRow.lifted == Try.prog.liftsFinal)) = true := by rw [fact_liftsFinal]; rfl
theorem fnExactForceOne_fact27 : ((Try.prog.make == some Rows.fnExactForceOneRow.make)) = true := by rw [fact_make]; rfl
theorem fnExactForceOne_fact28 : Rows.fnExactForceOneRow.domain = [] ∧ Rows.fnExactForceOneRow.kinds = [] := ⟨rfl, rfl⟩
theorem fnExactForceOne_fact29 : ((Rows.fnExactForceOneRow.pinned == Rows.fnExactForceOneRow.pinnedBy)) = true := by kernel_rfl
theorem fnExactForceOne_fact30 : ((Rows.fnExactForceOneRow.veiled == (Try.f12.params.toList ++ Rows.fnExactForceOneSpec.plain.varTypes Try.prog ++ Try.f12.resultTypes.toList).any (Try.prog.veiledRec ·))) = true := by kernel_rfl
theorem fnExactForceOne_fact31 : (Rows.fnExactForceOneRow.veiledFits Try.prog Try.f12.params.toList (Try.f12.params.toList ++ Rows.fnExactForceOneSpec.plain.varTypes Try.prog ++ Try.f12.resultTypes.toList)) = true := by kernel_rfl
theorem fnExactForceOne_facts : joinedFacts Try.prog 12 Try.f12 Rows.fnExactForceOneSpec Rows.fnExactForceOneRow = true :=
  joinedFacts_of fnExactForceOne_fact0 fnExactForceOne_fact1 fnExactForceOne_fact2 fnExactForceOne_fact3 fnExactForceOne_fact4 fnExactForceOne_fact5 fnExactForceOne_fact6 fnExactForceOne_fact7 fnExactForceOne_fact8 fnExactForceOne_fact9 fnExactForceOne_fact10 fnExactForceOne_fact11 fnExactForceOne_fact12 fnExactForceOne_fact13 fnExactForceOne_fact14 fnExactForceOne_fact15 fnExactForceOne_fact16 fnExactForceOne_fact17 fnExactForceOne_fact18 fnExactForceOne_fact19 fnExactForceOne_fact20 fnExactForceOne_fact21 fnExactForceOne_fact22 fnExactForceOne_fact23 fnExactForceOne_fact24 fnExactForceOne_fact25 fnExactForceOne_fact26 fnExactForceOne_fact27 fnExactForceOne_fact28 fnExactForceOne_fact29 fnExactForceOne_fact30 fnExactForceOne_fact31

set_option maxRecDepth 100000 in
theorem fnExactForceOne_lifted (os : Os) (started : os.Started) (H : Type) (enc : TypeId × Value → H) :
    ReturnsInHanded {} Try.checked os 12 .any (Rows.fnExactForceOneSpec.pre6 enc Try.prog Try.f12 Rows.fnExactForceOneRow.domain false) (Rows.fnExactForceOneSpec.post enc Try.prog Try.f12 false true false false) := by
  refine returnsInHanded_of_change (C := Try.checked) own started (by kernel_rfl) Try.func12
    (ChangeSpec.witness6 (enc := enc) (C := Try.checked) false ⟨#[], #[.agg #[.int .i64 0, .int .i64 0, .slice none 0 0], .slice none 0 0, .slice none 0 0], []⟩ 8 (by kernel_rfl) (by kernel_rfl) (by kernel_rfl) (by kernel_rfl)) ?_
  intro W base args ds gs before hval0 hW hcnd _
  have hval : ∀ (j : Nat) t v, Try.f12.params[j]? = some t → args[j]? = some v → Value.okWide Try.prog W .any base t v := hval0
  have hW' : DataW.Whole enc Try.prog Try.f12.params.toList Rows.fnExactForceOneSpec.vars false W args.toList ds gs before := hW
  obtain ⟨p, q, hA0, hV, hpq, hfz, hnd⟩ := hW
  have hA : DataW.TrodAll enc Try.prog W 0 (fun _ => true) true Try.f12.params.toList args.toList ds p := hA0
  rw [Try.params12] at hA hval
  obtain ⟨v0, v1, v2, d0, d1, d2, p0, p1, p2, rfl, rfl, rfl, h0, h1, h2⟩ := trodAll_three hA
  obtain ⟨rfl, rfl⟩ := trodVars_none hV
  rw [List.append_nil] at hpq
  subst hpq
  obtain ⟨W0, T0, cs0, _, _, hl0, r0⟩ := read_region Try.underlying24 one24 cells24 Try.underlying3 Try.underlying3 Try.underlying22 Try.underlying4 cells4 (hval 0 24 v0 rfl rfl) h0
  obtain ⟨xs1, hl1, _, r1⟩ := read_ints Try.underlying25 Try.underlying3 cells3 (hval 1 25 v1 rfl rfl) h1
  obtain ⟨xs2, hl2, _, r2⟩ := read_ints Try.underlying25 Try.underlying3 cells3 (hval 2 25 v2 rfl rfl) h2
  exact law_post (tb := 4) (s_FnExactForceOne W0 T0 cs0 xs1 xs2 hl0) (RL.cons0 r0 (RL.cons0 r1 (RL.cons0 r2 RL.nil0))) laidOut
    (by
      rw [Try.params12]
      intro t ht
      simp at ht
      rcases ht with rfl | rfl
      · exact ⟨readable.1, of_decide_eq_true (by kernel_rfl)⟩
      · exact ⟨readable.2.1, of_decide_eq_true (by kernel_rfl)⟩) hW' rfl rfl (by kernel_rfl) Try.underlying4

theorem fnExactForceOne_holds : Rows.FnExactForceOneSaid :=
  OpenClaim.holds_of_wide 12 Try.f12 rfl rfl rfl rfl rfl rfl rfl ⟨rfl, rfl, rfl, rfl, rfl⟩ rfl rfl rfl rfl rfl (by kernel_rfl) Try.func12 fnExactForceOne_facts
    (of_decide_eq_true (by kernel_rfl)) (by unfold Func.isWrapper; first | (rw [if_pos (by decide +kernel)]; kernel_rfl) | (rw [if_neg (by decide +kernel)]; exact ⟨rfl, rfl⟩))
    (fun os started H enc _ => fnExactForceOne_lifted os started H enc)

end Go.Proofs.Ytjldabnbfdgbhaa
