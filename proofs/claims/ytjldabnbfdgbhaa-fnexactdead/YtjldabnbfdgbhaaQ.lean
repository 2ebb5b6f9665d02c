/- For all arguments the program's Dead returns what the reference's returns: the law answers true, and the arguments read as before. -/
import Derived.Test.YtjldabnbfdgbhaaJ
import Derived.Test.YtjldabnbfdgbhaaT

set_option linter.unusedSimpArgs false
set_option linter.unusedVariables false

namespace Go.Proofs.Ytjldabnbfdgbhaa
open Go.ChangeShapes Go.WideShapes Go.ChangeAt Go.RowKit Go.Proofs.Dev
theorem fnExactDead_fact0 : (Rows.fnExactDeadRow.wf (OpenSpec.ofChange Rows.fnExactDeadSpec)) = true := by kernel_rfl
theorem fnExactDead_fact1 : (laidOutB Try.prog) = true := by kernel_rfl
theorem fnExactDead_fact2 : (mapsRowed Try.prog) = true := by kernel_rfl
theorem fnExactDead_fact3 : (Try.f9.params.all (Try.prog.readableRec ·)) = true := by kernel_rfl
theorem fnExactDead_fact4 : (namedTie Try.prog Rows.fnExactDeadRow.named Rows.fnExactDeadSpec.vars) = true := by kernel_rfl
theorem fnExactDead_fact5 : ((Rows.fnExactDeadRow.stops == [])) = true := by kernel_rfl
theorem fnExactDead_fact6 : ((Try.prog.stops == [])) = true := by kernel_rfl
theorem fnExactDead_fact7 : ((Rows.fnExactDeadRow.knobs == [])) = true := by kernel_rfl
theorem fnExactDead_fact8 : ((Try.prog.stopKnobs == [])) = true := by kernel_rfl
theorem fnExactDead_fact9 : ((Rows.fnExactDeadRow.inPlace == Try.prog.inPlace 9)) = true := by kernel_rfl
theorem fnExactDead_fact10 : ((Rows.fnExactDeadRow.unfollowed == Try.prog.unfollowed 9)) = true := by kernel_rfl
theorem fnExactDead_fact11 : ((Rows.fnExactDeadRow.recurses == Try.prog.recurses 9)) = true := by kernel_rfl
theorem fnExactDead_fact12 : ((Rows.fnExactDeadRow.named == Try.prog.varsNamed 9)) = true := by kernel_rfl
theorem fnExactDead_fact13 : ((Rows.fnExactDeadRow.maps == (Try.f9.params.toList ++ Rows.fnExactDeadSpec.plain.varTypes Try.prog).any (Try.prog.mapsRec ·))) = true := by kernel_rfl
theorem fnExactDead_fact14 : ((Rows.fnExactDeadRow.ifaces == (Try.f9.params.toList ++ Rows.fnExactDeadSpec.plain.varTypes Try.prog).any (Try.prog.ifacesRec ·))) = true := by kernel_rfl
theorem fnExactDead_fact15 : ((Rows.fnExactDeadRow.mapsOut == Try.prog.mapsAmong Try.f9.resultTypes.toList)) = true := by kernel_rfl
theorem fnExactDead_fact16 : ((Rows.fnExactDeadRow.loops == (Try.f9.params.toList ++ Rows.fnExactDeadSpec.plain.varTypes Try.prog).any (Try.prog.loopsFrom ·))) = true := by kernel_rfl
theorem fnExactDead_fact17 : ((Rows.fnExactDeadRow.wideKeys == (Try.f9.params.toList ++ Rows.fnExactDeadSpec.plain.varTypes Try.prog ++ Try.f9.resultTypes.toList).any (Try.prog.wideKeysFrom ·))) = true := by kernel_rfl
theorem fnExactDead_fact18 : (Rows.fnExactDeadSpec.vars.all (Try.prog.varReadable ·)) = true := by kernel_rfl
theorem fnExactDead_fact19 : (Try.f9.resultTypes.all (fun t => Try.prog.readableRec t && decide (t < Try.prog.types.size))) = true := by kernel_rfl
theorem fnExactDead_fact20 : ((Rows.fnExactDeadRow.ifacesOut == Try.f9.resultTypes.toList.any (Try.prog.ifacesRec ·))) = true := by kernel_rfl
theorem fnExactDead_fact21 : ((Rows.fnExactDeadRow.loopsOut == Try.f9.resultTypes.toList.any (Try.prog.loopsFrom ·))) = true := by kernel_rfl
theorem fnExactDead_fact22 : ((Rows.fnExactDeadRow.plainKeys == Try.prog.plainKeys)) = true := by kernel_rfl
theorem fnExactDead_fact23 : (Rows.fnExactDeadRow.shortTexts.isNone) = true := by kernel_rfl
theorem fnExactDead_fact24 : (Try.prog.stopsHeard) = true := by kernel_rfl
theorem fnExactDead_fact25 : (Try.prog.mayEnter) = true := fact_mayEnter
theorem fnExactDead_fact26 : ((Rows.fnExactDeadRow.lifted == Try.prog.liftsFinal)) = true := by rw [fact_liftsFinal]; rfl
theorem fnExactDead_fact27 : ((Try.prog.make == some Rows.fnExactDeadRow.make)) = true := by rw [fact_make]; rfl
theorem fnExactDead_fact28 : Rows.fnExactDeadRow.domain = [] ∧ Rows.fnExactDeadRow.kinds = [] := ⟨rfl, rfl⟩
theorem fnExactDead_fact29 : ((Rows.fnExactDeadRow.pinned == Rows.fnExactDeadRow.pinnedBy)) = true := by kernel_rfl
theorem fnExactDead_fact30 : ((Rows.fnExactDeadRow.veiled == (Try.f9.params.toList ++ Rows.fnExactDeadSpec.plain.varTypes Try.prog ++ Try.f9.resultTypes.toList).any (Try.prog.veiledRec ·))) = true := by kernel_rfl
theorem fnExactDead_fact31 : (Rows.fnExactDeadRow.veiledFits Try.prog Try.f9.params.toList (Try.f9.params.toList ++ Rows.fnExactDeadSpec.plain.varTypes Try.prog ++ Try.f9.resultTypes.toList)) = true := by kernel_rfl
theorem fnExactDead_facts : joinedFacts Try.prog 9 Try.f9 Rows.fnExactDeadSpec Rows.fnExactDeadRow = true :=
  joinedFacts_of fnExactDead_fact0 fnExactDead_fact1 fnExactDead_fact2 fnExactDead_fact3 fnExactDead_fact4 fnExactDead_fact5 fnExactDead_fact6 fnExactDead_fact7 fnExactDead_fact8 fnExactDead_fact9 fnExactDead_fact10 fnExactDead_fact11 fnExactDead_fact12 fnExactDead_fact13 fnExactDead_fact14 fnExactDead_fact15 fnExactDead_fact16 fnExactDead_fact17 fnExactDead_fact18 fnExactDead_fact19 fnExactDead_fact20 fnExactDead_fact21 fnExactDead_fact22 fnExactDead_fact23 fnExactDead_fact24 fnExactDead_fact25 fnExactDead_fact26 fnExactDead_fact27 fnExactDead_fact28 fnExactDead_fact29 fnExactDead_fact30 fnExactDead_fact31

set_option maxRecDepth 100000 in
theorem fnExactDead_lifted (os : Os) (started : os.Started) (H : Type) (enc : TypeId × Value → H) :
    ReturnsInHanded {} Try.checked os 9 .any (Rows.fnExactDeadSpec.pre6 enc Try.prog Try.f9 Rows.fnExactDeadRow.domain false) (Rows.fnExactDeadSpec.post enc Try.prog Try.f9 false true false false) := by
  refine returnsInHanded_of_change (C := Try.checked) own started (by kernel_rfl) Try.func9
    (ChangeSpec.witness6 (enc := enc) (C := Try.checked) false ⟨#[], #[.agg #[.int .i64 0, .int .i64 0, .slice none 0 0], .slice none 0 0, .slice none 0 0], []⟩ 8 (by kernel_rfl) (by kernel_rfl) (by kernel_rfl) (by kernel_rfl)) ?_
  intro W base args ds gs before hval0 hW hcnd _
  have hval : ∀ (j : Nat) t v, Try.f9.params[j]? = some t → args[j]? = some v → Value.okWide Try.prog W .any base t v := hval0
  have hW' : DataW.Whole enc Try.prog Try.f9.params.toList Rows.fnExactDeadSpec.vars false W args.toList ds gs before := hW
  obtain ⟨p, q, hA0, hV, hpq, hfz, hnd⟩ := hW
  have hA : DataW.TrodAll enc Try.prog W 0 (fun _ => true) true Try.f9.params.toList args.toList ds p := hA0
  rw [Try.params9] at hA hval
  obtain ⟨v0, v1, v2, d0, d1, d2, p0, p1, p2, rfl, rfl, rfl, h0, h1, h2⟩ := trodAll_three hA
  obtain ⟨rfl, rfl⟩ := trodVars_none hV
  rw [List.append_nil] at hpq
  subst hpq
  obtain ⟨W0, T0, cs0, _, _, hl0, r0⟩ := read_region Try.underlying24 one24 cells24 Try.underlying3 Try.underlying3 Try.underlying22 Try.underlying4 cells4 (hval 0 24 v0 rfl rfl) h0
  obtain ⟨xs1, hl1, _, r1⟩ := read_ints Try.underlying25 Try.underlying3 cells3 (hval 1 25 v1 rfl rfl) h1
  obtain ⟨xs2, hl2, _, r2⟩ := read_ints Try.underlying25 Try.underlying3 cells3 (hval 2 25 v2 rfl rfl) h2
  exact law_post (tb := 4) (s_FnExactDead W0 T0 cs0 xs1 xs2 hl0) (RL.cons0 r0 (RL.cons0 r1 (RL.cons0 r2 RL.nil0))) laidOut
    (by
      rw [Try.params9]
      intro t ht
      simp at ht
      rcases ht with rfl | rfl
      · exact ⟨readable.1, of_decide_eq_true (by kernel_rfl)⟩
      · exact ⟨readable.2.1, of_decide_eq_true (by kernel_rfl)⟩) hW' rfl rfl (by kernel_rfl) Try.underlying4

theorem fnExactDead_holds : Rows.FnExactDeadSaid :=
  OpenClaim.holds_of_wide 9 Try.f9 rfl rfl rfl rfl rfl rfl rfl ⟨rfl, rfl, rfl, rfl, rfl⟩ rfl rfl rfl rfl rfl (by kernel_rfl) Try.func9 fnExactDead_facts
    (of_decide_eq_true (by kernel_rfl)) (by unfold Func.isWrapper; first | (rw [if_pos (by decide +kernel)]; kernel_rfl) | (rw [if_neg (by decide +kernel)]; exact ⟨rfl, rfl⟩))
    (fun os started H enc _ => fnExactDead_lifted os started H enc)

end Go.Proofs.Ytjldabnbfdgbhaa
