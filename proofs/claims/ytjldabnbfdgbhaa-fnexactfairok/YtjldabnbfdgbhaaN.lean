/- FnExactFairOk: for every region and every two lists of numbers the law answers true, and the arguments read as before; no condition. -/
import Derived.Test.YtjldabnbfdgbhaaJ
import Derived.Test.YtjldabnbfdgbhaaM

set_option linter.unusedSimpArgs false
set_option linter.unusedVariables false

namespace Go.Proofs.Ytjldabnbfdgbhaa
open Go.ChangeShapes Go.WideShapes Go.ChangeAt Go.RowKit Go.Proofs.Dev
theorem fnExactFairOk_fact0 : (Rows.fnExactFairOkRow.wf (OpenSpec.ofChange Rows.fnExactFairOkSpec)) = true := by kernel_rfl
theorem fnExactFairOk_fact1 : (laidOutB Try.prog) = true := by kernel_rfl
theorem fnExactFairOk_fact2 : (mapsRowed Try.prog) = true := by kernel_rfl
theorem fnExactFairOk_fact3 : (Try.f7.params.all (Try.prog.readableRec ·)) = true := by kernel_rfl
theorem fnExactFairOk_fact4 : (namedTie Try.prog Rows.fnExactFairOkRow.named Rows.fnExactFairOkSpec.vars) = true := by kernel_rfl
theorem fnExactFairOk_fact5 : ((Rows.fnExactFairOkRow.stops == [])) = true := by kernel_rfl
theorem fnExactFairOk_fact6 : ((Try.prog.stops == [])) = true := by kernel_rfl
theorem fnExactFairOk_fact7 : ((Rows.fnExactFairOkRow.knobs == [])) = true := by kernel_rfl
theorem fnExactFairOk_fact8 : ((Try.prog.stopKnobs == [])) = true := by kernel_rfl
theorem fnExactFairOk_fact9 : ((Rows.fnExactFairOkRow.inPlace == Try.prog.inPlace 7)) = true := by kernel_rfl
theorem fnExactFairOk_fact10 : ((Rows.fnExactFairOkRow.unfollowed == Try.prog.unfollowed 7)) = true := by kernel_rfl
theorem fnExactFairOk_fact11 : ((Rows.fnExactFairOkRow.recurses == Try.prog.recurses 7)) = true := by kernel_rfl
theorem fnExactFairOk_fact12 : ((Rows.fnExactFairOkRow.named == Try.prog.varsNamed 7)) = true := by kernel_rfl
theorem fnExactFairOk_fact13 : ((Rows.fnExactFairOkRow.maps == (Try.f7.params.toList ++ Rows.fnExactFairOkSpec.plain.varTypes Try.prog).any (Try.prog.mapsRec ·))) = true := by kernel_rfl
theorem fnExactFairOk_fact14 : ((Rows.fnExactFairOkRow.ifaces == (Try.f7.params.toList ++ Rows.fnExactFairOkSpec.plain.varTypes Try.prog).any (Try.prog.ifacesRec ·))) = true := by kernel_rfl
theorem fnExactFairOk_fact15 : ((Rows.fnExactFairOkRow.mapsOut == Try.prog.mapsAmong Try.f7.resultTypes.toList)) = true := by kernel_rfl
theorem fnExactFairOk_fact16 : ((Rows.fnExactFairOkRow.loops == (Try.f7.params.toList ++ Rows.fnExactFairOkSpec.plain.varTypes Try.prog).any (Try.prog.loopsFrom ·))) = true := by kernel_rfl
theorem fnExactFairOk_fact17 : ((Rows.fnExactFairOkRow.wideKeys == (Try.f7.params.toList ++ Rows.fnExactFairOkSpec.plain.varTypes Try.prog ++ Try.f7.resultTypes.toList).any (Try.prog.wideKeysFrom ·))) = true := by kernel_rfl
theorem fnExactFairOk_fact18 : (Rows.fnExactFairOkSpec.vars.all (Try.prog.varReadable ·)) = true := by kernel_rfl
theorem fnExactFairOk_fact19 : (Try.f7.resultTypes.all (fun t => Try.prog.readableRec t && decide (t < Try.prog.types.size))) = true := by kernel_rfl
theorem fnExactFairOk_fact20 : ((Rows.fnExactFairOkRow.ifacesOut == Try.f7.resultTypes.toList.any (Try.prog.ifacesRec ·))) = true := by kernel_rfl
theorem fnExactFairOk_fact21 : ((Rows.fnExactFairOkRow.loopsOut == Try.f7.resultTypes.toList.any (Try.prog.loopsFrom ·))) = true := by kernel_rfl
theorem fnExactFairOk_fact22 : ((Rows.fnExactFairOkRow.plainKeys == Try.prog.plainKeys)) = true := by kernel_rfl
theorem fnExactFairOk_fact23 : (Rows.fnExactFairOkRow.shortTexts.isNone) = true := by kernel_rfl
theorem fnExactFairOk_fact24 : (Try.prog.stopsHeard) = true := by kernel_rfl
theorem fnExactFairOk_fact25 : (Try.prog.mayEnter) = true := fact_mayEnter
theorem fnExactFairOk_fact26 : ((Rows.fnExactFairOkRow.lifted == Try.prog.liftsFinal)) = true := by rw [fact_liftsFinal]; rfl
theorem fnExactFairOk_fact27 : ((Try.prog.make == some Rows.fnExactFairOkRow.make)) = true := by rw [fact_make]; rfl
theorem fnExactFairOk_fact28 : Rows.fnExactFairOkRow.domain = [] ∧ Rows.fnExactFairOkRow.kinds = [] := ⟨rfl, rfl⟩
theorem fnExactFairOk_fact29 : ((Rows.fnExactFairOkRow.pinned == Rows.fnExactFairOkRow.pinnedBy)) = true := by kernel_rfl
theorem fnExactFairOk_fact30 : ((Rows.fnExactFairOkRow.veiled == (Try.f7.params.toList ++ Rows.fnExactFairOkSpec.plain.varTypes Try.prog ++ Try.f7.resultTypes.toList).any (Try.prog.veiledRec ·))) = true := by kernel_rfl
theorem fnExactFairOk_fact31 : (Rows.fnExactFairOkRow.veiledFits Try.prog Try.f7.params.toList (Try.f7.params.toList ++ Rows.fnExactFairOkSpec.plain.varTypes Try.prog ++ Try.f7.resultTypes.toList)) = true := by kernel_rfl
theorem fnExactFairOk_facts : joinedFacts Try.prog 7 Try.f7 Rows.fnExactFairOkSpec Rows.fnExactFairOkRow = true :=
  joinedFacts_of fnExactFairOk_fact0 fnExactFairOk_fact1 fnExactFairOk_fact2 fnExactFairOk_fact3 fnExactFairOk_fact4 fnExactFairOk_fact5 fnExactFairOk_fact6 fnExactFairOk_fact7 fnExactFairOk_fact8 fnExactFairOk_fact9 fnExactFairOk_fact10 fnExactFairOk_fact11 fnExactFairOk_fact12 fnExactFairOk_fact13 fnExactFairOk_fact14 fnExactFairOk_fact15 fnExactFairOk_fact16 fnExactFairOk_fact17 fnExactFairOk_fact18 fnExactFairOk_fact19 fnExactFairOk_fact20 fnExactFairOk_fact21 fnExactFairOk_fact22 fnExactFairOk_fact23 fnExactFairOk_fact24 fnExactFairOk_fact25 fnExactFairOk_fact26 fnExactFairOk_fact27 fnExactFairOk_fact28 fnExactFairOk_fact29 fnExactFairOk_fact30 fnExactFairOk_fact31

set_option maxRecDepth 100000 in
theorem fnExactFairOk_lifted (os : Os) (started : os.Started) (H : Type) (enc : TypeId × Value → H) :
    ReturnsInHanded {} Try.checked os 7 .any (Rows.fnExactFairOkSpec.pre6 enc Try.prog Try.f7 Rows.fnExactFairOkRow.domain false) (Rows.fnExactFairOkSpec.post enc Try.prog Try.f7 false true false false) := by
  refine returnsInHanded_of_change (C := Try.checked) own started (by kernel_rfl) Try.func7
    (ChangeSpec.witness6 (enc := enc) (C := Try.checked) false ⟨#[], #[.agg #[.int .i64 0, .int .i64 0, .slice none 0 0], .slice none 0 0, .slice none 0 0], []⟩ 8 (by kernel_rfl) (by kernel_rfl) (by kernel_rfl) (by kernel_rfl)) ?_
  intro W base args ds gs before hval0 hW hcnd _
  have hval : ∀ (j : Nat) t v, Try.f7.params[j]? = some t → args[j]? = some v → Value.okWide Try.prog W .any base t v := hval0
  have hW' : DataW.Whole enc Try.prog Try.f7.params.toList Rows.fnExactFairOkSpec.vars false W args.toList ds gs before := hW
  obtain ⟨p, q, hA0, hV, hpq, hfz, hnd⟩ := hW
  have hA : DataW.TrodAll enc Try.prog W 0 (fun _ => true) true Try.f7.params.toList args.toList ds p := hA0
  rw [Try.params7] at hA hval
  obtain ⟨v0, v1, v2, d0, d1, d2, p0, p1, p2, rfl, rfl, rfl, h0, h1, h2⟩ := trodAll_three hA
  obtain ⟨rfl, rfl⟩ := trodVars_none hV
  rw [List.append_nil] at hpq
  subst hpq
  obtain ⟨W0, T0, cs0, _, _, hl0, r0⟩ := read_region Try.underlying24 one24 cells24 Try.underlying3 Try.underlying3 Try.underlying22 Try.underlying4 cells4 (hval 0 24 v0 rfl rfl) h0
  obtain ⟨xs1, hl1, _, r1⟩ := read_ints Try.underlying25 Try.underlying3 cells3 (hval 1 25 v1 rfl rfl) h1
  obtain ⟨xs2, hl2, _, r2⟩ := read_ints Try.underlying25 Try.underlying3 cells3 (hval 2 25 v2 rfl rfl) h2
  exact law_post (tb := 4) (s_FnExactFairOk W0 T0 cs0 xs1 xs2 hl0) (RL.cons0 r0 (RL.cons0 r1 (RL.cons0 r2 RL.nil0))) laidOut
    (by
      rw [Try.params7]
      intro t ht
      simp at ht
      rcases ht with rfl | rfl
      · exact ⟨readable.1, of_decide_eq_true (by kernel_rfl)⟩
      · exact ⟨readable.2.1, of_decide_eq_true (by kernel_rfl)⟩) hW' rfl rfl (by kernel_rfl) Try.underlying4

theorem fnExactFairOk_holds : Rows.FnExactFairOkSaid :=
  OpenClaim.holds_of_wide 7 Try.f7 rfl rfl rfl rfl rfl rfl rfl ⟨rfl, rfl, rfl, rfl, rfl⟩ rfl rfl rfl rfl rfl (by kernel_rfl) Try.func7 fnExactFairOk_facts
    (of_decide_eq_true (by kernel_rfl)) (by unfold Func.isWrapper; first | (rw [if_pos (by decide +kernel)]; kernel_rfl) | (rw [if_neg (by decide +kernel)]; exact ⟨rfl, rfl⟩))
    (fun os started H enc _ => fnExactFairOk_lifted os started H enc)

end Go.Proofs.Ytjldabnbfdgbhaa
