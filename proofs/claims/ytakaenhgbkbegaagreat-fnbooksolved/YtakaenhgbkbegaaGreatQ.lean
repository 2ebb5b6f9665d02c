/- For every list of bytes the law FnBookSolved answers true, and the bytes read as before. -/
import Derived.Test.YtakaenhgbkbegaaGreatAJ
import Derived.Test.YtakaenhgbkbegaaGreatAW

set_option linter.unusedSimpArgs false
set_option linter.unusedVariables false

namespace Go.Proofs.YtakaenhgbkbegaaGreat
open Go.ChangeShapes Go.WideShapes Go.ChangeAt Go.RowKit Go.Proofs.Dev
theorem fnBookSolved_fact0 : (Rows.fnBookSolvedRow.wf (OpenSpec.ofChange Rows.fnBookSolvedSpec)) = true := by kernel_rfl
theorem fnBookSolved_fact1 : (laidOutB Tryz.prog) = true := by kernel_rfl
theorem fnBookSolved_fact2 : (mapsRowed Tryz.prog) = true := by kernel_rfl
theorem fnBookSolved_fact3 : (Tryz.f6.params.all (Tryz.prog.readableRec ·)) = true := by kernel_rfl
theorem fnBookSolved_fact4 : (namedTie Tryz.prog Rows.fnBookSolvedRow.named Rows.fnBookSolvedSpec.vars) = true := by kernel_rfl
theorem fnBookSolved_fact5 : ((Rows.fnBookSolvedRow.stops == [])) = true := by kernel_rfl
theorem fnBookSolved_fact6 : ((Tryz.prog.stops == [])) = true := by kernel_rfl
theorem fnBookSolved_fact7 : ((Rows.fnBookSolvedRow.knobs == [])) = true := by kernel_rfl
theorem fnBookSolved_fact8 : ((Tryz.prog.stopKnobs == [])) = true := by kernel_rfl
theorem fnBookSolved_fact9 : ((Rows.fnBookSolvedRow.inPlace == Tryz.prog.inPlace 6)) = true := by kernel_rfl
theorem fnBookSolved_fact10 : ((Rows.fnBookSolvedRow.unfollowed == Tryz.prog.unfollowed 6)) = true := by kernel_rfl
theorem fnBookSolved_fact11 : ((Rows.fnBookSolvedRow.recurses == Tryz.prog.recurses 6)) = true := by kernel_rfl
theorem fnBookSolved_fact12 : ((Rows.fnBookSolvedRow.named == Tryz.prog.varsNamed 6)) = true := by kernel_rfl
theorem fnBookSolved_fact13 : ((Rows.fnBookSolvedRow.maps == (Tryz.f6.params.toList ++ Rows.fnBookSolvedSpec.plain.varTypes Tryz.prog).any (Tryz.prog.mapsRec ·))) = true := by kernel_rfl
theorem fnBookSolved_fact14 : ((Rows.fnBookSolvedRow.ifaces == (Tryz.f6.params.toList ++ Rows.fnBookSolvedSpec.plain.varTypes Tryz.prog).any (Tryz.prog.ifacesRec ·))) = true := by kernel_rfl
theorem fnBookSolved_fact15 : ((Rows.fnBookSolvedRow.mapsOut == Tryz.prog.mapsAmong Tryz.f6.resultTypes.toList)) = true := by kernel_rfl
theorem fnBookSolved_fact16 : ((Rows.fnBookSolvedRow.loops == (Tryz.f6.params.toList ++ Rows.fnBookSolvedSpec.plain.varTypes Tryz.prog).any (Tryz.prog.loopsFrom ·))) = true := by kernel_rfl
theorem fnBookSolved_fact17 : ((Rows.fnBookSolvedRow.wideKeys == (Tryz.f6.params.toList ++ Rows.fnBookSolvedSpec.plain.varTypes Tryz.prog ++ Tryz.f6.resultTypes.toList).any (Tryz.prog.wideKeysFrom ·))) = true := by kernel_rfl
theorem fnBookSolved_fact18 : (Rows.fnBookSolvedSpec.vars.all (Tryz.prog.varReadable ·)) = true := by kernel_rfl
theorem fnBookSolved_fact19 : (Tryz.f6.resultTypes.all (fun t => Tryz.prog.readableRec t && decide (t < Tryz.prog.types.size))) = true := by kernel_rfl
theorem fnBookSolved_fact20 : ((Rows.fnBookSolvedRow.ifacesOut == Tryz.f6.resultTypes.toList.any (Tryz.prog.ifacesRec ·))) = true := by kernel_rfl
theorem fnBookSolved_fact21 : ((Rows.fnBookSolvedRow.loopsOut == Tryz.f6.resultTypes.toList.any (Tryz.prog.loopsFrom ·))) = true := by kernel_rfl
theorem fnBookSolved_fact22 : ((Rows.fnBookSolvedRow.plainKeys == Tryz.prog.plainKeys)) = true := by kernel_rfl
theorem fnBookSolved_fact23 : (Rows.fnBookSolvedRow.shortTexts.isNone) = true := by kernel_rfl
theorem fnBookSolved_fact24 : (Tryz.prog.stopsHeard) = true := by kernel_rfl
theorem fnBookSolved_fact25 : (Tryz.prog.mayEnter) = true := fact_mayEnter
theorem fnBookSolved_fact26 : ((Rows.fnBookSolvedRow.lifted == Tryz.prog.liftsFinal)) = true := by rw [fact_liftsFinal]; rfl
theorem fnBookSolved_fact27 : ((Tryz.prog.make == some Rows.fnBookSolvedRow.make)) = true := by rw [fact_make]; rfl
theorem fnBookSolved_fact28 : Rows.fnBookSolvedRow.domain = [] ∧ Rows.fnBookSolvedRow.kinds = [] := ⟨rfl, rfl⟩
theorem fnBookSolved_fact29 : ((Rows.fnBookSolvedRow.pinned == Rows.fnBookSolvedRow.pinnedBy)) = true := by kernel_rfl
theorem fnBookSolved_fact30 : ((Rows.fnBookSolvedRow.veiled == (Tryz.f6.params.toList ++ Rows.fnBookSolvedSpec.plain.varTypes Tryz.prog ++ Tryz.f6.resultTypes.toList).any (Tryz.prog.veiledRec ·))) = true := by kernel_rfl
theorem fnBookSolved_fact31 : (Rows.fnBookSolvedRow.veiledFits Tryz.prog Tryz.f6.params.toList (Tryz.f6.params.toList ++ Rows.fnBookSolvedSpec.plain.varTypes Tryz.prog ++ Tryz.f6.resultTypes.toList)) = true := by kernel_rfl
theorem fnBookSolved_facts : joinedFacts Tryz.prog 6 Tryz.f6 Rows.fnBookSolvedSpec Rows.fnBookSolvedRow = true :=
  joinedFacts_of fnBookSolved_fact0 fnBookSolved_fact1 fnBookSolved_fact2 fnBookSolved_fact3 fnBookSolved_fact4 fnBookSolved_fact5 fnBookSolved_fact6 fnBookSolved_fact7 fnBookSolved_fact8 fnBookSolved_fact9 fnBookSolved_fact10 fnBookSolved_fact11 fnBookSolved_fact12 fnBookSolved_fact13 fnBookSolved_fact14 fnBookSolved_fact15 fnBookSolved_fact16 fnBookSolved_fact17 fnBookSolved_fact18 fnBookSolved_fact19 fnBookSolved_fact20 fnBookSolved_fact21 fnBookSolved_fact22 fnBookSolved_fact23 fnBookSolved_fact24 fnBookSolved_fact25 fnBookSolved_fact26 fnBookSolved_fact27 fnBookSolved_fact28 fnBookSolved_fact29 fnBookSolved_fact30 fnBookSolved_fact31

set_option maxRecDepth 100000 in
theorem fnBookSolved_lifted (os : Os) (started : os.Started) (H : Type) (enc : TypeId × Value → H) :
    ReturnsInHanded {} Tryz.checked os 6 .any (Rows.fnBookSolvedSpec.pre6 enc Tryz.prog Tryz.f6 Rows.fnBookSolvedRow.domain false) (Rows.fnBookSolvedSpec.post enc Tryz.prog Tryz.f6 false true false false) := by
  refine returnsInHanded_of_change (C := Tryz.checked) own started (by kernel_rfl) Tryz.func6
    (ChangeSpec.witness6 (enc := enc) (C := Tryz.checked) false ⟨#[], #[.slice none 0 0], []⟩ 8 (by kernel_rfl) (by kernel_rfl) (by kernel_rfl) (by kernel_rfl)) ?_
  intro W base args ds gs before hval0 hW hcnd _
  have hval : ∀ (j : Nat) t v, Tryz.f6.params[j]? = some t → args[j]? = some v → Value.okWide Tryz.prog W .any base t v := hval0
  have hW' : DataW.Whole enc Tryz.prog Tryz.f6.params.toList Rows.fnBookSolvedSpec.vars false W args.toList ds gs before := hW
  obtain ⟨p, q, hA0, hV, hpq, hfz, hnd⟩ := hW
  have hA : DataW.TrodAll enc Tryz.prog W 0 (fun _ => true) true Tryz.f6.params.toList args.toList ds p := hA0
  rw [Tryz.params6] at hA hval
  obtain ⟨v0, d0, rfl, rfl, h0⟩ := trodAll_one hA
  obtain ⟨rfl, rfl⟩ := trodVars_none hV
  rw [List.append_nil] at hpq
  subst hpq
  obtain ⟨xs0, hl0, hB0, r0⟩ := read_bytes Tryz.underlying22 Tryz.underlying5 cells5 (hval 0 22 v0 rfl rfl) h0
  exact law_post (tb := 4) (byte_law (l_FnBookSolved xs0 hB0 )) (RL.cons0 r0 RL.nil0) laidOut
    (by
      rw [Tryz.params6]
      intro t ht
      simp at ht
      subst ht
      exact ⟨readable22, of_decide_eq_true (by kernel_rfl)⟩) hW' rfl rfl (by kernel_rfl) Tryz.underlying4

theorem fnBookSolved_holds : Rows.FnBookSolvedSaid :=
  OpenClaim.holds_of_wide 6 Tryz.f6 rfl rfl rfl rfl rfl rfl rfl ⟨rfl, rfl, rfl, rfl, rfl⟩ rfl rfl rfl rfl rfl (by kernel_rfl) Tryz.func6 fnBookSolved_facts
    (of_decide_eq_true (by kernel_rfl)) (by unfold Func.isWrapper; first | (rw [if_pos (by decide +kernel)]; kernel_rfl) | (rw [if_neg (by decide +kernel)]; exact ⟨rfl, rfl⟩))
    (fun os started H enc _ => fnBookSolved_lifted os started H enc)

end Go.Proofs.YtakaenhgbkbegaaGreat
