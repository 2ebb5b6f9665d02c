/- For every list of bytes the law FnBookRun answers true, and the bytes read as before. -/
import Derived.Test.YtakaenhgbkbegaaGreatAJ
import Derived.Test.YtakaenhgbkbegaaGreatAW

set_option linter.unusedSimpArgs false
set_option linter.unusedVariables false

namespace Go.Proofs.YtakaenhgbkbegaaGreat
open Go.ChangeShapes Go.WideShapes Go.ChangeAt Go.RowKit Go.Proofs.Dev
theorem fnBookRun_fact0 : (Rows.fnBookRunRow.wf (OpenSpec.ofChange Rows.fnBookRunSpec)) = true := by kernel_rfl
theorem fnBookRun_fact1 : (laidOutB Tryz.prog) = true := by kernel_rfl
theorem fnBookRun_fact2 : (mapsRowed Tryz.prog) = true := by kernel_rfl
theorem fnBookRun_fact3 : (Tryz.f9.params.all (Tryz.prog.readableRec ·)) = true := by kernel_rfl
theorem fnBookRun_fact4 : (namedTie Tryz.prog Rows.fnBookRunRow.named Rows.fnBookRunSpec.vars) = true := by kernel_rfl
theorem fnBookRun_fact5 : ((Rows.fnBookRunRow.stops == [])) = true := by kernel_rfl
theorem fnBookRun_fact6 : ((Tryz.prog.stops == [])) = true := by kernel_rfl
theorem fnBookRun_fact7 : ((Rows.fnBookRunRow.knobs == [])) = true := by kernel_rfl
theorem fnBookRun_fact8 : ((Tryz.prog.stopKnobs == [])) = true := by kernel_rfl
theorem fnBookRun_fact9 : ((Rows.fnBookRunRow.inPlace == Tryz.prog.inPlace 9)) = true := by kernel_rfl
theorem fnBookRun_fact10 : ((Rows.fnBookRunRow.unfollowed == Tryz.prog.unfollowed 9)) = true := by kernel_rfl
theorem fnBookRun_fact11 : ((Rows.fnBookRunRow.recurses == Tryz.prog.recurses 9)) = true := by kernel_rfl
theorem fnBookRun_fact12 : ((Rows.fnBookRunRow.named == Tryz.prog.varsNamed 9)) = true := by kernel_rfl
theorem fnBookRun_fact13 : ((Rows.fnBookRunRow.maps == (Tryz.f9.params.toList ++ Rows.fnBookRunSpec.plain.varTypes Tryz.prog).any (Tryz.prog.mapsRec ·))) = true := by kernel_rfl
theorem fnBookRun_fact14 : ((Rows.fnBookRunRow.ifaces == (Tryz.f9.params.toList ++ Rows.fnBookRunSpec.plain.varTypes Tryz.prog).any (Tryz.prog.ifacesRec ·))) = true := by kernel_rfl
theorem fnBookRun_fact15 : ((Rows.fnBookRunRow.mapsOut == Tryz.prog.mapsAmong Tryz.f9.resultTypes.toList)) = true := by kernel_rfl
theorem fnBookRun_fact16 : ((Rows.fnBookRunRow.loops == (Tryz.f9.params.toList ++ Rows.fnBookRunSpec.plain.varTypes Tryz.prog).any (Tryz.prog.loopsFrom ·))) = true := by kernel_rfl
theorem fnBookRun_fact17 : ((Rows.fnBookRunRow.wideKeys == (Tryz.f9.params.toList ++ Rows.fnBookRunSpec.plain.varTypes Tryz.prog ++ Tryz.f9.resultTypes.toList).any (Tryz.prog.wideKeysFrom ·))) = true := by kernel_rfl
theorem fnBookRun_fact18 : (Rows.fnBookRunSpec.vars.all (Tryz.prog.varReadable ·)) = true := by kernel_rfl
theorem fnBookRun_fact19 : (Tryz.f9.resultTypes.all (fun t => Tryz.prog.readableRec t && decide (t < Tryz.prog.types.size))) = true := by kernel_rfl
theorem fnBookRun_fact20 : ((Rows.fnBookRunRow.ifacesOut == Tryz.f9.resultTypes.toList.any (Tryz.prog.ifacesRec ·))) = true := by kernel_rfl
theorem fnBookRun_fact21 : ((Rows.fnBookRunRow.loopsOut == Tryz.f9.resultTypes.toList.any (Tryz.prog.loopsFrom ·))) = true := by kernel_rfl
theorem fnBookRun_fact22 : ((Rows.fnBookRunRow.plainKeys == Tryz.prog.plainKeys)) = true := by kernel_rfl
theorem fnBookRun_fact23 : (Rows.fnBookRunRow.shortTexts.isNone) = true := by kernel_rfl
theorem fnBookRun_fact24 : (Tryz.prog.stopsHeard) = true := by kernel_rfl
theorem fnBookRun_fact25 : (Tryz.prog.mayEnter) = true := fact_mayEnter
theorem fnBookRun_fact26 : ((Rows.fnBookRunRow.lifted == Tryz.prog.liftsFinal)) = true := by rw [fact_liftsFinal]; rfl
theorem fnBookRun_fact27 : ((Tryz.prog.make == some Rows.fnBookRunRow.make)) = true := by rw [fact_make]; rfl
theorem fnBookRun_fact28 : Rows.fnBookRunRow.domain = [] ∧ Rows.fnBookRunRow.kinds = [] := ⟨rfl, rfl⟩
theorem fnBookRun_fact29 : ((Rows.fnBookRunRow.pinned == Rows.fnBookRunRow.pinnedBy)) = true := by kernel_rfl
theorem fnBookRun_fact30 : ((Rows.fnBookRunRow.veiled == (Tryz.f9.params.toList ++ Rows.fnBookRunSpec.plain.varTypes Tryz.prog ++ Tryz.f9.resultTypes.toList).any (Tryz.prog.veiledRec ·))) = true := by kernel_rfl
theorem fnBookRun_fact31 : (Rows.fnBookRunRow.veiledFits Tryz.prog Tryz.f9.params.toList (Tryz.f9.params.toList ++ Rows.fnBookRunSpec.plain.varTypes Tryz.prog ++ Tryz.f9.resultTypes.toList)) = true := by kernel_rfl
theorem fnBookRun_facts : joinedFacts Tryz.prog 9 Tryz.f9 Rows.fnBookRunSpec Rows.fnBookRunRow = true :=
  joinedFacts_of fnBookRun_fact0 fnBookRun_fact1 fnBookRun_fact2 fnBookRun_fact3 fnBookRun_fact4 fnBookRun_fact5 fnBookRun_fact6 fnBookRun_fact7 fnBookRun_fact8 fnBookRun_fact9 fnBookRun_fact10 fnBookRun_fact11 fnBookRun_fact12 fnBookRun_fact13 fnBookRun_fact14 fnBookRun_fact15 fnBookRun_fact16 fnBookRun_fact17 fnBookRun_fact18 fnBookRun_fact19 fnBookRun_fact20 fnBookRun_fact21 fnBookRun_fact22 fnBookRun_fact23 fnBookRun_fact24 fnBookRun_fact25 fnBookRun_fact26 fnBookRun_fact27 fnBookRun_fact28 fnBookRun_fact29 fnBookRun_fact30 fnBookRun_fact31

set_option maxRecDepth 100000 in
theorem fnBookRun_lifted (os : Os) (started : os.Started) (H : Type) (enc : TypeId × Value → H) :
    ReturnsInHanded {} Tryz.checked os 9 .any (Rows.fnBookRunSpec.pre6 enc Tryz.prog Tryz.f9 Rows.fnBookRunRow.domain false) (Rows.fnBookRunSpec.post enc Tryz.prog Tryz.f9 false true false false) := by
  refine returnsInHanded_of_change (C := Tryz.checked) own started (by kernel_rfl) Tryz.func9
    (ChangeSpec.witness6 (enc := enc) (C := Tryz.checked) false ⟨#[], #[.slice none 0 0], []⟩ 8 (by kernel_rfl) (by kernel_rfl) (by kernel_rfl) (by kernel_rfl)) ?_
  intro W base args ds gs before hval0 hW hcnd _
  have hval : ∀ (j : Nat) t v, Tryz.f9.params[j]? = some t → args[j]? = some v → Value.okWide Tryz.prog W .any base t v := hval0
  have hW' : DataW.Whole enc Tryz.prog Tryz.f9.params.toList Rows.fnBookRunSpec.vars false W args.toList ds gs before := hW
  obtain ⟨p, q, hA0, hV, hpq, hfz, hnd⟩ := hW
  have hA : DataW.TrodAll enc Tryz.prog W 0 (fun _ => true) true Tryz.f9.params.toList args.toList ds p := hA0
  rw [Tryz.params9] at hA hval
  obtain ⟨v0, d0, rfl, rfl, h0⟩ := trodAll_one hA
  obtain ⟨rfl, rfl⟩ := trodVars_none hV
  rw [List.append_nil] at hpq
  subst hpq
  obtain ⟨xs0, hl0, hB0, r0⟩ := read_bytes Tryz.underlying22 Tryz.underlying5 cells5 (hval 0 22 v0 rfl rfl) h0
  exact law_post (tb := 4) (byte_law (l_FnBookRun xs0 hB0 )) (RL.cons0 r0 RL.nil0) laidOut
    (by
      rw [Tryz.params9]
      intro t ht
      simp at ht
      subst ht
      exact ⟨readable22, of_decide_eq_true (by kernel_rfl)⟩) hW' rfl rfl (by kernel_rfl) Tryz.underlying4

theorem fnBookRun_holds : Rows.FnBookRunSaid :=
  OpenClaim.holds_of_wide 9 Tryz.f9 rfl rfl rfl rfl rfl rfl rfl ⟨rfl, rfl, rfl, rfl, rfl⟩ rfl rfl rfl rfl rfl (by kernel_rfl) Tryz.func9 fnBookRun_facts
    (of_decide_eq_true (by kernel_rfl)) (by unfold Func.isWrapper; first | (rw [if_pos (by decide +kernel)]; kernel_rfl) | (rw [if_neg (by decide +kernel)]; exact ⟨rfl, rfl⟩))
    (fun os started H enc _ => fnBookRun_lifted os started H enc)

end Go.Proofs.YtakaenhgbkbegaaGreat
