/- For every list of bytes the law FnCellsLeft answers true, and the bytes read as before. -/
import Derived.Test.YtakaenhgbkbegaaGreatAJ
import Derived.Test.YtakaenhgbkbegaaGreatAW

set_option linter.unusedSimpArgs false
set_option linter.unusedVariables false

namespace Go.Proofs.YtakaenhgbkbegaaGreat
open Go.ChangeShapes Go.WideShapes Go.ChangeAt Go.RowKit Go.Proofs.Dev
theorem fnCellsLeft_fact0 : (Rows.fnCellsLeftRow.wf (OpenSpec.ofChange Rows.fnCellsLeftSpec)) = true := by kernel_rfl
theorem fnCellsLeft_fact1 : (laidOutB Tryz.prog) = true := by kernel_rfl
theorem fnCellsLeft_fact2 : (mapsRowed Tryz.prog) = true := by kernel_rfl
theorem fnCellsLeft_fact3 : (Tryz.f4.params.all (Tryz.prog.readableRec ·)) = true := by kernel_rfl
theorem fnCellsLeft_fact4 : (namedTie Tryz.prog Rows.fnCellsLeftRow.named Rows.fnCellsLeftSpec.vars) = true := by kernel_rfl
theorem fnCellsLeft_fact5 : ((Rows.fnCellsLeftRow.stops == [])) = true := by kernel_rfl
theorem fnCellsLeft_fact6 : ((Tryz.prog.stops == [])) = true := by kernel_rfl
theorem fnCellsLeft_fact7 : ((Rows.fnCellsLeftRow.knobs == [])) = true := by kernel_rfl
theorem fnCellsLeft_fact8 : ((Tryz.prog.stopKnobs == [])) = true := by kernel_rfl
theorem fnCellsLeft_fact9 : ((Rows.fnCellsLeftRow.inPlace == Tryz.prog.inPlace 4)) = true := by kernel_rfl
theorem fnCellsLeft_fact10 : ((Rows.fnCellsLeftRow.unfollowed == Tryz.prog.unfollowed 4)) = true := by kernel_rfl
theorem fnCellsLeft_fact11 : ((Rows.fnCellsLeftRow.recurses == Tryz.prog.recurses 4)) = true := by kernel_rfl
theorem fnCellsLeft_fact12 : ((Rows.fnCellsLeftRow.named == Tryz.prog.varsNamed 4)) = true := by kernel_rfl
theorem fnCellsLeft_fact13 : ((Rows.fnCellsLeftRow.maps == (Tryz.f4.params.toList ++ Rows.fnCellsLeftSpec.plain.varTypes Tryz.prog).any (Tryz.prog.mapsRec ·))) = true := by kernel_rfl
theorem fnCellsLeft_fact14 : ((Rows.fnCellsLeftRow.ifaces == (Tryz.f4.params.toList ++ Rows.fnCellsLeftSpec.plain.varTypes Tryz.prog).any (Tryz.prog.ifacesRec ·))) = true := by kernel_rfl
theorem fnCellsLeft_fact15 : ((Rows.fnCellsLeftRow.mapsOut == Tryz.prog.mapsAmong Tryz.f4.resultTypes.toList)) = true := by kernel_rfl
theorem fnCellsLeft_fact16 : ((Rows.fnCellsLeftRow.loops == (Tryz.f4.params.toList ++ Rows.fnCellsLeftSpec.plain.varTypes Tryz.prog).any (Tryz.prog.loopsFrom ·))) = true := by kernel_rfl
theorem fnCellsLeft_fact17 : ((Rows.fnCellsLeftRow.wideKeys == (Tryz.f4.params.toList ++ Rows.fnCellsLeftSpec.plain.varTypes Tryz.prog ++ Tryz.f4.resultTypes.toList).any (Tryz.prog.wideKeysFrom ·))) = true := by kernel_rfl
theorem fnCellsLeft_fact18 : (Rows.fnCellsLeftSpec.vars.all (Tryz.prog.varReadable ·)) = true := by kernel_rfl
theorem fnCellsLeft_fact19 : (Tryz.f4.resultTypes.all (fun t => Tryz.prog.readableRec t && decide (t < Tryz.prog.types.size))) = true := by kernel_rfl
theorem fnCellsLeft_fact20 : ((Rows.fnCellsLeftRow.ifacesOut == Tryz.f4.resultTypes.toList.any (Tryz.prog.ifacesRec ·))) = true := by kernel_rfl
theorem fnCellsLeft_fact21 : ((Rows.fnCellsLeftRow.loopsOut == Tryz.f4.resultTypes.toList.any (Tryz.prog.loopsFrom ·))) = true := by kernel_rfl
theorem fnCellsLeft_fact22 : ((Rows.fnCellsLeftRow.plainKeys == Tryz.prog.plainKeys)) = true := by kernel_rfl
theorem fnCellsLeft_fact23 : (Rows.fnCellsLeftRow.shortTexts.isNone) = true := by kernel_rfl
theorem fnCellsLeft_fact24 : (Tryz.prog.stopsHeard) = true := by kernel_rfl
theorem fnCellsLeft_fact25 : (Tryz.prog.mayEnter) = true := fact_mayEnter
theorem fnCellsLeft_fact26 : ((Rows.fnCellsLeftRow.lifted == Tryz.prog.liftsFinal)) = true := by rw [fact_liftsFinal]; rfl
theorem fnCellsLeft_fact27 : ((Tryz.prog.make == some Rows.fnCellsLeftRow.make)) = true := by rw [fact_make]; rfl
theorem fnCellsLeft_fact28 : Rows.fnCellsLeftRow.domain = [] ∧ Rows.fnCellsLeftRow.kinds = [] := ⟨rfl, rfl⟩
theorem fnCellsLeft_fact29 : ((Rows.fnCellsLeftRow.pinned == Rows.fnCellsLeftRow.pinnedBy)) = true := by kernel_rfl
theorem fnCellsLeft_fact30 : ((Rows.fnCellsLeftRow.veiled == (Tryz.f4.params.toList ++ Rows.fnCellsLeftSpec.plain.varTypes Tryz.prog ++ Tryz.f4.resultTypes.toList).any (Tryz.prog.veiledRec ·))) = true := by kernel_rfl
theorem fnCellsLeft_fact31 : (Rows.fnCellsLeftRow.veiledFits Tryz.prog Tryz.f4.params.toList (Tryz.f4.params.toList ++ Rows.fnCellsLeftSpec.plain.varTypes Tryz.prog ++ Tryz.f4.resultTypes.toList)) = true := by kernel_rfl
theorem fnCellsLeft_facts : joinedFacts Tryz.prog 4 Tryz.f4 Rows.fnCellsLeftSpec Rows.fnCellsLeftRow = true :=
  joinedFacts_of fnCellsLeft_fact0 fnCellsLeft_fact1 fnCellsLeft_fact2 fnCellsLeft_fact3 fnCellsLeft_fact4 fnCellsLeft_fact5 fnCellsLeft_fact6 fnCellsLeft_fact7 fnCellsLeft_fact8 fnCellsLeft_fact9 fnCellsLeft_fact10 fnCellsLeft_fact11 fnCellsLeft_fact12 fnCellsLeft_fact13 fnCellsLeft_fact14 fnCellsLeft_fact15 fnCellsLeft_fact16 fnCellsLeft_fact17 fnCellsLeft_fact18 fnCellsLeft_fact19 fnCellsLeft_fact20 fnCellsLeft_fact21 fnCellsLeft_fact22 fnCellsLeft_fact23 fnCellsLeft_fact24 fnCellsLeft_fact25 fnCellsLeft_fact26 fnCellsLeft_fact27 fnCellsLeft_fact28 fnCellsLeft_fact29 fnCellsLeft_fact30 fnCellsLeft_fact31

set_option maxRecDepth 100000 in
theorem fnCellsLeft_lifted (os : Os) (started : os.Started) (H : Type) (enc : TypeId × Value → H) :
    ReturnsInHanded {} Tryz.checked os 4 .any (Rows.fnCellsLeftSpec.pre6 enc Tryz.prog Tryz.f4 Rows.fnCellsLeftRow.domain false) (Rows.fnCellsLeftSpec.post enc Tryz.prog Tryz.f4 false true false false) := by
  refine returnsInHanded_of_change (C := Tryz.checked) own started (by kernel_rfl) Tryz.func4
    (ChangeSpec.witness6 (enc := enc) (C := Tryz.checked) false ⟨#[], #[.slice none 0 0], []⟩ 8 (by kernel_rfl) (by kernel_rfl) (by kernel_rfl) (by kernel_rfl)) ?_
  intro W base args ds gs before hval0 hW hcnd _
  have hval : ∀ (j : Nat) t v, Tryz.f4.params[j]? = some t → args[j]? = some v → Value.okWide Tryz.prog W .any base t v := hval0
  have hW' : DataW.Whole enc Tryz.prog Tryz.f4.params.toList Rows.fnCellsLeftSpec.vars false W args.toList ds gs before := hW
  obtain ⟨p, q, hA0, hV, hpq, hfz, hnd⟩ := hW
  have hA : DataW.TrodAll enc Tryz.prog W 0 (fun _ => true) true Tryz.f4.params.toList args.toList ds p := hA0
  rw [Tryz.params4] at hA hval
  obtain ⟨v0, d0, rfl, rfl, h0⟩ := trodAll_one hA
  obtain ⟨rfl, rfl⟩ := trodVars_none hV
  rw [List.append_nil] at hpq
  subst hpq
  obtain ⟨xs0, hl0, hB0, r0⟩ := read_bytes Tryz.underlying22 Tryz.underlying5 cells5 (hval 0 22 v0 rfl rfl) h0
  exact law_post (tb := 4) (byte_law (l_FnCellsLeft xs0 hB0 )) (RL.cons0 r0 RL.nil0) laidOut
    (by
      rw [Tryz.params4]
      intro t ht
      simp at ht
      subst ht
      exact ⟨readable22, of_decide_eq_true (by kernel_rfl)⟩) hW' rfl rfl (by kernel_rfl) Tryz.underlying4

theorem fnCellsLeft_holds : Rows.FnCellsLeftSaid :=
  OpenClaim.holds_of_wide 4 Tryz.f4 rfl rfl rfl rfl rfl rfl rfl ⟨rfl, rfl, rfl, rfl, rfl⟩ rfl rfl rfl rfl rfl (by kernel_rfl) Tryz.func4 fnCellsLeft_facts
    (of_decide_eq_true (by kernel_rfl)) (by unfold Func.isWrapper; first | (rw [if_pos (by decide +kernel)]; kernel_rfl) | (rw [if_neg (by decide +kernel)]; exact ⟨rfl, rfl⟩))
    (fun os started H enc _ => fnCellsLeft_lifted os started H enc)

end Go.Proofs.YtakaenhgbkbegaaGreat
