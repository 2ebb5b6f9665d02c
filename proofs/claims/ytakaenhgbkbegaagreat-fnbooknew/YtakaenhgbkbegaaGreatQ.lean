/- For every list of bytes the law FnBookNew answers true, and the bytes read as before. -/
import Derived.Test.YtakaenhgbkbegaaGreatAJ
import Derived.Test.YtakaenhgbkbegaaGreatAX

set_option linter.unusedSimpArgs false
set_option linter.unusedVariables false

namespace Go.Proofs.YtakaenhgbkbegaaGreat
open Go.ChangeShapes Go.WideShapes Go.ChangeAt Go.RowKit Go.Proofs.Dev
theorem fnBookNew_fact0 : (Rows.fnBookNewRow.wf (OpenSpec.ofChange Rows.fnBookNewSpec)) = true := by kernel_rfl
theorem fnBookNew_fact1 : (laidOutB Tryz.prog) = true := by kernel_rfl
theorem fnBookNew_fact2 : (mapsRowed Tryz.prog) = true := by kernel_rfl
theorem fnBookNew_fact3 : (Tryz.f3.params.all (Tryz.prog.readableRec ·)) = true := by kernel_rfl
theorem fnBookNew_fact4 : (namedTie Tryz.prog Rows.fnBookNewRow.named Rows.fnBookNewSpec.vars) = true := by kernel_rfl
theorem fnBookNew_fact5 : ((Rows.fnBookNewRow.stops == [])) = true := by kernel_rfl
theorem fnBookNew_fact6 : ((Tryz.prog.stops == [])) = true := by kernel_rfl
theorem fnBookNew_fact7 : ((Rows.fnBookNewRow.knobs == [])) = true := by kernel_rfl
theorem fnBookNew_fact8 : ((Tryz.prog.stopKnobs == [])) = true := by kernel_rfl
theorem fnBookNew_fact9 : ((Rows.fnBookNewRow.inPlace == Tryz.prog.inPlace 3)) = true := by kernel_rfl
theorem fnBookNew_fact10 : ((Rows.fnBookNewRow.unfollowed == Tryz.prog.unfollowed 3)) = true := by kernel_rfl
theorem fnBookNew_fact11 : ((Rows.fnBookNewRow.recurses == Tryz.prog.recurses 3)) = true := by kernel_rfl
theorem fnBookNew_fact12 : ((Rows.fnBookNewRow.named == Tryz.prog.varsNamed 3)) = true := by kernel_rfl
theorem fnBookNew_fact13 : ((Rows.fnBookNewRow.maps == (Tryz.f3.params.toList ++ Rows.fnBookNewSpec.plain.varTypes Tryz.prog).any (Tryz.prog.mapsRec ·))) = true := by kernel_rfl
theorem fnBookNew_fact14 : ((Rows.fnBookNewRow.ifaces == (Tryz.f3.params.toList ++ Rows.fnBookNewSpec.plain.varTypes Tryz.prog).any (Tryz.prog.ifacesRec ·))) = true := by kernel_rfl
theorem fnBookNew_fact15 : ((Rows.fnBookNewRow.mapsOut == Tryz.prog.mapsAmong Tryz.f3.resultTypes.toList)) = true := by kernel_rfl
theorem fnBookNew_fact16 : ((Rows.fnBookNewRow.loops == (Tryz.f3.params.toList ++ Rows.fnBookNewSpec.plain.varTypes Tryz.prog).any (Tryz.prog.loopsFrom ·))) = true := by kernel_rfl
theorem fnBookNew_fact17 : ((Rows.fnBookNewRow.wideKeys == (Tryz.f3.params.toList ++ Rows.fnBookNewSpec.plain.varTypes Tryz.prog ++ Tryz.f3.resultTypes.toList).any (Tryz.prog.wideKeysFrom ·))) = true := by kernel_rfl
theorem fnBookNew_fact18 : (Rows.fnBookNewSpec.vars.all (Tryz.prog.varReadable ·)) = true := by kernel_rfl
theorem fnBookNew_fact19 : (Tryz.f3.resultTypes.all (fun t => Tryz.prog.readableRec t && decide (t < Tryz.prog.types.size))) = true := by kernel_rfl
theorem fnBookNew_fact20 : ((Rows.fnBookNewRow.ifacesOut == Tryz.f3.resultTypes.toList.any (Tryz.prog.ifacesRec ·))) = true := by kernel_rfl
theorem fnBookNew_fact21 : ((Rows.fnBookNewRow.loopsOut == Tryz.f3.resultTypes.toList.any (Tryz.prog.loopsFrom ·))) = true := by kernel_rfl
theorem fnBookNew_fact22 : ((Rows.fnBookNewRow.plainKeys == Tryz.prog.plainKeys)) = true := by kernel_rfl
theorem fnBookNew_fact23 : (Rows.fnBookNewRow.shortTexts.isNone) = true := by kernel_rfl
theorem fnBookNew_fact24 : (Tryz.prog.stopsHeard) = true := by kernel_rfl
theorem fnBookNew_fact25 : (Tryz.prog.mayEnter) = true := fact_mayEnter
theorem fnBookNew_fact26 : ((Rows.fnBookNewRow.lifted == Tryz.prog.liftsFinal)) = true := by rw [fact_liftsFinal]; rfl
theorem fnBookNew_fact27 : ((Tryz.prog.make == some Rows.fnBookNewRow.make)) = true := by rw [fact_make]; rfl
theorem fnBookNew_fact28 : Rows.fnBookNewRow.domain = [] ∧ Rows.fnBookNewRow.kinds = [] := ⟨rfl, rfl⟩
theorem fnBookNew_fact29 : ((Rows.fnBookNewRow.pinned == Rows.fnBookNewRow.pinnedBy)) = true := by kernel_rfl
theorem fnBookNew_fact30 : ((Rows.fnBookNewRow.veiled == (Tryz.f3.params.toList ++ Rows.fnBookNewSpec.plain.varTypes Tryz.prog ++ Tryz.f3.resultTypes.toList).any (Tryz.prog.veiledRec ·))) = true := by kernel_rfl
theorem fnBookNew_fact31 : (Rows.fnBookNewRow.veiledFits Tryz.prog Tryz.f3.params.toList (Tryz.f3.params.toList ++ Rows.fnBookNewSpec.plain.varTypes Tryz.prog ++ Tryz.f3.resultTypes.toList)) = true := by kernel_rfl
theorem fnBookNew_facts : joinedFacts Tryz.prog 3 Tryz.f3 Rows.fnBookNewSpec Rows.fnBookNewRow = true :=
  joinedFacts_of fnBookNew_fact0 fnBookNew_fact1 fnBookNew_fact2 fnBookNew_fact3 fnBookNew_fact4 fnBookNew_fact5 fnBookNew_fact6 fnBookNew_fact7 fnBookNew_fact8 fnBookNew_fact9 fnBookNew_fact10 fnBookNew_fact11 fnBookNew_fact12 fnBookNew_fact13 fnBookNew_fact14 fnBookNew_fact15 fnBookNew_fact16 fnBookNew_fact17 fnBookNew_fact18 fnBookNew_fact19 fnBookNew_fact20 fnBookNew_fact21 fnBookNew_fact22 fnBookNew_fact23 fnBookNew_fact24 fnBookNew_fact25 fnBookNew_fact26 fnBookNew_fact27 fnBookNew_fact28 fnBookNew_fact29 fnBookNew_fact30 fnBookNew_fact31

set_option maxRecDepth 100000 in
theorem fnBookNew_lifted (os : Os) (started : os.Started) (H : Type) (enc : TypeId × Value → H) :
    ReturnsInHanded {} Tryz.checked os 3 .any (Rows.fnBookNewSpec.pre6 enc Tryz.prog Tryz.f3 Rows.fnBookNewRow.domain false) (Rows.fnBookNewSpec.post enc Tryz.prog Tryz.f3 false true false false) := by
  refine returnsInHanded_of_change (C := Tryz.checked) own started (by kernel_rfl) Tryz.func3
    (ChangeSpec.witness6 (enc := enc) (C := Tryz.checked) false ⟨#[], #[.slice none 0 0], []⟩ 8 (by kernel_rfl) (by kernel_rfl) (by kernel_rfl) (by kernel_rfl)) ?_
  intro W base args ds gs before hval0 hW hcnd _
  have hval : ∀ (j : Nat) t v, Tryz.f3.params[j]? = some t → args[j]? = some v → Value.okWide Tryz.prog W .any base t v := hval0
  have hW' : DataW.Whole enc Tryz.prog Tryz.f3.params.toList Rows.fnBookNewSpec.vars false W args.toList ds gs before := hW
  obtain ⟨p, q, hA0, hV, hpq, hfz, hnd⟩ := hW
  have hA : DataW.TrodAll enc Tryz.prog W 0 (fun _ => true) true Tryz.f3.params.toList args.toList ds p := hA0
  rw [Tryz.params3] at hA hval
  obtain ⟨v0, d0, rfl, rfl, h0⟩ := trodAll_one hA
  obtain ⟨rfl, rfl⟩ := trodVars_none hV
  rw [List.append_nil] at hpq
  subst hpq
  obtain ⟨xs0, hl0, hB0, r0⟩ := read_bytes Tryz.underlying22 Tryz.underlying5 cells5 (hval 0 22 v0 rfl rfl) h0
  exact law_post (tb := 4) (byte_law (l_FnBookNew xs0 hB0 )) (RL.cons0 r0 RL.nil0) laidOut
    (by
      rw [Tryz.params3]
      intro t ht
      simp at ht
      subst ht
      exact ⟨readable22, of_decide_eq_true (by kernel_rfl)⟩) hW' rfl rfl (by kernel_rfl) Tryz.underlying4

theorem fnBookNew_holds : Rows.FnBookNewSaid :=
  OpenClaim.holds_of_wide 3 Tryz.f3 rfl rfl rfl rfl rfl rfl rfl ⟨rfl, rfl, rfl, rfl, rfl⟩ rfl rfl rfl rfl rfl (by kernel_rfl) Tryz.func3 fnBookNew_facts
    (of_decide_eq_true (by kernel_rfl)) (by unfold Func.isWrapper; first | (rw [if_pos (by decide +kernel)]; kernel_rfl) | (rw [if_neg (by decide +kernel)]; exact ⟨rfl, rfl⟩))
    (fun os started H enc _ => fnBookNew_lifted os started H enc)

end Go.Proofs.YtakaenhgbkbegaaGreat
