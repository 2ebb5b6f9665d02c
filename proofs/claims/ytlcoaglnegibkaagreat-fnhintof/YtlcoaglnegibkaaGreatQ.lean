/- For every list of bytes the law FnHintOf answers true, and the bytes read as before. -/
import Derived.Test.YtlcoaglnegibkaaGreatJB
import Derived.Test.YtlcoaglnegibkaaGreatBN

set_option linter.unusedSimpArgs false
set_option linter.unusedVariables false

namespace Go.Proofs.YtlcoaglnegibkaaGreat
open Go.ChangeShapes Go.WideShapes Go.ChangeAt Go.RowKit Go.Proofs.Dev
theorem fnHintOf_fact0 : (Rows.fnHintOfRow.wf (OpenSpec.ofChange Rows.fnHintOfSpec)) = true := by kernel_rfl
theorem fnHintOf_fact1 : (laidOutB Tryz.prog) = true := by kernel_rfl
theorem fnHintOf_fact2 : (mapsRowed Tryz.prog) = true := by kernel_rfl
theorem fnHintOf_fact3 : (Tryz.f5.params.all (Tryz.prog.readableRec ·)) = true := by kernel_rfl
theorem fnHintOf_fact4 : (namedTie Tryz.prog Rows.fnHintOfRow.named Rows.fnHintOfSpec.vars) = true := by kernel_rfl
theorem fnHintOf_fact5 : ((Rows.fnHintOfRow.stops == [])) = true := by kernel_rfl
theorem fnHintOf_fact6 : ((Tryz.prog.stops == [])) = true := by kernel_rfl
theorem fnHintOf_fact7 : ((Rows.fnHintOfRow.knobs == [])) = true := by kernel_rfl
theorem fnHintOf_fact8 : ((Tryz.prog.stopKnobs == [])) = true := by kernel_rfl
theorem fnHintOf_fact9 : ((Rows.fnHintOfRow.inPlace == Tryz.prog.inPlace 5)) = true := by kernel_rfl
theorem fnHintOf_fact10 : ((Rows.fnHintOfRow.unfollowed == Tryz.prog.unfollowed 5)) = true := by kernel_rfl
theorem fnHintOf_fact11 : ((Rows.fnHintOfRow.recurses == Tryz.prog.recurses 5)) = true := by kernel_rfl
theorem fnHintOf_fact12 : ((Rows.fnHintOfRow.named == Tryz.prog.varsNamed 5)) = true := by kernel_rfl
theorem fnHintOf_fact13 : ((Rows.fnHintOfRow.maps == (Tryz.f5.params.toList ++ Rows.fnHintOfSpec.plain.varTypes Tryz.prog).any (Tryz.prog.mapsRec ·))) = true := by kernel_rfl
theorem fnHintOf_fact14 : ((Rows.fnHintOfRow.ifaces == (Tryz.f5.params.toList ++ Rows.fnHintOfSpec.plain.varTypes Tryz.prog).any (Tryz.prog.ifacesRec ·))) = true := by kernel_rfl
theorem fnHintOf_fact15 : ((Rows.fnHintOfRow.mapsOut == Tryz.prog.mapsAmong Tryz.f5.resultTypes.toList)) = true := by kernel_rfl
theorem fnHintOf_fact16 : ((Rows.fnHintOfRow.loops == (Tryz.f5.params.toList ++ Rows.fnHintOfSpec.plain.varTypes Tryz.prog).any (Tryz.prog.loopsFrom ·))) = true := by kernel_rfl
theorem fnHintOf_fact17 : ((Rows.fnHintOfRow.wideKeys == (Tryz.f5.params.toList ++ Rows.fnHintOfSpec.plain.varTypes Tryz.prog ++ Tryz.f5.resultTypes.toList).any (Tryz.prog.wideKeysFrom ·))) = true := by kernel_rfl
theorem fnHintOf_fact18 : (Rows.fnHintOfSpec.vars.all (Tryz.prog.varReadable ·)) = true := by kernel_rfl
theorem fnHintOf_fact19 : (Tryz.f5.resultTypes.all (fun t => Tryz.prog.readableRec t && decide (t < Tryz.prog.types.size))) = true := by kernel_rfl
theorem fnHintOf_fact20 : ((Rows.fnHintOfRow.ifacesOut == Tryz.f5.resultTypes.toList.any (Tryz.prog.ifacesRec ·))) = true := by kernel_rfl
theorem fnHintOf_fact21 : ((Rows.fnHintOfRow.loopsOut == Tryz.f5.resultTypes.toList.any (Tryz.prog.loopsFrom ·))) = true := by kernel_rfl
theorem fnHintOf_fact22 : ((Rows.fnHintOfRow.plainKeys == Tryz.prog.plainKeys)) = true := by kernel_rfl
theorem fnHintOf_fact23 : (Rows.fnHintOfRow.shortTexts.isNone) = true := by kernel_rfl
theorem fnHintOf_fact24 : (Tryz.prog.stopsHeard) = true := by kernel_rfl
theorem fnHintOf_fact25 : (Tryz.prog.mayEnter) = true := fact_mayEnter
theorem fnHintOf_fact26 : ((Rows.fnHintOfRow.lifted == Tryz.prog.liftsFinal)) = true := by rw [fact_liftsFinal]; rfl
theorem fnHintOf_fact27 : ((Tryz.prog.make == some Rows.fnHintOfRow.make)) = true := by rw [fact_make]; rfl
theorem fnHintOf_fact28 : Rows.fnHintOfRow.domain = [] ∧ Rows.fnHintOfRow.kinds = [] := ⟨rfl, rfl⟩
theorem fnHintOf_fact29 : ((Rows.fnHintOfRow.pinned == Rows.fnHintOfRow.pinnedBy)) = true := by kernel_rfl
theorem fnHintOf_fact30 : ((Rows.fnHintOfRow.veiled == (Tryz.f5.params.toList ++ Rows.fnHintOfSpec.plain.varTypes Tryz.prog ++ Tryz.f5.resultTypes.toList).any (Tryz.prog.veiledRec ·))) = true := by kernel_rfl
theorem fnHintOf_fact31 : (Rows.fnHintOfRow.veiledFits Tryz.prog Tryz.f5.params.toList (Tryz.f5.params.toList ++ Rows.fnHintOfSpec.plain.varTypes Tryz.prog ++ Tryz.f5.resultTypes.toList)) = true := by kernel_rfl
theorem fnHintOf_facts : joinedFacts Tryz.prog 5 Tryz.f5 Rows.fnHintOfSpec Rows.fnHintOfRow = true :=
  joinedFacts_of fnHintOf_fact0 fnHintOf_fact1 fnHintOf_fact2 fnHintOf_fact3 fnHintOf_fact4 fnHintOf_fact5 fnHintOf_fact6 fnHintOf_fact7 fnHintOf_fact8 fnHintOf_fact9 fnHintOf_fact10 fnHintOf_fact11 fnHintOf_fact12 fnHintOf_fact13 fnHintOf_fact14 fnHintOf_fact15 fnHintOf_fact16 fnHintOf_fact17 fnHintOf_fact18 fnHintOf_fact19 fnHintOf_fact20 fnHintOf_fact21 fnHintOf_fact22 fnHintOf_fact23 fnHintOf_fact24 fnHintOf_fact25 fnHintOf_fact26 fnHintOf_fact27 fnHintOf_fact28 fnHintOf_fact29 fnHintOf_fact30 fnHintOf_fact31

set_option maxRecDepth 100000 in
theorem fnHintOf_lifted (os : Os) (started : os.Started) (H : Type) (enc : TypeId × Value → H) :
    ReturnsInHanded {} Tryz.checked os 5 .any (Rows.fnHintOfSpec.pre6 enc Tryz.prog Tryz.f5 Rows.fnHintOfRow.domain false) (Rows.fnHintOfSpec.post enc Tryz.prog Tryz.f5 false true false false) := by
  refine returnsInHanded_of_change (C := Tryz.checked) own started (by kernel_rfl) Tryz.func5
    (ChangeSpec.witness6 (enc := enc) (C := Tryz.checked) false ⟨#[], #[.slice none 0 0], []⟩ 8 (by kernel_rfl) (by kernel_rfl) (by kernel_rfl) (by kernel_rfl)) ?_
  intro W base args ds gs before hval0 hW hcnd _
  have hval : ∀ (j : Nat) t v, Tryz.f5.params[j]? = some t → args[j]? = some v → Value.okWide Tryz.prog W .any base t v := hval0
  have hW' : DataW.Whole enc Tryz.prog Tryz.f5.params.toList Rows.fnHintOfSpec.vars false W args.toList ds gs before := hW
  obtain ⟨p, q, hA0, hV, hpq, hfz, hnd⟩ := hW
  have hA : DataW.TrodAll enc Tryz.prog W 0 (fun _ => true) true Tryz.f5.params.toList args.toList ds p := hA0
  rw [Tryz.params5] at hA hval
  obtain ⟨v0, d0, rfl, rfl, h0⟩ := trodAll_one hA
  obtain ⟨rfl, rfl⟩ := trodVars_none hV
  rw [List.append_nil] at hpq
  subst hpq
  obtain ⟨xs0, hl0, hB0, r0⟩ := read_bytes Tryz.underlying22 Tryz.underlying5 cells5 (hval 0 22 v0 rfl rfl) h0
  exact law_post (tb := 4) (byte_law (l_FnHintOf xs0 hB0 )) (RL.cons0 r0 RL.nil0) laidOut
    (by
      rw [Tryz.params5]
      intro t ht
      simp at ht
      subst ht
      exact ⟨readable22, of_decide_eq_true (by kernel_rfl)⟩) hW' rfl rfl (by kernel_rfl) Tryz.underlying4

theorem fnHintOf_holds : Rows.FnHintOfSaid :=
  OpenClaim.holds_of_wide 5 Tryz.f5 rfl rfl rfl rfl rfl rfl rfl ⟨rfl, rfl, rfl, rfl, rfl⟩ rfl rfl rfl rfl rfl (by kernel_rfl) Tryz.func5 fnHintOf_facts
    (of_decide_eq_true (by kernel_rfl)) (by unfold Func.isWrapper; first | (rw [if_pos (by decide +kernel)]; kernel_rfl) | (rw [if_neg (by decide +kernel)]; exact ⟨rfl, rfl⟩))
    (fun os started H enc _ => fnHintOf_lifted os started H enc)

end Go.Proofs.YtlcoaglnegibkaaGreat
