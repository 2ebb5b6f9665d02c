/- For every list of bytes the law FnEndDeeds answers true, and the bytes read as before. -/
import Derived.Test.YtakaenhgbkbegaaGreatAK
import Derived.Test.YtakaenhgbkbegaaGreatAX

set_option linter.unusedSimpArgs false
set_option linter.unusedVariables false

namespace Go.Proofs.YtakaenhgbkbegaaGreat
open Go.ChangeShapes Go.WideShapes Go.ChangeAt Go.RowKit Go.Proofs.Dev
theorem fnEndDeeds_fact0 : (Rows.fnEndDeedsRow.wf (OpenSpec.ofChange Rows.fnEndDeedsSpec)) = true := by kernel_rfl
theorem fnEndDeeds_fact1 : (laidOutB Tryz.prog) = true := by kernel_rfl
theorem fnEndDeeds_fact2 : (mapsRowed Tryz.prog) = true := by kernel_rfl
theorem fnEndDeeds_fact3 : (Tryz.f10.params.all (Tryz.prog.readableRec ·)) = true := by kernel_rfl
theorem fnEndDeeds_fact4 : (namedTie Tryz.prog Rows.fnEndDeedsRow.named Rows.fnEndDeedsSpec.vars) = true := by kernel_rfl
theorem fnEndDeeds_fact5 : ((Rows.fnEndDeedsRow.stops == [])) = true := by kernel_rfl
theorem fnEndDeeds_fact6 : ((Tryz.prog.stops == [])) = true := by kernel_rfl
theorem fnEndDeeds_fact7 : ((Rows.fnEndDeedsRow.knobs == [])) = true := by kernel_rfl
theorem fnEndDeeds_fact8 : ((Tryz.prog.stopKnobs == [])) = true := by kernel_rfl
theorem fnEndDeeds_fact9 : ((Rows.fnEndDeedsRow.inPlace == Tryz.prog.inPlace 10)) = true := by kernel_rfl
theorem fnEndDeeds_fact10 : ((Rows.fnEndDeedsRow.unfollowed == Tryz.prog.unfollowed 10)) = true := by kernel_rfl
theorem fnEndDeeds_fact11 : ((Rows.fnEndDeedsRow.recurses == Tryz.prog.recurses 10)) = true := by kernel_rfl
theorem fnEndDeeds_fact12 : ((Rows.fnEndDeedsRow.named == Tryz.prog.varsNamed 10)) = true := by kernel_rfl
theorem fnEndDeeds_fact13 : ((Rows.fnEndDeedsRow.maps == (Tryz.f10.params.toList ++ Rows.fnEndDeedsSpec.plain.varTypes Tryz.prog).any (Tryz.prog.mapsRec ·))) = true := by kernel_rfl
theorem fnEndDeeds_fact14 : ((Rows.fnEndDeedsRow.ifaces == (Tryz.f10.params.toList ++ Rows.fnEndDeedsSpec.plain.varTypes Tryz.prog).any (Tryz.prog.ifacesRec ·))) = true := by kernel_rfl
theorem fnEndDeeds_fact15 : ((Rows.fnEndDeedsRow.mapsOut == Tryz.prog.mapsAmong Tryz.f10.resultTypes.toList)) = true := by kernel_rfl
theorem fnEndDeeds_fact16 : ((Rows.fnEndDeedsRow.loops == (Tryz.f10.params.toList ++ Rows.fnEndDeedsSpec.plain.varTypes Tryz.prog).any (Tryz.prog.loopsFrom ·))) = true := by kernel_rfl
theorem fnEndDeeds_fact17 : ((Rows.fnEndDeedsRow.wideKeys == (Tryz.f10.params.toList ++ Rows.fnEndDeedsSpec.plain.varTypes Tryz.prog ++ Tryz.f10.resultTypes.toList).any (Tryz.prog.wideKeysFrom ·))) = true := by kernel_rfl
theorem fnEndDeeds_fact18 : (Rows.fnEndDeedsSpec.vars.all (Tryz.prog.varReadable ·)) = true := by kernel_rfl
theorem fnEndDeeds_fact19 : (Tryz.f10.resultTypes.all (fun t => Tryz.prog.readableRec t && decide (t < Tryz.prog.types.size))) = true := by kernel_rfl
theorem fnEndDeeds_fact20 : ((Rows.fnEndDeedsRow.ifacesOut == Tryz.f10.resultTypes.toList.any (Tryz.prog.ifacesRec ·))) = true := by kernel_rfl
theorem fnEndDeeds_fact21 : ((Rows.fnEndDeedsRow.loopsOut == Tryz.f10.resultTypes.toList.any (Tryz.prog.loopsFrom ·))) = true := by kernel_rfl
theorem fnEndDeeds_fact22 : ((Rows.fnEndDeedsRow.plainKeys == Tryz.prog.plainKeys)) = true := by kernel_rfl
theorem fnEndDeeds_fact23 : (Rows.fnEndDeedsRow.shortTexts.isNone) = true := by kernel_rfl
theorem fnEndDeeds_fact24 : (Tryz.prog.stopsHeard) = true := by kernel_rfl
theorem fnEndDeeds_fact25 : (Tryz.prog.mayEnter) = true := fact_mayEnter
theorem fnEndDeeds_fact26 : ((Rows.fnEndDeedsRow.lifted == Tryz.prog.liftsFinal)) = true := by rw [fact_liftsFinal]; rfl
theorem fnEndDeeds_fact27 : ((Tryz.prog.make == some Rows.fnEndDeedsRow.make)) = true := by rw [fact_make]; rfl
theorem fnEndDeeds_fact28 : Rows.fnEndDeedsRow.domain = [] ∧ Rows.fnEndDeedsRow.kinds = [] := ⟨rfl, rfl⟩
theorem fnEndDeeds_fact29 : ((Rows.fnEndDeedsRow.pinned == Rows.fnEndDeedsRow.pinnedBy)) = true := by kernel_rfl
theorem fnEndDeeds_fact30 : ((Rows.fnEndDeedsRow.veiled == (Tryz.f10.params.toList ++ Rows.fnEndDeedsSpec.plain.varTypes Tryz.prog ++ Tryz.f10.resultTypes.toList).any (Tryz.prog.veiledRec ·))) = true := by kernel_rfl
theorem fnEndDeeds_fact31 : (Rows.fnEndDeedsRow.veiledFits Tryz.prog Tryz.f10.params.toList (Tryz.f10.params.toList ++ Rows.fnEndDeedsSpec.plain.varTypes Tryz.prog ++ Tryz.f10.resultTypes.toList)) = true := by kernel_rfl
theorem fnEndDeeds_facts : joinedFacts Tryz.prog 10 Tryz.f10 Rows.fnEndDeedsSpec Rows.fnEndDeedsRow = true :=
  joinedFacts_of fnEndDeeds_fact0 fnEndDeeds_fact1 fnEndDeeds_fact2 fnEndDeeds_fact3 fnEndDeeds_fact4 fnEndDeeds_fact5 fnEndDeeds_fact6 fnEndDeeds_fact7 fnEndDeeds_fact8 fnEndDeeds_fact9 fnEndDeeds_fact10 fnEndDeeds_fact11 fnEndDeeds_fact12 fnEndDeeds_fact13 fnEndDeeds_fact14 fnEndDeeds_fact15 fnEndDeeds_fact16 fnEndDeeds_fact17 fnEndDeeds_fact18 fnEndDeeds_fact19 fnEndDeeds_fact20 fnEndDeeds_fact21 fnEndDeeds_fact22 fnEndDeeds_fact23 fnEndDeeds_fact24 fnEndDeeds_fact25 fnEndDeeds_fact26 fnEndDeeds_fact27 fnEndDeeds_fact28 fnEndDeeds_fact29 fnEndDeeds_fact30 fnEndDeeds_fact31

set_option maxRecDepth 100000 in
theorem fnEndDeeds_lifted (os : Os) (started : os.Started) (H : Type) (enc : TypeId × Value → H) :
    ReturnsInHanded {} Tryz.checked os 10 .any (Rows.fnEndDeedsSpec.pre6 enc Tryz.prog Tryz.f10 Rows.fnEndDeedsRow.domain false) (Rows.fnEndDeedsSpec.post enc Tryz.prog Tryz.f10 false true false false) := by
  refine returnsInHanded_of_change (C := Tryz.checked) own started (by kernel_rfl) Tryz.func10
    (ChangeSpec.witness6 (enc := enc) (C := Tryz.checked) false ⟨#[], #[.slice none 0 0], []⟩ 8 (by kernel_rfl) (by kernel_rfl) (by kernel_rfl) (by kernel_rfl)) ?_
  intro W base args ds gs before hval0 hW hcnd _
  have hval : ∀ (j : Nat) t v, Tryz.f10.params[j]? = some t → args[j]? = some v → Value.okWide Tryz.prog W .any base t v := hval0
  have hW' : DataW.Whole enc Tryz.prog Tryz.f10.params.toList Rows.fnEndDeedsSpec.vars false W args.toList ds gs before := hW
  obtain ⟨p, q, hA0, hV, hpq, hfz, hnd⟩ := hW
  have hA : DataW.TrodAll enc Tryz.prog W 0 (fun _ => true) true Tryz.f10.params.toList args.toList ds p := hA0
  rw [Tryz.params10] at hA hval
  obtain ⟨v0, d0, rfl, rfl, h0⟩ := trodAll_one hA
  obtain ⟨rfl, rfl⟩ := trodVars_none hV
  rw [List.append_nil] at hpq
  subst hpq
  obtain ⟨xs0, hl0, hB0, r0⟩ := read_bytes Tryz.underlying22 Tryz.underlying5 cells5 (hval 0 22 v0 rfl rfl) h0
  exact law_post (tb := 4) (byte_law (l_FnEndDeeds xs0 hB0 )) (RL.cons0 r0 RL.nil0) laidOut
    (by
      rw [Tryz.params10]
      intro t ht
      simp at ht
      subst ht
      exact ⟨readable22, of_decide_eq_true (by kernel_rfl)⟩) hW' rfl rfl (by kernel_rfl) Tryz.underlying4

theorem fnEndDeeds_holds : Rows.FnEndDeedsSaid :=
  OpenClaim.holds_of_wide 10 Tryz.f10 rfl rfl rfl rfl rfl rfl rfl ⟨rfl, rfl, rfl, rfl, rfl⟩ rfl rfl rfl rfl rfl (by kernel_rfl) Tryz.func10 fnEndDeeds_facts
    (of_decide_eq_true (by kernel_rfl)) (by unfold Func.isWrapper; first | (rw [if_pos (by decide +kernel)]; kernel_rfl) | (rw [if_neg (by decide +kernel)]; exact ⟨rfl, rfl⟩))
    (fun os started H enc _ => fnEndDeeds_lifted os started H enc)

end Go.Proofs.YtakaenhgbkbegaaGreat
