/- For every list of bytes the law FnForceOne answers true, and the bytes read as before. -/
import Derived.Test.YtlcoaglnegibkaaGreatJB
import Derived.Test.YtlcoaglnegibkaaGreatBL

set_option linter.unusedSimpArgs false
set_option linter.unusedVariables false

namespace Go.Proofs.YtlcoaglnegibkaaGreat
open Go.ChangeShapes Go.WideShapes Go.ChangeAt Go.RowKit Go.Proofs.Dev
theorem fnForceOne_fact0 : (Rows.fnForceOneRow.wf (OpenSpec.ofChange Rows.fnForceOneSpec)) = true := by kernel_rfl
theorem fnForceOne_fact1 : (laidOutB Tryz.prog) = true := by kernel_rfl
theorem fnForceOne_fact2 : (mapsRowed Tryz.prog) = true := by kernel_rfl
theorem fnForceOne_fact3 : (Tryz.f3.params.all (Tryz.prog.readableRec ·)) = true := by kernel_rfl
theorem fnForceOne_fact4 : (namedTie Tryz.prog Rows.fnForceOneRow.named Rows.fnForceOneSpec.vars) = true := by kernel_rfl
theorem fnForceOne_fact5 : ((Rows.fnForceOneRow.stops == [])) = true := by kernel_rfl
theorem fnForceOne_fact6 : ((Tryz.prog.stops == [])) = true := by kernel_rfl
theorem fnForceOne_fact7 : ((Rows.fnForceOneRow.knobs == [])) = true := by kernel_rfl
theorem fnForceOne_fact8 : ((Tryz.prog.stopKnobs == [])) = true := by kernel_rfl
theorem fnForceOne_fact9 : ((Rows.fnForceOneRow.inPlace == Tryz.prog.inPlace 3)) = true := by kernel_rfl
theorem fnForceOne_fact10 : ((Rows.fnForceOneRow.unfollowed == Tryz.prog.unfollowed 3)) = true := by kernel_rfl
theorem fnForceOne_fact11 : ((Rows.fnForceOneRow.recurses == Tryz.prog.recurses 3)) = true := by kernel_rfl
theorem fnForceOne_fact12 : ((Rows.fnForceOneRow.named == Tryz.prog.varsNamed 3)) = true := by kernel_rfl
theorem fnForceOne_fact13 : ((Rows.fnForceOneRow.maps == (Tryz.f3.params.toList ++ Rows.fnForceOneSpec.plain.varTypes Tryz.prog).any (Tryz.prog.mapsRec ·))) = true := by kernel_rfl
theorem fnForceOne_fact14 : ((Rows.fnForceOneRow.ifaces == (Tryz.f3.params.toList ++ Rows.fnForceOneSpec.plain.varTypes Tryz.prog).any (Tryz.prog.ifacesRec ·))) = true := by kernel_rfl
theorem fnForceOne_fact15 : ((Rows.fnForceOneRow.mapsOut == Tryz.prog.mapsAmong Tryz.f3.resultTypes.toList)) = true := by kernel_rfl
theorem fnForceOne_fact16 : ((Rows.fnForceOneRow.loops == (Tryz.f3.params.toList ++ Rows.fnForceOneSpec.plain.varTypes Tryz.prog).any (Tryz.prog.loopsFrom ·))) = true := by kernel_rfl
theorem fnForceOne_fact17 : ((Rows.fnForceOneRow.wideKeys == (Tryz.f3.params.toList ++ Rows.fnForceOneSpec.plain.varTypes Tryz.prog ++ Tryz.f3.resultTypes.toList).any (Tryz.prog.wideKeysFrom ·))) = true := by kernel_rfl
theorem fnForceOne_fact18 : (Rows.fnForceOneSpec.vars.all (Tryz.prog.varReadable ·)) = true := by kernel_rfl
theorem fnForceOne_fact19 : (Tryz.f3.resultTypes.all (fun t => Tryz.prog.readableRec t && decide (t < Tryz.prog.types.size))) = true := by kernel_rfl
theorem fnForceOne_fact20 : ((Rows.fnForceOneRow.ifacesOut == Tryz.f3.resultTypes.toList.any (Tryz.prog.ifacesRec ·))) = true := by kernel_rfl
theorem fnForceOne_fact21 : ((Rows.fnForceOneRow.loopsOut == Tryz.f3.resultTypes.toList.any (Tryz.prog.loopsFrom ·))) = true := by kernel_rfl
theorem fnForceOne_fact22 : ((Rows.fnForceOneRow.plainKeys == Tryz.prog.plainKeys)) = true := by kernel_rfl
theorem fnForceOne_fact23 : (Rows.fnForceOneRow.shortTexts.isNone) = true := by kernel_rfl
theorem fnForceOne_fact24 : (Tryz.prog.stopsHeard) = true := by kernel_rfl
theorem fnForceOne_fact25 : (Tryz.prog.mayEnter) = true := fact_mayEnter
theorem fnForceOne_fact26 : ((Rows.fnForceOneRow.lifted == Tryz.prog.liftsFinal)) = true := by rw [fact_liftsFinal]; rfl
theorem fnForceOne_fact27 : ((Tryz.prog.make == some Rows.fnForceOneRow.make)) = true := by rw [fact_make]; rfl
theorem fnForceOne_fact28 : Rows.fnForceOneRow.domain = [] ∧ Rows.fnForceOneRow.kinds = [] := ⟨rfl, rfl⟩
theorem fnForceOne_fact29 : ((Rows.fnForceOneRow.pinned == Rows.fnForceOneRow.pinnedBy)) = true := by kernel_rfl
theorem fnForceOne_fact30 : ((Rows.fnForceOneRow.veiled == (Tryz.f3.params.toList ++ Rows.fnForceOneSpec.plain.varTypes Tryz.prog ++ Tryz.f3.resultTypes.toList).any (Tryz.prog.veiledRec ·))) = true := by kernel_rfl
theorem fnForceOne_fact31 : (Rows.fnForceOneRow.veiledFits Tryz.prog Tryz.f3.params.toList (Tryz.f3.params.toList ++ Rows.fnForceOneSpec.plain.varTypes Tryz.prog ++ Tryz.f3.resultTypes.toList)) = true := by kernel_rfl
theorem fnForceOne_facts : joinedFacts Tryz.prog 3 Tryz.f3 Rows.fnForceOneSpec Rows.fnForceOneRow = true :=
  joinedFacts_of fnForceOne_fact0 fnForceOne_fact1 fnForceOne_fact2 fnForceOne_fact3 fnForceOne_fact4 fnForceOne_fact5 fnForceOne_fact6 fnForceOne_fact7 fnForceOne_fact8 fnForceOne_fact9 fnForceOne_fact10 fnForceOne_fact11 fnForceOne_fact12 fnForceOne_fact13 fnForceOne_fact14 fnForceOne_fact15 fnForceOne_fact16 fnForceOne_fact17 fnForceOne_fact18 fnForceOne_fact19 fnForceOne_fact20 fnForceOne_fact21 fnForceOne_fact22 fnForceOne_fact23 fnForceOne_fact24 fnForceOne_fact25 fnForceOne_fact26 fnForceOne_fact27 fnForceOne_fact28 fnForceOne_fact29 fnForceOne_fact30 fnForceOne_fact31

set_option maxRecDepth 100000 in
theorem fnForceOne_lifted (os : Os) (started : os.Started) (H : Type) (enc : TypeId × Value → H) :
    ReturnsInHanded {} Tryz.checked os 3 .any (Rows.fnForceOneSpec.pre6 enc Tryz.prog Tryz.f3 Rows.fnForceOneRow.domain false) (Rows.fnForceOneSpec.post enc Tryz.prog Tryz.f3 false true false false) := by
  refine returnsInHanded_of_change (C := Tryz.checked) own started (by kernel_rfl) Tryz.func3
    (ChangeSpec.witness6 (enc := enc) (C := Tryz.checked) false ⟨#[], #[.slice none 0 0], []⟩ 8 (by kernel_rfl) (by kernel_rfl) (by kernel_rfl) (by kernel_rfl)) ?_
  intro W base args ds gs before hval0 hW hcnd _
  have hval : ∀ (j : Nat) t v, Tryz.f3.params[j]? = some t → args[j]? = some v → Value.okWide Tryz.prog W .any base t v := hval0
  have hW' : DataW.Whole enc Tryz.prog Tryz.f3.params.toList Rows.fnForceOneSpec.vars false W args.toList ds gs before := hW
  obtain ⟨p, q, hA0, hV, hpq, hfz, hnd⟩ := hW
  have hA : DataW.TrodAll enc Tryz.prog W 0 (fun _ => true) true Tryz.f3.params.toList args.toList ds p := hA0
  rw [Tryz.params3] at hA hval
  obtain ⟨v0, d0, rfl, rfl, h0⟩ := trodAll_one hA
  obtain ⟨rfl, rfl⟩ := trodVars_none hV
  rw [List.append_nil] at hpq
  subst hpq
  obtain ⟨xs0, hl0, hB0, r0⟩ := read_bytes Tryz.underlying22 Tryz.underlying5 cells5 (hval 0 22 v0 rfl rfl) h0
  exact law_post (tb := 4) (byte_law (l_FnForceOne xs0 hB0 )) (RL.cons0 r0 RL.nil0) laidOut
    (by
      rw [Tryz.params3]
      intro t ht
      simp at ht
      subst ht
      exact ⟨readable22, of_decide_eq_true (by kernel_rfl)⟩) hW' rfl rfl (by kernel_rfl) Tryz.underlying4

theorem fnForceOne_holds : Rows.FnForceOneSaid :=
  OpenClaim.holds_of_wide 3 Tryz.f3 rfl rfl rfl rfl rfl rfl rfl ⟨rfl, rfl, rfl, rfl, rfl⟩ rfl rfl rfl rfl rfl (by kernel_rfl) Tryz.func3 fnForceOne_facts
    (of_decide_eq_true (by kernel_rfl)) (by unfold Func.isWrapper; first | (rw [if_pos (by decide +kernel)]; kernel_rfl) | (rw [if_neg (by decide +kernel)]; exact ⟨rfl, rfl⟩))
    (fun os started H enc _ => fnForceOne_lifted os started H enc)

end Go.Proofs.YtlcoaglnegibkaaGreat
