/- For every list of bytes the law FnForceAll answers true, and the bytes read as before. -/
import Derived.Test.YtlcoaglnegibkaaGreatJB
import Derived.Test.YtlcoaglnegibkaaGreatBM

set_option linter.unusedSimpArgs false
set_option linter.unusedVariables false

namespace Go.Proofs.YtlcoaglnegibkaaGreat
open Go.ChangeShapes Go.WideShapes Go.ChangeAt Go.RowKit Go.Proofs.Dev
theorem fnForceAll_fact0 : (Rows.fnForceAllRow.wf (OpenSpec.ofChange Rows.fnForceAllSpec)) = true := by kernel_rfl
theorem fnForceAll_fact1 : (laidOutB Tryz.prog) = true := by kernel_rfl
theorem fnForceAll_fact2 : (mapsRowed Tryz.prog) = true := by kernel_rfl
theorem fnForceAll_fact3 : (Tryz.f4.params.all (Tryz.prog.readableRec ·)) = true := by kernel_rfl
theorem fnForceAll_fact4 : (namedTie Tryz.prog Rows.fnForceAllRow.named Rows.fnForceAllSpec.vars) = true := by kernel_rfl
theorem fnForceAll_fact5 : ((Rows.fnForceAllRow.stops == [])) = true := by kernel_rfl
theorem fnForceAll_fact6 : ((Tryz.prog.stops == [])) = true := by kernel_rfl
theorem fnForceAll_fact7 : ((Rows.fnForceAllRow.knobs == [])) = true := by kernel_rfl
theorem fnForceAll_fact8 : ((Tryz.prog.stopKnobs == [])) = true := by kernel_rfl
theorem fnForceAll_fact9 : ((Rows.fnForceAllRow.inPlace == Tryz.prog.inPlace 4)) = true := by kernel_rfl
theorem fnForceAll_fact10 : ((Rows.fnForceAllRow.unfollowed == Tryz.prog.unfollowed 4)) = true := by kernel_rfl
theorem fnForceAll_fact11 : ((Rows.fnForceAllRow.recurses == Tryz.prog.recurses 4)) = true := by kernel_rfl
theorem fnForceAll_fact12 : ((Rows.fnForceAllRow.named == Tryz.prog.varsNamed 4)) = true := by kernel_rfl
theorem fnForceAll_fact13 : ((Rows.fnForceAllRow.maps == (Tryz.f4.params.toList ++ Rows.fnForceAllSpec.plain.varTypes Tryz.prog).any (Tryz.prog.mapsRec ·))) = true := by kernel_rfl
theorem fnForceAll_fact14 : ((Rows.fnForceAllRow.ifaces == (Tryz.f4.params.toList ++ Rows.fnForceAllSpec.plain.varTypes Tryz.prog).any (Tryz.prog.ifacesRec ·))) = true := by kernel_rfl
theorem fnForceAll_fact15 : ((Rows.fnForceAllRow.mapsOut == Tryz.prog.mapsAmong Tryz.f4.resultTypes.toList)) = true := by kernel_rfl
theorem fnForceAll_fact16 : ((Rows.fnForceAllRow.loops == (Tryz.f4.params.toList ++ Rows.fnForceAllSpec.plain.varTypes Tryz.prog).any (Tryz.prog.loopsFrom ·))) = true := by kernel_rfl
theorem fnForceAll_fact17 : ((Rows.fnForceAllRow.wideKeys == (Tryz.f4.params.toList ++ Rows.fnForceAllSpec.plain.varTypes Tryz.prog ++ Tryz.f4.resultTypes.toList).any (Tryz.prog.wideKeysFrom ·))) = true := by kernel_rfl
theorem fnForceAll_fact18 : (Rows.fnForceAllSpec.vars.all (Tryz.prog.varReadable ·)) = true := by kernel_rfl
theorem fnForceAll_fact19 : (Tryz.f4.resultTypes.all (fun t => Tryz.prog.readableRec t && decide (t < Tryz.prog.types.size))) = true := by kernel_rfl
theorem fnForceAll_fact20 : ((Rows.fnForceAllRow.ifacesOut == Tryz.f4.resultTypes.toList.any (Tryz.prog.ifacesRec ·))) = true := by kernel_rfl
theorem fnForceAll_fact21 : ((Rows.fnForceAllRow.loopsOut == Tryz.f4.resultTypes.toList.any (Tryz.prog.loopsFrom ·))) = true := by kernel_rfl
theorem fnForceAll_fact22 : ((Rows.fnForceAllRow.plainKeys == Tryz.prog.plainKeys)) = true := by kernel_rfl
theorem fnForceAll_fact23 : (Rows.fnForceAllRow.shortTexts.isNone) = true := by kernel_rfl
theorem fnForceAll_fact24 : (Tryz.prog.stopsHeard) = true := by kernel_rfl
theorem fnForceAll_fact25 : (Tryz.prog.mayEnter) = true := fact_mayEnter
theorem fnForceAll_fact26 : ((Rows.fnForceAllRow.lifted == Tryz.prog.liftsFinal)) = true := by rw [fact_liftsFinal]; rfl
theorem fnForceAll_fact27 : ((Tryz.prog.make == some Rows.fnForceAllRow.make)) = true := by rw [fact_make]; rfl
theorem fnForceAll_fact28 : Rows.fnForceAllRow.domain = [] ∧ Rows.fnForceAllRow.kinds = [] := ⟨rfl, rfl⟩
theorem fnForceAll_fact29 : ((Rows.fnForceAllRow.pinned == Rows.fnForceAllRow.pinnedBy)) = true := by kernel_rfl
theorem fnForceAll_fact30 : ((Rows.fnForceAllRow.veiled == (Tryz.f4.params.toList ++ Rows.fnForceAllSpec.plain.varTypes Tryz.prog ++ Tryz.f4.resultTypes.toList).any (Tryz.prog.veiledRec ·))) = true := by kernel_rfl
theorem fnForceAll_fact31 : (Rows.fnForceAllRow.veiledFits Tryz.prog Tryz.f4.params.toList (Tryz.f4.params.toList ++ Rows.fnForceAllSpec.plain.varTypes Tryz.prog ++ Tryz.f4.resultTypes.toList)) = true := by kernel_rfl
theorem fnForceAll_facts : joinedFacts Tryz.prog 4 Tryz.f4 Rows.fnForceAllSpec Rows.fnForceAllRow = true :=
  joinedFacts_of fnForceAll_fact0 fnForceAll_fact1 fnForceAll_fact2 fnForceAll_fact3 fnForceAll_fact4 fnForceAll_fact5 fnForceAll_fact6 fnForceAll_fact7 fnForceAll_fact8 fnForceAll_fact9 fnForceAll_fact10 fnForceAll_fact11 fnForceAll_fact12 fnForceAll_fact13 fnForceAll_fact14 fnForceAll_fact15 fnForceAll_fact16 fnForceAll_fact17 fnForceAll_fact18 fnForceAll_fact19 fnForceAll_fact20 fnForceAll_fact21 fnForceAll_fact22 fnForceAll_fact23 fnForceAll_fact24 fnForceAll_fact25 fnForceAll_fact26 fnForceAll_fact27 fnForceAll_fact28 fnForceAll_fact29 fnForceAll_fact30 fnForceAll_fact31

set_option maxRecDepth 100000 in
theorem fnForceAll_lifted (os : Os) (started : os.Started) (H : Type) (enc : TypeId × Value → H) :
    ReturnsInHanded {} Tryz.checked os 4 .any (Rows.fnForceAllSpec.pre6 enc Tryz.prog Tryz.f4 Rows.fnForceAllRow.domain false) (Rows.fnForceAllSpec.post enc Tryz.prog Tryz.f4 false true false false) := by
  refine returnsInHanded_of_change (C := Tryz.checked) own started (by kernel_rfl) Tryz.func4
    (ChangeSpec.witness6 (enc := enc) (C := Tryz.checked) false ⟨#[], #[.slice none 0 0], []⟩ 8 (by kernel_rfl) (by kernel_rfl) (by kernel_rfl) (by kernel_rfl)) ?_
  intro W base args ds gs before hval0 hW hcnd _
  have hval : ∀ (j : Nat) t v, Tryz.f4.params[j]? = some t → args[j]? = some v → Value.okWide Tryz.prog W .any base t v := hval0
  have hW' : DataW.Whole enc Tryz.prog Tryz.f4.params.toList Rows.fnForceAllSpec.vars false W args.toList ds gs before := hW
  obtain ⟨p, q, hA0, hV, hpq, hfz, hnd⟩ := hW
  have hA : DataW.TrodAll enc Tryz.prog W 0 (fun _ => true) true Tryz.f4.params.toList args.toList ds p := hA0
  rw [Tryz.params4] at hA hval
  obtain ⟨v0, d0, rfl, rfl, h0⟩ := trodAll_one hA
  obtain ⟨rfl, rfl⟩ := trodVars_none hV
  rw [List.append_nil] at hpq
  subst hpq
  obtain ⟨xs0, hl0, hB0, r0⟩ := read_bytes Tryz.underlying22 Tryz.underlying5 cells5 (hval 0 22 v0 rfl rfl) h0
  exact law_post (tb := 4) (byte_law (l_FnForceAll xs0 hB0 )) (RL.cons0 r0 RL.nil0) laidOut
    (by
      rw [Tryz.params4]
      intro t ht
      simp at ht
      subst ht
      exact ⟨readable22, of_decide_eq_true (by kernel_rfl)⟩) hW' rfl rfl (by kernel_rfl) Tryz.underlying4

theorem fnForceAll_holds : Rows.FnForceAllSaid :=
  OpenClaim.holds_of_wide 4 Tryz.f4 rfl rfl rfl rfl rfl rfl rfl ⟨rfl, rfl, rfl, rfl, rfl⟩ rfl rfl rfl rfl rfl (by kernel_rfl) Tryz.func4 fnForceAll_facts
    (of_decide_eq_true (by kernel_rfl)) (by unfold Func.isWrapper; first | (rw [if_pos (by decide +kernel)]; kernel_rfl) | (rw [if_neg (by decide +kernel)]; exact ⟨rfl, rfl⟩))
    (fun os started H enc _ => fnForceAll_lifted os started H enc)

end Go.Proofs.YtlcoaglnegibkaaGreat
