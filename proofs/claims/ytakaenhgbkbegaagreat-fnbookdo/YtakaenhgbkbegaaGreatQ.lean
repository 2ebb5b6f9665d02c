/- For every list of bytes the law FnBookDo answers true, and the bytes read as before. -/
import Derived.Test.YtakaenhgbkbegaaGreatAJ
import Derived.Test.YtakaenhgbkbegaaGreatAX

set_option linter.unusedSimpArgs false
set_option linter.unusedVariables false

namespace Go.Proofs.YtakaenhgbkbegaaGreat
open Go.ChangeShapes Go.WideShapes Go.ChangeAt Go.RowKit Go.Proofs.Dev
theorem fnBookDo_fact0 : (Rows.fnBookDoRow.wf (OpenSpec.ofChange Rows.fnBookDoSpec)) = true := by kernel_rfl
theorem fnBookDo_fact1 : (laidOutB Tryz.prog) = true := by kernel_rfl
theorem fnBookDo_fact2 : (mapsRowed Tryz.prog) = true := by kernel_rfl
theorem fnBookDo_fact3 : (Tryz.f8.params.all (Tryz.prog.readableRec ·)) = true := by kernel_rfl
theorem fnBookDo_fact4 : (namedTie Tryz.prog Rows.fnBookDoRow.named Rows.fnBookDoSpec.vars) = true := by kernel_rfl
theorem fnBookDo_fact5 : ((Rows.fnBookDoRow.stops == [])) = true := by kernel_rfl
theorem fnBookDo_fact6 : ((Tryz.prog.stops == [])) = true := by kernel_rfl
theorem fnBookDo_fact7 : ((Rows.fnBookDoRow.knobs == [])) = true := by kernel_rfl
theorem fnBookDo_fact8 : ((Tryz.prog.stopKnobs == [])) = true := by kernel_rfl
theorem fnBookDo_fact9 : ((Rows.fnBookDoRow.inPlace == Tryz.prog.inPlace 8)) = true := by kernel_rfl
theorem fnBookDo_fact10 : ((Rows.fnBookDoRow.unfollowed == Tryz.prog.unfollowed 8)) = true := by kernel_rfl
theorem fnBookDo_fact11 : ((Rows.fnBookDoRow.recurses == Tryz.prog.recurses 8)) = true := by kernel_rfl
theorem fnBookDo_fact12 : ((Rows.fnBookDoRow.named == Tryz.prog.varsNamed 8)) = true := by kernel_rfl
theorem fnBookDo_fact13 : ((Rows.fnBookDoRow.maps == (Tryz.f8.params.toList ++ Rows.fnBookDoSpec.plain.varTypes Tryz.prog).any (Tryz.prog.mapsRec ·))) = true := by kernel_rfl
theorem fnBookDo_fact14 : ((Rows.fnBookDoRow.ifaces == (Tryz.f8.params.toList ++ Rows.fnBookDoSpec.plain.varTypes Tryz.prog).any (Tryz.prog.ifacesRec ·))) = true := by kernel_rfl
theorem fnBookDo_fact15 : ((Rows.fnBookDoRow.mapsOut == Tryz.prog.mapsAmong Tryz.f8.resultTypes.toList)) = true := by kernel_rfl
theorem fnBookDo_fact16 : ((Rows.fnBookDoRow.loops == (Tryz.f8.params.toList ++ Rows.fnBookDoSpec.plain.varTypes Tryz.prog).any (Tryz.prog.loopsFrom ·))) = true := by kernel_rfl
theorem fnBookDo_fact17 : ((Rows.fnBookDoRow.wideKeys == (Tryz.f8.params.toList ++ Rows.fnBookDoSpec.plain.varTypes Tryz.prog ++ Tryz.f8.resultTypes.toList).any (Tryz.prog.wideKeysFrom ·))) = true := by kernel_rfl
theorem fnBookDo_fact18 : (Rows.fnBookDoSpec.vars.all (Tryz.prog.varReadable ·)) = true := by kernel_rfl
theorem fnBookDo_fact19 : (Tryz.f8.resultTypes.all (fun t => Tryz.prog.readableRec t && decide (t < Tryz.prog.types.size))) = true := by kernel_rfl
theorem fnBookDo_fact20 : ((Rows.fnBookDoRow.ifacesOut == Tryz.f8.resultTypes.toList.any (Tryz.prog.ifacesRec ·))) = true := by kernel_rfl
theorem fnBookDo_fact21 : ((Rows.fnBookDoRow.loopsOut == Tryz.f8.resultTypes.toList.any (Tryz.prog.loopsFrom ·))) = true := by kernel_rfl
theorem fnBookDo_fact22 : ((Rows.fnBookDoRow.plainKeys == Tryz.prog.plainKeys)) = true := by kernel_rfl
theorem fnBookDo_fact23 : (Rows.fnBookDoRow.shortTexts.isNone) = true := by kernel_rfl
theorem fnBookDo_fact24 : (Tryz.prog.stopsHeard) = true := by kernel_rfl
theorem fnBookDo_fact25 : (Tryz.prog.mayEnter) = true := fact_mayEnter
theorem fnBookDo_fact26 : ((Rows.fnBookDoRow.lifted == Tryz.prog.liftsFinal)) = true := by rw [fact_liftsFinal]; rfl
theorem fnBookDo_fact27 : ((Tryz.prog.make == some Rows.fnBookDoRow.make)) = true := by rw [fact_make]; rfl
theorem fnBookDo_fact28 : Rows.fnBookDoRow.domain = [] ∧ Rows.fnBookDoRow.kinds = [] := ⟨rfl, rfl⟩
theorem fnBookDo_fact29 : ((Rows.fnBookDoRow.pinned == Rows.fnBookDoRow.pinnedBy)) = true := by kernel_rfl
theorem fnBookDo_fact30 : ((Rows.fnBookDoRow.veiled == (Tryz.f8.params.toList ++ Rows.fnBookDoSpec.plain.varTypes Tryz.prog ++ Tryz.f8.resultTypes.toList).any (Tryz.prog.veiledRec ·))) = true := by kernel_rfl
theorem fnBookDo_fact31 : (Rows.fnBookDoRow.veiledFits Tryz.prog Tryz.f8.params.toList (Tryz.f8.params.toList ++ Rows.fnBookDoSpec.plain.varTypes Tryz.prog ++ Tryz.f8.resultTypes.toList)) = true := by kernel_rfl
theorem fnBookDo_facts : joinedFacts Tryz.prog 8 Tryz.f8 Rows.fnBookDoSpec Rows.fnBookDoRow = true :=
  joinedFacts_of fnBookDo_fact0 fnBookDo_fact1 fnBookDo_fact2 fnBookDo_fact3 fnBookDo_fact4 fnBookDo_fact5 fnBookDo_fact6 fnBookDo_fact7 fnBookDo_fact8 fnBookDo_fact9 fnBookDo_fact10 fnBookDo_fact11 fnBookDo_fact12 fnBookDo_fact13 fnBookDo_fact14 fnBookDo_fact15 fnBookDo_fact16 fnBookDo_fact17 fnBookDo_fact18 fnBookDo_fact19 fnBookDo_fact20 fnBookDo_fact21 fnBookDo_fact22 fnBookDo_fact23 fnBookDo_fact24 fnBookDo_fact25 fnBookDo_fact26 fnBookDo_fact27 fnBookDo_fact28 fnBookDo_fact29 fnBookDo_fact30 fnBookDo_fact31

set_option maxRecDepth 100000 in
theorem fnBookDo_lifted (os : Os) (started : os.Started) (H : Type) (enc : TypeId × Value → H) :
    ReturnsInHanded {} Tryz.checked os 8 .any (Rows.fnBookDoSpec.pre6 enc Tryz.prog Tryz.f8 Rows.fnBookDoRow.domain false) (Rows.fnBookDoSpec.post enc Tryz.prog Tryz.f8 false true false false) := by
  refine returnsInHanded_of_change (C := Tryz.checked) own started (by kernel_rfl) Tryz.func8
    (ChangeSpec.witness6 (enc := enc) (C := Tryz.checked) false ⟨#[], #[.slice none 0 0], []⟩ 8 (by kernel_rfl) (by kernel_rfl) (by kernel_rfl) (by kernel_rfl)) ?_
  intro W base args ds gs before hval0 hW hcnd _
  have hval : ∀ (j : Nat) t v, Tryz.f8.params[j]? = some t → args[j]? = some v → Value.okWide Tryz.prog W .any base t v := hval0
  have hW' : DataW.Whole enc Tryz.prog Tryz.f8.params.toList Rows.fnBookDoSpec.vars false W args.toList ds gs before := hW
  obtain ⟨p, q, hA0, hV, hpq, hfz, hnd⟩ := hW
  have hA : DataW.TrodAll enc Tryz.prog W 0 (fun _ => true) true Tryz.f8.params.toList args.toList ds p := hA0
  rw [Tryz.params8] at hA hval
  obtain ⟨v0, d0, rfl, rfl, h0⟩ := trodAll_one hA
  obtain ⟨rfl, rfl⟩ := trodVars_none hV
  rw [List.append_nil] at hpq
  subst hpq
  obtain ⟨xs0, hl0, hB0, r0⟩ := read_bytes Tryz.underlying22 Tryz.underlying5 cells5 (hval 0 22 v0 rfl rfl) h0
  exact law_post (tb := 4) (byte_law (l_FnBookDo xs0 hB0 )) (RL.cons0 r0 RL.nil0) laidOut
    (by
      rw [Tryz.params8]
      intro t ht
      simp at ht
      subst ht
      exact ⟨readable22, of_decide_eq_true (by kernel_rfl)⟩) hW' rfl rfl (by kernel_rfl) Tryz.underlying4

theorem fnBookDo_holds : Rows.FnBookDoSaid :=
  OpenClaim.holds_of_wide 8 Tryz.f8 rfl rfl rfl rfl rfl rfl rfl ⟨rfl, rfl, rfl, rfl, rfl⟩ rfl rfl rfl rfl rfl (by kernel_rfl) Tryz.func8 fnBookDo_facts
    (of_decide_eq_true (by kernel_rfl)) (by unfold Func.isWrapper; first | (rw [if_pos (by decide +kernel)]; kernel_rfl) | (rw [if_neg (by decide +kernel)]; exact ⟨rfl, rfl⟩))
    (fun os started H enc _ => fnBookDo_lifted os started H enc)

end Go.Proofs.YtakaenhgbkbegaaGreat
