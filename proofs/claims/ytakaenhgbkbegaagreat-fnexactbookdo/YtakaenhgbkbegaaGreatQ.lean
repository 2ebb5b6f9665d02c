/- For every book and deed the law FnExactBookDo answers true, and the arguments read as before. -/
import Derived.Test.YtakaenhgbkbegaaGreatAW

set_option linter.unusedSimpArgs false
set_option linter.unusedVariables false

namespace Go.Proofs.YtakaenhgbkbegaaGreat
open Go.ChangeShapes Go.WideShapes Go.ChangeAt Go.RowKit Go.Proofs.Dev
theorem fnExactBookDo_fact0 : (Rows.fnExactBookDoRow.wf (OpenSpec.ofChange Rows.fnExactBookDoSpec)) = true := by kernel_rfl
theorem fnExactBookDo_fact1 : (laidOutB Tryz.prog) = true := by kernel_rfl
theorem fnExactBookDo_fact2 : (mapsRowed Tryz.prog) = true := by kernel_rfl
theorem fnExactBookDo_fact3 : (Tryz.f5.params.all (Tryz.prog.readableRec ·)) = true := by kernel_rfl
theorem fnExactBookDo_fact4 : (namedTie Tryz.prog Rows.fnExactBookDoRow.named Rows.fnExactBookDoSpec.vars) = true := by kernel_rfl
theorem fnExactBookDo_fact5 : ((Rows.fnExactBookDoRow.stops == [])) = true := by kernel_rfl
theorem fnExactBookDo_fact6 : ((Tryz.prog.stops == [])) = true := by kernel_rfl
theorem fnExactBookDo_fact7 : ((Rows.fnExactBookDoRow.knobs == [])) = true := by kernel_rfl
theorem fnExactBookDo_fact8 : ((Tryz.prog.stopKnobs == [])) = true := by kernel_rfl
theorem fnExactBookDo_fact9 : ((Rows.fnExactBookDoRow.inPlace == Tryz.prog.inPlace 5)) = true := by kernel_rfl
theorem fnExactBookDo_fact10 : ((Rows.fnExactBookDoRow.unfollowed == Tryz.prog.unfollowed 5)) = true := by kernel_rfl
theorem fnExactBookDo_fact11 : ((Rows.fnExactBookDoRow.recurses == Tryz.prog.recurses 5)) = true := by kernel_rfl
theorem fnExactBookDo_fact12 : ((Rows.fnExactBookDoRow.named == Tryz.prog.varsNamed 5)) = true := by kernel_rfl
theorem fnExactBookDo_fact13 : ((Rows.fnExactBookDoRow.maps == (Tryz.f5.params.toList ++ Rows.fnExactBookDoSpec.plain.varTypes Tryz.prog).any (Tryz.prog.mapsRec ·))) = true := by kernel_rfl
theorem fnExactBookDo_fact14 : ((Rows.fnExactBookDoRow.ifaces == (Tryz.f5.params.toList ++ Rows.fnExactBookDoSpec.plain.varTypes Tryz.prog).any (Tryz.prog.ifacesRec ·))) = true := by kernel_rfl
theorem fnExactBookDo_fact15 : ((Rows.fnExactBookDoRow.mapsOut == Tryz.prog.mapsAmong Tryz.f5.resultTypes.toList)) = true := by kernel_rfl
theorem fnExactBookDo_fact16 : ((Rows.fnExactBookDoRow.loops == (Tryz.f5.params.toList ++ Rows.fnExactBookDoSpec.plain.varTypes Tryz.prog).any (Tryz.prog.loopsFrom ·))) = true := by kernel_rfl
theorem fnExactBookDo_fact17 : ((Rows.fnExactBookDoRow.wideKeys == (Tryz.f5.params.toList ++ Rows.fnExactBookDoSpec.plain.varTypes Tryz.prog ++ Tryz.f5.resultTypes.toList).any (Tryz.prog.wideKeysFrom ·))) = true := by kernel_rfl
theorem fnExactBookDo_fact18 : (Rows.fnExactBookDoSpec.vars.all (Tryz.prog.varReadable ·)) = true := by kernel_rfl
theorem fnExactBookDo_fact19 : (Tryz.f5.resultTypes.all (fun t => Tryz.prog.readableRec t && decide (t < Tryz.prog.types.size))) = true := by kernel_rfl
theorem fnExactBookDo_fact20 : ((Rows.fnExactBookDoRow.ifacesOut == Tryz.f5.resultTypes.toList.any (Tryz.prog.ifacesRec ·))) = true := by kernel_rfl
theorem fnExactBookDo_fact21 : ((Rows.fnExactBookDoRow.loopsOut == Tryz.f5.resultTypes.toList.any (Tryz.prog.loopsFrom ·))) = true := by kernel_rfl
theorem fnExactBookDo_fact22 : ((Rows.fnExactBookDoRow.plainKeys == Tryz.prog.plainKeys)) = true := by kernel_rfl
theorem fnExactBookDo_fact23 : (Rows.fnExactBookDoRow.shortTexts.isNone) = true := by kernel_rfl
theorem fnExactBookDo_fact24 : (Tryz.prog.stopsHeard) = true := by kernel_rfl
theorem fnExactBookDo_fact25 : (Tryz.prog.mayEnter) = true := fact_mayEnter
theorem fnExactBookDo_fact26 : ((Rows.fnExactBookDoRow.lifted == Tryz.prog.liftsFinal)) = true := by rw [fact_liftsFinal]; rfl
theorem fnExactBookDo_fact27 : ((Tryz.prog.make == some Rows.fnExactBookDoRow.make)) = true := by rw [fact_make]; rfl
theorem fnExactBookDo_fact28 : Rows.fnExactBookDoRow.domain = [] ∧ Rows.fnExactBookDoRow.kinds = [] := ⟨rfl, rfl⟩
theorem fnExactBookDo_fact29 : ((Rows.fnExactBookDoRow.pinned == Rows.fnExactBookDoRow.pinnedBy)) = true := by kernel_rfl
theorem fnExactBookDo_fact30 : ((Rows.fnExactBookDoRow.veiled == (Tryz.f5.params.toList ++ Rows.fnExactBookDoSpec.plain.varTypes Tryz.prog ++ Tryz.f5.resultTypes.toList).any (Tryz.prog.veiledRec ·))) = true := by kernel_rfl
theorem fnExactBookDo_fact31 : (Rows.fnExactBookDoRow.veiledFits Tryz.prog Tryz.f5.params.toList (Tryz.f5.params.toList ++ Rows.fnExactBookDoSpec.plain.varTypes Tryz.prog ++ Tryz.f5.resultTypes.toList)) = true := by kernel_rfl
theorem fnExactBookDo_facts : joinedFacts Tryz.prog 5 Tryz.f5 Rows.fnExactBookDoSpec Rows.fnExactBookDoRow = true :=
  joinedFacts_of fnExactBookDo_fact0 fnExactBookDo_fact1 fnExactBookDo_fact2 fnExactBookDo_fact3 fnExactBookDo_fact4 fnExactBookDo_fact5 fnExactBookDo_fact6 fnExactBookDo_fact7 fnExactBookDo_fact8 fnExactBookDo_fact9 fnExactBookDo_fact10 fnExactBookDo_fact11 fnExactBookDo_fact12 fnExactBookDo_fact13 fnExactBookDo_fact14 fnExactBookDo_fact15 fnExactBookDo_fact16 fnExactBookDo_fact17 fnExactBookDo_fact18 fnExactBookDo_fact19 fnExactBookDo_fact20 fnExactBookDo_fact21 fnExactBookDo_fact22 fnExactBookDo_fact23 fnExactBookDo_fact24 fnExactBookDo_fact25 fnExactBookDo_fact26 fnExactBookDo_fact27 fnExactBookDo_fact28 fnExactBookDo_fact29 fnExactBookDo_fact30 fnExactBookDo_fact31

set_option maxRecDepth 100000 in
theorem fnExactBookDo_lifted (os : Os) (started : os.Started) (H : Type) (enc : TypeId × Value → H) :
    ReturnsInHanded {} Tryz.checked os 5 .any (Rows.fnExactBookDoSpec.pre6 enc Tryz.prog Tryz.f5 Rows.fnExactBookDoRow.domain false) (Rows.fnExactBookDoSpec.post enc Tryz.prog Tryz.f5 false true false false) := by
  refine returnsInHanded_of_change (C := Tryz.checked) own started (by kernel_rfl) Tryz.func5
    (ChangeSpec.witness6 (enc := enc) (C := Tryz.checked) false ⟨#[], #[.agg #[.int .i64 0, .int .i64 0, .slice none 0 0, .slice none 0 0, .slice none 0 0, .slice none 0 0], .agg #[.int .i64 0, .int .i64 0, .int .i64 0]], []⟩ 8 (by kernel_rfl) (by kernel_rfl) (by kernel_rfl) (by kernel_rfl)) ?_
  intro W base args ds gs before hval0 hW hcnd _
  have hval : ∀ (j : Nat) t v, Tryz.f5.params[j]? = some t → args[j]? = some v → Value.okWide Tryz.prog W .any base t v := hval0
  have hW' : DataW.Whole enc Tryz.prog Tryz.f5.params.toList Rows.fnExactBookDoSpec.vars false W args.toList ds gs before := hW
  obtain ⟨p, q, hA0, hV, hpq, hfz, hnd⟩ := hW
  have hA : DataW.TrodAll enc Tryz.prog W 0 (fun _ => true) true Tryz.f5.params.toList args.toList ds p := hA0
  rw [Tryz.params5] at hA hval
  obtain ⟨v0, v1, d0, d1, p0, p1, rfl, rfl, rfl, h0, h1⟩ := trodAll_two hA
  obtain ⟨rfl, rfl⟩ := trodVars_none hV
  rw [List.append_nil] at hpq
  subst hpq
  obtain ⟨W0, T0, cs0, ds0, ls0, ps0, hc0, hd0, hl0, hb0, hp0, r0⟩ := read_book Tryz.underlying47 kBook Tryz.underlying45 kReg kInts kInts kIntss ⟨rfl, rfl, rfl, rfl⟩ ⟨rfl, rfl, rfl⟩ kInt kInt kBools Tryz.underlying3 Tryz.underlying3 Tryz.underlying23 Tryz.underlying4 kBool Tryz.underlying26 Tryz.underlying26 Tryz.underlying3 kInt Tryz.underlying29 Tryz.underlying26 kInts (hval 0 47 v0 rfl rfl) h0
  obtain ⟨k1, s1, w1, hs1, r1⟩ := read_deed Tryz.underlying48 oneDeed kDeed Tryz.underlying3 Tryz.underlying3 Tryz.underlying3 (hval 1 48 v1 rfl rfl) h1
  exact law_post (tb := 4) (s_FnExactBookDo W0 T0 cs0 ds0 ls0 ps0 k1 s1 w1 hc0 hd0 hl0 hb0 hp0 hs1) (RL.cons0 r0 (RL.cons0 r1 RL.nil0)) laidOut
    (by
      rw [Tryz.params5]
      intro t ht
      simp at ht
      rcases ht with rfl | rfl
      · exact ⟨rBook, of_decide_eq_true (by kernel_rfl)⟩
      · exact ⟨rDeed, of_decide_eq_true (by kernel_rfl)⟩) hW' rfl rfl (by kernel_rfl) Tryz.underlying4

theorem fnExactBookDo_holds : Rows.FnExactBookDoSaid :=
  OpenClaim.holds_of_wide 5 Tryz.f5 rfl rfl rfl rfl rfl rfl rfl ⟨rfl, rfl, rfl, rfl, rfl⟩ rfl rfl rfl rfl rfl (by kernel_rfl) Tryz.func5 fnExactBookDo_facts
    (of_decide_eq_true (by kernel_rfl)) (by unfold Func.isWrapper; first | (rw [if_pos (by decide +kernel)]; kernel_rfl) | (rw [if_neg (by decide +kernel)]; exact ⟨rfl, rfl⟩))
    (fun os started H enc _ => fnExactBookDo_lifted os started H enc)

end Go.Proofs.YtakaenhgbkbegaaGreat
