/- For all arguments the program's ForceAll returns what the reference's returns: the law answers true, and the arguments read as before. -/
import Derived.Test.YtjldabnbfdgbhaaJ
import Derived.Test.YtjldabnbfdgbhaaV

set_option linter.unusedSimpArgs false
set_option linter.unusedVariables false

namespace Go.Proofs.Ytjldabnbfdgbhaa
open Go.ChangeShapes Go.WideShapes Go.ChangeAt Go.RowKit Go.Proofs.Dev
theorem fnExactForceAll_fact0 : (Rows.fnExactForceAllRow.wf (OpenSpec.ofChange Rows.fnExactForceAllSpec)) = true := by kernel_rfl
theorem fnExactForceAll_fact1 : (laidOutB Try.prog) = true := by kernel_rfl
theorem fnExactForceAll_fact2 : (mapsRowed Try.prog) = true := by kernel_rfl
theorem fnExactForceAll_fact3 : (Try.f15.params.all (Try.prog.readableRec ·)) = true := by kernel_rfl
theorem fnExactForceAll_fact4 : (namedTie Try.prog Rows.fnExactForceAllRow.named Rows.fnExactForceAllSpec.vars) = true := by kernel_rfl
theorem fnExactForceAll_fact5 : ((Rows.fnExactForceAllRow.stops == [])) = true := by kernel_rfl
theorem fnExactForceAll_fact6 : ((Try.prog.stops == [])) = true := by kernel_rfl
theorem fnExactForceAll_fact7 : ((Rows.fnExactForceAllRow.knobs == [])) = true := by kernel_rfl
theorem fnExactForceAll_fact8 : ((Try.prog.stopKnobs == [])) = true := by kernel_rfl
theorem fnExactForceAll_fact9 : ((Rows.fnExactForceAllRow.inPlace == Try.prog.inPlace 15)) = true := by kernel_rfl
theorem fnExactForceAll_fact10 : ((Rows.fnExactForceAllRow.unfollowed == Try.prog.unfollowed 15)) = true := by kernel_rfl
theorem fnExactForceAll_fact11 : ((Rows.fnExactForceAllRow.recurses == Try.prog.recurses 15)) = true := by kernel_rfl
theorem fnExactForceAll_fact12 : ((Rows.fnExactForceAllRow.named == Try.prog.varsNamed 15)) = true := by kernel_rfl
theorem fnExactForceAll_fact13 : ((Rows.fnExactForceAllRow.maps == (Try.f15.params.toList ++ Rows.fnExactForceAllSpec.plain.varTypes Try.prog).any (Try.prog.mapsRec ·))) = true := by kernel_rfl
theorem fnExactForceAll_fact14 : ((Rows.fnExactForceAllRow.ifaces == (Try.f15.params.toList ++ Rows.fnExactForceAllSpec.plain.varTypes Try.prog).any (Try.prog.ifacesRec ·))) = true := by kernel_rfl
theorem fnExactForceAll_fact15 : ((Rows.fnExactForceAllRow.mapsOut == Try.prog.mapsAmong Try.f15.resultTypes.toList)) = true := by kernel_rfl
theorem fnExactForceAll_fact16 : ((Rows.fnExactForceAllRow.loops == (Try.f15.params.toList ++ Rows.fnExactForceAllSpec.plain.varTypes Try.prog).any (Try.prog.loopsFrom ·))) = true := by kernel_rfl
theorem fnExactForceAll_fact17 : ((Rows.fnExactForceAllRow.wideKeys == (Try.f15.params.toList ++ Rows.fnExactForceAllSpec.plain.varTypes Try.prog ++ Try.f15.resultTypes.toList).any (Try.prog.wideKeysFrom ·))) = true := by kernel_rfl
theorem fnExactForceAll_fact18 : (Rows.fnExactForceAllSpec.vars.all (Try.prog.varReadable ·)) = true := by kernel_rfl
theorem fnExactForceAll_fact19 : (Try.f15.resultTypes.all (fun t => Try.prog.readableRec t && decide (t < Try.prog.types.size))) = true := by kernel_rfl
theorem fnExactForceAll_fact20 : ((Rows.fnExactForceAllRow.ifacesOut == Try.f15.resultTypes.toList.any (Try.prog.ifacesRec ·))) = true := by kernel_rfl
theorem fnExactForceAll_fact21 : ((Rows.fnExactForceAllRow.loopsOut == Try.f15.resultTypes.toList.any (Try.prog.loopsFrom ·))) = true := by kernel_rfl
theorem fnExactForceAll_fact22 : ((Rows.fnExactForceAllRow.plainKeys == Try.prog.plainKeys)) = true := by kernel_rfl
theorem fnExactForceAll_fact23 : (Rows.fnExactForceAllRow.shortTexts.isNone) = true := by kernel_rfl
theorem fnExactForceAll_fact24 : (Try.prog.stopsHeard) = true := by kernel_rfl
theorem fnExactForceAll_fact25 : (Try.prog.mayEnter) = true := fact_mayEnter
theorem fnExactForceAll_fact26 : ((Rows.fnExactForceAllRow.lifted == Try.prog.liftsFinal)) = true := by rw [fact_liftsFinal]; rfl
theorem fnExactForceAll_fact27 : ((Try.prog.make == some Rows.fnExactForceAllRow.make)) = true := by rw [fact_make]; rfl
theorem fnExactForceAll_fact28 : Rows.fnExactForceAllRow.domain = [] ∧ Rows.fnExactForceAllRow.kinds = [] := ⟨rfl, rfl⟩
theorem fnExactForceAll_fact29 : ((Rows.fnExactForceAllRow.pinned == Rows.fnExactForceAllRow.pinnedBy)) = true := by kernel_rfl
theorem fnExactForceAll_fact30 : ((Rows.fnExactForceAllRow.veiled == (Try.f15.params.toList ++ Rows.fnExactForceAllSpec.plain.varTypes Try.prog ++ Try.f15.resultTypes.toList).any (Try.prog.veiledRec ·))) = true := by kernel_rfl
theorem fnExactForceAll_fact31 : (Rows.fnExactForceAllRow.veiledFits Try.prog Try.f15.params.toList (Try.f15.params.toList ++ Rows.fnExactForceAllSpec.plain.varTypes Try.prog ++ Try.f15.resultTypes.toList)) = true := by kernel_rfl
theorem fnExactForceAll_facts : joinedFacts Try.prog 15 Try.f15 Rows.fnExactForceAllSpec Rows.fnExactForceAllRow = true :=
  joinedFacts_of fnExactForceAll_fact0 fnExactForceAll_fact1 fnExactForceAll_fact2 fnExactForceAll_fact3 fnExactForceAll_fact4 fnExactForceAll_fact5 fnExactForceAll_fact6 fnExactForceAll_fact7 fnExactForceAll_fact8 fnExactForceAll_fact9 fnExactForceAll_fact10 fnExactForceAll_fact11 fnExactForceAll_fact12 fnExactForceAll_fact13 fnExactForceAll_fact14 fnExactForceAll_fact15 fnExactForceAll_fact16 fnExactForceAll_fact17 fnExactForceAll_fact18 fnExactForceAll_fact19 fnExactForceAll_fact20 fnExactForceAll_fact21 fnExactForceAll_fact22 fnExactForceAll_fact23 fnExactForceAll_fact24 fnExactForceAll_fact25 fnExactForceAll_fact26 fnExactForceAll_fact27 fnExactForceAll_fact28 fnExactForceAll_fact29 fnExactForceAll_fact30 fnExactForceAll_fact31

set_option maxRecDepth 100000 in
theorem fnExactForceAll_lifted (os : Os) (started : os.Started) (H : Type) (enc : TypeId × Value → H) :
    ReturnsInHanded {} Try.checked os 15 .any (Rows.fnExactForceAllSpec.pre6 enc Try.prog Try.f15 Rows.fnExactForceAllRow.domain false) (Rows.fnExactForceAllSpec.post enc Try.prog Try.f15 false true false false) := by
  refine returnsInHanded_of_change (C := Try.checked) own started (by kernel_rfl) Try.func15
    (ChangeSpec.witness6 (enc := enc) (C := Try.checked) false ⟨#[], #[.agg #[.int .i64 0, .int .i64 0, .slice none 0 0], .slice none 0 0, .slice none 0 0], []⟩ 8 (by kernel_rfl) (by kernel_rfl) (by kernel_rfl) (by kernel_rfl)) ?_
  intro W base args ds gs before hval0 hW hcnd _
  have hval : ∀ (j : Nat) t v, Try.f15.params[j]? = some t → args[j]? = some v → Value.okWide Try.prog W .any base t v := hval0
  have hW' : DataW.Whole enc Try.prog Try.f15.params.toList Rows.fnExactForceAllSpec.vars false W args.toList ds gs before := hW
  obtain ⟨p, q, hA0, hV, hpq, hfz, hnd⟩ := hW
  have hA : DataW.TrodAll enc Try.prog W 0 (fun _ => true) true Try.f15.params.toList args.toList ds p := hA0
  rw [Try.params15] at hA hval
  obtain ⟨v0, v1, v2, d0, d1, d2, p0, p1, p2, rfl, rfl, rfl, h0, h1, h2⟩ := trodAll_three hA
  obtain ⟨rfl, rfl⟩ := trodVars_none hV
  rw [List.append_nil] at hpq
  subst hpq
  obtain ⟨W0, T0, cs0, _, _, hl0, r0⟩ := read_region Try.underlying24 one24 cells24 Try.underlying3 Try.underlying3 Try.underlying22 Try.underlying4 cells4 (hval 0 24 v0 rfl rfl) h0
  obtain ⟨xs1, hl1, _, r1⟩ := read_ints Try.underlying25 Try.underlying3 cells3 (hval 1 25 v1 rfl rfl) h1
  obtain ⟨xs2, hl2, _, r2⟩ := read_ints Try.underlying25 Try.underlying3 cells3 (hval 2 25 v2 rfl rfl) h2
  exact law_post (tb := 4) (s_FnExactForceAll W0 T0 cs0 xs1 xs2 hl0) (RL.cons0 r0 (RL.cons0 r1 (RL.cons0 r2 RL.nil0))) laidOut
    (by
      rw [Try.params15]
      intro t ht
      simp at ht
      rcases ht with rfl | rfl
      · exact ⟨readable.1, of_decide_eq_true (by kernel_rfl)⟩
      · exact ⟨readable.2.1, of_decide_eq_true (by kernel_rfl)⟩) hW' rfl rfl (by kernel_rfl) Try.underlying4

theorem fnExactForceAll_holds : Rows.FnExactForceAllSaid :=
  OpenClaim.holds_of_wide 15 Try.f15 rfl rfl rfl rfl rfl rfl rfl ⟨rfl, rfl, rfl, rfl, rfl⟩ rfl rfl rfl rfl rfl (by kernel_rfl) Try.func15 fnExactForceAll_facts
    (of_decide_eq_true (by kernel_rfl)) (by unfold Func.isWrapper; first | (rw [if_pos (by decide +kernel)]; kernel_rfl) | (rw [if_neg (by decide +kernel)]; exact ⟨rfl, rfl⟩))
    (fun os started H enc _ => fnExactForceAll_lifted os started H enc)

end Go.Proofs.Ytjldabnbfdgbhaa
