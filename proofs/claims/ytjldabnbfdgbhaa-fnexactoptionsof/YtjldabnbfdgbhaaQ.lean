/- For all arguments the program's OptionsOf returns what the reference's returns: the law answers true, and the arguments read as before. -/
import Derived.Test.YtjldabnbfdgbhaaJ
import Derived.Test.YtjldabnbfdgbhaaS

set_option linter.unusedSimpArgs false
set_option linter.unusedVariables false

namespace Go.Proofs.Ytjldabnbfdgbhaa
open Go.ChangeShapes Go.WideShapes Go.ChangeAt Go.RowKit Go.Proofs.Dev
theorem fnExactOptionsOf_fact0 : (Rows.fnExactOptionsOfRow.wf (OpenSpec.ofChange Rows.fnExactOptionsOfSpec)) = true := by kernel_rfl
theorem fnExactOptionsOf_fact1 : (laidOutB Try.prog) = true := by kernel_rfl
theorem fnExactOptionsOf_fact2 : (mapsRowed Try.prog) = true := by kernel_rfl
theorem fnExactOptionsOf_fact3 : (Try.f10.params.all (Try.prog.readableRec ·)) = true := by kernel_rfl
theorem fnExactOptionsOf_fact4 : (namedTie Try.prog Rows.fnExactOptionsOfRow.named Rows.fnExactOptionsOfSpec.vars) = true := by kernel_rfl
theorem fnExactOptionsOf_fact5 : ((Rows.fnExactOptionsOfRow.stops == [])) = true := by kernel_rfl
theorem fnExactOptionsOf_fact6 : ((Try.prog.stops == [])) = true := by kernel_rfl
theorem fnExactOptionsOf_fact7 : ((Rows.fnExactOptionsOfRow.knobs == [])) = true := by kernel_rfl
theorem fnExactOptionsOf_fact8 : ((Try.prog.stopKnobs == [])) = true := by kernel_rfl
theorem fnExactOptionsOf_fact9 : ((Rows.fnExactOptionsOfRow.inPlace == Try.prog.inPlace 10)) = true := by kernel_rfl
theorem fnExactOptionsOf_fact10 : ((Rows.fnExactOptionsOfRow.unfollowed == Try.prog.unfollowed 10)) = true := by kernel_rfl
theorem fnExactOptionsOf_fact11 : ((Rows.fnExactOptionsOfRow.recurses == Try.prog.recurses 10)) = true := by kernel_rfl
theorem fnExactOptionsOf_fact12 : ((Rows.fnExactOptionsOfRow.named == Try.prog.varsNamed 10)) = true := by kernel_rfl
theorem fnExactOptionsOf_fact13 : ((Rows.fnExactOptionsOfRow.maps == (Try.f10.params.toList ++ Rows.fnExactOptionsOfSpec.plain.varTypes Try.prog).any (Try.prog.mapsRec ·))) = true := by kernel_rfl
theorem fnExactOptionsOf_fact14 : ((Rows.fnExactOptionsOfRow.ifaces == (Try.f10.params.toList ++ Rows.fnExactOptionsOfSpec.plain.varTypes Try.prog).any (Try.prog.ifacesRec ·))) = true := by kernel_rfl
theorem fnExactOptionsOf_fact15 : ((Rows.fnExactOptionsOfRow.mapsOut == Try.prog.mapsAmong Try.f10.resultTypes.toList)) = true := by kernel_rfl
theorem fnExactOptionsOf_fact16 : ((Rows.fnExactOptionsOfRow.loops == (Try.f10.params.toList ++ Rows.fnExactOptionsOfSpec.plain.varTypes Try.prog).any (Try.prog.loopsFrom ·))) = true := by kernel_rfl
theorem fnExactOptionsOf_fact17 : ((Rows.fnExactOptionsOfRow.wideKeys == (Try.f10.params.toList ++ Rows.fnExactOptionsOfSpec.plain.varTypes Try.prog ++ Try.f10.resultTypes.toList).any (Try.prog.wideKeysFrom ·))) = true := by kernel_rfl
theorem fnExactOptionsOf_fact18 : (Rows.fnExactOptionsOfSpec.vars.all (Try.prog.varReadable ·)) = true := by kernel_rfl
theorem fnExactOptionsOf_fact19 : (Try.f10.resultTypes.all (fun t => Try.prog.readableRec t && decide (t < Try.prog.types.size))) = true := by kernel_rfl
theorem fnExactOptionsOf_fact20 : ((Rows.fnExactOptionsOfRow.ifacesOut == Try.f10.resultTypes.toList.any (Try.prog.ifacesRec ·))) = true := by kernel_rfl
theorem fnExactOptionsOf_fact21 : ((Rows.fnExactOptionsOfRow.loopsOut == Try.f10.resultTypes.toList.any (Try.prog.loopsFrom ·))) = true := by kernel_rfl
theorem fnExactOptionsOf_fact22 : ((Rows.fnExactOptionsOfRow.plainKeys == Try.prog.plainKeys)) = true := by kernel_rfl
theorem fnExactOptionsOf_fact23 : (Rows.fnExactOptionsOfRow.shortTexts.isNone) = true := by kernel_rfl
theorem fnExactOptionsOf_fact24 : (Try.prog.stopsHeard) = true := by kernel_rfl
theorem fnExactOptionsOf_fact25 : (Try.prog.mayEnter) = true := fact_mayEnter
theorem fnExactOptionsOf_fact26 : ((Rows.fnExactOptionsOfRow.lifted == Try.prog.liftsFinal)) = true := by rw [fact_liftsFinal]; rfl
theorem fnExactOptionsOf_fact27 : ((Try.prog.make == some Rows.fnExactOptionsOfRow.make)) = true := by rw [fact_make]; rfl
theorem fnExactOptionsOf_fact28 : Rows.fnExactOptionsOfRow.domain = [] ∧ Rows.fnExactOptionsOfRow.kinds = [] := ⟨rfl, rfl⟩
theorem fnExactOptionsOf_fact29 : ((Rows.fnExactOptionsOfRow.pinned == Rows.fnExactOptionsOfRow.pinnedBy)) = true := by kernel_rfl
theorem fnExactOptionsOf_fact30 : ((Rows.fnExactOptionsOfRow.veiled == (Try.f10.params.toList ++ Rows.fnExactOptionsOfSpec.plain.varTypes Try.prog ++ Try.f10.resultTypes.toList).any (Try.prog.veiledRec ·))) = true := by kernel_rfl
theorem fnExactOptionsOf_fact31 : (Rows.fnExactOptionsOfRow.veiledFits Try.prog Try.f10.params.toList (Try.f10.params.toList ++ Rows.fnExactOptionsOfSpec.plain.varTypes Try.prog ++ Try.f10.resultTypes.toList)) = true := by kernel_rfl
theorem fnExactOptionsOf_facts : joinedFacts Try.prog 10 Try.f10 Rows.fnExactOptionsOfSpec Rows.fnExactOptionsOfRow = true :=
  joinedFacts_of fnExactOptionsOf_fact0 fnExactOptionsOf_fact1 fnExactOptionsOf_fact2 fnExactOptionsOf_fact3 fnExactOptionsOf_fact4 fnExactOptionsOf_fact5 fnExactOptionsOf_fact6 fnExactOptionsOf_fact7 fnExactOptionsOf_fact8 fnExactOptionsOf_fact9 fnExactOptionsOf_fact10 fnExactOptionsOf_fact11 fnExactOptionsOf_fact12 fnExactOptionsOf_fact13 fnExactOptionsOf_fact14 fnExactOptionsOf_fact15 fnExactOptionsOf_fact16 fnExactOptionsOf_fact17 fnExactOptionsOf_fact18 fnExactOptionsOf_fact19 fnExactOptionsOf_fact20 fnExactOptionsOf_fact21 fnExactOptionsOf_fact22 fnExactOptionsOf_fact23 fnExactOptionsOf_fact24 fnExactOptionsOf_fact25 fnExactOptionsOf_fact26 fnExactOptionsOf_fact27 fnExactOptionsOf_fact28 fnExactOptionsOf_fact29 fnExactOptionsOf_fact30 fnExactOptionsOf_fact31

set_option maxRecDepth 100000 in
theorem fnExactOptionsOf_lifted (os : Os) (started : os.Started) (H : Type) (enc : TypeId × Value → H) :
    ReturnsInHanded {} Try.checked os 10 .any (Rows.fnExactOptionsOfSpec.pre6 enc Try.prog Try.f10 Rows.fnExactOptionsOfRow.domain false) (Rows.fnExactOptionsOfSpec.post enc Try.prog Try.f10 false true false false) := by
  refine returnsInHanded_of_change (C := Try.checked) own started (by kernel_rfl) Try.func10
    (ChangeSpec.witness6 (enc := enc) (C := Try.checked) false ⟨#[], #[.agg #[.int .i64 0, .int .i64 0, .slice none 0 0], .slice none 0 0, .slice none 0 0, .int .i64 0], []⟩ 8 (by kernel_rfl) (by kernel_rfl) (by kernel_rfl) (by kernel_rfl)) ?_
  intro W base args ds gs before hval0 hW hcnd _
  have hval : ∀ (j : Nat) t v, Try.f10.params[j]? = some t → args[j]? = some v → Value.okWide Try.prog W .any base t v := hval0
  have hW' : DataW.Whole enc Try.prog Try.f10.params.toList Rows.fnExactOptionsOfSpec.vars false W args.toList ds gs before := hW
  obtain ⟨p, q, hA0, hV, hpq, hfz, hnd⟩ := hW
  have hA : DataW.TrodAll enc Try.prog W 0 (fun _ => true) true Try.f10.params.toList args.toList ds p := hA0
  rw [Try.params10] at hA hval
  obtain ⟨v0, v1, v2, v3, d0, d1, d2, d3, p0, p1, p2, p3, rfl, rfl, rfl, h0, h1, h2, h3⟩ := trodAll_four hA
  obtain ⟨rfl, rfl⟩ := trodVars_none hV
  rw [List.append_nil] at hpq
  subst hpq
  obtain ⟨W0, T0, cs0, _, _, hl0, r0⟩ := read_region Try.underlying24 one24 cells24 Try.underlying3 Try.underlying3 Try.underlying22 Try.underlying4 cells4 (hval 0 24 v0 rfl rfl) h0
  obtain ⟨xs1, hl1, _, r1⟩ := read_ints Try.underlying25 Try.underlying3 cells3 (hval 1 25 v1 rfl rfl) h1
  obtain ⟨xs2, hl2, _, r2⟩ := read_ints Try.underlying25 Try.underlying3 cells3 (hval 2 25 v2 rfl rfl) h2
  obtain ⟨x3, hl3, rfl⟩ := read_int Try.underlying3 (hval 3 3 v3 rfl rfl) h3
  have r3 : R (cin W [] fun _ => False) (.v (.int .i64 x3)) [] (.int .i64 x3) := by rw [R]; exact ⟨rfl, rfl⟩
  exact law_post (tb := 4) (s_FnExactOptionsOf W0 T0 cs0 xs1 xs2 x3 hl0) (RL.cons0 r0 (RL.cons0 r1 (RL.cons0 r2 (RL.cons0 r3 RL.nil0)))) laidOut
    (by
      rw [Try.params10]
      intro t ht
      simp at ht
      rcases ht with rfl | rfl | rfl
      · exact ⟨readable.1, of_decide_eq_true (by kernel_rfl)⟩
      · exact ⟨readable.2.1, of_decide_eq_true (by kernel_rfl)⟩
      · exact ⟨readable.2.2, of_decide_eq_true (by kernel_rfl)⟩) hW' rfl rfl (by kernel_rfl) Try.underlying4

theorem fnExactOptionsOf_holds : Rows.FnExactOptionsOfSaid :=
  OpenClaim.holds_of_wide 10 Try.f10 rfl rfl rfl rfl rfl rfl rfl ⟨rfl, rfl, rfl, rfl, rfl⟩ rfl rfl rfl rfl rfl (by kernel_rfl) Try.func10 fnExactOptionsOf_facts
    (of_decide_eq_true (by kernel_rfl)) (by unfold Func.isWrapper; first | (rw [if_pos (by decide +kernel)]; kernel_rfl) | (rw [if_neg (by decide +kernel)]; exact ⟨rfl, rfl⟩))
    (fun os started H enc _ => fnExactOptionsOf_lifted os started H enc)

end Go.Proofs.Ytjldabnbfdgbhaa
