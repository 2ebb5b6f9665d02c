/- FnExactRelabel: for every region and every two lists of numbers the law answers true, and the arguments read as before; no condition. -/
import Derived.Test.YtjldabnbfdgbhaaJ
import Derived.Test.YtjldabnbfdgbhaaR

set_option linter.unusedSimpArgs false
set_option linter.unusedVariables false

namespace Go.Proofs.Ytjldabnbfdgbhaa
open Go.ChangeShapes Go.WideShapes Go.ChangeAt Go.RowKit Go.Proofs.Dev
theorem fnExactRelabel_fact0 : (Rows.fnExactRelabelRow.wf (OpenSpec.ofChange Rows.fnExactRelabelSpec)) = true := by kernel_rfl
theorem fnExactRelabel_fact1 : (laidOutB Try.prog) = true := by kernel_rfl
theorem fnExactRelabel_fact2 : (mapsRowed Try.prog) = true := by kernel_rfl
theorem fnExactRelabel_fact3 : (Try.f6.params.all (Try.prog.readableRec ·)) = true := by kernel_rfl
theorem fnExactRelabel_fact4 : (namedTie Try.prog Rows.fnExactRelabelRow.named Rows.fnExactRelabelSpec.vars) = true := by kernel_rfl
theorem fnExactRelabel_fact5 : ((Rows.fnExactRelabelRow.stops == [])) = true := by kernel_rfl
theorem fnExactRelabel_fact6 : ((Try.prog.stops == [])) = true := by kernel_rfl
theorem fnExactRelabel_fact7 : ((Rows.fnExactRelabelRow.knobs == [])) = true := by kernel_rfl
theorem fnExactRelabel_fact8 : ((Try.prog.stopKnobs == [])) = true := by kernel_rfl
theorem fnExactRelabel_fact9 : ((Rows.fnExactRelabelRow.inPlace == Try.prog.inPlace 6)) = true := by kernel_rfl
theorem fnExactRelabel_fact10 : ((Rows.fnExactRelabelRow.unfollowed == Try.prog.unfollowed 6)) = true := by kernel_rfl
theorem fnExactRelabel_fact11 : ((Rows.fnExactRelabelRow.recurses == Try.prog.recurses 6)) = true := by kernel_rfl
theorem fnExactRelabel_fact12 : ((Rows.fnExactRelabelRow.named == Try.prog.varsNamed 6)) = true := by kernel_rfl
theorem fnExactRelabel_fact13 : ((Rows.fnExactRelabelRow.maps == (Try.f6.params.toList ++ Rows.fnExactRelabelSpec.plain.varTypes Try.prog).any (Try.prog.mapsRec ·))) = true := by kernel_rfl
theorem fnExactRelabel_fact14 : ((Rows.fnExactRelabelRow.ifaces == (Try.f6.params.toList ++ Rows.fnExactRelabelSpec.plain.varTypes Try.prog).any (Try.prog.ifacesRec ·))) = true := by kernel_rfl
theorem fnExactRelabel_fact15 : ((Rows.fnExactRelabelRow.mapsOut == Try.prog.mapsAmong Try.f6.resultTypes.toList)) = true := by kernel_rfl
theorem fnExactRelabel_fact16 : ((Rows.fnExactRelabelRow.loops == (Try.f6.params.toList ++ Rows.fnExactRelabelSpec.plain.varTypes Try.prog).any (Try.prog.loopsFrom ·))) = true := by kernel_rfl
theorem fnExactRelabel_fact17 : ((Rows.fnExactRelabelRow.wideKeys == (Try.f6.params.toList ++ Rows.fnExactRelabelSpec.plain.varTypes Try.prog ++ Try.f6.resultTypes.toList).any (Try.prog.wideKeysFrom ·))) = true := by kernel_rfl
theorem fnExactRelabel_fact18 : (Rows.fnExactRelabelSpec.vars.all (Try.prog.varReadable ·)) = true := by kernel_rfl
theorem fnExactRelabel_fact19 : (Try.f6.resultTypes.all (fun t => Try.prog.readableRec t && decide (t < Try.prog.types.size))) = true := by kernel_rfl
theorem fnExactRelabel_fact20 : ((Rows.fnExactRelabelRow.ifacesOut == Try.f6.resultTypes.toList.any (Try.prog.ifacesRec ·))) = true := by kernel_rfl
theorem fnExactRelabel_fact21 : ((Rows.fnExactRelabelRow.loopsOut == Try.f6.resultTypes.toList.any (Try.prog.loopsFrom ·))) = true := by kernel_rfl
theorem fnExactRelabel_fact22 : ((Rows.fnExactRelabelRow.plainKeys == Try.prog.plainKeys)) = true := by kernel_rfl
theorem fnExactRelabel_fact23 : (Rows.fnExactRelabelRow.shortTexts.isNone) = true := by kernel_rfl
theorem fnExactRelabel_fact24 : (Try.prog.stopsHeard) = true := by kernel_rfl
theorem fnExactRelabel_fact25 : (Try.prog.mayEnter) = true := fact_mayEnter
theorem fnExactRelabel_fact26 : ((Rows.fnExactRelabelRow.lifted == Try.prog.liftsFinal)) = true := by rw [fact_liftsFinal]; rfl
theorem fnExactRelabel_fact27 : ((Try.prog.make == some Rows.fnExactRelabelRow.make)) = true := by rw [fact_make]; rfl
theorem fnExactRelabel_fact28 : Rows.fnExactRelabelRow.domain = [] ∧ Rows.fnExactRelabelRow.kinds = [] := ⟨rfl, rfl⟩
theorem fnExactRelabel_fact29 : ((Rows.fnExactRelabelRow.pinned == Rows.fnExactRelabelRow.pinnedBy)) = true := by kernel_rfl
theorem fnExactRelabel_fact30 : ((Rows.fnExactRelabelRow.veiled == (Try.f6.params.toList ++ Rows.fnExactRelabelSpec.plain.varTypes Try.prog ++ Try.f6.resultTypes.toList).any (Try.prog.veiledRec ·))) = true := by kernel_rfl
theorem fnExactRelabel_fact31 : (Rows.fnExactRelabelRow.veiledFits Try.prog Try.f6.params.toList (Try.f6.params.toList ++ Rows.fnExactRelabelSpec.plain.varTypes Try.prog ++ Try.f6.resultTypes.toList)) = true := by kernel_rfl
theorem fnExactRelabel_facts : joinedFacts Try.prog 6 Try.f6 Rows.fnExactRelabelSpec Rows.fnExactRelabelRow = true :=
  joinedFacts_of fnExactRelabel_fact0 fnExactRelabel_fact1 fnExactRelabel_fact2 fnExactRelabel_fact3 fnExactRelabel_fact4 fnExactRelabel_fact5 fnExactRelabel_fact6 fnExactRelabel_fact7 fnExactRelabel_fact8 fnExactRelabel_fact9 fnExactRelabel_fact10 fnExactRelabel_fact11 fnExactRelabel_fact12 fnExactRelabel_fact13 fnExactRelabel_fact14 fnExactRelabel_fact15 fnExactRelabel_fact16 fnExactRelabel_fact17 fnExactRelabel_fact18 fnExactRelabel_fact19 fnExactRelabel_fact20 fnExactRelabel_fact21 fnExactRelabel_fact22 fnExactRelabel_fact23 fnExactRelabel_fact24 fnExactRelabel_fact25 fnExactRelabel_fact26 fnExactRelabel_fact27 fnExactRelabel_fact28 fnExactRelabel_fact29 fnExactRelabel_fact30 fnExactRelabel_fact31

set_option maxRecDepth 100000 in
theorem fnExactRelabel_lifted (os : Os) (started : os.Started) (H : Type) (enc : TypeId × Value → H) :
    ReturnsInHanded {} Try.checked os 6 .any (Rows.fnExactRelabelSpec.pre6 enc Try.prog Try.f6 Rows.fnExactRelabelRow.domain false) (Rows.fnExactRelabelSpec.post enc Try.prog Try.f6 false true false false) := by
  refine returnsInHanded_of_change (C := Try.checked) own started (by kernel_rfl) Try.func6
    (ChangeSpec.witness6 (enc := enc) (C := Try.checked) false ⟨#[], #[.agg #[.int .i64 0, .int .i64 0, .slice none 0 0], .slice none 0 0, .slice none 0 0], []⟩ 8 (by kernel_rfl) (by kernel_rfl) (by kernel_rfl) (by kernel_rfl)) ?_
  intro W base args ds gs before hval0 hW hcnd _
  have hval : ∀ (j : Nat) t v, Try.f6.params[j]? = some t → args[j]? = some v → Value.okWide Try.prog W .any base t v := hval0
  have hW' : DataW.Whole enc Try.prog Try.f6.params.toList Rows.fnExactRelabelSpec.vars false W args.toList ds gs before := hW
  obtain ⟨p, q, hA0, hV, hpq, hfz, hnd⟩ := hW
  have hA : DataW.TrodAll enc Try.prog W 0 (fun _ => true) true Try.f6.params.toList args.toList ds p := hA0
  rw [Try.params6] at hA hval
  obtain ⟨v0, v1, v2, d0, d1, d2, p0, p1, p2, rfl, rfl, rfl, h0, h1, h2⟩ := trodAll_three hA
  obtain ⟨rfl, rfl⟩ := trodVars_none hV
  rw [List.append_nil] at hpq
  subst hpq
  obtain ⟨W0, T0, cs0, _, _, hl0, r0⟩ := read_region Try.underlying24 one24 cells24 Try.underlying3 Try.underlying3 Try.underlying22 Try.underlying4 cells4 (hval 0 24 v0 rfl rfl) h0
  obtain ⟨xs1, hl1, _, r1⟩ := read_ints Try.underlying25 Try.underlying3 cells3 (hval 1 25 v1 rfl rfl) h1
  obtain ⟨xs2, hl2, _, r2⟩ := read_ints Try.underlying25 Try.underlying3 cells3 (hval 2 25 v2 rfl rfl) h2
  exact law_post (tb := 4) (s_FnExactRelabel W0 T0 cs0 xs1 xs2 hl0) (RL.cons0 r0 (RL.cons0 r1 (RL.cons0 r2 RL.nil0))) laidOut
    (by
      rw [Try.params6]
      intro t ht
      simp at ht
      rcases ht with rfl | rfl
      · exact ⟨readable.1, of_decide_eq_true (by kernel_rfl)⟩
      · exact ⟨readable.2.1, of_decide_eq_true (by kernel_rfl)⟩) hW' rfl rfl (by kernel_rfl) Try.underlying4

theorem fnExactRelabel_holds : Rows.FnExactRelabelSaid :=
  OpenClaim.holds_of_wide 6 Try.f6 rfl rfl rfl rfl rfl rfl rfl ⟨rfl, rfl, rfl, rfl, rfl⟩ rfl rfl rfl rfl rfl (by kernel_rfl) Try.func6 fnExactRelabel_facts
    (of_decide_eq_true (by kernel_rfl)) (by unfold Func.isWrapper; first | (rw [if_pos (by decide +kernel)]; kernel_rfl) | (rw [if_neg (by decide +kernel)]; exact ⟨rfl, rfl⟩))
    (fun os started H enc _ => fnExactRelabel_lifted os started H enc)

end Go.Proofs.Ytjldabnbfdgbhaa
