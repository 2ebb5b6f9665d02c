/- For every list of bytes the law FnOptionsOf answers true, and the bytes read as before. -/
import Derived.Test.YtlcoaglnegibkaaJB
import Derived.Test.YtlcoaglnegibkaaBO

set_option linter.unusedSimpArgs false
set_option linter.unusedVariables false

namespace Go.Proofs.Ytlcoaglnegibkaa
open Go.ChangeShapes Go.WideShapes Go.ChangeAt Go.RowKit Go.Proofs.Dev
theorem fnOptionsOf_fact0 : (Rows.fnOptionsOfRow.wf (OpenSpec.ofChange Rows.fnOptionsOfSpec)) = true := by kernel_rfl
theorem fnOptionsOf_fact1 : (laidOutB Try.prog) = true := by kernel_rfl
theorem fnOptionsOf_fact2 : (mapsRowed Try.prog) = true := by kernel_rfl
theorem fnOptionsOf_fact3 : (Try.f8.params.all (Try.prog.readableRec ·)) = true := by kernel_rfl
theorem fnOptionsOf_fact4 : (namedTie Try.prog Rows.fnOptionsOfRow.named Rows.fnOptionsOfSpec.vars) = true := by kernel_rfl
theorem fnOptionsOf_fact5 : ((Rows.fnOptionsOfRow.stops == [])) = true := by kernel_rfl
theorem fnOptionsOf_fact6 : ((Try.prog.stops == [])) = true := by kernel_rfl
theorem fnOptionsOf_fact7 : ((Rows.fnOptionsOfRow.knobs == [])) = true := by kernel_rfl
theorem fnOptionsOf_fact8 : ((Try.prog.stopKnobs == [])) = true := by kernel_rfl
theorem fnOptionsOf_fact9 : ((Rows.fnOptionsOfRow.inPlace == Try.prog.inPlace 8)) = true := by kernel_rfl
theorem fnOptionsOf_fact10 : ((Rows.fnOptionsOfRow.unfollowed == Try.prog.unfollowed 8)) = true := by kernel_rfl
theorem fnOptionsOf_fact11 : ((Rows.fnOptionsOfRow.recurses == Try.prog.recurses 8)) = true := by kernel_rfl
theorem fnOptionsOf_fact12 : ((Rows.fnOptionsOfRow.named == Try.prog.varsNamed 8)) = true := by kernel_rfl
theorem fnOptionsOf_fact13 : ((Rows.fnOptionsOfRow.maps == (Try.f8.params.toList ++ Rows.fnOptionsOfSpec.plain.varTypes Try.prog).any (Try.prog.mapsRec ·))) = true := by kernel_rfl
theorem fnOptionsOf_fact14 : ((Rows.fnOptionsOfRow.ifaces == (Try.f8.params.toList ++ Rows.fnOptionsOfSpec.plain.varTypes Try.prog).any (Try.prog.ifacesRec ·))) = true := by kernel_rfl
theorem fnOptionsOf_fact15 : ((Rows.fnOptionsOfRow.mapsOut == Try.prog.mapsAmong Try.f8.resultTypes.toList)) = true := by kernel_rfl
theorem fnOptionsOf_fact16 : ((Rows.fnOptionsOfRow.loops == (Try.f8.params.toList ++ Rows.fnOptionsOfSpec.plain.varTypes Try.prog).any (Try.prog.loopsFrom ·))) = true := by kernel_rfl
theorem fnOptionsOf_fact17 : ((Rows.fnOptionsOfRow.wideKeys == (Try.f8.params.toList ++ Rows.fnOptionsOfSpec.plain.varTypes Try.prog ++ Try.f8.resultTypes.toList).any (Try.prog.wideKeysFrom ·))) = true := by kernel_rfl
theorem fnOptionsOf_fact18 : (Rows.fnOptionsOfSpec.vars.all (Try.prog.varReadable ·)) = true := by kernel_rfl
theorem fnOptionsOf_fact19 : (Try.f8.resultTypes.all (fun t => Try.prog.readableRec t && decide (t < Try.prog.types.size))) = true := by kernel_rfl
theorem fnOptionsOf_fact20 : ((Rows.fnOptionsOfRow.ifacesOut == Try.f8.resultTypes.toList.any (Try.prog.ifacesRec ·))) = true := by kernel_rfl
theorem fnOptionsOf_fact21 : ((Rows.fnOptionsOfRow.loopsOut == Try.f8.resultTypes.toList.any (Try.prog.loopsFrom ·))) = true := by kernel_rfl
theorem fnOptionsOf_fact22 : ((Rows.fnOptionsOfRow.plainKeys == Try.prog.plainKeys)) = true := by kernel_rfl
theorem fnOptionsOf_fact23 : (Rows.fnOptionsOfRow.shortTexts.isNone) = true := by kernel_rfl
theorem fnOptionsOf_fact24 : (Try.prog.stopsHeard) = true := by kernel_rfl
theorem fnOptionsOf_fact25 : (Try.prog.mayEnter) = true := fact_mayEnter
theorem fnOptionsOf_fact26 : ((Rows.fnOptionsOfRow.lifted == Try.prog.liftsFinal)) = true := by rw [fact_liftsFinal]; rfl
theorem fnOptionsOf_fact27 : ((Try.prog.make == some Rows.fnOptionsOfRow.make)) = true := by rw [fact_make]; rfl
theorem fnOptionsOf_fact28 : Rows.fnOptionsOfRow.domain = [] ∧ Rows.fnOptionsOfRow.kinds = [] := ⟨rfl, rfl⟩
theorem fnOptionsOf_fact29 : ((Rows.fnOptionsOfRow.pinned == Rows.fnOptionsOfRow.pinnedBy)) = true := by kernel_rfl
theorem fnOptionsOf_fact30 : ((Rows.fnOptionsOfRow.veiled == (Try.f8.params.toList ++ Rows.fnOptionsOfSpec.plain.varTypes Try.prog ++ Try.f8.resultTypes.toList).any (Try.prog.veiledRec ·))) = true := by kernel_rfl
theorem fnOptionsOf_fact31 : (Rows.fnOptionsOfRow.veiledFits Try.prog Try.f8.params.toList (Try.f8.params.toList ++ Rows.fnOptionsOfSpec.plain.varTypes Try.prog ++ Try.f8.resultTypes.toList)) = true := by kernel_rfl
theorem fnOptionsOf_facts : joinedFacts Try.prog 8 Try.f8 Rows.fnOptionsOfSpec Rows.fnOptionsOfRow = true :=
  joinedFacts_of fnOptionsOf_fact0 fnOptionsOf_fact1 fnOptionsOf_fact2 fnOptionsOf_fact3 fnOptionsOf_fact4 fnOptionsOf_fact5 fnOptionsOf_fact6 fnOptionsOf_fact7 fnOptionsOf_fact8 fnOptionsOf_fact9 fnOptionsOf_fact10 fnOptionsOf_fact11 fnOptionsOf_fact12 fnOptionsOf_fact13 fnOptionsOf_fact14 fnOptionsOf_fact15 fnOptionsOf_fact16 fnOptionsOf_fact17 fnOptionsOf_fact18 fnOptionsOf_fact19 fnOptionsOf_fact20 fnOptionsOf_fact21 fnOptionsOf_fact22 fnOptionsOf_fact23 fnOptionsOf_fact24 fnOptionsOf_fact25 fnOptionsOf_fact26 fnOptionsOf_fact27 fnOptionsOf_fact28 fnOptionsOf_fact29 fnOptionsOf_fact30 fnOptionsOf_fact31

set_option maxRecDepth 100000 in
theorem fnOptionsOf_lifted (os : Os) (started : os.Started) (H : Type) (enc : TypeId × Value → H) :
    ReturnsInHanded {} Try.checked os 8 .any (Rows.fnOptionsOfSpec.pre6 enc Try.prog Try.f8 Rows.fnOptionsOfRow.domain false) (Rows.fnOptionsOfSpec.post enc Try.prog Try.f8 false true false false) := by
  refine returnsInHanded_of_change (C := Try.checked) own started (by kernel_rfl) Try.func8
    (ChangeSpec.witness6 (enc := enc) (C := Try.checked) false ⟨#[], #[.slice none 0 0], []⟩ 8 (by kernel_rfl) (by kernel_rfl) (by kernel_rfl) (by kernel_rfl)) ?_
  intro W base args ds gs before hval0 hW hcnd _
  have hval : ∀ (j : Nat) t v, Try.f8.params[j]? = some t → args[j]? = some v → Value.okWide Try.prog W .any base t v := hval0
  have hW' : DataW.Whole enc Try.prog Try.f8.params.toList Rows.fnOptionsOfSpec.vars false W args.toList ds gs before := hW
  obtain ⟨p, q, hA0, hV, hpq, hfz, hnd⟩ := hW
  have hA : DataW.TrodAll enc Try.prog W 0 (fun _ => true) true Try.f8.params.toList args.toList ds p := hA0
  rw [Try.params8] at hA hval
  obtain ⟨v0, d0, rfl, rfl, h0⟩ := trodAll_one hA
  obtain ⟨rfl, rfl⟩ := trodVars_none hV
  rw [List.append_nil] at hpq
  subst hpq
  obtain ⟨xs0, hl0, hB0, r0⟩ := read_bytes Try.underlying22 Try.underlying5 cells5 (hval 0 22 v0 rfl rfl) h0
  exact law_post (tb := 4) (byte_law (l_FnOptionsOf xs0 hB0 )) (RL.cons0 r0 RL.nil0) laidOut
    (by
      rw [Try.params8]
      intro t ht
      simp at ht
      subst ht
      exact ⟨readable22, of_decide_eq_true (by kernel_rfl)⟩) hW' rfl rfl (by kernel_rfl) Try.underlying4

theorem fnOptionsOf_holds : Rows.FnOptionsOfSaid :=
  OpenClaim.holds_of_wide 8 Try.f8 rfl rfl rfl rfl rfl rfl rfl ⟨rfl, rfl, rfl, rfl, rfl⟩ rfl rfl rfl rfl rfl (by kernel_rfl) Try.func8 fnOptionsOf_facts
    (of_decide_eq_true (by kernel_rfl)) (by unfold Func.isWrapper; first | (rw [if_pos (by decide +kernel)]; kernel_rfl) | (rw [if_neg (by decide +kernel)]; exact ⟨rfl, rfl⟩))
    (fun os started H enc _ => fnOptionsOf_lifted os started H enc)

end Go.Proofs.Ytlcoaglnegibkaa
