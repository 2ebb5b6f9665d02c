/- For every list of bytes the law FnRelabel answers true, and the bytes read as before. -/
import Derived.Test.YtlcoaglnegibkaaJB
import Derived.Test.YtlcoaglnegibkaaBP

set_option linter.unusedSimpArgs false
set_option linter.unusedVariables false

namespace Go.Proofs.Ytlcoaglnegibkaa
open Go.ChangeShapes Go.WideShapes Go.ChangeAt Go.RowKit Go.Proofs.Dev
theorem fnRelabel_fact0 : (Rows.fnRelabelRow.wf (OpenSpec.ofChange Rows.fnRelabelSpec)) = true := by kernel_rfl
theorem fnRelabel_fact1 : (laidOutB Try.prog) = true := by kernel_rfl
theorem fnRelabel_fact2 : (mapsRowed Try.prog) = true := by kernel_rfl
theorem fnRelabel_fact3 : (Try.f11.params.all (Try.prog.readableRec ·)) = true := by kernel_rfl
theorem fnRelabel_fact4 : (namedTie Try.prog Rows.fnRelabelRow.named Rows.fnRelabelSpec.vars) = true := by kernel_rfl
theorem fnRelabel_fact5 : ((Rows.fnRelabelRow.stops == [])) = true := by kernel_rfl
theorem fnRelabel_fact6 : ((Try.prog.stops == [])) = true := by kernel_rfl
theorem fnRelabel_fact7 : ((Rows.fnRelabelRow.knobs == [])) = true := by kernel_rfl
theorem fnRelabel_fact8 : ((Try.prog.stopKnobs == [])) = true := by kernel_rfl
theorem fnRelabel_fact9 : ((Rows.fnRelabelRow.inPlace == Try.prog.inPlace 11)) = true := by kernel_rfl
theorem fnRelabel_fact10 : ((Rows.fnRelabelRow.unfollowed == Try.prog.unfollowed 11)) = true := by kernel_rfl
theorem fnRelabel_fact11 : ((Rows.fnRelabelRow.recurses == Try.prog.recurses 11)) = true := by kernel_rfl
theorem fnRelabel_fact12 : ((Rows.fnRelabelRow.named == Try.prog.varsNamed 11)) = true := by kernel_rfl
theorem fnRelabel_fact13 : ((Rows.fnRelabelRow.maps == (Try.f11.params.toList ++ Rows.fnRelabelSpec.plain.varTypes Try.prog).any (Try.prog.mapsRec ·))) = true := by kernel_rfl
theorem fnRelabel_fact14 : ((Rows.fnRelabelRow.ifaces == (Try.f11.params.toList ++ Rows.fnRelabelSpec.plain.varTypes Try.prog).any (Try.prog.ifacesRec ·))) = true := by kernel_rfl
theorem fnRelabel_fact15 : ((Rows.fnRelabelRow.mapsOut == Try.prog.mapsAmong Try.f11.resultTypes.toList)) = true := by kernel_rfl
theorem fnRelabel_fact16 : ((Rows.fnRelabelRow.loops == (Try.f11.params.toList ++ Rows.fnRelabelSpec.plain.varTypes Try.prog).any (Try.prog.loopsFrom ·))) = true := by kernel_rfl
theorem fnRelabel_fact17 : ((Rows.fnRelabelRow.wideKeys == (Try.f11.params.toList ++ Rows.fnRelabelSpec.plain.varTypes Try.prog ++ Try.f11.resultTypes.toList).any (Try.prog.wideKeysFrom ·))) = true := by kernel_rfl
theorem fnRelabel_fact18 : (Rows.fnRelabelSpec.vars.all (Try.prog.varReadable ·)) = true := by kernel_rfl
theorem fnRelabel_fact19 : (Try.f11.resultTypes.all (fun t => Try.prog.readableRec t && decide (t < Try.prog.types.size))) = true := by kernel_rfl
theorem fnRelabel_fact20 : ((Rows.fnRelabelRow.ifacesOut == Try.f11.resultTypes.toList.any (Try.prog.ifacesRec ·))) = true := by kernel_rfl
theorem fnRelabel_fact21 : ((Rows.fnRelabelRow.loopsOut == Try.f11.resultTypes.toList.any (Try.prog.loopsFrom ·))) = true := by kernel_rfl
theorem fnRelabel_fact22 : ((Rows.fnRelabelRow.plainKeys == Try.prog.plainKeys)) = true := by kernel_rfl
theorem fnRelabel_fact23 : (Rows.fnRelabelRow.shortTexts.isNone) = true := by kernel_rfl
theorem fnRelabel_fact24 : (Try.prog.stopsHeard) = true := by kernel_rfl
theorem fnRelabel_fact25 : (Try.prog.mayEnter) = true := fact_mayEnter
theorem fnRelabel_fact26 : ((Rows.fnRelabelRow.lifted == Try.prog.liftsFinal)) = true := by rw [fact_liftsFinal]; rfl
theorem fnRelabel_fact27 : ((Try.prog.make == some Rows.fnRelabelRow.make)) = true := by rw [fact_make]; rfl
theorem fnRelabel_fact28 : Rows.fnRelabelRow.domain = [] ∧ Rows.fnRelabelRow.kinds = [] := ⟨rfl, rfl⟩
theorem fnRelabel_fact29 : ((Rows.fnRelabelRow.pinned == Rows.fnRelabelRow.pinnedBy)) = true := by kernel_rfl
theorem fnRelabel_fact30 : ((Rows.fnRelabelRow.veiled == (Try.f11.params.toList ++ Rows.fnRelabelSpec.plain.varTypes Try.prog ++ Try.f11.resultTypes.toList).any (Try.prog.veiledRec ·))) = true := by kernel_rfl
theorem fnRelabel_fact31 : (Rows.fnRelabelRow.veiledFits Try.prog Try.f11.params.toList (Try.f11.params.toList ++ Rows.fnRelabelSpec.plain.varTypes Try.prog ++ Try.f11.resultTypes.toList)) = true := by kernel_rfl
theorem fnRelabel_facts : joinedFacts Try.prog 11 Try.f11 Rows.fnRelabelSpec Rows.fnRelabelRow = true :=
  joinedFacts_of fnRelabel_fact0 fnRelabel_fact1 fnRelabel_fact2 fnRelabel_fact3 fnRelabel_fact4 fnRelabel_fact5 fnRelabel_fact6 fnRelabel_fact7 fnRelabel_fact8 fnRelabel_fact9 fnRelabel_fact10 fnRelabel_fact11 fnRelabel_fact12 fnRelabel_fact13 fnRelabel_fact14 fnRelabel_fact15 fnRelabel_fact16 fnRelabel_fact17 fnRelabel_fact18 fnRelabel_fact19 fnRelabel_fact20 fnRelabel_fact21 fnRelabel_fact22 fnRelabel_fact23 fnRelabel_fact24 fnRelabel_fact25 fnRelabel_fact26 fnRelabel_fact27 fnRelabel_fact28 fnRelabel_fact29 fnRelabel_fact30 fnRelabel_fact31

set_option maxRecDepth 100000 in
theorem fnRelabel_lifted (os : Os) (started : os.Started) (H : Type) (enc : TypeId × Value → H) :
    ReturnsInHanded {} Try.checked os 11 .any (Rows.fnRelabelSpec.pre6 enc Try.prog Try.f11 Rows.fnRelabelRow.domain false) (Rows.fnRelabelSpec.post enc Try.prog Try.f11 false true false false) := by
  refine returnsInHanded_of_change (C := Try.checked) own started (by kernel_rfl) Try.func11
    (ChangeSpec.witness6 (enc := enc) (C := Try.checked) false ⟨#[], #[.slice none 0 0], []⟩ 8 (by kernel_rfl) (by kernel_rfl) (by kernel_rfl) (by kernel_rfl)) ?_
  intro W base args ds gs before hval0 hW hcnd _
  have hval : ∀ (j : Nat) t v, Try.f11.params[j]? = some t → args[j]? = some v → Value.okWide Try.prog W .any base t v := hval0
  have hW' : DataW.Whole enc Try.prog Try.f11.params.toList Rows.fnRelabelSpec.vars false W args.toList ds gs before := hW
  obtain ⟨p, q, hA0, hV, hpq, hfz, hnd⟩ := hW
  have hA : DataW.TrodAll enc Try.prog W 0 (fun _ => true) true Try.f11.params.toList args.toList ds p := hA0
  rw [Try.params11] at hA hval
  obtain ⟨v0, d0, rfl, rfl, h0⟩ := trodAll_one hA
  obtain ⟨rfl, rfl⟩ := trodVars_none hV
  rw [List.append_nil] at hpq
  subst hpq
  obtain ⟨xs0, hl0, hB0, r0⟩ := read_bytes Try.underlying22 Try.underlying5 cells5 (hval 0 22 v0 rfl rfl) h0
  exact law_post (tb := 4) (byte_law (l_FnRelabel xs0 hB0 )) (RL.cons0 r0 RL.nil0) laidOut
    (by
      rw [Try.params11]
      intro t ht
      simp at ht
      subst ht
      exact ⟨readable22, of_decide_eq_true (by kernel_rfl)⟩) hW' rfl rfl (by kernel_rfl) Try.underlying4

theorem fnRelabel_holds : Rows.FnRelabelSaid :=
  OpenClaim.holds_of_wide 11 Try.f11 rfl rfl rfl rfl rfl rfl rfl ⟨rfl, rfl, rfl, rfl, rfl⟩ rfl rfl rfl rfl rfl (by kernel_rfl) Try.func11 fnRelabel_facts
    (of_decide_eq_true (by kernel_rfl)) (by unfold Func.isWrapper; first | (rw [if_pos (by decide +kernel)]; kernel_rfl) | (rw [if_neg (by decide +kernel)]; exact ⟨rfl, rfl⟩))
    (fun os started H enc _ => fnRelabel_lifted os started H enc)

end Go.Proofs.Ytlcoaglnegibkaa
