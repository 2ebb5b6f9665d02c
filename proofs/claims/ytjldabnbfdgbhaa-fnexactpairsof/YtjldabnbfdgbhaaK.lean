/- FnExactPairsOf: for every region and every two lists of numbers the law answers true, and the arguments read as before; no condition. -/
import Derived.Test.YtjldabnbfdgbhaaJ
import Derived.Test.YtjldabnbfdgbhaaRows
import Derived.Test.YtjldabnbfdgbhaaI

set_option linter.unusedSimpArgs false
set_option linter.unusedVariables false

namespace Go.Proofs.Ytjldabnbfdgbhaa
open Go.ChangeShapes Go.WideShapes Go.ChangeAt Go.RowKit Go.Proofs.Dev
theorem fnExactPairsOf_fact0 : (Rows.fnExactPairsOfRow.wf (OpenSpec.ofChange Rows.fnExactPairsOfSpec)) = true := by kernel_rfl
theorem fnExactPairsOf_fact1 : (laidOutB Try.prog) = true := by kernel_rfl
theorem fnExactPairsOf_fact2 : (mapsRowed Try.prog) = true := by kernel_rfl
theorem fnExactPairsOf_fact3 : (Try.f3.params.all (Try.prog.readableRec ·)) = true := by kernel_rfl
theorem fnExactPairsOf_fact4 : (namedTie Try.prog Rows.fnExactPairsOfRow.named Rows.fnExactPairsOfSpec.vars) = true := by kernel_rfl
theorem fnExactPairsOf_fact5 : ((Rows.fnExactPairsOfRow.stops == [])) = true := by kernel_rfl
theorem fnExactPairsOf_fact6 : ((Try.prog.stops == [])) = true := by kernel_rfl
theorem fnExactPairsOf_fact7 : ((Rows.fnExactPairsOfRow.knobs == [])) = true := by kernel_rfl
theorem fnExactPairsOf_fact8 : ((Try.prog.stopKnobs == [])) = true := by kernel_rfl
theorem fnExactPairsOf_fact9 : ((Rows.fnExactPairsOfRow.inPlace == Try.prog.inPlace 3)) = true := by kernel_rfl
theorem fnExactPairsOf_fact10 : ((Rows.fnExactPairsOfRow.unfollowed == Try.prog.unfollowed 3)) = true := by kernel_rfl
theorem fnExactPairsOf_fact11 : ((Rows.fnExactPairsOfRow.recurses == Try.prog.recurses 3)) = true := by kernel_rfl
theorem fnExactPairsOf_fact12 : ((Rows.fnExactPairsOfRow.named == Try.prog.varsNamed 3)) = true := by kernel_rfl
theorem fnExactPairsOf_fact13 : ((Rows.fnExactPairsOfRow.maps == (Try.f3.params.toList ++ Rows.fnExactPairsOfSpec.plain.varTypes Try.prog).any (Try.prog.mapsRec ·))) = true := by kernel_rfl
theorem fnExactPairsOf_fact14 : ((Rows.fnExactPairsOfRow.ifaces == (Try.f3.params.toList ++ Rows.fnExactPairsOfSpec.plain.varTypes Try.prog).any (Try.prog.ifacesRec ·))) = true := by kernel_rfl
theorem fnExactPairsOf_fact15 : ((Rows.fnExactPairsOfRow.mapsOut == Try.prog.mapsAmong Try.f3.resultTypes.toList)) = true := by kernel_rfl
theorem fnExactPairsOf_fact16 : ((Rows.fnExactPairsOfRow.loops == (Try.f3.params.toList ++ Rows.fnExactPairsOfSpec.plain.varTypes Try.prog).any (Try.prog.loopsFrom ·))) = true := by kernel_rfl
theorem fnExactPairsOf_fact17 : ((Rows.fnExactPairsOfRow.wideKeys == (Try.f3.params.toList ++ Rows.fnExactPairsOfSpec.plain.varTypes Try.prog ++ Try.f3.resultTypes.toList).any (Try.prog.wideKeysFrom ·))) = true := by kernel_rfl
theorem fnExactPairsOf_fact18 : (Rows.fnExactPairsOfSpec.vars.all (Try.prog.varReadable ·)) = true := by kernel_rfl
theorem fnExactPairsOf_fact19 : (Try.f3.resultTypes.all (fun t => Try.prog.readableRec t && decide (t < Try.prog.types.size))) = true := by kernel_rfl
theorem fnExactPairsOf_fact20 : ((Rows.fnExactPairsOfRow.ifacesOut == Try.f3.resultTypes.toList.any (Try.prog.ifacesRec ·))) = true := by kernel_rfl
theorem fnExactPairsOf_fact21 : ((Rows.fnExactPairsOfRow.loopsOut == Try.f3.resultTypes.toList.any (Try.prog.loopsFrom ·))) = true := by kernel_rfl
theorem fnExactPairsOf_fact22 : ((Rows.fnExactPairsOfRow.plainKeys == Try.prog.plainKeys)) = true := by kernel_rfl
theorem fnExactPairsOf_fact23 : (Rows.fnExactPairsOfRow.shortTexts.isNone) = true := by kernel_rfl
theorem fnExactPairsOf_fact24 : (Try.prog.stopsHeard) = true := by kernel_rfl
theorem fnExactPairsOf_fact25 : (Try.prog.mayEnter) = true := fact_mayEnter
theorem fnExactPairsOf_fact26 : ((Rows.fnExactPairsOfRow.lifted == Try.prog.liftsFinal)) = true := by rw [fact_liftsFinal]; rfl
theorem fnExactPairsOf_fact27 : ((Try.prog.make == some Rows.fnExactPairsOfRow.make)) = true := by rw [fact_make]; rfl
theorem fnExactPairsOf_fact28 : Rows.fnExactPairsOfRow.domain = [] ∧ Rows.fnExactPairsOfRow.kinds = [] := ⟨rfl, rfl⟩
theorem fnExactPairsOf_fact29 : ((Rows.fnExactPairsOfRow.pinned == Rows.fnExactPairsOfRow.pinnedBy)) = true := by kernel_rfl
theorem fnExactPairsOf_fact30 : ((Rows.fnExactPairsOfRow.veiled == (Try.f3.params.toList ++ Rows.fnExactPairsOfSpec.plain.varTypes Try.prog ++ Try.f3.resultTypes.toList).any (Try.prog.veiledRec ·))) = true := by kernel_rfl
theorem fnExactPairsOf_fact31 : (Rows.fnExactPairsOfRow.veiledFits Try.prog Try.f3.params.toList (Try.f3.params.toList ++ Rows.fnExactPairsOfSpec.plain.varTypes Try.prog ++ Try.f3.resultTypes.toList)) = true := by kernel_rfl
theorem fnExactPairsOf_facts : joinedFacts Try.prog 3 Try.f3 Rows.fnExactPairsOfSpec Rows.fnExactPairsOfRow = true :=
  joinedFacts_of fnExactPairsOf_fact0 fnExactPairsOf_fact1 fnExactPairsOf_fact2 fnExactPairsOf_fact3 fnExactPairsOf_fact4 fnExactPairsOf_fact5 fnExactPairsOf_fact6 fnExactPairsOf_fact7 fnExactPairsOf_fact8 fnExactPairsOf_fact9 fnExactPairsOf_fact10 fnExactPairsOf_fact11 fnExactPairsOf_fact12 fnExactPairsOf_fact13 fnExactPairsOf_fact14 fnExactPairsOf_fact15 fnExactPairsOf_fact16 fnExactPairsOf_fact17 fnExactPairsOf_fact18 fnExactPairsOf_fact19 fnExactPairsOf_fact20 fnExactPairsOf_fact21 fnExactPairsOf_fact22 fnExactPairsOf_fact23 fnExactPairsOf_fact24 fnExactPairsOf_fact25 fnExactPairsOf_fact26 fnExactPairsOf_fact27 fnExactPairsOf_fact28 fnExactPairsOf_fact29 fnExactPairsOf_fact30 fnExactPairsOf_fact31

end Go.Proofs.Ytjldabnbfdgbhaa

namespace Go.Proofs.Ytjldabnbfdgbhaa
open Go.ChangeShapes Go.WideShapes Go.ChangeAt Go.RowKit Go.Proofs.Dev

theorem own : ownKnob Try.prog.godebug = none := by kernel_rfl
theorem laidOut : laidOutB Try.prog = true := by kernel_rfl
theorem one24 : Go.Deep.oneCellFields Try.prog #[{ name := "Wide", type := 3, offset := 0, embedded := false, tag := "", pkgPath := "", byteOffset := 0 },
        { name := "Tall", type := 3, offset := 1, embedded := false, tag := "", pkgPath := "", byteOffset := 8 },
        { name := "Cells", type := 22, offset := 2, embedded := false, tag := "", pkgPath := "", byteOffset := 16 }] = true := by kernel_rfl
theorem cells24 : Try.prog.cellsOf 24 = 3 := by kernel_rfl
theorem cells3 : Try.prog.cellsOf 3 = 1 := by kernel_rfl
theorem cells4 : Try.prog.cellsOf 4 = 1 := by kernel_rfl
theorem readable : Try.prog.readableRec 24 = true ∧ Try.prog.readableRec 25 = true ∧ Try.prog.readableRec 3 = true := ⟨by kernel_rfl, by kernel_rfl, by kernel_rfl⟩

theorem RL.cons0 {C : Ctx} {a : AV} {bs : List AV} {u : Value} {us : List Value} (h : R C a [] u) (h' : RL C bs [] us) : RL C (a :: bs) [] (u :: us) := by
  rw [RL]; exact ⟨[], [], u, us, rfl, rfl, h, h'⟩
theorem RL.nil0 {C : Ctx} : RL C [] [] [] := by rw [RL]; exact ⟨rfl, rfl⟩

set_option maxRecDepth 100000 in
theorem fnExactPairsOf_lifted (os : Os) (started : os.Started) (H : Type) (enc : TypeId × Value → H) :
    ReturnsInHanded {} Try.checked os 3 .any (Rows.fnExactPairsOfSpec.pre6 enc Try.prog Try.f3 Rows.fnExactPairsOfRow.domain false) (Rows.fnExactPairsOfSpec.post enc Try.prog Try.f3 false true false false) := by
  refine returnsInHanded_of_change (C := Try.checked) own started (by kernel_rfl) Try.func3
    (ChangeSpec.witness6 (enc := enc) (C := Try.checked) false ⟨#[], #[.agg #[.int .i64 0, .int .i64 0, .slice none 0 0], .slice none 0 0, .slice none 0 0], []⟩ 8 (by kernel_rfl) (by kernel_rfl) (by kernel_rfl) (by kernel_rfl)) ?_
  intro W base args ds gs before hval0 hW hcnd _
  have hval : ∀ (j : Nat) t v, Try.f3.params[j]? = some t → args[j]? = some v → Value.okWide Try.prog W .any base t v := hval0
  have hW' : DataW.Whole enc Try.prog Try.f3.params.toList Rows.fnExactPairsOfSpec.vars false W args.toList ds gs before := hW
  obtain ⟨p, q, hA0, hV, hpq, hfz, hnd⟩ := hW
  have hA : DataW.TrodAll enc Try.prog W 0 (fun _ => true) true Try.f3.params.toList args.toList ds p := hA0
  rw [Try.params3] at hA hval
  obtain ⟨v0, v1, v2, d0, d1, d2, p0, p1, p2, rfl, rfl, rfl, h0, h1, h2⟩ := trodAll_three hA
  obtain ⟨rfl, rfl⟩ := trodVars_none hV
  rw [List.append_nil] at hpq
  subst hpq
  obtain ⟨W1, T1, cs, _, _, hcl, r0⟩ := read_region Try.underlying24 one24 cells24 Try.underlying3 Try.underlying3 Try.underlying22 Try.underlying4 cells4 (hval 0 24 v0 rfl rfl) h0
  obtain ⟨xs, hxl, _, r1⟩ := read_ints Try.underlying25 Try.underlying3 cells3 (hval 1 25 v1 rfl rfl) h1
  obtain ⟨ys, hyl, _, r2⟩ := read_ints Try.underlying25 Try.underlying3 cells3 (hval 2 25 v2 rfl rfl) h2
  have hc60 : cs.length ≤ 9223372036854775807 := hcl
  exact law_post (tb := 4) (s_FnExactPairsOf W1 T1 cs xs ys hc60) (RL.cons0 r0 (RL.cons0 r1 (RL.cons0 r2 RL.nil0))) laidOut
    (by
      rw [Try.params3]
      intro t ht
      simp at ht
      rcases ht with rfl | rfl
      · exact ⟨readable.1, of_decide_eq_true (by kernel_rfl)⟩
      · exact ⟨readable.2.1, of_decide_eq_true (by kernel_rfl)⟩) hW' rfl rfl (by kernel_rfl) Try.underlying4

theorem fnExactPairsOf_holds : Rows.FnExactPairsOfSaid :=
  OpenClaim.holds_of_wide 3 Try.f3 rfl rfl rfl rfl rfl rfl rfl ⟨rfl, rfl, rfl, rfl, rfl⟩ rfl rfl rfl rfl rfl (by kernel_rfl) Try.func3 fnExactPairsOf_facts
    (of_decide_eq_true (by kernel_rfl)) (by unfold Func.isWrapper; first | (rw [if_pos (by decide +kernel)]; kernel_rfl) | (rw [if_neg (by decide +kernel)]; exact ⟨rfl, rfl⟩))
    (fun os started H enc _ => fnExactPairsOf_lifted os started H enc)

end Go.Proofs.Ytjldabnbfdgbhaa
