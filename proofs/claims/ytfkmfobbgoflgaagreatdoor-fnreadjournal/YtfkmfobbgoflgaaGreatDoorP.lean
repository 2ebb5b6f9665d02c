/- Contracts of the functions of the program over slots and rows, each proved against the program itself; no condition beyond those that each theorem names. -/
import Derived.Test.YtfkmfobbgoflgaaGreatDoorAN
import Derived.Test.YtfkmfobbgoflgaaGreatDoorBB
set_option linter.unusedSimpArgs false
set_option linter.unusedVariables false
set_option maxRecDepth 100000
namespace Go.Proofs.YtfkmfobbgoflgaaGreatDoor
open Go.ChangeShapes Go.WideShapes Go.ChangeAt Go.RowKit Go.Proofs.Dev
theorem fnReadJournal_fact0 : (Rows.fnReadJournalRow.wf (OpenSpec.ofChange Rows.fnReadJournalSpec)) = true := by kernel_rfl
theorem fnReadJournal_fact1 : (laidOutB Tryz.prog) = true := by kernel_rfl
theorem fnReadJournal_fact2 : (mapsRowed Tryz.prog) = true := by kernel_rfl
theorem fnReadJournal_fact3 : (Tryz.f4.params.all (Tryz.prog.readableRec ·)) = true := by kernel_rfl
theorem fnReadJournal_fact4 : (namedTie Tryz.prog Rows.fnReadJournalRow.named Rows.fnReadJournalSpec.vars) = true := by kernel_rfl
theorem fnReadJournal_fact5 : ((Rows.fnReadJournalRow.stops == [])) = true := by kernel_rfl
theorem fnReadJournal_fact6 : ((Tryz.prog.stops == [])) = true := by kernel_rfl
theorem fnReadJournal_fact7 : ((Rows.fnReadJournalRow.knobs == [])) = true := by kernel_rfl
theorem fnReadJournal_fact8 : ((Tryz.prog.stopKnobs == [])) = true := by kernel_rfl
theorem fnReadJournal_fact9 : ((Rows.fnReadJournalRow.inPlace == Tryz.prog.inPlace 4)) = true := by kernel_rfl
theorem fnReadJournal_fact10 : ((Rows.fnReadJournalRow.unfollowed == Tryz.prog.unfollowed 4)) = true := by kernel_rfl
theorem fnReadJournal_fact11 : ((Rows.fnReadJournalRow.recurses == Tryz.prog.recurses 4)) = true := by kernel_rfl
theorem fnReadJournal_fact12 : ((Rows.fnReadJournalRow.named == Tryz.prog.varsNamed 4)) = true := by kernel_rfl
theorem fnReadJournal_fact13 : ((Rows.fnReadJournalRow.maps == (Tryz.f4.params.toList ++ Rows.fnReadJournalSpec.plain.varTypes Tryz.prog).any (Tryz.prog.mapsRec ·))) = true := by kernel_rfl
theorem fnReadJournal_fact14 : ((Rows.fnReadJournalRow.ifaces == (Tryz.f4.params.toList ++ Rows.fnReadJournalSpec.plain.varTypes Tryz.prog).any (Tryz.prog.ifacesRec ·))) = true := by kernel_rfl
theorem fnReadJournal_fact15 : ((Rows.fnReadJournalRow.mapsOut == Tryz.prog.mapsAmong Tryz.f4.resultTypes.toList)) = true := by kernel_rfl
theorem fnReadJournal_fact16 : ((Rows.fnReadJournalRow.loops == (Tryz.f4.params.toList ++ Rows.fnReadJournalSpec.plain.varTypes Tryz.prog).any (Tryz.prog.loopsFrom ·))) = true := by kernel_rfl
theorem fnReadJournal_fact17 : ((Rows.fnReadJournalRow.wideKeys == (Tryz.f4.params.toList ++ Rows.fnReadJournalSpec.plain.varTypes Tryz.prog ++ Tryz.f4.resultTypes.toList).any (Tryz.prog.wideKeysFrom ·))) = true := by kernel_rfl
theorem fnReadJournal_fact18 : (Rows.fnReadJournalSpec.vars.all (Tryz.prog.varReadable ·)) = true := by kernel_rfl
theorem fnReadJournal_fact19 : (Tryz.f4.resultTypes.all (fun t => Tryz.prog.readableRec t && decide (t < Tryz.prog.types.size))) = true := by kernel_rfl
theorem fnReadJournal_fact20 : ((Rows.fnReadJournalRow.ifacesOut == Tryz.f4.resultTypes.toList.any (Tryz.prog.ifacesRec ·))) = true := by kernel_rfl
theorem fnReadJournal_fact21 : ((Rows.fnReadJournalRow.loopsOut == Tryz.f4.resultTypes.toList.any (Tryz.prog.loopsFrom ·))) = true := by kernel_rfl
theorem fnReadJournal_fact22 : ((Rows.fnReadJournalRow.plainKeys == Tryz.prog.plainKeys)) = true := by kernel_rfl
theorem fnReadJournal_fact23 : (Rows.fnReadJournalRow.shortTexts.isNone) = true := by kernel_rfl
theorem fnReadJournal_fact24 : (Tryz.prog.stopsHeard) = true := by kernel_rfl
theorem fnReadJournal_fact25 : (Tryz.prog.mayEnter) = true := Wg
theorem fnReadJournal_fact26 : ((Rows.fnReadJournalRow.lifted == Tryz.prog.liftsFinal)) = true := by rw [TZ]; rfl
theorem fnReadJournal_fact27 : ((Tryz.prog.make == some Rows.fnReadJournalRow.make)) = true := by rw [dI]; rfl
theorem fnReadJournal_fact28 : Rows.fnReadJournalRow.domain = [] ∧ Rows.fnReadJournalRow.kinds = [] := ⟨rfl, rfl⟩
theorem fnReadJournal_fact29 : ((Rows.fnReadJournalRow.pinned == Rows.fnReadJournalRow.pinnedBy)) = true := by kernel_rfl
theorem fnReadJournal_fact30 : ((Rows.fnReadJournalRow.veiled == (Tryz.f4.params.toList ++ Rows.fnReadJournalSpec.plain.varTypes Tryz.prog ++ Tryz.f4.resultTypes.toList).any (Tryz.prog.veiledRec ·))) = true := by kernel_rfl
theorem fnReadJournal_fact31 : (Rows.fnReadJournalRow.veiledFits Tryz.prog Tryz.f4.params.toList (Tryz.f4.params.toList ++ Rows.fnReadJournalSpec.plain.varTypes Tryz.prog ++ Tryz.f4.resultTypes.toList)) = true := by kernel_rfl
theorem fnReadJournal_facts : joinedFacts Tryz.prog 4 Tryz.f4 Rows.fnReadJournalSpec Rows.fnReadJournalRow = true :=
 Uu fnReadJournal_fact0 fnReadJournal_fact1 fnReadJournal_fact2 fnReadJournal_fact3 fnReadJournal_fact4 fnReadJournal_fact5 fnReadJournal_fact6 fnReadJournal_fact7 fnReadJournal_fact8 fnReadJournal_fact9 fnReadJournal_fact10 fnReadJournal_fact11 fnReadJournal_fact12 fnReadJournal_fact13 fnReadJournal_fact14 fnReadJournal_fact15 fnReadJournal_fact16 fnReadJournal_fact17 fnReadJournal_fact18 fnReadJournal_fact19 fnReadJournal_fact20 fnReadJournal_fact21 fnReadJournal_fact22 fnReadJournal_fact23 fnReadJournal_fact24 fnReadJournal_fact25 fnReadJournal_fact26 fnReadJournal_fact27 fnReadJournal_fact28 fnReadJournal_fact29 fnReadJournal_fact30 fnReadJournal_fact31
theorem fnReadJournal_lifted (os : Os) (started : os.Started) (H : Type) (enc : TypeId × Value → H) :
  ReturnsInHanded {} Tryz.checked os 4 .any (fun w args => (Rows.fnReadJournalSpec.pre enc Tryz.prog Tryz.f4 Rows.fnReadJournalRow.domain false w args ∧ laidMetH Tryz.prog Rows.fnReadJournalRow.laid w) ∧ sizedMet enc Tryz.prog Tryz.f4 (OpenSpec.ofChange Rows.fnReadJournalSpec) false w args)
   (Rows.fnReadJournalSpec.post enc Tryz.prog Tryz.f4 false true false false) := by
 refine Uv (C := Tryz.checked) (X := fun w _ => laidMetH Tryz.prog Rows.fnReadJournalRow.laid w) (fun _ _ _ hh h => h.of_heap hh) own started (by kernel_rfl) Tryz.func4
  (ChangeSpec.witness_shaped (enc := enc) (C := Tryz.checked) (os := os) (X := fun w _ => laidMetH Tryz.prog Rows.fnReadJournalRow.laid w) false (World.laidAll Tryz.prog os Rows.fnReadJournalRow.laid) #[.slice none 0 0, .slice none 0 0] 8 (World.laidAll_os _ _ _)
   (World.shaped_of_ZipB (by kernel_rfl) (by kernel_rfl)) (by kernel_rfl) (by kernel_rfl) (by kernel_rfl)
   (by rw [MakeChecks.laidMetH_plain _ _ _ (by kernel_rfl)]; exact laidMet_laidAll _ (by kernel_rfl) (by kernel_rfl))) ?_
 intro W base args ds gs before hval0 hW hcnd _ hL hsh
 have hval : ∀ (j : Nat) t v, Tryz.f4.params[j]? = some t → args[j]? = some v → Value.okWide Tryz.prog W .any base t v := hval0
 have hW' : DataW.Whole enc Tryz.prog Tryz.f4.params.toList Rows.fnReadJournalSpec.vars false W args.toList ds gs before := hW
 obtain ⟨p, q, hA0, hV, hpq, hfz, hnd⟩ := hW
 have hA : DataW.TrodAll enc Tryz.prog W 0 (fun _ => true) true Tryz.f4.params.toList args.toList ds p := hA0
 rw [Tryz.params4] at hA hval
 obtain ⟨v0, v1, d0, d1, p0, p1, rfl, rfl, rfl, h0, h1⟩ := trodAll_two hA
 obtain ⟨x0, hx0, hB0, r0⟩ := Vs Tryz.underlying22 Tryz.underlying5 ir (hval 0 22 v0 rfl rfl) h0
 obtain ⟨x1, hx1, hB1, r1⟩ := Vs Tryz.underlying22 Tryz.underlying5 ir (hval 1 22 v1 rfl rfl) h1
 exact cw (tb := 4) (pC (by kernel_rfl) (by simp [Rows.fnReadJournalRow]) hL (pD (by kernel_rfl) (by simp [Rows.fnReadJournalRow]) (by simp [Rows.fnReadJournalRow]) hsh hL)) (dN (Uo x0 x1 hB0 hB1)) (RL.cons0 r0 (RL.cons0 r1 RL.nil0)) kH
  (by
   rw [Tryz.params4]
   intro t ht
   simp at ht
   subst ht
   exact ⟨nK, of_decide_eq_true (by kernel_rfl)⟩) hW' rfl (fun g1 _ => rfl) (by kernel_rfl) Tryz.underlying4 dJ iu Tryz.underlying58 nL
end Go.Proofs.YtfkmfobbgoflgaaGreatDoor
