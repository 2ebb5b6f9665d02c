/- Contracts of the functions of the program over slots and rows, each proved against the program itself; no condition beyond those that each theorem names. -/
import Derived.Test.YtfkmfobbgoflgaaGreatDoorAN
import Derived.Test.YtfkmfobbgoflgaaGreatDoorBA
set_option linter.unusedSimpArgs false
set_option linter.unusedVariables false
set_option maxRecDepth 100000
namespace Go.Proofs.YtfkmfobbgoflgaaGreatDoor
open Go.ChangeShapes Go.WideShapes Go.ChangeAt Go.RowKit Go.Proofs.Dev
theorem fnExactBookSay_fact0 : (Rows.fnExactBookSayRow.wf (OpenSpec.ofChange Rows.fnExactBookSaySpec)) = true := by kernel_rfl
theorem fnExactBookSay_fact1 : (laidOutB Tryz.prog) = true := by kernel_rfl
theorem fnExactBookSay_fact2 : (mapsRowed Tryz.prog) = true := by kernel_rfl
theorem fnExactBookSay_fact3 : (Tryz.f6.params.all (Tryz.prog.readableRec ·)) = true := by kernel_rfl
theorem fnExactBookSay_fact4 : (namedTie Tryz.prog Rows.fnExactBookSayRow.named Rows.fnExactBookSaySpec.vars) = true := by kernel_rfl
theorem fnExactBookSay_fact5 : ((Rows.fnExactBookSayRow.stops == [])) = true := by kernel_rfl
theorem fnExactBookSay_fact6 : ((Tryz.prog.stops == [])) = true := by kernel_rfl
theorem fnExactBookSay_fact7 : ((Rows.fnExactBookSayRow.knobs == [])) = true := by kernel_rfl
theorem fnExactBookSay_fact8 : ((Tryz.prog.stopKnobs == [])) = true := by kernel_rfl
theorem fnExactBookSay_fact9 : ((Rows.fnExactBookSayRow.inPlace == Tryz.prog.inPlace 6)) = true := by kernel_rfl
theorem fnExactBookSay_fact10 : ((Rows.fnExactBookSayRow.unfollowed == Tryz.prog.unfollowed 6)) = true := by kernel_rfl
theorem fnExactBookSay_fact11 : ((Rows.fnExactBookSayRow.recurses == Tryz.prog.recurses 6)) = true := by kernel_rfl
theorem fnExactBookSay_fact12 : ((Rows.fnExactBookSayRow.named == Tryz.prog.varsNamed 6)) = true := by kernel_rfl
theorem fnExactBookSay_fact13 : ((Rows.fnExactBookSayRow.maps == (Tryz.f6.params.toList ++ Rows.fnExactBookSaySpec.plain.varTypes Tryz.prog).any (Tryz.prog.mapsRec ·))) = true := by kernel_rfl
theorem fnExactBookSay_fact14 : ((Rows.fnExactBookSayRow.ifaces == (Tryz.f6.params.toList ++ Rows.fnExactBookSaySpec.plain.varTypes Tryz.prog).any (Tryz.prog.ifacesRec ·))) = true := by kernel_rfl
theorem fnExactBookSay_fact15 : ((Rows.fnExactBookSayRow.mapsOut == Tryz.prog.mapsAmong Tryz.f6.resultTypes.toList)) = true := by kernel_rfl
theorem fnExactBookSay_fact16 : ((Rows.fnExactBookSayRow.loops == (Tryz.f6.params.toList ++ Rows.fnExactBookSaySpec.plain.varTypes Tryz.prog).any (Tryz.prog.loopsFrom ·))) = true := by kernel_rfl
theorem fnExactBookSay_fact17 : ((Rows.fnExactBookSayRow.wideKeys == (Tryz.f6.params.toList ++ Rows.fnExactBookSaySpec.plain.varTypes Tryz.prog ++ Tryz.f6.resultTypes.toList).any (Tryz.prog.wideKeysFrom ·))) = true := by kernel_rfl
theorem fnExactBookSay_fact18 : (Rows.fnExactBookSaySpec.vars.all (Tryz.prog.varReadable ·)) = true := by kernel_rfl
theorem fnExactBookSay_fact19 : (Tryz.f6.resultTypes.all (fun t => Tryz.prog.readableRec t && decide (t < Tryz.prog.types.size))) = true := by kernel_rfl
theorem fnExactBookSay_fact20 : ((Rows.fnExactBookSayRow.ifacesOut == Tryz.f6.resultTypes.toList.any (Tryz.prog.ifacesRec ·))) = true := by kernel_rfl
theorem fnExactBookSay_fact21 : ((Rows.fnExactBookSayRow.loopsOut == Tryz.f6.resultTypes.toList.any (Tryz.prog.loopsFrom ·))) = true := by kernel_rfl
theorem fnExactBookSay_fact22 : ((Rows.fnExactBookSayRow.plainKeys == Tryz.prog.plainKeys)) = true := by kernel_rfl
theorem fnExactBookSay_fact23 : (Rows.fnExactBookSayRow.shortTexts.isNone) = true := by kernel_rfl
theorem fnExactBookSay_fact24 : (Tryz.prog.stopsHeard) = true := by kernel_rfl
theorem fnExactBookSay_fact25 : (Tryz.prog.mayEnter) = true := Pg
theorem fnExactBookSay_fact26 : ((Rows.fnExactBookSayRow.lifted == Tryz.prog.liftsFinal)) = true := by rw [MU]; rfl
theorem fnExactBookSay_fact27 : ((Tryz.prog.make == some Rows.fnExactBookSayRow.make)) = true := by rw [YO]; rfl
theorem fnExactBookSay_fact28 : Rows.fnExactBookSayRow.domain = [] ∧ Rows.fnExactBookSayRow.kinds = [] := ⟨rfl, rfl⟩
theorem fnExactBookSay_fact29 : ((Rows.fnExactBookSayRow.pinned == Rows.fnExactBookSayRow.pinnedBy)) = true := by kernel_rfl
theorem fnExactBookSay_fact30 : ((Rows.fnExactBookSayRow.veiled == (Tryz.f6.params.toList ++ Rows.fnExactBookSaySpec.plain.varTypes Tryz.prog ++ Tryz.f6.resultTypes.toList).any (Tryz.prog.veiledRec ·))) = true := by kernel_rfl
theorem fnExactBookSay_fact31 : (Rows.fnExactBookSayRow.veiledFits Tryz.prog Tryz.f6.params.toList (Tryz.f6.params.toList ++ Rows.fnExactBookSaySpec.plain.varTypes Tryz.prog ++ Tryz.f6.resultTypes.toList)) = true := by kernel_rfl
theorem fnExactBookSay_facts : joinedFacts Tryz.prog 6 Tryz.f6 Rows.fnExactBookSaySpec Rows.fnExactBookSayRow = true :=
 N3 fnExactBookSay_fact0 fnExactBookSay_fact1 fnExactBookSay_fact2 fnExactBookSay_fact3 fnExactBookSay_fact4 fnExactBookSay_fact5 fnExactBookSay_fact6 fnExactBookSay_fact7 fnExactBookSay_fact8 fnExactBookSay_fact9 fnExactBookSay_fact10 fnExactBookSay_fact11 fnExactBookSay_fact12 fnExactBookSay_fact13 fnExactBookSay_fact14 fnExactBookSay_fact15 fnExactBookSay_fact16 fnExactBookSay_fact17 fnExactBookSay_fact18 fnExactBookSay_fact19 fnExactBookSay_fact20 fnExactBookSay_fact21 fnExactBookSay_fact22 fnExactBookSay_fact23 fnExactBookSay_fact24 fnExactBookSay_fact25 fnExactBookSay_fact26 fnExactBookSay_fact27 fnExactBookSay_fact28 fnExactBookSay_fact29 fnExactBookSay_fact30 fnExactBookSay_fact31
theorem fnExactBookSay_lifted (os : Os) (started : os.Started) (H : Type) (enc : TypeId × Value → H) :
  ReturnsInHanded {} Tryz.checked os 6 .any (fun w args => (Rows.fnExactBookSaySpec.pre enc Tryz.prog Tryz.f6 Rows.fnExactBookSayRow.domain false w args ∧ laidMetH Tryz.prog Rows.fnExactBookSayRow.laid w) ∧ sizedMet enc Tryz.prog Tryz.f6 (OpenSpec.ofChange Rows.fnExactBookSaySpec) false w args)
   (Rows.fnExactBookSaySpec.post enc Tryz.prog Tryz.f6 false true false false) := by
 refine N4 (C := Tryz.checked) (X := fun w _ => laidMetH Tryz.prog Rows.fnExactBookSayRow.laid w) (fun _ _ _ hh h => h.of_heap hh) own started (by kernel_rfl) Tryz.func6
  (ChangeSpec.witness_shaped (enc := enc) (C := Tryz.checked) (os := os) (X := fun w _ => laidMetH Tryz.prog Rows.fnExactBookSayRow.laid w) false (World.laidAll Tryz.prog os Rows.fnExactBookSayRow.laid) #[.agg #[.int .i64 0, .int .i64 0, .slice none 0 0, .slice none 0 0, .slice none 0 0, .slice none 0 0], .slice none 0 0] 8 (World.laidAll_os _ _ _)
   (World.shaped_of_ZipB (by kernel_rfl) (by kernel_rfl)) (by kernel_rfl) (by kernel_rfl) (by kernel_rfl)
   (by rw [MakeChecks.laidMetH_plain _ _ _ (by kernel_rfl)]; exact laidMet_laidAll _ (by kernel_rfl) (by kernel_rfl))) ?_
 intro W base args ds gs before hval0 hW hcnd _ hL hsh
 have hval : ∀ (j : Nat) t v, Tryz.f6.params[j]? = some t → args[j]? = some v → Value.okWide Tryz.prog W .any base t v := hval0
 have hW' : DataW.Whole enc Tryz.prog Tryz.f6.params.toList Rows.fnExactBookSaySpec.vars false W args.toList ds gs before := hW
 obtain ⟨p, q, hA0, hV, hpq, hfz, hnd⟩ := hW
 have hA : DataW.TrodAll enc Tryz.prog W 0 (fun _ => true) true Tryz.f6.params.toList args.toList ds p := hA0
 rw [Tryz.params6] at hA hval
 obtain ⟨v0, v1, d0, d1, p0, p1, rfl, rfl, rfl, h0, h1⟩ := trodAll_two hA
 obtain ⟨W0, T0, cs0, ds0, ls0, ps0, hc0, hd0, hl0, hb0, hp0, r0⟩ := YV Tryz.underlying53 mE Tryz.underlying51 oV bN bN gv ⟨rfl, rfl, rfl, rfl⟩ ⟨rfl, rfl, rfl⟩ kV kV gw Tryz.underlying3 Tryz.underlying3 Tryz.underlying32 Tryz.underlying4 mF Tryz.underlying35 Tryz.underlying35 Tryz.underlying3 kV Tryz.underlying36 Tryz.underlying35 bN (hval 0 53 v0 rfl rfl) h0
 obtain ⟨x1, hx1, hy1, r1⟩ := dG Tryz.underlying58 Tryz.underlying9 oU (by kernel_rfl) (hval 1 58 v1 rfl rfl) h1
 exact YB (tb := 4) (mA (by kernel_rfl) (by simp [Rows.fnExactBookSayRow]) hL (mB (by kernel_rfl) (by simp [Rows.fnExactBookSayRow]) (by simp [Rows.fnExactBookSayRow]) hsh hL)) (TA W0 T0 cs0 ds0 ls0 ps0 x1 hc0 hd0 hl0 hb0 hp0 hx1 hy1) (RL.cons0 r0 (RL.cons0 r1 RL.nil0)) cz
  (by
   rw [Tryz.params6]
   intro t ht
   simp at ht
   rcases ht with rfl | rfl
   ·exact ⟨mG, of_decide_eq_true (by kernel_rfl)⟩
   ·exact ⟨nt, of_decide_eq_true (by kernel_rfl)⟩) hW' rfl (fun g1 _ => rfl) (by kernel_rfl) Tryz.underlying4 aK c7 Tryz.underlying58 gq
end Go.Proofs.YtfkmfobbgoflgaaGreatDoor
