/- For every book and every text the law FnExactBookLine answers true, and the book, the text and the words of deeds read as before; the listed package variables hold what the program's text lays, to which the card ties them. -/
import Derived.Test.YtfkmfobbgoflgaaGreatDoorAN
import Derived.Test.YtfkmfobbgoflgaaGreatDoorBA
set_option linter.unusedSimpArgs false
set_option linter.unusedVariables false
set_option maxRecDepth 100000
namespace Go.Proofs.YtfkmfobbgoflgaaGreatDoor
open Go.ChangeShapes Go.WideShapes Go.ChangeAt Go.RowKit Go.Proofs.Dev
theorem fnExactBookLine_fact0 : (Rows.fnExactBookLineRow.wf (OpenSpec.ofChange Rows.fnExactBookLineSpec)) = true := by kernel_rfl
theorem fnExactBookLine_fact1 : (laidOutB Tryz.prog) = true := by kernel_rfl
theorem fnExactBookLine_fact2 : (mapsRowed Tryz.prog) = true := by kernel_rfl
theorem fnExactBookLine_fact3 : (Tryz.f5.params.all (Tryz.prog.readableRec ·)) = true := by kernel_rfl
theorem fnExactBookLine_fact4 : (namedTie Tryz.prog Rows.fnExactBookLineRow.named Rows.fnExactBookLineSpec.vars) = true := by kernel_rfl
theorem fnExactBookLine_fact5 : ((Rows.fnExactBookLineRow.stops == [])) = true := by kernel_rfl
theorem fnExactBookLine_fact6 : ((Tryz.prog.stops == [])) = true := by kernel_rfl
theorem fnExactBookLine_fact7 : ((Rows.fnExactBookLineRow.knobs == [])) = true := by kernel_rfl
theorem fnExactBookLine_fact8 : ((Tryz.prog.stopKnobs == [])) = true := by kernel_rfl
theorem fnExactBookLine_fact9 : ((Rows.fnExactBookLineRow.inPlace == Tryz.prog.inPlace 5)) = true := by kernel_rfl
theorem fnExactBookLine_fact10 : ((Rows.fnExactBookLineRow.unfollowed == Tryz.prog.unfollowed 5)) = true := by kernel_rfl
theorem fnExactBookLine_fact11 : ((Rows.fnExactBookLineRow.recurses == Tryz.prog.recurses 5)) = true := by kernel_rfl
theorem fnExactBookLine_fact12 : ((Rows.fnExactBookLineRow.named == Tryz.prog.varsNamed 5)) = true := by kernel_rfl
theorem fnExactBookLine_fact13 : ((Rows.fnExactBookLineRow.maps == (Tryz.f5.params.toList ++ Rows.fnExactBookLineSpec.plain.varTypes Tryz.prog).any (Tryz.prog.mapsRec ·))) = true := by kernel_rfl
theorem fnExactBookLine_fact14 : ((Rows.fnExactBookLineRow.ifaces == (Tryz.f5.params.toList ++ Rows.fnExactBookLineSpec.plain.varTypes Tryz.prog).any (Tryz.prog.ifacesRec ·))) = true := by kernel_rfl
theorem fnExactBookLine_fact15 : ((Rows.fnExactBookLineRow.mapsOut == Tryz.prog.mapsAmong Tryz.f5.resultTypes.toList)) = true := by kernel_rfl
theorem fnExactBookLine_fact16 : ((Rows.fnExactBookLineRow.loops == (Tryz.f5.params.toList ++ Rows.fnExactBookLineSpec.plain.varTypes Tryz.prog).any (Tryz.prog.loopsFrom ·))) = true := by kernel_rfl
theorem fnExactBookLine_fact17 : ((Rows.fnExactBookLineRow.wideKeys == (Tryz.f5.params.toList ++ Rows.fnExactBookLineSpec.plain.varTypes Tryz.prog ++ Tryz.f5.resultTypes.toList).any (Tryz.prog.wideKeysFrom ·))) = true := by kernel_rfl
theorem fnExactBookLine_fact18 : (Rows.fnExactBookLineSpec.vars.all (Tryz.prog.varReadable ·)) = true := by kernel_rfl
theorem fnExactBookLine_fact19 : (Tryz.f5.resultTypes.all (fun t => Tryz.prog.readableRec t && decide (t < Tryz.prog.types.size))) = true := by kernel_rfl
theorem fnExactBookLine_fact20 : ((Rows.fnExactBookLineRow.ifacesOut == Tryz.f5.resultTypes.toList.any (Tryz.prog.ifacesRec ·))) = true := by kernel_rfl
theorem fnExactBookLine_fact21 : ((Rows.fnExactBookLineRow.loopsOut == Tryz.f5.resultTypes.toList.any (Tryz.prog.loopsFrom ·))) = true := by kernel_rfl
theorem fnExactBookLine_fact22 : ((Rows.fnExactBookLineRow.plainKeys == Tryz.prog.plainKeys)) = true := by kernel_rfl
theorem fnExactBookLine_fact23 : (Rows.fnExactBookLineRow.shortTexts.isNone) = true := by kernel_rfl
theorem fnExactBookLine_fact24 : (Tryz.prog.stopsHeard) = true := by kernel_rfl
theorem fnExactBookLine_fact25 : (Tryz.prog.mayEnter) = true := Pg
theorem fnExactBookLine_fact26 : ((Rows.fnExactBookLineRow.lifted == Tryz.prog.liftsFinal)) = true := by rw [MU]; rfl
theorem fnExactBookLine_fact27 : ((Tryz.prog.make == some Rows.fnExactBookLineRow.make)) = true := by rw [YO]; rfl
theorem fnExactBookLine_fact28 : Rows.fnExactBookLineRow.domain = [] ∧ Rows.fnExactBookLineRow.kinds = [] := ⟨rfl, rfl⟩
theorem fnExactBookLine_fact29 : ((Rows.fnExactBookLineRow.pinned == Rows.fnExactBookLineRow.pinnedBy)) = true := by kernel_rfl
theorem fnExactBookLine_fact30 : ((Rows.fnExactBookLineRow.veiled == (Tryz.f5.params.toList ++ Rows.fnExactBookLineSpec.plain.varTypes Tryz.prog ++ Tryz.f5.resultTypes.toList).any (Tryz.prog.veiledRec ·))) = true := by kernel_rfl
theorem fnExactBookLine_fact31 : (Rows.fnExactBookLineRow.veiledFits Tryz.prog Tryz.f5.params.toList (Tryz.f5.params.toList ++ Rows.fnExactBookLineSpec.plain.varTypes Tryz.prog ++ Tryz.f5.resultTypes.toList)) = true := by kernel_rfl
theorem fnExactBookLine_facts : joinedFacts Tryz.prog 5 Tryz.f5 Rows.fnExactBookLineSpec Rows.fnExactBookLineRow = true :=
 N3 fnExactBookLine_fact0 fnExactBookLine_fact1 fnExactBookLine_fact2 fnExactBookLine_fact3 fnExactBookLine_fact4 fnExactBookLine_fact5 fnExactBookLine_fact6 fnExactBookLine_fact7 fnExactBookLine_fact8 fnExactBookLine_fact9 fnExactBookLine_fact10 fnExactBookLine_fact11 fnExactBookLine_fact12 fnExactBookLine_fact13 fnExactBookLine_fact14 fnExactBookLine_fact15 fnExactBookLine_fact16 fnExactBookLine_fact17 fnExactBookLine_fact18 fnExactBookLine_fact19 fnExactBookLine_fact20 fnExactBookLine_fact21 fnExactBookLine_fact22 fnExactBookLine_fact23 fnExactBookLine_fact24 fnExactBookLine_fact25 fnExactBookLine_fact26 fnExactBookLine_fact27 fnExactBookLine_fact28 fnExactBookLine_fact29 fnExactBookLine_fact30 fnExactBookLine_fact31
theorem fnExactBookLine_lifted (os : Os) (started : os.Started) (H : Type) (enc : TypeId × Value → H) :
  ReturnsInHanded {} Tryz.checked os 5 .any (fun w args => (Rows.fnExactBookLineSpec.pre enc Tryz.prog Tryz.f5 Rows.fnExactBookLineRow.domain false w args ∧ laidMetH Tryz.prog Rows.fnExactBookLineRow.laid w) ∧ sizedMet enc Tryz.prog Tryz.f5 (OpenSpec.ofChange Rows.fnExactBookLineSpec) false w args)
   (Rows.fnExactBookLineSpec.post enc Tryz.prog Tryz.f5 false true false false) := by
 refine N4 (C := Tryz.checked) (X := fun w _ => laidMetH Tryz.prog Rows.fnExactBookLineRow.laid w) (fun _ _ _ hh h => h.of_heap hh) own started (by kernel_rfl) Tryz.func5
  (ChangeSpec.witness_shaped (enc := enc) (C := Tryz.checked) (os := os) (X := fun w _ => laidMetH Tryz.prog Rows.fnExactBookLineRow.laid w) false (World.laidAll Tryz.prog os Rows.fnExactBookLineRow.laid) #[.agg #[.int .i64 0, .int .i64 0, .slice none 0 0, .slice none 0 0, .slice none 0 0, .slice none 0 0], .string ⟨#[]⟩] 8 (World.laidAll_os _ _ _)
   (World.shaped_of_ZipB (by kernel_rfl) (by kernel_rfl)) (by kernel_rfl) (by kernel_rfl) (by kernel_rfl)
   (by rw [MakeChecks.laidMetH_plain _ _ _ (by kernel_rfl)]; exact laidMet_laidAll _ (by kernel_rfl) (by kernel_rfl))) ?_
 intro W base args ds gs before hval0 hW hcnd _ hL hsh
 have hval : ∀ (j : Nat) t v, Tryz.f5.params[j]? = some t → args[j]? = some v → Value.okWide Tryz.prog W .any base t v := hval0
 have hW' : DataW.Whole enc Tryz.prog Tryz.f5.params.toList Rows.fnExactBookLineSpec.vars false W args.toList ds gs before := hW
 obtain ⟨p, q, hA0, hV, hpq, hfz, hnd⟩ := hW
 have hA : DataW.TrodAll enc Tryz.prog W 0 (fun _ => true) true Tryz.f5.params.toList args.toList ds p := hA0
 rw [Tryz.params5] at hA hval
 obtain ⟨v0, v1, d0, d1, p0, p1, rfl, rfl, rfl, h0, h1⟩ := trodAll_two hA
 obtain ⟨W0, T0, cs0, ds0, ls0, ps0, hc0, hd0, hl0, hb0, hp0, r0⟩ := YV Tryz.underlying53 mE Tryz.underlying51 oV bN bN gv ⟨rfl, rfl, rfl, rfl⟩ ⟨rfl, rfl, rfl⟩ kV kV gw Tryz.underlying3 Tryz.underlying3 Tryz.underlying32 Tryz.underlying4 mF Tryz.underlying35 Tryz.underlying35 Tryz.underlying3 kV Tryz.underlying36 Tryz.underlying35 bN (hval 0 53 v0 rfl rfl) h0
 obtain ⟨x1, hx1, r1⟩ := fh Tryz.underlying9 (hval 1 9 v1 rfl rfl) h1
 exact YB (tb := 4) (mA (by kernel_rfl) (by simp [Rows.fnExactBookLineRow]) hL (mB (by kernel_rfl) (by simp [Rows.fnExactBookLineRow]) (by simp [Rows.fnExactBookLineRow]) hsh hL)) (R1 W0 T0 cs0 ds0 ls0 ps0 x1 hc0 hd0 hl0 hb0 hp0 hx1) (RL.cons0 r0 (RL.cons0 r1 RL.nil0)) cz
  (by
   rw [Tryz.params5]
   intro t ht
   simp at ht
   rcases ht with rfl | rfl
   ·exact ⟨mG, of_decide_eq_true (by kernel_rfl)⟩
   ·exact ⟨oc, of_decide_eq_true (by kernel_rfl)⟩) hW' rfl (fun g1 _ => rfl) (by kernel_rfl) Tryz.underlying4 aK c7 Tryz.underlying58 gq
theorem fnExactBookLine_holds : Rows.FnExactBookLineSaid :=
 OpenClaim.holds_of_wide 5 Tryz.f5 rfl rfl rfl rfl rfl rfl rfl ⟨rfl, rfl, rfl, rfl, rfl⟩ rfl rfl rfl rfl rfl (by kernel_rfl) Tryz.func5 fnExactBookLine_facts
  (of_decide_eq_true (by kernel_rfl)) (by unfold Func.isWrapper; first | (rw [if_pos (by decide +kernel)]; kernel_rfl) | (rw [if_neg (by decide +kernel)]; exact ⟨rfl, rfl⟩))
  (fun os started H enc _ => fnExactBookLine_lifted os started H enc)
theorem fnExactBookLine_c6 : false = Rows.fnExactBookLineRow.goesBy Tryz.pinned.checked.prog := by kernel_rfl
theorem fnExactBookLine_c1 : Rows.fnExactBookLineRow.wfByText (OpenSpec.ofChange Rows.fnExactBookLineSpec) = true := by kernel_rfl
theorem fnExactBookLine_c2 : Tryz.pinned.checked.prog.mainIs = some (true, "afa837f5c4d68b516dd8c875bf7798ccf155dfb08526095c68c37820e6ebda0c".toList) := by kernel_rfl
theorem fnExactBookLine_c3 : Tryz.prog.funcNamed "loop.example/dominotilings/laws.FnExactBookLine" = some 5 := by kernel_rfl
theorem fnExactBookLine_c4 : true = Tryz.pinned.checked.prog.looks [] := by kernel_rfl
theorem fnExactBookLine_c5 : ([53, 9].all fun u => !Tryz.prog.wantsStandIn u) = true := by kernel_rfl
theorem fnExactBookLine_card_holds : Rows.FnExactBookLineCardSaid :=
 Claim7.holds_tied_plain_at .later [] [.data, .data, .data, .data, .sentinel, .sentinel, .widerDeep, .pinned] true (true, "afa837f5c4d68b516dd8c875bf7798ccf155dfb08526095c68c37820e6ebda0c") true fnExactBookLine_holds (fun _ h => by cases h) fnExactBookLine_c1 (fun _ h => by cases h) fnExactBookLine_row_tie rfl ⟨rfl, rfl⟩ fnExactBookLine_c2 rfl
  (fun f fn hf hfn => by
   obtain rfl : f = 5 := Option.some.inj (fnExactBookLine_c3.symm.trans hf) |>.symm
   obtain rfl : fn = Tryz.f5 := (Option.some.inj (Tryz.func5.symm.trans hfn)).symm
   exact ⟨fnExactBookLine_c4, fun j t ht => by
    rw [Tryz.params5] at ht
    have hm : t ∈ [53, 9] := by simpa using Array.mem_of_getElem? ht
    exact (show Tryz.prog.wantsStandIn t = false by simpa using List.all_eq_true.1 fnExactBookLine_c5 t hm)⟩)
  fnExactBookLine_c6
end Go.Proofs.YtfkmfobbgoflgaaGreatDoor
