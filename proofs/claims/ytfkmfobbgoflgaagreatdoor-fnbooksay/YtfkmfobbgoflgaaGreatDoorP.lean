/- Contracts of the functions of the program over slots and rows, each proved against the program itself; no condition beyond those that each theorem names. -/
import Derived.Test.YtfkmfobbgoflgaaGreatDoorAK
import Derived.Test.YtfkmfobbgoflgaaGreatDoorBA
set_option linter.unusedSimpArgs false
set_option linter.unusedVariables false
set_option maxRecDepth 100000
namespace Go.Proofs.YtfkmfobbgoflgaaGreatDoor
open Go.ChangeShapes Go.WideShapes Go.ChangeAt Go.RowKit Go.Proofs.Dev
theorem fnBookLine_fact0:(Rows.fnBookLineRow.wf (OpenSpec.ofChange Rows.fnBookLineSpec)) = true:= by kernel_rfl
theorem fnBookLine_fact1:(laidOutB Tryz.prog) = true:= by kernel_rfl
theorem fnBookLine_fact2:(mapsRowed Tryz.prog) = true:= by kernel_rfl
theorem fnBookLine_fact3:(Tryz.f7.params.all (Tryz.prog.readableRec ·)) = true:= by kernel_rfl
theorem fnBookLine_fact4:(namedTie Tryz.prog Rows.fnBookLineRow.named Rows.fnBookLineSpec.vars) = true:= by kernel_rfl
theorem fnBookLine_fact5:((Rows.fnBookLineRow.stops == [])) = true:= by kernel_rfl
theorem fnBookLine_fact6:((Tryz.prog.stops == [])) = true:= by kernel_rfl
theorem fnBookLine_fact7:((Rows.fnBookLineRow.knobs == [])) = true:= by kernel_rfl
theorem fnBookLine_fact8:((Tryz.prog.stopKnobs == [])) = true:= by kernel_rfl
theorem fnBookLine_fact9:((Rows.fnBookLineRow.inPlace == Tryz.prog.inPlace 7)) = true:= by kernel_rfl
theorem fnBookLine_fact10:((Rows.fnBookLineRow.unfollowed == Tryz.prog.unfollowed 7)) = true:= by kernel_rfl
theorem fnBookLine_fact11:((Rows.fnBookLineRow.recurses == Tryz.prog.recurses 7)) = true:= by kernel_rfl
theorem fnBookLine_fact12:((Rows.fnBookLineRow.named == Tryz.prog.varsNamed 7)) = true:= by kernel_rfl
theorem fnBookLine_fact13:((Rows.fnBookLineRow.maps == (Tryz.f7.params.toList ++ Rows.fnBookLineSpec.plain.varTypes Tryz.prog).any (Tryz.prog.mapsRec ·))) = true:= by kernel_rfl
theorem fnBookLine_fact14:((Rows.fnBookLineRow.ifaces == (Tryz.f7.params.toList ++ Rows.fnBookLineSpec.plain.varTypes Tryz.prog).any (Tryz.prog.ifacesRec ·))) = true:= by kernel_rfl
theorem fnBookLine_fact15:((Rows.fnBookLineRow.mapsOut == Tryz.prog.mapsAmong Tryz.f7.resultTypes.toList)) = true:= by kernel_rfl
theorem fnBookLine_fact16:((Rows.fnBookLineRow.loops == (Tryz.f7.params.toList ++ Rows.fnBookLineSpec.plain.varTypes Tryz.prog).any (Tryz.prog.loopsFrom ·))) = true:= by kernel_rfl
theorem fnBookLine_fact17:((Rows.fnBookLineRow.wideKeys == (Tryz.f7.params.toList ++ Rows.fnBookLineSpec.plain.varTypes Tryz.prog ++ Tryz.f7.resultTypes.toList).any (Tryz.prog.wideKeysFrom ·))) = true:= by kernel_rfl
theorem fnBookLine_fact18:(Rows.fnBookLineSpec.vars.all (Tryz.prog.varReadable ·)) = true:= by kernel_rfl
theorem fnBookLine_fact19:(Tryz.f7.resultTypes.all (fun t => Tryz.prog.readableRec t && decide (t < Tryz.prog.types.size))) = true:= by kernel_rfl
theorem fnBookLine_fact20:((Rows.fnBookLineRow.ifacesOut == Tryz.f7.resultTypes.toList.any (Tryz.prog.ifacesRec ·))) = true:= by kernel_rfl
theorem fnBookLine_fact21:((Rows.fnBookLineRow.loopsOut == Tryz.f7.resultTypes.toList.any (Tryz.prog.loopsFrom ·))) = true:= by kernel_rfl
theorem fnBookLine_fact22:((Rows.fnBookLineRow.plainKeys == Tryz.prog.plainKeys)) = true:= by kernel_rfl
theorem fnBookLine_fact23:(Rows.fnBookLineRow.shortTexts.isNone) = true:= by kernel_rfl
theorem fnBookLine_fact24:(Tryz.prog.stopsHeard) = true:= by kernel_rfl
theorem fnBookLine_fact25:(Tryz.prog.mayEnter) = true:= RY
theorem fnBookLine_fact26:((Rows.fnBookLineRow.lifted == Tryz.prog.liftsFinal)) = true:= by rw [OI]; rfl
theorem fnBookLine_fact27:((Tryz.prog.make == some Rows.fnBookLineRow.make)) = true:= by rw [aJ]; rfl
theorem fnBookLine_fact28:Rows.fnBookLineRow.domain = [] ∧ Rows.fnBookLineRow.kinds = []:= ⟨rfl,rfl⟩
theorem fnBookLine_fact29:((Rows.fnBookLineRow.pinned == Rows.fnBookLineRow.pinnedBy)) = true:= by kernel_rfl
theorem fnBookLine_fact30:((Rows.fnBookLineRow.veiled == (Tryz.f7.params.toList ++ Rows.fnBookLineSpec.plain.varTypes Tryz.prog ++ Tryz.f7.resultTypes.toList).any (Tryz.prog.veiledRec ·))) = true:= by kernel_rfl
theorem fnBookLine_fact31:(Rows.fnBookLineRow.veiledFits Tryz.prog Tryz.f7.params.toList (Tryz.f7.params.toList ++ Rows.fnBookLineSpec.plain.varTypes Tryz.prog ++ Tryz.f7.resultTypes.toList)) = true:= by kernel_rfl
theorem fnBookLine_facts:joinedFacts Tryz.prog 7 Tryz.f7 Rows.fnBookLineSpec Rows.fnBookLineRow = true:=
 Pg fnBookLine_fact0 fnBookLine_fact1 fnBookLine_fact2 fnBookLine_fact3 fnBookLine_fact4 fnBookLine_fact5 fnBookLine_fact6 fnBookLine_fact7 fnBookLine_fact8 fnBookLine_fact9 fnBookLine_fact10 fnBookLine_fact11 fnBookLine_fact12 fnBookLine_fact13 fnBookLine_fact14 fnBookLine_fact15 fnBookLine_fact16 fnBookLine_fact17 fnBookLine_fact18 fnBookLine_fact19 fnBookLine_fact20 fnBookLine_fact21 fnBookLine_fact22 fnBookLine_fact23 fnBookLine_fact24 fnBookLine_fact25 fnBookLine_fact26 fnBookLine_fact27 fnBookLine_fact28 fnBookLine_fact29 fnBookLine_fact30 fnBookLine_fact31
theorem fnBookLine_lifted (os:Os) (started:os.Started) (H:Type) (enc:TypeId × Value → H):
  ReturnsInHanded {} Tryz.checked os 7 .any (fun w args => (Rows.fnBookLineSpec.pre enc Tryz.prog Tryz.f7 Rows.fnBookLineRow.domain false w args ∧ laidMetH Tryz.prog Rows.fnBookLineRow.laid w) ∧ sizedMet enc Tryz.prog Tryz.f7 (OpenSpec.ofChange Rows.fnBookLineSpec) false w args)
   (Rows.fnBookLineSpec.post enc Tryz.prog Tryz.f7 false true false false):= by
 refine Ph (C:= Tryz.checked) (X:= fun w _ => laidMetH Tryz.prog Rows.fnBookLineRow.laid w) (fun _ _ _ hh h => h.of_heap hh) own started (by kernel_rfl) Tryz.func7
  (ChangeSpec.witness_shaped (enc:= enc) (C:= Tryz.checked) (os:= os) (X:= fun w _ => laidMetH Tryz.prog Rows.fnBookLineRow.laid w) false (World.laidAll Tryz.prog os Rows.fnBookLineRow.laid) #[.slice none 0 0] 8 (World.laidAll_os _ _ _)
   (World.shaped_of_ZipB (by kernel_rfl) (by kernel_rfl)) (by kernel_rfl) (by kernel_rfl) (by kernel_rfl)
   (by rw [MakeChecks.laidMetH_plain _ _ _ (by kernel_rfl)]; exact laidMet_laidAll _ (by kernel_rfl) (by kernel_rfl))) ?_
 intro W base args ds gs before hval0 hW hcnd _ hL hsh
 have hval:∀ (j:Nat) t v,Tryz.f7.params[j]? = some t → args[j]? = some v → Value.okWide Tryz.prog W .any base t v:= hval0
 have hW':DataW.Whole enc Tryz.prog Tryz.f7.params.toList Rows.fnBookLineSpec.vars false W args.toList ds gs before:= hW
 obtain ⟨p,q,hA0,hV,hpq,hfz,hnd⟩:= hW
 have hA:DataW.TrodAll enc Tryz.prog W 0 (fun _ => true) true Tryz.f7.params.toList args.toList ds p:= hA0
 rw [Tryz.params7] at hA hval
 obtain ⟨v0,d0,rfl,rfl,h0⟩:= trodAll_one hA
 obtain ⟨xs,hx,hB,r0⟩:= X3 Tryz.underlying22 Tryz.underlying5 lb (hval 0 22 v0 rfl rfl) h0
 exact aA (tb:= 4) (qI (by kernel_rfl) (by simp [Rows.fnBookLineRow]) hL (qJ (by kernel_rfl) (by simp [Rows.fnBookLineRow]) (by simp [Rows.fnBookLineRow]) hsh hL)) (dY (bH xs hB)) (lj r0) gp
  (by
   rw [Tryz.params7]
   intro t ht
   simp at ht
   subst ht
   exact ⟨lc,of_decide_eq_true (by kernel_rfl)⟩) hW' rfl (fun g1 _ => rfl) (by kernel_rfl) Tryz.underlying4 dX gq Tryz.underlying58 lh
end Go.Proofs.YtfkmfobbgoflgaaGreatDoor
