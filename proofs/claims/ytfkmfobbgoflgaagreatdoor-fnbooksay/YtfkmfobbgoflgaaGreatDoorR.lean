/- Contracts of the functions of the program over slots and rows, each proved against the program itself; no condition beyond those that each theorem names. -/
import Derived.Test.YtfkmfobbgoflgaaGreatDoorAK
import Derived.Test.YtfkmfobbgoflgaaGreatDoorBB
set_option linter.unusedSimpArgs false
set_option linter.unusedVariables false
set_option maxRecDepth 100000
namespace Go.Proofs.YtfkmfobbgoflgaaGreatDoor
open Go.ChangeShapes Go.WideShapes Go.ChangeAt Go.RowKit Go.Proofs.Dev
theorem fnBookSay_fact0:(Rows.fnBookSayRow.wf (OpenSpec.ofChange Rows.fnBookSaySpec)) = true:= by kernel_rfl
theorem fnBookSay_fact1:(laidOutB Tryz.prog) = true:= by kernel_rfl
theorem fnBookSay_fact2:(mapsRowed Tryz.prog) = true:= by kernel_rfl
theorem fnBookSay_fact3:(Tryz.f8.params.all (Tryz.prog.readableRec ·)) = true:= by kernel_rfl
theorem fnBookSay_fact4:(namedTie Tryz.prog Rows.fnBookSayRow.named Rows.fnBookSaySpec.vars) = true:= by kernel_rfl
theorem fnBookSay_fact5:((Rows.fnBookSayRow.stops == [])) = true:= by kernel_rfl
theorem fnBookSay_fact6:((Tryz.prog.stops == [])) = true:= by kernel_rfl
theorem fnBookSay_fact7:((Rows.fnBookSayRow.knobs == [])) = true:= by kernel_rfl
theorem fnBookSay_fact8:((Tryz.prog.stopKnobs == [])) = true:= by kernel_rfl
theorem fnBookSay_fact9:((Rows.fnBookSayRow.inPlace == Tryz.prog.inPlace 8)) = true:= by kernel_rfl
theorem fnBookSay_fact10:((Rows.fnBookSayRow.unfollowed == Tryz.prog.unfollowed 8)) = true:= by kernel_rfl
theorem fnBookSay_fact11:((Rows.fnBookSayRow.recurses == Tryz.prog.recurses 8)) = true:= by kernel_rfl
theorem fnBookSay_fact12:((Rows.fnBookSayRow.named == Tryz.prog.varsNamed 8)) = true:= by kernel_rfl
theorem fnBookSay_fact13:((Rows.fnBookSayRow.maps == (Tryz.f8.params.toList ++ Rows.fnBookSaySpec.plain.varTypes Tryz.prog).any (Tryz.prog.mapsRec ·))) = true:= by kernel_rfl
theorem fnBookSay_fact14:((Rows.fnBookSayRow.ifaces == (Tryz.f8.params.toList ++ Rows.fnBookSaySpec.plain.varTypes Tryz.prog).any (Tryz.prog.ifacesRec ·))) = true:= by kernel_rfl
theorem fnBookSay_fact15:((Rows.fnBookSayRow.mapsOut == Tryz.prog.mapsAmong Tryz.f8.resultTypes.toList)) = true:= by kernel_rfl
theorem fnBookSay_fact16:((Rows.fnBookSayRow.loops == (Tryz.f8.params.toList ++ Rows.fnBookSaySpec.plain.varTypes Tryz.prog).any (Tryz.prog.loopsFrom ·))) = true:= by kernel_rfl
theorem fnBookSay_fact17:((Rows.fnBookSayRow.wideKeys == (Tryz.f8.params.toList ++ Rows.fnBookSaySpec.plain.varTypes Tryz.prog ++ Tryz.f8.resultTypes.toList).any (Tryz.prog.wideKeysFrom ·))) = true:= by kernel_rfl
theorem fnBookSay_fact18:(Rows.fnBookSaySpec.vars.all (Tryz.prog.varReadable ·)) = true:= by kernel_rfl
theorem fnBookSay_fact19:(Tryz.f8.resultTypes.all (fun t => Tryz.prog.readableRec t && decide (t < Tryz.prog.types.size))) = true:= by kernel_rfl
theorem fnBookSay_fact20:((Rows.fnBookSayRow.ifacesOut == Tryz.f8.resultTypes.toList.any (Tryz.prog.ifacesRec ·))) = true:= by kernel_rfl
theorem fnBookSay_fact21:((Rows.fnBookSayRow.loopsOut == Tryz.f8.resultTypes.toList.any (Tryz.prog.loopsFrom ·))) = true:= by kernel_rfl
theorem fnBookSay_fact22:((Rows.fnBookSayRow.plainKeys == Tryz.prog.plainKeys)) = true:= by kernel_rfl
theorem fnBookSay_fact23:(Rows.fnBookSayRow.shortTexts.isNone) = true:= by kernel_rfl
theorem fnBookSay_fact24:(Tryz.prog.stopsHeard) = true:= by kernel_rfl
theorem fnBookSay_fact25:(Tryz.prog.mayEnter) = true:= RY
theorem fnBookSay_fact26:((Rows.fnBookSayRow.lifted == Tryz.prog.liftsFinal)) = true:= by rw [OI]; rfl
theorem fnBookSay_fact27:((Tryz.prog.make == some Rows.fnBookSayRow.make)) = true:= by rw [aJ]; rfl
theorem fnBookSay_fact28:Rows.fnBookSayRow.domain = [] ∧ Rows.fnBookSayRow.kinds = []:= ⟨rfl,rfl⟩
theorem fnBookSay_fact29:((Rows.fnBookSayRow.pinned == Rows.fnBookSayRow.pinnedBy)) = true:= by kernel_rfl
theorem fnBookSay_fact30:((Rows.fnBookSayRow.veiled == (Tryz.f8.params.toList ++ Rows.fnBookSaySpec.plain.varTypes Tryz.prog ++ Tryz.f8.resultTypes.toList).any (Tryz.prog.veiledRec ·))) = true:= by kernel_rfl
theorem fnBookSay_fact31:(Rows.fnBookSayRow.veiledFits Tryz.prog Tryz.f8.params.toList (Tryz.f8.params.toList ++ Rows.fnBookSaySpec.plain.varTypes Tryz.prog ++ Tryz.f8.resultTypes.toList)) = true:= by kernel_rfl
theorem fnBookSay_facts:joinedFacts Tryz.prog 8 Tryz.f8 Rows.fnBookSaySpec Rows.fnBookSayRow = true:=
 Pg fnBookSay_fact0 fnBookSay_fact1 fnBookSay_fact2 fnBookSay_fact3 fnBookSay_fact4 fnBookSay_fact5 fnBookSay_fact6 fnBookSay_fact7 fnBookSay_fact8 fnBookSay_fact9 fnBookSay_fact10 fnBookSay_fact11 fnBookSay_fact12 fnBookSay_fact13 fnBookSay_fact14 fnBookSay_fact15 fnBookSay_fact16 fnBookSay_fact17 fnBookSay_fact18 fnBookSay_fact19 fnBookSay_fact20 fnBookSay_fact21 fnBookSay_fact22 fnBookSay_fact23 fnBookSay_fact24 fnBookSay_fact25 fnBookSay_fact26 fnBookSay_fact27 fnBookSay_fact28 fnBookSay_fact29 fnBookSay_fact30 fnBookSay_fact31
theorem fnBookSay_lifted (os:Os) (started:os.Started) (H:Type) (enc:TypeId × Value → H):
  ReturnsInHanded {} Tryz.checked os 8 .any (fun w args => (Rows.fnBookSaySpec.pre enc Tryz.prog Tryz.f8 Rows.fnBookSayRow.domain false w args ∧ laidMetH Tryz.prog Rows.fnBookSayRow.laid w) ∧ sizedMet enc Tryz.prog Tryz.f8 (OpenSpec.ofChange Rows.fnBookSaySpec) false w args)
   (Rows.fnBookSaySpec.post enc Tryz.prog Tryz.f8 false true false false):= by
 refine Ph (C:= Tryz.checked) (X:= fun w _ => laidMetH Tryz.prog Rows.fnBookSayRow.laid w) (fun _ _ _ hh h => h.of_heap hh) own started (by kernel_rfl) Tryz.func8
  (ChangeSpec.witness_shaped (enc:= enc) (C:= Tryz.checked) (os:= os) (X:= fun w _ => laidMetH Tryz.prog Rows.fnBookSayRow.laid w) false (World.laidAll Tryz.prog os Rows.fnBookSayRow.laid) #[.slice none 0 0] 8 (World.laidAll_os _ _ _)
   (World.shaped_of_ZipB (by kernel_rfl) (by kernel_rfl)) (by kernel_rfl) (by kernel_rfl) (by kernel_rfl)
   (by rw [MakeChecks.laidMetH_plain _ _ _ (by kernel_rfl)]; exact laidMet_laidAll _ (by kernel_rfl) (by kernel_rfl))) ?_
 intro W base args ds gs before hval0 hW hcnd _ hL hsh
 have hval:∀ (j:Nat) t v,Tryz.f8.params[j]? = some t → args[j]? = some v → Value.okWide Tryz.prog W .any base t v:= hval0
 have hW':DataW.Whole enc Tryz.prog Tryz.f8.params.toList Rows.fnBookSaySpec.vars false W args.toList ds gs before:= hW
 obtain ⟨p,q,hA0,hV,hpq,hfz,hnd⟩:= hW
 have hA:DataW.TrodAll enc Tryz.prog W 0 (fun _ => true) true Tryz.f8.params.toList args.toList ds p:= hA0
 rw [Tryz.params8] at hA hval
 obtain ⟨v0,d0,rfl,rfl,h0⟩:= trodAll_one hA
 obtain ⟨xs,hx,hB,r0⟩:= X3 Tryz.underlying22 Tryz.underlying5 lb (hval 0 22 v0 rfl rfl) h0
 exact aA (tb:= 4) (qI (by kernel_rfl) (by simp [Rows.fnBookSayRow]) hL (qJ (by kernel_rfl) (by simp [Rows.fnBookSayRow]) (by simp [Rows.fnBookSayRow]) hsh hL)) (dY (ci xs hB)) (lj r0) gp
  (by
   rw [Tryz.params8]
   intro t ht
   simp at ht
   subst ht
   exact ⟨lc,of_decide_eq_true (by kernel_rfl)⟩) hW' rfl (fun g1 _ => rfl) (by kernel_rfl) Tryz.underlying4 dX gq Tryz.underlying58 lh
end Go.Proofs.YtfkmfobbgoflgaaGreatDoor
