/- For every code the law FnBookLine answers true, and the code and the words of deeds read as before; the listed package variables hold what the program's text lays, to which the card ties them. -/
import Derived.Test.YtfkmfobbgoflgaaGreatDoorP
set_option linter.unusedSimpArgs false
set_option linter.unusedVariables false
set_option maxRecDepth 100000
namespace Go.Proofs.YtfkmfobbgoflgaaGreatDoor
open Go.ChangeShapes Go.WideShapes Go.ChangeAt Go.RowKit Go.Proofs.Dev
theorem fnBookLine_holds:Rows.FnBookLineSaid:=
 OpenClaim.holds_of_wide 7 Tryz.f7 rfl rfl rfl rfl rfl rfl rfl ⟨rfl,rfl,rfl,rfl,rfl⟩ rfl rfl rfl rfl rfl (by kernel_rfl) Tryz.func7 fnBookLine_facts
  (of_decide_eq_true (by kernel_rfl)) (by unfold Func.isWrapper; first | (rw [if_pos (by decide +kernel)]; kernel_rfl) | (rw [if_neg (by decide +kernel)]; exact ⟨rfl,rfl⟩))
  (fun os started H enc _ => fnBookLine_lifted os started H enc)
theorem fnBookLine_c6:false = Rows.fnBookLineRow.goesBy Tryz.pinned.checked.prog:= by kernel_rfl
theorem fnBookLine_c1:Rows.fnBookLineRow.wfByText (OpenSpec.ofChange Rows.fnBookLineSpec) = true:= by kernel_rfl
theorem fnBookLine_c2:Tryz.pinned.checked.prog.mainIs = some (true,"afa837f5c4d68b516dd8c875bf7798ccf155dfb08526095c68c37820e6ebda0c".toList):= by kernel_rfl
theorem fnBookLine_c3:Tryz.prog.funcNamed "loop.example/dominotilings/laws.FnBookLine" = some 7:= by kernel_rfl
theorem fnBookLine_c4:true = Tryz.pinned.checked.prog.looks []:= by kernel_rfl
theorem fnBookLine_c5:([22].all fun u => !Tryz.prog.wantsStandIn u) = true:= by kernel_rfl
theorem fnBookLine_card_holds:Rows.FnBookLineCardSaid:=
 Claim7.holds_tied_plain_at .later [] [.data,.data,.data,.data,.sentinel,.sentinel,.widerDeep,.pinned] true (true,"afa837f5c4d68b516dd8c875bf7798ccf155dfb08526095c68c37820e6ebda0c") true fnBookLine_holds (fun _ h => by cases h) fnBookLine_c1 (fun _ h => by cases h) fnBookLine_row_tie rfl ⟨rfl,rfl⟩ fnBookLine_c2 rfl
  (fun f fn hf hfn => by
   obtain rfl:f = 7:= Option.some.inj (fnBookLine_c3.symm.trans hf) |>.symm
   obtain rfl:fn = Tryz.f7:= (Option.some.inj (Tryz.func7.symm.trans hfn)).symm
   exact ⟨fnBookLine_c4,fun j t ht => by
    rw [Tryz.params7] at ht
    have hm:t ∈ [22]:= by simpa using Array.mem_of_getElem? ht
    exact (show Tryz.prog.wantsStandIn t = false by simpa using List.all_eq_true.1 fnBookLine_c5 t hm)⟩)
  fnBookLine_c6
end Go.Proofs.YtfkmfobbgoflgaaGreatDoor
