/- For every code the law FnBookSay answers true, and the code and the words of deeds read as before; the listed package variables hold what the program's text lays, to which the card ties them. -/
import Derived.Test.YtfkmfobbgoflgaaGreatDoorR
set_option linter.unusedSimpArgs false
set_option linter.unusedVariables false
set_option maxRecDepth 100000
namespace Go.Proofs.YtfkmfobbgoflgaaGreatDoor
open Go.ChangeShapes Go.WideShapes Go.ChangeAt Go.RowKit Go.Proofs.Dev
theorem fnBookSay_holds:Rows.FnBookSaySaid:=
 OpenClaim.holds_of_wide 8 Tryz.f8 rfl rfl rfl rfl rfl rfl rfl ⟨rfl,rfl,rfl,rfl,rfl⟩ rfl rfl rfl rfl rfl (by kernel_rfl) Tryz.func8 fnBookSay_facts
  (of_decide_eq_true (by kernel_rfl)) (by unfold Func.isWrapper; first | (rw [if_pos (by decide +kernel)]; kernel_rfl) | (rw [if_neg (by decide +kernel)]; exact ⟨rfl,rfl⟩))
  (fun os started H enc _ => fnBookSay_lifted os started H enc)
theorem fnBookSay_c6:false = Rows.fnBookSayRow.goesBy Tryz.pinned.checked.prog:= by kernel_rfl
theorem fnBookSay_c1:Rows.fnBookSayRow.wfByText (OpenSpec.ofChange Rows.fnBookSaySpec) = true:= by kernel_rfl
theorem fnBookSay_c2:Tryz.pinned.checked.prog.mainIs = some (true,"afa837f5c4d68b516dd8c875bf7798ccf155dfb08526095c68c37820e6ebda0c".toList):= by kernel_rfl
theorem fnBookSay_c3:Tryz.prog.funcNamed "loop.example/dominotilings/laws.FnBookSay" = some 8:= by kernel_rfl
theorem fnBookSay_c4:true = Tryz.pinned.checked.prog.looks []:= by kernel_rfl
theorem fnBookSay_c5:([22].all fun u => !Tryz.prog.wantsStandIn u) = true:= by kernel_rfl
theorem fnBookSay_card_holds:Rows.FnBookSayCardSaid:=
 Claim7.holds_tied_plain_at .later [] [.data,.data,.data,.data,.sentinel,.sentinel,.widerDeep,.pinned] true (true,"afa837f5c4d68b516dd8c875bf7798ccf155dfb08526095c68c37820e6ebda0c") true fnBookSay_holds (fun _ h => by cases h) fnBookSay_c1 (fun _ h => by cases h) fnBookSay_row_tie rfl ⟨rfl,rfl⟩ fnBookSay_c2 rfl
  (fun f fn hf hfn => by
   obtain rfl:f = 8:= Option.some.inj (fnBookSay_c3.symm.trans hf) |>.symm
   obtain rfl:fn = Tryz.f8:= (Option.some.inj (Tryz.func8.symm.trans hfn)).symm
   exact ⟨fnBookSay_c4,fun j t ht => by
    rw [Tryz.params8] at ht
    have hm:t ∈ [22]:= by simpa using Array.mem_of_getElem? ht
    exact (show Tryz.prog.wantsStandIn t = false by simpa using List.all_eq_true.1 fnBookSay_c5 t hm)⟩)
  fnBookSay_c6
end Go.Proofs.YtfkmfobbgoflgaaGreatDoor
