/- For every book and every list of texts the law FnExactBookSay answers true, and the book, the texts and the words of deeds read as before; the listed package variables hold what the program's text lays, to which the card ties them. -/
import Derived.Test.YtfkmfobbgoflgaaGreatDoorP
set_option linter.unusedSimpArgs false
set_option linter.unusedVariables false
set_option maxRecDepth 100000
namespace Go.Proofs.YtfkmfobbgoflgaaGreatDoor
open Go.ChangeShapes Go.WideShapes Go.ChangeAt Go.RowKit Go.Proofs.Dev
theorem fnExactBookSay_holds : Rows.FnExactBookSaySaid :=
 OpenClaim.holds_of_wide 6 Tryz.f6 rfl rfl rfl rfl rfl rfl rfl ⟨rfl, rfl, rfl, rfl, rfl⟩ rfl rfl rfl rfl rfl (by kernel_rfl) Tryz.func6 fnExactBookSay_facts
  (of_decide_eq_true (by kernel_rfl)) (by unfold Func.isWrapper; first | (rw [if_pos (by decide +kernel)]; kernel_rfl) | (rw [if_neg (by decide +kernel)]; exact ⟨rfl, rfl⟩))
  (fun os started H enc _ => fnExactBookSay_lifted os started H enc)
theorem fnExactBookSay_c6 : false = Rows.fnExactBookSayRow.goesBy Tryz.pinned.checked.prog := by kernel_rfl
theorem fnExactBookSay_c1 : Rows.fnExactBookSayRow.wfByText (OpenSpec.ofChange Rows.fnExactBookSaySpec) = true := by kernel_rfl
theorem fnExactBookSay_c2 : Tryz.pinned.checked.prog.mainIs = some (true, "afa837f5c4d68b516dd8c875bf7798ccf155dfb08526095c68c37820e6ebda0c".toList) := by kernel_rfl
theorem fnExactBookSay_c3 : Tryz.prog.funcNamed "loop.example/dominotilings/laws.FnExactBookSay" = some 6 := by kernel_rfl
theorem fnExactBookSay_c4 : true = Tryz.pinned.checked.prog.looks [] := by kernel_rfl
theorem fnExactBookSay_c5 : ([53, 58].all fun u => !Tryz.prog.wantsStandIn u) = true := by kernel_rfl
theorem fnExactBookSay_card_holds : Rows.FnExactBookSayCardSaid :=
 Claim7.holds_tied_plain_at .later [] [.data, .data, .data, .data, .sentinel, .sentinel, .widerDeep, .pinned] true (true, "afa837f5c4d68b516dd8c875bf7798ccf155dfb08526095c68c37820e6ebda0c") true fnExactBookSay_holds (fun _ h => by cases h) fnExactBookSay_c1 (fun _ h => by cases h) fnExactBookSay_row_tie rfl ⟨rfl, rfl⟩ fnExactBookSay_c2 rfl
  (fun f fn hf hfn => by
   obtain rfl : f = 6 := Option.some.inj (fnExactBookSay_c3.symm.trans hf) |>.symm
   obtain rfl : fn = Tryz.f6 := (Option.some.inj (Tryz.func6.symm.trans hfn)).symm
   exact ⟨fnExactBookSay_c4, fun j t ht => by
    rw [Tryz.params6] at ht
    have hm : t ∈ [53, 58] := by simpa using Array.mem_of_getElem? ht
    exact (show Tryz.prog.wantsStandIn t = false by simpa using List.all_eq_true.1 fnExactBookSay_c5 t hm)⟩)
  fnExactBookSay_c6
end Go.Proofs.YtfkmfobbgoflgaaGreatDoor
