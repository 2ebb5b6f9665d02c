/- For every two codes the law FnReadJournal answers true, and both codes and the words of deeds read as before; the listed package variables hold what the program's text lays, to which the card ties them. -/
import Derived.Test.YtfkmfobbgoflgaaGreatDoorP
set_option linter.unusedSimpArgs false
set_option linter.unusedVariables false
set_option maxRecDepth 100000
namespace Go.Proofs.YtfkmfobbgoflgaaGreatDoor
open Go.ChangeShapes Go.WideShapes Go.ChangeAt Go.RowKit Go.Proofs.Dev
theorem fnReadJournal_holds : Rows.FnReadJournalSaid :=
 OpenClaim.holds_of_wide 4 Tryz.f4 rfl rfl rfl rfl rfl rfl rfl ⟨rfl, rfl, rfl, rfl, rfl⟩ rfl rfl rfl rfl rfl (by kernel_rfl) Tryz.func4 fnReadJournal_facts
  (of_decide_eq_true (by kernel_rfl)) (by unfold Func.isWrapper; first | (rw [if_pos (by decide +kernel)]; kernel_rfl) | (rw [if_neg (by decide +kernel)]; exact ⟨rfl, rfl⟩))
  (fun os started H enc _ => fnReadJournal_lifted os started H enc)
theorem fnReadJournal_c6 : false = Rows.fnReadJournalRow.goesBy Tryz.pinned.checked.prog := by kernel_rfl
theorem fnReadJournal_c1 : Rows.fnReadJournalRow.wfByText (OpenSpec.ofChange Rows.fnReadJournalSpec) = true := by kernel_rfl
theorem fnReadJournal_c2 : Tryz.pinned.checked.prog.mainIs = some (true, "afa837f5c4d68b516dd8c875bf7798ccf155dfb08526095c68c37820e6ebda0c".toList) := by kernel_rfl
theorem fnReadJournal_c3 : Tryz.prog.funcNamed "loop.example/dominotilings/laws.FnReadJournal" = some 4 := by kernel_rfl
theorem fnReadJournal_c4 : true = Tryz.pinned.checked.prog.looks [] := by kernel_rfl
theorem fnReadJournal_c5 : ([22, 22].all fun u => !Tryz.prog.wantsStandIn u) = true := by kernel_rfl
theorem fnReadJournal_card_holds : Rows.FnReadJournalCardSaid :=
 Claim7.holds_tied_plain_at .later [] [.data, .data, .data, .data, .sentinel, .sentinel, .widerDeep, .pinned] true (true, "afa837f5c4d68b516dd8c875bf7798ccf155dfb08526095c68c37820e6ebda0c") true fnReadJournal_holds (fun _ h => by cases h) fnReadJournal_c1 (fun _ h => by cases h) fnReadJournal_row_tie rfl ⟨rfl, rfl⟩ fnReadJournal_c2 rfl
  (fun f fn hf hfn => by
   obtain rfl : f = 4 := Option.some.inj (fnReadJournal_c3.symm.trans hf) |>.symm
   obtain rfl : fn = Tryz.f4 := (Option.some.inj (Tryz.func4.symm.trans hfn)).symm
   exact ⟨fnReadJournal_c4, fun j t ht => by
    rw [Tryz.params4] at ht
    have hm : t ∈ [22, 22] := by simpa using Array.mem_of_getElem? ht
    exact (show Tryz.prog.wantsStandIn t = false by simpa using List.all_eq_true.1 fnReadJournal_c5 t hm)⟩)
  fnReadJournal_c6
end Go.Proofs.YtfkmfobbgoflgaaGreatDoor
