/-
  DERIVED. GIVEN WITH THE SEED: THE CARDS: each row of YtiolbpmhnlmmdaaDoorRows.lean that lists a variable, with what it lists TIED to the program's text (the seventh form; the later family's looks); each row that meets fmt, with fmt's text TOLD by the authors' own Lean function (tested against real Go, not proved from fmt's source: count such statements apart). THE CARD IS WHAT COUNTS. Prove the row's statement (the work); the ties are given (YtiolbpmhnlmmdaaDoorTie.lean); close each card by the builder's one call (the guide's Derived/Test/ToyasCard.lean, 'card_holds'). Laid BY PROGRAM, IN A SANDBOX (cutbox-door.mjs). By AI agents, Wed Nov 11 2026. No macro, syntax, notation, axiom, sorry.
-/
import Derived.Test.YtiolbpmhnlmmdaaDoorRows
import GoSem.ClaimSeven
namespace Go.Proofs.YtiolbpmhnlmmdaaDoor
namespace Rows

/-- THE TIED CARD OF 'laws.FnExactDeedText'. -/
def fnExactDeedTextCard : Claim7 := { stood := { row := fnExactDeedTextRow, standIns := [], harness := (true, "9d6f34a35e15a95c98876e1dfee1fe7e473a8f326694ff565d09015eac068bff"), looks := true }, kinds := [], alts := [], laidByText := true, laidKinds := [.data, .data, .data, .widerDeep], laidTests := true, laidLooks := .later }
def FnExactDeedTextCardSaid : Prop := Claim7.holds Tryd.pinned (.plain (OpenSpec.ofChange fnExactDeedTextSpec)) fnExactDeedTextCard

/-- THE TIED CARD OF 'laws.FnExactJournalText'. -/
def fnExactJournalTextCard : Claim7 := { stood := { row := fnExactJournalTextRow, standIns := [], harness := (true, "9d6f34a35e15a95c98876e1dfee1fe7e473a8f326694ff565d09015eac068bff"), looks := true }, kinds := [], alts := [], laidByText := true, laidKinds := [.data, .data, .data, .widerDeep], laidTests := true, laidLooks := .later }
def FnExactJournalTextCardSaid : Prop := Claim7.holds Tryd.pinned (.plain (OpenSpec.ofChange fnExactJournalTextSpec)) fnExactJournalTextCard

/-- THE TIED CARD OF 'laws.FnExactReadPuzzle'. -/
def fnExactReadPuzzleCard : Claim7 := { stood := { row := fnExactReadPuzzleRow, standIns := [], harness := (true, "9d6f34a35e15a95c98876e1dfee1fe7e473a8f326694ff565d09015eac068bff"), looks := true }, kinds := [], alts := [], laidByText := true, laidKinds := [.data, .pinned], laidTests := true, laidLooks := .later }
def FnExactReadPuzzleCardSaid : Prop := Claim7.holds Tryd.pinned (.plain (OpenSpec.ofChange fnExactReadPuzzleSpec)) fnExactReadPuzzleCard

/-- THE TIED CARD OF 'laws.FnExactReadDeed'. -/
def fnExactReadDeedCard : Claim7 := { stood := { row := fnExactReadDeedRow, standIns := [], harness := (true, "9d6f34a35e15a95c98876e1dfee1fe7e473a8f326694ff565d09015eac068bff"), looks := true }, kinds := [], alts := [], laidByText := true, laidKinds := [.data, .data, .data, .data, .sentinel, .sentinel, .widerDeep, .pinned], laidTests := true, laidLooks := .later }
def FnExactReadDeedCardSaid : Prop := Claim7.holds Tryd.pinned (.plain (OpenSpec.ofChange fnExactReadDeedSpec)) fnExactReadDeedCard

/-- THE TIED CARD OF 'laws.FnExactReadJournal'. -/
def fnExactReadJournalCard : Claim7 := { stood := { row := fnExactReadJournalRow, standIns := [], harness := (true, "9d6f34a35e15a95c98876e1dfee1fe7e473a8f326694ff565d09015eac068bff"), looks := true }, kinds := [], alts := [], laidByText := true, laidKinds := [.data, .data, .data, .data, .sentinel, .sentinel, .widerDeep, .pinned], laidTests := true, laidLooks := .later }
def FnExactReadJournalCardSaid : Prop := Claim7.holds Tryd.pinned (.plain (OpenSpec.ofChange fnExactReadJournalSpec)) fnExactReadJournalCard

/-- THE TIED CARD OF 'laws.FnPuzzleText'. -/
def fnPuzzleTextCard : Claim7 := { stood := { row := fnPuzzleTextRow, standIns := [], harness := (true, "9d6f34a35e15a95c98876e1dfee1fe7e473a8f326694ff565d09015eac068bff"), looks := true }, kinds := [], alts := [], laidByText := true, laidKinds := [.data, .pinned], laidTests := true, laidLooks := .later }
def FnPuzzleTextCardSaid : Prop := Claim7.holds Tryd.pinned (.plain (OpenSpec.ofChange fnPuzzleTextSpec)) fnPuzzleTextCard

/-- THE TIED CARD OF 'laws.FnReadPuzzle'. -/
def fnReadPuzzleCard : Claim7 := { stood := { row := fnReadPuzzleRow, standIns := [], harness := (true, "9d6f34a35e15a95c98876e1dfee1fe7e473a8f326694ff565d09015eac068bff"), looks := true }, kinds := [], alts := [], laidByText := true, laidKinds := [.data, .pinned], laidTests := true, laidLooks := .later }
def FnReadPuzzleCardSaid : Prop := Claim7.holds Tryd.pinned (.plain (OpenSpec.ofChange fnReadPuzzleSpec)) fnReadPuzzleCard

/-- THE SECOND FORM's CARD OF 'laws.FnExactDeedText'. -/
def fnExactDeedTextUptoCard : Claim7 := { stood := { row := fnExactDeedTextUptoRow, standIns := [], harness := (true, "9d6f34a35e15a95c98876e1dfee1fe7e473a8f326694ff565d09015eac068bff"), looks := true }, kinds := [], alts := [], laidByText := true, laidKinds := [.data, .data, .data, .widerDeep], laidTests := true, laidLooks := .later }
def FnExactDeedTextUptoCardSaid : Prop := Claim7.holds Tryd.pinned (.plain (OpenSpec.upto fnExactDeedTextSpec)) fnExactDeedTextUptoCard

/-- THE SECOND FORM's CARD OF 'laws.FnExactJournalText'. -/
def fnExactJournalTextUptoCard : Claim7 := { stood := { row := fnExactJournalTextUptoRow, standIns := [], harness := (true, "9d6f34a35e15a95c98876e1dfee1fe7e473a8f326694ff565d09015eac068bff"), looks := true }, kinds := [], alts := [], laidByText := true, laidKinds := [.data, .data, .data, .widerDeep], laidTests := true, laidLooks := .later }
def FnExactJournalTextUptoCardSaid : Prop := Claim7.holds Tryd.pinned (.plain (OpenSpec.upto fnExactJournalTextSpec)) fnExactJournalTextUptoCard

/-- THE SECOND FORM's CARD OF 'laws.FnExactReadPuzzle'. -/
def fnExactReadPuzzleUptoCard : Claim7 := { stood := { row := fnExactReadPuzzleUptoRow, standIns := [], harness := (true, "9d6f34a35e15a95c98876e1dfee1fe7e473a8f326694ff565d09015eac068bff"), looks := true }, kinds := [], alts := [], laidByText := true, laidKinds := [.data, .pinned], laidTests := true, laidLooks := .later }
def FnExactReadPuzzleUptoCardSaid : Prop := Claim7.holds Tryd.pinned (.plain (OpenSpec.upto fnExactReadPuzzleSpec)) fnExactReadPuzzleUptoCard

/-- THE SECOND FORM's CARD OF 'laws.FnExactReadDeed'. -/
def fnExactReadDeedUptoCard : Claim7 := { stood := { row := fnExactReadDeedUptoRow, standIns := [], harness := (true, "9d6f34a35e15a95c98876e1dfee1fe7e473a8f326694ff565d09015eac068bff"), looks := true }, kinds := [], alts := [], laidByText := true, laidKinds := [.data, .data, .data, .data, .sentinel, .sentinel, .widerDeep, .pinned], laidTests := true, laidLooks := .later }
def FnExactReadDeedUptoCardSaid : Prop := Claim7.holds Tryd.pinned (.plain (OpenSpec.upto fnExactReadDeedSpec)) fnExactReadDeedUptoCard

/-- THE SECOND FORM's CARD OF 'laws.FnExactReadJournal'. -/
def fnExactReadJournalUptoCard : Claim7 := { stood := { row := fnExactReadJournalUptoRow, standIns := [], harness := (true, "9d6f34a35e15a95c98876e1dfee1fe7e473a8f326694ff565d09015eac068bff"), looks := true }, kinds := [], alts := [], laidByText := true, laidKinds := [.data, .data, .data, .data, .sentinel, .sentinel, .widerDeep, .pinned], laidTests := true, laidLooks := .later }
def FnExactReadJournalUptoCardSaid : Prop := Claim7.holds Tryd.pinned (.plain (OpenSpec.upto fnExactReadJournalSpec)) fnExactReadJournalUptoCard

/-- THE SECOND FORM's CARD OF 'laws.FnPuzzleText'. -/
def fnPuzzleTextUptoCard : Claim7 := { stood := { row := fnPuzzleTextUptoRow, standIns := [], harness := (true, "9d6f34a35e15a95c98876e1dfee1fe7e473a8f326694ff565d09015eac068bff"), looks := true }, kinds := [], alts := [], laidByText := true, laidKinds := [.data, .pinned], laidTests := true, laidLooks := .later }
def FnPuzzleTextUptoCardSaid : Prop := Claim7.holds Tryd.pinned (.plain (OpenSpec.upto fnPuzzleTextSpec)) fnPuzzleTextUptoCard

/-- THE SECOND FORM's CARD OF 'laws.FnReadPuzzle'. -/
def fnReadPuzzleUptoCard : Claim7 := { stood := { row := fnReadPuzzleUptoRow, standIns := [], harness := (true, "9d6f34a35e15a95c98876e1dfee1fe7e473a8f326694ff565d09015eac068bff"), looks := true }, kinds := [], alts := [], laidByText := true, laidKinds := [.data, .pinned], laidTests := true, laidLooks := .later }
def FnReadPuzzleUptoCardSaid : Prop := Claim7.holds Tryd.pinned (.plain (OpenSpec.upto fnReadPuzzleSpec)) fnReadPuzzleUptoCard
end Rows
end Go.Proofs.YtiolbpmhnlmmdaaDoor
