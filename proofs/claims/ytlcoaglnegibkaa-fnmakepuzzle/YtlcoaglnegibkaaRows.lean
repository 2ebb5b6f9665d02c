/-
  No cell of these rows narrows 'for every input' (looked for: loops, veiled, ifaces, maps, wideKeys, modest, calm, conditions, laid).
  DERIVED. THE GIVEN ROWS OF THIS SEAT. 11 by the template 'for every input the law returns true; each argument reads behind the call as it read before'; 0 by the template 'total and deterministic' (their statements: YtlcoaglnegibkaaTotals.lean).
  GIVEN WITH THE SEED: the statements are not yours to turn. If you find one false, say at which input.
  Laid BY PROGRAM, IN A SANDBOX (cutbox-rows.mjs): the forced cells as the released guide's own fill.sh prints them over the translation 91ea0d2df469839e… (all of the seat's roots in one cut). By AI agents, Wed Nov 11 2026. No macro, syntax, notation, axiom, sorry.
-/
import Derived.Test.YtlcoaglnegibkaaChecked
import GoSem.Claim
import GoSem.ClaimJoined
import GoSem.ClaimMapViews
import Derived.JoinedTies
import Derived.KernelRfl
namespace Go.Proofs.Ytlcoaglnegibkaa
/- THE CELL 'sum', in the pinned program and in every row, IS THE sha256 OF THE DUMP (.gsa) THAT YtlcoaglnegibkaaProg.lean LOADS. Nothing in Lean hashes anything: it is a label: what it is worth is what the hold of that sum in a sandbox is worth. -/
noncomputable def Try.pinned : Pinned := { name := "ytlcoaglnegibkaa", sum := "91ea0d2df469839e7b455440d0c06c87dbe8c39e05c4dd94b80fdad7b9771816", checked := Try.checked }
namespace Rows
def none {H : Type} : Left H := { results := [], args := [] }

/-- 'laws.FnPuzzleValid': WHATEVER THE INPUT: true; the input reads as it did. -/
def fnPuzzleValidSpec : ChangeSpec := { name := "fnPuzzleValid", fn := fun _ => fun
  | [d] => { results := [.lit (.bool true)], args := [d] }
  | _ => none }
def fnPuzzleValidRow : OpenClaim := { program := "ytlcoaglnegibkaa", sum := "91ea0d2df469839e7b455440d0c06c87dbe8c39e05c4dd94b80fdad7b9771816", func := "loop.example/dominotilings/laws.FnPuzzleValid", spec := "fnPuzzleValid", apart := false }
def FnPuzzleValidSaid : Prop := fnPuzzleValidRow.holds Try.pinned (OpenSpec.ofChange fnPuzzleValidSpec)

/-- ITS FALSE NEIGHBOUR: 'it returns false'. Refute it at one input. -/
def fnPuzzleValidWrong : ChangeSpec := { name := "fnPuzzleValid", fn := fun _ => fun
  | [d] => { results := [.lit (.bool false)], args := [d] }
  | _ => none }
def FnPuzzleValidWrongFalsely : Prop := fnPuzzleValidRow.holds Try.pinned (OpenSpec.ofChange fnPuzzleValidWrong)

/-- 'laws.FnPairsOf': WHATEVER THE INPUT: true; the input reads as it did. -/
def fnPairsOfSpec : ChangeSpec := { name := "fnPairsOf", fn := fun _ => fun
  | [d] => { results := [.lit (.bool true)], args := [d] }
  | _ => none }
def fnPairsOfRow : OpenClaim := { program := "ytlcoaglnegibkaa", sum := "91ea0d2df469839e7b455440d0c06c87dbe8c39e05c4dd94b80fdad7b9771816", func := "loop.example/dominotilings/laws.FnPairsOf", spec := "fnPairsOf", recurses := true, apart := false }
def FnPairsOfSaid : Prop := fnPairsOfRow.holds Try.pinned (OpenSpec.ofChange fnPairsOfSpec)

/-- ITS FALSE NEIGHBOUR: 'it returns false'. Refute it at one input. -/
def fnPairsOfWrong : ChangeSpec := { name := "fnPairsOf", fn := fun _ => fun
  | [d] => { results := [.lit (.bool false)], args := [d] }
  | _ => none }
def FnPairsOfWrongFalsely : Prop := fnPairsOfRow.holds Try.pinned (OpenSpec.ofChange fnPairsOfWrong)

/-- 'laws.FnFairOk': WHATEVER THE INPUT: true; the input reads as it did. -/
def fnFairOkSpec : ChangeSpec := { name := "fnFairOk", fn := fun _ => fun
  | [d] => { results := [.lit (.bool true)], args := [d] }
  | _ => none }
def fnFairOkRow : OpenClaim := { program := "ytlcoaglnegibkaa", sum := "91ea0d2df469839e7b455440d0c06c87dbe8c39e05c4dd94b80fdad7b9771816", func := "loop.example/dominotilings/laws.FnFairOk", spec := "fnFairOk", recurses := true, apart := false }
def FnFairOkSaid : Prop := fnFairOkRow.holds Try.pinned (OpenSpec.ofChange fnFairOkSpec)

/-- ITS FALSE NEIGHBOUR: 'it returns false'. Refute it at one input. -/
def fnFairOkWrong : ChangeSpec := { name := "fnFairOk", fn := fun _ => fun
  | [d] => { results := [.lit (.bool false)], args := [d] }
  | _ => none }
def FnFairOkWrongFalsely : Prop := fnFairOkRow.holds Try.pinned (OpenSpec.ofChange fnFairOkWrong)

/-- 'laws.FnSolvedOk': WHATEVER THE INPUT: true; the input reads as it did. -/
def fnSolvedOkSpec : ChangeSpec := { name := "fnSolvedOk", fn := fun _ => fun
  | [d] => { results := [.lit (.bool true)], args := [d] }
  | _ => none }
def fnSolvedOkRow : OpenClaim := { program := "ytlcoaglnegibkaa", sum := "91ea0d2df469839e7b455440d0c06c87dbe8c39e05c4dd94b80fdad7b9771816", func := "loop.example/dominotilings/laws.FnSolvedOk", spec := "fnSolvedOk", unfollowed := true, recurses := true, apart := false }
def FnSolvedOkSaid : Prop := fnSolvedOkRow.holds Try.pinned (OpenSpec.ofChange fnSolvedOkSpec)

/-- ITS FALSE NEIGHBOUR: 'it returns false'. Refute it at one input. -/
def fnSolvedOkWrong : ChangeSpec := { name := "fnSolvedOk", fn := fun _ => fun
  | [d] => { results := [.lit (.bool false)], args := [d] }
  | _ => none }
def FnSolvedOkWrongFalsely : Prop := fnSolvedOkRow.holds Try.pinned (OpenSpec.ofChange fnSolvedOkWrong)

/-- 'laws.FnSolutionsAll': WHATEVER THE INPUT: true; the input reads as it did. -/
def fnSolutionsAllSpec : ChangeSpec := { name := "fnSolutionsAll", fn := fun _ => fun
  | [d] => { results := [.lit (.bool true)], args := [d] }
  | _ => none }
def fnSolutionsAllRow : OpenClaim := { program := "ytlcoaglnegibkaa", sum := "91ea0d2df469839e7b455440d0c06c87dbe8c39e05c4dd94b80fdad7b9771816", func := "loop.example/dominotilings/laws.FnSolutionsAll", spec := "fnSolutionsAll", unfollowed := true, recurses := true, apart := false }
def FnSolutionsAllSaid : Prop := fnSolutionsAllRow.holds Try.pinned (OpenSpec.ofChange fnSolutionsAllSpec)

/-- ITS FALSE NEIGHBOUR: 'it returns false'. Refute it at one input. -/
def fnSolutionsAllWrong : ChangeSpec := { name := "fnSolutionsAll", fn := fun _ => fun
  | [d] => { results := [.lit (.bool false)], args := [d] }
  | _ => none }
def FnSolutionsAllWrongFalsely : Prop := fnSolutionsAllRow.holds Try.pinned (OpenSpec.ofChange fnSolutionsAllWrong)

/-- 'laws.FnOptionsOf': WHATEVER THE INPUT: true; the input reads as it did. -/
def fnOptionsOfSpec : ChangeSpec := { name := "fnOptionsOf", fn := fun _ => fun
  | [d] => { results := [.lit (.bool true)], args := [d] }
  | _ => none }
def fnOptionsOfRow : OpenClaim := { program := "ytlcoaglnegibkaa", sum := "91ea0d2df469839e7b455440d0c06c87dbe8c39e05c4dd94b80fdad7b9771816", func := "loop.example/dominotilings/laws.FnOptionsOf", spec := "fnOptionsOf", recurses := true, apart := false }
def FnOptionsOfSaid : Prop := fnOptionsOfRow.holds Try.pinned (OpenSpec.ofChange fnOptionsOfSpec)

/-- ITS FALSE NEIGHBOUR: 'it returns false'. Refute it at one input. -/
def fnOptionsOfWrong : ChangeSpec := { name := "fnOptionsOf", fn := fun _ => fun
  | [d] => { results := [.lit (.bool false)], args := [d] }
  | _ => none }
def FnOptionsOfWrongFalsely : Prop := fnOptionsOfRow.holds Try.pinned (OpenSpec.ofChange fnOptionsOfWrong)

/-- 'laws.FnDead': WHATEVER THE INPUT: true; the input reads as it did. -/
def fnDeadSpec : ChangeSpec := { name := "fnDead", fn := fun _ => fun
  | [d] => { results := [.lit (.bool true)], args := [d] }
  | _ => none }
def fnDeadRow : OpenClaim := { program := "ytlcoaglnegibkaa", sum := "91ea0d2df469839e7b455440d0c06c87dbe8c39e05c4dd94b80fdad7b9771816", func := "loop.example/dominotilings/laws.FnDead", spec := "fnDead", unfollowed := true, recurses := true, apart := false }
def FnDeadSaid : Prop := fnDeadRow.holds Try.pinned (OpenSpec.ofChange fnDeadSpec)

/-- ITS FALSE NEIGHBOUR: 'it returns false'. Refute it at one input. -/
def fnDeadWrong : ChangeSpec := { name := "fnDead", fn := fun _ => fun
  | [d] => { results := [.lit (.bool false)], args := [d] }
  | _ => none }
def FnDeadWrongFalsely : Prop := fnDeadRow.holds Try.pinned (OpenSpec.ofChange fnDeadWrong)

/-- 'laws.FnSolveFirst': WHATEVER THE INPUT: true; the input reads as it did. -/
def fnSolveFirstSpec : ChangeSpec := { name := "fnSolveFirst", fn := fun _ => fun
  | [d] => { results := [.lit (.bool true)], args := [d] }
  | _ => none }
def fnSolveFirstRow : OpenClaim := { program := "ytlcoaglnegibkaa", sum := "91ea0d2df469839e7b455440d0c06c87dbe8c39e05c4dd94b80fdad7b9771816", func := "loop.example/dominotilings/laws.FnSolveFirst", spec := "fnSolveFirst", unfollowed := true, recurses := true, apart := false }
def FnSolveFirstSaid : Prop := fnSolveFirstRow.holds Try.pinned (OpenSpec.ofChange fnSolveFirstSpec)

/-- ITS FALSE NEIGHBOUR: 'it returns false'. Refute it at one input. -/
def fnSolveFirstWrong : ChangeSpec := { name := "fnSolveFirst", fn := fun _ => fun
  | [d] => { results := [.lit (.bool false)], args := [d] }
  | _ => none }
def FnSolveFirstWrongFalsely : Prop := fnSolveFirstRow.holds Try.pinned (OpenSpec.ofChange fnSolveFirstWrong)

/-- 'laws.FnRelabel': WHATEVER THE INPUT: true; the input reads as it did. -/
def fnRelabelSpec : ChangeSpec := { name := "fnRelabel", fn := fun _ => fun
  | [d] => { results := [.lit (.bool true)], args := [d] }
  | _ => none }
def fnRelabelRow : OpenClaim := { program := "ytlcoaglnegibkaa", sum := "91ea0d2df469839e7b455440d0c06c87dbe8c39e05c4dd94b80fdad7b9771816", func := "loop.example/dominotilings/laws.FnRelabel", spec := "fnRelabel", unfollowed := true, recurses := true, apart := false }
def FnRelabelSaid : Prop := fnRelabelRow.holds Try.pinned (OpenSpec.ofChange fnRelabelSpec)

/-- ITS FALSE NEIGHBOUR: 'it returns false'. Refute it at one input. -/
def fnRelabelWrong : ChangeSpec := { name := "fnRelabel", fn := fun _ => fun
  | [d] => { results := [.lit (.bool false)], args := [d] }
  | _ => none }
def FnRelabelWrongFalsely : Prop := fnRelabelRow.holds Try.pinned (OpenSpec.ofChange fnRelabelWrong)

/-- 'laws.FnMakePuzzle': WHATEVER THE INPUT: true; the input reads as it did. -/
def fnMakePuzzleSpec : ChangeSpec := { name := "fnMakePuzzle", fn := fun _ => fun
  | [d] => { results := [.lit (.bool true)], args := [d] }
  | _ => none }
def fnMakePuzzleRow : OpenClaim := { program := "ytlcoaglnegibkaa", sum := "91ea0d2df469839e7b455440d0c06c87dbe8c39e05c4dd94b80fdad7b9771816", func := "loop.example/dominotilings/laws.FnMakePuzzle", spec := "fnMakePuzzle", recurses := true, apart := false }
def FnMakePuzzleSaid : Prop := fnMakePuzzleRow.holds Try.pinned (OpenSpec.ofChange fnMakePuzzleSpec)

/-- ITS FALSE NEIGHBOUR: 'it returns false'. Refute it at one input. -/
def fnMakePuzzleWrong : ChangeSpec := { name := "fnMakePuzzle", fn := fun _ => fun
  | [d] => { results := [.lit (.bool false)], args := [d] }
  | _ => none }
def FnMakePuzzleWrongFalsely : Prop := fnMakePuzzleRow.holds Try.pinned (OpenSpec.ofChange fnMakePuzzleWrong)

/-- 'laws.FnSolutionsMany': WHATEVER THE INPUT: true; the input reads as it did. -/
def fnSolutionsManySpec : ChangeSpec := { name := "fnSolutionsMany", fn := fun _ => fun
  | [d] => { results := [.lit (.bool true)], args := [d] }
  | _ => none }
def fnSolutionsManyRow : OpenClaim := { program := "ytlcoaglnegibkaa", sum := "91ea0d2df469839e7b455440d0c06c87dbe8c39e05c4dd94b80fdad7b9771816", func := "loop.example/dominotilings/laws.FnSolutionsMany", spec := "fnSolutionsMany", unfollowed := true, recurses := true, apart := false }
def FnSolutionsManySaid : Prop := fnSolutionsManyRow.holds Try.pinned (OpenSpec.ofChange fnSolutionsManySpec)

/-- ITS FALSE NEIGHBOUR: 'it returns false'. Refute it at one input. -/
def fnSolutionsManyWrong : ChangeSpec := { name := "fnSolutionsMany", fn := fun _ => fun
  | [d] => { results := [.lit (.bool false)], args := [d] }
  | _ => none }
def FnSolutionsManyWrongFalsely : Prop := fnSolutionsManyRow.holds Try.pinned (OpenSpec.ofChange fnSolutionsManyWrong)

/- THE SECOND FORM. 'bulk': how many values and letters a reading holds, each counted each time it is reached (what is shared counts as often as it is met; a slice's spare places count too). A statement '..UptoSaid' is the law's where the arguments, and the package variables that the reading takes, are together of bulk at most 1048576: NARROWER than '..Said'. Prove '..Said' where nothing that the law and all that it calls make is longer than what came in: it says more and counts as full. Else prove '..UptoSaid'. A law counts once. -/
mutual
def uptoBulk {H : Type} : DataW H → Nat
  | .lit (.string bytes) => bytes.length + 1
  | .lit _ => 1
  | .nil => 1
  | .ptr d => uptoBulk d + 1
  | .slice elems spare => uptoBulkAll elems + uptoBulkAll spare + 1
  | .agg parts => uptoBulkAll parts + 1
  | .iface _ d => uptoBulk d + 1
  | .map entries => uptoBulkEntries entries + 1
  | .held _ => 1
def uptoBulkAll {H : Type} : List (DataW H) → Nat
  | [] => 0
  | d :: r => uptoBulk d + uptoBulkAll r
def uptoBulkEntries {H : Type} : List (Lit × DataW H) → Nat
  | [] => 0
  | x :: r => uptoBulkEntry x + uptoBulkEntries r
def uptoBulkEntry {H : Type} : Lit × DataW H → Nat
  | (.string bytes, d) => bytes.length + uptoBulk d + 1
  | (_, d) => uptoBulk d + 1
 end
def uptoSmall : (H : Type) → List (DataW H) → Bool := fun _ ds => decide (uptoBulkAll ds ≤ 1048576)
def OpenSpec.upto (s : _root_.Go.ChangeSpec) : _root_.Go.OpenSpec := { _root_.Go.OpenSpec.ofChange s with cond := some uptoSmall }

/-- 'laws.FnPuzzleValid', WHERE WHAT IT READS IS OF BULK AT MOST 1048576: true; the input reads as it did. -/
def fnPuzzleValidUptoRow : OpenClaim := { program := "ytlcoaglnegibkaa", sum := "91ea0d2df469839e7b455440d0c06c87dbe8c39e05c4dd94b80fdad7b9771816", func := "loop.example/dominotilings/laws.FnPuzzleValid", spec := "fnPuzzleValid", apart := false, narrowed := true }
def FnPuzzleValidUptoSaid : Prop := fnPuzzleValidUptoRow.holds Try.pinned (OpenSpec.upto fnPuzzleValidSpec)

/-- 'laws.FnPairsOf', WHERE WHAT IT READS IS OF BULK AT MOST 1048576: true; the input reads as it did. -/
def fnPairsOfUptoRow : OpenClaim := { program := "ytlcoaglnegibkaa", sum := "91ea0d2df469839e7b455440d0c06c87dbe8c39e05c4dd94b80fdad7b9771816", func := "loop.example/dominotilings/laws.FnPairsOf", spec := "fnPairsOf", recurses := true, apart := false, narrowed := true }
def FnPairsOfUptoSaid : Prop := fnPairsOfUptoRow.holds Try.pinned (OpenSpec.upto fnPairsOfSpec)

/-- 'laws.FnFairOk', WHERE WHAT IT READS IS OF BULK AT MOST 1048576: true; the input reads as it did. -/
def fnFairOkUptoRow : OpenClaim := { program := "ytlcoaglnegibkaa", sum := "91ea0d2df469839e7b455440d0c06c87dbe8c39e05c4dd94b80fdad7b9771816", func := "loop.example/dominotilings/laws.FnFairOk", spec := "fnFairOk", recurses := true, apart := false, narrowed := true }
def FnFairOkUptoSaid : Prop := fnFairOkUptoRow.holds Try.pinned (OpenSpec.upto fnFairOkSpec)

/-- 'laws.FnSolvedOk', WHERE WHAT IT READS IS OF BULK AT MOST 1048576: true; the input reads as it did. -/
def fnSolvedOkUptoRow : OpenClaim := { program := "ytlcoaglnegibkaa", sum := "91ea0d2df469839e7b455440d0c06c87dbe8c39e05c4dd94b80fdad7b9771816", func := "loop.example/dominotilings/laws.FnSolvedOk", spec := "fnSolvedOk", unfollowed := true, recurses := true, apart := false, narrowed := true }
def FnSolvedOkUptoSaid : Prop := fnSolvedOkUptoRow.holds Try.pinned (OpenSpec.upto fnSolvedOkSpec)

/-- 'laws.FnSolutionsAll', WHERE WHAT IT READS IS OF BULK AT MOST 1048576: true; the input reads as it did. -/
def fnSolutionsAllUptoRow : OpenClaim := { program := "ytlcoaglnegibkaa", sum := "91ea0d2df469839e7b455440d0c06c87dbe8c39e05c4dd94b80fdad7b9771816", func := "loop.example/dominotilings/laws.FnSolutionsAll", spec := "fnSolutionsAll", unfollowed := true, recurses := true, apart := false, narrowed := true }
def FnSolutionsAllUptoSaid : Prop := fnSolutionsAllUptoRow.holds Try.pinned (OpenSpec.upto fnSolutionsAllSpec)

/-- 'laws.FnOptionsOf', WHERE WHAT IT READS IS OF BULK AT MOST 1048576: true; the input reads as it did. -/
def fnOptionsOfUptoRow : OpenClaim := { program := "ytlcoaglnegibkaa", sum := "91ea0d2df469839e7b455440d0c06c87dbe8c39e05c4dd94b80fdad7b9771816", func := "loop.example/dominotilings/laws.FnOptionsOf", spec := "fnOptionsOf", recurses := true, apart := false, narrowed := true }
def FnOptionsOfUptoSaid : Prop := fnOptionsOfUptoRow.holds Try.pinned (OpenSpec.upto fnOptionsOfSpec)

/-- 'laws.FnDead', WHERE WHAT IT READS IS OF BULK AT MOST 1048576: true; the input reads as it did. -/
def fnDeadUptoRow : OpenClaim := { program := "ytlcoaglnegibkaa", sum := "91ea0d2df469839e7b455440d0c06c87dbe8c39e05c4dd94b80fdad7b9771816", func := "loop.example/dominotilings/laws.FnDead", spec := "fnDead", unfollowed := true, recurses := true, apart := false, narrowed := true }
def FnDeadUptoSaid : Prop := fnDeadUptoRow.holds Try.pinned (OpenSpec.upto fnDeadSpec)

/-- 'laws.FnSolveFirst', WHERE WHAT IT READS IS OF BULK AT MOST 1048576: true; the input reads as it did. -/
def fnSolveFirstUptoRow : OpenClaim := { program := "ytlcoaglnegibkaa", sum := "91ea0d2df469839e7b455440d0c06c87dbe8c39e05c4dd94b80fdad7b9771816", func := "loop.example/dominotilings/laws.FnSolveFirst", spec := "fnSolveFirst", unfollowed := true, recurses := true, apart := false, narrowed := true }
def FnSolveFirstUptoSaid : Prop := fnSolveFirstUptoRow.holds Try.pinned (OpenSpec.upto fnSolveFirstSpec)

/-- 'laws.FnRelabel', WHERE WHAT IT READS IS OF BULK AT MOST 1048576: true; the input reads as it did. -/
def fnRelabelUptoRow : OpenClaim := { program := "ytlcoaglnegibkaa", sum := "91ea0d2df469839e7b455440d0c06c87dbe8c39e05c4dd94b80fdad7b9771816", func := "loop.example/dominotilings/laws.FnRelabel", spec := "fnRelabel", unfollowed := true, recurses := true, apart := false, narrowed := true }
def FnRelabelUptoSaid : Prop := fnRelabelUptoRow.holds Try.pinned (OpenSpec.upto fnRelabelSpec)

/-- 'laws.FnMakePuzzle', WHERE WHAT IT READS IS OF BULK AT MOST 1048576: true; the input reads as it did. -/
def fnMakePuzzleUptoRow : OpenClaim := { program := "ytlcoaglnegibkaa", sum := "91ea0d2df469839e7b455440d0c06c87dbe8c39e05c4dd94b80fdad7b9771816", func := "loop.example/dominotilings/laws.FnMakePuzzle", spec := "fnMakePuzzle", recurses := true, apart := false, narrowed := true }
def FnMakePuzzleUptoSaid : Prop := fnMakePuzzleUptoRow.holds Try.pinned (OpenSpec.upto fnMakePuzzleSpec)

/-- 'laws.FnSolutionsMany', WHERE WHAT IT READS IS OF BULK AT MOST 1048576: true; the input reads as it did. -/
def fnSolutionsManyUptoRow : OpenClaim := { program := "ytlcoaglnegibkaa", sum := "91ea0d2df469839e7b455440d0c06c87dbe8c39e05c4dd94b80fdad7b9771816", func := "loop.example/dominotilings/laws.FnSolutionsMany", spec := "fnSolutionsMany", unfollowed := true, recurses := true, apart := false, narrowed := true }
def FnSolutionsManyUptoSaid : Prop := fnSolutionsManyUptoRow.holds Try.pinned (OpenSpec.upto fnSolutionsManySpec)

end Rows
end Go.Proofs.Ytlcoaglnegibkaa
