/-
  No cell of these rows narrows 'for every input' (looked for: loops, veiled, ifaces, maps, wideKeys, modest, calm, conditions, laid).
  DERIVED. THE GIVEN ROWS OF THIS SEAT. 17 by the template 'for every input the law returns true; each argument reads behind the call as it read before'; 0 by the template 'total and deterministic' (their statements: YtjldabnbfdgbhaaTotals.lean).
  GIVEN WITH THE SEED: the statements are not yours to turn. If you find one false, say at which input.
  Laid BY PROGRAM, IN A SANDBOX (cutbox-rows.mjs): the forced cells as the released guide's own fill.sh prints them over the translation 6d6204bd58e2c804… (all of the seat's roots in one cut). By AI agents, Wed Nov 11 2026. No macro, syntax, notation, axiom, sorry.
-/
import Derived.Test.YtjldabnbfdgbhaaChecked
import GoSem.Claim
import GoSem.ClaimJoined
import GoSem.ClaimMapViews
import Derived.JoinedTies
import Derived.KernelRfl
namespace Go.Proofs.Ytjldabnbfdgbhaa
/- THE CELL 'sum', in the pinned program and in every row, IS THE sha256 OF THE DUMP (.gsa) THAT YtjldabnbfdgbhaaProg.lean LOADS. Nothing in Lean hashes anything: it is a label: what it is worth is what the hold of that sum in a sandbox is worth. -/
noncomputable def Try.pinned : Pinned := { name := "ytjldabnbfdgbhaa", sum := "6d6204bd58e2c8048fc235c39e86063a7464b6a84c97bb6e0f38ef79cadd8070", checked := Try.checked }
namespace Rows
def none {H : Type} : Left H := { results := [], args := [] }

/-- 'laws.FnExactPairsOf': WHATEVER THE INPUT: true; the input reads as it did. -/
def fnExactPairsOfSpec : ChangeSpec := { name := "fnExactPairsOf", fn := fun _ => fun
  | [d1, d2, d3] => { results := [.lit (.bool true)], args := [d1, d2, d3] }
  | _ => none }
def fnExactPairsOfRow : OpenClaim := { program := "ytjldabnbfdgbhaa", sum := "6d6204bd58e2c8048fc235c39e86063a7464b6a84c97bb6e0f38ef79cadd8070", func := "loop.example/dominotilings/laws.FnExactPairsOf", spec := "fnExactPairsOf", apart := false }
def FnExactPairsOfSaid : Prop := fnExactPairsOfRow.holds Try.pinned (OpenSpec.ofChange fnExactPairsOfSpec)

/-- ITS FALSE NEIGHBOUR: 'it returns false'. Refute it at one input. -/
def fnExactPairsOfWrong : ChangeSpec := { name := "fnExactPairsOf", fn := fun _ => fun
  | [d1, d2, d3] => { results := [.lit (.bool false)], args := [d1, d2, d3] }
  | _ => none }
def FnExactPairsOfWrongFalsely : Prop := fnExactPairsOfRow.holds Try.pinned (OpenSpec.ofChange fnExactPairsOfWrong)

/-- 'laws.FnExactBookNew': WHATEVER THE INPUT: true; the input reads as it did. -/
def fnExactBookNewSpec : ChangeSpec := { name := "fnExactBookNew", fn := fun _ => fun
  | [d1, d2] => { results := [.lit (.bool true)], args := [d1, d2] }
  | _ => none }
def fnExactBookNewRow : OpenClaim := { program := "ytjldabnbfdgbhaa", sum := "6d6204bd58e2c8048fc235c39e86063a7464b6a84c97bb6e0f38ef79cadd8070", func := "loop.example/dominotilings/laws.FnExactBookNew", spec := "fnExactBookNew", apart := false }
def FnExactBookNewSaid : Prop := fnExactBookNewRow.holds Try.pinned (OpenSpec.ofChange fnExactBookNewSpec)

/-- ITS FALSE NEIGHBOUR: 'it returns false'. Refute it at one input. -/
def fnExactBookNewWrong : ChangeSpec := { name := "fnExactBookNew", fn := fun _ => fun
  | [d1, d2] => { results := [.lit (.bool false)], args := [d1, d2] }
  | _ => none }
def FnExactBookNewWrongFalsely : Prop := fnExactBookNewRow.holds Try.pinned (OpenSpec.ofChange fnExactBookNewWrong)

/-- 'laws.FnExactMakePuzzle': WHATEVER THE INPUT: true; the input reads as it did. -/
def fnExactMakePuzzleSpec : ChangeSpec := { name := "fnExactMakePuzzle", fn := fun _ => fun
  | [d1, d2, d3] => { results := [.lit (.bool true)], args := [d1, d2, d3] }
  | _ => none }
def fnExactMakePuzzleRow : OpenClaim := { program := "ytjldabnbfdgbhaa", sum := "6d6204bd58e2c8048fc235c39e86063a7464b6a84c97bb6e0f38ef79cadd8070", func := "loop.example/dominotilings/laws.FnExactMakePuzzle", spec := "fnExactMakePuzzle", apart := false }
def FnExactMakePuzzleSaid : Prop := fnExactMakePuzzleRow.holds Try.pinned (OpenSpec.ofChange fnExactMakePuzzleSpec)

/-- ITS FALSE NEIGHBOUR: 'it returns false'. Refute it at one input. -/
def fnExactMakePuzzleWrong : ChangeSpec := { name := "fnExactMakePuzzle", fn := fun _ => fun
  | [d1, d2, d3] => { results := [.lit (.bool false)], args := [d1, d2, d3] }
  | _ => none }
def FnExactMakePuzzleWrongFalsely : Prop := fnExactMakePuzzleRow.holds Try.pinned (OpenSpec.ofChange fnExactMakePuzzleWrong)

/-- 'laws.FnExactRelabel': WHATEVER THE INPUT: true; the input reads as it did. -/
def fnExactRelabelSpec : ChangeSpec := { name := "fnExactRelabel", fn := fun _ => fun
  | [d1, d2, d3] => { results := [.lit (.bool true)], args := [d1, d2, d3] }
  | _ => none }
def fnExactRelabelRow : OpenClaim := { program := "ytjldabnbfdgbhaa", sum := "6d6204bd58e2c8048fc235c39e86063a7464b6a84c97bb6e0f38ef79cadd8070", func := "loop.example/dominotilings/laws.FnExactRelabel", spec := "fnExactRelabel", recurses := true, apart := false }
def FnExactRelabelSaid : Prop := fnExactRelabelRow.holds Try.pinned (OpenSpec.ofChange fnExactRelabelSpec)

/-- ITS FALSE NEIGHBOUR: 'it returns false'. Refute it at one input. -/
def fnExactRelabelWrong : ChangeSpec := { name := "fnExactRelabel", fn := fun _ => fun
  | [d1, d2, d3] => { results := [.lit (.bool false)], args := [d1, d2, d3] }
  | _ => none }
def FnExactRelabelWrongFalsely : Prop := fnExactRelabelRow.holds Try.pinned (OpenSpec.ofChange fnExactRelabelWrong)

/-- 'laws.FnExactFairOk': WHATEVER THE INPUT: true; the input reads as it did. -/
def fnExactFairOkSpec : ChangeSpec := { name := "fnExactFairOk", fn := fun _ => fun
  | [d1, d2, d3] => { results := [.lit (.bool true)], args := [d1, d2, d3] }
  | _ => none }
def fnExactFairOkRow : OpenClaim := { program := "ytjldabnbfdgbhaa", sum := "6d6204bd58e2c8048fc235c39e86063a7464b6a84c97bb6e0f38ef79cadd8070", func := "loop.example/dominotilings/laws.FnExactFairOk", spec := "fnExactFairOk", recurses := true, apart := false }
def FnExactFairOkSaid : Prop := fnExactFairOkRow.holds Try.pinned (OpenSpec.ofChange fnExactFairOkSpec)

/-- ITS FALSE NEIGHBOUR: 'it returns false'. Refute it at one input. -/
def fnExactFairOkWrong : ChangeSpec := { name := "fnExactFairOk", fn := fun _ => fun
  | [d1, d2, d3] => { results := [.lit (.bool false)], args := [d1, d2, d3] }
  | _ => none }
def FnExactFairOkWrongFalsely : Prop := fnExactFairOkRow.holds Try.pinned (OpenSpec.ofChange fnExactFairOkWrong)

/-- 'laws.FnExactSolvedOk': WHATEVER THE INPUT: true; the input reads as it did. -/
def fnExactSolvedOkSpec : ChangeSpec := { name := "fnExactSolvedOk", fn := fun _ => fun
  | [d1, d2, d3] => { results := [.lit (.bool true)], args := [d1, d2, d3] }
  | _ => none }
def fnExactSolvedOkRow : OpenClaim := { program := "ytjldabnbfdgbhaa", sum := "6d6204bd58e2c8048fc235c39e86063a7464b6a84c97bb6e0f38ef79cadd8070", func := "loop.example/dominotilings/laws.FnExactSolvedOk", spec := "fnExactSolvedOk", recurses := true, apart := false }
def FnExactSolvedOkSaid : Prop := fnExactSolvedOkRow.holds Try.pinned (OpenSpec.ofChange fnExactSolvedOkSpec)

/-- ITS FALSE NEIGHBOUR: 'it returns false'. Refute it at one input. -/
def fnExactSolvedOkWrong : ChangeSpec := { name := "fnExactSolvedOk", fn := fun _ => fun
  | [d1, d2, d3] => { results := [.lit (.bool false)], args := [d1, d2, d3] }
  | _ => none }
def FnExactSolvedOkWrongFalsely : Prop := fnExactSolvedOkRow.holds Try.pinned (OpenSpec.ofChange fnExactSolvedOkWrong)

/-- 'laws.FnExactDead': WHATEVER THE INPUT: true; the input reads as it did. -/
def fnExactDeadSpec : ChangeSpec := { name := "fnExactDead", fn := fun _ => fun
  | [d1, d2, d3] => { results := [.lit (.bool true)], args := [d1, d2, d3] }
  | _ => none }
def fnExactDeadRow : OpenClaim := { program := "ytjldabnbfdgbhaa", sum := "6d6204bd58e2c8048fc235c39e86063a7464b6a84c97bb6e0f38ef79cadd8070", func := "loop.example/dominotilings/laws.FnExactDead", spec := "fnExactDead", recurses := true, apart := false }
def FnExactDeadSaid : Prop := fnExactDeadRow.holds Try.pinned (OpenSpec.ofChange fnExactDeadSpec)

/-- ITS FALSE NEIGHBOUR: 'it returns false'. Refute it at one input. -/
def fnExactDeadWrong : ChangeSpec := { name := "fnExactDead", fn := fun _ => fun
  | [d1, d2, d3] => { results := [.lit (.bool false)], args := [d1, d2, d3] }
  | _ => none }
def FnExactDeadWrongFalsely : Prop := fnExactDeadRow.holds Try.pinned (OpenSpec.ofChange fnExactDeadWrong)

/-- 'laws.FnExactOptionsOf': WHATEVER THE INPUT: true; the input reads as it did. -/
def fnExactOptionsOfSpec : ChangeSpec := { name := "fnExactOptionsOf", fn := fun _ => fun
  | [d1, d2, d3, d4] => { results := [.lit (.bool true)], args := [d1, d2, d3, d4] }
  | _ => none }
def fnExactOptionsOfRow : OpenClaim := { program := "ytjldabnbfdgbhaa", sum := "6d6204bd58e2c8048fc235c39e86063a7464b6a84c97bb6e0f38ef79cadd8070", func := "loop.example/dominotilings/laws.FnExactOptionsOf", spec := "fnExactOptionsOf", recurses := true, apart := false }
def FnExactOptionsOfSaid : Prop := fnExactOptionsOfRow.holds Try.pinned (OpenSpec.ofChange fnExactOptionsOfSpec)

/-- ITS FALSE NEIGHBOUR: 'it returns false'. Refute it at one input. -/
def fnExactOptionsOfWrong : ChangeSpec := { name := "fnExactOptionsOf", fn := fun _ => fun
  | [d1, d2, d3, d4] => { results := [.lit (.bool false)], args := [d1, d2, d3, d4] }
  | _ => none }
def FnExactOptionsOfWrongFalsely : Prop := fnExactOptionsOfRow.holds Try.pinned (OpenSpec.ofChange fnExactOptionsOfWrong)

/-- 'laws.FnExactBookValid': WHATEVER THE INPUT: true; the input reads as it did. -/
def fnExactBookValidSpec : ChangeSpec := { name := "fnExactBookValid", fn := fun _ => fun
  | [d] => { results := [.lit (.bool true)], args := [d] }
  | _ => none }
def fnExactBookValidRow : OpenClaim := { program := "ytjldabnbfdgbhaa", sum := "6d6204bd58e2c8048fc235c39e86063a7464b6a84c97bb6e0f38ef79cadd8070", func := "loop.example/dominotilings/laws.FnExactBookValid", spec := "fnExactBookValid", unfollowed := true, recurses := true, apart := false }
def FnExactBookValidSaid : Prop := fnExactBookValidRow.holds Try.pinned (OpenSpec.ofChange fnExactBookValidSpec)

/-- ITS FALSE NEIGHBOUR: 'it returns false'. Refute it at one input. -/
def fnExactBookValidWrong : ChangeSpec := { name := "fnExactBookValid", fn := fun _ => fun
  | [d] => { results := [.lit (.bool false)], args := [d] }
  | _ => none }
def FnExactBookValidWrongFalsely : Prop := fnExactBookValidRow.holds Try.pinned (OpenSpec.ofChange fnExactBookValidWrong)

/-- 'laws.FnExactForceOne': WHATEVER THE INPUT: true; the input reads as it did. -/
def fnExactForceOneSpec : ChangeSpec := { name := "fnExactForceOne", fn := fun _ => fun
  | [d1, d2, d3] => { results := [.lit (.bool true)], args := [d1, d2, d3] }
  | _ => none }
def fnExactForceOneRow : OpenClaim := { program := "ytjldabnbfdgbhaa", sum := "6d6204bd58e2c8048fc235c39e86063a7464b6a84c97bb6e0f38ef79cadd8070", func := "loop.example/dominotilings/laws.FnExactForceOne", spec := "fnExactForceOne", recurses := true, apart := false }
def FnExactForceOneSaid : Prop := fnExactForceOneRow.holds Try.pinned (OpenSpec.ofChange fnExactForceOneSpec)

/-- ITS FALSE NEIGHBOUR: 'it returns false'. Refute it at one input. -/
def fnExactForceOneWrong : ChangeSpec := { name := "fnExactForceOne", fn := fun _ => fun
  | [d1, d2, d3] => { results := [.lit (.bool false)], args := [d1, d2, d3] }
  | _ => none }
def FnExactForceOneWrongFalsely : Prop := fnExactForceOneRow.holds Try.pinned (OpenSpec.ofChange fnExactForceOneWrong)

/-- 'laws.FnExactSolutionsMany': WHATEVER THE INPUT: true; the input reads as it did. -/
def fnExactSolutionsManySpec : ChangeSpec := { name := "fnExactSolutionsMany", fn := fun _ => fun
  | [d1, d2] => { results := [.lit (.bool true)], args := [d1, d2] }
  | _ => none }
def fnExactSolutionsManyRow : OpenClaim := { program := "ytjldabnbfdgbhaa", sum := "6d6204bd58e2c8048fc235c39e86063a7464b6a84c97bb6e0f38ef79cadd8070", func := "loop.example/dominotilings/laws.FnExactSolutionsMany", spec := "fnExactSolutionsMany", unfollowed := true, recurses := true, apart := false }
def FnExactSolutionsManySaid : Prop := fnExactSolutionsManyRow.holds Try.pinned (OpenSpec.ofChange fnExactSolutionsManySpec)

/-- ITS FALSE NEIGHBOUR: 'it returns false'. Refute it at one input. -/
def fnExactSolutionsManyWrong : ChangeSpec := { name := "fnExactSolutionsMany", fn := fun _ => fun
  | [d1, d2] => { results := [.lit (.bool false)], args := [d1, d2] }
  | _ => none }
def FnExactSolutionsManyWrongFalsely : Prop := fnExactSolutionsManyRow.holds Try.pinned (OpenSpec.ofChange fnExactSolutionsManyWrong)

/-- 'laws.FnExactBookSolved': WHATEVER THE INPUT: true; the input reads as it did. -/
def fnExactBookSolvedSpec : ChangeSpec := { name := "fnExactBookSolved", fn := fun _ => fun
  | [d] => { results := [.lit (.bool true)], args := [d] }
  | _ => none }
def fnExactBookSolvedRow : OpenClaim := { program := "ytjldabnbfdgbhaa", sum := "6d6204bd58e2c8048fc235c39e86063a7464b6a84c97bb6e0f38ef79cadd8070", func := "loop.example/dominotilings/laws.FnExactBookSolved", spec := "fnExactBookSolved", unfollowed := true, recurses := true, apart := false }
def FnExactBookSolvedSaid : Prop := fnExactBookSolvedRow.holds Try.pinned (OpenSpec.ofChange fnExactBookSolvedSpec)

/-- ITS FALSE NEIGHBOUR: 'it returns false'. Refute it at one input. -/
def fnExactBookSolvedWrong : ChangeSpec := { name := "fnExactBookSolved", fn := fun _ => fun
  | [d] => { results := [.lit (.bool false)], args := [d] }
  | _ => none }
def FnExactBookSolvedWrongFalsely : Prop := fnExactBookSolvedRow.holds Try.pinned (OpenSpec.ofChange fnExactBookSolvedWrong)

/-- 'laws.FnExactForceAll': WHATEVER THE INPUT: true; the input reads as it did. -/
def fnExactForceAllSpec : ChangeSpec := { name := "fnExactForceAll", fn := fun _ => fun
  | [d1, d2, d3] => { results := [.lit (.bool true)], args := [d1, d2, d3] }
  | _ => none }
def fnExactForceAllRow : OpenClaim := { program := "ytjldabnbfdgbhaa", sum := "6d6204bd58e2c8048fc235c39e86063a7464b6a84c97bb6e0f38ef79cadd8070", func := "loop.example/dominotilings/laws.FnExactForceAll", spec := "fnExactForceAll", recurses := true, apart := false }
def FnExactForceAllSaid : Prop := fnExactForceAllRow.holds Try.pinned (OpenSpec.ofChange fnExactForceAllSpec)

/-- ITS FALSE NEIGHBOUR: 'it returns false'. Refute it at one input. -/
def fnExactForceAllWrong : ChangeSpec := { name := "fnExactForceAll", fn := fun _ => fun
  | [d1, d2, d3] => { results := [.lit (.bool false)], args := [d1, d2, d3] }
  | _ => none }
def FnExactForceAllWrongFalsely : Prop := fnExactForceAllRow.holds Try.pinned (OpenSpec.ofChange fnExactForceAllWrong)

/-- 'laws.FnExactCellsLeft': WHATEVER THE INPUT: true; the input reads as it did. -/
def fnExactCellsLeftSpec : ChangeSpec := { name := "fnExactCellsLeft", fn := fun _ => fun
  | [d] => { results := [.lit (.bool true)], args := [d] }
  | _ => none }
def fnExactCellsLeftRow : OpenClaim := { program := "ytjldabnbfdgbhaa", sum := "6d6204bd58e2c8048fc235c39e86063a7464b6a84c97bb6e0f38ef79cadd8070", func := "loop.example/dominotilings/laws.FnExactCellsLeft", spec := "fnExactCellsLeft", unfollowed := true, recurses := true, apart := false }
def FnExactCellsLeftSaid : Prop := fnExactCellsLeftRow.holds Try.pinned (OpenSpec.ofChange fnExactCellsLeftSpec)

/-- ITS FALSE NEIGHBOUR: 'it returns false'. Refute it at one input. -/
def fnExactCellsLeftWrong : ChangeSpec := { name := "fnExactCellsLeft", fn := fun _ => fun
  | [d] => { results := [.lit (.bool false)], args := [d] }
  | _ => none }
def FnExactCellsLeftWrongFalsely : Prop := fnExactCellsLeftRow.holds Try.pinned (OpenSpec.ofChange fnExactCellsLeftWrong)

/-- 'laws.FnExactSolutionsAll': WHATEVER THE INPUT: true; the input reads as it did. -/
def fnExactSolutionsAllSpec : ChangeSpec := { name := "fnExactSolutionsAll", fn := fun _ => fun
  | [d1, d2] => { results := [.lit (.bool true)], args := [d1, d2] }
  | _ => none }
def fnExactSolutionsAllRow : OpenClaim := { program := "ytjldabnbfdgbhaa", sum := "6d6204bd58e2c8048fc235c39e86063a7464b6a84c97bb6e0f38ef79cadd8070", func := "loop.example/dominotilings/laws.FnExactSolutionsAll", spec := "fnExactSolutionsAll", unfollowed := true, recurses := true, apart := false }
def FnExactSolutionsAllSaid : Prop := fnExactSolutionsAllRow.holds Try.pinned (OpenSpec.ofChange fnExactSolutionsAllSpec)

/-- ITS FALSE NEIGHBOUR: 'it returns false'. Refute it at one input. -/
def fnExactSolutionsAllWrong : ChangeSpec := { name := "fnExactSolutionsAll", fn := fun _ => fun
  | [d1, d2] => { results := [.lit (.bool false)], args := [d1, d2] }
  | _ => none }
def FnExactSolutionsAllWrongFalsely : Prop := fnExactSolutionsAllRow.holds Try.pinned (OpenSpec.ofChange fnExactSolutionsAllWrong)

/-- 'laws.FnExactSolveFirst': WHATEVER THE INPUT: true; the input reads as it did. -/
def fnExactSolveFirstSpec : ChangeSpec := { name := "fnExactSolveFirst", fn := fun _ => fun
  | [d1, d2, d3] => { results := [.lit (.bool true)], args := [d1, d2, d3] }
  | _ => none }
def fnExactSolveFirstRow : OpenClaim := { program := "ytjldabnbfdgbhaa", sum := "6d6204bd58e2c8048fc235c39e86063a7464b6a84c97bb6e0f38ef79cadd8070", func := "loop.example/dominotilings/laws.FnExactSolveFirst", spec := "fnExactSolveFirst", unfollowed := true, recurses := true, apart := false }
def FnExactSolveFirstSaid : Prop := fnExactSolveFirstRow.holds Try.pinned (OpenSpec.ofChange fnExactSolveFirstSpec)

/-- ITS FALSE NEIGHBOUR: 'it returns false'. Refute it at one input. -/
def fnExactSolveFirstWrong : ChangeSpec := { name := "fnExactSolveFirst", fn := fun _ => fun
  | [d1, d2, d3] => { results := [.lit (.bool false)], args := [d1, d2, d3] }
  | _ => none }
def FnExactSolveFirstWrongFalsely : Prop := fnExactSolveFirstRow.holds Try.pinned (OpenSpec.ofChange fnExactSolveFirstWrong)

/-- 'laws.FnExactHintOf': WHATEVER THE INPUT: true; the input reads as it did. -/
def fnExactHintOfSpec : ChangeSpec := { name := "fnExactHintOf", fn := fun _ => fun
  | [d1, d2, d3] => { results := [.lit (.bool true)], args := [d1, d2, d3] }
  | _ => none }
def fnExactHintOfRow : OpenClaim := { program := "ytjldabnbfdgbhaa", sum := "6d6204bd58e2c8048fc235c39e86063a7464b6a84c97bb6e0f38ef79cadd8070", func := "loop.example/dominotilings/laws.FnExactHintOf", spec := "fnExactHintOf", unfollowed := true, recurses := true, apart := false }
def FnExactHintOfSaid : Prop := fnExactHintOfRow.holds Try.pinned (OpenSpec.ofChange fnExactHintOfSpec)

/-- ITS FALSE NEIGHBOUR: 'it returns false'. Refute it at one input. -/
def fnExactHintOfWrong : ChangeSpec := { name := "fnExactHintOf", fn := fun _ => fun
  | [d1, d2, d3] => { results := [.lit (.bool false)], args := [d1, d2, d3] }
  | _ => none }
def FnExactHintOfWrongFalsely : Prop := fnExactHintOfRow.holds Try.pinned (OpenSpec.ofChange fnExactHintOfWrong)

/- THE SECOND FORM. 'bulk': how many values and letters a reading holds, each counted each time it is reached (what is shared counts as often as it is met; a slice's spare places count too). A statement '..UptoSaid' is the law's where the arguments, and the package variables that the reading takes, are together of bulk at most 1048576: NARROWER than '..Said'. Prove '..Said' where nothing that the law and all that it calls make is longer than what came in: it says more and counts as full. Else prove '..UptoSaid'. A law counts once. -/
mutual
def uptoBulk {H : Type} : DataW H → Nat
  | .lit (.string bytes) => bytes.length + 1
  | .lit _ => 1
  | .nil => 1
  | .ptr d => uptoBulk d + 1
  | .slice elems spare => uptoBulkAll elems + uptoBulkAll spare + 1
  | .agg parts => uptoBulkAll parts + 1
  | .iface _ d => uptoBulk d + 1
  | .map entries => uptoBulkEntries entries + 1
  | .held _ => 1
def uptoBulkAll {H : Type} : List (DataW H) → Nat
  | [] => 0
  | d :: r => uptoBulk d + uptoBulkAll r
def uptoBulkEntries {H : Type} : List (Lit × DataW H) → Nat
  | [] => 0
  | x :: r => uptoBulkEntry x + uptoBulkEntries r
def uptoBulkEntry {H : Type} : Lit × DataW H → Nat
  | (.string bytes, d) => bytes.length + uptoBulk d + 1
  | (_, d) => uptoBulk d + 1
 end
def uptoSmall : (H : Type) → List (DataW H) → Bool := fun _ ds => decide (uptoBulkAll ds ≤ 1048576)
def OpenSpec.upto (s : _root_.Go.ChangeSpec) : _root_.Go.OpenSpec := { _root_.Go.OpenSpec.ofChange s with cond := some uptoSmall }

/-- 'laws.FnExactPairsOf', WHERE WHAT IT READS IS OF BULK AT MOST 1048576: true; the input reads as it did. -/
def fnExactPairsOfUptoRow : OpenClaim := { program := "ytjldabnbfdgbhaa", sum := "6d6204bd58e2c8048fc235c39e86063a7464b6a84c97bb6e0f38ef79cadd8070", func := "loop.example/dominotilings/laws.FnExactPairsOf", spec := "fnExactPairsOf", apart := false, narrowed := true }
def FnExactPairsOfUptoSaid : Prop := fnExactPairsOfUptoRow.holds Try.pinned (OpenSpec.upto fnExactPairsOfSpec)

/-- 'laws.FnExactBookNew', WHERE WHAT IT READS IS OF BULK AT MOST 1048576: true; the input reads as it did. -/
def fnExactBookNewUptoRow : OpenClaim := { program := "ytjldabnbfdgbhaa", sum := "6d6204bd58e2c8048fc235c39e86063a7464b6a84c97bb6e0f38ef79cadd8070", func := "loop.example/dominotilings/laws.FnExactBookNew", spec := "fnExactBookNew", apart := false, narrowed := true }
def FnExactBookNewUptoSaid : Prop := fnExactBookNewUptoRow.holds Try.pinned (OpenSpec.upto fnExactBookNewSpec)

/-- 'laws.FnExactMakePuzzle', WHERE WHAT IT READS IS OF BULK AT MOST 1048576: true; the input reads as it did. -/
def fnExactMakePuzzleUptoRow : OpenClaim := { program := "ytjldabnbfdgbhaa", sum := "6d6204bd58e2c8048fc235c39e86063a7464b6a84c97bb6e0f38ef79cadd8070", func := "loop.example/dominotilings/laws.FnExactMakePuzzle", spec := "fnExactMakePuzzle", apart := false, narrowed := true }
def FnExactMakePuzzleUptoSaid : Prop := fnExactMakePuzzleUptoRow.holds Try.pinned (OpenSpec.upto fnExactMakePuzzleSpec)

/-- 'laws.FnExactRelabel', WHERE WHAT IT READS IS OF BULK AT MOST 1048576: true; the input reads as it did. -/
def fnExactRelabelUptoRow : OpenClaim := { program := "ytjldabnbfdgbhaa", sum := "6d6204bd58e2c8048fc235c39e86063a7464b6a84c97bb6e0f38ef79cadd8070", func := "loop.example/dominotilings/laws.FnExactRelabel", spec := "fnExactRelabel", recurses := true, apart := false, narrowed := true }
def FnExactRelabelUptoSaid : Prop := fnExactRelabelUptoRow.holds Try.pinned (OpenSpec.upto fnExactRelabelSpec)

/-- 'laws.FnExactFairOk', WHERE WHAT IT READS IS OF BULK AT MOST 1048576: true; the input reads as it did. -/
def fnExactFairOkUptoRow : OpenClaim := { program := "ytjldabnbfdgbhaa", sum := "6d6204bd58e2c8048fc235c39e86063a7464b6a84c97bb6e0f38ef79cadd8070", func := "loop.example/dominotilings/laws.FnExactFairOk", spec := "fnExactFairOk", recurses := true, apart := false, narrowed := true }
def FnExactFairOkUptoSaid : Prop := fnExactFairOkUptoRow.holds Try.pinned (OpenSpec.upto fnExactFairOkSpec)

/-- 'laws.FnExactSolvedOk', WHERE WHAT IT READS IS OF BULK AT MOST 1048576: true; the input reads as it did. -/
def fnExactSolvedOkUptoRow : OpenClaim := { program := "ytjldabnbfdgbhaa", sum := "6d6204bd58e2c8048fc235c39e86063a7464b6a84c97bb6e0f38ef79cadd8070", func := "loop.example/dominotilings/laws.FnExactSolvedOk", spec := "fnExactSolvedOk", recurses := true, apart := false, narrowed := true }
def FnExactSolvedOkUptoSaid : Prop := fnExactSolvedOkUptoRow.holds Try.pinned (OpenSpec.upto fnExactSolvedOkSpec)

/-- 'laws.FnExactDead', WHERE WHAT IT READS IS OF BULK AT MOST 1048576: true; the input reads as it did. -/
def fnExactDeadUptoRow : OpenClaim := { program := "ytjldabnbfdgbhaa", sum := "6d6204bd58e2c8048fc235c39e86063a7464b6a84c97bb6e0f38ef79cadd8070", func := "loop.example/dominotilings/laws.FnExactDead", spec := "fnExactDead", recurses := true, apart := false, narrowed := true }
def FnExactDeadUptoSaid : Prop := fnExactDeadUptoRow.holds Try.pinned (OpenSpec.upto fnExactDeadSpec)

/-- 'laws.FnExactOptionsOf', WHERE WHAT IT READS IS OF BULK AT MOST 1048576: true; the input reads as it did. -/
def fnExactOptionsOfUptoRow : OpenClaim := { program := "ytjldabnbfdgbhaa", sum := "6d6204bd58e2c8048fc235c39e86063a7464b6a84c97bb6e0f38ef79cadd8070", func := "loop.example/dominotilings/laws.FnExactOptionsOf", spec := "fnExactOptionsOf", recurses := true, apart := false, narrowed := true }
def FnExactOptionsOfUptoSaid : Prop := fnExactOptionsOfUptoRow.holds Try.pinned (OpenSpec.upto fnExactOptionsOfSpec)

/-- 'laws.FnExactBookValid', WHERE WHAT IT READS IS OF BULK AT MOST 1048576: true; the input reads as it did. -/
def fnExactBookValidUptoRow : OpenClaim := { program := "ytjldabnbfdgbhaa", sum := "6d6204bd58e2c8048fc235c39e86063a7464b6a84c97bb6e0f38ef79cadd8070", func := "loop.example/dominotilings/laws.FnExactBookValid", spec := "fnExactBookValid", unfollowed := true, recurses := true, apart := false, narrowed := true }
def FnExactBookValidUptoSaid : Prop := fnExactBookValidUptoRow.holds Try.pinned (OpenSpec.upto fnExactBookValidSpec)

/-- 'laws.FnExactForceOne', WHERE WHAT IT READS IS OF BULK AT MOST 1048576: true; the input reads as it did. -/
def fnExactForceOneUptoRow : OpenClaim := { program := "ytjldabnbfdgbhaa", sum := "6d6204bd58e2c8048fc235c39e86063a7464b6a84c97bb6e0f38ef79cadd8070", func := "loop.example/dominotilings/laws.FnExactForceOne", spec := "fnExactForceOne", recurses := true, apart := false, narrowed := true }
def FnExactForceOneUptoSaid : Prop := fnExactForceOneUptoRow.holds Try.pinned (OpenSpec.upto fnExactForceOneSpec)

/-- 'laws.FnExactSolutionsMany', WHERE WHAT IT READS IS OF BULK AT MOST 1048576: true; the input reads as it did. -/
def fnExactSolutionsManyUptoRow : OpenClaim := { program := "ytjldabnbfdgbhaa", sum := "6d6204bd58e2c8048fc235c39e86063a7464b6a84c97bb6e0f38ef79cadd8070", func := "loop.example/dominotilings/laws.FnExactSolutionsMany", spec := "fnExactSolutionsMany", unfollowed := true, recurses := true, apart := false, narrowed := true }
def FnExactSolutionsManyUptoSaid : Prop := fnExactSolutionsManyUptoRow.holds Try.pinned (OpenSpec.upto fnExactSolutionsManySpec)

/-- 'laws.FnExactBookSolved', WHERE WHAT IT READS IS OF BULK AT MOST 1048576: true; the input reads as it did. -/
def fnExactBookSolvedUptoRow : OpenClaim := { program := "ytjldabnbfdgbhaa", sum := "6d6204bd58e2c8048fc235c39e86063a7464b6a84c97bb6e0f38ef79cadd8070", func := "loop.example/dominotilings/laws.FnExactBookSolved", spec := "fnExactBookSolved", unfollowed := true, recurses := true, apart := false, narrowed := true }
def FnExactBookSolvedUptoSaid : Prop := fnExactBookSolvedUptoRow.holds Try.pinned (OpenSpec.upto fnExactBookSolvedSpec)

/-- 'laws.FnExactForceAll', WHERE WHAT IT READS IS OF BULK AT MOST 1048576: true; the input reads as it did. -/
def fnExactForceAllUptoRow : OpenClaim := { program := "ytjldabnbfdgbhaa", sum := "6d6204bd58e2c8048fc235c39e86063a7464b6a84c97bb6e0f38ef79cadd8070", func := "loop.example/dominotilings/laws.FnExactForceAll", spec := "fnExactForceAll", recurses := true, apart := false, narrowed := true }
def FnExactForceAllUptoSaid : Prop := fnExactForceAllUptoRow.holds Try.pinned (OpenSpec.upto fnExactForceAllSpec)

/-- 'laws.FnExactCellsLeft', WHERE WHAT IT READS IS OF BULK AT MOST 1048576: true; the input reads as it did. -/
def fnExactCellsLeftUptoRow : OpenClaim := { program := "ytjldabnbfdgbhaa", sum := "6d6204bd58e2c8048fc235c39e86063a7464b6a84c97bb6e0f38ef79cadd8070", func := "loop.example/dominotilings/laws.FnExactCellsLeft", spec := "fnExactCellsLeft", unfollowed := true, recurses := true, apart := false, narrowed := true }
def FnExactCellsLeftUptoSaid : Prop := fnExactCellsLeftUptoRow.holds Try.pinned (OpenSpec.upto fnExactCellsLeftSpec)

/-- 'laws.FnExactSolutionsAll', WHERE WHAT IT READS IS OF BULK AT MOST 1048576: true; the input reads as it did. -/
def fnExactSolutionsAllUptoRow : OpenClaim := { program := "ytjldabnbfdgbhaa", sum := "6d6204bd58e2c8048fc235c39e86063a7464b6a84c97bb6e0f38ef79cadd8070", func := "loop.example/dominotilings/laws.FnExactSolutionsAll", spec := "fnExactSolutionsAll", unfollowed := true, recurses := true, apart := false, narrowed := true }
def FnExactSolutionsAllUptoSaid : Prop := fnExactSolutionsAllUptoRow.holds Try.pinned (OpenSpec.upto fnExactSolutionsAllSpec)

/-- 'laws.FnExactSolveFirst', WHERE WHAT IT READS IS OF BULK AT MOST 1048576: true; the input reads as it did. -/
def fnExactSolveFirstUptoRow : OpenClaim := { program := "ytjldabnbfdgbhaa", sum := "6d6204bd58e2c8048fc235c39e86063a7464b6a84c97bb6e0f38ef79cadd8070", func := "loop.example/dominotilings/laws.FnExactSolveFirst", spec := "fnExactSolveFirst", unfollowed := true, recurses := true, apart := false, narrowed := true }
def FnExactSolveFirstUptoSaid : Prop := fnExactSolveFirstUptoRow.holds Try.pinned (OpenSpec.upto fnExactSolveFirstSpec)

/-- 'laws.FnExactHintOf', WHERE WHAT IT READS IS OF BULK AT MOST 1048576: true; the input reads as it did. -/
def fnExactHintOfUptoRow : OpenClaim := { program := "ytjldabnbfdgbhaa", sum := "6d6204bd58e2c8048fc235c39e86063a7464b6a84c97bb6e0f38ef79cadd8070", func := "loop.example/dominotilings/laws.FnExactHintOf", spec := "fnExactHintOf", unfollowed := true, recurses := true, apart := false, narrowed := true }
def FnExactHintOfUptoSaid : Prop := fnExactHintOfUptoRow.holds Try.pinned (OpenSpec.upto fnExactHintOfSpec)

end Rows
end Go.Proofs.Ytjldabnbfdgbhaa
