/-
  No cell of these rows narrows 'for every input' (looked for: loops, veiled, ifaces, maps, wideKeys, modest, calm, conditions, laid).
  DERIVED. THE GIVEN ROWS OF THIS SEAT. 8 by the template 'for every input the law returns true; each argument reads behind the call as it read before'; 0 by the template 'total and deterministic' (their statements: YtakaenhgbkbegaaGreatTotals.lean).
  GIVEN WITH THE SEED: the statements are not yours to turn. If you find one false, say at which input.
  Laid BY PROGRAM, IN A SANDBOX (cutbox-rows.mjs): the forced cells as the released guide's own fill.sh prints them over the translation 379d226bec96af6b… (all of the seat's roots in one cut). By AI agents, Wed Nov 11 2026. No macro, syntax, notation, axiom, sorry.
-/
import Derived.Test.YtakaenhgbkbegaaGreatChecked
import GoSem.Claim
import GoSem.ClaimJoined
import GoSem.ClaimMapViews
import Derived.JoinedTies
import Derived.KernelRfl
namespace Go.Proofs.YtakaenhgbkbegaaGreat
/- THE CELL 'sum', in the pinned program and in every row, IS THE sha256 OF THE DUMP (.gsa) THAT YtakaenhgbkbegaaGreatProg.lean LOADS. Nothing in Lean hashes anything: it is a label: what it is worth is what the hold of that sum in a sandbox is worth. -/
noncomputable def Tryz.pinned : Pinned := { name := "ytakaenhgbkbegaagreat", sum := "379d226bec96af6b42e390f836e24c6ef4cd3c758f4b6ab6a905a818b77fcdd8", checked := Tryz.checked }
namespace Rows
def none {H : Type} : Left H := { results := [], args := [] }

/-- 'laws.FnBookNew': WHATEVER THE INPUT: true; the input reads as it did. -/
def fnBookNewSpec : ChangeSpec := { name := "fnBookNew", fn := fun _ => fun
  | [d] => { results := [.lit (.bool true)], args := [d] }
  | _ => none }
def fnBookNewRow : OpenClaim := { program := "ytakaenhgbkbegaagreat", sum := "379d226bec96af6b42e390f836e24c6ef4cd3c758f4b6ab6a905a818b77fcdd8", func := "loop.example/dominotilings/laws.FnBookNew", spec := "fnBookNew", unfollowed := true, recurses := true, apart := false }
def FnBookNewSaid : Prop := fnBookNewRow.holds Tryz.pinned (OpenSpec.ofChange fnBookNewSpec)

/-- ITS FALSE NEIGHBOUR: 'it returns false'. Refute it at one input. -/
def fnBookNewWrong : ChangeSpec := { name := "fnBookNew", fn := fun _ => fun
  | [d] => { results := [.lit (.bool false)], args := [d] }
  | _ => none }
def FnBookNewWrongFalsely : Prop := fnBookNewRow.holds Tryz.pinned (OpenSpec.ofChange fnBookNewWrong)

/-- 'laws.FnCellsLeft': WHATEVER THE INPUT: true; the input reads as it did. -/
def fnCellsLeftSpec : ChangeSpec := { name := "fnCellsLeft", fn := fun _ => fun
  | [d] => { results := [.lit (.bool true)], args := [d] }
  | _ => none }
def fnCellsLeftRow : OpenClaim := { program := "ytakaenhgbkbegaagreat", sum := "379d226bec96af6b42e390f836e24c6ef4cd3c758f4b6ab6a905a818b77fcdd8", func := "loop.example/dominotilings/laws.FnCellsLeft", spec := "fnCellsLeft", unfollowed := true, recurses := true, apart := false }
def FnCellsLeftSaid : Prop := fnCellsLeftRow.holds Tryz.pinned (OpenSpec.ofChange fnCellsLeftSpec)

/-- ITS FALSE NEIGHBOUR: 'it returns false'. Refute it at one input. -/
def fnCellsLeftWrong : ChangeSpec := { name := "fnCellsLeft", fn := fun _ => fun
  | [d] => { results := [.lit (.bool false)], args := [d] }
  | _ => none }
def FnCellsLeftWrongFalsely : Prop := fnCellsLeftRow.holds Tryz.pinned (OpenSpec.ofChange fnCellsLeftWrong)

/-- 'laws.FnExactBookDo': WHATEVER THE INPUT: true; the input reads as it did. -/
def fnExactBookDoSpec : ChangeSpec := { name := "fnExactBookDo", fn := fun _ => fun
  | [d1, d2] => { results := [.lit (.bool true)], args := [d1, d2] }
  | _ => none }
def fnExactBookDoRow : OpenClaim := { program := "ytakaenhgbkbegaagreat", sum := "379d226bec96af6b42e390f836e24c6ef4cd3c758f4b6ab6a905a818b77fcdd8", func := "loop.example/dominotilings/laws.FnExactBookDo", spec := "fnExactBookDo", unfollowed := true, recurses := true, apart := false }
def FnExactBookDoSaid : Prop := fnExactBookDoRow.holds Tryz.pinned (OpenSpec.ofChange fnExactBookDoSpec)

/-- ITS FALSE NEIGHBOUR: 'it returns false'. Refute it at one input. -/
def fnExactBookDoWrong : ChangeSpec := { name := "fnExactBookDo", fn := fun _ => fun
  | [d1, d2] => { results := [.lit (.bool false)], args := [d1, d2] }
  | _ => none }
def FnExactBookDoWrongFalsely : Prop := fnExactBookDoRow.holds Tryz.pinned (OpenSpec.ofChange fnExactBookDoWrong)

/-- 'laws.FnBookSolved': WHATEVER THE INPUT: true; the input reads as it did. -/
def fnBookSolvedSpec : ChangeSpec := { name := "fnBookSolved", fn := fun _ => fun
  | [d] => { results := [.lit (.bool true)], args := [d] }
  | _ => none }
def fnBookSolvedRow : OpenClaim := { program := "ytakaenhgbkbegaagreat", sum := "379d226bec96af6b42e390f836e24c6ef4cd3c758f4b6ab6a905a818b77fcdd8", func := "loop.example/dominotilings/laws.FnBookSolved", spec := "fnBookSolved", unfollowed := true, recurses := true, apart := false }
def FnBookSolvedSaid : Prop := fnBookSolvedRow.holds Tryz.pinned (OpenSpec.ofChange fnBookSolvedSpec)

/-- ITS FALSE NEIGHBOUR: 'it returns false'. Refute it at one input. -/
def fnBookSolvedWrong : ChangeSpec := { name := "fnBookSolved", fn := fun _ => fun
  | [d] => { results := [.lit (.bool false)], args := [d] }
  | _ => none }
def FnBookSolvedWrongFalsely : Prop := fnBookSolvedRow.holds Tryz.pinned (OpenSpec.ofChange fnBookSolvedWrong)

/-- 'laws.FnExactBookRun': WHATEVER THE INPUT: true; the input reads as it did. -/
def fnExactBookRunSpec : ChangeSpec := { name := "fnExactBookRun", fn := fun _ => fun
  | [d1, d2] => { results := [.lit (.bool true)], args := [d1, d2] }
  | _ => none }
def fnExactBookRunRow : OpenClaim := { program := "ytakaenhgbkbegaagreat", sum := "379d226bec96af6b42e390f836e24c6ef4cd3c758f4b6ab6a905a818b77fcdd8", func := "loop.example/dominotilings/laws.FnExactBookRun", spec := "fnExactBookRun", unfollowed := true, recurses := true, apart := false }
def FnExactBookRunSaid : Prop := fnExactBookRunRow.holds Tryz.pinned (OpenSpec.ofChange fnExactBookRunSpec)

/-- ITS FALSE NEIGHBOUR: 'it returns false'. Refute it at one input. -/
def fnExactBookRunWrong : ChangeSpec := { name := "fnExactBookRun", fn := fun _ => fun
  | [d1, d2] => { results := [.lit (.bool false)], args := [d1, d2] }
  | _ => none }
def FnExactBookRunWrongFalsely : Prop := fnExactBookRunRow.holds Tryz.pinned (OpenSpec.ofChange fnExactBookRunWrong)

/-- 'laws.FnBookDo': WHATEVER THE INPUT: true; the input reads as it did. -/
def fnBookDoSpec : ChangeSpec := { name := "fnBookDo", fn := fun _ => fun
  | [d] => { results := [.lit (.bool true)], args := [d] }
  | _ => none }
def fnBookDoRow : OpenClaim := { program := "ytakaenhgbkbegaagreat", sum := "379d226bec96af6b42e390f836e24c6ef4cd3c758f4b6ab6a905a818b77fcdd8", func := "loop.example/dominotilings/laws.FnBookDo", spec := "fnBookDo", unfollowed := true, recurses := true, apart := false }
def FnBookDoSaid : Prop := fnBookDoRow.holds Tryz.pinned (OpenSpec.ofChange fnBookDoSpec)

/-- ITS FALSE NEIGHBOUR: 'it returns false'. Refute it at one input. -/
def fnBookDoWrong : ChangeSpec := { name := "fnBookDo", fn := fun _ => fun
  | [d] => { results := [.lit (.bool false)], args := [d] }
  | _ => none }
def FnBookDoWrongFalsely : Prop := fnBookDoRow.holds Tryz.pinned (OpenSpec.ofChange fnBookDoWrong)

/-- 'laws.FnBookRun': WHATEVER THE INPUT: true; the input reads as it did. -/
def fnBookRunSpec : ChangeSpec := { name := "fnBookRun", fn := fun _ => fun
  | [d] => { results := [.lit (.bool true)], args := [d] }
  | _ => none }
def fnBookRunRow : OpenClaim := { program := "ytakaenhgbkbegaagreat", sum := "379d226bec96af6b42e390f836e24c6ef4cd3c758f4b6ab6a905a818b77fcdd8", func := "loop.example/dominotilings/laws.FnBookRun", spec := "fnBookRun", unfollowed := true, recurses := true, apart := false }
def FnBookRunSaid : Prop := fnBookRunRow.holds Tryz.pinned (OpenSpec.ofChange fnBookRunSpec)

/-- ITS FALSE NEIGHBOUR: 'it returns false'. Refute it at one input. -/
def fnBookRunWrong : ChangeSpec := { name := "fnBookRun", fn := fun _ => fun
  | [d] => { results := [.lit (.bool false)], args := [d] }
  | _ => none }
def FnBookRunWrongFalsely : Prop := fnBookRunRow.holds Tryz.pinned (OpenSpec.ofChange fnBookRunWrong)

/-- 'laws.FnEndDeeds': WHATEVER THE INPUT: true; the input reads as it did. -/
def fnEndDeedsSpec : ChangeSpec := { name := "fnEndDeeds", fn := fun _ => fun
  | [d] => { results := [.lit (.bool true)], args := [d] }
  | _ => none }
def fnEndDeedsRow : OpenClaim := { program := "ytakaenhgbkbegaagreat", sum := "379d226bec96af6b42e390f836e24c6ef4cd3c758f4b6ab6a905a818b77fcdd8", func := "loop.example/dominotilings/laws.FnEndDeeds", spec := "fnEndDeeds", unfollowed := true, recurses := true, apart := false }
def FnEndDeedsSaid : Prop := fnEndDeedsRow.holds Tryz.pinned (OpenSpec.ofChange fnEndDeedsSpec)

/-- ITS FALSE NEIGHBOUR: 'it returns false'. Refute it at one input. -/
def fnEndDeedsWrong : ChangeSpec := { name := "fnEndDeeds", fn := fun _ => fun
  | [d] => { results := [.lit (.bool false)], args := [d] }
  | _ => none }
def FnEndDeedsWrongFalsely : Prop := fnEndDeedsRow.holds Tryz.pinned (OpenSpec.ofChange fnEndDeedsWrong)

/- THE SECOND FORM. 'bulk': how many values and letters a reading holds, each counted each time it is reached (what is shared counts as often as it is met; a slice's spare places count too). A statement '..UptoSaid' is the law's where the arguments, and the package variables that the reading takes, are together of bulk at most 1048576: NARROWER than '..Said'. Prove '..Said' where nothing that the law and all that it calls make is longer than what came in: it says more and counts as full. Else prove '..UptoSaid'. A law counts once. -/
mutual
def uptoBulk {H : Type} : DataW H → Nat
  | .lit (.string bytes) => bytes.length + 1
  | .lit _ => 1
  | .nil => 1
  | .ptr d => uptoBulk d + 1
  | .slice elems spare => uptoBulkAll elems + uptoBulkAll spare + 1
  | .agg parts => uptoBulkAll parts + 1
  | .iface _ d => uptoBulk d + 1
  | .map entries => uptoBulkEntries entries + 1
  | .held _ => 1
def uptoBulkAll {H : Type} : List (DataW H) → Nat
  | [] => 0
  | d :: r => uptoBulk d + uptoBulkAll r
def uptoBulkEntries {H : Type} : List (Lit × DataW H) → Nat
  | [] => 0
  | x :: r => uptoBulkEntry x + uptoBulkEntries r
def uptoBulkEntry {H : Type} : Lit × DataW H → Nat
  | (.string bytes, d) => bytes.length + uptoBulk d + 1
  | (_, d) => uptoBulk d + 1
 end
def uptoSmall : (H : Type) → List (DataW H) → Bool := fun _ ds => decide (uptoBulkAll ds ≤ 1048576)
def OpenSpec.upto (s : _root_.Go.ChangeSpec) : _root_.Go.OpenSpec := { _root_.Go.OpenSpec.ofChange s with cond := some uptoSmall }

/-- 'laws.FnBookNew', WHERE WHAT IT READS IS OF BULK AT MOST 1048576: true; the input reads as it did. -/
def fnBookNewUptoRow : OpenClaim := { program := "ytakaenhgbkbegaagreat", sum := "379d226bec96af6b42e390f836e24c6ef4cd3c758f4b6ab6a905a818b77fcdd8", func := "loop.example/dominotilings/laws.FnBookNew", spec := "fnBookNew", unfollowed := true, recurses := true, apart := false, narrowed := true }
def FnBookNewUptoSaid : Prop := fnBookNewUptoRow.holds Tryz.pinned (OpenSpec.upto fnBookNewSpec)

/-- 'laws.FnCellsLeft', WHERE WHAT IT READS IS OF BULK AT MOST 1048576: true; the input reads as it did. -/
def fnCellsLeftUptoRow : OpenClaim := { program := "ytakaenhgbkbegaagreat", sum := "379d226bec96af6b42e390f836e24c6ef4cd3c758f4b6ab6a905a818b77fcdd8", func := "loop.example/dominotilings/laws.FnCellsLeft", spec := "fnCellsLeft", unfollowed := true, recurses := true, apart := false, narrowed := true }
def FnCellsLeftUptoSaid : Prop := fnCellsLeftUptoRow.holds Tryz.pinned (OpenSpec.upto fnCellsLeftSpec)

/-- 'laws.FnExactBookDo', WHERE WHAT IT READS IS OF BULK AT MOST 1048576: true; the input reads as it did. -/
def fnExactBookDoUptoRow : OpenClaim := { program := "ytakaenhgbkbegaagreat", sum := "379d226bec96af6b42e390f836e24c6ef4cd3c758f4b6ab6a905a818b77fcdd8", func := "loop.example/dominotilings/laws.FnExactBookDo", spec := "fnExactBookDo", unfollowed := true, recurses := true, apart := false, narrowed := true }
def FnExactBookDoUptoSaid : Prop := fnExactBookDoUptoRow.holds Tryz.pinned (OpenSpec.upto fnExactBookDoSpec)

/-- 'laws.FnBookSolved', WHERE WHAT IT READS IS OF BULK AT MOST 1048576: true; the input reads as it did. -/
def fnBookSolvedUptoRow : OpenClaim := { program := "ytakaenhgbkbegaagreat", sum := "379d226bec96af6b42e390f836e24c6ef4cd3c758f4b6ab6a905a818b77fcdd8", func := "loop.example/dominotilings/laws.FnBookSolved", spec := "fnBookSolved", unfollowed := true, recurses := true, apart := false, narrowed := true }
def FnBookSolvedUptoSaid : Prop := fnBookSolvedUptoRow.holds Tryz.pinned (OpenSpec.upto fnBookSolvedSpec)

/-- 'laws.FnExactBookRun', WHERE WHAT IT READS IS OF BULK AT MOST 1048576: true; the input reads as it did. -/
def fnExactBookRunUptoRow : OpenClaim := { program := "ytakaenhgbkbegaagreat", sum := "379d226bec96af6b42e390f836e24c6ef4cd3c758f4b6ab6a905a818b77fcdd8", func := "loop.example/dominotilings/laws.FnExactBookRun", spec := "fnExactBookRun", unfollowed := true, recurses := true, apart := false, narrowed := true }
def FnExactBookRunUptoSaid : Prop := fnExactBookRunUptoRow.holds Tryz.pinned (OpenSpec.upto fnExactBookRunSpec)

/-- 'laws.FnBookDo', WHERE WHAT IT READS IS OF BULK AT MOST 1048576: true; the input reads as it did. -/
def fnBookDoUptoRow : OpenClaim := { program := "ytakaenhgbkbegaagreat", sum := "379d226bec96af6b42e390f836e24c6ef4cd3c758f4b6ab6a905a818b77fcdd8", func := "loop.example/dominotilings/laws.FnBookDo", spec := "fnBookDo", unfollowed := true, recurses := true, apart := false, narrowed := true }
def FnBookDoUptoSaid : Prop := fnBookDoUptoRow.holds Tryz.pinned (OpenSpec.upto fnBookDoSpec)

/-- 'laws.FnBookRun', WHERE WHAT IT READS IS OF BULK AT MOST 1048576: true; the input reads as it did. -/
def fnBookRunUptoRow : OpenClaim := { program := "ytakaenhgbkbegaagreat", sum := "379d226bec96af6b42e390f836e24c6ef4cd3c758f4b6ab6a905a818b77fcdd8", func := "loop.example/dominotilings/laws.FnBookRun", spec := "fnBookRun", unfollowed := true, recurses := true, apart := false, narrowed := true }
def FnBookRunUptoSaid : Prop := fnBookRunUptoRow.holds Tryz.pinned (OpenSpec.upto fnBookRunSpec)

/-- 'laws.FnEndDeeds', WHERE WHAT IT READS IS OF BULK AT MOST 1048576: true; the input reads as it did. -/
def fnEndDeedsUptoRow : OpenClaim := { program := "ytakaenhgbkbegaagreat", sum := "379d226bec96af6b42e390f836e24c6ef4cd3c758f4b6ab6a905a818b77fcdd8", func := "loop.example/dominotilings/laws.FnEndDeeds", spec := "fnEndDeeds", unfollowed := true, recurses := true, apart := false, narrowed := true }
def FnEndDeedsUptoSaid : Prop := fnEndDeedsUptoRow.holds Tryz.pinned (OpenSpec.upto fnEndDeedsSpec)

end Rows
end Go.Proofs.YtakaenhgbkbegaaGreat
