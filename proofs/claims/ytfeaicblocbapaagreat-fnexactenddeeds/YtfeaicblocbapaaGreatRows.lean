/-
  No cell of these rows narrows 'for every input' (looked for: loops, veiled, ifaces, maps, wideKeys, modest, calm, conditions, laid).
  DERIVED. THE GIVEN ROWS OF THIS SEAT. 3 by the template 'for every input the law returns true; each argument reads behind the call as it read before'; 0 by the template 'total and deterministic' (their statements: YtfeaicblocbapaaGreatTotals.lean).
  GIVEN WITH THE SEED: the statements are not yours to turn. If you find one false, say at which input.
  Laid BY PROGRAM, IN A SANDBOX (cutbox-rows.mjs): the forced cells as the released guide's own fill.sh prints them over the translation fbe7f35b5ee7717b… (all of the seat's roots in one cut). By AI agents, Wed Nov 11 2026. No macro, syntax, notation, axiom, sorry.
-/
import Derived.Test.YtfeaicblocbapaaGreatChecked
import GoSem.Claim
import GoSem.ClaimJoined
import GoSem.ClaimMapViews
import Derived.JoinedTies
import Derived.KernelRfl
namespace Go.Proofs.YtfeaicblocbapaaGreat
/- THE CELL 'sum', in the pinned program and in every row, IS THE sha256 OF THE DUMP (.gsa) THAT YtfeaicblocbapaaGreatProg.lean LOADS. Nothing in Lean hashes anything: it is a label: what it is worth is what the hold of that sum in a sandbox is worth. -/
noncomputable def Tryz.pinned : Pinned := { name := "ytfeaicblocbapaagreat", sum := "fbe7f35b5ee7717bba0ba6a30147fdd00e4cecbdddc7936f80249ae0b86890f0", checked := Tryz.checked }
namespace Rows
def none {H : Type} : Left H := { results := [], args := [] }

/-- 'laws.FnExactEndDeeds': WHATEVER THE INPUT: true; the input reads as it did. -/
def fnExactEndDeedsSpec : ChangeSpec := { name := "fnExactEndDeeds", fn := fun _ => fun
  | [d] => { results := [.lit (.bool true)], args := [d] }
  | _ => none }
def fnExactEndDeedsRow : OpenClaim := { program := "ytfeaicblocbapaagreat", sum := "fbe7f35b5ee7717bba0ba6a30147fdd00e4cecbdddc7936f80249ae0b86890f0", func := "loop.example/dominotilings/laws.FnExactEndDeeds", spec := "fnExactEndDeeds", unfollowed := true, recurses := true, apart := false }
def FnExactEndDeedsSaid : Prop := fnExactEndDeedsRow.holds Tryz.pinned (OpenSpec.ofChange fnExactEndDeedsSpec)

/-- ITS FALSE NEIGHBOUR: 'it returns false'. Refute it at one input. -/
def fnExactEndDeedsWrong : ChangeSpec := { name := "fnExactEndDeeds", fn := fun _ => fun
  | [d] => { results := [.lit (.bool false)], args := [d] }
  | _ => none }
def FnExactEndDeedsWrongFalsely : Prop := fnExactEndDeedsRow.holds Tryz.pinned (OpenSpec.ofChange fnExactEndDeedsWrong)

/-- 'laws.FnExactBookDo': WHATEVER THE INPUT: true; the input reads as it did. -/
def fnExactBookDoSpec : ChangeSpec := { name := "fnExactBookDo", fn := fun _ => fun
  | [d1, d2] => { results := [.lit (.bool true)], args := [d1, d2] }
  | _ => none }
def fnExactBookDoRow : OpenClaim := { program := "ytfeaicblocbapaagreat", sum := "fbe7f35b5ee7717bba0ba6a30147fdd00e4cecbdddc7936f80249ae0b86890f0", func := "loop.example/dominotilings/laws.FnExactBookDo", spec := "fnExactBookDo", unfollowed := true, recurses := true, apart := false }
def FnExactBookDoSaid : Prop := fnExactBookDoRow.holds Tryz.pinned (OpenSpec.ofChange fnExactBookDoSpec)

/-- ITS FALSE NEIGHBOUR: 'it returns false'. Refute it at one input. -/
def fnExactBookDoWrong : ChangeSpec := { name := "fnExactBookDo", fn := fun _ => fun
  | [d1, d2] => { results := [.lit (.bool false)], args := [d1, d2] }
  | _ => none }
def FnExactBookDoWrongFalsely : Prop := fnExactBookDoRow.holds Tryz.pinned (OpenSpec.ofChange fnExactBookDoWrong)

/-- 'laws.FnExactBookRun': WHATEVER THE INPUT: true; the input reads as it did. -/
def fnExactBookRunSpec : ChangeSpec := { name := "fnExactBookRun", fn := fun _ => fun
  | [d1, d2] => { results := [.lit (.bool true)], args := [d1, d2] }
  | _ => none }
def fnExactBookRunRow : OpenClaim := { program := "ytfeaicblocbapaagreat", sum := "fbe7f35b5ee7717bba0ba6a30147fdd00e4cecbdddc7936f80249ae0b86890f0", func := "loop.example/dominotilings/laws.FnExactBookRun", spec := "fnExactBookRun", unfollowed := true, recurses := true, apart := false }
def FnExactBookRunSaid : Prop := fnExactBookRunRow.holds Tryz.pinned (OpenSpec.ofChange fnExactBookRunSpec)

/-- ITS FALSE NEIGHBOUR: 'it returns false'. Refute it at one input. -/
def fnExactBookRunWrong : ChangeSpec := { name := "fnExactBookRun", fn := fun _ => fun
  | [d1, d2] => { results := [.lit (.bool false)], args := [d1, d2] }
  | _ => none }
def FnExactBookRunWrongFalsely : Prop := fnExactBookRunRow.holds Tryz.pinned (OpenSpec.ofChange fnExactBookRunWrong)

/- THE SECOND FORM. 'bulk': how many values and letters a reading holds, each counted each time it is reached (what is shared counts as often as it is met; a slice's spare places count too). A statement '..UptoSaid' is the law's where the arguments, and the package variables that the reading takes, are together of bulk at most 1048576: NARROWER than '..Said'. Prove '..Said' where nothing that the law and all that it calls make is longer than what came in: it says more and counts as full. Else prove '..UptoSaid'. A law counts once. -/
mutual
def uptoBulk {H : Type} : DataW H → Nat
  | .lit (.string bytes) => bytes.length + 1
  | .lit _ => 1
  | .nil => 1
  | .ptr d => uptoBulk d + 1
  | .slice elems spare => uptoBulkAll elems + uptoBulkAll spare + 1
  | .agg parts => uptoBulkAll parts + 1
  | .iface _ d => uptoBulk d + 1
  | .map entries => uptoBulkEntries entries + 1
  | .held _ => 1
def uptoBulkAll {H : Type} : List (DataW H) → Nat
  | [] => 0
  | d :: r => uptoBulk d + uptoBulkAll r
def uptoBulkEntries {H : Type} : List (Lit × DataW H) → Nat
  | [] => 0
  | x :: r => uptoBulkEntry x + uptoBulkEntries r
def uptoBulkEntry {H : Type} : Lit × DataW H → Nat
  | (.string bytes, d) => bytes.length + uptoBulk d + 1
  | (_, d) => uptoBulk d + 1
 end
def uptoSmall : (H : Type) → List (DataW H) → Bool := fun _ ds => decide (uptoBulkAll ds ≤ 1048576)
def OpenSpec.upto (s : _root_.Go.ChangeSpec) : _root_.Go.OpenSpec := { _root_.Go.OpenSpec.ofChange s with cond := some uptoSmall }

/-- 'laws.FnExactEndDeeds', WHERE WHAT IT READS IS OF BULK AT MOST 1048576: true; the input reads as it did. -/
def fnExactEndDeedsUptoRow : OpenClaim := { program := "ytfeaicblocbapaagreat", sum := "fbe7f35b5ee7717bba0ba6a30147fdd00e4cecbdddc7936f80249ae0b86890f0", func := "loop.example/dominotilings/laws.FnExactEndDeeds", spec := "fnExactEndDeeds", unfollowed := true, recurses := true, apart := false, narrowed := true }
def FnExactEndDeedsUptoSaid : Prop := fnExactEndDeedsUptoRow.holds Tryz.pinned (OpenSpec.upto fnExactEndDeedsSpec)

/-- 'laws.FnExactBookDo', WHERE WHAT IT READS IS OF BULK AT MOST 1048576: true; the input reads as it did. -/
def fnExactBookDoUptoRow : OpenClaim := { program := "ytfeaicblocbapaagreat", sum := "fbe7f35b5ee7717bba0ba6a30147fdd00e4cecbdddc7936f80249ae0b86890f0", func := "loop.example/dominotilings/laws.FnExactBookDo", spec := "fnExactBookDo", unfollowed := true, recurses := true, apart := false, narrowed := true }
def FnExactBookDoUptoSaid : Prop := fnExactBookDoUptoRow.holds Tryz.pinned (OpenSpec.upto fnExactBookDoSpec)

/-- 'laws.FnExactBookRun', WHERE WHAT IT READS IS OF BULK AT MOST 1048576: true; the input reads as it did. -/
def fnExactBookRunUptoRow : OpenClaim := { program := "ytfeaicblocbapaagreat", sum := "fbe7f35b5ee7717bba0ba6a30147fdd00e4cecbdddc7936f80249ae0b86890f0", func := "loop.example/dominotilings/laws.FnExactBookRun", spec := "fnExactBookRun", unfollowed := true, recurses := true, apart := false, narrowed := true }
def FnExactBookRunUptoSaid : Prop := fnExactBookRunUptoRow.holds Tryz.pinned (OpenSpec.upto fnExactBookRunSpec)

end Rows
end Go.Proofs.YtfeaicblocbapaaGreat
