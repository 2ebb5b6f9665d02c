/-
  No cell of these rows narrows 'for every input' (looked for: loops, veiled, ifaces, maps, wideKeys, modest, calm, conditions, laid).
  DERIVED. THE GIVEN ROWS OF THIS SEAT. 3 by the template 'for every input the law returns true; each argument reads behind the call as it read before'; 0 by the template 'total and deterministic' (their statements: YtlcoaglnegibkaaGreatTotals.lean).
  GIVEN WITH THE SEED: the statements are not yours to turn. If you find one false, say at which input.
  Laid BY PROGRAM, IN A SANDBOX (cutbox-rows.mjs): the forced cells as the released guide's own fill.sh prints them over the translation eb880c2ef7f44482… (all of the seat's roots in one cut). By AI agents, Wed Nov 11 2026. No macro, syntax, notation, axiom, sorry.
-/
import Derived.Test.YtlcoaglnegibkaaGreatChecked
import GoSem.Claim
import GoSem.ClaimJoined
import GoSem.ClaimMapViews
import Derived.JoinedTies
import Derived.KernelRfl
namespace Go.Proofs.YtlcoaglnegibkaaGreat
/- THE CELL 'sum', in the pinned program and in every row, IS THE sha256 OF THE DUMP (.gsa) THAT YtlcoaglnegibkaaGreatProg.lean LOADS. Nothing in Lean hashes anything: it is a label: what it is worth is what the hold of that sum in a sandbox is worth. -/
noncomputable def Tryz.pinned : Pinned := { name := "ytlcoaglnegibkaagreat", sum := "eb880c2ef7f444820b4df3b1bbeda0e90acde884be0aa119873630414d4d6c7b", checked := Tryz.checked }
namespace Rows
def none {H : Type} : Left H := { results := [], args := [] }

/-- 'laws.FnForceOne': WHATEVER THE INPUT: true; the input reads as it did. -/
def fnForceOneSpec : ChangeSpec := { name := "fnForceOne", fn := fun _ => fun
  | [d] => { results := [.lit (.bool true)], args := [d] }
  | _ => none }
def fnForceOneRow : OpenClaim := { program := "ytlcoaglnegibkaagreat", sum := "eb880c2ef7f444820b4df3b1bbeda0e90acde884be0aa119873630414d4d6c7b", func := "loop.example/dominotilings/laws.FnForceOne", spec := "fnForceOne", unfollowed := true, recurses := true, apart := false }
def FnForceOneSaid : Prop := fnForceOneRow.holds Tryz.pinned (OpenSpec.ofChange fnForceOneSpec)

/-- ITS FALSE NEIGHBOUR: 'it returns false'. Refute it at one input. -/
def fnForceOneWrong : ChangeSpec := { name := "fnForceOne", fn := fun _ => fun
  | [d] => { results := [.lit (.bool false)], args := [d] }
  | _ => none }
def FnForceOneWrongFalsely : Prop := fnForceOneRow.holds Tryz.pinned (OpenSpec.ofChange fnForceOneWrong)

/-- 'laws.FnForceAll': WHATEVER THE INPUT: true; the input reads as it did. -/
def fnForceAllSpec : ChangeSpec := { name := "fnForceAll", fn := fun _ => fun
  | [d] => { results := [.lit (.bool true)], args := [d] }
  | _ => none }
def fnForceAllRow : OpenClaim := { program := "ytlcoaglnegibkaagreat", sum := "eb880c2ef7f444820b4df3b1bbeda0e90acde884be0aa119873630414d4d6c7b", func := "loop.example/dominotilings/laws.FnForceAll", spec := "fnForceAll", unfollowed := true, recurses := true, apart := false }
def FnForceAllSaid : Prop := fnForceAllRow.holds Tryz.pinned (OpenSpec.ofChange fnForceAllSpec)

/-- ITS FALSE NEIGHBOUR: 'it returns false'. Refute it at one input. -/
def fnForceAllWrong : ChangeSpec := { name := "fnForceAll", fn := fun _ => fun
  | [d] => { results := [.lit (.bool false)], args := [d] }
  | _ => none }
def FnForceAllWrongFalsely : Prop := fnForceAllRow.holds Tryz.pinned (OpenSpec.ofChange fnForceAllWrong)

/-- 'laws.FnHintOf': WHATEVER THE INPUT: true; the input reads as it did. -/
def fnHintOfSpec : ChangeSpec := { name := "fnHintOf", fn := fun _ => fun
  | [d] => { results := [.lit (.bool true)], args := [d] }
  | _ => none }
def fnHintOfRow : OpenClaim := { program := "ytlcoaglnegibkaagreat", sum := "eb880c2ef7f444820b4df3b1bbeda0e90acde884be0aa119873630414d4d6c7b", func := "loop.example/dominotilings/laws.FnHintOf", spec := "fnHintOf", unfollowed := true, recurses := true, apart := false }
def FnHintOfSaid : Prop := fnHintOfRow.holds Tryz.pinned (OpenSpec.ofChange fnHintOfSpec)

/-- ITS FALSE NEIGHBOUR: 'it returns false'. Refute it at one input. -/
def fnHintOfWrong : ChangeSpec := { name := "fnHintOf", fn := fun _ => fun
  | [d] => { results := [.lit (.bool false)], args := [d] }
  | _ => none }
def FnHintOfWrongFalsely : Prop := fnHintOfRow.holds Tryz.pinned (OpenSpec.ofChange fnHintOfWrong)

/- THE SECOND FORM. 'bulk': how many values and letters a reading holds, each counted each time it is reached (what is shared counts as often as it is met; a slice's spare places count too). A statement '..UptoSaid' is the law's where the arguments, and the package variables that the reading takes, are together of bulk at most 1048576: NARROWER than '..Said'. Prove '..Said' where nothing that the law and all that it calls make is longer than what came in: it says more and counts as full. Else prove '..UptoSaid'. A law counts once. -/
mutual
def uptoBulk {H : Type} : DataW H → Nat
  | .lit (.string bytes) => bytes.length + 1
  | .lit _ => 1
  | .nil => 1
  | .ptr d => uptoBulk d + 1
  | .slice elems spare => uptoBulkAll elems + uptoBulkAll spare + 1
  | .agg parts => uptoBulkAll parts + 1
  | .iface _ d => uptoBulk d + 1
  | .map entries => uptoBulkEntries entries + 1
  | .held _ => 1
def uptoBulkAll {H : Type} : List (DataW H) → Nat
  | [] => 0
  | d :: r => uptoBulk d + uptoBulkAll r
def uptoBulkEntries {H : Type} : List (Lit × DataW H) → Nat
  | [] => 0
  | x :: r => uptoBulkEntry x + uptoBulkEntries r
def uptoBulkEntry {H : Type} : Lit × DataW H → Nat
  | (.string bytes, d) => bytes.length + uptoBulk d + 1
  | (_, d) => uptoBulk d + 1
 end
def uptoSmall : (H : Type) → List (DataW H) → Bool := fun _ ds => decide (uptoBulkAll ds ≤ 1048576)
def OpenSpec.upto (s : _root_.Go.ChangeSpec) : _root_.Go.OpenSpec := { _root_.Go.OpenSpec.ofChange s with cond := some uptoSmall }

/-- 'laws.FnForceOne', WHERE WHAT IT READS IS OF BULK AT MOST 1048576: true; the input reads as it did. -/
def fnForceOneUptoRow : OpenClaim := { program := "ytlcoaglnegibkaagreat", sum := "eb880c2ef7f444820b4df3b1bbeda0e90acde884be0aa119873630414d4d6c7b", func := "loop.example/dominotilings/laws.FnForceOne", spec := "fnForceOne", unfollowed := true, recurses := true, apart := false, narrowed := true }
def FnForceOneUptoSaid : Prop := fnForceOneUptoRow.holds Tryz.pinned (OpenSpec.upto fnForceOneSpec)

/-- 'laws.FnForceAll', WHERE WHAT IT READS IS OF BULK AT MOST 1048576: true; the input reads as it did. -/
def fnForceAllUptoRow : OpenClaim := { program := "ytlcoaglnegibkaagreat", sum := "eb880c2ef7f444820b4df3b1bbeda0e90acde884be0aa119873630414d4d6c7b", func := "loop.example/dominotilings/laws.FnForceAll", spec := "fnForceAll", unfollowed := true, recurses := true, apart := false, narrowed := true }
def FnForceAllUptoSaid : Prop := fnForceAllUptoRow.holds Tryz.pinned (OpenSpec.upto fnForceAllSpec)

/-- 'laws.FnHintOf', WHERE WHAT IT READS IS OF BULK AT MOST 1048576: true; the input reads as it did. -/
def fnHintOfUptoRow : OpenClaim := { program := "ytlcoaglnegibkaagreat", sum := "eb880c2ef7f444820b4df3b1bbeda0e90acde884be0aa119873630414d4d6c7b", func := "loop.example/dominotilings/laws.FnHintOf", spec := "fnHintOf", unfollowed := true, recurses := true, apart := false, narrowed := true }
def FnHintOfUptoSaid : Prop := fnHintOfUptoRow.holds Tryz.pinned (OpenSpec.upto fnHintOfSpec)

end Rows
end Go.Proofs.YtlcoaglnegibkaaGreat
