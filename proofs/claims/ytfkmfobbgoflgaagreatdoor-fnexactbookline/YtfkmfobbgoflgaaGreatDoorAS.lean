/- Contracts of the functions of the program over slots and rows, each proved against the program itself; no condition beyond those that each theorem names. -/
import Derived.Test.YtfkmfobbgoflgaaGreatDoorAR
import Derived.Test.YtfkmfobbgoflgaaGreatDoorProg
import Derived.Test.YtfkmfobbgoflgaaGreatDoorAH
import Derived.Test.YtfkmfobbgoflgaaGreatDoorAI
set_option linter.unusedSimpArgs false
set_option linter.unusedVariables false
set_option maxRecDepth 100000
namespace Go.Proofs.Dev
@[simp] def md5 (f : Nat) : List Bool := if f = 54 ∨ f = 45 ∨ f = 254 ∨ f = 255 ∨ f = 220 ∨ f = 999999 ∨ f = 163 ∨ f = 118 then [true, false] else if f = 999999 ∨ f = 999999 ∨ f = 43 ∨ f = 999999 ∨ f = 999999 ∨ f = 999999 ∨ f = 999999 ∨ f = 999999 ∨ f = 999999 ∨ f = 999999 ∨ f = 999999 ∨ f = 999999 ∨ f = 999999 ∨ f = 999999 then [true] else if f = 999999 then [false, true] else md0 f
def rdC (bs : List Int) (p : Nat) : List AV := [.sl 0 1 (u8s bs), .v (.int .i64 p)]
def rdA (bs : List Int) (p : Nat) : AV := .op (rdC bs p)
attribute [simp] bj rdA rdC
end Go.Proofs.Dev
