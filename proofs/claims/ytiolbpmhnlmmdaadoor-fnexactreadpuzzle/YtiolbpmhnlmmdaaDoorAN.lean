/- Contracts of the functions of the program over slots and rows, each proved against the program itself; no condition beyond those that each theorem names. -/
import Derived.Test.YtiolbpmhnlmmdaaDoorAM
import Derived.Test.YtiolbpmhnlmmdaaDoorAL
import Derived.Test.YtiolbpmhnlmmdaaDoorProg
import Derived.Test.YtiolbpmhnlmmdaaDoorAH
import Derived.Shelf.Bits.Mul64
import Derived.Ground.NamesProg
import Derived.Test.YtiolbpmhnlmmdaaDoorAJ

set_option linter.unusedSimpArgs false
set_option linter.unusedVariables false

namespace Go.Proofs.Dev
set_option linter.unusedSimpArgs false

/-! A domino more. -/
/-! Solutions. -/
end Go.Proofs.Dev

namespace Go.Proofs.Dev

end Go.Proofs.Dev

namespace Go.Proofs
open Go.Shelf
namespace Dev

end Dev
end Go.Proofs

namespace Go.Proofs.Dev
set_option linter.unusedSimpArgs false
set_option maxRecDepth 100000

/-- All pairs, in ascending order. -/
def prL : List (Int × Int) := (List.range 7).flatMap fun a => (List.range' a (7 - a)).map fun b : Nat => ((a : Int), (b : Int))
end Go.Proofs.Dev

namespace Go.Proofs.Dev
set_option linter.unusedSimpArgs false
set_option maxRecDepth 100000

def prAt (n : Nat) : Int × Int := prL.getD n (0, 0)
def domB (ls : List Int) (k : Nat) : Bool := decide (ati ls k = 1 ∨ ati ls k = 2)
/-- How many dominoes begin ahead of a cell. -/
def domTo (ls : List Int) : Nat → Nat
  | 0 => 0
  | i + 1 => domTo ls i + if domB ls i then 1 else 0
def putP (out : List Int) (i j : Nat) (p : Int × Int) : List Int := (out.set i p.1).set j p.2
/-- The numbers of the dominoes that begin ahead of a cell. -/
def mkTo (W T : Int) (ls : List Int) (fr : Nat) : Nat → List Int
  | 0 => List.replicate ls.length (-1)
  | i + 1 => if domB ls i then putP (mkTo W T ls fr i) i (stepI W T i (ati ls i)).toNat (prAt ((fr + domTo ls i) % 28)) else mkTo W T ls fr i
def mkI (W T : Int) (cs : List Bool) (ls : List Int) (fr : Int) : List Int :=
  if (regB W T cs && laysB W T cs ls && fullB cs ls && decide (0 ≤ fr ∧ fr ≤ 27)) = true then mkTo W T ls fr.toNat ls.length else []

end Go.Proofs.Dev

namespace Go.Proofs.Dev

-- 2 parameters, results [.c 4 true 3], 12 slots, modes [false, false]
@[simp] abbrev n_impl_field : Nat := 76

def c_impl_field : ACode := .seq (.reg [.o 4 (.alloc rz) []]) <| .seq (.reg [.m 5 0, .m 6 1, .m 7 0, .m 8 1, .o 9 (.bin .mul 0) [.t 7, .t 8],
 .o 10 (.mksl 1 1 (.v (.bool false))) [.t 9, .t 9], .o 11 (.build rz [(0, 1), (1, 1), (2, 1)]) [.t 5, .t 6, .t 10], .s (.store 3) [.t 4, .t 11]]) <| .ret

theorem k_impl_field : cFn Tryd.prog n_impl_field 12 [.c 4 true 3] c_impl_field := ⟨Tryd.f76, _, Tryd.func76, rfl, by kernel_rfl, by kernel_rfl, by kernel_rfl, by kernel_rfl⟩

end Go.Proofs.Dev

namespace Go.Proofs.Dev
set_option linter.unusedSimpArgs false
set_option maxRecDepth 100000

theorem s_impl_field (W T : Int) (h1 : 0 ≤ W ∧ W ≤ 6) (h2 : 0 ≤ T ∧ T ≤ 6) :
    SoundAt Tryd.prog n_impl_field [.v (.int .i64 W), .v (.int .i64 T)] (.agg [.v (.int .i64 W), .v (.int .i64 T), .os 1 (bools (List.replicate (W * T).toNat false))]) [.bot, .bot] := by
  refine fn_ok (md := md0) (ms := [false, false]) k_impl_field (by simp) ?_
  have p0 : 0 ≤ W * T := Int.mul_nonneg h1.1 h2.1
  have p1 : W * T ≤ 6 * 6 := Int.mul_le_mul h1.2 h2.2 h2.1 (by omega)
  simp [c_impl_field, bools_rep, p0]
  have e : (bools (List.replicate (W * T).toNat false)).length = (W * T).toNat := by simp
  exact ⟨by omega, by omega, List.take_of_length_le (Nat.le_of_eq e)⟩

end Go.Proofs.Dev
