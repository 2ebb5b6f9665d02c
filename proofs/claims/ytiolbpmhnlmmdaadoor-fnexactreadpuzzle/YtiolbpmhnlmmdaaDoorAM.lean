/- Contracts of the functions of the program over slots and rows, each proved against the program itself; no condition beyond those that each theorem names. -/
import Derived.Test.YtiolbpmhnlmmdaaDoorAL
import Derived.Test.YtiolbpmhnlmmdaaDoorProg
import Derived.Test.YtiolbpmhnlmmdaaDoorAI
import Derived.Test.YtiolbpmhnlmmdaaDoorAH

set_option linter.unusedSimpArgs false
set_option linter.unusedVariables false

namespace Go.Proofs.Dev
set_option linter.unusedSimpArgs false
set_option maxRecDepth 100000

end Go.Proofs.Dev

namespace Go.Proofs.Dev

end Go.Proofs.Dev

namespace Go.Proofs.Dev
set_option linter.unusedSimpArgs false
set_option maxRecDepth 100000

end Go.Proofs.Dev

namespace Go.Proofs.Dev
set_option linter.unusedSimpArgs false
set_option maxRecDepth 100000

end Go.Proofs.Dev

namespace Go.Proofs.Dev
set_option linter.unusedSimpArgs false
set_option maxRecDepth 100000

end Go.Proofs.Dev

namespace Go.Proofs.Dev
set_option linter.unusedSimpArgs false
set_option maxRecDepth 100000

end Go.Proofs.Dev

namespace Go.Proofs.Dev
set_option linter.unusedSimpArgs false
set_option maxRecDepth 100000

end Go.Proofs.Dev

namespace Go.Proofs.Dev
set_option linter.unusedSimpArgs false
set_option maxRecDepth 100000

end Go.Proofs.Dev

namespace Go.Proofs.Dev

end Go.Proofs.Dev

namespace Go.Proofs.Dev
set_option linter.unusedSimpArgs false
set_option maxRecDepth 100000

/-- Lists of numbers, as elements of a row: read alone, and owned. -/
def sls (c : Nat) (ps : List (List Int)) : List AV := ps.map fun p => .sl c 1 (ints p)
def oss (ps : List (List Int)) : List AV := ps.map fun p => .os 1 (ints p)
def pti (ps : List (List Int)) (i : Int) : List Int := ps.getD i.toNat []

@[simp] theorem sls_length (c : Nat) (ps : List (List Int)) : (sls c ps).length = ps.length := by simp [sls]
@[simp] theorem oss_length (ps : List (List Int)) : (oss ps).length = ps.length := by simp [oss]
@[simp] theorem sls_nil (c : Nat) : sls c [] = [] := (rfl)
@[simp] theorem oss_nil : oss [] = [] := (rfl)
@[simp] theorem sls_eq_nil (c : Nat) (ps : List (List Int)) : (sls c ps = []) = (ps = []) := by cases ps <;> simp [sls]
@[simp] theorem oss_eq_nil (ps : List (List Int)) : (oss ps = []) = (ps = []) := by cases ps <;> simp [oss]
@[simp] theorem iadr_sls_ite {c d : Nat} {k : IntKind} {ps : List (List Int)} {i : Int} : aiadr 1 (.sl c 1 (sls d ps)) (.v (.int k i)) = if 0 ≤ i ∧ i < ps.length then some (.vp c [.sl d 1 (ints (pti ps i))] 0) else none := by
  by_cases h : 0 ≤ i ∧ i < ps.length
  · rw [if_pos h]
    have h1 : i.toNat < ps.length := by omega
    simp [aiadr, h.1, sls, pti, h1]
  · rw [if_neg h]
    by_cases h0 : 0 ≤ i
    · have : ¬ i.toNat < ps.length := by omega
      simp [aiadr, h0, sls, this]
    · simp [aiadr, h0]
@[simp] theorem vwL_sls (c d : Nat) : ∀ ps : List (List Int), vwL c (sls d ps) = sls c ps
  | [] => rfl
  | p :: ps => by
    show vw c (.sl d 1 (ints p)) :: vwL c (sls d ps) = .sl c 1 (ints p) :: sls c ps
    rw [vwL_sls c d ps]; simp
@[simp] theorem vwL_oss (c : Nat) : ∀ ps : List (List Int), vwL c (oss ps) = sls c ps
  | [] => rfl
  | p :: ps => by
    show vw c (.os 1 (ints p)) :: vwL c (oss ps) = .sl c 1 (ints p) :: sls c ps
    rw [vwL_oss c ps]; simp
@[simp] theorem okL_sls (c : Nat) : ∀ ps : List (List Int), okL (sls c ps) = true
  | [] => rfl
  | p :: ps => by show (okE (.sl c 1 (ints p)) && okL (sls c ps)) = true; rw [okL_sls c ps]; simp
@[simp] theorem okL_oss : ∀ ps : List (List Int), okL (oss ps) = true
  | [] => rfl
  | p :: ps => by show (okE (.os 1 (ints p)) && okL (oss ps)) = true; rw [okL_oss ps]; simp
theorem take_oss (n : Nat) (ps : List (List Int)) : (oss ps).take n = oss (ps.take n) := by simp [oss]
@[simp] theorem take_oss_all (ps : List (List Int)) : (oss ps).take ps.length = oss ps := by rw [take_oss, List.take_length]
/-- A book's argument, and a book that is owned. -/
@[simp] def bkA (W T : Int) (cs : List Bool) (ds ls : List Int) (ps : List (List Int)) : AV := .agg [.v (.int .i64 W), .v (.int .i64 T), .sl 1 1 (bools cs), .sl 1 1 (ints ds), .sl 1 1 (ints ls), .sl 1 1 (sls 1 ps)]
@[simp] def bkO (W T : Int) (cs : List Bool) (ds ls : List Int) (ps : List (List Int)) : AV := .agg [.v (.int .i64 W), .v (.int .i64 T), .os 1 (bools cs), .os 1 (ints ds), .os 1 (ints ls), .os 1 (oss ps)]

end Go.Proofs.Dev

namespace Go.Proofs.Dev
set_option linter.unusedSimpArgs false
set_option maxRecDepth 100000

/-- A book that a closure reads. -/
@[simp] def bkP (W T : Int) (cs : List Bool) (ds ls : List Int) (ps : List (List Int)) : AV := .vp 1 [.v (.int .i64 W), .v (.int .i64 T), .sl 1 1 (bools cs), .sl 1 1 (ints ds), .sl 1 1 (ints ls), .sl 1 1 (sls 1 ps)] 0
end Go.Proofs.Dev

namespace Go.Proofs.Dev
set_option linter.unusedSimpArgs false
set_option maxRecDepth 100000

end Go.Proofs.Dev

namespace Go.Proofs.Dev

end Go.Proofs.Dev

namespace Go.Proofs.Dev
set_option linter.unusedSimpArgs false
set_option maxRecDepth 100000

end Go.Proofs.Dev

namespace Go.Proofs.Dev
set_option linter.unusedSimpArgs false
set_option maxRecDepth 100000

end Go.Proofs.Dev

namespace Go.Proofs.Dev

end Go.Proofs.Dev

namespace Go.Proofs.Dev
set_option linter.unusedSimpArgs false
set_option maxRecDepth 100000

/-- Who takes ownership: 139 of its second argument. -/
@[simp] def md1 (f : Nat) : List Bool := if f = 999999 then [false, true] else md0 f

end Go.Proofs.Dev

namespace Go.Proofs.Dev
set_option linter.unusedSimpArgs false
set_option maxRecDepth 100000

end Go.Proofs.Dev

namespace Go.Proofs.Dev
set_option linter.unusedSimpArgs false

end Go.Proofs.Dev

namespace Go.Proofs.Dev

end Go.Proofs.Dev

namespace Go.Proofs.Dev
set_option linter.unusedSimpArgs false
set_option maxRecDepth 100000

end Go.Proofs.Dev

namespace Go.Proofs.Dev
set_option linter.unusedSimpArgs false
set_option maxRecDepth 100000

/-- Who takes ownership: each (140) of the list and of the closure, the closure (141) of all. -/
@[simp] def md2 (f : Nat) : List Bool := if f = 999999 then [false, true, true] else if f = 999999 then [true, true, true, true] else md0 f

@[simp] theorem ints_getA (xs : List Int) (i : Nat) (h : i < (ints xs).length) : (ints xs)[i] = .v (.int .i64 (ati xs i)) := by
  have h2 : i < xs.length := by simpa using h
  simp [ints, ati, h2]

end Go.Proofs.Dev

namespace Go.Proofs.Dev
set_option linter.unusedSimpArgs false

end Go.Proofs.Dev

namespace Go.Proofs.Dev

end Go.Proofs.Dev

namespace Go.Proofs.Dev
set_option linter.unusedSimpArgs false
set_option maxRecDepth 100000

end Go.Proofs.Dev

namespace Go.Proofs.Dev
set_option linter.unusedSimpArgs false
set_option maxRecDepth 100000

end Go.Proofs.Dev
