/- Contracts of the functions of the program over slots and rows, each proved against the program itself; no condition beyond those that each theorem names. -/
import Derived.Test.YtfeaicblocbapaaGreatAC

set_option linter.unusedSimpArgs false
set_option linter.unusedVariables false

namespace Go.Proofs.Dev
set_option linter.unusedSimpArgs false
set_option maxRecDepth 100000

/-- The cell of a hint, where there is a solution. -/
def hintC (W T : Int) (cs : List Bool) (ds ls : List Int) : Int := if oneI W T cs ds ls < 0 then bareI cs ls else oneI W T cs ds ls
def hint1 (W T : Int) (cs : List Bool) (ds ls : List Int) : Int := if (firstHas W T cs ds ls).isSome = true then hintC W T cs ds ls else -1
def hint2 (W T : Int) (cs : List Bool) (ds ls : List Int) : Int := match firstHas W T cs ds ls with
  | some x => if hintC W T cs ds ls < 0 then 0 else ati x (hintC W T cs ds ls)
  | none => 0

theorem firstHas_some {W T : Int} {cs : List Bool} {ds ls x : List Int} (h : firstHas W T cs ds ls = some x) : fairB W T cs ds ls = true ∧ x.length = cs.length := by
  unfold firstHas at h
  split at h
  · rename_i hf
    exact ⟨hf, sols_len (List.mem_of_find?_eq_some h)⟩
  · cases h

theorem hintC_cases (W T : Int) (cs : List Bool) (ds ls : List Int) : hintC W T cs ds ls = -1 ∨ ∃ k : Nat, k < ls.length ∧ hintC W T cs ds ls = k := by
  unfold hintC
  split
  · rcases bare_cases cs ls with h | ⟨k, hk, he, _⟩
    · exact .inl h
    · exact .inr ⟨k, hk, he⟩
  · rename_i h1
    rcases one_cases W T cs ds ls with h | ⟨k, hk, he, _⟩
    · omega
    · exact .inr ⟨k, hk, he⟩

end Go.Proofs.Dev
