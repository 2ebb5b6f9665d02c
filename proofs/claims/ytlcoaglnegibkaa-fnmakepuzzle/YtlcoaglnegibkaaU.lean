/- Contracts of the functions of the program over slots and rows, each proved against the program itself; no condition beyond those that each theorem names. -/
import Derived.Test.YtlcoaglnegibkaaT

set_option linter.unusedSimpArgs false
set_option linter.unusedVariables false

namespace Go.Proofs.Dev
set_option linter.unusedSimpArgs false
set_option maxRecDepth 100000

end Go.Proofs.Dev

namespace Go.Proofs.Dev
set_option linter.unusedSimpArgs false
set_option maxRecDepth 100000

def zeros (ls : List Int) : Nat := ls.countP (fun x => decide (x = 0))

theorem zeros_set_le {ls : List Int} {i : Nat} {v : Int} (hv : v ≠ 0) : zeros (ls.set i v) ≤ zeros ls := by
  by_cases h : i < ls.length
  · unfold zeros
    rw [List.countP_set h]
    simp [hv]
  · rw [List.set_eq_of_length_le (by omega)]; exact Nat.le_refl _
theorem zeros_set_lt {ls : List Int} {i : Nat} {v : Int} (h : i < ls.length) (hz : ati ls i = 0) (hv : v ≠ 0) : zeros (ls.set i v) < zeros ls := by
  have he : ls[i] = 0 := by simpa [ati, h] using hz
  have hp : 0 < zeros ls := by
    unfold zeros
    rw [List.countP_pos_iff]
    exact ⟨ls[i], List.getElem_mem h, by simp [he]⟩
  unfold zeros at hp ⊢
  rw [List.countP_set h]
  simp [hv, he]
  omega

theorem zeros_le (ls : List Int) : zeros ls ≤ ls.length := List.countP_le_length

end Go.Proofs.Dev
