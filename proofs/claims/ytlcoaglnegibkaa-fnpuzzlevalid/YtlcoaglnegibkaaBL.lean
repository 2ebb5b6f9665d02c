/- Contracts of the functions of the program over slots and rows, each proved against the program itself; no condition beyond those that each theorem names. -/
import Derived.Test.YtlcoaglnegibkaaBJ
import Derived.Test.YtlcoaglnegibkaaBC
import Derived.Test.YtlcoaglnegibkaaBK
import Derived.Test.YtlcoaglnegibkaaAP

set_option linter.unusedSimpArgs false
set_option linter.unusedVariables false

namespace Go.Proofs.Dev
set_option linter.unusedSimpArgs false
set_option maxRecDepth 100000

theorem digsB_more {cs : List Bool} {xs : List Int} (h : digsB cs xs = true) (x : Int) : digsB cs (xs ++ [x]) = false := by
  simp [digsB] at h ⊢
  omega

theorem l_FnPuzzleValid (bs : List Int) (hB : Byt bs) : SoundAt Try.prog n_laws_FnPuzzleValid [.sl 0 1 (u8s bs)] (.v (.bool true)) [.bot] := by
  refine fn_ok (md := md5) (ms := [false]) k_laws_FnPuzzleValid (by simp) ?_
  simp [c_laws_FnPuzzleValid]
  refine fun hsz => ?_
  have hb : bs.length ≤ 2 ^ 60 := by omega
  refine call_onK (s_spec_DrawPuzzleValid bs hb hB) [] (by simp) (by simp) (by simp) ?_
  rintro _ _ ⟨W, T, cs, ds, rfl, hcs, hds, rfl⟩
  have one := s_impl_PuzzleValid W T cs ds (by omega) (by omega)
  have two := s_spec_PuzzleValid W T cs ds (by omega) (by omega)
  cases hv : (regB W T cs && digsB cs ds) with
  | false =>
    rw [hv] at one two
    simp [regA]
    refine call_on one ?_
    simp
    refine call_on two ?_
    simp
    refine call_on s_laws_alive ?_
    simp
  | true =>
    rw [hv] at one two
    simp [regA]
    refine call_on one ?_
    simp
    refine call_on two ?_
    simp
    refine loop_by (fun m E H => ∃ i : Nat, m = ds.length - i ∧ i ≤ ds.length ∧ E = [(3, .lp 0 0 0 0), (4, .ls 1 1 0 ds.length), (6, .ls 1 2 0 i), (7, .v (.int .i64 i))] ∧ H = [some (.box [.v (.int .i64 W), .v (.int .i64 T), .ls 1 3 0 cs.length]), some (.arr 1 (ints ds)), some (.arr 1 (ints ((ds.map fun d => min d 0).take i))), some (.arr 1 (bools cs))]) ds.length ⟨0, by simp⟩ ?_
    rintro J hJ m E H ⟨i, rfl, hi, rfl, rfl⟩
    simp at hv
    by_cases h : i < ds.length
    · have key : ints ((ds.map fun d => min d 0).take i) ++ [.v (.int .i64 (if 0 < ati ds i then 0 else ati ds i))] = ints ((ds.map fun d => min d 0).take (i + 1)) := by
        rw [List.take_succ_eq_append_getElem (by simpa using h)]
        have e : min ds[i] 0 = if 0 < ds[i] then 0 else ds[i] := by split <;> omega
        simp [ints, ati, h, e]
      have hm : min i ds.length = i := by omega
      simp [c_laws_FnPuzzleValid_L0, h, hm, key]
      exact ⟨by omega, by omega, _, by omega, hJ _ _ _ ⟨i + 1, rfl, h, by simp, by simp⟩⟩
    · have : i = ds.length := by omega
      subst this
      have hs := same_digs hv.2
      have hs2 := digsB_more hs (-1)
      have three := s_impl_PuzzleValid W T cs (ds.map fun d => min d 0) (by omega) (by simp; omega)
      have four := s_impl_PuzzleValid W T cs ((ds.map fun d => min d 0) ++ [-1]) (by omega) (by simp; omega)
      rw [hv.1, hs] at three
      rw [hv.1, hs2] at four
      have e : (ds.map fun d => min d 0).take ds.length = (ds.map fun d => min d 0) := List.take_of_length_le (by simp)
      simp [c_laws_FnPuzzleValid_L0, e]
      have hk : (ints (ds.map fun d => min d 0)).take ds.length = ints (ds.map fun d => min d 0) := List.take_of_length_le (by simp)
      have ha : ints (ds.map fun d => min d 0) ++ [.v (.int .i64 (-1))] = ints ((ds.map fun d => min d 0) ++ [-1]) := by simp [ints]
      have hk2 : (ints ((ds.map fun d => min d 0) ++ [-1])).take (ds.length + 1) = ints ((ds.map fun d => min d 0) ++ [-1]) := List.take_of_length_le (by simp)
      refine call_on three ?_
      simp [hk, ha]
      (repeat' first | omega | apply And.intro) <;>
      · refine call_on four ?_
        simp [hk2]
end Go.Proofs.Dev
