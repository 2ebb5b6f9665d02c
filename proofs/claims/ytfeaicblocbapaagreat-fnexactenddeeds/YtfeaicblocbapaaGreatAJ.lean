/- Contracts of the functions of the program over slots and rows, each proved against the program itself; no condition beyond those that each theorem names. -/
import Derived.Test.YtfeaicblocbapaaGreatAG
import Derived.Test.YtfeaicblocbapaaGreatAI

set_option linter.unusedSimpArgs false
set_option linter.unusedVariables false

namespace Go.Proofs.Dev
set_option linter.unusedSimpArgs false
set_option maxRecDepth 100000

theorem s_slices_Clone_bool (xs : List Bool) (hx : xs.length < 2 ^ 40) : SoundAt Tryz.prog n_slices_Clone_bool_bool [.sl 1 1 (bools xs)] (.os 1 (bools xs)) [.bot] := by
  refine fn_ok (md := md0) (ms := [false]) k_slices_Clone_bool_bool (by simp) ?_
  simp [c_slices_Clone_bool_bool]
  refine ⟨fun h => by omega, fun h => ?_⟩
  subst h
  simp

theorem s_slices_Clip_bool (xs : List Bool) : SoundAt Tryz.prog n_slices_Clip_bool_bool [.os 1 (bools xs)] (.os 1 (bools xs)) [.bot] := by
  refine fn_ok (md := md0) (ms := [false]) k_slices_Clip_bool_bool (by simp) ?_
  simp [c_slices_Clip_bool_bool]

theorem s_impl_clone_bool (xs : List Bool) (hx : xs.length < 2 ^ 40) : SoundAt Tryz.prog n_impl_clone_bool [.sl 1 1 (bools xs)] (.os 1 (bools xs)) [.bot] := by
  refine fn_ok (md := md0) (ms := [false]) k_impl_clone_bool (by simp) ?_
  simp [c_impl_clone_bool]
  refine call_on (s_slices_Clone_bool xs hx) ?_
  simp
  refine call_on (s_slices_Clip_bool xs) ?_
  simp

/-- The book of a puzzle. -/
def newB (W T : Int) (cs : List Bool) (ds : List Int) : AV := if (regB W T cs && digsB cs ds) = true then bkO W T cs ds (noneL cs) [] else bkO 0 0 [] [] [] []

set_option maxHeartbeats 4000000 in
theorem s_spec_BookNew (W T : Int) (cs : List Bool) (ds : List Int) (hb : cs.length < 2 ^ 40) (hd : ds.length < 2 ^ 40) :
    SoundAt Tryz.prog n_spec_BookNew [.agg [.v (.int .i64 W), .v (.int .i64 T), .sl 1 1 (bools cs)], .sl 1 1 (ints ds)] (newB W T cs ds) [.bot, .bot] := by
  refine fn_okB (md := md0) (ms := [false, false]) k_spec_BookNew (by simp) ?_
  simp [c_spec_BookNew]
  refine call_on (s_spec_PuzzleValid W T cs ds hb hd) ?_
  cases hv : (regB W T cs && digsB cs ds) with
  | false => simp [newB, hv]
  | true =>
  have hr : regB W T cs = true := by simp only [Bool.and_eq_true] at hv; exact hv.1
  simp [newB, hv]
  refine frz_on rfl rfl rfl ?_
  have one := s_spec_LaidBare W T cs hb
  rw [if_pos hr] at one
  simp [c_spec_BookNew_E]
  (repeat' first | assumption | omega | apply And.intro) <;>
  · refine call_on one ?_
    simp

end Go.Proofs.Dev
