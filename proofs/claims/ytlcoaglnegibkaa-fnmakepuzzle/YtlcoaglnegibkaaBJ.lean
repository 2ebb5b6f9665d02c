/- Contracts of the functions of the program over slots and rows, each proved against the program itself; no condition beyond those that each theorem names. -/
import Derived.Test.YtlcoaglnegibkaaBI

set_option linter.unusedSimpArgs false
set_option linter.unusedVariables false

namespace Go.Proofs.Dev
set_option linter.unusedSimpArgs false
set_option maxRecDepth 100000

def drawP (r : AV) (ups : List AV) : Prop := ∃ (W T : Int) (cs : List Bool) (ds : List Int), r = .tup [regA W T cs, .os 1 (ints ds)] ∧ cs.length ≤ 37 ∧ ds.length ≤ 37 ∧ ups = [.bot]
def drawL (r : AV) (ups : List AV) : Prop := ∃ (W T : Int) (cs : List Bool) (ds ls : List Int), r = .tup [regA W T cs, .os 1 (ints ds), .os 1 (ints ls)] ∧ cs.length ≤ 37 ∧ ds.length ≤ 37 ∧ ls.length ≤ 38 ∧ ups = [.bot]

section
variable (bs : List Int) (hb : bs.length ≤ 2 ^ 60) (hB : Byt bs)
include hb hB

theorem s_spec_DrawPuzzleValid : SoundSet Try.prog n_spec_DrawPuzzleValid [.sl 0 1 (u8s bs)] drawP := by
  refine fn_okS (md := md5) (ms := [false]) k_spec_DrawPuzzleValid (by simp) ?_
  simp [c_spec_DrawPuzzleValid]
  refine call_on (s_spec_l20Open bs hb) ?_
  simp
  trace_state
  refine call_onK (s_spec_l20Puzzle (bs.take 2000) 0 2 (by simp; omega) (byt_take hB 2000) (by omega) (by omega) (by omega)) [1] (by simp) (by simp) (by simp) ?_
  rintro _ _ ⟨W, T, cs, ds, q, rfl, hcs, hds, hq, rfl⟩
  simp [regA]
  refine ⟨_, _, ⟨W, T, cs, ds, rfl, hcs, hds, rfl⟩, ?_⟩
  simp [regA]

theorem s_spec_DrawSolutionsAll : SoundSet Try.prog n_spec_DrawSolutionsAll [.sl 0 1 (u8s bs)] drawP := by
  refine fn_okS (md := md5) (ms := [false]) k_spec_DrawSolutionsAll (by simp) ?_
  simp [c_spec_DrawSolutionsAll]
  refine call_on (s_spec_l20Open bs hb) ?_
  simp
  refine call_onK (s_spec_l20Puzzle (bs.take 2000) 0 9 (by simp; omega) (byt_take hB 2000) (by omega) (by omega) (by omega)) [1] (by simp) (by simp) (by simp) ?_
  rintro _ _ ⟨W, T, cs, ds, q, rfl, hcs, hds, hq, rfl⟩
  simp [regA]
  refine ⟨_, _, ⟨W, T, cs, ds, rfl, hcs, hds, rfl⟩, ?_⟩
  simp [regA]

theorem s_spec_DrawPairsOf : SoundSet Try.prog n_spec_DrawPairsOf [.sl 0 1 (u8s bs)] drawL := by
  refine fn_okS (md := md5) (ms := [false]) k_spec_DrawPairsOf (by simp) ?_
  simp [c_spec_DrawPairsOf]
  refine call_on (s_spec_l20Open bs hb) ?_
  simp
  refine call_onK (s_spec_l20Played (bs.take 2000) 0 (by simp; omega) (byt_take hB 2000) (by omega)) [1] (by simp) (by simp) (by simp) ?_
  rintro _ _ ⟨W, T, cs, ds, ls, q, rfl, hcs, hds, hls, hq, rfl⟩
  simp [regA]
  refine ⟨_, _, ⟨W, T, cs, ds, ls, rfl, hcs, hds, hls, rfl⟩, ?_⟩
  simp [regA]

theorem s_spec_DrawFairOk : SoundSet Try.prog n_spec_DrawFairOk [.sl 0 1 (u8s bs)] drawL := by
  refine fn_okS (md := md5) (ms := [false]) k_spec_DrawFairOk (by simp) ?_
  simp [c_spec_DrawFairOk]
  refine call_on (s_spec_l20Open bs hb) ?_
  simp
  refine call_onK (s_spec_l20Played (bs.take 2000) 0 (by simp; omega) (byt_take hB 2000) (by omega)) [1] (by simp) (by simp) (by simp) ?_
  rintro _ _ ⟨W, T, cs, ds, ls, q, rfl, hcs, hds, hls, hq, rfl⟩
  simp [regA]
  refine ⟨_, _, ⟨W, T, cs, ds, ls, rfl, hcs, hds, hls, rfl⟩, ?_⟩
  simp [regA]

theorem s_spec_DrawDead : SoundSet Try.prog n_spec_DrawDead [.sl 0 1 (u8s bs)] drawL := by
  refine fn_okS (md := md5) (ms := [false]) k_spec_DrawDead (by simp) ?_
  simp [c_spec_DrawDead]
  refine call_on (s_spec_l20Open bs hb) ?_
  simp
  refine call_onK (s_spec_l20Played (bs.take 2000) 0 (by simp; omega) (byt_take hB 2000) (by omega)) [1] (by simp) (by simp) (by simp) ?_
  rintro _ _ ⟨W, T, cs, ds, ls, q, rfl, hcs, hds, hls, hq, rfl⟩
  simp [regA]
  refine ⟨_, _, ⟨W, T, cs, ds, ls, rfl, hcs, hds, hls, rfl⟩, ?_⟩
  simp [regA]

theorem s_spec_DrawSolveFirst : SoundSet Try.prog n_spec_DrawSolveFirst [.sl 0 1 (u8s bs)] drawL := by
  refine fn_okS (md := md5) (ms := [false]) k_spec_DrawSolveFirst (by simp) ?_
  simp [c_spec_DrawSolveFirst]
  refine call_on (s_spec_l20Open bs hb) ?_
  simp
  refine call_onK (s_spec_l20Played (bs.take 2000) 0 (by simp; omega) (byt_take hB 2000) (by omega)) [1] (by simp) (by simp) (by simp) ?_
  rintro _ _ ⟨W, T, cs, ds, ls, q, rfl, hcs, hds, hls, hq, rfl⟩
  simp [regA]
  refine ⟨_, _, ⟨W, T, cs, ds, ls, rfl, hcs, hds, hls, rfl⟩, ?_⟩
  simp [regA]

end
end Go.Proofs.Dev
