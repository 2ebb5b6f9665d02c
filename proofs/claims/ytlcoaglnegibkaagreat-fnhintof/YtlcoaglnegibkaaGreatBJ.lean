/- Contracts of the functions of the program over slots and rows, each proved against the program itself; no condition beyond those that each theorem names. -/
import Derived.Test.YtlcoaglnegibkaaGreatBI
import Derived.Test.YtlcoaglnegibkaaGreatBK

set_option linter.unusedSimpArgs false
set_option linter.unusedVariables false

namespace Go.Proofs.Dev
set_option linter.unusedSimpArgs false
set_option maxRecDepth 100000

def drawL (r : AV) (ups : List AV) : Prop := ∃ (W T : Int) (cs : List Bool) (ds ls : List Int), r = .tup [regA W T cs, .os 1 (ints ds), .os 1 (ints ls)] ∧ cs.length ≤ 37 ∧ ds.length ≤ 37 ∧ ls.length ≤ 38 ∧ ups = [.bot]

section
variable (bs : List Int) (hb : bs.length ≤ 2 ^ 60) (hB : Byt bs)
include hb hB

theorem s_spec_DrawForceOne : SoundSet Tryz.prog n_spec_DrawForceOne [.sl 0 1 (u8s bs)] drawL := by
  refine fn_okS (md := md5) (ms := [false]) k_spec_DrawForceOne (by simp) ?_
  simp [c_spec_DrawForceOne]
  refine call_on (s_spec_l20Open bs hb) ?_
  simp
  refine call_onK (s_spec_l20Played (bs.take 2000) 0 (by simp; omega) (byt_take hB 2000) (by omega)) [1] (by simp) (by simp) (by simp) ?_
  rintro _ _ ⟨W, T, cs, ds, ls, q, rfl, hcs, hds, hls, hq, rfl⟩
  simp [regA]
  refine ⟨_, _, ⟨W, T, cs, ds, ls, rfl, hcs, hds, hls, rfl⟩, ?_⟩
  simp [regA]

theorem s_spec_DrawForceAll : SoundSet Tryz.prog n_spec_DrawForceAll [.sl 0 1 (u8s bs)] drawL := by
  refine fn_okS (md := md5) (ms := [false]) k_spec_DrawForceAll (by simp) ?_
  simp [c_spec_DrawForceAll]
  refine call_on (s_spec_l20Open bs hb) ?_
  simp
  refine call_onK (s_spec_l20Played (bs.take 2000) 0 (by simp; omega) (byt_take hB 2000) (by omega)) [1] (by simp) (by simp) (by simp) ?_
  rintro _ _ ⟨W, T, cs, ds, ls, q, rfl, hcs, hds, hls, hq, rfl⟩
  simp [regA]
  refine ⟨_, _, ⟨W, T, cs, ds, ls, rfl, hcs, hds, hls, rfl⟩, ?_⟩
  simp [regA]

theorem s_spec_DrawHintOf : SoundSet Tryz.prog n_spec_DrawHintOf [.sl 0 1 (u8s bs)] drawL := by
  refine fn_okS (md := md5) (ms := [false]) k_spec_DrawHintOf (by simp) ?_
  simp [c_spec_DrawHintOf]
  refine call_on (s_spec_l20Open bs hb) ?_
  simp
  refine call_onK (s_spec_l20Played (bs.take 2000) 0 (by simp; omega) (byt_take hB 2000) (by omega)) [1] (by simp) (by simp) (by simp) ?_
  rintro _ _ ⟨W, T, cs, ds, ls, q, rfl, hcs, hds, hls, hq, rfl⟩
  simp [regA]
  refine ⟨_, _, ⟨W, T, cs, ds, ls, rfl, hcs, hds, hls, rfl⟩, ?_⟩
  simp [regA]
end
end Go.Proofs.Dev
