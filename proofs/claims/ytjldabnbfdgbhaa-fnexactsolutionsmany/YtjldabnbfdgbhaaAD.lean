/- Contracts of the functions of the program over slots and rows, each proved against the program itself; no condition beyond those that each theorem names. -/
import Derived.Test.YtjldabnbfdgbhaaAC

set_option linter.unusedSimpArgs false
set_option linter.unusedVariables false

namespace Go.Proofs.Dev
set_option linter.unusedSimpArgs false
set_option maxRecDepth 100000

theorem t_FnExactSolutionsMany (ds : List Int) (hd : ds.length < 2 ^ 21) :
    awp Try.prog md0 c_laws_FnExactSolutionsMany_T0 (Fin [.t 4] 43 2 [false, false] (.v (.bool true)) [.bot, .bot])
      [(1, .sl 1 1 (ints ds)), (8, .ls 1 0 0 ds.length)]
      [some (.arr 1 (ints ds))] := by
  simp [c_laws_FnExactSolutionsMany_T0]
  refine call_on (s_laws_toIntS ds (by omega)) ?_
  simp
  refine call_on (s_laws_eqIntS ds ds (by omega)) ?_
  simp

theorem s_FnExactSolutionsMany (W T : Int) (cs : List Bool) (ds : List Int) (hb : cs.length ≤ 9223372036854775807) :
    SoundAt Try.prog n_laws_FnExactSolutionsMany [.agg [.v (.int .i64 W), .v (.int .i64 T), .sl 1 1 (bools cs)], .sl 1 1 (ints ds)] (.v (.bool true)) [.bot, .bot] := by
  refine fn_ok (md := md0) (ms := [false, false]) k_laws_FnExactSolutionsMany (by simp) ?_
  simp [c_laws_FnExactSolutionsMany]
  intro h1
  refine call_on (s_laws_szRegion W T cs 1048576 (by omega) (by omega) hb) ?_
  by_cases h3 : (1048576 : Int) < cs.length
  · simp [h3]
  simp [h3]
  intro _
  refine call_on (s_laws_toRegion W T cs (by omega)) ?_
  simp
  refine call_on (s_laws_toIntS ds (by omega)) ?_
  simp
  refine call_on (s_spec_SolutionsMany W T cs ds (by omega) (by omega)) ?_
  simp
  refine call_on (s_laws_toRegion W T cs (by omega)) ?_
  simp
  refine call_on (s_laws_toIntS ds (by omega)) ?_
  simp
  refine call_on (s_impl_SolutionsMany W T cs ds (by omega) (by omega)) ?_
  simp
  have tail := t_FnExactSolutionsMany ds (by omega)
  (repeat' first | assumption | apply And.intro) <;>
  · refine call_on (s_laws_toRegion W T cs (by omega)) ?_
    simp
    refine call_on (s_laws_eqRegion W T W T cs cs (by omega)) ?_
    simp
    exact tail

end Go.Proofs.Dev
