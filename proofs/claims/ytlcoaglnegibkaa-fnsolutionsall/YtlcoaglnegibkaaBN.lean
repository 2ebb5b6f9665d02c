/- Contracts of the functions of the program over slots and rows, each proved against the program itself; no condition beyond those that each theorem names. -/
import Derived.Test.YtlcoaglnegibkaaBM

set_option linter.unusedSimpArgs false
set_option linter.unusedVariables false

namespace Go.Proofs.Dev
set_option linter.unusedSimpArgs false
set_option maxRecDepth 100000

theorem s_impl_SolutionsAllF (W T : Int) (cs : List Bool) (ds : List Int) (hb : cs.length < 2 ^ 40) (hd : ds.length < 2 ^ 40) :
    SoundAt Try.prog n_impl_SolutionsAll [.agg [.v (.int .i64 W), .v (.int .i64 T), .sl 1 1 (bools cs)], .sl 1 1 (ints ds)] (.sl 0 1 (sls 0 (solsI W T cs ds))) [.bot, .bot] := by
  have h := SoundAt.frozen (n := 2) (fun C S us hr => noOL_ok _ S us rfl hr) (s_impl_SolutionsAll W T cs ds hb hd)
  simpa [vw] using h

theorem sf_T0 {W T : Int} {cs : List Bool} {ds ls : List Int} (hcs : cs.length ≤ 37) (hds : ds.length ≤ 37) (hls : ls.length ≤ 38) :
    awp Try.prog md5 c_laws_FnSolveFirst_T0 (Fin [RV.t 2] 93 1 [false] (AV.v (Value.bool true)) [AV.bot])
        [(3, AV.lp 0 0 0 0), (4, AV.ls 1 1 0 ds.length), (5, AV.ls 1 2 0 ls.length),
          (6, AV.ls 1 3 0 (solL W T cs ds ls).length), (7, AV.v (Value.bool (solB W T cs ds ls)))]
        [some (Row.box [AV.v (Value.int IntKind.i64 W), AV.v (Value.int IntKind.i64 T), AV.ls 1 4 0 cs.length]),
          some (Row.arr 1 (ints ds)), some (Row.arr 1 (ints ls)), some (Row.arr 1 (ints (solL W T cs ds ls))),
          some (Row.arr 1 (bools cs))] := by
  cases hx : firstHas W T cs ds ls with
  | none =>
    have e1 : solL W T cs ds ls = [] := by simp [solL, hx]
    have e2 : solB W T cs ds ls = false := by simp [solB, hx]
    simp [c_laws_FnSolveFirst_T0, e1, e2]
    refine call_on s_laws_alive ?_
    simp
  | some x =>
    obtain ⟨hf, hs, hh⟩ := firstHas_sol hx
    obtain ⟨hr, hd, hy, ho⟩ := fair_parts hf
    obtain ⟨hf2, _⟩ := solved_parts hs
    obtain ⟨_, _, hy2, _⟩ := fair_parts hf2
    have l1 := lays_len hy
    have l2 := lays_len hy2
    have e1 : solL W T cs ds ls = x := by simp [solL, hx]
    have e2 : solB W T cs ds ls = true := by simp [solB, hx]
    have four := s_impl_SolvedOk W T cs ds x (by omega) (by omega) (by omega)
    have five := s_laws_hasAll x ls (by omega)
    rw [hs] at four
    simp [hh, show x.length = ls.length by omega] at five
    simp [c_laws_FnSolveFirst_T0, e1, e2]
    refine call_on four ?_
    simp
    refine call_on five ?_
    simp
    refine call_on s_laws_alive ?_
    simp

theorem l_FnSolveFirst (bs : List Int) (hB : Byt bs) : SoundAt Try.prog n_laws_FnSolveFirst [.sl 0 1 (u8s bs)] (.v (.bool true)) [.bot] := by
  refine fn_ok (md := md5) (ms := [false]) k_laws_FnSolveFirst (by simp) ?_
  simp [c_laws_FnSolveFirst]
  refine fun hsz => ?_
  have hb : bs.length ≤ 2 ^ 60 := by omega
  refine call_onK (s_spec_DrawSolveFirst bs hb hB) [] (by simp) (by simp) (by simp) ?_
  rintro _ _ ⟨W, T, cs, ds, ls, rfl, hcs, hds, hls, rfl⟩
  have one := s_impl_SolveFirstU W T cs ds ls (by omega) (by omega) (by omega)
  have two := s_spec_SolveFirstU W T cs ds ls (by omega) (by omega) (by omega)
  have hsl := solL_length W T cs ds ls
  simp [regA]
  refine call_on one ?_
  simp
  refine call_on two ?_
  simp
  refine call_on (s_laws_sameInts (solL W T cs ds ls) (solL W T cs ds ls) (by omega)) ?_
  simp
  refine call_on (s_impl_SolutionsAllF W T cs ds (by omega) (by omega)) ?_
  simp
  refine ⟨fun hn => ?_, fun _ => sf_T0 hcs hds hls⟩
  cases hp : solsI W T cs ds with
  | nil => rw [hp] at hn; simp at hn
  | cons p ps =>
    have hp1 : solvedB W T cs ds p = true := mem_sols.1 (by rw [hp]; simp)
    obtain ⟨hf2, _⟩ := solved_parts hp1
    obtain ⟨hr, _, hy2, _⟩ := fair_parts hf2
    have l2 := lays_len hy2
    have three := s_impl_LaidBare W T cs (by omega)
    have four := s_impl_SolveFirst W T cs ds (noneL cs) (by omega) (by omega) (by simp [noneL]; omega)
    rw [firstHas_bare hp] at four
    have hpt : pti (p :: ps) 0 = p := by simp [pti]
    simp [hr] at three
    simp [resO] at four
    simp
    (repeat' first | omega | apply And.intro) <;>
    · refine call_on three ?_
      simp
      (repeat' first | omega | apply And.intro) <;>
      · refine call_on four ?_
        simp
        refine call_on (s_laws_sameInts p p (by omega)) ?_
        simp [hpt]
        exact sf_T0 hcs hds hls
end Go.Proofs.Dev
