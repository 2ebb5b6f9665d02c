/- Contracts of the functions of the program over slots and rows, each proved against the program itself; no condition beyond those that each theorem names. -/
import Derived.Test.YtjldabnbfdgbhaaAE

set_option linter.unusedSimpArgs false
set_option linter.unusedVariables false

namespace Go.Proofs.Dev
set_option linter.unusedSimpArgs false
set_option maxRecDepth 100000

theorem SoundAt.none0 {P : Program} {f n : Nat} {avs : List AV} {x : Value} (h : SoundAt P f avs (.tup [.os 1 [], .v x]) (List.replicate n .bot)) : SoundAt P f avs (.tup [.sl 0 1 [], .v x]) (List.replicate n .bot) := by
  intro w forb us S hr hnd hsz hforb
  refine Calls.mono (h w forb us S hr hnd hsz hforb) ?_
  rintro e w' ⟨v, S', he, hv, hnd', hmem, hk⟩
  rw [RL] at hv
  obtain ⟨S1, S2, u, us', rfl, hu, h1, h2⟩ := hv
  cases hu
  obtain ⟨rfl, h4⟩ := RL_bots n h2
  refine ⟨v, [], he, ?_, List.nodup_nil, by simp, hk⟩
  rw [RL]
  refine ⟨[], [], v, us, rfl, rfl, ?_, h4 _⟩
  rw [R] at h1 ⊢
  obtain ⟨vs, hvs, h1⟩ := h1
  refine ⟨vs, hvs, ?_⟩
  rw [RL] at h1 ⊢
  obtain ⟨A1, A2, u1, us1, _, rfl, a1, a2⟩ := h1
  rw [RL] at a2
  obtain ⟨A3, A4, u2, us2, _, rfl, a3, a4⟩ := a2
  rw [RL] at a4
  obtain ⟨_, rfl⟩ := a4
  refine ⟨[], [], u1, [u2], rfl, rfl, ?_, ?_⟩
  · rw [R] at a1
    obtain ⟨a, cap, h5, h6, _⟩ := a1
    show R (cout w' [] forb) (.sl 0 1 []) [] u1
    rw [R]
    exact ⟨rfl, a, cap, h5, h6, .inl rfl⟩
  · rw [RL]
    refine ⟨[], [], u2, [], rfl, rfl, ?_, by rw [RL]; exact ⟨rfl, rfl⟩⟩
    rw [R] at a3
    rw [R]
    exact ⟨rfl, a3.2⟩

def solL (W T : Int) (cs : List Bool) (ds ls : List Int) : List Int := (firstHas W T cs ds ls).getD []
def solB (W T : Int) (cs : List Bool) (ds ls : List Int) : Bool := (firstHas W T cs ds ls).isSome

theorem s_spec_SolveFirstU (W T : Int) (cs : List Bool) (ds ls : List Int) (hb : cs.length < 2 ^ 40) (hd : ds.length < 2 ^ 40) (hl : ls.length < 2 ^ 40) :
    SoundAt Try.prog n_spec_SolveFirst [.agg [.v (.int .i64 W), .v (.int .i64 T), .sl 1 1 (bools cs)], .sl 1 1 (ints ds), .sl 1 1 (ints ls)] (.tup [.sl 0 1 (ints (solL W T cs ds ls)), .v (.bool (solB W T cs ds ls))]) [.bot, .bot, .bot] := by
  have h := s_spec_SolveFirst W T cs ds ls hb hd hl
  cases hx : firstHas W T cs ds ls with
  | none =>
    rw [hx] at h
    simp only [solL, solB, hx]
    exact SoundAt.none0 (n := 3) h
  | some x =>
    rw [hx] at h
    simp only [solL, solB, hx]
    exact h

theorem s_impl_SolveFirstU (W T : Int) (cs : List Bool) (ds ls : List Int) (hb : cs.length < 2 ^ 40) (hd : ds.length < 2 ^ 40) (hl : ls.length < 2 ^ 40) :
    SoundAt Try.prog n_impl_SolveFirst [.agg [.v (.int .i64 W), .v (.int .i64 T), .sl 1 1 (bools cs)], .sl 1 1 (ints ds), .sl 1 1 (ints ls)] (.tup [.os 1 (ints (solL W T cs ds ls)), .v (.bool (solB W T cs ds ls))]) [.bot, .bot, .bot] := by
  have h := s_impl_SolveFirst W T cs ds ls hb hd hl
  cases hx : firstHas W T cs ds ls with
  | none => rw [hx] at h; simp only [solL, solB, hx]; exact h
  | some x => rw [hx] at h; simp only [solL, solB, hx]; exact h

theorem solL_length (W T : Int) (cs : List Bool) (ds ls : List Int) : (solL W T cs ds ls).length ≤ cs.length := by
  unfold solL
  cases hx : firstHas W T cs ds ls with
  | none => simp
  | some x => have := (firstHas_some hx).2; simp [this]

theorem t_FnExactSolveFirst (W T : Int) (cs : List Bool) (ds ls res : List Int) (b : Bool) (hb : cs.length < 2 ^ 21) (hd : ds.length < 2 ^ 21) (hl : ls.length < 2 ^ 21) (hres : res = solL W T cs ds ls) (hbb : b = solB W T cs ds ls) :
    awp Try.prog md0 c_laws_FnExactSolveFirst_T0 (Fin [.t 6] 138 3 [false, false, false] (.v (.bool true)) [.bot, .bot, .bot])
      [(1, .sl 1 1 (ints ds)), (2, .sl 1 1 (ints ls)), (3, .lp 0 0 0 0), (8, .sl 0 1 (ints res)), (9, .v (.bool b)), (10, .lp 0 1 0 0), (11, .ls 1 2 0 ds.length), (12, .ls 1 3 0 ls.length), (13, .ls 1 4 0 res.length), (14, .v (.bool b))]
      [some (.box [.v (.int .i64 W), .v (.int .i64 T), .sl 1 1 (bools cs)]), some (.box [.v (.int .i64 W), .v (.int .i64 T), .ls 1 5 0 cs.length]), some (.arr 1 (ints ds)), some (.arr 1 (ints ls)), some (.arr 1 (ints res)), some (.arr 1 (bools cs))] := by
  have hrl : res.length < 2 ^ 21 := by
    have := solL_length W T cs ds ls
    rw [hres]; omega
  simp [c_laws_FnExactSolveFirst_T0]
  refine call_on (s_laws_toIntS ds (by omega)) ?_
  simp
  refine call_on (s_laws_eqIntS ds ds (by omega)) ?_
  simp
  refine call_on (s_laws_toIntS ls (by omega)) ?_
  simp
  refine call_on (s_laws_eqIntS ls ls (by omega)) ?_
  simp
  refine call_on (s_laws_markRegion W T cs 1 (by omega) (by omega) (by omega)) ?_
  simp
  refine call_on (s_laws_markIntS ds (1 + cs.length) (by omega) (by omega) (by omega)) ?_
  simp
  refine call_on (s_laws_markIntS ls (1 + cs.length + ds.length) (by omega) (by omega) (by omega)) ?_
  have hk : ¬ (1 + (cs.length : Int) + ds.length + ls.length < 0) := by omega
  simp [hk]
  refine call_on (s_laws_eqIntS res res (by omega)) ?_
  simp
  refine call_on (s_laws_markIntS res 1 (by omega) (by omega) (by omega)) ?_
  simp
  refine call_on (s_laws_heldIntS res.length 1 (by omega) (by omega) (by omega)) ?_
  have hk2 : ¬ (1 + (res.length : Int) < 0) := by omega
  simp [hk2]
  refine call_on (s_laws_toRegion W T cs (by omega)) ?_
  simp
  refine call_on (s_laws_toIntS ds (by omega)) ?_
  simp
  refine call_on (s_laws_toIntS ls (by omega)) ?_
  simp
  refine call_on (s_impl_SolveFirstU W T cs ds ls (by omega) (by omega) (by omega)) ?_
  rw [← hres, ← hbb]
  simp
  refine call_on (s_laws_eqIntS res res (by omega)) ?_
  simp
  refine call_on (s_laws_heldIntS res.length 1 (by omega) (by omega) (by omega)) ?_
  simp [hk2]

theorem s_FnExactSolveFirst (W T : Int) (cs : List Bool) (ds ls : List Int) (hb : cs.length ≤ 9223372036854775807) :
    SoundAt Try.prog n_laws_FnExactSolveFirst [.agg [.v (.int .i64 W), .v (.int .i64 T), .sl 1 1 (bools cs)], .sl 1 1 (ints ds), .sl 1 1 (ints ls)] (.v (.bool true)) [.bot, .bot, .bot] := by
  refine fn_ok (md := md0) (ms := [false, false, false]) k_laws_FnExactSolveFirst (by simp) ?_
  simp [c_laws_FnExactSolveFirst]
  intro h1 h2
  refine call_on (s_laws_szRegion W T cs 1048576 (by omega) (by omega) hb) ?_
  by_cases h3 : (1048576 : Int) < cs.length
  · simp [h3]
  simp [h3]
  intro _
  refine call_on (s_laws_toRegion W T cs (by omega)) ?_
  simp
  refine call_on (s_laws_toIntS ds (by omega)) ?_
  simp
  refine call_on (s_laws_toIntS ls (by omega)) ?_
  simp
  refine call_on (s_spec_SolveFirstU W T cs ds ls (by omega) (by omega) (by omega)) ?_
  generalize hres : solL W T cs ds ls = res
  generalize hbb : solB W T cs ds ls = b
  have hrl : res.length < 2 ^ 21 := by
    have := solL_length W T cs ds ls
    rw [← hres]; omega
  simp
  refine call_on (s_laws_toRegion W T cs (by omega)) ?_
  simp
  refine call_on (s_laws_toIntS ds (by omega)) ?_
  simp
  refine call_on (s_laws_toIntS ls (by omega)) ?_
  simp
  refine call_on (s_impl_SolveFirstU W T cs ds ls (by omega) (by omega) (by omega)) ?_
  rw [hres, hbb]
  simp
  refine call_on (s_laws_eqIntS res res (by omega)) ?_
  simp
  have tail := t_FnExactSolveFirst W T cs ds ls res b (by omega) (by omega) (by omega) hres.symm hbb.symm
  (repeat' first | assumption | apply And.intro) <;>
  · refine call_on (s_laws_toRegion W T cs (by omega)) ?_
    simp
    refine call_on (s_laws_eqRegion W T W T cs cs (by omega)) ?_
    simp
    exact tail

end Go.Proofs.Dev
