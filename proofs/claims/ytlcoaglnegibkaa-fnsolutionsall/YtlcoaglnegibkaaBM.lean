/- Contracts of the functions of the program over slots and rows, each proved against the program itself; no condition beyond those that each theorem names. -/
import Derived.Test.YtlcoaglnegibkaaAD
import Derived.Test.YtlcoaglnegibkaaBJ
import Derived.Test.YtlcoaglnegibkaaBC
import Derived.Test.YtlcoaglnegibkaaBK
import Derived.Test.YtlcoaglnegibkaaAP

set_option linter.unusedSimpArgs false
set_option linter.unusedVariables false

namespace Go.Proofs.Dev
set_option linter.unusedSimpArgs false
set_option maxRecDepth 100000

theorem SoundAt.none0 {P : Program} {f n : Nat} {avs : List AV} {x : Value} (h : SoundAt P f avs (.tup [.os 1 [], .v x]) (List.replicate n .bot)) : SoundAt P f avs (.tup [.sl 0 1 [], .v x]) (List.replicate n .bot) := by
  intro w forb us S hr hnd hsz hforb
  refine Calls.mono (h w forb us S hr hnd hsz hforb) ?_
  rintro e w' ⟨v, S', he, hv, hnd', hmem, hk⟩
  rw [RL] at hv
  obtain ⟨S1, S2, u, us', rfl, hu, h1, h2⟩ := hv
  cases hu
  obtain ⟨rfl, h4⟩ := RL_bots n h2
  refine ⟨v, [], he, ?_, List.nodup_nil, by simp, hk⟩
  rw [RL]
  refine ⟨[], [], v, us, rfl, rfl, ?_, h4 _⟩
  rw [R] at h1 ⊢
  obtain ⟨vs, hvs, h1⟩ := h1
  refine ⟨vs, hvs, ?_⟩
  rw [RL] at h1 ⊢
  obtain ⟨A1, A2, u1, us1, _, rfl, a1, a2⟩ := h1
  rw [RL] at a2
  obtain ⟨A3, A4, u2, us2, _, rfl, a3, a4⟩ := a2
  rw [RL] at a4
  obtain ⟨_, rfl⟩ := a4
  refine ⟨[], [], u1, [u2], rfl, rfl, ?_, ?_⟩
  · rw [R] at a1
    obtain ⟨a, cap, h5, h6, _⟩ := a1
    show R (cout w' [] forb) (.sl 0 1 []) [] u1
    rw [R]
    exact ⟨rfl, a, cap, h5, h6, .inl rfl⟩
  · rw [RL]
    refine ⟨[], [], u2, [], rfl, rfl, ?_, by rw [RL]; exact ⟨rfl, rfl⟩⟩
    rw [R] at a3
    rw [R]
    exact ⟨rfl, a3.2⟩

def solL (W T : Int) (cs : List Bool) (ds ls : List Int) : List Int := (firstHas W T cs ds ls).getD []
def solB (W T : Int) (cs : List Bool) (ds ls : List Int) : Bool := (firstHas W T cs ds ls).isSome

theorem s_spec_SolveFirstU (W T : Int) (cs : List Bool) (ds ls : List Int) (hb : cs.length < 2 ^ 40) (hd : ds.length < 2 ^ 40) (hl : ls.length < 2 ^ 40) :
    SoundAt Try.prog n_spec_SolveFirst [.agg [.v (.int .i64 W), .v (.int .i64 T), .sl 1 1 (bools cs)], .sl 1 1 (ints ds), .sl 1 1 (ints ls)] (.tup [.sl 0 1 (ints (solL W T cs ds ls)), .v (.bool (solB W T cs ds ls))]) [.bot, .bot, .bot] := by
  have h := s_spec_SolveFirst W T cs ds ls hb hd hl
  cases hx : firstHas W T cs ds ls with
  | none =>
    rw [hx] at h
    simp only [solL, solB, hx]
    exact SoundAt.none0 (n := 3) h
  | some x =>
    rw [hx] at h
    simp only [solL, solB, hx]
    exact h

theorem s_impl_SolveFirstU (W T : Int) (cs : List Bool) (ds ls : List Int) (hb : cs.length < 2 ^ 40) (hd : ds.length < 2 ^ 40) (hl : ls.length < 2 ^ 40) :
    SoundAt Try.prog n_impl_SolveFirst [.agg [.v (.int .i64 W), .v (.int .i64 T), .sl 1 1 (bools cs)], .sl 1 1 (ints ds), .sl 1 1 (ints ls)] (.tup [.os 1 (ints (solL W T cs ds ls)), .v (.bool (solB W T cs ds ls))]) [.bot, .bot, .bot] := by
  have h := s_impl_SolveFirst W T cs ds ls hb hd hl
  cases hx : firstHas W T cs ds ls with
  | none => rw [hx] at h; simp only [solL, solB, hx]; exact h
  | some x => rw [hx] at h; simp only [solL, solB, hx]; exact h

theorem solL_length (W T : Int) (cs : List Bool) (ds ls : List Int) : (solL W T cs ds ls).length ≤ cs.length := by
  unfold solL
  cases hx : firstHas W T cs ds ls with
  | none => simp
  | some x => have := (firstHas_some hx).2; simp [this]

end Go.Proofs.Dev

namespace Go.Proofs.Dev
set_option linter.unusedSimpArgs false
set_option maxRecDepth 100000

theorem dead_sol {W T : Int} {cs : List Bool} {ds ls : List Int} (h : deadB W T cs ds ls = true) : solB W T cs ds ls = false := by
  unfold solB; rw [firstHas_none (dead_none h)]; rfl
theorem dead_solved {W T : Int} {cs : List Bool} {ds ls : List Int} (h : deadB W T cs ds ls = true) : solvedB W T cs ds ls = false := by
  cases hs : solvedB W T cs ds ls with
  | false => rfl
  | true => rw [solved_dead hs] at h; cases h

theorem l_FnDead (bs : List Int) (hB : Byt bs) : SoundAt Try.prog n_laws_FnDead [.sl 0 1 (u8s bs)] (.v (.bool true)) [.bot] := by
  refine fn_ok (md := md5) (ms := [false]) k_laws_FnDead (by simp) ?_
  simp [c_laws_FnDead]
  refine fun hsz => ?_
  have hb : bs.length ≤ 2 ^ 60 := by omega
  refine call_onK (s_spec_DrawDead bs hb hB) [] (by simp) (by simp) (by simp) ?_
  rintro _ _ ⟨W, T, cs, ds, ls, rfl, hcs, hds, hls, rfl⟩
  have one := s_impl_Dead W T cs ds ls (by omega) (by omega) (by omega)
  have two := s_spec_Dead W T cs ds ls (by omega) (by omega) (by omega)
  have three := s_impl_SolveFirstU W T cs ds ls (by omega) (by omega) (by omega)
  have four := s_impl_SolvedOk W T cs ds ls (by omega) (by omega) (by omega)
  have hsl := solL_length W T cs ds ls
  cases hv : deadB W T cs ds ls with
  | false =>
    rw [hv] at one two
    simp [regA]
    refine call_on one ?_
    simp
    refine call_on two ?_
    simp
    refine call_on three ?_
    simp
    refine call_on s_laws_alive ?_
    simp
  | true =>
    rw [dead_sol hv] at three
    rw [dead_solved hv] at four
    rw [hv] at one two
    simp [regA]
    refine call_on one ?_
    simp
    refine call_on two ?_
    simp
    refine call_on three ?_
    simp
    refine call_on four ?_
    simp
    refine call_on s_laws_alive ?_
    simp

theorem fair_liftR {W T : Int} {cs : List Bool} {ds ls : List Int} {k : Nat} (h : fairB W T cs ds ls = true) (hk : k < ls.length) : fairB W T cs ds (liftR W T cs ls k) = true := by
  obtain ⟨hr, hd, hy, ho⟩ := fair_parts h
  unfold liftR
  simp only [hr, hy, Bool.and_true, if_true]
  split
  · rename_i hh
    refine fair_lift h hk ?_
    simp [liftHas] at hh
    omega
  · exact h
theorem liftR_length {W T : Int} {cs : List Bool} {ls : List Int} (k : Int) : (liftR W T cs ls k).length ≤ ls.length := by
  unfold liftR
  split <;> try split
  all_goals simp [liftI_length]

theorem l_FnFairOk (bs : List Int) (hB : Byt bs) : SoundAt Try.prog n_laws_FnFairOk [.sl 0 1 (u8s bs)] (.v (.bool true)) [.bot] := by
  refine fn_ok (md := md5) (ms := [false]) k_laws_FnFairOk (by simp) ?_
  simp [c_laws_FnFairOk]
  refine fun hsz => ?_
  have hb : bs.length ≤ 2 ^ 60 := by omega
  refine call_onK (s_spec_DrawFairOk bs hb hB) [] (by simp) (by simp) (by simp) ?_
  rintro _ _ ⟨W, T, cs, ds, ls, rfl, hcs, hds, hls, rfl⟩
  simp [regA]
  refine call_on (s_impl_FairOk W T cs ds ls (by omega) (by omega) (by omega)) ?_
  simp
  refine call_on (s_spec_FairOk W T cs ds ls (by omega) (by omega) (by omega)) ?_
  simp
  refine loop_by (fun m E H => ∃ i : Nat, m = ls.length - i ∧ i ≤ ls.length ∧ E = [(3, .lp 0 0 0 0), (4, .ls 1 1 0 ds.length), (5, .ls 1 2 0 ls.length), (6, .v (.bool (fairB W T cs ds ls))), (7, .v (.int .i64 i))] ∧ H = [some (.box [.v (.int .i64 W), .v (.int .i64 T), .ls 1 3 0 cs.length]), some (.arr 1 (ints ds)), some (.arr 1 (ints ls)), some (.arr 1 (bools cs))]) ls.length ⟨0, by simp⟩ ?_
  rintro J hJ m E H ⟨i, rfl, hi, rfl, rfl⟩
  cases hf : fairB W T cs ds ls with
  | false =>
    simp [c_laws_FnFairOk_L0]
    (repeat' first | omega | apply And.intro | intro _) <;>
    · refine call_on s_laws_alive ?_
      simp
  | true =>
  obtain ⟨hr, hd, hy, ho⟩ := fair_parts hf
  by_cases h : i < ls.length
  · have hl2 := liftR_length (W := W) (T := T) (cs := cs) (ls := ls) i
    have one := s_impl_FairOk W T cs ds (liftR W T cs ls i) (by omega) (by omega) (by omega)
    rw [fair_liftR hf h] at one
    simp [c_laws_FnFairOk_L0, h]
    refine call_on (s_impl_LiftOne W T cs ls i (by omega) (by omega)) ?_
    simp
    refine call_on one ?_
    simp
    exact ⟨by omega, _, by omega, hJ _ _ _ ⟨i + 1, rfl, h, by simp [hf], by simp⟩⟩
  · have : i = ls.length := by omega
    subst this
    have one := s_impl_LaidMany W T cs ls (by omega) (by omega)
    have h28 := fair_28 hf
    simp [hr, hy] at one
    simp [c_laws_FnFairOk_L0]
    refine call_on one ?_
    have : (domN ls : Int) ≤ 28 := by omega
    simp [this]
    refine call_on s_laws_alive ?_
    simp
end Go.Proofs.Dev
