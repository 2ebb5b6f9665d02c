/- Contracts of the functions of the program over slots and rows, each proved against the program itself; no condition beyond those that each theorem names. -/
import Derived.Test.YtfeaicblocbapaaGreatAE

set_option linter.unusedSimpArgs false
set_option linter.unusedVariables false

namespace Go.Proofs.Dev
set_option linter.unusedSimpArgs false
set_option maxRecDepth 100000

theorem SoundAt.none0 {P : Program} {f n : Nat} {avs : List AV} {x : Value} (h : SoundAt P f avs (.tup [.os 1 [], .v x]) (List.replicate n .bot)) : SoundAt P f avs (.tup [.sl 0 1 [], .v x]) (List.replicate n .bot) := by
  intro w forb us S hr hnd hsz hforb
  refine Calls.mono (h w forb us S hr hnd hsz hforb) ?_
  rintro e w' ⟨v, S', he, hv, hnd', hmem, hk⟩
  rw [RL] at hv
  obtain ⟨S1, S2, u, us', rfl, hu, h1, h2⟩ := hv
  cases hu
  obtain ⟨rfl, h4⟩ := RL_bots n h2
  refine ⟨v, [], he, ?_, List.nodup_nil, by simp, hk⟩
  rw [RL]
  refine ⟨[], [], v, us, rfl, rfl, ?_, h4 _⟩
  rw [R] at h1 ⊢
  obtain ⟨vs, hvs, h1⟩ := h1
  refine ⟨vs, hvs, ?_⟩
  rw [RL] at h1 ⊢
  obtain ⟨A1, A2, u1, us1, _, rfl, a1, a2⟩ := h1
  rw [RL] at a2
  obtain ⟨A3, A4, u2, us2, _, rfl, a3, a4⟩ := a2
  rw [RL] at a4
  obtain ⟨_, rfl⟩ := a4
  refine ⟨[], [], u1, [u2], rfl, rfl, ?_, ?_⟩
  · rw [R] at a1
    obtain ⟨a, cap, h5, h6, _⟩ := a1
    show R (cout w' [] forb) (.sl 0 1 []) [] u1
    rw [R]
    exact ⟨rfl, a, cap, h5, h6, .inl rfl⟩
  · rw [RL]
    refine ⟨[], [], u2, [], rfl, rfl, ?_, by rw [RL]; exact ⟨rfl, rfl⟩⟩
    rw [R] at a3
    rw [R]
    exact ⟨rfl, a3.2⟩

def solL (W T : Int) (cs : List Bool) (ds ls : List Int) : List Int := (firstHas W T cs ds ls).getD []
def solB (W T : Int) (cs : List Bool) (ds ls : List Int) : Bool := (firstHas W T cs ds ls).isSome

theorem s_spec_SolveFirstU (W T : Int) (cs : List Bool) (ds ls : List Int) (hb : cs.length < 2 ^ 40) (hd : ds.length < 2 ^ 40) (hl : ls.length < 2 ^ 40) :
    SoundAt Tryz.prog n_spec_SolveFirst [.agg [.v (.int .i64 W), .v (.int .i64 T), .sl 1 1 (bools cs)], .sl 1 1 (ints ds), .sl 1 1 (ints ls)] (.tup [.sl 0 1 (ints (solL W T cs ds ls)), .v (.bool (solB W T cs ds ls))]) [.bot, .bot, .bot] := by
  have h := s_spec_SolveFirst W T cs ds ls hb hd hl
  cases hx : firstHas W T cs ds ls with
  | none =>
    rw [hx] at h
    simp only [solL, solB, hx]
    exact SoundAt.none0 (n := 3) h
  | some x =>
    rw [hx] at h
    simp only [solL, solB, hx]
    exact h

theorem solL_length (W T : Int) (cs : List Bool) (ds ls : List Int) : (solL W T cs ds ls).length ≤ cs.length := by
  unfold solL
  cases hx : firstHas W T cs ds ls with
  | none => simp
  | some x => have := (firstHas_some hx).2; simp [this]

end Go.Proofs.Dev
