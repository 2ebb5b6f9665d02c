/- Contracts of the functions of the program over slots and rows, each proved against the program itself; no condition beyond those that each theorem names. -/
import Derived.Test.YtlcoaglnegibkaaGreatBL

set_option linter.unusedSimpArgs false
set_option linter.unusedVariables false

namespace Go.Proofs.Dev
set_option linter.unusedSimpArgs false
set_option maxRecDepth 100000

theorem hint_law (W T : Int) (cs : List Bool) (ds ls : List Int) :
    ∃ c w : Int, hint1 W T cs ds ls = c ∧ hint2 W T cs ds ls = w ∧
      ((c = -1 ∧ w = 0 ∧ (solB W T cs ds ls = false ∨ (regB W T cs && laysB W T cs ls && fullB cs ls) = true)) ∨
       ((0 ≤ c ∧ c < ls.length) ∧ solB W T cs ds ls = true ∧ layRB W T cs ls c w = true ∧ solB W T cs ds (layR W T cs ls c w) = true)) := by
  refine ⟨_, _, rfl, rfl, ?_⟩
  cases hx : firstHas W T cs ds ls with
  | none => exact .inl ⟨by simp [hint1, hx], by simp [hint2, hx], .inl (by simp [solB, hx])⟩
  | some x =>
    obtain ⟨hf, hs, hh⟩ := firstHas_sol hx
    obtain ⟨hr, hd, hy, ho⟩ := fair_parts hf
    have hl := lays_len hy
    have e1 : hint1 W T cs ds ls = hintC W T cs ds ls := by simp [hint1, hx]
    have bare : hintC W T cs ds ls = -1 ∧ bareI cs ls < 0 ∨ ∃ k : Nat, k < ls.length ∧ hintC W T cs ds ls = k ∧ atb cs k = true ∧ ati ls k = 0 := by
      unfold hintC
      rcases one_cases W T cs ds ls with h | ⟨k, hk, he, hc, hz, _⟩
      · rw [h, if_pos (by omega)]
        rcases bare_cases cs ls with h2 | ⟨k, hk, he, hc, hz⟩
        · exact .inl ⟨h2, by omega⟩
        · exact .inr ⟨k, hk, he, hc, hz⟩
      · rw [he, if_neg (by omega)]
        exact .inr ⟨k, hk, rfl, hc, hz⟩
    rcases bare with ⟨h1, h2⟩ | ⟨k, hk, h1, hc, hz⟩
    · refine .inl ⟨by rw [e1, h1], by simp [hint2, hx, h1], .inr ?_⟩
      rw [hr, hy, full_of_bare hl h2]; rfl
    · have e2 : hint2 W T cs ds ls = ati x k := by
        have : ¬ (k : Int) < 0 := by omega
        simp [hint2, hx, h1, this]
      obtain ⟨o1, o2, o3, o4⟩ := opt_of_sol hy hs hh (by omega) hc hz
      have o5 := o1
      simp only [optB, Bool.and_eq_true] at o5
      refine .inr ⟨by rw [e1, h1]; omega, by simp [solB, hx], ?_, ?_⟩
      · rw [e1, e2, h1]; simp [layRB, hr, hy, o5.1]
      · rw [e1, e2, h1]
        have e3 : layR W T cs ls k (ati x k) = layI W T ls k (ati x k) := by simp [layR, hr, hy, layOneL, o5.1]
        rw [e3]
        have hy2 := lay_ok hr hy o5.1
        exact firstHas_iff.2 ⟨fair_of hr hd hy2 o5.2, x, hs, o4⟩

theorem layR_length (W T : Int) (cs : List Bool) (ls : List Int) (cell way : Int) : (layR W T cs ls cell way).length ≤ ls.length := by
  unfold layR
  split
  · rw [layOne_length]; exact Nat.le_refl _
  · simp

theorem l_FnHintOf (bs : List Int) (hB : Byt bs) : SoundAt Tryz.prog n_laws_FnHintOf [.sl 0 1 (u8s bs)] (.v (.bool true)) [.bot] := by
  refine fn_ok (md := md5) (ms := [false]) k_laws_FnHintOf (by simp) ?_
  simp [c_laws_FnHintOf]
  refine fun hsz => ?_
  have hb : bs.length ≤ 2 ^ 60 := by omega
  refine call_onK (s_spec_DrawHintOf bs hb hB) [] (by simp) (by simp) (by simp) ?_
  rintro _ _ ⟨W, T, cs, ds, ls, rfl, hcs, hds, hls, rfl⟩
  have one := s_impl_HintOf W T cs ds ls (by omega) (by omega) (by omega)
  have two := s_spec_HintOf W T cs ds ls (by omega) (by omega) (by omega)
  have three := s_impl_SolveFirstU W T cs ds ls (by omega) (by omega) (by omega)
  have hsl := solL_length W T cs ds ls
  obtain ⟨c, w, h1, h2, h3⟩ := hint_law W T cs ds ls
  rw [h1, h2] at one two
  rcases h3 with ⟨rfl, rfl, h3⟩ | ⟨⟨h3, h3'⟩, h4, h5, h6⟩
  · have til := s_impl_TilingOk W T cs ls (by omega) (by omega)
    simp [regA]
    refine call_on one ?_
    simp
    refine call_on two ?_
    simp
    refine call_on three ?_
    rcases h3 with h3 | h3
    · rw [h3]
      simp
      refine call_on s_laws_alive ?_
      simp
    · rw [h3] at til
      cases hs : solB W T cs ds ls with
      | false =>
        simp
        refine call_on s_laws_alive ?_
        simp
      | true =>
        simp
        refine call_on til ?_
        simp
        refine call_on s_laws_alive ?_
        simp
  · have hn : ¬ c < 0 := by omega
    have lay := s_impl_LayOne W T cs ls c w (by omega) (by omega)
    rw [h5] at lay
    have hll := layR_length W T cs ls c w
    have still := s_impl_SolveFirstU W T cs ds (layR W T cs ls c w) (by omega) (by omega) (by omega)
    have hsl2 := solL_length W T cs ds (layR W T cs ls c w)
    rw [h4] at three
    rw [h6] at still
    generalize layR W T cs ls c w = zs at *
    simp [regA]
    refine call_on one ?_
    simp
    refine call_on two ?_
    simp
    refine call_on three ?_
    simp [hn]
    refine call_on lay ?_
    simp
    refine call_on still ?_
    simp
end Go.Proofs.Dev
