/- Contracts of the functions of the program over slots and rows, each proved against the program itself; no condition beyond those that each theorem names. -/
import Derived.Test.YtlcoaglnegibkaaGreatAD
import Derived.Test.YtlcoaglnegibkaaGreatBJ
import Derived.Test.YtlcoaglnegibkaaGreatBC

set_option linter.unusedSimpArgs false
set_option linter.unusedVariables false

namespace Go.Proofs.Dev
set_option linter.unusedSimpArgs false
set_option maxRecDepth 100000

def solL (W T : Int) (cs : List Bool) (ds ls : List Int) : List Int := (firstHas W T cs ds ls).getD []
def solB (W T : Int) (cs : List Bool) (ds ls : List Int) : Bool := (firstHas W T cs ds ls).isSome

theorem s_impl_SolveFirstU (W T : Int) (cs : List Bool) (ds ls : List Int) (hb : cs.length < 2 ^ 40) (hd : ds.length < 2 ^ 40) (hl : ls.length < 2 ^ 40) :
    SoundAt Tryz.prog n_impl_SolveFirst [.agg [.v (.int .i64 W), .v (.int .i64 T), .sl 1 1 (bools cs)], .sl 1 1 (ints ds), .sl 1 1 (ints ls)] (.tup [.os 1 (ints (solL W T cs ds ls)), .v (.bool (solB W T cs ds ls))]) [.bot, .bot, .bot] := by
  have h := s_impl_SolveFirst W T cs ds ls hb hd hl
  cases hx : firstHas W T cs ds ls with
  | none => rw [hx] at h; simp only [solL, solB, hx]; exact h
  | some x => rw [hx] at h; simp only [solL, solB, hx]; exact h

theorem solL_length (W T : Int) (cs : List Bool) (ds ls : List Int) : (solL W T cs ds ls).length ≤ cs.length := by
  unfold solL
  cases hx : firstHas W T cs ds ls with
  | none => simp
  | some x => have := (firstHas_some hx).2; simp [this]

end Go.Proofs.Dev

namespace Go.Proofs.Dev
set_option linter.unusedSimpArgs false
set_option maxRecDepth 100000

theorem s_impl_SolutionsAllF (W T : Int) (cs : List Bool) (ds : List Int) (hb : cs.length < 2 ^ 40) (hd : ds.length < 2 ^ 40) :
    SoundAt Tryz.prog n_impl_SolutionsAll [.agg [.v (.int .i64 W), .v (.int .i64 T), .sl 1 1 (bools cs)], .sl 1 1 (ints ds)] (.sl 0 1 (sls 0 (solsI W T cs ds))) [.bot, .bot] := by
  have h := SoundAt.frozen (n := 2) (fun C S us hr => noOL_ok _ S us rfl hr) (s_impl_SolutionsAll W T cs ds hb hd)
  simpa [vw] using h

theorem force_facts (W T : Int) (cs : List Bool) (ds ls : List Int) :
    ∃ (xs : List Int) (b f : Bool), forceL W T cs ds ls = xs ∧ forceB W T cs ds ls = b ∧ fairB W T cs ds ls = f ∧ xs.length ≤ ls.length ∧
      ((b = false ∧ (f = false ∨ xs = ls)) ∨
       (b = true ∧ fairB W T cs ds xs = true ∧ xs.length = ls.length ∧ hasB ls xs = true ∧ domN xs = domN ls + 1 ∧ (regB W T cs && laysB W T cs ls) = true ∧ (regB W T cs && laysB W T cs xs) = true ∧
        ∀ p ∈ solsI W T cs ds, hasB ls p = true → hasB xs p = true)) := by
  refine ⟨_, _, _, rfl, rfl, rfl, ?_, ?_⟩
  · unfold forceL; split
    · rw [force1_length]; exact Nat.le_refl _
    · simp
  cases hf : fairB W T cs ds ls with
  | false => exact .inl ⟨by simp [forceB, hf], .inl rfl⟩
  | true =>
    obtain ⟨hr, hd, hy, ho⟩ := fair_parts hf
    have e : forceL W T cs ds ls = force1 W T cs ds ls := by simp [forceL, hf]
    rw [e]
    cases hb : force1B W T cs ds ls with
    | false =>
      refine .inl ⟨by simp [forceB, hf, hb], .inr ?_⟩
      simp only [force1B, decide_eq_false_iff_not, Decidable.not_not] at hb
      rw [force1, if_pos hb]
    | true =>
      have hf2 := force1_fair hf
      obtain ⟨_, _, hy2, _⟩ := fair_parts hf2
      exact .inr ⟨by simp [forceB, hf, hb], hf2, force1_length .., force1_has hr (lays_len hy), force1_domN hr (lays_len hy) hb, by rw [hr, hy]; rfl, by rw [hr, hy2]; rfl, fun p hp hs => force1_sol hy (mem_sols.1 hp) hs⟩

theorem l_FnForceOne (bs : List Int) (hB : Byt bs) : SoundAt Tryz.prog n_laws_FnForceOne [.sl 0 1 (u8s bs)] (.v (.bool true)) [.bot] := by
  refine fn_ok (md := md5) (ms := [false]) k_laws_FnForceOne (by simp) ?_
  simp [c_laws_FnForceOne]
  refine fun hsz => ?_
  have hb : bs.length ≤ 2 ^ 60 := by omega
  refine call_onK (s_spec_DrawForceOne bs hb hB) [] (by simp) (by simp) (by simp) ?_
  rintro _ _ ⟨W, T, cs, ds, ls, rfl, hcs, hds, hls, rfl⟩
  have one := s_impl_ForceOne W T cs ds ls (by omega) (by omega) (by omega)
  have two := s_spec_ForceOne W T cs ds ls (by omega) (by omega) (by omega)
  have fairL := s_impl_FairOk W T cs ds ls (by omega) (by omega) (by omega)
  obtain ⟨xs, b, f, h1, h2, h3, h4, h5⟩ := force_facts W T cs ds ls
  rw [h1, h2] at one two
  rw [h3] at fairL
  have same := s_laws_sameInts xs xs (by omega)
  simp only [decide_true] at same
  rcases h5 with ⟨rfl, h5⟩ | ⟨rfl, h5, h6, h7, h8, h9, h10, h11⟩
  · have same2 := s_laws_sameInts xs ls (by omega)
    simp [regA]
    refine call_on one ?_
    simp
    refine call_on two ?_
    simp
    refine call_on same ?_
    simp
    refine call_on same2 ?_
    by_cases hx : xs = ls
    · simp [hx]
      refine call_on s_laws_alive ?_
      simp
    · rcases h5 with h5 | h5
      · rw [h5] at fairL
        simp [hx]
        refine call_on fairL ?_
        simp
        refine call_on s_laws_alive ?_
        simp
      · exact absurd h5 hx
  · have sols := s_impl_SolutionsAllF W T cs ds (by omega) (by omega)
    have hsl := sols_length (W := W) (T := T) (cs := cs) (ds := ds)
    have hlen : ∀ p ∈ solsI W T cs ds, p.length = cs.length := fun p hp => sols_len hp
    have hlc : ls.length = cs.length := by simp only [Bool.and_eq_true] at h9; exact lays_len h9.2
    have fairX := s_impl_FairOk W T cs ds xs (by omega) (by omega) (by omega)
    rw [h5] at fairX
    have hasX := s_laws_hasAll xs ls (by omega)
    simp [h6, h7] at hasX
    have manyL := s_impl_LaidMany W T cs ls (by omega) (by omega)
    have manyX := s_impl_LaidMany W T cs xs (by omega) (by omega)
    rw [if_pos h9] at manyL
    rw [if_pos h10] at manyX
    rw [h8] at manyX
    have hdn : domN ls ≤ 2 ^ 40 := by have := domN_le ls; omega
    generalize domN ls = N at *
    generalize solsI W T cs ds = ss at *
    simp [regA]
    refine call_on one ?_
    simp
    refine call_on two ?_
    simp
    refine call_on same ?_
    simp
    refine call_on sols ?_
    simp
    refine loop_by (fun m E H => ∃ i : Nat, m = ss.length - i ∧ i ≤ ss.length ∧ E = [(3, .lp 0 0 0 0), (4, .ls 1 1 0 ds.length), (5, .ls 1 2 0 ls.length), (6, .ls 1 3 0 xs.length), (10, .sl 0 1 (sls 0 ss)), (11, .v (.int .i64 i))] ∧ H = [some (.box [.v (.int .i64 W), .v (.int .i64 T), .ls 1 4 0 cs.length]), some (.arr 1 (ints ds)), some (.arr 1 (ints ls)), some (.arr 1 (ints xs)), some (.arr 1 (bools cs))]) ss.length ⟨0, by simp⟩ ?_
    rintro J hJ m E H ⟨i, rfl, hi, rfl, rfl⟩
    by_cases h : i < ss.length
    · have hin : pti ss i ∈ ss := by rw [pti_get h]; exact List.getElem_mem h
      have hpl := hlen _ hin
      have a1 := s_laws_hasAll (pti ss i) ls (by omega)
      have a2 := s_laws_hasAll (pti ss i) xs (by omega)
      simp [show (pti ss i).length = ls.length by omega] at a1
      simp [show (pti ss i).length = xs.length by omega] at a2
      cases hh : hasB ls (pti ss i) with
      | false =>
        rw [hh] at a1
        simp [c_laws_FnForceOne_L0, h]
        refine call_on a1 ?_
        simp
        exact ⟨by omega, _, by omega, hJ _ _ _ ⟨i + 1, rfl, h, by simp, rfl⟩⟩
      | true =>
        rw [hh] at a1
        rw [h11 _ hin hh] at a2
        simp [c_laws_FnForceOne_L0, h]
        refine call_on a1 ?_
        simp [h]
        refine call_on a2 ?_
        simp
        exact ⟨by omega, _, by omega, hJ _ _ _ ⟨i + 1, rfl, h, by simp, rfl⟩⟩
    · have : i = ss.length := by omega
      subst this
      simp [c_laws_FnForceOne_L0]
      refine call_on fairX ?_
      simp
      refine call_on hasX ?_
      simp
      (repeat' first | omega | apply And.intro) <;>
      · refine call_on manyX ?_
        simp
        (repeat' first | omega | apply And.intro) <;>
        · refine call_on manyL ?_
          simp
          omega
end Go.Proofs.Dev
