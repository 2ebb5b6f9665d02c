/- Contracts of the functions of the program over slots and rows, each proved against the program itself; no condition beyond those that each theorem names. -/
import Derived.Test.YtlcoaglnegibkaaBQ
import Derived.Test.YtlcoaglnegibkaaBN

set_option linter.unusedSimpArgs false
set_option linter.unusedVariables false

namespace Go.Proofs.Dev
set_option linter.unusedSimpArgs false
set_option maxRecDepth 100000

def memTo (ss : List (List Int)) (ls : List Int) (n : Nat) : Bool := decide (ls ∈ ss.take n)
theorem memTo_succ (ss : List (List Int)) (ls : List Int) {n : Nat} (h : n < ss.length) : memTo ss ls (n + 1) = (memTo ss ls n || decide (pti ss n = ls)) := by
  unfold memTo
  have e : (ls ∈ ss.take (n + 1)) ↔ (ls ∈ ss.take n ∨ pti ss n = ls) := by
    rw [List.take_succ_eq_append_getElem h, pti_get h, List.mem_append, List.mem_singleton]
    exact ⟨fun h => h.imp id Eq.symm, fun h => h.imp id Eq.symm⟩
  rw [decide_eq_decide.2 e, Bool.decide_or]
theorem memTo_all (ss : List (List Int)) (ls : List Int) : memTo ss ls ss.length = decide (ls ∈ ss) := by unfold memTo; rw [List.take_length]

theorem l_FnSolvedOk (bs : List Int) (hB : Byt bs) : SoundAt Try.prog n_laws_FnSolvedOk [.sl 0 1 (u8s bs)] (.v (.bool true)) [.bot] := by
  refine fn_ok (md := md5) (ms := [false]) k_laws_FnSolvedOk (by simp) ?_
  simp [c_laws_FnSolvedOk]
  refine fun hsz => ?_
  have hb : bs.length ≤ 2 ^ 60 := by omega
  refine call_onK (s_spec_DrawSolvedOk bs hb hB) [] (by simp) (by simp) (by simp) ?_
  rintro _ _ ⟨W, T, cs, ds, ls, v, rfl, hcs, hds, hls, rfl⟩
  have one := s_impl_SolvedOk W T cs ds ls (by omega) (by omega) (by omega)
  have two := s_spec_SolvedOk W T cs ds ls (by omega) (by omega) (by omega)
  have three := s_impl_SolutionsAllF W T cs ds (by omega) (by omega)
  have hmem : decide (ls ∈ solsI W T cs ds) = solvedB W T cs ds ls := by
    cases h : solvedB W T cs ds ls with
    | true => exact decide_eq_true (mem_sols.2 h)
    | false => exact decide_eq_false fun h2 => by rw [mem_sols.1 h2] at h; cases h
  have hlen : ∀ p ∈ solsI W T cs ds, p.length = cs.length := fun p hp => lays_len (fair_parts (solved_parts (mem_sols.1 hp)).1).2.2.1
  have hsl := sols_length (W := W) (T := T) (cs := cs) (ds := ds)
  generalize solsI W T cs ds = ss at *
  generalize solvedB W T cs ds ls = ok at *
  cases v with
  | false =>
    simp [regA, lstA]
    refine call_on one ?_
    simp
    refine call_on two ?_
    simp
    refine call_on three ?_
    simp
    refine loop_by (fun m E H => ∃ i : Nat, m = ss.length - i ∧ i ≤ ss.length ∧ E = [(5, .ls 1 0 0 ls.length), (6, .v (.bool ok)), (7, .sl 0 1 (sls 0 ss)), (8, .v (.bool (memTo ss ls i))), (9, .v (.int .i64 i))] ∧ H = [some (.arr 1 (ints ls))]) ss.length ⟨0, by simp [memTo]⟩ ?_
    rintro J hJ m E H ⟨i, rfl, hi, rfl, rfl⟩
    by_cases h : i < ss.length
    · have four := s_laws_sameInts (pti ss i) ls (by rw [pti_get h, hlen _ (List.getElem_mem h)]; omega)
      have st := memTo_succ ss ls h
      cases ho : memTo ss ls i with
      | true =>
        simp [c_laws_FnSolvedOk_L0, h]
        exact ⟨by omega, _, by omega, hJ _ _ _ ⟨i + 1, rfl, h, by simp [st, ho], rfl⟩⟩
      | false =>
        simp [c_laws_FnSolvedOk_L0, h]
        refine call_on four ?_
        simp
        exact ⟨by omega, _, by omega, hJ _ _ _ ⟨i + 1, rfl, h, by simp [st, ho], rfl⟩⟩
    · have : i = ss.length := by omega
      subst this
      simp [c_laws_FnSolvedOk_L0, memTo_all, hmem]
      refine call_on s_laws_alive ?_
      simp
  | true =>
    simp [regA, lstA]
    refine call_on one ?_
    simp
    refine call_on two ?_
    simp
    refine call_on three ?_
    simp
    refine loop_by (fun m E H => ∃ i : Nat, m = ss.length - i ∧ i ≤ ss.length ∧ E = [(5, .sl 0 1 (ints ls)), (6, .v (.bool ok)), (7, .sl 0 1 (sls 0 ss)), (8, .v (.bool (memTo ss ls i))), (9, .v (.int .i64 i))] ∧ H = []) ss.length ⟨0, by simp [memTo]⟩ ?_
    rintro J hJ m E H ⟨i, rfl, hi, rfl, rfl⟩
    by_cases h : i < ss.length
    · have four := s_laws_sameInts (pti ss i) ls (by rw [pti_get h, hlen _ (List.getElem_mem h)]; omega)
      have st := memTo_succ ss ls h
      cases ho : memTo ss ls i with
      | true =>
        simp [c_laws_FnSolvedOk_L0, h]
        exact ⟨by omega, _, by omega, hJ _ _ _ ⟨i + 1, rfl, h, by simp [st, ho], rfl⟩⟩
      | false =>
        simp [c_laws_FnSolvedOk_L0, h]
        refine call_on four ?_
        simp
        exact ⟨by omega, _, by omega, hJ _ _ _ ⟨i + 1, rfl, h, by simp [st, ho], rfl⟩⟩
    · have : i = ss.length := by omega
      subst this
      simp [c_laws_FnSolvedOk_L0, memTo_all, hmem]
      refine call_on s_laws_alive ?_
      simp
end Go.Proofs.Dev
