/- Contracts of the functions of the program over slots and rows, each proved against the program itself; no condition beyond those that each theorem names. -/
import Derived.Test.YtlcoaglnegibkaaBJ
import Derived.Test.YtlcoaglnegibkaaBC
import Derived.Test.YtlcoaglnegibkaaBK
import Derived.Test.YtlcoaglnegibkaaAP

set_option linter.unusedSimpArgs false
set_option linter.unusedVariables false

namespace Go.Proofs.Dev
set_option linter.unusedSimpArgs false
set_option maxRecDepth 100000

def onceTo (xs : List Int) (n : Nat) : Bool := allB n fun k => !decide (ati xs k ∈ xs.take k)
theorem onceTo_all (xs : List Int) : onceTo xs xs.length = onceB xs := by
  suffices h : ∀ n, n ≤ xs.length → (onceTo xs n = true ↔ (xs.take n).Nodup) by
    have := h xs.length (Nat.le_refl _)
    rw [List.take_length] at this
    unfold onceB
    cases h1 : onceTo xs xs.length <;> simp_all
  intro n
  induction n with
  | zero => simp [onceTo, allB]
  | succ n ih =>
    intro hn
    have ih := ih (by omega)
    have e : ati xs n = xs[n] := by simp [ati, show n < xs.length by omega]
    unfold onceTo at *
    rw [allB_succ, List.take_succ_eq_append_getElem (by omega), List.nodup_append]
    simp only [Bool.and_eq_true, ih, e]
    constructor
    · rintro ⟨h1, h2⟩
      refine ⟨h1, by simp, ?_⟩
      intro a ha b hb
      simp at hb h2
      subst hb
      intro hab; subst hab
      exact h2 ha
    · rintro ⟨h1, _, h2⟩
      refine ⟨h1, ?_⟩
      simp
      intro hm
      exact h2 _ hm _ (by simp) rfl

theorem l_FnPairsOf (bs : List Int) (hB : Byt bs) : SoundAt Try.prog n_laws_FnPairsOf [.sl 0 1 (u8s bs)] (.v (.bool true)) [.bot] := by
  refine fn_ok (md := md5) (ms := [false]) k_laws_FnPairsOf (by simp) ?_
  simp [c_laws_FnPairsOf]
  refine fun hsz => ?_
  have hb : bs.length ≤ 2 ^ 60 := by omega
  refine call_onK (s_spec_DrawPairsOf bs hb hB) [] (by simp) (by simp) (by simp) ?_
  rintro _ _ ⟨W, T, cs, ds, ls, rfl, hcs, hds, hls, rfl⟩
  have one := s_impl_PairsOf W T cs ds ls (by omega) (by omega) (by omega)
  have two := s_spec_PairsOf W T cs ds ls (by omega) (by omega) (by omega)
  have hpl : (if okB W T cs ds ls then pairsI W T ds ls else []).length ≤ ls.length := by
    split
    · rw [pairs_domN]; exact domN_le ls
    · simp
  cases hv : okB W T cs ds ls with
  | false =>
    simp [hv] at one two
    simp [regA]
    refine call_on one ?_
    simp
    refine call_on two ?_
    simp
    refine call_on (s_laws_sameInts [] [] (by simp)) ?_
    simp
    have three := s_spec_PuzzleValid W T cs ds (by omega) (by omega)
    have four := s_spec_LaidOk W T cs ls (by omega) (by omega)
    cases hp : (regB W T cs && digsB cs ds) with
    | false =>
      rw [hp] at three
      refine call_on three ?_
      simp
      refine call_on s_laws_alive ?_
      simp
    | true =>
      have hy : (regB W T cs && laysB W T cs ls) = false := by
        simp [okB] at hv hp ⊢
        exact fun h => by rw [hv hp.1 hp.2]
      rw [hp] at three
      rw [hy] at four
      refine call_on three ?_
      simp
      refine call_on four ?_
      simp
      refine call_on s_laws_alive ?_
      simp
  | true =>
    simp [hv] at one two hpl
    simp [okB] at hv
    obtain ⟨hr, hd, hy⟩ := hv
    have three := s_spec_PuzzleValid W T cs ds (by omega) (by omega)
    have four := s_spec_LaidOk W T cs ls (by omega) (by omega)
    rw [hr, hd] at three
    rw [hr, hy] at four
    simp [regA]
    refine call_on one ?_
    simp
    refine call_on two ?_
    simp
    refine call_on (s_laws_sameInts (pairsI W T ds ls) (pairsI W T ds ls) (by omega)) ?_
    simp
    refine call_on three ?_
    simp
    refine call_on four ?_
    simp
    have five := s_impl_LaidMany W T cs ls (by omega) (by omega)
    have six := s_impl_FairOk W T cs ds ls (by omega) (by omega) (by omega)
    rw [show fairB W T cs ds ls = onceB (pairsI W T ds ls) by simp [fairB, okB, hr, hd, hy]] at six
    simp [hr, hy] at five
    rw [← pairs_domN W T ds ls] at five
    generalize pairsI W T ds ls = ps at *
    refine loop_by (fun m E H => ∃ i : Nat, m = ps.length - i ∧ i ≤ ps.length ∧ E = [(3, .lp 0 0 0 0), (4, .ls 1 1 0 ds.length), (5, .ls 1 2 0 ls.length), (6, .ls 1 3 0 ps.length), (7, .v (.bool (onceTo ps i))), (8, .v (.int .i64 i))] ∧ H = [some (.box [.v (.int .i64 W), .v (.int .i64 T), .ls 1 4 0 cs.length]), some (.arr 1 (ints ds)), some (.arr 1 (ints ls)), some (.arr 1 (ints ps)), some (.arr 1 (bools cs))]) ps.length ⟨0, by simp [onceTo, allB]⟩ ?_
    rintro J hJ m E H ⟨i, rfl, hi, rfl, rfl⟩
    by_cases h : i < ps.length
    · have step : onceTo ps (i + 1) = (onceTo ps i && !decide (ati ps i ∈ ps.take i)) := by simp [onceTo, allB_succ]
      have seven := s_laws_hasInt (ps.take i) (ati ps i) (by simp; omega)
      have hti : (ints ps).take i = ints (ps.take i) := take_ints i ps
      cases ho : onceTo ps i with
      | false =>
        simp [c_laws_FnPairsOf_L0, h]
        exact ⟨by omega, _, by omega, hJ _ _ _ ⟨i + 1, rfl, h, by simp [step, ho], by simp⟩⟩
      | true =>
        simp [c_laws_FnPairsOf_L0, h]
        refine ⟨by omega, call_on seven ?_⟩
        simp [hti, hi]
        exact ⟨by omega, _, by omega, hJ _ _ _ ⟨i + 1, rfl, h, by simp [step, ho], by simp⟩⟩
    · have : i = ps.length := by omega
      subst this
      simp [c_laws_FnPairsOf_L0, onceTo_all]
      refine call_on five ?_
      simp
      refine call_on six ?_
      simp
end Go.Proofs.Dev
