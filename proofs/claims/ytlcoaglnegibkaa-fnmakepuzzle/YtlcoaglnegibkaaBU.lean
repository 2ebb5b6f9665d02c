/- Contracts of the functions of the program over slots and rows, each proved against the program itself; no condition beyond those that each theorem names. -/
import Derived.Test.YtlcoaglnegibkaaBT
import Derived.Test.YtlcoaglnegibkaaBC
import Derived.Test.YtlcoaglnegibkaaBK
import Derived.Test.YtlcoaglnegibkaaAP

set_option linter.unusedSimpArgs false
set_option linter.unusedVariables false

namespace Go.Proofs.Dev
set_option linter.unusedSimpArgs false
set_option maxRecDepth 100000

theorem mk_facts (W T : Int) (cs : List Bool) (ls : List Int) (fr : Int) (hls : ls.length ≤ 38) :
    ∃ (ds : List Int) (ok : Bool), mkI W T cs ls fr = ds ∧ ds.length ≤ 38 ∧ (regB W T cs && laysB W T cs ls && fullB cs ls) = ok ∧
      ((ok = true ∧ 0 ≤ fr ∧ fr ≤ 27 ∧ regB W T cs = true ∧ digsB cs ds = true ∧ solvedB W T cs ds ls = true) ∨ (ds = [] ∧ (ok = false ∨ fr < 0 ∨ 27 < fr))) := by
  refine ⟨_, _, rfl, ?_, rfl, ?_⟩
  · unfold mkI; split
    · rw [mkTo_length]; exact hls
    · simp
  cases hok : (regB W T cs && laysB W T cs ls && fullB cs ls) with
  | false => exact .inr ⟨by simp [mkI, hok], .inl rfl⟩
  | true =>
    by_cases hf : 0 ≤ fr ∧ fr ≤ 27
    · simp only [Bool.and_eq_true] at hok
      obtain ⟨⟨hr, hy⟩, hfu⟩ := hok
      obtain ⟨h1, h2⟩ := make_solved (fr := fr.toNat) hr hy hfu
      have e : mkI W T cs ls fr = mkTo W T ls fr.toNat ls.length := by simp [mkI, hr, hy, hfu, hf]
      rw [e]
      exact .inl ⟨rfl, hf.1, hf.2, hr, h1, h2⟩
    · exact .inr ⟨by simp [mkI, hok, hf], .inr (by omega)⟩

theorem l_FnMakePuzzle (bs : List Int) (hB : Byt bs) : SoundAt Try.prog n_laws_FnMakePuzzle [.sl 0 1 (u8s bs)] (.v (.bool true)) [.bot] := by
  refine fn_ok (md := md5) (ms := [false]) k_laws_FnMakePuzzle (by simp) ?_
  simp [c_laws_FnMakePuzzle]
  refine fun hsz => ?_
  have hb : bs.length ≤ 2 ^ 60 := by omega
  refine call_onK (s_spec_DrawMakePuzzle bs hb hB) [] (by simp) (by simp) (by simp) ?_
  rintro _ _ ⟨W, T, cs, ls, v, fr, rfl, hcs, hls, rfl⟩
  have one := s_impl_MakePuzzle W T cs ls fr (by omega) (by omega)
  have two := s_spec_MakePuzzle W T cs ls fr (by omega) (by omega)
  have three := s_spec_TilingOk W T cs ls (by omega) (by omega)
  obtain ⟨ds, ok, h1, h2, h3, h4⟩ := mk_facts W T cs ls fr hls
  rw [h1] at one two
  rw [h3] at three
  have five := s_laws_sameInts ds ds (by omega)
  simp only [decide_true] at five
  have six := s_impl_PuzzleValid W T cs ds (by omega) (by omega)
  have seven := s_impl_SolvedOk W T cs ds ls (by omega) (by omega) (by omega)
  rcases h4 with ⟨h5, h6, h7, h8, h9, h10⟩ | ⟨h5, h6⟩
  · rw [h5] at three
    rw [h8, h9] at six
    rw [h10] at seven
    have h6' : ¬ fr < 0 := by omega
    have h7' : ¬ 27 < fr := by omega
    cases v with
    | false =>
      simp [regA, lstA]
      refine call_on one ?_
      simp
      refine call_on two ?_
      simp
      refine call_on five ?_
      simp
      refine call_on three ?_
      simp [h6', h7', h6, h7]
      refine call_on six ?_
      simp
      refine call_on seven ?_
      simp
    | true =>
      simp [regA, lstA]
      refine call_on one ?_
      simp
      refine call_on two ?_
      simp
      refine call_on five ?_
      simp
      refine call_on three ?_
      simp [h6', h7', h6, h7]
      refine call_on six ?_
      simp
      refine call_on seven ?_
      simp
  · subst h5
    have alive := s_laws_alive
    cases v with
    | false =>
      simp [regA, lstA]
      refine call_on one ?_
      simp
      refine call_on two ?_
      simp
      refine call_on five ?_
      simp
      refine call_on three ?_
      rcases h6 with h6 | h6 | h6
      · subst h6
        simp
        refine call_on alive ?_
        simp
      · cases ok <;> simp [h6] <;> refine call_on alive ?_ <;> simp
      · have h7 : ¬ fr < 0 := by omega
        cases ok <;> simp [h6, h7] <;> refine call_on alive ?_ <;> simp
    | true =>
      simp [regA, lstA]
      refine call_on one ?_
      simp
      refine call_on two ?_
      simp
      refine call_on five ?_
      simp
      refine call_on three ?_
      rcases h6 with h6 | h6 | h6
      · subst h6
        simp
        refine call_on alive ?_
        simp
      · cases ok <;> simp [h6] <;> refine call_on alive ?_ <;> simp
      · have h7 : ¬ fr < 0 := by omega
        cases ok <;> simp [h6, h7] <;> refine call_on alive ?_ <;> simp
end Go.Proofs.Dev
