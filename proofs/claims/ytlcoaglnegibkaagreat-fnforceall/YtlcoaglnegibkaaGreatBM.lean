/- Contracts of the functions of the program over slots and rows, each proved against the program itself; no condition beyond those that each theorem names. -/
import Derived.Test.YtlcoaglnegibkaaGreatBL

set_option linter.unusedSimpArgs false
set_option linter.unusedVariables false

namespace Go.Proofs.Dev
set_option linter.unusedSimpArgs false
set_option maxRecDepth 100000

theorem forceAll_law (W T : Int) (cs : List Bool) (ds ls : List Int) :
    ∃ (xs : List Int) (f : Bool), forceAllL W T cs ds ls = xs ∧ fairB W T cs ds ls = f ∧ xs.length ≤ ls.length ∧
      ((f = false ∧ xs = []) ∨
       (f = true ∧ xs.length = ls.length ∧ ls.length = cs.length ∧ fairB W T cs ds xs = true ∧ hasB ls xs = true ∧ forceB W T cs ds xs = false ∧
        (∀ p ∈ solsI W T cs ds, hasB ls p = true → hasB xs p = true) ∧
        ∃ t : Bool, (regB W T cs && laysB W T cs xs && fullB cs xs) = t ∧ (t = true → ((solsI W T cs ds).filter (hasB ls)).length = 1))) := by
  refine ⟨_, _, rfl, rfl, ?_, ?_⟩
  · unfold forceAllL; split
    · unfold forceAllI; rw [forceAllN_length]; exact Nat.le_refl _
    · simp
  cases hf : fairB W T cs ds ls with
  | false => exact .inl ⟨rfl, by simp [forceAllL, hf]⟩
  | true =>
    have e : forceAllL W T cs ds ls = forceAllI W T cs ds ls := by simp [forceAllL, hf]
    rw [e]
    obtain ⟨i1, i2, i3, i4⟩ := forceAll_facts hf
    obtain ⟨hr, hd, hy, ho⟩ := fair_parts hf
    have hl : (forceAllI W T cs ds ls).length = ls.length := by unfold forceAllI; rw [forceAllN_length]
    refine .inr ⟨rfl, hl, lays_len hy, i1, i2, by simp [forceB, i3], fun p hp hs => i4 p (mem_sols.1 hp) hs, _, rfl, ?_⟩
    intro ht
    simp only [Bool.and_eq_true] at ht
    rw [forced_one hf ht.2]; rfl

theorem l_FnForceAll (bs : List Int) (hB : Byt bs) : SoundAt Tryz.prog n_laws_FnForceAll [.sl 0 1 (u8s bs)] (.v (.bool true)) [.bot] := by
  refine fn_ok (md := md5) (ms := [false]) k_laws_FnForceAll (by simp) ?_
  simp [c_laws_FnForceAll]
  refine fun hsz => ?_
  have hb : bs.length ≤ 2 ^ 60 := by omega
  refine call_onK (s_spec_DrawForceAll bs hb hB) [] (by simp) (by simp) (by simp) ?_
  rintro _ _ ⟨W, T, cs, ds, ls, rfl, hcs, hds, hls, rfl⟩
  have one := s_impl_ForceAll W T cs ds ls (by omega) (by omega) (by omega)
  have two := s_spec_ForceAll W T cs ds ls (by omega) (by omega) (by omega)
  have three := s_spec_FairOk W T cs ds ls (by omega) (by omega) (by omega)
  obtain ⟨xs, f, h1, h2, h4, h5⟩ := forceAll_law W T cs ds ls
  rw [h1] at one two
  rw [h2] at three
  have same := s_laws_sameInts xs xs (by omega)
  simp only [decide_true] at same
  rcases h5 with ⟨rfl, rfl⟩ | ⟨rfl, h5, hlc, h6, h7, h8, h9, t, h10, h11⟩
  · simp [regA]
    refine call_on one ?_
    simp
    refine call_on two ?_
    simp
    refine call_on same ?_
    simp
    refine call_on three ?_
    simp
    refine call_on s_laws_alive ?_
    simp
  · have sols := s_impl_SolutionsAllF W T cs ds (by omega) (by omega)
    have hsl := sols_length (W := W) (T := T) (cs := cs) (ds := ds)
    have hlen : ∀ p ∈ solsI W T cs ds, p.length = cs.length := fun p hp => sols_len hp
    have fairX := s_impl_FairOk W T cs ds xs (by omega) (by omega) (by omega)
    rw [h6] at fairX
    have hasX := s_laws_hasAll xs ls (by omega)
    simp [h5, h7] at hasX
    have more := s_impl_ForceOne W T cs ds xs (by omega) (by omega) (by omega)
    rw [h8] at more
    have hfl : (forceL W T cs ds xs).length ≤ 40 := by
      obtain ⟨_, _, _, e1, _, _, e2, _⟩ := force_facts W T cs ds xs
      rw [e1]; omega
    generalize forceL W T cs ds xs = ys at *
    have til := s_impl_TilingOk W T cs xs (by omega) (by omega)
    rw [h10] at til
    generalize solsI W T cs ds = ss at *
    simp [regA]
    refine call_on one ?_
    simp
    refine call_on two ?_
    simp
    refine call_on same ?_
    simp
    refine call_on three ?_
    simp
    refine call_on sols ?_
    simp
    refine loop_by (fun m E H => ∃ i : Nat, m = ss.length - i ∧ i ≤ ss.length ∧ E = [(3, .lp 0 0 0 0), (4, .ls 1 1 0 ds.length), (5, .ls 1 2 0 ls.length), (6, .ls 1 3 0 xs.length), (7, .sl 0 1 (sls 0 ss)), (8, .v (.int .i64 ((ss.take i).filter (hasB ls)).length)), (9, .v (.int .i64 i))] ∧ H = [some (.box [.v (.int .i64 W), .v (.int .i64 T), .ls 1 4 0 cs.length]), some (.arr 1 (ints ds)), some (.arr 1 (ints ls)), some (.arr 1 (ints xs)), some (.arr 1 (bools cs))]) ss.length ⟨0, by simp⟩ ?_
    rintro J hJ m E H ⟨i, rfl, hi, rfl, rfl⟩
    by_cases h : i < ss.length
    · have et : pti ss i = ss[i] := pti_get h
      have hin : pti ss i ∈ ss := by rw [et]; exact List.getElem_mem h
      have hpl := hlen _ hin
      have a1 := s_laws_hasAll (pti ss i) ls (by omega)
      have a2 := s_laws_hasAll (pti ss i) xs (by omega)
      simp [show (pti ss i).length = ls.length by omega] at a1
      simp [show (pti ss i).length = xs.length by omega] at a2
      have hstep : ((ss.take (i + 1)).filter (hasB ls)).length = ((ss.take i).filter (hasB ls)).length + if hasB ls (pti ss i) = true then 1 else 0 := by
        rw [List.take_succ_eq_append_getElem h, List.filter_append, List.length_append, et]
        congr 1
        by_cases hq : hasB ls ss[i] = true <;> simp [hq]
      have hnl : ((ss.take i).filter (hasB ls)).length ≤ ss.length := Nat.le_trans (List.length_filter_le _ _) (List.length_take_le' _ _)
      generalize ((ss.take i).filter (hasB ls)).length = n at *
      cases hh : hasB ls (pti ss i) with
      | false =>
        rw [hh] at a1
        simp [hh] at hstep
        simp [c_laws_FnForceAll_L0, h]
        refine call_on a1 ?_
        simp
        exact ⟨by omega, _, by omega, hJ _ _ _ ⟨i + 1, rfl, h, by simp [hstep], rfl⟩⟩
      | true =>
        rw [hh] at a1
        rw [h9 _ hin hh] at a2
        simp [hh] at hstep
        simp [c_laws_FnForceAll_L0, h]
        refine call_on a1 ?_
        simp [h]
        (repeat' first | omega | apply And.intro) <;>
        · refine call_on a2 ?_
          simp
          exact ⟨by omega, _, by omega, hJ _ _ _ ⟨i + 1, rfl, h, by simp [hstep], rfl⟩⟩
    · have : i = ss.length := by omega
      subst this
      rw [List.take_length]
      generalize (ss.filter (hasB ls)).length = n at *
      simp [c_laws_FnForceAll_L0]
      refine call_on more ?_
      simp
      refine call_on fairX ?_
      simp
      refine call_on hasX ?_
      simp
      refine call_on til ?_
      cases t with
      | false => simp
      | true =>
        have := h11 rfl
        subst this
        simp
end Go.Proofs.Dev
