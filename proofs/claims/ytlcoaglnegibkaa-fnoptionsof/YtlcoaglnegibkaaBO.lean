/- Contracts of the functions of the program over slots and rows, each proved against the program itself; no condition beyond those that each theorem names. -/
import Derived.Test.YtlcoaglnegibkaaBJ
import Derived.Test.YtlcoaglnegibkaaBC
import Derived.Test.YtlcoaglnegibkaaBK
import Derived.Test.YtlcoaglnegibkaaAP

set_option linter.unusedSimpArgs false
set_option linter.unusedVariables false

namespace Go.Proofs.Dev
set_option linter.unusedSimpArgs false
set_option maxRecDepth 100000

def drawE (r : AV) (ups : List AV) : Prop := ∃ (W T : Int) (cs : List Bool) (ds ls : List Int) (c : Int), r = .tup [regA W T cs, .os 1 (ints ds), .os 1 (ints ls), .v (.int .i64 c)] ∧ cs.length ≤ 37 ∧ ds.length ≤ 37 ∧ ls.length ≤ 38 ∧ (-1 ≤ c ∧ c < 40) ∧ ups = [.bot]

theorem s_spec_DrawOptionsOf (bs : List Int) (hb : bs.length ≤ 2 ^ 60) (hB : Byt bs) : SoundSet Try.prog n_spec_DrawOptionsOf [.sl 0 1 (u8s bs)] drawE := by
  have hb2 : (bs.take 2000).length ≤ 2000 := by simp; omega
  have hB2 := byt_take hB 2000
  refine fn_okS (md := md5) (ms := [false]) k_spec_DrawOptionsOf (by simp) ?_
  simp [c_spec_DrawOptionsOf]
  refine call_on (s_spec_l20Open bs hb) ?_
  simp
  refine call_onK (s_spec_l20Played (bs.take 2000) 0 hb2 hB2 (by omega)) [1] (by simp) (by simp) (by simp) ?_
  rintro _ _ ⟨W, T, cs, ds, ls, q, rfl, hcs, hds, hls, hq, rfl⟩
  simp [regA]
  refine ⟨by omega, ?_⟩
  refine call_onK (s_spec_l20Rd_pick (bs.take 2000) q (cs.length + 1) hb2 hB2 (by omega)) [1] (by simp) (by simp) (by simp) ?_
  rintro _ _ ⟨x, h0, h1, rfl, rfl⟩
  simp
  refine call_onK (s_spec_l20Rd_pick (bs.take 2000) (q + 1) 20 hb2 hB2 (by omega)) [1] (by simp) (by simp) (by simp) ?_
  rintro _ _ ⟨y, h2, h3, rfl, rfl⟩
  simp
  have hy1 : y / 19 = 0 ∨ y / 19 = 1 := by omega
  refine ⟨by omega, by omega, ?_⟩
  refine loop_by (fun m E H => ∃ (i : Nat) (c : Int), m = 6 - i ∧ i ≤ 6 ∧ (-1 ≤ c ∧ c < 40) ∧ E = [(2, .lp 0 0 0 0), (7, .lp 0 1 0 0), (8, .ls 1 2 0 ds.length), (9, .ls 1 3 0 ls.length), (10, .v (.int .i64 c)), (11, .v (.int .i64 i))] ∧ H = [some (.box [.v (.int .i64 0), .v (.int .i64 0), .os 1 []]), some (.box [.v (.int .i64 W), .v (.int .i64 T), .ls 1 4 0 cs.length]), some (.arr 1 (ints ds)), some (.arr 1 (ints ls)), some (.arr 1 (bools cs))]) 6 ⟨0, x - y / 19, by simp, by omega, by omega, by simp, rfl⟩ ?_
  rintro J hJ m E H ⟨i, c, rfl, hi, hc, rfl, rfl⟩
  have fin : drawE (.tup [regA W T cs, .os 1 (ints ds), .os 1 (ints ls), .v (.int .i64 c)]) [.bot] := ⟨W, T, cs, ds, ls, c, rfl, hcs, hds, hls, hc, rfl⟩
  by_cases h : (i : Int) < 6
  · by_cases h0 : 0 ≤ c
    · by_cases h1 : c < ls.length
      · have m1 := Int.emod_nonneg (c + 1) (show (ls.length : Int) ≠ 0 by omega)
        have m2 := Int.emod_lt_of_pos (c + 1) (show 0 < (ls.length : Int) by omega)
        have h2 : c.toNat < ls.length := by omega
        have hmx : max c 0 = c := by omega
        by_cases hz : ati ls c = 0
        · simp [c_spec_DrawOptionsOf_L0, h, h0, h1, h2, hz, hmx]
          exact ⟨_, _, fin, by simp [regA]⟩
        · simp [c_spec_DrawOptionsOf_L0, h, h0, h1, h2, hz, hmx]
          exact ⟨by omega, by omega, by omega, _, by omega, hJ _ _ _ ⟨i + 1, (c + 1) % ls.length, rfl, by omega, by omega, by simp, rfl⟩⟩
      · simp [c_spec_DrawOptionsOf_L0, h, h0, h1]
        exact ⟨_, _, fin, by simp [regA]⟩
    · simp [c_spec_DrawOptionsOf_L0, h, h0]
      exact ⟨_, _, fin, by simp [regA]⟩
  · simp [c_spec_DrawOptionsOf_L0, h]
    exact ⟨_, _, fin, by simp [regA]⟩
end Go.Proofs.Dev

namespace Go.Proofs.Dev
set_option linter.unusedSimpArgs false
set_option maxRecDepth 100000

theorem opt_facts {W T : Int} {cs : List Bool} {ds ls : List Int} {cell x : Int} (h : x ∈ optsOf W T cs ds ls cell) :
    layRB W T cs ls cell x = true ∧ fairB W T cs ds (layR W T cs ls cell x) = true ∧ x ∈ optsOf W T cs ds (noneL cs) cell ∧ regB W T cs = true := by
  unfold optsOf at h ⊢
  split at h
  case isFalse => cases h
  rename_i hf
  obtain ⟨hr, hd, hy, ho⟩ := fair_parts hf
  obtain ⟨h1, h2, h3⟩ := opts_mem.1 h
  have h4 := h1
  simp only [optB, Bool.and_eq_true] at h4
  obtain ⟨h5, h6⟩ := h4
  have hc : 0 ≤ cell := by simp [freeB] at h5; omega
  obtain ⟨k, rfl⟩ : ∃ k : Nat, cell = k := ⟨cell.toNat, by omega⟩
  have hh : hasB (noneL cs) ls = true := hasB_iff.2 fun k _ => .inl (ati_none cs k)
  have hn : (noneL cs).length = ls.length := by rw [lays_len hy]; simp [noneL]
  have hfn : fairB W T cs ds (noneL cs) = true := fair_of hr hd (lays_none W T cs) (once_sub (has_pairs hn hh) ho)
  refine ⟨by simp [layRB, hr, hy, h5], ?_, ?_, hr⟩
  · simp only [layR, hr, hy, Bool.and_true, if_true, layOneL, h5]
    exact fair_of hr hd (lay_ok hr hy h5) h6
  · rw [if_pos hfn]
    exact opts_mem.2 ⟨opt_bare hr (lays_len hy) h1, h2, h3⟩

theorem asc_opts (W T : Int) (cs : List Bool) (ds ls : List Int) (cell : Int) : ascB (optsOf W T cs ds ls cell) = true := by
  have h : (optsOf W T cs ds ls cell).Pairwise (· < ·) := by
    unfold optsOf
    split
    · exact opts_asc ..
    · exact List.Pairwise.nil
  generalize optsOf W T cs ds ls cell = xs at h
  unfold ascB
  rw [allB_iff]
  intro k hk
  rw [List.pairwise_iff_getElem] at h
  have := h k (k + 1) (by omega) (by omega) (by omega)
  simp [ati, show k < xs.length by omega, show k + 1 < xs.length by omega]
  exact this

theorem layR_length (W T : Int) (cs : List Bool) (ls : List Int) (cell way : Int) : (layR W T cs ls cell way).length ≤ ls.length := by
  unfold layR
  split
  · rw [layOne_length]; exact Nat.le_refl _
  · simp

theorem l_FnOptionsOf (bs : List Int) (hB : Byt bs) : SoundAt Try.prog n_laws_FnOptionsOf [.sl 0 1 (u8s bs)] (.v (.bool true)) [.bot] := by
  refine fn_ok (md := md5) (ms := [false]) k_laws_FnOptionsOf (by simp) ?_
  simp [c_laws_FnOptionsOf]
  refine fun hsz => ?_
  have hb : bs.length ≤ 2 ^ 60 := by omega
  refine call_onK (s_spec_DrawOptionsOf bs hb hB) [] (by simp) (by simp) (by simp) ?_
  rintro _ _ ⟨W, T, cs, ds, ls, cell, rfl, hcs, hds, hls, hcell, rfl⟩
  have one := s_impl_OptionsOf W T cs ds ls cell (by omega) (by omega) (by omega)
  have two := s_spec_OptionsOf W T cs ds ls cell (by omega) (by omega) (by omega)
  have facts : ∀ x, x ∈ optsOf W T cs ds ls cell → _ := fun x h => opt_facts h
  have h4 := optsOf_length W T cs ds ls cell
  have asc := asc_opts W T cs ds ls cell
  generalize optsOf W T cs ds ls cell = os at *
  simp [regA]
  refine call_on one ?_
  simp
  refine call_on two ?_
  simp
  refine call_on (s_laws_sameInts os os (by omega)) ?_
  simp
  refine loop_by (fun m E H => ∃ i : Nat, m = os.length - i ∧ i ≤ os.length ∧ E = [(3, .lp 0 0 0 0), (4, .ls 1 1 0 ds.length), (5, .ls 1 2 0 ls.length), (6, .v (.int .i64 cell)), (7, .ls 1 3 0 os.length), (8, .v (.int .i64 i))] ∧ H = [some (.box [.v (.int .i64 W), .v (.int .i64 T), .ls 1 4 0 cs.length]), some (.arr 1 (ints ds)), some (.arr 1 (ints ls)), some (.arr 1 (ints os)), some (.arr 1 (bools cs))]) os.length ⟨0, by simp⟩ ?_
  rintro J hJ m E H ⟨i, rfl, hi, rfl, rfl⟩
  by_cases h : i < os.length
  · have hx : ati os i ∈ os := by
      have e : ati os i = os[i] := by simp [ati, h]
      rw [e]; exact List.getElem_mem h
    obtain ⟨f1, f2, f3, hr⟩ := facts _ hx
    have ll := layR_length W T cs ls cell (ati os i)
    have three := s_impl_LayOne W T cs ls cell (ati os i) (by omega) (by omega)
    have four := s_impl_FairOk W T cs ds (layR W T cs ls cell (ati os i)) (by omega) (by omega) (by omega)
    have five := s_impl_LaidBare W T cs (by omega)
    have six := s_impl_OptionsOf W T cs ds (noneL cs) cell (by omega) (by omega) (by simp [noneL]; omega)
    have seven := s_laws_hasInt (optsOf W T cs ds (noneL cs) cell) (ati os i) (by have := optsOf_length W T cs ds (noneL cs) cell; omega)
    rw [f1] at three
    rw [f2] at four
    rw [hr] at five
    simp [f3] at seven
    simp at five
    simp [c_laws_FnOptionsOf_L0, h]
    (repeat' first | omega | apply And.intro) <;>
    · refine call_on three ?_
      simp
      refine call_on four ?_
      simp
      (repeat' first | omega | apply And.intro) <;>
      · refine call_on five ?_
        simp
        (repeat' first | omega | apply And.intro) <;>
        · refine call_on six ?_
          simp [h]
          refine call_on seven ?_
          simp
          exact ⟨by omega, _, by omega, hJ _ _ _ ⟨i + 1, rfl, h, by simp, by simp⟩⟩
  · have : i = os.length := by omega
    subst this
    have h4' : (os.length : Int) ≤ 4 := by omega
    have eight := s_laws_ascend os (by omega)
    rw [asc] at eight
    simp [c_laws_FnOptionsOf_L0]
    refine call_on eight ?_
    simp [h4']
    refine call_on s_laws_alive ?_
    simp
end Go.Proofs.Dev
