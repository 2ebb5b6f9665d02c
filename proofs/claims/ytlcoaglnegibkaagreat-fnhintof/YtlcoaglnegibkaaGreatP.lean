/- Contracts of the functions of the program over slots and rows, each proved against the program itself; no condition beyond those that each theorem names. -/
import Derived.Test.YtlcoaglnegibkaaGreatM
import Derived.Test.YtlcoaglnegibkaaGreatO

set_option linter.unusedSimpArgs false
set_option linter.unusedVariables false

namespace Go.Proofs.Dev
set_option linter.unusedSimpArgs false
set_option maxRecDepth 100000

def fullAt (cs : List Bool) (ls : List Int) (k : Int) : Bool := !(atb cs k && decide (ati ls k = 0))
/-- Every cell of the region has a domino. -/
def fullB (cs : List Bool) (ls : List Int) : Bool := allB cs.length (fun k => fullAt cs ls k)
def solvedB (W T : Int) (cs : List Bool) (ds ls : List Int) : Bool := fairB W T cs ds ls && fullB cs ls

theorem s_spec_TilingOk (W T : Int) (cs : List Bool) (ls : List Int) (hb : cs.length < 2 ^ 40) (hd : ls.length < 2 ^ 40) :
    SoundAt Tryz.prog n_spec_TilingOk [.agg [.v (.int .i64 W), .v (.int .i64 T), .sl 1 1 (bools cs)], .sl 1 1 (ints ls)] (.v (.bool (regB W T cs && laysB W T cs ls && fullB cs ls))) [.bot, .bot] := by
  refine fn_ok (md := md0) (ms := [false, false]) k_spec_TilingOk (by simp) ?_
  simp [c_spec_TilingOk]
  refine call_on (s_spec_LaidOk W T cs ls hb hd) ?_
  cases hp : (regB W T cs && laysB W T cs ls) with
  | false => simp
  | true =>
  have hl' : ls.length = cs.length := by
    simp only [laysB, Bool.and_eq_true, decide_eq_true_eq] at hp
    exact hp.2.1
  simp
  refine loop_by (fun m E H => ∃ i : Nat, m = ls.length - i ∧ i ≤ ls.length ∧ allB i (fun k => fullAt cs ls k) = true ∧ H = [some (.box [.v (.int .i64 W), .v (.int .i64 T), .sl 1 1 (bools cs)])] ∧ E = [(1, .sl 1 1 (ints ls)), (2, .lp 0 0 0 0), (5, .v (.int .i64 i))]) ls.length ⟨0, by simp [allB_zero]⟩ ?_
  rintro J hJ m E H ⟨i, rfl, hi, ha, rfl, rfl⟩
  by_cases h : i < ls.length
  · have h2 : i < cs.length := by omega
    have next : fullAt cs ls i = true → again J (ls.length - i) [(1, .sl 1 1 (ints ls)), (2, .lp 0 0 0 0), (5, .v (.int .i64 (i + 1)))] [some (.box [.v (.int .i64 W), .v (.int .i64 T), .sl 1 1 (bools cs)])] :=
      fun hd => ⟨_, by omega, hJ _ _ _ ⟨i + 1, rfl, h, by rw [allB_succ, ha, hd]; rfl, rfl, rfl⟩⟩
    have stop : fullAt cs ls i = false → fullB cs ls = false := fun hd => allB_false h2 hd
    cases hc : atb cs i with
    | false =>
      simp [c_spec_TilingOk_L0, h, h2, hc]
      exact ⟨by omega, next (by simp [fullAt, hc])⟩
    | true =>
      simp [c_spec_TilingOk_L0, h, h2, hc]
      exact ⟨fun e => stop (by simp [fullAt, hc, e]), fun e => ⟨by omega, next (by simp [fullAt, hc, e])⟩⟩
  · have : i = ls.length := by omega
    subst this
    simp [c_spec_TilingOk_L0]
    rw [hl'] at ha
    simpa [fullB] using ha

theorem s_impl_Region_full (W T : Int) (cs : List Bool) (ls : List Int) (hb : cs.length < 2 ^ 40) (hl' : ls.length = cs.length) :
    SoundAt Tryz.prog n_impl_Region_full [.agg [.v (.int .i64 W), .v (.int .i64 T), .sl 1 1 (bools cs)], .sl 1 1 (ints ls)] (.v (.bool (fullB cs ls))) [.bot, .bot] := by
  refine fn_ok (md := md0) (ms := [false, false]) k_impl_Region_full (by simp) ?_
  simp [c_impl_Region_full]
  refine loop_by (fun m E H => ∃ i : Nat, m = cs.length - i ∧ i ≤ cs.length ∧ allB i (fun k => fullAt cs ls k) = true ∧ H = [] ∧ E = [(1, .sl 1 1 (ints ls)), (8, .sl 1 1 (bools cs)), (9, .v (.int .i64 cs.length)), (10, .v (.int .i64 i))]) cs.length ⟨0, by simp [allB_zero]⟩ ?_
  rintro J hJ m E H ⟨i, rfl, hi, ha, rfl, rfl⟩
  by_cases h : i < cs.length
  · have h2 : i < ls.length := by omega
    have next : fullAt cs ls i = true → again J (cs.length - i) [(1, .sl 1 1 (ints ls)), (8, .sl 1 1 (bools cs)), (9, .v (.int .i64 cs.length)), (10, .v (.int .i64 (i + 1)))] [] :=
      fun hd => ⟨_, by omega, hJ _ _ _ ⟨i + 1, rfl, h, by rw [allB_succ, ha, hd]; rfl, rfl, rfl⟩⟩
    have stop : fullAt cs ls i = false → fullB cs ls = false := fun hd => allB_false h hd
    cases hc : atb cs i with
    | false =>
      simp [c_impl_Region_full_L0, h, h2, hc]
      exact ⟨by omega, next (by simp [fullAt, hc])⟩
    | true =>
      simp [c_impl_Region_full_L0, h, h2, hc]
      exact ⟨fun e => stop (by simp [fullAt, hc, e]), fun e => ⟨by omega, next (by simp [fullAt, hc, e])⟩⟩
  · have : i = cs.length := by omega
    subst this
    simp [c_impl_Region_full_L0]
    simpa [fullB] using ha

theorem fairB_ok {W T : Int} {cs : List Bool} {ds ls : List Int} (h : fairB W T cs ds ls = true) : okB W T cs ds ls = true := by
  simp only [fairB, Bool.and_eq_true] at h; exact h.1
theorem fairB_rl {W T : Int} {cs : List Bool} {ds ls : List Int} (h : (regB W T cs && laysB W T cs ls) = false) : fairB W T cs ds ls = false := by
  cases hf : fairB W T cs ds ls with
  | false => rfl
  | true =>
    have := fairB_ok hf
    simp only [okB, Bool.and_eq_true] at this
    rw [this.1, this.2.2] at h; cases h

theorem s_spec_SolvedOk (W T : Int) (cs : List Bool) (ds ls : List Int) (hb : cs.length < 2 ^ 40) (hd : ds.length < 2 ^ 40) (hl : ls.length < 2 ^ 40) :
    SoundAt Tryz.prog n_spec_SolvedOk [.agg [.v (.int .i64 W), .v (.int .i64 T), .sl 1 1 (bools cs)], .sl 1 1 (ints ds), .sl 1 1 (ints ls)] (.v (.bool (solvedB W T cs ds ls))) [.bot, .bot, .bot] := by
  refine fn_ok (md := md0) (ms := [false, false, false]) k_spec_SolvedOk (by simp) ?_
  simp [c_spec_SolvedOk]
  refine call_on (s_spec_TilingOk W T cs ls hb hl) ?_
  cases hp : (regB W T cs && laysB W T cs ls) with
  | false => simp [solvedB, fairB_rl hp]
  | true =>
  cases hf : fullB cs ls with
  | false => simp [solvedB, hf]
  | true =>
  simp
  refine call_on (s_spec_FairOk W T cs ds ls hb hd hl) ?_
  simp [solvedB, hf]

end Go.Proofs.Dev
