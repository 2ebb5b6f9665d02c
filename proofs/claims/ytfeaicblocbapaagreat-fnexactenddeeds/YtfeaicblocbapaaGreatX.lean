/- Contracts of the functions of the program over slots and rows, each proved against the program itself; no condition beyond those that each theorem names. -/
import Derived.Test.YtfeaicblocbapaaGreatW

set_option linter.unusedSimpArgs false
set_option linter.unusedVariables false

namespace Go.Proofs.Dev
set_option linter.unusedSimpArgs false
set_option maxRecDepth 100000

def pastB (W T : Int) (cs : List Bool) (ds : List Int) (ps : List (List Int)) : Bool := allB ps.length (fun k => fairB W T cs ds (pti ps k))
def bookB (W T : Int) (cs : List Bool) (ds ls : List Int) (ps : List (List Int)) : Bool := (fairB W T cs ds ls && decide (ps.length ≤ 20)) && pastB W T cs ds ps

theorem s_spec_BookValid (W T : Int) (cs : List Bool) (ds ls : List Int) (ps : List (List Int)) (hc : cs.length < 2 ^ 40) (hd : ds.length < 2 ^ 40) (hl : ls.length < 2 ^ 40) (hb : ps.length < 2 ^ 40) (hp : ∀ p ∈ ps, p.length < 2 ^ 40) :
    SoundAt Tryz.prog n_spec_BookValid [bkA W T cs ds ls ps] (.v (.bool (bookB W T cs ds ls ps))) [.bot] := by
  refine fn_ok (md := md0) (ms := [false]) k_spec_BookValid (by simp) ?_
  simp [c_spec_BookValid]
  refine loop_by (fun m E H => ∃ i : Nat, m = ps.length - i ∧ i ≤ ps.length ∧ allB i (fun k => fairB W T cs ds (pti ps k)) = true ∧ H = [some (.box [.v (.int .i64 W), .v (.int .i64 T), .sl 1 1 (bools cs), .sl 1 1 (ints ds), .sl 1 1 (ints ls), .sl 1 1 (sls 1 ps)])] ∧ E = [(1, .lp 0 0 0 0), (3, .v (.int .i64 i))]) ps.length ⟨0, by simp [allB_zero]⟩ ?_
  rintro J hJ m E H ⟨i, rfl, hi, ha, rfl, rfl⟩
  by_cases h : i < ps.length
  case neg =>
    have : i = ps.length := by omega
    subst this
    simp [c_spec_BookValid_L0]
    refine call_on (s_spec_FairOk W T cs ds ls hc hd hl) ?_
    simp [bookB, pastB, ha]
    cases fairB W T cs ds ls <;> simp
    omega
  have one := s_spec_FairOk W T cs ds (pti ps i) hc hd (hp _ (pti_mem h))
  have hno : fairB W T cs ds (pti ps i) = false → bookB W T cs ds ls ps = false := by
    intro hf
    have : pastB W T cs ds ps = false := allB_false h hf
    simp [bookB, this]
  simp [c_spec_BookValid_L0, h]
  (repeat' first | assumption | omega | apply And.intro) <;>
  · refine call_on one ?_
    cases hf : fairB W T cs ds (pti ps i) with
    | false => simp [hno hf]
    | true =>
      simp
      exact ⟨by omega, _, by omega, hJ _ _ _ ⟨i + 1, rfl, h, by rw [allB_succ, ha, hf]; rfl, rfl, rfl⟩⟩

theorem s_impl_BookValid_1 (W T : Int) (cs : List Bool) (ds ls : List Int) (ps : List (List Int)) (p : List Int) (hc : cs.length < 2 ^ 40) (hd : ds.length < 2 ^ 40) (hp : p.length < 2 ^ 40) :
    SoundAt Tryz.prog n_impl_BookValid_1 [.sl 1 1 (ints p), .vp 1 [.v (.int .i64 W), .v (.int .i64 T), .sl 1 1 (bools cs), .sl 1 1 (ints ds), .sl 1 1 (ints ls), .sl 1 1 (sls 1 ps)] 0] (.v (.bool (!fairB W T cs ds p))) [.bot, .bot] := by
  refine fn_ok (md := md0) (ms := [false, false]) k_impl_BookValid_1 (by simp) ?_
  simp [c_impl_BookValid_1]
  refine call_on (s_impl_FairOk W T cs ds p hc hd hp) ?_
  simp

/-- A book that a closure reads. -/
@[simp] def bkP (W T : Int) (cs : List Bool) (ds ls : List Int) (ps : List (List Int)) : AV := .vp 1 [.v (.int .i64 W), .v (.int .i64 T), .sl 1 1 (bools cs), .sl 1 1 (ints ds), .sl 1 1 (ints ls), .sl 1 1 (sls 1 ps)] 0
def unfairI (W T : Int) (cs : List Bool) (ds : List Int) (ps : List (List Int)) : Int := firstI (fun k => !fairB W T cs ds (pti ps k)) ps.length

theorem s_slices_IndexFunc (W T : Int) (cs : List Bool) (ds ls : List Int) (ps qs : List (List Int)) (hc : cs.length < 2 ^ 40) (hd : ds.length < 2 ^ 40) (hb : ps.length < 2 ^ 40) (hp : ∀ p ∈ ps, p.length < 2 ^ 40) :
    SoundAt Tryz.prog n_slices_IndexFunc_int_int [.sl 1 1 (sls 1 ps), .fn 60 [bkP W T cs ds ls qs]] (.v (.int .i64 (unfairI W T cs ds ps))) [.bot, .bot] := by
  refine fn_ok (md := md0) (ms := [false, false]) k_slices_IndexFunc_int_int (by simp) ?_
  simp [c_slices_IndexFunc_int_int]
  refine loop_by (fun m E H => ∃ i : Nat, m = ps.length - i ∧ i ≤ ps.length ∧ (∀ k : Nat, k < i → (!fairB W T cs ds (pti ps k)) = false) ∧ H = [] ∧ E = [(0, .sl 1 1 (sls 1 ps)), (1, .fn 60 [bkP W T cs ds ls qs]), (7, .v (.int .i64 ps.length)), (8, .v (.int .i64 i))]) ps.length ⟨0, by simp⟩ ?_
  rintro J hJ m E H ⟨i, rfl, hi, ha, rfl, rfl⟩
  by_cases h : i < ps.length
  case neg =>
    have : i = ps.length := by omega
    subst this
    have e : unfairI W T cs ds ps = -1 := firstI_none ha
    simp [c_slices_IndexFunc_int_int_L0, e]
  have one := s_impl_BookValid_1 W T cs ds ls qs (pti ps i) hc hd (hp _ (pti_mem h))
  simp [c_slices_IndexFunc_int_int_L0, h]
  refine ⟨by kernel_rfl, ?_⟩
  refine call_on one ?_
  cases hf : fairB W T cs ds (pti ps i) with
  | false =>
    have e : unfairI W T cs ds ps = i := firstI_hit h (by simp [hf]) ha
    simp [e]
  | true =>
    simp
    refine ⟨by omega, _, by omega, hJ _ _ _ ⟨i + 1, rfl, h, ?_, rfl, rfl⟩⟩
    intro k hk
    rcases Nat.lt_or_ge k i with h1 | h1
    · exact ha k h1
    · have : k = i := by omega
      subst this; simp [hf]

theorem s_slices_ContainsFunc (W T : Int) (cs : List Bool) (ds ls : List Int) (ps qs : List (List Int)) (hc : cs.length < 2 ^ 40) (hd : ds.length < 2 ^ 40) (hb : ps.length < 2 ^ 40) (hp : ∀ p ∈ ps, p.length < 2 ^ 40) :
    SoundAt Tryz.prog n_slices_ContainsFunc_int_int [.sl 1 1 (sls 1 ps), .fn 60 [bkP W T cs ds ls qs]] (.v (.bool (!pastB W T cs ds ps))) [.bot, .bot] := by
  refine fn_ok (md := md0) (ms := [false, false]) k_slices_ContainsFunc_int_int (by simp) ?_
  simp [c_slices_ContainsFunc_int_int]
  refine call_on (s_slices_IndexFunc W T cs ds ls ps qs hc hd hb hp) ?_
  have e : decide (0 ≤ unfairI W T cs ds ps) = !pastB W T cs ds ps := by
    cases hpb : pastB W T cs ds ps with
    | true =>
      have h2 : unfairI W T cs ds ps = -1 := firstI_none fun k hk => by
        have := (allB_iff _ _).1 hpb k hk
        simp [this]
      rw [h2]; rfl
    | false =>
      rcases firstI_cases (fun k => !fairB W T cs ds (pti ps k)) ps.length with h2 | ⟨k, hk, hx, h2⟩
      · exfalso
        have : pastB W T cs ds ps = true := by
          rw [pastB, allB_iff]
          intro k hk
          cases hx : fairB W T cs ds (pti ps k) with
          | true => rfl
          | false =>
            exfalso
            have hm : ∃ x ∈ List.range ps.length, (!fairB W T cs ds (pti ps x)) = true := ⟨k, by simpa using hk, by simp [hx]⟩
            have hs := List.find?_isSome.2 hm
            unfold firstI at h2
            split at h2
            · omega
            · rename_i h9; rw [h9] at hs; cases hs
        rw [this] at hpb; cases hpb
      · have h3 : unfairI W T cs ds ps = k := h2
        rw [h3]; simp
  simp [e]

theorem s_impl_BookValid (W T : Int) (cs : List Bool) (ds ls : List Int) (ps : List (List Int)) (hc : cs.length < 2 ^ 40) (hd : ds.length < 2 ^ 40) (hl : ls.length < 2 ^ 40) (hb : ps.length < 2 ^ 40) (hp : ∀ p ∈ ps, p.length < 2 ^ 40) :
    SoundAt Tryz.prog n_impl_BookValid [bkA W T cs ds ls ps] (.v (.bool (bookB W T cs ds ls ps))) [.bot] := by
  refine fn_ok (md := md0) (ms := [false]) k_impl_BookValid (by simp) ?_
  simp [c_impl_BookValid]
  refine call_on (s_impl_FairOk W T cs ds ls hc hd hl) ?_
  cases hf : fairB W T cs ds ls with
  | false => simp [bookB, hf]
  | true =>
  by_cases h20 : ps.length ≤ 20
  case neg =>
    have h20' : ¬ (ps.length : Int) ≤ 20 := by omega
    simp [bookB, hf, h20, h20']
  have h20' : (ps.length : Int) ≤ 20 := by omega
  simp [h20']
  refine call_on (s_slices_ContainsFunc W T cs ds ls ps ps hc hd hb hp) ?_
  simp [bookB, hf, h20]

end Go.Proofs.Dev

namespace Go.Proofs.Dev
set_option linter.unusedSimpArgs false
set_option maxRecDepth 100000

theorem bookB_fair {W T : Int} {cs : List Bool} {ds ls : List Int} {ps : List (List Int)} (h : bookB W T cs ds ls ps = true) : fairB W T cs ds ls = true := by
  simp only [bookB, Bool.and_eq_true] at h; exact h.1.1

def bsolB (W T : Int) (cs : List Bool) (ds ls : List Int) (ps : List (List Int)) : Bool := bookB W T cs ds ls ps && fullB cs ls

theorem tot_le {cs : List Bool} {ds ls : List Int} {ps : List (List Int)} {n : Nat} (h : totB cs ds ls ps ≤ n) : cs.length ≤ n ∧ ds.length ≤ n ∧ ls.length ≤ n ∧ ps.length ≤ n ∧ ∀ p ∈ ps, p.length ≤ n := by
  unfold totB at h
  refine ⟨by omega, by omega, by omega, by omega, fun p hp => ?_⟩
  obtain ⟨i, hi, rfl⟩ := List.getElem_of_mem hp
  have := pti_le hi
  rw [pti_get hi] at this
  omega

end Go.Proofs.Dev
