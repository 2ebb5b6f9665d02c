/- Contracts of the functions of the program over slots and rows, each proved against the program itself; no condition beyond those that each theorem names. -/
import Derived.Test.YtlcoaglnegibkaaGreatS

set_option linter.unusedSimpArgs false
set_option linter.unusedVariables false

namespace Go.Proofs.Dev
set_option linter.unusedSimpArgs false
set_option maxRecDepth 100000

/-- The first place that fits, or -1. -/
def firstI (p : Nat → Bool) (n : Nat) : Int := match (List.range n).find? p with | some k => k | none => -1
theorem firstI_hit {p : Nat → Bool} {n k : Nat} (hk : k < n) (hp : p k = true) (h : ∀ j, j < k → p j = false) : firstI p n = k := by
  have : (List.range n).find? p = some k := by
    rw [List.find?_range_eq_some]
    exact ⟨hp, by simpa using hk, fun j hj => by simp [h j hj]⟩
  simp [firstI, this]
theorem firstI_none {p : Nat → Bool} {n : Nat} (h : ∀ j, j < n → p j = false) : firstI p n = -1 := by
  have : (List.range n).find? p = none := by
    rw [List.find?_eq_none]
    intro x hx
    simp [h x (by simpa using hx)]
  simp [firstI, this]
theorem firstI_cases (p : Nat → Bool) (n : Nat) : (firstI p n = -1) ∨ ∃ k : Nat, k < n ∧ p k = true ∧ firstI p n = k := by
  unfold firstI
  split
  · rename_i k hk
    right
    rw [List.find?_range_eq_some] at hk
    exact ⟨k, by simpa using hk.2.1, hk.1, rfl⟩
  · left; rfl

def hitB (W T : Int) (cs : List Bool) (ds ls : List Int) (n : Int) (k : Nat) : Bool := (atb cs k && decide (ati ls k = 0)) && decide (((optsI W T cs ds ls k).length : Int) = n)

theorem s_impl_Region_first (W T : Int) (cs : List Bool) (ds ls : List Int) (n : Int) (hok : okB W T cs ds ls = true) :
    SoundAt Tryz.prog n_impl_Region_first [.agg [.v (.int .i64 W), .v (.int .i64 T), .sl 1 1 (bools cs)], .sl 1 1 (ints ds), .sl 1 1 (ints ls), .v (.int .i64 n)] (.v (.int .i64 (firstI (hitB W T cs ds ls n) ls.length))) [.bot, .bot, .bot, .bot] := by
  refine fn_ok (md := md0) (ms := [false, false, false, false]) k_impl_Region_first (by simp) ?_
  obtain ⟨hr, e1, e2, _⟩ := okB_W hok
  have h36 := regB_len hr
  simp [c_impl_Region_first]
  refine loop_by (fun m E H => ∃ i : Nat, m = ls.length - i ∧ i ≤ ls.length ∧ (∀ j : Nat, j < i → hitB W T cs ds ls n j = false) ∧ H = [some (.box [.v (.int .i64 W), .v (.int .i64 T), .sl 1 1 (bools cs)])] ∧
    E = [(1, .sl 1 1 (ints ds)), (2, .sl 1 1 (ints ls)), (3, .v (.int .i64 n)), (4, .lp 0 0 0 0), (11, .v (.int .i64 ls.length)), (12, .v (.int .i64 i))]) ls.length ⟨0, by simp⟩ ?_
  rintro J hJ m E H ⟨i, rfl, hi, ha, rfl, rfl⟩
  by_cases h : i < ls.length
  case neg =>
    have : i = ls.length := by omega
    subst this
    simp [c_impl_Region_first_L0, firstI_none ha]
  have next : hitB W T cs ds ls n i = false → again J (ls.length - i) [(1, .sl 1 1 (ints ds)), (2, .sl 1 1 (ints ls)), (3, .v (.int .i64 n)), (4, .lp 0 0 0 0), (11, .v (.int .i64 ls.length)), (12, .v (.int .i64 (i + 1)))]
      [some (.box [.v (.int .i64 W), .v (.int .i64 T), .sl 1 1 (bools cs)])] := by
    intro hx
    refine ⟨_, by omega, hJ _ _ _ ⟨i + 1, rfl, h, ?_, rfl, rfl⟩⟩
    intro j hj
    rcases Nat.lt_or_ge j i with h1 | h1
    · exact ha j h1
    · have : j = i := by omega
      subst this; exact hx
  have hit := fun hx : hitB W T cs ds ls n i = true => firstI_hit h hx ha
  have one := s_impl_Region_bare W T cs ls i (by omega) e2
  have two := s_impl_Region_options W T cs ds ls i hok
  have hop : (optsI W T cs ds ls i).length ≤ 4 := optTo_length ..
  have hii : (i : Int) < cs.length := by omega
  simp [c_impl_Region_first_L0, h]
  refine call_on one ?_
  cases hb : (atb cs i && decide (ati ls i = 0)) with
  | false =>
    have hx : hitB W T cs ds ls n i = false := by simp [hitB, hb]
    have hb' : decide (0 ≤ (i : Int) ∧ (i : Int) < cs.length ∧ atb cs i = true ∧ ati ls i = 0) = false := by
      simp at hb ⊢; intro _; exact hb
    rw [hb']
    simp
    exact ⟨by omega, next hx⟩
  | true =>
  have hb' : decide (0 ≤ (i : Int) ∧ (i : Int) < cs.length ∧ atb cs i = true ∧ ati ls i = 0) = true := by
    simp at hb ⊢; exact ⟨by omega, hb⟩
  rw [hb']
  simp
  refine call_on two ?_
  by_cases hn : ((optsI W T cs ds ls i).length : Int) = n
  · have hx : hitB W T cs ds ls n i = true := by simp [hitB, hb, hn]
    simp [hn, hit hx]
  · have hx : hitB W T cs ds ls n i = false := by simp [hitB, hb, hn]
    simp [hn]
    exact ⟨by omega, next hx⟩

end Go.Proofs.Dev
