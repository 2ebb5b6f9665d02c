/- Contracts of the functions of the program over slots and rows, each proved against the program itself; no condition beyond those that each theorem names. -/
import Derived.Test.YtfeaicblocbapaaGreatU

set_option linter.unusedSimpArgs false
set_option linter.unusedVariables false

namespace Go.Proofs.Dev
set_option linter.unusedSimpArgs false
set_option maxRecDepth 100000

def zeros (ls : List Int) : Nat := ls.countP (fun x => decide (x = 0))

theorem zeros_set_le {ls : List Int} {i : Nat} {v : Int} (hv : v ≠ 0) : zeros (ls.set i v) ≤ zeros ls := by
  by_cases h : i < ls.length
  · unfold zeros
    rw [List.countP_set h]
    simp [hv]
  · rw [List.set_eq_of_length_le (by omega)]; exact Nat.le_refl _
theorem zeros_set_lt {ls : List Int} {i : Nat} {v : Int} (h : i < ls.length) (hz : ati ls i = 0) (hv : v ≠ 0) : zeros (ls.set i v) < zeros ls := by
  have he : ls[i] = 0 := by simpa [ati, h] using hz
  have hp : 0 < zeros ls := by
    unfold zeros
    rw [List.countP_pos_iff]
    exact ⟨ls[i], List.getElem_mem h, by simp [he]⟩
  unfold zeros at hp ⊢
  rw [List.countP_set h]
  simp [hv, he]
  omega

def forceAllN (W T : Int) (cs : List Bool) (ds : List Int) : Nat → List Int → List Int
  | 0, ls => ls
  | n + 1, ls => if force1B W T cs ds ls then forceAllN W T cs ds n (force1 W T cs ds ls) else ls

theorem force1_zeros {W T : Int} {cs : List Bool} {ds ls : List Int} (h : force1B W T cs ds ls = true) : zeros (force1 W T cs ds ls) < zeros ls := by
  rcases one_cases W T cs ds ls with h1 | ⟨k, hk, he, hc, hz, hol, hob, hw⟩
  · simp [force1B, h1] at h
  · rw [force1, he, if_neg (by omega)]
    have hb : backI (wayI W T cs ds ls) ≠ 0 := by
      have := (backI_back hw.1 hw.2).2
      omega
    refine Nat.lt_of_le_of_lt (zeros_set_le hb) ?_
    exact zeros_set_lt (by omega) (by simpa using hz) (by omega)

theorem force1_fair {W T : Int} {cs : List Bool} {ds ls : List Int} (hf : fairB W T cs ds ls = true) : fairB W T cs ds (force1 W T cs ds ls) = true := by
  rcases one_cases W T cs ds ls with h1 | ⟨k, hk, he, hc, hz, hol, hob, hw⟩
  · simp [force1, h1, hf]
  · rw [force1, he, if_neg (by omega)]
    exact optB_fair (fairB_ok hf) hob

def forceAllI (W T : Int) (cs : List Bool) (ds ls : List Int) : List Int := forceAllN W T cs ds ls.length ls
def forceAllL (W T : Int) (cs : List Bool) (ds ls : List Int) : List Int := if fairB W T cs ds ls then forceAllI W T cs ds ls else []
theorem forceAllN_length (W T : Int) (cs : List Bool) (ds : List Int) : ∀ (n : Nat) (ls : List Int), (forceAllN W T cs ds n ls).length = ls.length
  | 0, ls => rfl
  | n + 1, ls => by
    rw [forceAllN]; split
    · rw [forceAllN_length, force1_length]
    · rfl
theorem forceAllL_length (W T : Int) (cs : List Bool) (ds ls : List Int) : (forceAllL W T cs ds ls).length ≤ ls.length := by
  unfold forceAllL; split
  · exact Nat.le_of_eq (forceAllN_length ..)
  · simp
theorem zeros_le (ls : List Int) : zeros ls ≤ ls.length := List.countP_le_length

/-- One step of forcing, at a count that is enough. -/
theorem forceAllN_step {W T : Int} {cs : List Bool} {ds ls : List Int} {n : Nat} (hn : zeros ls ≤ n) :
    (force1B W T cs ds ls = false ∧ forceAllN W T cs ds n ls = ls) ∨ (∃ m, n = m + 1 ∧ force1B W T cs ds ls = true ∧ zeros (force1 W T cs ds ls) ≤ m ∧ forceAllN W T cs ds n ls = forceAllN W T cs ds m (force1 W T cs ds ls)) := by
  cases hb : force1B W T cs ds ls with
  | false =>
    left
    refine ⟨rfl, ?_⟩
    cases n with
    | zero => rfl
    | succ m => simp [forceAllN, hb]
  | true =>
    right
    have hz := force1_zeros hb
    cases n with
    | zero => omega
    | succ m => exact ⟨m, rfl, rfl, by omega, by simp [forceAllN, hb]⟩

theorem s_impl_Region_forceAll (W T : Int) (cs : List Bool) (ds ls : List Int) (hf : fairB W T cs ds ls = true) :
    SoundAt Tryz.prog n_impl_Region_forceAll [.agg [.v (.int .i64 W), .v (.int .i64 T), .sl 1 1 (bools cs)], .sl 1 1 (ints ds), .sl 1 1 (ints ls)] (.os 1 (ints (forceAllI W T cs ds ls))) [.bot, .bot, .bot] := by
  refine fn_ok (md := md0) (ms := [false, false, false]) k_impl_Region_forceAll (by simp) ?_
  obtain ⟨hr, e1, e2, _⟩ := okB_W (fairB_ok hf)
  have h36 := regB_len hr
  simp [c_impl_Region_forceAll]
  refine loop_by (fun m E H => ∃ l, zeros l ≤ m ∧ l.length = ls.length ∧ fairB W T cs ds l = true ∧ forceAllN W T cs ds m l = forceAllI W T cs ds ls ∧
    ((H = [some (.box [.v (.int .i64 W), .v (.int .i64 T), .sl 1 1 (bools cs)])] ∧ E = [(1, .sl 1 1 (ints ds)), (2, .sl 1 1 (ints l)), (3, .lp 0 0 0 0)]) ∨
     (H = [some (.arr 1 (ints l)), some (.box [.v (.int .i64 W), .v (.int .i64 T), .sl 1 1 (bools cs)])] ∧ E = [(1, .sl 1 1 (ints ds)), (2, .ls 1 0 0 ls.length), (3, .lp 0 1 0 0)]))) ls.length ⟨ls, zeros_le ls, rfl, hf, rfl, .inl (by simp)⟩ ?_
  rintro J hJ m E H ⟨l, hz, hll, hfl, hn, hEH⟩
  have one := s_impl_Region_force W T cs ds l (fairB_ok hfl)
  have hfl2 := force1_fair hfl
  have h1 := force1_length W T cs ds l
  have htk : (ints (force1 W T cs ds l)).take ls.length = ints (force1 W T cs ds l) := List.take_of_length_le (by simp [h1, hll])
  have htl : (ints l).take ls.length = ints l := List.take_of_length_le (by simp [hll])
  rcases hEH with ⟨rfl, rfl⟩ | ⟨rfl, rfl⟩ <;>
  · simp [c_impl_Region_forceAll_L0, htl]
    refine call_on one ?_
    rcases forceAllN_step (W := W) (T := T) (cs := cs) (ds := ds) hz with ⟨hbb, hx⟩ | ⟨k, rfl, hbb, hz2, hx⟩
    · have e9 : force1 W T cs ds l = l := by simp [force1B] at hbb; simp [force1, hbb]
      simp [hbb, h1, hll, htk, htl, e9, ← hn, hx]
    · simp [hbb, h1, hll, htk, htl]
      exact ⟨_, by omega, hJ _ _ _ ⟨force1 W T cs ds l, hz2, by omega, hfl2, by rw [← hx, hn], .inr ⟨rfl, rfl⟩⟩⟩

theorem s_spec_ForceAll (W T : Int) (cs : List Bool) (ds ls : List Int) (hb : cs.length < 2 ^ 40) (hd : ds.length < 2 ^ 40) (hl : ls.length < 2 ^ 40) :
    SoundAt Tryz.prog n_spec_ForceAll [.agg [.v (.int .i64 W), .v (.int .i64 T), .sl 1 1 (bools cs)], .sl 1 1 (ints ds), .sl 1 1 (ints ls)] (.os 1 (ints (forceAllL W T cs ds ls))) [.bot, .bot, .bot] := by
  refine fn_ok (md := md0) (ms := [false, false, false]) k_spec_ForceAll (by simp) ?_
  simp [c_spec_ForceAll]
  refine call_on (s_spec_FairOk W T cs ds ls hb hd hl) ?_
  cases hf : fairB W T cs ds ls with
  | false => simp [forceAllL, hf]
  | true =>
  simp
  refine ⟨by omega, ?_⟩
  refine loop_by (fun m E H => ∃ l, zeros l ≤ m ∧ l.length = ls.length ∧ fairB W T cs ds l = true ∧ forceAllN W T cs ds m l = forceAllI W T cs ds ls ∧ H = [some (.box [.v (.int .i64 W), .v (.int .i64 T), .sl 1 1 (bools cs)]), some (.arr 1 (ints l))] ∧
    E = [(1, .sl 1 1 (ints ds)), (3, .lp 0 0 0 0), (7, .ls 1 1 0 ls.length)]) ls.length ⟨ls, zeros_le ls, rfl, hf, rfl, by simp⟩ ?_
  rintro J hJ m E H ⟨l, hz, hll, hfl, hn, rfl, rfl⟩
  have one := s_spec_ForceOne W T cs ds l hb hd (by omega)
  have eL : forceL W T cs ds l = force1 W T cs ds l := by simp [forceL, hfl]
  have eB : forceB W T cs ds l = force1B W T cs ds l := by simp [forceB, hfl]
  rw [eL, eB] at one
  have hfl2 := force1_fair hfl
  have h1 := force1_length W T cs ds l
  have htk : (ints (force1 W T cs ds l)).take ls.length = ints (force1 W T cs ds l) := List.take_of_length_le (by simp [h1, hll])
  have htl : (ints l).take ls.length = ints l := List.take_of_length_le (by simp [hll])
  simp [c_spec_ForceAll_L0, htl]
  refine call_on one ?_
  rcases forceAllN_step (W := W) (T := T) (cs := cs) (ds := ds) hz with ⟨hbb, hx⟩ | ⟨k, rfl, hbb, hz2, hx⟩
  · simp [hbb, h1, hll, htk, htl, forceAllL, hf, ← hn, hx]
  · simp [hbb, h1, hll, htk, htl]
    exact ⟨_, by omega, hJ _ _ _ ⟨force1 W T cs ds l, hz2, by omega, hfl2, by rw [← hx, hn], rfl, rfl⟩⟩

end Go.Proofs.Dev
