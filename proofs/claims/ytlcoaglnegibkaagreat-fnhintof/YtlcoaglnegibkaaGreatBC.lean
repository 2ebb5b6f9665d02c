/- Contracts of the functions of the program over slots and rows, each proved against the program itself; no condition beyond those that each theorem names. -/
import Derived.Test.YtlcoaglnegibkaaGreatAD
import Derived.Test.YtlcoaglnegibkaaGreatAO
import Derived.Test.YtlcoaglnegibkaaGreatBA

set_option linter.unusedSimpArgs false
set_option linter.unusedVariables false

namespace Go.Proofs.Dev
set_option linter.unusedSimpArgs false
set_option maxRecDepth 100000

theorem s_laws_sameInts (xs ys : List Int) (ha : xs.length < 2 ^ 40) :
    SoundAt Tryz.prog n_laws_sameInts [.sl 1 1 (ints xs), .sl 1 1 (ints ys)] (.v (.bool (decide (xs = ys)))) [.bot, .bot] := by
  refine fn_ok (md := md0) (ms := [false, false]) k_laws_sameInts (by simp) ?_
  simp [c_laws_sameInts]
  refine ⟨fun h => ?_, fun hl => ?_⟩
  · intro e; subst e; exact h rfl
  refine loop_by (fun m E H => ∃ i : Nat, m = xs.length - i ∧ i ≤ xs.length ∧ xs.take i = ys.take i ∧ H = [] ∧ E = [(0, .sl 1 1 (ints xs)), (1, .sl 1 1 (ints ys)), (5, .v (.int .i64 i))]) xs.length ⟨0, by simp⟩ ?_
  rintro J hJ m E H ⟨i, rfl, hi, he, rfl, rfl⟩
  by_cases h : i < xs.length
  case neg =>
    have h1 : i = xs.length := by omega
    subst h1
    have e : xs = ys := by
      rw [List.take_length] at he
      rw [he]; exact List.take_of_length_le (by omega)
    simp [c_laws_sameInts_L0, e]
  have h2 : i < ys.length := by omega
  have key : (ati xs i = ati ys i) → xs.take (i + 1) = ys.take (i + 1) := by
    intro e
    rw [List.take_succ_eq_append_getElem h, List.take_succ_eq_append_getElem (by omega), he]
    simp [ati, h, h2] at e
    rw [e]
  have key2 : ¬ (ati xs i = ati ys i) → ¬ xs = ys := fun e e2 => e (by rw [e2])
  by_cases e : ati xs i = ati ys i
  · simp [c_laws_sameInts_L0, h, h2, e]
    exact ⟨by omega, _, by omega, hJ _ _ _ ⟨i + 1, rfl, h, key e, rfl, rfl⟩⟩
  · simp [c_laws_sameInts_L0, h, h2, e, key2 e]

theorem s_laws_hasAll (xs ls : List Int) (ha : xs.length < 2 ^ 40) :
    SoundAt Tryz.prog n_laws_hasAll [.sl 1 1 (ints xs), .sl 1 1 (ints ls)] (.v (.bool (decide (xs.length = ls.length) && hasB ls xs))) [.bot, .bot] := by
  refine fn_ok (md := md0) (ms := [false, false]) k_laws_hasAll (by simp) ?_
  simp [c_laws_hasAll]
  refine ⟨fun h => ?_, fun hl => ?_⟩
  · intro e; omega
  have hl : xs.length = ls.length := by omega
  refine loop_by (fun m E H => ∃ i : Nat, m = xs.length - i ∧ i ≤ xs.length ∧ allB i (fun k => decide (ati ls k = 0) || decide (ati xs k = ati ls k)) = true ∧ H = [] ∧ E = [(0, .sl 1 1 (ints xs)), (1, .sl 1 1 (ints ls)), (5, .v (.int .i64 i))]) xs.length ⟨0, by simp [allB]⟩ ?_
  rintro J hJ m E H ⟨i, rfl, hi, he, rfl, rfl⟩
  by_cases h : i < xs.length
  case neg =>
    have h1 : i = xs.length := by omega
    subst h1
    have e : hasB ls xs = true := by unfold hasB; rw [← hl]; exact he
    simp [c_laws_hasAll_L0, hl, e]
  have h2 : i < ls.length := by omega
  by_cases e0 : ati ls i = 0
  · simp [c_laws_hasAll_L0, h, h2, e0]
    exact ⟨by omega, _, by omega, hJ _ _ _ ⟨i + 1, rfl, h, by rw [allB_succ, he]; simp [e0], rfl, rfl⟩⟩
  by_cases e : ati xs i = ati ls i
  · simp [c_laws_hasAll_L0, h, h2, e0, e]
    exact ⟨by omega, _, by omega, hJ _ _ _ ⟨i + 1, rfl, h, by rw [allB_succ, he]; simp [e], rfl, rfl⟩⟩
  · have ef : hasB ls xs = false := allB_false (k := i) h2 (by simp [e0, e])
    simp [c_laws_hasAll_L0, h, h2, e0, e, ef]

theorem s_impl_LaidMany (W T : Int) (cs : List Bool) (ls : List Int) (hb : cs.length < 2 ^ 40) (hl : ls.length < 2 ^ 40) :
    SoundAt Tryz.prog n_impl_LaidMany [.agg [.v (.int .i64 W), .v (.int .i64 T), .sl 1 1 (bools cs)], .sl 1 1 (ints ls)] (.v (.int .i64 (if (regB W T cs && laysB W T cs ls) = true then (domN ls : Int) else -1))) [.bot, .bot] := by
  refine fn_ok (md := md0) (ms := [false, false]) k_impl_LaidMany (by simp) ?_
  simp [c_impl_LaidMany]
  refine call_on (s_impl_LaidOk W T cs ls hb hl) ?_
  cases hp : (regB W T cs && laysB W T cs ls) with
  | false => simp; simpa using hp
  | true =>
  have h2 := hp
  simp only [Bool.and_eq_true] at h2
  simp [h2.1, h2.2]
  refine call_on (s_impl_ways12 ls hl) ?_
  simp
  rfl

theorem s_impl_CellsMany (W T : Int) (cs : List Bool) (hb : cs.length < 2 ^ 40) :
    SoundAt Tryz.prog n_impl_CellsMany [.agg [.v (.int .i64 W), .v (.int .i64 T), .sl 1 1 (bools cs)]] (.v (.int .i64 (if regB W T cs = true then (manyOf cs : Int) else -1))) [.bot] := by
  refine fn_ok (md := md0) (ms := [false]) k_impl_CellsMany (by simp) ?_
  simp [c_impl_CellsMany]
  refine call_on (s_impl_RegionValid W T cs hb) ?_
  cases hr : regB W T cs with
  | false => simp
  | true =>
  simp
  refine call_on (s_impl_many cs hb) ?_
  simp

def layR (W T : Int) (cs : List Bool) (ls : List Int) (cell way : Int) : List Int := if (regB W T cs && laysB W T cs ls) = true then layOneL W T cs ls cell way else []
def layRB (W T : Int) (cs : List Bool) (ls : List Int) (cell way : Int) : Bool := regB W T cs && laysB W T cs ls && freeB W T cs ls cell way

theorem s_impl_LayOne (W T : Int) (cs : List Bool) (ls : List Int) (cell way : Int) (hb : cs.length < 2 ^ 40) (hl : ls.length < 2 ^ 40) :
    SoundAt Tryz.prog n_impl_LayOne [.agg [.v (.int .i64 W), .v (.int .i64 T), .sl 1 1 (bools cs)], .sl 1 1 (ints ls), .v (.int .i64 cell), .v (.int .i64 way)]
      (.tup [.os 1 (ints (layR W T cs ls cell way)), .v (.bool (layRB W T cs ls cell way))]) [.bot, .bot, .bot, .bot] := by
  refine fn_ok (md := md0) (ms := [false, false, false, false]) k_impl_LayOne (by simp) ?_
  simp [c_impl_LayOne]
  refine call_on (s_impl_LaidOk W T cs ls hb hl) ?_
  cases hp : (regB W T cs && laysB W T cs ls) with
  | false =>
    have e1 : layR W T cs ls cell way = [] := by unfold layR; rw [hp]; rfl
    have e2 : layRB W T cs ls cell way = false := by unfold layRB; rw [hp]; rfl
    rw [e1, e2]; simp
  | true =>
  have e1 : layR W T cs ls cell way = layOneL W T cs ls cell way := by unfold layR; rw [hp]; rfl
  have e2 : layRB W T cs ls cell way = freeB W T cs ls cell way := by unfold layRB; rw [hp]; rfl
  rw [e1, e2]
  have h2 := hp
  simp only [laysB, Bool.and_eq_true, decide_eq_true_eq] at h2
  simp
  refine call_on (s_impl_Region_free W T cs ls cell way h2.1 h2.2.1) ?_
  cases hf : freeB W T cs ls cell way with
  | false =>
    simp [layOneL, hf]
    refine call_on (s_impl_clone_int ls hl) ?_
    simp
  | true =>
    simp [layOneL, hf]
    refine call_on (s_impl_Region_lay W T cs ls cell way h2.1 h2.2.1 hf) ?_
    simp

theorem s_impl_field (W T : Int) (h1 : 0 ≤ W ∧ W ≤ 6) (h2 : 0 ≤ T ∧ T ≤ 6) :
    SoundAt Tryz.prog n_impl_field [.v (.int .i64 W), .v (.int .i64 T)] (.agg [.v (.int .i64 W), .v (.int .i64 T), .os 1 (bools (List.replicate (W * T).toNat false))]) [.bot, .bot] := by
  refine fn_ok (md := md0) (ms := [false, false]) k_impl_field (by simp) ?_
  have p0 : 0 ≤ W * T := Int.mul_nonneg h1.1 h2.1
  have p1 : W * T ≤ 6 * 6 := Int.mul_le_mul h1.2 h2.2 h2.1 (by omega)
  simp [c_impl_field, bools_rep, p0]
  have e : (bools (List.replicate (W * T).toNat false)).length = (W * T).toNat := by simp
  exact ⟨by omega, by omega, List.take_of_length_le (Nat.le_of_eq e)⟩

def boxL (W T : Int) : List Bool := List.replicate (W * T).toNat true
def boxB (W T : Int) : Bool := decide (1 ≤ W ∧ W ≤ 6 ∧ 1 ≤ T ∧ T ≤ 6 ∧ W * T ≤ 24)
theorem s_impl_RegionBox23 : SoundAt Tryz.prog n_impl_RegionBox [.v (.int .i64 2), .v (.int .i64 3)] (.agg [.v (.int .i64 2), .v (.int .i64 3), .os 1 (bools (List.replicate 6 true))]) [.bot, .bot] := by
  refine fn_ok (md := md0) (ms := [false, false]) k_impl_RegionBox (by simp) ?_
  simp [c_impl_RegionBox]
  refine call_on (s_impl_in_t (x := 2) (lo := 1) (hi := 6) (by omega)) ?_
  simp
  refine call_on (s_impl_in_t (x := 3) (lo := 1) (hi := 6) (by omega)) ?_
  simp
  refine call_on (s_impl_field 2 3 (by omega) (by omega)) ?_
  simp
  refine loop_by (fun m E H => ∃ i : Nat, m = 6 - i ∧ i ≤ 6 ∧ H = [some (.box [.v (.int .i64 0), .v (.int .i64 0), .os 1 []]), some (.box [.v (.int .i64 2), .v (.int .i64 3), .ls 1 2 0 6]), some (.arr 1 (bools (List.replicate i true ++ List.replicate (6 - i) false)))] ∧
    E = [(4, .lp 0 0 0 0), (5, .lp 0 1 0 0), (27, .v (.int .i64 6)), (28, .v (.int .i64 i))]) 6 ⟨0, by simp⟩ ?_
  rintro J hJ m E H ⟨i, rfl, hi, rfl, rfl⟩
  by_cases h : i < 6
  · have h' : (i : Int) < 6 := by omega
    have e1 : (List.replicate i true ++ List.replicate (6 - i) false).set i true = List.replicate (i + 1) true ++ List.replicate (6 - (i + 1)) false := by
      have e2 : 6 - i = (6 - (i + 1)) + 1 := by omega
      rw [e2, List.replicate_succ, List.set_append_right _ _ (by simp)]
      simp [List.replicate_succ']
    simp [c_impl_RegionBox_L0, h', bools_set, e1, h]
    exact ⟨by omega, by omega, _, by omega, hJ _ _ _ ⟨i + 1, rfl, h, by rw [show 5 - i = 6 - (i + 1) by omega], by simp⟩⟩
  · have : i = 6 := by omega
    subst this
    simp [c_impl_RegionBox_L0]
    rfl

theorem s_laws_alive : SoundAt Tryz.prog n_laws_alive [] (.v (.bool true)) [] := by
  refine fn_ok (md := md0) (ms := []) k_laws_alive (by simp) ?_
  simp [c_laws_alive]
  refine call_on s_impl_RegionBox23 ?_
  simp
  refine call_on (s_impl_CellsMany 2 3 (List.replicate 6 true) (by simp)) ?_
  simp
  exact ⟨rfl, by decide⟩

end Go.Proofs.Dev
