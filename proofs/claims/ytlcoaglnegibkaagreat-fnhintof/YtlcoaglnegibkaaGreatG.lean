/- Contracts of the functions of the program over slots and rows, each proved against the program itself; no condition beyond those that each theorem names. -/
import Derived.Test.YtlcoaglnegibkaaGreatF

set_option linter.unusedSimpArgs false
set_option linter.unusedVariables false

namespace Go.Proofs.Dev
set_option linter.unusedSimpArgs false
set_option maxRecDepth 100000

@[simp] def md0 (f : Nat) : List Bool := if f = 999999 ∨ f = 999999 ∨ f = 999999 ∨ f = 999999 ∨ f = 999999 then [true, false] else if f = 81 ∨ f = 999999 ∨ f = 73 ∨ f = 65 ∨ f = 66 then [true] else []

theorem s_slices_Clip_int_int (xs : List Int) : SoundAt Tryz.prog n_slices_Clip_int_int [.os 1 (ints xs)] (.os 1 (ints xs)) [.bot] := by
  refine fn_ok (md := md0) (ms := [false]) k_slices_Clip_int_int (by simp) ?_
  simp [c_slices_Clip_int_int]

def marksB (n : Nat) (k : Int) : List Bool := (List.range n).map fun (j : Nat) => (k + j) % 3 == 0
def marksI (n : Nat) (k : Int) : List Int := (List.range n).map fun (j : Nat) => k + j

@[simp] theorem marksI_length (n : Nat) (k : Int) : (marksI n k).length = n := by simp [marksI]
@[simp] theorem marksB_length (n : Nat) (k : Int) : (marksB n k).length = n := by simp [marksB]

@[simp] theorem take_marksI (n : Nat) (k : Int) : (ints (marksI n k)).take n = ints (marksI n k) := by
  have := take_ints_all (marksI n k)
  rwa [marksI_length] at this
@[simp] theorem take_marksB (n : Nat) (k : Int) : (bools (marksB n k)).take n = bools (marksB n k) := by
  have := take_bools_all (marksB n k)
  rwa [marksB_length] at this

end Go.Proofs.Dev

namespace Go.Proofs.Dev
set_option linter.unusedSimpArgs false
set_option maxRecDepth 100000

theorem s_spec_l1In (x lo hi : Int) : SoundAt Tryz.prog n_spec_l1In [.v (.int .i64 x), .v (.int .i64 lo), .v (.int .i64 hi)] (.v (.bool (decide (lo ≤ x ∧ x ≤ hi)))) [.bot, .bot, .bot] := by
  refine fn_ok (md := md0) (ms := [false, false, false]) k_spec_l1In (by simp) ?_
  simp [c_spec_l1In]
  constructor
  · intro h; simp [h]
  · intro h; omega

theorem s_spec_l1Count (bs : List Bool) (hb : bs.length < 2 ^ 40) : SoundAt Tryz.prog n_spec_l1Count [.sl 1 1 (bools bs)] (.v (.int .i64 (manyOf bs))) [.bot] := by
  refine fn_ok (md := md0) (ms := [false]) k_spec_l1Count (by simp) ?_
  simp [c_spec_l1Count]
  refine loop_by (fun m E H => ∃ i : Nat, m = bs.length - i ∧ i ≤ bs.length ∧ H = [] ∧ E = [(0, .sl 1 1 (bools bs)), (3, .v (.int .i64 (manyOf (bs.take i)))), (4, .v (.int .i64 i))]) bs.length ⟨0, by simp [manyOf]⟩ ?_
  rintro J hJ m E H ⟨i, rfl, hi, rfl, rfl⟩
  simp [c_spec_l1Count_L0]
  refine ⟨fun h => ?_, fun h => ?_⟩
  · have e := manyOf_take bs i h
    have e3 := manyOf_le (bs.take i)
    rw [List.length_take] at e3
    simp [h]
    refine ⟨fun hb => ⟨by omega, by omega, _, by omega, hJ _ _ _ ⟨i + 1, rfl, h, rfl, ?_⟩⟩, fun hb => ⟨by omega, _, by omega, hJ _ _ _ ⟨i + 1, rfl, h, rfl, ?_⟩⟩⟩ <;> simp [e, hb]
  · have : i = bs.length := by omega
    subst this
    simp

theorem s_spec_RegionValid (W T : Int) (cs : List Bool) (hb : cs.length < 2 ^ 40) : SoundAt Tryz.prog n_spec_RegionValid [.agg [.v (.int .i64 W), .v (.int .i64 T), .sl 1 1 (bools cs)]] (.v (.bool (regB W T cs))) [.bot] := by
  refine fn_ok (md := md0) (ms := [false]) k_spec_RegionValid (by simp) ?_
  simp [c_spec_RegionValid]
  refine call_on (s_spec_l1In W 1 6) ?_
  simp
  refine ⟨fun h h' => ?_, fun h => ?_⟩
  · refine call_on (s_spec_l1In T 1 6) ?_
    have hx : T ≤ 6 → W * T ≤ 36 ∧ (1 ≤ T → 1 ≤ W * T) := fun ht => ⟨(by
      by_cases h0 : 0 ≤ T
      · exact Int.mul_le_mul h' ht h0 (by omega)
      · have : W * T ≤ 0 := Int.mul_nonpos_of_nonneg_of_nonpos (by omega) (by omega)
        omega), fun h1 => Int.mul_pos (by omega) (by omega)⟩
    simp
    refine ⟨fun h1 h2 => ⟨by have := hx h2; omega, fun h3 => ?_, fun h3 => ?_⟩, fun h1 => ?_⟩
    · refine call_on (s_spec_l1Count cs hb) ?_
      simp [regB, h, h', h1, h2, h3]
      omega
    · simp [regB]; omega
    · simp [regB]; omega
  · simp [regB]; omega

theorem s_spec_l2Back (n : Int) (h : 0 ≤ n) (h2 : n < 2 ^ 60) : SoundAt Tryz.prog n_spec_l2Back [.v (.int .i64 n)] (.v (.int .i64 (backI n))) [.bot] := by
  refine fn_ok (md := md0) (ms := [false]) k_spec_l2Back (by simp) ?_
  simp [c_spec_l2Back, backI]
  omega

theorem s_spec_PairOf (a b : Int) (h1 : 0 ≤ a ∧ a ≤ 6) (h2 : 0 ≤ b ∧ b ≤ 6) : SoundAt Tryz.prog n_spec_PairOf [.v (.int .i64 a), .v (.int .i64 b)] (.v (.int .i64 (pairI a b))) [.bot, .bot] := by
  refine fn_ok (md := md0) (ms := [false, false]) k_spec_PairOf (by simp) ?_
  simp [c_spec_PairOf]
  refine call_on (s_spec_l1In a 0 6) ?_
  simp [h1]
  refine call_on (s_spec_l1In b 0 6) ?_
  simp [h2, pairI]
  rw [Int.min_def, Int.max_def]
  (repeat' split) <;> omega

theorem s_spec_l2Step (W T : Int) (cs : List Bool) (k way : Int) (hr : regB W T cs = true) (h0 : 0 ≤ k) (h1 : k < cs.length) :
    SoundAt Tryz.prog n_spec_l2Step [.agg [.v (.int .i64 W), .v (.int .i64 T), .sl 1 1 (bools cs)], .v (.int .i64 k), .v (.int .i64 way)] (.v (.int .i64 (stepI W T k way))) [.bot, .bot, .bot] := by
  refine fn_ok (md := md0) (ms := [false, false, false]) k_spec_l2Step (by simp) ?_
  obtain ⟨w1, w2, t1, t2, l1, _⟩ := regB_W hr
  have hl := regB_len hr
  have hxy := cell_xy (T := T) (k := k) w1 h0 (by omega)
  have e1 : stepI W T k way = if way = 1 ∧ k % W < W - 1 then k + 1 else if way = 2 ∧ k / W < T - 1 then k + W else if way = 3 ∧ 0 < k % W then k - 1 else if way = 4 ∧ 0 < k / W then k - W else -1 := rfl
  rw [e1]
  clear e1 hr
  generalize hA : k % W = A at *
  generalize hB : k / W = B at *
  by_cases c1 : way = 1
  · subst c1; simp [c_spec_l2Step, hA, hB]; omega
  by_cases c2 : way = 2
  · subst c2; simp [c_spec_l2Step, hA, hB]; omega
  by_cases c3 : way = 3
  · subst c3; simp [c_spec_l2Step, hA, hB]; omega
  by_cases c4 : way = 4
  · subst c4; simp [c_spec_l2Step, hA, hB]; omega
  simp [c_spec_l2Step, c1, c2, c3, c4]

end Go.Proofs.Dev

namespace Go.Proofs.Dev
set_option linter.unusedSimpArgs false
set_option maxRecDepth 100000

theorem s_spec_PuzzleValid (W T : Int) (cs : List Bool) (ds : List Int) (hb : cs.length < 2 ^ 40) (hd : ds.length < 2 ^ 40) :
    SoundAt Tryz.prog n_spec_PuzzleValid [.agg [.v (.int .i64 W), .v (.int .i64 T), .sl 1 1 (bools cs)], .sl 1 1 (ints ds)] (.v (.bool (regB W T cs && digsB cs ds))) [.bot, .bot] := by
  refine fn_ok (md := md0) (ms := [false, false]) k_spec_PuzzleValid (by simp) ?_
  simp [c_spec_PuzzleValid]
  refine call_on (s_spec_RegionValid W T cs hb) ?_
  simp
  refine ⟨fun hr => ⟨fun hl => ?_, fun hl => ?_⟩, fun hr => ?_⟩
  · intro _
    simp [digsB]; omega
  · have hl' : ds.length = cs.length := by omega
    refine loop_by (fun m E H => ∃ i : Nat, m = ds.length - i ∧ i ≤ ds.length ∧ allB i (fun k => digAt cs ds k) = true ∧ H = [some (.box [.v (.int .i64 W), .v (.int .i64 T), .sl 1 1 (bools cs)])] ∧ E = [(1, .sl 1 1 (ints ds)), (2, .lp 0 0 0 0), (5, .v (.int .i64 i))]) ds.length ⟨0, by simp [allB_zero]⟩ ?_
    rintro J hJ m E H ⟨i, rfl, hi, ha, rfl, rfl⟩
    by_cases h : i < ds.length
    · have h2 : i < cs.length := by omega
      have next : digAt cs ds i = true → again J (ds.length - i) [(1, .sl 1 1 (ints ds)), (2, .lp 0 0 0 0), (5, .v (.int .i64 (i + 1)))] [some (.box [.v (.int .i64 W), .v (.int .i64 T), .sl 1 1 (bools cs)])] :=
        fun hd => ⟨_, by omega, hJ _ _ _ ⟨i + 1, rfl, h, by rw [allB_succ, ha, hd]; rfl, rfl, rfl⟩⟩
      have stop : digAt cs ds i = false → digsB cs ds = false := fun hd => by simp only [digsB, hl', decide_true, Bool.true_and]; exact allB_false h2 hd
      cases hc : atb cs i with
      | true =>
        simp [c_spec_PuzzleValid_L0, h, h2, hc]
        refine call_on (s_spec_l1In (ati ds i) 0 6) ?_
        simp [digAt, hc] at next stop ⊢
        (repeat' first | assumption | omega | apply And.intro | intro _) <;> first | omega | exact stop (by omega) | exact next (by omega) (by omega)
      | false =>
        simp [c_spec_PuzzleValid_L0, h, h2, hc]
        simp [digAt, hc] at next stop ⊢
        exact ⟨fun hx => fun _ => stop hx, fun hx => ⟨by omega, next hx⟩⟩
    · have : i = ds.length := by omega
      subst this
      simp [c_spec_PuzzleValid_L0]
      simp [digsB, hr, hl'] at ha ⊢
      exact ha
  · simp [hr]

end Go.Proofs.Dev
