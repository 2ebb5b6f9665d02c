/- Contracts of the functions of the program over slots and rows, each proved against the program itself; no condition beyond those that each theorem names. -/
import Derived.Test.YtlcoaglnegibkaaGreatH

set_option linter.unusedSimpArgs false
set_option linter.unusedVariables false

namespace Go.Proofs.Dev
set_option linter.unusedSimpArgs false
set_option maxRecDepth 100000

theorem s_impl_in (x lo hi : Int) : SoundAt Tryz.prog n_impl_in [.v (.int .i64 x), .v (.int .i64 lo), .v (.int .i64 hi)] (.v (.bool (decide (lo ≤ x ∧ x ≤ hi)))) [.bot, .bot, .bot] := by
  refine fn_ok (md := md0) (ms := [false, false, false]) k_impl_in (by simp) ?_
  simp [c_impl_in]
  constructor
  · intro h; simp [h]
  · intro h; omega

theorem s_impl_in_t {x lo hi : Int} (h : lo ≤ x ∧ x ≤ hi) : SoundAt Tryz.prog n_impl_in [.v (.int .i64 x), .v (.int .i64 lo), .v (.int .i64 hi)] (.v (.bool true)) [.bot, .bot, .bot] := by
  have := s_impl_in x lo hi
  rwa [decide_eq_true h] at this
theorem s_impl_in_f {x lo hi : Int} (h : ¬ (lo ≤ x ∧ x ≤ hi)) : SoundAt Tryz.prog n_impl_in [.v (.int .i64 x), .v (.int .i64 lo), .v (.int .i64 hi)] (.v (.bool false)) [.bot, .bot, .bot] := by
  have := s_impl_in x lo hi
  rwa [decide_eq_false h] at this

theorem s_impl_many (bs : List Bool) (hb : bs.length < 2 ^ 40) : SoundAt Tryz.prog n_impl_many [.sl 1 1 (bools bs)] (.v (.int .i64 (manyOf bs))) [.bot] := by
  refine fn_ok (md := md0) (ms := [false]) k_impl_many (by simp) ?_
  simp [c_impl_many]
  refine loop_by (fun m E H => ∃ i : Nat, m = bs.length - i ∧ i ≤ bs.length ∧ H = [] ∧ E = [(3, .v (.int .i64 (manyOf (bs.take i)))), (6, .sl 1 1 (bools bs)), (7, .v (.int .i64 bs.length)), (8, .v (.int .i64 i))]) bs.length ⟨0, by simp [manyOf]⟩ ?_
  rintro J hJ m E H ⟨i, rfl, hi, rfl, rfl⟩
  simp [c_impl_many_L0]
  refine ⟨fun h => ?_, fun h => ?_⟩
  · have e := manyOf_take bs i h
    have e3 := manyOf_le (bs.take i)
    rw [List.length_take] at e3
    simp [h]
    refine ⟨fun hb => ⟨by omega, by omega, _, by omega, hJ _ _ _ ⟨i + 1, rfl, h, rfl, ?_⟩⟩, fun hb => ⟨by omega, _, by omega, hJ _ _ _ ⟨i + 1, rfl, h, rfl, ?_⟩⟩⟩ <;> simp [e, hb]
  · have : i = bs.length := by omega
    subst this
    simp

theorem s_impl_RegionValid (W T : Int) (cs : List Bool) (hb : cs.length < 2 ^ 40) : SoundAt Tryz.prog n_impl_RegionValid [.agg [.v (.int .i64 W), .v (.int .i64 T), .sl 1 1 (bools cs)]] (.v (.bool (regB W T cs))) [.bot] := by
  refine fn_ok (md := md0) (ms := [false]) k_impl_RegionValid (by simp) ?_
  simp [c_impl_RegionValid]
  refine call_on (s_impl_in W 1 6) ?_
  simp
  refine ⟨fun h h' => ?_, fun h => ?_⟩
  · refine call_on (s_impl_in T 1 6) ?_
    have hx : T ≤ 6 → W * T ≤ 36 ∧ (1 ≤ T → 1 ≤ W * T) := fun ht => ⟨(by
      by_cases h0 : 0 ≤ T
      · exact Int.mul_le_mul h' ht h0 (by omega)
      · have : W * T ≤ 0 := Int.mul_nonpos_of_nonneg_of_nonpos (by omega) (by omega)
        omega), fun h1 => Int.mul_pos (by omega) (by omega)⟩
    simp
    refine ⟨fun h1 h2 => ⟨by have := hx h2; omega, fun h3 => ?_, fun h3 => ?_⟩, fun h1 => ?_⟩
    · refine call_on (s_impl_many cs hb) ?_
      simp [regB, h, h', h1, h2, h3]
      omega
    · simp [regB]; omega
    · simp [regB]; omega
  · simp [regB]; omega

theorem s_impl_back (n : Int) (h : 0 ≤ n) (h2 : n < 2 ^ 60) : SoundAt Tryz.prog n_impl_back [.v (.int .i64 n)] (.v (.int .i64 (backI n))) [.bot] := by
  refine fn_ok (md := md0) (ms := [false]) k_impl_back (by simp) ?_
  simp [c_impl_back, backI]
  omega

theorem s_impl_pair (a b : Int) (h1 : 0 ≤ a ∧ a ≤ 6) (h2 : 0 ≤ b ∧ b ≤ 6) : SoundAt Tryz.prog n_impl_pair [.v (.int .i64 a), .v (.int .i64 b)] (.v (.int .i64 (pairI a b))) [.bot, .bot] := by
  refine fn_ok (md := md0) (ms := [false, false]) k_impl_pair (by simp) ?_
  simp [c_impl_pair, pairI]
  rw [Int.min_def, Int.max_def]
  (repeat' split) <;> omega

theorem s_impl_Region_xy (W T : Int) (cs : List Bool) (k : Int) (hW : 1 ≤ W) (h0 : 0 ≤ k) (h1 : k < 2 ^ 40) :
    SoundAt Tryz.prog n_impl_Region_xy [.agg [.v (.int .i64 W), .v (.int .i64 T), .sl 1 1 (bools cs)], .v (.int .i64 k)] (.tup [.v (.int .i64 (k % W)), .v (.int .i64 (k / W))]) [.bot, .bot] := by
  refine fn_ok (md := md0) (ms := [false, false]) k_impl_Region_xy (by simp) ?_
  simp [c_impl_Region_xy]
  omega

theorem s_impl_Region_step (W T : Int) (cs : List Bool) (k way : Int) (hr : regB W T cs = true) (h0 : 0 ≤ k) (h1 : k < cs.length) :
    SoundAt Tryz.prog n_impl_Region_step [.agg [.v (.int .i64 W), .v (.int .i64 T), .sl 1 1 (bools cs)], .v (.int .i64 k), .v (.int .i64 way)] (.v (.int .i64 (stepI W T k way))) [.bot, .bot, .bot] := by
  refine fn_ok (md := md0) (ms := [false, false, false]) k_impl_Region_step (by simp) ?_
  obtain ⟨w1, w2, t1, t2, l1, _⟩ := regB_W hr
  have hl := regB_len hr
  have hxy := cell_xy (T := T) (k := k) w1 h0 (by omega)
  have e1 : stepI W T k way = if way = 1 ∧ k % W < W - 1 then k + 1 else if way = 2 ∧ k / W < T - 1 then k + W else if way = 3 ∧ 0 < k % W then k - 1 else if way = 4 ∧ 0 < k / W then k - W else -1 := rfl
  rw [e1]
  clear e1 hr
  simp [c_impl_Region_step]
  refine call_on (s_impl_Region_xy W T cs k w1 h0 (by omega)) ?_
  generalize hA : k % W = A at *
  generalize hB : k / W = B at *
  have hBW : 0 ≤ B * W := Int.mul_nonneg hxy.2.2.1 (by omega)
  have hBW2 : B ≤ 6 := by omega
  generalize hP : B * W = P at *
  by_cases c1 : way = 1
  · subst c1
    by_cases d : A < W - 1
    · simp [d]
      (repeat' first | assumption | omega | apply And.intro)
      refine call_on (s_impl_in_t (x := A + 1) (lo := 0) (hi := W - 1) (by omega)) ?_
      simp
      (repeat' first | assumption | omega | apply And.intro)
      refine call_on (s_impl_in_t (x := B) (lo := 0) (hi := T - 1) (by omega)) ?_
      simp [Int.add_mul, Int.sub_mul, hP]
      omega
    · simp [d]
      (repeat' first | assumption | omega | apply And.intro)
      refine call_on (s_impl_in_f (x := A + 1) (lo := 0) (hi := W - 1) (by omega)) ?_
      simp
  by_cases c2 : way = 2
  · subst c2
    by_cases d : B < T - 1
    · simp [d]
      (repeat' first | assumption | omega | apply And.intro)
      refine call_on (s_impl_in_t (x := A) (lo := 0) (hi := W - 1) (by omega)) ?_
      simp
      (repeat' first | assumption | omega | apply And.intro)
      refine call_on (s_impl_in_t (x := B + 1) (lo := 0) (hi := T - 1) (by omega)) ?_
      simp [Int.add_mul, Int.sub_mul, hP]
      omega
    · simp [d]
      (repeat' first | assumption | omega | apply And.intro)
      refine call_on (s_impl_in_t (x := A) (lo := 0) (hi := W - 1) (by omega)) ?_
      simp
      (repeat' first | assumption | omega | apply And.intro)
      refine call_on (s_impl_in_f (x := B + 1) (lo := 0) (hi := T - 1) (by omega)) ?_
      simp
  by_cases c3 : way = 3
  · subst c3
    by_cases d : 0 < A
    · simp [d]
      (repeat' first | assumption | omega | apply And.intro)
      refine call_on (s_impl_in_t (x := A - 1) (lo := 0) (hi := W - 1) (by omega)) ?_
      simp
      (repeat' first | assumption | omega | apply And.intro)
      refine call_on (s_impl_in_t (x := B) (lo := 0) (hi := T - 1) (by omega)) ?_
      simp [Int.add_mul, Int.sub_mul, hP]
      omega
    · simp [d]
      (repeat' first | assumption | omega | apply And.intro)
      refine call_on (s_impl_in_f (x := A - 1) (lo := 0) (hi := W - 1) (by omega)) ?_
      simp
  by_cases c4 : way = 4
  · subst c4
    by_cases d : 0 < B
    · simp [d]
      (repeat' first | assumption | omega | apply And.intro)
      refine call_on (s_impl_in_t (x := A) (lo := 0) (hi := W - 1) (by omega)) ?_
      simp
      (repeat' first | assumption | omega | apply And.intro)
      refine call_on (s_impl_in_t (x := B - 1) (lo := 0) (hi := T - 1) (by omega)) ?_
      simp [Int.add_mul, Int.sub_mul, hP]
      omega
    · simp [d]
      (repeat' first | assumption | omega | apply And.intro)
      refine call_on (s_impl_in_t (x := A) (lo := 0) (hi := W - 1) (by omega)) ?_
      simp
      (repeat' first | assumption | omega | apply And.intro)
      refine call_on (s_impl_in_f (x := B - 1) (lo := 0) (hi := T - 1) (by omega)) ?_
      simp
  simp [c1, c2, c3, c4]

theorem s_impl_puzzle (W T : Int) (cs : List Bool) (ds : List Int) (hb : cs.length < 2 ^ 40) (hd : ds.length < 2 ^ 40) :
    SoundAt Tryz.prog n_impl_puzzle [.agg [.v (.int .i64 W), .v (.int .i64 T), .sl 1 1 (bools cs)], .sl 1 1 (ints ds)] (.v (.bool (digsB cs ds))) [.bot, .bot] := by
  refine fn_ok (md := md0) (ms := [false, false]) k_impl_puzzle (by simp) ?_
  simp [c_impl_puzzle]
  refine ⟨fun hl => ?_, fun hl => ?_⟩
  · simp [digsB]; omega
  · have hl' : ds.length = cs.length := by omega
    refine loop_by (fun m E H => ∃ i : Nat, m = ds.length - i ∧ i ≤ ds.length ∧ allB i (fun k => digAt cs ds k) = true ∧ H = [some (.box [.v (.int .i64 W), .v (.int .i64 T), .sl 1 1 (bools cs)])] ∧ E = [(2, .lp 0 0 0 0), (13, .sl 1 1 (ints ds)), (14, .v (.int .i64 ds.length)), (15, .v (.int .i64 i))]) ds.length ⟨0, by simp [allB_zero]⟩ ?_
    rintro J hJ m E H ⟨i, rfl, hi, ha, rfl, rfl⟩
    by_cases h : i < ds.length
    · have h2 : i < cs.length := by omega
      have next : digAt cs ds i = true → again J (ds.length - i) [(2, .lp 0 0 0 0), (13, .sl 1 1 (ints ds)), (14, .v (.int .i64 ds.length)), (15, .v (.int .i64 (i + 1)))] [some (.box [.v (.int .i64 W), .v (.int .i64 T), .sl 1 1 (bools cs)])] :=
        fun hd => ⟨_, by omega, hJ _ _ _ ⟨i + 1, rfl, h, by rw [allB_succ, ha, hd]; rfl, rfl, rfl⟩⟩
      have stop : digAt cs ds i = false → digsB cs ds = false := fun hd => by simp only [digsB, hl', decide_true, Bool.true_and]; exact allB_false h2 hd
      cases hc : atb cs i with
      | true =>
        simp [c_impl_puzzle_L0, h, h2, hc]
        by_cases hx : 0 ≤ ati ds i ∧ ati ds i ≤ 6
        · refine call_on (s_impl_in_t hx) ?_
          simp [hc, h2]
          exact ⟨by omega, next (by simp [digAt, hc, hx])⟩
        · refine call_on (s_impl_in_f hx) ?_
          simp [hc, h2]
          exact stop (by simp [digAt, hc]; omega)
      | false =>
        simp [c_impl_puzzle_L0, h, h2, hc]
        simp [digAt, hc] at next stop ⊢
        exact ⟨fun hx => stop hx, fun hx => ⟨by omega, next hx⟩⟩
    · have : i = ds.length := by omega
      subst this
      simp [c_impl_puzzle_L0]
      simp [digsB, hl'] at ha ⊢
      exact ha

theorem s_impl_PuzzleValid (W T : Int) (cs : List Bool) (ds : List Int) (hb : cs.length < 2 ^ 40) (hd : ds.length < 2 ^ 40) :
    SoundAt Tryz.prog n_impl_PuzzleValid [.agg [.v (.int .i64 W), .v (.int .i64 T), .sl 1 1 (bools cs)], .sl 1 1 (ints ds)] (.v (.bool (regB W T cs && digsB cs ds))) [.bot, .bot] := by
  refine fn_ok (md := md0) (ms := [false, false]) k_impl_PuzzleValid (by simp) ?_
  simp [c_impl_PuzzleValid]
  refine call_on (s_impl_RegionValid W T cs hb) ?_
  cases hr : regB W T cs with
  | false => simp
  | true =>
    simp
    refine call_on (s_impl_puzzle W T cs ds hb hd) ?_
    simp

theorem s_impl_Region_lays (W T : Int) (cs : List Bool) (ls : List Int) (hr : regB W T cs = true) (hd : ls.length < 2 ^ 40) :
    SoundAt Tryz.prog n_impl_Region_lays [.agg [.v (.int .i64 W), .v (.int .i64 T), .sl 1 1 (bools cs)], .sl 1 1 (ints ls)] (.v (.bool (laysB W T cs ls))) [.bot, .bot] := by
  refine fn_ok (md := md0) (ms := [false, false]) k_impl_Region_lays (by simp) ?_
  simp [c_impl_Region_lays]
  refine ⟨fun hl => ?_, fun hl => ?_⟩
  · simp [laysB]; omega
  · have hl' : ls.length = cs.length := by omega
    obtain ⟨w1, w2, t1, t2, l1, _⟩ := regB_W hr
    refine loop_by (fun m E H => ∃ i : Nat, m = ls.length - i ∧ i ≤ ls.length ∧ allB i (fun k => layAt W T cs ls k) = true ∧ H = [some (.box [.v (.int .i64 W), .v (.int .i64 T), .sl 1 1 (bools cs)])] ∧ E = [(1, .sl 1 1 (ints ls)), (2, .lp 0 0 0 0), (14, .sl 1 1 (ints ls)), (15, .v (.int .i64 ls.length)), (16, .v (.int .i64 i))]) ls.length ⟨0, by simp [allB_zero]⟩ ?_
    rintro J hJ m E H ⟨i, rfl, hi, ha, rfl, rfl⟩
    by_cases h : i < ls.length
    · have h2 : i < cs.length := by omega
      have next : layAt W T cs ls i = true → again J (ls.length - i) [(1, .sl 1 1 (ints ls)), (2, .lp 0 0 0 0), (14, .sl 1 1 (ints ls)), (15, .v (.int .i64 ls.length)), (16, .v (.int .i64 (i + 1)))] [some (.box [.v (.int .i64 W), .v (.int .i64 T), .sl 1 1 (bools cs)])] :=
        fun hd => ⟨_, by omega, hJ _ _ _ ⟨i + 1, rfl, h, by rw [allB_succ, ha, hd]; rfl, rfl, rfl⟩⟩
      have stop : layAt W T cs ls i = false → laysB W T cs ls = false := fun hd => by simp only [laysB, hl', decide_true, Bool.true_and]; exact allB_false h2 hd
      by_cases z : ati ls i = 0
      · simp [c_impl_Region_lays_L0, h, h2, z]
        exact ⟨by omega, next (by simp [layAt, z])⟩
      have hst := stepI_range (T := T) (k := i) (way := ati ls i) w1 (by omega) (by omega)
      have one : SoundAt Tryz.prog n_impl_Region_step [.agg [.v (.int .i64 W), .v (.int .i64 T), .sl 1 1 (bools cs)], .v (.int .i64 i), .v (.int .i64 (ati ls i))] (.v (.int .i64 (stepI W T i (ati ls i)))) [.bot, .bot, .bot] := s_impl_Region_step W T cs i (ati ls i) hr (by omega) (by omega)
      simp [layAt, z] at next stop
      generalize hto : stepI W T i (ati ls i) = to at *
      simp [c_impl_Region_lays_L0, h, h2, z]
      refine call_on one ?_
      rcases hst with hst | ⟨hst, hst2, g1, g2⟩
      · subst hst
        simp
        exact stop (by omega)
      have two := s_impl_back (ati ls i) (by omega) (by omega)
      have e1 : ¬ to < 0 := by omega
      have e2 : to < cs.length := by omega
      have e3 : to < ls.length := by omega
      simp [g1, g2, hst] at next stop
      cases hc : atb cs i with
      | false => simp [e1, e2, e3, hst, hc, h2]; exact stop (by simp [hc])
      | true =>
      cases hct : atb cs to with
      | false => simp [e1, e2, e3, hst, hc, hct, h2]; exact stop (by simp [hct])
      | true =>
      simp [hc, hct] at next stop
      simp [e1, e2, e3, hst, hc, hct, h2]
      (repeat' first | assumption | omega | apply And.intro) <;>
      · refine call_on two ?_
        simp [e1, e2, e3, hst, hct, h]
        exact ⟨stop, fun hq => ⟨by omega, next hq⟩⟩
    · have : i = ls.length := by omega
      subst this
      simp [c_impl_Region_lays_L0]
      simp [laysB, hl'] at ha ⊢
      exact ha

end Go.Proofs.Dev

namespace Go.Proofs.Dev
set_option linter.unusedSimpArgs false
set_option maxRecDepth 100000

theorem s_impl_Region_pairs (W T : Int) (cs : List Bool) (ds ls : List Int) (hok : okB W T cs ds ls = true) :
    SoundAt Tryz.prog n_impl_Region_pairs [.agg [.v (.int .i64 W), .v (.int .i64 T), .sl 1 1 (bools cs)], .sl 1 1 (ints ds), .sl 1 1 (ints ls)] (.os 1 (ints (pairsI W T ds ls))) [.bot, .bot, .bot] := by
  refine fn_ok (md := md0) (ms := [false, false, false]) k_impl_Region_pairs (by simp) ?_
  obtain ⟨hr, e1, e2, _⟩ := okB_W hok
  have hl36 := regB_len hr
  simp [c_impl_Region_pairs]
  refine loop_by (fun m E H => ∃ i : Nat, m = ls.length - i ∧ i ≤ ls.length ∧ H = [some (.box [.v (.int .i64 W), .v (.int .i64 T), .sl 1 1 (bools cs)]), some (.arr 1 (ints (pairsTo W T ds ls i)))] ∧
    E = [(1, .sl 1 1 (ints ds)), (3, .lp 0 0 0 0), (7, .ls 1 1 0 (pairsTo W T ds ls i).length), (10, .sl 1 1 (ints ls)), (11, .v (.int .i64 ls.length)), (12, .v (.int .i64 i))]) ls.length ⟨0, by simp [pairsTo]⟩ ?_
  rintro J hJ m E H ⟨i, rfl, hi, rfl, rfl⟩
  by_cases h : i < ls.length
  case neg =>
    have : i = ls.length := by omega
    subst this
    simp [c_impl_Region_pairs_L0]
    refine call_on (s_slices_Clip_int_int (pairsTo W T ds ls ls.length)) ?_
    simp [pairsI]
  have hlen := pairsTo_length W T ds ls i
  have hsuc := pairsTo_succ W T ds ls i
  have next : ∀ (x : List Int), pairsTo W T ds ls (i + 1) = pairsTo W T ds ls i ++ x → again J (ls.length - i) [(1, .sl 1 1 (ints ds)), (3, .lp 0 0 0 0), (7, .ls 1 1 0 ((pairsTo W T ds ls i).length + x.length)), (10, .sl 1 1 (ints ls)), (11, .v (.int .i64 ls.length)), (12, .v (.int .i64 (i + 1)))]
      [some (.box [.v (.int .i64 W), .v (.int .i64 T), .sl 1 1 (bools cs)]), some (.arr 1 (ints (pairsTo W T ds ls i) ++ ints x))] := by
    intro x hx
    refine ⟨_, by omega, hJ _ _ _ ⟨i + 1, rfl, h, ?_, ?_⟩⟩
    · rw [hx, ints_append]
    · rw [hx, List.length_append]; rfl
  have hds : i < ds.length := by omega
  by_cases hw : ati ls i = 1 ∨ ati ls i = 2
  · obtain ⟨o1, o2, o3, o4⟩ := okB_first hok (k := i) (by omega) hw
    have one : SoundAt Tryz.prog n_impl_Region_step [.agg [.v (.int .i64 W), .v (.int .i64 T), .sl 1 1 (bools cs)], .v (.int .i64 i), .v (.int .i64 (ati ls i))] (.v (.int .i64 (stepI W T i (ati ls i)))) [.bot, .bot, .bot] := s_impl_Region_step W T cs i (ati ls i) hr (by omega) (by omega)
    have two := s_impl_pair (ati ds i) (ati ds (stepI W T i (ati ls i))) o3 o4
    have next1 := next _ (by rw [hsuc, if_pos hw])
    clear hsuc next
    simp at next1
    generalize hto : stepI W T i (ati ls i) = to at *
    have o5 : to < ds.length := by omega
    have hb : (pairsTo W T ds ls i).length ≤ 36 := by omega
    rcases hw with hw | hw <;> rw [hw] at one <;>
    · simp [c_impl_Region_pairs_L0, h, hw, hds]
      (repeat' first | assumption | apply And.intro) <;>
      · refine call_on one ?_
        simp [o1, o5, hds]
        (repeat' first | assumption | apply And.intro) <;>
        · refine call_on two ?_
          simp
          exact ⟨by omega, by omega, next1⟩
  · have hw1 : ¬ ati ls i = 1 := fun e => hw (.inl e)
    have hw2 : ¬ ati ls i = 2 := fun e => hw (.inr e)
    simp [c_impl_Region_pairs_L0, h, hw1, hw2]
    rw [if_neg hw, List.append_nil] at hsuc
    refine ⟨by omega, _, by omega, hJ _ _ _ ⟨i + 1, rfl, h, ?_, ?_⟩⟩ <;> rw [hsuc]
    rfl

end Go.Proofs.Dev
