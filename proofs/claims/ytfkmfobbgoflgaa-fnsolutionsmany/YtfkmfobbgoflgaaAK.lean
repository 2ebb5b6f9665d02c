/- Contracts of the functions of the program over slots and rows, each proved against the program itself; no condition beyond those that each theorem names. -/
import Derived.Test.YtfkmfobbgoflgaaAJ
import Derived.Test.YtfkmfobbgoflgaaProg
import Derived.Test.YtfkmfobbgoflgaaAH
import Derived.Shelf.Sort.Plain
import Derived.Shelf.Slices.CompactI
import Derived.Ground.Names2Prog

set_option linter.unusedSimpArgs false
set_option linter.unusedVariables false

namespace Go.Proofs.Dev
set_option linter.unusedSimpArgs false
set_option maxRecDepth 100000

/-- A puzzle and its dominoes are in order. -/
def okB (W T : Int) (cs : List Bool) (ds ls : List Int) : Bool := regB W T cs && (digsB cs ds && laysB W T cs ls)

theorem okB_W {W T : Int} {cs : List Bool} {ds ls : List Int} (h : okB W T cs ds ls = true) : regB W T cs = true ∧ ds.length = cs.length ∧ ls.length = cs.length ∧
    ∀ k : Nat, k < cs.length → digAt cs ds k = true ∧ layAt W T cs ls k = true := by
  simp only [okB, digsB, laysB, Bool.and_eq_true, decide_eq_true_eq, allB_iff] at h
  obtain ⟨h1, ⟨h2, h3⟩, h4, h5⟩ := h
  exact ⟨h1, h2, h4, fun k hk => ⟨h3 k (by omega), h5 k (by omega)⟩⟩

/-- What a first cell of a domino knows. -/
theorem okB_first {W T : Int} {cs : List Bool} {ds ls : List Int} (h : okB W T cs ds ls = true) {k : Nat} (hk : k < cs.length) (hw : ati ls k = 1 ∨ ati ls k = 2) :
    0 ≤ stepI W T k (ati ls k) ∧ stepI W T k (ati ls k) < cs.length ∧ (0 ≤ ati ds k ∧ ati ds k ≤ 6) ∧ (0 ≤ ati ds (stepI W T k (ati ls k)) ∧ ati ds (stepI W T k (ati ls k)) ≤ 6) := by
  obtain ⟨hr, h1, h2, h3⟩ := okB_W h
  obtain ⟨w1, w2, t1, t2, l1, _⟩ := regB_W hr
  obtain ⟨d1, p1⟩ := h3 k hk
  have hst := stepI_range (T := T) (k := k) (way := ati ls k) w1 (by omega) (by omega)
  simp only [layAt, decide_eq_true_eq] at p1
  rcases p1 with p1 | ⟨_, _, pc, p0, pt, _⟩
  · omega
  generalize hto : stepI W T k (ati ls k) = to at *
  have d2 := (h3 to.toNat (by omega)).1
  rw [show ((to.toNat : Nat) : Int) = to by omega] at d2
  simp only [digAt, pc, pt, if_true, decide_eq_true_eq] at d1 d2
  exact ⟨p0, by omega, d1, d2⟩

theorem s_spec_PairsOf (W T : Int) (cs : List Bool) (ds ls : List Int) (hb : cs.length < 2 ^ 40) (hd : ds.length < 2 ^ 40) (hl : ls.length < 2 ^ 40) :
    SoundAt Try.prog n_spec_PairsOf [.agg [.v (.int .i64 W), .v (.int .i64 T), .sl 1 1 (bools cs)], .sl 1 1 (ints ds), .sl 1 1 (ints ls)] (.os 1 (ints (if okB W T cs ds ls then pairsI W T ds ls else []))) [.bot, .bot, .bot] := by
  refine fn_ok (md := md0) (ms := [false, false, false]) k_spec_PairsOf (by simp) ?_
  simp [c_spec_PairsOf]
  refine loop_by (fun m E H => ∃ i : Nat, m = ls.length - i ∧ i ≤ ls.length ∧ (i = 0 ∨ okB W T cs ds ls = true) ∧ H = [some (.box [.v (.int .i64 W), .v (.int .i64 T), .sl 1 1 (bools cs)]), some (.arr 1 (ints (pairsTo W T ds ls i)))] ∧
    E = [(1, .sl 1 1 (ints ds)), (2, .sl 1 1 (ints ls)), (3, .lp 0 0 0 0), (7, .ls 1 1 0 (pairsTo W T ds ls i).length), (8, .v (.int .i64 i))]) ls.length ⟨0, by simp [pairsTo]⟩ ?_
  rintro J hJ m E H ⟨i, rfl, hi, hz, rfl, rfl⟩
  by_cases h : i < ls.length
  case neg =>
    have : i = ls.length := by omega
    subst this
    simp [c_spec_PairsOf_L0]
    rcases hz with hz | hz
    · have : ls = [] := List.eq_nil_of_length_eq_zero hz
      subst this
      simp [pairsI, pairsTo]
    · simp [hz, pairsI]
  simp [c_spec_PairsOf_L0, h]
  refine call_on (s_spec_PuzzleValid W T cs ds hb hd) ?_
  have ok0 : okB W T cs ds ls = false → i = 0 := fun h => by rcases hz with hz | hz; exact hz; rw [h] at hz; cases hz
  cases hp : (regB W T cs && digsB cs ds) with
  | false =>
    have hn : okB W T cs ds ls = false := by simp only [okB, ← Bool.and_assoc, hp, Bool.false_and]
    have := ok0 hn; subst this
    simp [hn, pairsTo]
  | true =>
  simp
  refine call_on (s_spec_LaidOk W T cs ls hb hl) ?_
  cases hp2 : (regB W T cs && laysB W T cs ls) with
  | false =>
    have hn : okB W T cs ds ls = false := by
      simp only [Bool.and_eq_true] at hp
      rw [hp.1, Bool.true_and] at hp2
      simp [okB, hp2]
    have := ok0 hn; subst this
    simp [hn, pairsTo]
  | true =>
  have hok : okB W T cs ds ls = true := by
    simp only [Bool.and_eq_true] at hp hp2
    simp [okB, hp, hp2]
  obtain ⟨hr, e1, e2, _⟩ := okB_W hok
  have hlen := pairsTo_length W T ds ls i
  have hl36 := regB_len hr
  have hsuc := pairsTo_succ W T ds ls i
  have next : ∀ (x : List Int), pairsTo W T ds ls (i + 1) = pairsTo W T ds ls i ++ x → again J (ls.length - i) [(1, .sl 1 1 (ints ds)), (2, .sl 1 1 (ints ls)), (3, .lp 0 0 0 0), (7, .ls 1 1 0 ((pairsTo W T ds ls i).length + x.length)), (8, .v (.int .i64 (i + 1)))]
      [some (.box [.v (.int .i64 W), .v (.int .i64 T), .sl 1 1 (bools cs)]), some (.arr 1 (ints (pairsTo W T ds ls i) ++ ints x))] := by
    intro x hx
    refine ⟨_, by omega, hJ _ _ _ ⟨i + 1, rfl, h, .inr hok, ?_, ?_⟩⟩
    · rw [hx, ints_append]
    · rw [hx, List.length_append]; rfl
  have hds : i < ds.length := by omega
  by_cases hw : ati ls i = 1 ∨ ati ls i = 2
  · obtain ⟨o1, o2, o3, o4⟩ := okB_first hok (k := i) (by omega) hw
    have one : SoundAt Try.prog n_spec_l2Step [.agg [.v (.int .i64 W), .v (.int .i64 T), .sl 1 1 (bools cs)], .v (.int .i64 i), .v (.int .i64 (ati ls i))] (.v (.int .i64 (stepI W T i (ati ls i)))) [.bot, .bot, .bot] := s_spec_l2Step W T cs i (ati ls i) hr (by omega) (by omega)
    have two := s_spec_PairOf (ati ds i) (ati ds (stepI W T i (ati ls i))) o3 o4
    have next1 := next _ (by rw [hsuc, if_pos hw])
    clear hsuc next
    simp at next1
    generalize hto : stepI W T i (ati ls i) = to at *
    have o5 : to < ds.length := by omega
    have hb : (pairsTo W T ds ls i).length ≤ 36 := by omega
    rcases hw with hw | hw <;> rw [hw] at one <;>
    · simp [h, hw, hds]
      (repeat' first | assumption | apply And.intro) <;>
      · refine call_on one ?_
        simp [o1, o5, hds]
        (repeat' first | assumption | apply And.intro) <;>
        · refine call_on two ?_
          simp
          exact ⟨by omega, by omega, next1⟩
  · have hw1 : ¬ ati ls i = 1 := fun e => hw (.inl e)
    have hw2 : ¬ ati ls i = 2 := fun e => hw (.inr e)
    simp [h, hw1, hw2]
    rw [if_neg hw, List.append_nil] at hsuc
    refine ⟨by omega, _, by omega, hJ _ _ _ ⟨i + 1, rfl, h, .inr hok, ?_, ?_⟩⟩ <;> rw [hsuc]
    rfl

end Go.Proofs.Dev

namespace Go.Proofs.Dev
set_option linter.unusedSimpArgs false
set_option maxRecDepth 100000

theorem s_impl_in (x lo hi : Int) : SoundAt Try.prog n_impl_in [.v (.int .i64 x), .v (.int .i64 lo), .v (.int .i64 hi)] (.v (.bool (decide (lo ≤ x ∧ x ≤ hi)))) [.bot, .bot, .bot] := by
  refine fn_ok (md := md0) (ms := [false, false, false]) k_impl_in (by simp) ?_
  simp [c_impl_in]
  constructor
  · intro h; simp [h]
  · intro h; omega

theorem s_impl_in_t {x lo hi : Int} (h : lo ≤ x ∧ x ≤ hi) : SoundAt Try.prog n_impl_in [.v (.int .i64 x), .v (.int .i64 lo), .v (.int .i64 hi)] (.v (.bool true)) [.bot, .bot, .bot] := by
  have := s_impl_in x lo hi
  rwa [decide_eq_true h] at this
theorem s_impl_in_f {x lo hi : Int} (h : ¬ (lo ≤ x ∧ x ≤ hi)) : SoundAt Try.prog n_impl_in [.v (.int .i64 x), .v (.int .i64 lo), .v (.int .i64 hi)] (.v (.bool false)) [.bot, .bot, .bot] := by
  have := s_impl_in x lo hi
  rwa [decide_eq_false h] at this

theorem s_impl_many (bs : List Bool) (hb : bs.length < 2 ^ 40) : SoundAt Try.prog n_impl_many [.sl 1 1 (bools bs)] (.v (.int .i64 (manyOf bs))) [.bot] := by
  refine fn_ok (md := md0) (ms := [false]) k_impl_many (by simp) ?_
  simp [c_impl_many]
  refine loop_by (fun m E H => ∃ i : Nat, m = bs.length - i ∧ i ≤ bs.length ∧ H = [] ∧ E = [(3, .v (.int .i64 (manyOf (bs.take i)))), (6, .sl 1 1 (bools bs)), (7, .v (.int .i64 bs.length)), (8, .v (.int .i64 i))]) bs.length ⟨0, by simp [manyOf]⟩ ?_
  rintro J hJ m E H ⟨i, rfl, hi, rfl, rfl⟩
  simp [c_impl_many_L0]
  refine ⟨fun h => ?_, fun h => ?_⟩
  · have e := manyOf_take bs i h
    have e3 := manyOf_le (bs.take i)
    rw [List.length_take] at e3
    simp [h]
    refine ⟨fun hb => ⟨by omega, by omega, _, by omega, hJ _ _ _ ⟨i + 1, rfl, h, rfl, ?_⟩⟩, fun hb => ⟨by omega, _, by omega, hJ _ _ _ ⟨i + 1, rfl, h, rfl, ?_⟩⟩⟩ <;> simp [e, hb]
  · have : i = bs.length := by omega
    subst this
    simp

theorem s_impl_RegionValid (W T : Int) (cs : List Bool) (hb : cs.length < 2 ^ 40) : SoundAt Try.prog n_impl_RegionValid [.agg [.v (.int .i64 W), .v (.int .i64 T), .sl 1 1 (bools cs)]] (.v (.bool (regB W T cs))) [.bot] := by
  refine fn_ok (md := md0) (ms := [false]) k_impl_RegionValid (by simp) ?_
  simp [c_impl_RegionValid]
  refine call_on (s_impl_in W 1 6) ?_
  simp
  refine ⟨fun h h' => ?_, fun h => ?_⟩
  · refine call_on (s_impl_in T 1 6) ?_
    have hx : T ≤ 6 → W * T ≤ 36 ∧ (1 ≤ T → 1 ≤ W * T) := fun ht => ⟨(by
      by_cases h0 : 0 ≤ T
      · exact Int.mul_le_mul h' ht h0 (by omega)
      · have : W * T ≤ 0 := Int.mul_nonpos_of_nonneg_of_nonpos (by omega) (by omega)
        omega), fun h1 => Int.mul_pos (by omega) (by omega)⟩
    simp
    refine ⟨fun h1 h2 => ⟨by have := hx h2; omega, fun h3 => ?_, fun h3 => ?_⟩, fun h1 => ?_⟩
    · refine call_on (s_impl_many cs hb) ?_
      simp [regB, h, h', h1, h2, h3]
      omega
    · simp [regB]; omega
    · simp [regB]; omega
  · simp [regB]; omega

theorem s_impl_back (n : Int) (h : 0 ≤ n) (h2 : n < 2 ^ 60) : SoundAt Try.prog n_impl_back [.v (.int .i64 n)] (.v (.int .i64 (backI n))) [.bot] := by
  refine fn_ok (md := md0) (ms := [false]) k_impl_back (by simp) ?_
  simp [c_impl_back, backI]
  omega

theorem s_impl_pair (a b : Int) (h1 : 0 ≤ a ∧ a ≤ 6) (h2 : 0 ≤ b ∧ b ≤ 6) : SoundAt Try.prog n_impl_pair [.v (.int .i64 a), .v (.int .i64 b)] (.v (.int .i64 (pairI a b))) [.bot, .bot] := by
  refine fn_ok (md := md0) (ms := [false, false]) k_impl_pair (by simp) ?_
  simp [c_impl_pair, pairI]
  rw [Int.min_def, Int.max_def]
  (repeat' split) <;> omega

theorem s_impl_Region_xy (W T : Int) (cs : List Bool) (k : Int) (hW : 1 ≤ W) (h0 : 0 ≤ k) (h1 : k < 2 ^ 40) :
    SoundAt Try.prog n_impl_Region_xy [.agg [.v (.int .i64 W), .v (.int .i64 T), .sl 1 1 (bools cs)], .v (.int .i64 k)] (.tup [.v (.int .i64 (k % W)), .v (.int .i64 (k / W))]) [.bot, .bot] := by
  refine fn_ok (md := md0) (ms := [false, false]) k_impl_Region_xy (by simp) ?_
  simp [c_impl_Region_xy]
  omega

theorem s_impl_Region_step (W T : Int) (cs : List Bool) (k way : Int) (hr : regB W T cs = true) (h0 : 0 ≤ k) (h1 : k < cs.length) :
    SoundAt Try.prog n_impl_Region_step [.agg [.v (.int .i64 W), .v (.int .i64 T), .sl 1 1 (bools cs)], .v (.int .i64 k), .v (.int .i64 way)] (.v (.int .i64 (stepI W T k way))) [.bot, .bot, .bot] := by
  refine fn_ok (md := md0) (ms := [false, false, false]) k_impl_Region_step (by simp) ?_
  obtain ⟨w1, w2, t1, t2, l1, _⟩ := regB_W hr
  have hl := regB_len hr
  have hxy := cell_xy (T := T) (k := k) w1 h0 (by omega)
  have e1 : stepI W T k way = if way = 1 ∧ k % W < W - 1 then k + 1 else if way = 2 ∧ k / W < T - 1 then k + W else if way = 3 ∧ 0 < k % W then k - 1 else if way = 4 ∧ 0 < k / W then k - W else -1 := rfl
  rw [e1]
  clear e1 hr
  simp [c_impl_Region_step]
  refine call_on (s_impl_Region_xy W T cs k w1 h0 (by omega)) ?_
  generalize hA : k % W = A at *
  generalize hB : k / W = B at *
  have hBW : 0 ≤ B * W := Int.mul_nonneg hxy.2.2.1 (by omega)
  have hBW2 : B ≤ 6 := by omega
  generalize hP : B * W = P at *
  by_cases c1 : way = 1
  · subst c1
    by_cases d : A < W - 1
    · simp [d]
      (repeat' first | assumption | omega | apply And.intro)
      refine call_on (s_impl_in_t (x := A + 1) (lo := 0) (hi := W - 1) (by omega)) ?_
      simp
      (repeat' first | assumption | omega | apply And.intro)
      refine call_on (s_impl_in_t (x := B) (lo := 0) (hi := T - 1) (by omega)) ?_
      simp [Int.add_mul, Int.sub_mul, hP]
      omega
    · simp [d]
      (repeat' first | assumption | omega | apply And.intro)
      refine call_on (s_impl_in_f (x := A + 1) (lo := 0) (hi := W - 1) (by omega)) ?_
      simp
  by_cases c2 : way = 2
  · subst c2
    by_cases d : B < T - 1
    · simp [d]
      (repeat' first | assumption | omega | apply And.intro)
      refine call_on (s_impl_in_t (x := A) (lo := 0) (hi := W - 1) (by omega)) ?_
      simp
      (repeat' first | assumption | omega | apply And.intro)
      refine call_on (s_impl_in_t (x := B + 1) (lo := 0) (hi := T - 1) (by omega)) ?_
      simp [Int.add_mul, Int.sub_mul, hP]
      omega
    · simp [d]
      (repeat' first | assumption | omega | apply And.intro)
      refine call_on (s_impl_in_t (x := A) (lo := 0) (hi := W - 1) (by omega)) ?_
      simp
      (repeat' first | assumption | omega | apply And.intro)
      refine call_on (s_impl_in_f (x := B + 1) (lo := 0) (hi := T - 1) (by omega)) ?_
      simp
  by_cases c3 : way = 3
  · subst c3
    by_cases d : 0 < A
    · simp [d]
      (repeat' first | assumption | omega | apply And.intro)
      refine call_on (s_impl_in_t (x := A - 1) (lo := 0) (hi := W - 1) (by omega)) ?_
      simp
      (repeat' first | assumption | omega | apply And.intro)
      refine call_on (s_impl_in_t (x := B) (lo := 0) (hi := T - 1) (by omega)) ?_
      simp [Int.add_mul, Int.sub_mul, hP]
      omega
    · simp [d]
      (repeat' first | assumption | omega | apply And.intro)
      refine call_on (s_impl_in_f (x := A - 1) (lo := 0) (hi := W - 1) (by omega)) ?_
      simp
  by_cases c4 : way = 4
  · subst c4
    by_cases d : 0 < B
    · simp [d]
      (repeat' first | assumption | omega | apply And.intro)
      refine call_on (s_impl_in_t (x := A) (lo := 0) (hi := W - 1) (by omega)) ?_
      simp
      (repeat' first | assumption | omega | apply And.intro)
      refine call_on (s_impl_in_t (x := B - 1) (lo := 0) (hi := T - 1) (by omega)) ?_
      simp [Int.add_mul, Int.sub_mul, hP]
      omega
    · simp [d]
      (repeat' first | assumption | omega | apply And.intro)
      refine call_on (s_impl_in_t (x := A) (lo := 0) (hi := W - 1) (by omega)) ?_
      simp
      (repeat' first | assumption | omega | apply And.intro)
      refine call_on (s_impl_in_f (x := B - 1) (lo := 0) (hi := T - 1) (by omega)) ?_
      simp
  simp [c1, c2, c3, c4]

theorem s_impl_puzzle (W T : Int) (cs : List Bool) (ds : List Int) (hb : cs.length < 2 ^ 40) (hd : ds.length < 2 ^ 40) :
    SoundAt Try.prog n_impl_puzzle [.agg [.v (.int .i64 W), .v (.int .i64 T), .sl 1 1 (bools cs)], .sl 1 1 (ints ds)] (.v (.bool (digsB cs ds))) [.bot, .bot] := by
  refine fn_ok (md := md0) (ms := [false, false]) k_impl_puzzle (by simp) ?_
  simp [c_impl_puzzle]
  refine ⟨fun hl => ?_, fun hl => ?_⟩
  · simp [digsB]; omega
  · have hl' : ds.length = cs.length := by omega
    refine loop_by (fun m E H => ∃ i : Nat, m = ds.length - i ∧ i ≤ ds.length ∧ allB i (fun k => digAt cs ds k) = true ∧ H = [some (.box [.v (.int .i64 W), .v (.int .i64 T), .sl 1 1 (bools cs)])] ∧ E = [(2, .lp 0 0 0 0), (13, .sl 1 1 (ints ds)), (14, .v (.int .i64 ds.length)), (15, .v (.int .i64 i))]) ds.length ⟨0, by simp [allB_zero]⟩ ?_
    rintro J hJ m E H ⟨i, rfl, hi, ha, rfl, rfl⟩
    by_cases h : i < ds.length
    · have h2 : i < cs.length := by omega
      have next : digAt cs ds i = true → again J (ds.length - i) [(2, .lp 0 0 0 0), (13, .sl 1 1 (ints ds)), (14, .v (.int .i64 ds.length)), (15, .v (.int .i64 (i + 1)))] [some (.box [.v (.int .i64 W), .v (.int .i64 T), .sl 1 1 (bools cs)])] :=
        fun hd => ⟨_, by omega, hJ _ _ _ ⟨i + 1, rfl, h, by rw [allB_succ, ha, hd]; rfl, rfl, rfl⟩⟩
      have stop : digAt cs ds i = false → digsB cs ds = false := fun hd => by simp only [digsB, hl', decide_true, Bool.true_and]; exact allB_false h2 hd
      cases hc : atb cs i with
      | true =>
        simp [c_impl_puzzle_L0, h, h2, hc]
        by_cases hx : 0 ≤ ati ds i ∧ ati ds i ≤ 6
        · refine call_on (s_impl_in_t hx) ?_
          simp [hc, h2]
          exact ⟨by omega, next (by simp [digAt, hc, hx])⟩
        · refine call_on (s_impl_in_f hx) ?_
          simp [hc, h2]
          exact stop (by simp [digAt, hc]; omega)
      | false =>
        simp [c_impl_puzzle_L0, h, h2, hc]
        simp [digAt, hc] at next stop ⊢
        exact ⟨fun hx => stop hx, fun hx => ⟨by omega, next hx⟩⟩
    · have : i = ds.length := by omega
      subst this
      simp [c_impl_puzzle_L0]
      simp [digsB, hl'] at ha ⊢
      exact ha

theorem s_impl_PuzzleValid (W T : Int) (cs : List Bool) (ds : List Int) (hb : cs.length < 2 ^ 40) (hd : ds.length < 2 ^ 40) :
    SoundAt Try.prog n_impl_PuzzleValid [.agg [.v (.int .i64 W), .v (.int .i64 T), .sl 1 1 (bools cs)], .sl 1 1 (ints ds)] (.v (.bool (regB W T cs && digsB cs ds))) [.bot, .bot] := by
  refine fn_ok (md := md0) (ms := [false, false]) k_impl_PuzzleValid (by simp) ?_
  simp [c_impl_PuzzleValid]
  refine call_on (s_impl_RegionValid W T cs hb) ?_
  cases hr : regB W T cs with
  | false => simp
  | true =>
    simp
    refine call_on (s_impl_puzzle W T cs ds hb hd) ?_
    simp

end Go.Proofs.Dev

namespace Go.Proofs.Dev
set_option linter.unusedSimpArgs false
set_option maxRecDepth 100000

theorem s_impl_Region_pairs (W T : Int) (cs : List Bool) (ds ls : List Int) (hok : okB W T cs ds ls = true) :
    SoundAt Try.prog n_impl_Region_pairs [.agg [.v (.int .i64 W), .v (.int .i64 T), .sl 1 1 (bools cs)], .sl 1 1 (ints ds), .sl 1 1 (ints ls)] (.os 1 (ints (pairsI W T ds ls))) [.bot, .bot, .bot] := by
  refine fn_ok (md := md0) (ms := [false, false, false]) k_impl_Region_pairs (by simp) ?_
  obtain ⟨hr, e1, e2, _⟩ := okB_W hok
  have hl36 := regB_len hr
  simp [c_impl_Region_pairs]
  refine loop_by (fun m E H => ∃ i : Nat, m = ls.length - i ∧ i ≤ ls.length ∧ H = [some (.box [.v (.int .i64 W), .v (.int .i64 T), .sl 1 1 (bools cs)]), some (.arr 1 (ints (pairsTo W T ds ls i)))] ∧
    E = [(1, .sl 1 1 (ints ds)), (3, .lp 0 0 0 0), (7, .ls 1 1 0 (pairsTo W T ds ls i).length), (10, .sl 1 1 (ints ls)), (11, .v (.int .i64 ls.length)), (12, .v (.int .i64 i))]) ls.length ⟨0, by simp [pairsTo]⟩ ?_
  rintro J hJ m E H ⟨i, rfl, hi, rfl, rfl⟩
  by_cases h : i < ls.length
  case neg =>
    have : i = ls.length := by omega
    subst this
    simp [c_impl_Region_pairs_L0]
    refine call_on (s_slices_Clip_int_int (pairsTo W T ds ls ls.length)) ?_
    simp [pairsI]
  have hlen := pairsTo_length W T ds ls i
  have hsuc := pairsTo_succ W T ds ls i
  have next : ∀ (x : List Int), pairsTo W T ds ls (i + 1) = pairsTo W T ds ls i ++ x → again J (ls.length - i) [(1, .sl 1 1 (ints ds)), (3, .lp 0 0 0 0), (7, .ls 1 1 0 ((pairsTo W T ds ls i).length + x.length)), (10, .sl 1 1 (ints ls)), (11, .v (.int .i64 ls.length)), (12, .v (.int .i64 (i + 1)))]
      [some (.box [.v (.int .i64 W), .v (.int .i64 T), .sl 1 1 (bools cs)]), some (.arr 1 (ints (pairsTo W T ds ls i) ++ ints x))] := by
    intro x hx
    refine ⟨_, by omega, hJ _ _ _ ⟨i + 1, rfl, h, ?_, ?_⟩⟩
    · rw [hx, ints_append]
    · rw [hx, List.length_append]; rfl
  have hds : i < ds.length := by omega
  by_cases hw : ati ls i = 1 ∨ ati ls i = 2
  · obtain ⟨o1, o2, o3, o4⟩ := okB_first hok (k := i) (by omega) hw
    have one : SoundAt Try.prog n_impl_Region_step [.agg [.v (.int .i64 W), .v (.int .i64 T), .sl 1 1 (bools cs)], .v (.int .i64 i), .v (.int .i64 (ati ls i))] (.v (.int .i64 (stepI W T i (ati ls i)))) [.bot, .bot, .bot] := s_impl_Region_step W T cs i (ati ls i) hr (by omega) (by omega)
    have two := s_impl_pair (ati ds i) (ati ds (stepI W T i (ati ls i))) o3 o4
    have next1 := next _ (by rw [hsuc, if_pos hw])
    clear hsuc next
    simp at next1
    generalize hto : stepI W T i (ati ls i) = to at *
    have o5 : to < ds.length := by omega
    have hb : (pairsTo W T ds ls i).length ≤ 36 := by omega
    rcases hw with hw | hw <;> rw [hw] at one <;>
    · simp [c_impl_Region_pairs_L0, h, hw, hds]
      (repeat' first | assumption | apply And.intro) <;>
      · refine call_on one ?_
        simp [o1, o5, hds]
        (repeat' first | assumption | apply And.intro) <;>
        · refine call_on two ?_
          simp
          exact ⟨by omega, by omega, next1⟩
  · have hw1 : ¬ ati ls i = 1 := fun e => hw (.inl e)
    have hw2 : ¬ ati ls i = 2 := fun e => hw (.inr e)
    simp [c_impl_Region_pairs_L0, h, hw1, hw2]
    rw [if_neg hw, List.append_nil] at hsuc
    refine ⟨by omega, _, by omega, hJ _ _ _ ⟨i + 1, rfl, h, ?_, ?_⟩⟩ <;> rw [hsuc]
    rfl

end Go.Proofs.Dev

namespace Go.Proofs.Dev

-- 1 parameters, results [.t 2], 8 slots, modes [false]
@[simp] abbrev n_slices_Clone_int_int : Nat := 55

def c_slices_Clone_int_int : ACode :=
  .seq (.reg [⟨(some 2), .mv, [.c (.os 1 [])], none⟩]) <|
  .seq (.seq (.reg [⟨(some 3), .mv, [.t 0], none⟩,
    ⟨(some 4), .nilq false, [.t 3], none⟩]) <|
  .cond (.t 4) (
    .seq (.reg [⟨(some 2), .mv, [.c (.os 1 [])], none⟩]) <|
    .ret) (
    .skip)) <|
  .seq (.reg [⟨(some 5), .bsl 1, [], none⟩,
    ⟨(some 6), .mv, [.t 0], none⟩,
    ⟨(some 7), .app 1 8 true, [.t 5, .t 6], none⟩,
    ⟨(some 2), .mv, [.t 7], none⟩]) <|
  .ret

theorem k_slices_Clone_int_int : cFn Try.prog n_slices_Clone_int_int 8 [.t 2] c_slices_Clone_int_int := ⟨Try.f55, _, Try.func55, rfl, by kernel_rfl, by kernel_rfl, by kernel_rfl, by kernel_rfl⟩

-- 1 parameters, results [.t 2], 6 slots, modes [false]
@[simp] abbrev n_impl_clone_int : Nat := 35

def c_impl_clone_int : ACode :=
  .seq (.reg [⟨(some 2), .mv, [.c (.os 1 [])], none⟩]) <|
  .seq (.reg [⟨(some 3), .mv, [.t 0], none⟩,
    ⟨(some 4), .call 55 [], [.t 3], none⟩,
    ⟨(some 5), .call 54 [], [.t 4], none⟩,
    ⟨(some 2), .mv, [.t 5], none⟩]) <|
  .ret

theorem k_impl_clone_int : cFn Try.prog n_impl_clone_int 6 [.t 2] c_impl_clone_int := ⟨Try.f35, _, Try.func35, rfl, by kernel_rfl, by kernel_rfl, by kernel_rfl, by kernel_rfl⟩

-- 2 parameters, results [.t 4], 18 slots, modes [false, false]
@[simp] abbrev n_spec_l1Has : Nat := 76
def c_spec_l1Has_L0 : ACode :=
  .seq (.seq (.reg [⟨(some 6), .mv, [.t 5], none⟩,
    ⟨(some 7), .mv, [.t 0], none⟩,
    ⟨(some 8), .len false, [.t 7], none⟩,
    ⟨(some 9), .bin .lss 0, [.t 6, .t 8], none⟩]) <|
  .cond (.t 9) (
    .skip) (
    .exit 0)) <|
  .seq (.block 1 (
    .seq (.reg [⟨(some 12), .mv, [.t 0], none⟩,
      ⟨(some 13), .mv, [.t 5], none⟩,
      ⟨(some 14), .iadr 1, [.t 12, .t 13], none⟩,
      ⟨(some 15), .load false 1, [.t 14], none⟩,
      ⟨(some 16), .mv, [.t 1], none⟩,
      ⟨(some 17), .bin .eql 0, [.t 15, .t 16], none⟩]) <|
    .cond (.t 17) (
      .seq (.reg [⟨(some 4), .mv, [.c (.v (.bool true))], none⟩]) <|
      .ret) (
      .skip))) <|
  .reg [⟨(some 10), .mv, [.t 5], none⟩,
    ⟨(some 11), .bin .add 0, [.t 10, .c (.v (.int .i64 (1)))], none⟩,
    ⟨(some 5), .mv, [.t 11], none⟩]

def c_spec_l1Has : ACode :=
  .seq (.reg [⟨(some 4), .mv, [.c (.v (.bool false))], none⟩]) <|
  .seq (.seq (.reg [⟨(some 5), .mv, [.c (.v (.int .i64 (0)))], none⟩]) <|
  .block 0 (
    .loop [(0, 1)] [0, 1, 5] c_spec_l1Has_L0)) <|
  .seq (.reg [⟨(some 4), .mv, [.c (.v (.bool false))], none⟩]) <|
  .ret

theorem k_spec_l1Has : cFn Try.prog n_spec_l1Has 18 [.t 4] c_spec_l1Has := ⟨Try.f76, _, Try.func76, rfl, by kernel_rfl, by kernel_rfl, by kernel_rfl, by kernel_rfl⟩

-- 1 parameters, results [.t 2], 18 slots, modes [false]
@[simp] abbrev n_spec_l9Once : Nat := 68
def c_spec_l9Once_L0 : ACode :=
  .seq (.seq (.reg [⟨(some 4), .mv, [.t 3], none⟩,
    ⟨(some 5), .mv, [.t 0], none⟩,
    ⟨(some 6), .len false, [.t 5], none⟩,
    ⟨(some 7), .bin .lss 0, [.t 4, .t 6], none⟩]) <|
  .cond (.t 7) (
    .skip) (
    .exit 0)) <|
  .seq (.block 1 (
    .seq (.draw (
      .take ⟨(some 10), .mv, [.t 0], none⟩ <|
      .take ⟨(some 11), .mv, [.t 3], none⟩ <|
      .take ⟨(some 12), .slice 1 false false true false, [.t 10, .t 11], none⟩ <|
      .take ⟨(some 13), .mv, [.t 0], none⟩ <|
      .take ⟨(some 14), .mv, [.t 3], none⟩ <|
      .take ⟨(some 15), .iadr 1, [.t 13, .t 14], none⟩ <|
      .alt ⟨(some 16), .load false 1, [.t 15], none⟩ (
        .alt ⟨(some 17), .call 76 [], [.t 12, .t 16], none⟩ (
          .done) <|
        .stop) <|
      .stop)) <|
    .cond (.t 17) (
      .seq (.reg [⟨(some 2), .mv, [.c (.v (.bool false))], none⟩]) <|
      .ret) (
      .skip))) <|
  .reg [⟨(some 8), .mv, [.t 3], none⟩,
    ⟨(some 9), .bin .add 0, [.t 8, .c (.v (.int .i64 (1)))], none⟩,
    ⟨(some 3), .mv, [.t 9], none⟩]

def c_spec_l9Once : ACode :=
  .seq (.reg [⟨(some 2), .mv, [.c (.v (.bool false))], none⟩]) <|
  .seq (.seq (.reg [⟨(some 3), .mv, [.c (.v (.int .i64 (0)))], none⟩]) <|
  .block 0 (
    .loop [(0, 1)] [0, 3] c_spec_l9Once_L0)) <|
  .seq (.reg [⟨(some 2), .mv, [.c (.v (.bool true))], none⟩]) <|
  .ret

theorem k_spec_l9Once : cFn Try.prog n_spec_l9Once 18 [.t 2] c_spec_l9Once := ⟨Try.f68, _, Try.func68, rfl, by kernel_rfl, by kernel_rfl, by kernel_rfl, by kernel_rfl⟩

-- 3 parameters, results [.t 6], 21 slots, modes [false, false, false]
@[simp] abbrev n_impl_Region_fair : Nat := 37

def c_impl_Region_fair : ACode :=
  .seq (.reg [⟨(some 3), .box, [.t 0], none⟩,
    ⟨(some 6), .mv, [.c (.v (.bool false))], none⟩]) <|
  .seq (.reg [⟨(some 8), .load true 3, [.t 3], none⟩,
    ⟨(some 9), .mv, [.t 1], none⟩,
    ⟨(some 10), .mv, [.t 2], none⟩,
    ⟨(some 11), .call 56 [], [.t 8, .t 9, .t 10], none⟩,
    ⟨(some 7), .mv, [.t 11], none⟩]) <|
  .seq (.reg [⟨(some 12), .mv, [.t 7], none⟩,
    ⟨(some 13), .call 57 [], [.t 12], none⟩]) <|
  .seq (.reg [⟨(some 14), .mv, [.t 7], none⟩,
    ⟨(some 15), .call 55 [], [.t 14], none⟩,
    ⟨(some 16), .call 58 [], [.t 15], none⟩,
    ⟨(some 17), .len false, [.t 16], none⟩,
    ⟨(some 18), .mv, [.t 7], none⟩,
    ⟨(some 19), .len false, [.t 18], none⟩,
    ⟨(some 20), .bin .eql 0, [.t 17, .t 19], none⟩,
    ⟨(some 6), .mv, [.t 20], none⟩]) <|
  .ret

theorem k_impl_Region_fair : cFn Try.prog n_impl_Region_fair 21 [.t 6] c_impl_Region_fair := ⟨Try.f37, _, Try.func37, rfl, by kernel_rfl, by kernel_rfl, by kernel_rfl, by kernel_rfl⟩

-- 3 parameters, results [.t 6], 22 slots, modes [false, false, false]
@[simp] abbrev n_spec_FairOk : Nat := 51

def c_spec_FairOk : ACode :=
  .seq (.reg [⟨(some 3), .box, [.t 0], none⟩,
    ⟨(some 6), .mv, [.c (.v (.bool false))], none⟩]) <|
  .seq (.reg [⟨(some 7), .load true 3, [.t 3], none⟩,
    ⟨(some 8), .mv, [.t 1], none⟩,
    ⟨(some 9), .call 14 [], [.t 7, .t 8], none⟩,
    ⟨(some 10), .mv, [.t 9], none⟩,
    ⟨(some 11), .load true 3, [.t 3], (some (10, true))⟩,
    ⟨(some 12), .mv, [.t 2], (some (10, true))⟩,
    ⟨(some 13), .call 64 [], [.t 11, .t 12], (some (10, true))⟩,
    ⟨(some 14), .pick, [.t 10, .t 13, .c (.v (.bool false))], none⟩,
    ⟨(some 15), .mv, [.t 14], none⟩,
    ⟨(some 16), .load true 3, [.t 3], (some (15, true))⟩,
    ⟨(some 17), .mv, [.t 1], (some (15, true))⟩,
    ⟨(some 18), .mv, [.t 2], (some (15, true))⟩,
    ⟨(some 19), .call 69 [], [.t 16, .t 17, .t 18], (some (15, true))⟩,
    ⟨(some 20), .call 68 [], [.t 19], (some (15, true))⟩,
    ⟨(some 21), .pick, [.t 15, .t 20, .c (.v (.bool false))], none⟩,
    ⟨(some 6), .mv, [.t 21], none⟩]) <|
  .ret

theorem k_spec_FairOk : cFn Try.prog n_spec_FairOk 22 [.t 6] c_spec_FairOk := ⟨Try.f51, _, Try.func51, rfl, by kernel_rfl, by kernel_rfl, by kernel_rfl, by kernel_rfl⟩

-- 1 parameters, results [], 11 slots, modes [true]
@[simp] abbrev n_slices_Sort_int_int : Nat := 57

def c_slices_Sort_int_int : ACode :=
  .seq (.reg [⟨(some 3), .mv, [.t 0], none⟩,
    ⟨(some 4), .len false, [.t 3], none⟩,
    ⟨(some 2), .mv, [.t 4], none⟩]) <|
  .reg [⟨(some 5), .mv, [.t 0], none⟩,
    ⟨(some 6), .mv, [.t 2], none⟩,
    ⟨(some 7), .mv, [.t 2], none⟩,
    ⟨(some 8), .conv .u64, [.t 7], none⟩,
    ⟨(some 9), .call 74 [], [.t 8], none⟩,
    ⟨(some 10), .call 73 [], [.t 5, .c (.v (.int .i64 (0))), .t 6, .t 9], none⟩]

theorem k_slices_Sort_int_int : cFn Try.prog n_slices_Sort_int_int 11 [] c_slices_Sort_int_int := ⟨Try.f57, _, Try.func57, rfl, by kernel_rfl, by kernel_rfl, by kernel_rfl, by kernel_rfl⟩

-- 1 parameters, results [.t 2], 8 slots, modes [false]
@[simp] abbrev n_mathbits_Len : Nat := 74

def c_mathbits_Len : ACode :=
  .seq (.reg [⟨(some 2), .mv, [.c (.v (.int .i64 (0)))], none⟩]) <|
  .seq (.cond (.c (.v (.bool false))) (
    .seq (.reg [⟨(some 3), .mv, [.t 0], none⟩,
      ⟨(some 4), .conv .u32, [.t 3], none⟩,
      ⟨(some 5), .call 87 [], [.t 4], none⟩,
      ⟨(some 2), .mv, [.t 5], none⟩]) <|
    .ret) (
    .skip)) <|
  .seq (.reg [⟨(some 6), .mv, [.t 0], none⟩,
    ⟨(some 7), .call 88 [], [.t 6], none⟩,
    ⟨(some 2), .mv, [.t 7], none⟩]) <|
  .ret

theorem k_mathbits_Len : cFn Try.prog n_mathbits_Len 8 [.t 2] c_mathbits_Len := ⟨Try.f74, _, Try.func74, rfl, by kernel_rfl, by kernel_rfl, by kernel_rfl, by kernel_rfl⟩

-- 1 parameters, results [.t 2], 25 slots, modes [false]
@[simp] abbrev n_mathbits_Len64 : Nat := 88

def c_mathbits_Len64 : ACode :=
  .seq (.reg [⟨(some 2), .mv, [.c (.v (.int .i64 (0)))], none⟩]) <|
  .seq (.seq (.reg [⟨(some 3), .mv, [.t 0], none⟩,
    ⟨(some 4), .bin .geq 0, [.t 3, .c (.v (.int .u64 (4294967296)))], none⟩]) <|
  .cond (.t 4) (
    .seq (.reg [⟨(some 5), .mv, [.t 0], none⟩,
      ⟨(some 6), .bin .shr 0, [.t 5, .c (.v (.int .u64 (32)))], none⟩,
      ⟨(some 0), .mv, [.t 6], none⟩]) <|
    .reg [⟨(some 2), .mv, [.c (.v (.int .i64 (32)))], none⟩]) (
    .skip)) <|
  .seq (.seq (.reg [⟨(some 7), .mv, [.t 0], none⟩,
    ⟨(some 8), .bin .geq 0, [.t 7, .c (.v (.int .u64 (65536)))], none⟩]) <|
  .cond (.t 8) (
    .seq (.reg [⟨(some 9), .mv, [.t 0], none⟩,
      ⟨(some 10), .bin .shr 0, [.t 9, .c (.v (.int .u64 (16)))], none⟩,
      ⟨(some 0), .mv, [.t 10], none⟩]) <|
    .reg [⟨(some 11), .mv, [.t 2], none⟩,
      ⟨(some 12), .bin .add 0, [.t 11, .c (.v (.int .i64 (16)))], none⟩,
      ⟨(some 2), .mv, [.t 12], none⟩]) (
    .skip)) <|
  .seq (.seq (.reg [⟨(some 13), .mv, [.t 0], none⟩,
    ⟨(some 14), .bin .geq 0, [.t 13, .c (.v (.int .u64 (256)))], none⟩]) <|
  .cond (.t 14) (
    .seq (.reg [⟨(some 15), .mv, [.t 0], none⟩,
      ⟨(some 16), .bin .shr 0, [.t 15, .c (.v (.int .u64 (8)))], none⟩,
      ⟨(some 0), .mv, [.t 16], none⟩]) <|
    .reg [⟨(some 17), .mv, [.t 2], none⟩,
      ⟨(some 18), .bin .add 0, [.t 17, .c (.v (.int .i64 (8)))], none⟩,
      ⟨(some 2), .mv, [.t 18], none⟩]) (
    .skip)) <|
  .seq (.reg [⟨(some 19), .mv, [.t 2], none⟩,
    ⟨(some 20), .mv, [.t 0], none⟩,
    ⟨(some 21), .conv .u8, [.t 20], none⟩,
    ⟨(some 22), .sidx, [.c (.v (.string ⟨#[0, 1, 2, 2, 3, 3, 3, 3, 4, 4, 4, 4, 4, 4, 4, 4, 5, 5, 5, 5, 5, 5, 5, 5, 5, 5, 5, 5, 5, 5, 5, 5, 6, 6, 6, 6, 6, 6, 6, 6, 6, 6, 6, 6, 6, 6, 6, 6, 6, 6, 6, 6, 6, 6, 6, 6, 6, 6, 6, 6, 6, 6, 6, 6, 7, 7, 7, 7, 7, 7, 7, 7, 7, 7, 7, 7, 7, 7, 7, 7, 7, 7, 7, 7, 7, 7, 7, 7, 7, 7, 7, 7, 7, 7, 7, 7, 7, 7, 7, 7, 7, 7, 7, 7, 7, 7, 7, 7, 7, 7, 7, 7, 7, 7, 7, 7, 7, 7, 7, 7, 7, 7, 7, 7, 7, 7, 7, 7, 8, 8, 8, 8, 8, 8, 8, 8, 8, 8, 8, 8, 8, 8, 8, 8, 8, 8, 8, 8, 8, 8, 8, 8, 8, 8, 8, 8, 8, 8, 8, 8, 8, 8, 8, 8, 8, 8, 8, 8, 8, 8, 8, 8, 8, 8, 8, 8, 8, 8, 8, 8, 8, 8, 8, 8, 8, 8, 8, 8, 8, 8, 8, 8, 8, 8, 8, 8, 8, 8, 8, 8, 8, 8, 8, 8, 8, 8, 8, 8, 8, 8, 8, 8, 8, 8, 8, 8, 8, 8, 8, 8, 8, 8, 8, 8, 8, 8, 8, 8, 8, 8, 8, 8, 8, 8, 8, 8, 8, 8, 8, 8, 8, 8, 8, 8, 8, 8, 8, 8, 8, 8, 8, 8, 8, 8, 8, 8]⟩)), .t 21], none⟩,
    ⟨(some 23), .conv .i64, [.t 22], none⟩,
    ⟨(some 24), .bin .add 0, [.t 19, .t 23], none⟩,
    ⟨(some 2), .mv, [.t 24], none⟩]) <|
  .ret

theorem k_mathbits_Len64 : cFn Try.prog n_mathbits_Len64 25 [.t 2] c_mathbits_Len64 := ⟨Try.f88, _, Try.func88, rfl, by kernel_rfl, by kernel_rfl, by kernel_rfl, by kernel_rfl⟩

-- 4 parameters, results [], 134 slots, modes [false, false, false, false]
@[simp] abbrev n_slices_pdqsortOrdered_int : Nat := 73
def c_slices_pdqsortOrdered_int_L0 : ACode :=
  .block 1 (
    .seq (.reg [⟨(some 19), .mv, [.t 2], none⟩,
      ⟨(some 20), .mv, [.t 1], none⟩,
      ⟨(some 21), .bin .sub 0, [.t 19, .t 20], none⟩,
      ⟨(some 10), .mv, [.t 21], none⟩]) <|
    .seq (.seq (.reg [⟨(some 22), .mv, [.t 10], none⟩,
      ⟨(some 23), .bin .leq 0, [.t 22, .c (.v (.int .i64 (12)))], none⟩]) <|
    .cond (.t 23) (
      .seq (.reg [⟨(some 24), .mv, [.t 0], none⟩,
        ⟨(some 25), .mv, [.t 1], none⟩,
        ⟨(some 26), .mv, [.t 2], none⟩,
        ⟨(some 27), .call 78 [], [.t 24, .t 25, .t 26], none⟩]) <|
      .ret) (
      .skip)) <|
    .seq (.seq (.reg [⟨(some 28), .mv, [.t 3], none⟩,
      ⟨(some 29), .bin .eql 0, [.t 28, .c (.v (.int .i64 (0)))], none⟩]) <|
    .cond (.t 29) (
      .seq (.reg [⟨(some 30), .mv, [.t 0], none⟩,
        ⟨(some 31), .mv, [.t 1], none⟩,
        ⟨(some 32), .mv, [.t 2], none⟩,
        ⟨(some 33), .call 79 [], [.t 30, .t 31, .t 32], none⟩]) <|
      .ret) (
      .skip)) <|
    .seq (.seq (.reg [⟨(some 34), .mv, [.t 8], none⟩,
      ⟨(some 35), .un .not, [.t 34], none⟩]) <|
    .cond (.t 35) (
      .seq (.reg [⟨(some 36), .mv, [.t 0], none⟩,
        ⟨(some 37), .mv, [.t 1], none⟩,
        ⟨(some 38), .mv, [.t 2], none⟩,
        ⟨(some 39), .call 80 [], [.t 36, .t 37, .t 38], none⟩]) <|
      .reg [⟨(some 40), .mv, [.t 3], none⟩,
        ⟨(some 41), .bin .sub 0, [.t 40, .c (.v (.int .i64 (1)))], none⟩,
        ⟨(some 3), .mv, [.t 41], none⟩]) (
      .skip)) <|
    .seq (.reg [⟨(some 43), .mv, [.t 0], none⟩,
      ⟨(some 44), .mv, [.t 1], none⟩,
      ⟨(some 45), .mv, [.t 2], none⟩,
      ⟨(some 46), .call 81 [], [.t 43, .t 44, .t 45], none⟩,
      ⟨(some 42), .mv, [.t 46], none⟩,
      ⟨(some 47), .extr 0, [.t 42], none⟩,
      ⟨(some 48), .extr 1, [.t 42], none⟩,
      ⟨(some 11), .mv, [.t 47], none⟩,
      ⟨(some 12), .mv, [.t 48], none⟩]) <|
    .seq (.seq (.reg [⟨(some 49), .mv, [.t 12], none⟩,
      ⟨(some 50), .bin .eql 0, [.t 49, .c (.v (.int .i64 (2)))], none⟩]) <|
    .cond (.t 50) (
      .seq (.reg [⟨(some 51), .mv, [.t 0], none⟩,
        ⟨(some 52), .mv, [.t 1], none⟩,
        ⟨(some 53), .mv, [.t 2], none⟩,
        ⟨(some 54), .call 82 [], [.t 51, .t 52, .t 53], none⟩]) <|
      .seq (.reg [⟨(some 55), .mv, [.t 2], none⟩,
        ⟨(some 56), .bin .sub 0, [.t 55, .c (.v (.int .i64 (1)))], none⟩,
        ⟨(some 57), .mv, [.t 11], none⟩,
        ⟨(some 58), .mv, [.t 1], none⟩,
        ⟨(some 59), .bin .sub 0, [.t 57, .t 58], none⟩,
        ⟨(some 60), .bin .sub 0, [.t 56, .t 59], none⟩,
        ⟨(some 11), .mv, [.t 60], none⟩]) <|
      .reg [⟨(some 12), .mv, [.c (.v (.int .i64 (1)))], none⟩]) (
      .skip)) <|
    .seq (.seq (.reg [⟨(some 61), .mv, [.t 8], none⟩,
      ⟨(some 62), .mv, [.t 61], none⟩,
      ⟨(some 63), .mv, [.t 9], (some (62, true))⟩,
      ⟨(some 64), .pick, [.t 62, .t 63, .c (.v (.bool false))], none⟩,
      ⟨(some 65), .mv, [.t 64], none⟩,
      ⟨(some 66), .mv, [.t 12], (some (65, true))⟩,
      ⟨(some 67), .bin .eql 0, [.t 66, .c (.v (.int .i64 (1)))], (some (65, true))⟩,
      ⟨(some 68), .pick, [.t 65, .t 67, .c (.v (.bool false))], none⟩]) <|
    .cond (.t 68) (
      .seq (.reg [⟨(some 69), .mv, [.t 0], none⟩,
        ⟨(some 70), .mv, [.t 1], none⟩,
        ⟨(some 71), .mv, [.t 2], none⟩,
        ⟨(some 72), .call 83 [], [.t 69, .t 70, .t 71], none⟩]) <|
      .cond (.t 72) (
        .ret) (
        .skip)) (
      .skip)) <|
    .seq (.seq (.draw (
      .take ⟨(some 73), .mv, [.t 1], none⟩ <|
      .take ⟨(some 74), .bin .gtr 0, [.t 73, .c (.v (.int .i64 (0)))], none⟩ <|
      .take ⟨(some 75), .mv, [.t 74], none⟩ <|
      .take ⟨(some 76), .mv, [.t 0], (some (75, true))⟩ <|
      .take ⟨(some 77), .mv, [.t 1], (some (75, true))⟩ <|
      .take ⟨(some 78), .bin .sub 0, [.t 77, .c (.v (.int .i64 (1)))], (some (75, true))⟩ <|
      .take ⟨(some 79), .iadr 1, [.t 76, .t 78], (some (75, true))⟩ <|
      .take ⟨(some 81), .mv, [.t 0], (some (75, true))⟩ <|
      .take ⟨(some 82), .mv, [.t 11], (some (75, true))⟩ <|
      .take ⟨(some 83), .iadr 1, [.t 81, .t 82], (some (75, true))⟩ <|
      .alt ⟨(some 80), .load false 1, [.t 79], (some (75, true))⟩ (
        .alt ⟨(some 84), .load false 1, [.t 83], (some (75, true))⟩ (
          .alt ⟨(some 85), .call 84 [], [.t 80, .t 84], (some (75, true))⟩ (
            .take ⟨(some 86), .un .not, [.t 85], (some (75, true))⟩ <|
            .take ⟨(some 87), .pick, [.t 75, .t 86, .c (.v (.bool false))], none⟩ <|
            .done) <|
          .stop) <|
        .stop) <|
      .alt ⟨(some 84), .load false 1, [.t 83], (some (75, true))⟩ (
        .alt ⟨(some 80), .load false 1, [.t 79], (some (75, true))⟩ (
          .alt ⟨(some 85), .call 84 [], [.t 80, .t 84], (some (75, true))⟩ (
            .take ⟨(some 86), .un .not, [.t 85], (some (75, true))⟩ <|
            .take ⟨(some 87), .pick, [.t 75, .t 86, .c (.v (.bool false))], none⟩ <|
            .done) <|
          .stop) <|
        .stop) <|
      .stop)) <|
    .cond (.t 87) (
      .seq (.reg [⟨(some 88), .mv, [.t 0], none⟩,
        ⟨(some 89), .mv, [.t 1], none⟩,
        ⟨(some 90), .mv, [.t 2], none⟩,
        ⟨(some 91), .mv, [.t 11], none⟩,
        ⟨(some 92), .call 85 [], [.t 88, .t 89, .t 90, .t 91], none⟩,
        ⟨(some 13), .mv, [.t 92], none⟩]) <|
      .seq (.reg [⟨(some 93), .mv, [.t 13], none⟩,
        ⟨(some 1), .mv, [.t 93], none⟩]) <|
      .exit 1) (
      .skip)) <|
    .seq (.reg [⟨(some 95), .mv, [.t 0], none⟩,
      ⟨(some 96), .mv, [.t 1], none⟩,
      ⟨(some 97), .mv, [.t 2], none⟩,
      ⟨(some 98), .mv, [.t 11], none⟩,
      ⟨(some 99), .call 86 [], [.t 95, .t 96, .t 97, .t 98], none⟩,
      ⟨(some 94), .mv, [.t 99], none⟩,
      ⟨(some 100), .extr 0, [.t 94], none⟩,
      ⟨(some 101), .extr 1, [.t 94], none⟩,
      ⟨(some 14), .mv, [.t 100], none⟩,
      ⟨(some 15), .mv, [.t 101], none⟩]) <|
    .seq (.reg [⟨(some 102), .mv, [.t 15], none⟩,
      ⟨(some 9), .mv, [.t 102], none⟩]) <|
    .seq (.reg [⟨(some 103), .mv, [.t 14], none⟩,
      ⟨(some 104), .mv, [.t 1], none⟩,
      ⟨(some 105), .bin .sub 0, [.t 103, .t 104], none⟩,
      ⟨(some 106), .mv, [.t 2], none⟩,
      ⟨(some 107), .mv, [.t 14], none⟩,
      ⟨(some 108), .bin .sub 0, [.t 106, .t 107], none⟩,
      ⟨(some 16), .mv, [.t 105], none⟩,
      ⟨(some 17), .mv, [.t 108], none⟩]) <|
    .seq (.reg [⟨(some 109), .mv, [.t 10], none⟩,
      ⟨(some 110), .bin .quo 0, [.t 109, .c (.v (.int .i64 (8)))], none⟩,
      ⟨(some 18), .mv, [.t 110], none⟩]) <|
    .seq (.reg [⟨(some 111), .mv, [.t 16], none⟩,
      ⟨(some 112), .mv, [.t 17], none⟩,
      ⟨(some 113), .bin .lss 0, [.t 111, .t 112], none⟩]) <|
    .cond (.t 113) (
      .seq (.reg [⟨(some 114), .mv, [.t 16], none⟩,
        ⟨(some 115), .mv, [.t 18], none⟩,
        ⟨(some 116), .bin .geq 0, [.t 114, .t 115], none⟩,
        ⟨(some 8), .mv, [.t 116], none⟩]) <|
      .seq (.reg [⟨(some 117), .mv, [.t 0], none⟩,
        ⟨(some 118), .mv, [.t 1], none⟩,
        ⟨(some 119), .mv, [.t 14], none⟩,
        ⟨(some 120), .mv, [.t 3], none⟩,
        ⟨(some 121), .call 73 [], [.t 117, .t 118, .t 119, .t 120], none⟩]) <|
      .reg [⟨(some 122), .mv, [.t 14], none⟩,
        ⟨(some 123), .bin .add 0, [.t 122, .c (.v (.int .i64 (1)))], none⟩,
        ⟨(some 1), .mv, [.t 123], none⟩]) (
      .seq (.reg [⟨(some 124), .mv, [.t 17], none⟩,
        ⟨(some 125), .mv, [.t 18], none⟩,
        ⟨(some 126), .bin .geq 0, [.t 124, .t 125], none⟩,
        ⟨(some 8), .mv, [.t 126], none⟩]) <|
      .seq (.reg [⟨(some 127), .mv, [.t 0], none⟩,
        ⟨(some 128), .mv, [.t 14], none⟩,
        ⟨(some 129), .bin .add 0, [.t 128, .c (.v (.int .i64 (1)))], none⟩,
        ⟨(some 130), .mv, [.t 2], none⟩,
        ⟨(some 131), .mv, [.t 3], none⟩,
        ⟨(some 132), .call 73 [], [.t 127, .t 129, .t 130, .t 131], none⟩]) <|
      .reg [⟨(some 133), .mv, [.t 14], none⟩,
        ⟨(some 2), .mv, [.t 133], none⟩]))

def c_slices_pdqsortOrdered_int : ACode :=
  .seq (.reg [⟨(some 8), .mv, [.c (.v (.bool true))], none⟩]) <|
  .seq (.reg [⟨(some 9), .mv, [.c (.v (.bool true))], none⟩]) <|
  .block 0 (
    .loop [(0, 1)] [0, 1, 2, 3, 8, 9] c_slices_pdqsortOrdered_int_L0)

theorem k_slices_pdqsortOrdered_int : cFn Try.prog n_slices_pdqsortOrdered_int 134 [] c_slices_pdqsortOrdered_int := ⟨Try.f73, _, Try.func73, rfl, by kernel_rfl, by kernel_rfl, by kernel_rfl, by kernel_rfl⟩

-- 3 parameters, results [], 49 slots, modes [false, false, false]
@[simp] abbrev n_slices_insertionSortOrdered_int : Nat := 78
def c_slices_insertionSortOrdered_int_L0 : ACode :=
  .seq (.seq (.draw (
    .take ⟨(some 16), .mv, [.t 7], none⟩ <|
    .take ⟨(some 17), .mv, [.t 1], none⟩ <|
    .take ⟨(some 18), .bin .gtr 0, [.t 16, .t 17], none⟩ <|
    .take ⟨(some 19), .mv, [.t 18], none⟩ <|
    .take ⟨(some 20), .mv, [.t 0], (some (19, true))⟩ <|
    .take ⟨(some 21), .mv, [.t 7], (some (19, true))⟩ <|
    .take ⟨(some 22), .iadr 1, [.t 20, .t 21], (some (19, true))⟩ <|
    .take ⟨(some 24), .mv, [.t 0], (some (19, true))⟩ <|
    .take ⟨(some 25), .mv, [.t 7], (some (19, true))⟩ <|
    .take ⟨(some 26), .bin .sub 0, [.t 25, .c (.v (.int .i64 (1)))], (some (19, true))⟩ <|
    .take ⟨(some 27), .iadr 1, [.t 24, .t 26], (some (19, true))⟩ <|
    .alt ⟨(some 23), .load false 1, [.t 22], (some (19, true))⟩ (
      .alt ⟨(some 28), .load false 1, [.t 27], (some (19, true))⟩ (
        .alt ⟨(some 29), .call 84 [], [.t 23, .t 28], (some (19, true))⟩ (
          .take ⟨(some 30), .pick, [.t 19, .t 29, .c (.v (.bool false))], none⟩ <|
          .done) <|
        .stop) <|
      .stop) <|
    .alt ⟨(some 28), .load false 1, [.t 27], (some (19, true))⟩ (
      .alt ⟨(some 23), .load false 1, [.t 22], (some (19, true))⟩ (
        .alt ⟨(some 29), .call 84 [], [.t 23, .t 28], (some (19, true))⟩ (
          .take ⟨(some 30), .pick, [.t 19, .t 29, .c (.v (.bool false))], none⟩ <|
          .done) <|
        .stop) <|
      .stop) <|
    .stop)) <|
  .cond (.t 30) (
    .skip) (
    .exit 2)) <|
  .seq (.block 3 (
    .draw (
      .take ⟨(some 33), .mv, [.t 0], none⟩ <|
      .take ⟨(some 34), .mv, [.t 7], none⟩ <|
      .take ⟨(some 35), .mv, [.t 0], none⟩ <|
      .take ⟨(some 36), .mv, [.t 7], none⟩ <|
      .take ⟨(some 37), .bin .sub 0, [.t 36, .c (.v (.int .i64 (1)))], none⟩ <|
      .take ⟨(some 38), .mv, [.t 0], none⟩ <|
      .take ⟨(some 39), .mv, [.t 7], none⟩ <|
      .take ⟨(some 40), .bin .sub 0, [.t 39, .c (.v (.int .i64 (1)))], none⟩ <|
      .take ⟨(some 41), .iadr 1, [.t 38, .t 40], none⟩ <|
      .take ⟨(some 43), .mv, [.t 0], none⟩ <|
      .take ⟨(some 44), .mv, [.t 7], none⟩ <|
      .take ⟨(some 45), .iadr 1, [.t 43, .t 44], none⟩ <|
      .alt ⟨(some 42), .load false 1, [.t 41], none⟩ (
        .alt ⟨(some 46), .load false 1, [.t 45], none⟩ (
          .take ⟨(some 47), .iadr 1, [.t 33, .t 34], none⟩ <|
          .alt ⟨none, .store 1, [.t 47, .t 42], none⟩ (
            .take ⟨(some 48), .iadr 1, [.t 35, .t 37], none⟩ <|
            .alt ⟨none, .store 1, [.t 48, .t 46], none⟩ (
              .done) <|
            .stop) <|
          .stop) <|
        .stop) <|
      .alt ⟨(some 46), .load false 1, [.t 45], none⟩ (
        .alt ⟨(some 42), .load false 1, [.t 41], none⟩ (
          .take ⟨(some 47), .iadr 1, [.t 33, .t 34], none⟩ <|
          .alt ⟨none, .store 1, [.t 47, .t 42], none⟩ (
            .take ⟨(some 48), .iadr 1, [.t 35, .t 37], none⟩ <|
            .alt ⟨none, .store 1, [.t 48, .t 46], none⟩ (
              .done) <|
            .stop) <|
          .stop) <|
        .stop) <|
      .stop))) <|
  .reg [⟨(some 31), .mv, [.t 7], none⟩,
    ⟨(some 32), .bin .sub 0, [.t 31, .c (.v (.int .i64 (1)))], none⟩,
    ⟨(some 7), .mv, [.t 32], none⟩]

def c_slices_insertionSortOrdered_int_L1 : ACode :=
  .seq (.seq (.reg [⟨(some 10), .mv, [.t 6], none⟩,
    ⟨(some 11), .mv, [.t 2], none⟩,
    ⟨(some 12), .bin .lss 0, [.t 10, .t 11], none⟩]) <|
  .cond (.t 12) (
    .skip) (
    .exit 0)) <|
  .seq (.block 1 (
    .seq (.reg [⟨(some 15), .mv, [.t 6], none⟩,
      ⟨(some 7), .mv, [.t 15], none⟩]) <|
    .block 2 (
      .loop [(0, 1)] [0, 1, 2, 6, 7] c_slices_insertionSortOrdered_int_L0))) <|
  .reg [⟨(some 13), .mv, [.t 6], none⟩,
    ⟨(some 14), .bin .add 0, [.t 13, .c (.v (.int .i64 (1)))], none⟩,
    ⟨(some 6), .mv, [.t 14], none⟩]

def c_slices_insertionSortOrdered_int : ACode :=
  .seq (.reg [⟨(some 8), .mv, [.t 1], none⟩,
    ⟨(some 9), .bin .add 0, [.t 8, .c (.v (.int .i64 (1)))], none⟩,
    ⟨(some 6), .mv, [.t 9], none⟩]) <|
  .block 0 (
    .loop [(0, 1)] [0, 1, 2, 6] c_slices_insertionSortOrdered_int_L1)

theorem k_slices_insertionSortOrdered_int : cFn Try.prog n_slices_insertionSortOrdered_int 49 [] c_slices_insertionSortOrdered_int := ⟨Try.f78, _, Try.func78, rfl, by kernel_rfl, by kernel_rfl, by kernel_rfl, by kernel_rfl⟩

end Go.Proofs.Dev

namespace Go.Proofs.Dev
set_option linter.unusedSimpArgs false
set_option maxRecDepth 100000

theorem s_slices_Clone_int (xs : List Int) (hx : xs.length < 2 ^ 40) : SoundAt Try.prog n_slices_Clone_int_int [.sl 1 1 (ints xs)] (.os 1 (ints xs)) [.bot] := by
  refine fn_ok (md := md0) (ms := [false]) k_slices_Clone_int_int (by simp) ?_
  simp [c_slices_Clone_int_int]
  refine ⟨fun h => by omega, fun h => ?_⟩
  subst h
  simp

theorem s_impl_clone_int (xs : List Int) (hx : xs.length < 2 ^ 40) : SoundAt Try.prog n_impl_clone_int [.sl 1 1 (ints xs)] (.os 1 (ints xs)) [.bot] := by
  refine fn_ok (md := md0) (ms := [false]) k_impl_clone_int (by simp) ?_
  simp [c_impl_clone_int]
  refine call_on (s_slices_Clone_int xs hx) ?_
  simp
  refine call_on (s_slices_Clip_int_int xs) ?_
  simp

theorem s_spec_l1Has (xs : List Int) (n : Int) (hx : xs.length < 2 ^ 40) : SoundAt Try.prog n_spec_l1Has [.sl 1 1 (ints xs), .v (.int .i64 n)] (.v (.bool (decide (n ∈ xs)))) [.bot, .bot] := by
  refine fn_ok (md := md0) (ms := [false, false]) k_spec_l1Has (by simp) ?_
  simp [c_spec_l1Has]
  refine loop_by (fun m E H => ∃ i : Nat, m = xs.length - i ∧ i ≤ xs.length ∧ ¬ n ∈ xs.take i ∧ H = [] ∧ E = [(0, .sl 1 1 (ints xs)), (1, .v (.int .i64 n)), (5, .v (.int .i64 i))]) xs.length ⟨0, by simp⟩ ?_
  rintro J hJ m E H ⟨i, rfl, hi, hn, rfl, rfl⟩
  by_cases h : i < xs.length
  · have e : ati xs i = xs[i] := by simp [ati, h]
    simp [c_spec_l1Has_L0, h]
    refine ⟨fun he => ?_, fun he => ⟨by omega, _, by omega, hJ _ _ _ ⟨i + 1, rfl, h, ?_, rfl, rfl⟩⟩⟩
    · rw [← he, e]; exact List.getElem_mem h
    · rw [List.take_succ_eq_append_getElem h, ← e]
      simp [hn, Ne.symm he]
  · have : i = xs.length := by omega
    subst this
    rw [List.take_length] at hn
    simp [c_spec_l1Has_L0, hn]

theorem s_spec_l9Once (xs : List Int) (hx : xs.length < 2 ^ 40) : SoundAt Try.prog n_spec_l9Once [.sl 1 1 (ints xs)] (.v (.bool (onceB xs))) [.bot] := by
  refine fn_ok (md := md0) (ms := [false]) k_spec_l9Once (by simp) ?_
  simp [c_spec_l9Once]
  refine loop_by (fun m E H => ∃ i : Nat, m = xs.length - i ∧ i ≤ xs.length ∧ (xs.take i).Nodup ∧ H = [] ∧ E = [(0, .sl 1 1 (ints xs)), (3, .v (.int .i64 i))]) xs.length ⟨0, by simp⟩ ?_
  rintro J hJ m E H ⟨i, rfl, hi, hn, rfl, rfl⟩
  by_cases h : i < xs.length
  · have e := once_take_succ xs i h
    have hle : i ≤ xs.length := hi
    simp [c_spec_l9Once_L0, h, hle, take_ints]
    refine call_on (s_spec_l1Has (xs.take i) (ati xs i) (by simp; omega)) ?_
    simp [take_ints]
    refine ⟨fun he => ?_, fun he => ⟨by omega, _, by omega, hJ _ _ _ ⟨i + 1, rfl, h, e.2 ⟨hn, he⟩, rfl, rfl⟩⟩⟩
    simp only [onceB, decide_eq_false_iff_not]
    intro hnd
    exact (e.1 ((List.take_sublist (i + 1) xs).nodup hnd)).2 he
  · have : i = xs.length := by omega
    subst this
    rw [List.take_length] at hn
    simp [c_spec_l9Once_L0, onceB, hn]

end Go.Proofs.Dev

namespace Go.Proofs
open Go.Shelf
set_option maxRecDepth 1000000
def Try.lays189_ren : Go.Shelf.Ren := ⟨fun | 189 => 57 | 125 => 74 | 257 => 73 | 128 => 87 | 129 => 88 | 294 => 78 | 295 => 79 | 296 => 80 | 297 => 81 | 298 => 82 | 299 => 83 | 216 => 84 | 300 => 85 | 301 => 86 | 328 => 89 | 329 => 90 | 330 => 91 | 331 => 92 | 332 => 93 | 215 => 94 | 343 => 95 | n => n, fun | 28 => 26 | 3 => 3 | 46 => 77 | 0 => 0 | 51 => 89 | 53 => 91 | 4 => 4 | 183 => 83 | 182 => 82 | 131 => 70 | 5 => 5 | 9 => 9 | 218 => 92 | 222 => 96 | 228 => 98 | 229 => 78 | n => n, fun | n => n⟩
theorem Try.lays189 : Go.Proofs.Lays.n189 Try.prog Try.lays189_ren := {
  mixed := by kernel_rfl
  f125 := Try.func74.trans (congrArg some (by kernel_rfl))
  f128 := Try.func87.trans (congrArg some (by kernel_rfl))
  f129 := Try.func88.trans (congrArg some (by kernel_rfl))
  f189 := Try.func57.trans (congrArg some (by kernel_rfl))
  f215 := Try.func94.trans (congrArg some (by kernel_rfl))
  f216 := Try.func84.trans (congrArg some (by kernel_rfl))
  f257 := Try.func73.trans (congrArg some (by kernel_rfl))
  f294 := Try.func78.trans (congrArg some (by kernel_rfl))
  f295 := Try.func79.trans (congrArg some (by kernel_rfl))
  f296 := Try.func80.trans (congrArg some (by kernel_rfl))
  f297 := Try.func81.trans (congrArg some (by kernel_rfl))
  f298 := Try.func82.trans (congrArg some (by kernel_rfl))
  f299 := Try.func83.trans (congrArg some (by kernel_rfl))
  f300 := Try.func85.trans (congrArg some (by kernel_rfl))
  f301 := Try.func86.trans (congrArg some (by kernel_rfl))
  f328 := Try.func89.trans (congrArg some (by kernel_rfl))
  f329 := Try.func90.trans (congrArg some (by kernel_rfl))
  f330 := Try.func91.trans (congrArg some (by kernel_rfl))
  f331 := Try.func92.trans (congrArg some (by kernel_rfl))
  f332 := Try.func93.trans (congrArg some (by kernel_rfl))
  f343 := Try.func95.trans (congrArg some (by kernel_rfl))
  t0 := Try.underlying0
  a0 := Try.isAgg0
  z0 := Try.sizeOf0
  v0 := Try.zeroValue0
  t3 := Try.underlying3
  a3 := Try.isAgg3
  z3 := Try.sizeOf3
  v3 := Try.zeroValue3
  t4 := Try.underlying4
  a4 := Try.isAgg4
  z4 := Try.sizeOf4
  v4 := Try.zeroValue4
  t5 := Try.underlying5
  a5 := Try.isAgg5
  z5 := Try.sizeOf5
  v5 := Try.zeroValue5
  t9 := Try.underlying9
  a9 := Try.isAgg9
  z9 := Try.sizeOf9
  v9 := Try.zeroValue9
  t28 := Try.underlying26
  a28 := Try.isAgg26
  z28 := Try.sizeOf26
  v28 := Try.zeroValue26
  t46 := Try.underlying77
  a46 := Try.isAgg77
  z46 := Try.sizeOf77
  v46 := Try.zeroValue77
  t51 := Try.underlying89
  a51 := Try.isAgg89
  z51 := Try.sizeOf89
  v51 := Try.zeroValue89
  t53 := Try.underlying91
  a53 := Try.isAgg91
  z53 := Try.sizeOf91
  v53 := Try.zeroValue91
  t131 := Try.underlying70
  a131 := Try.isAgg70
  z131 := Try.sizeOf70
  v131 := Try.zeroValue70
  t182 := Try.underlying82
  a182 := Try.isAgg82
  z182 := Try.sizeOf82
  v182 := Try.zeroValue82
  t183 := Try.underlying83
  a183 := Try.isAgg83
  z183 := Try.sizeOf83
  v183 := Try.zeroValue83
  t218 := Try.underlying92
  a218 := Try.isAgg92
  z218 := Try.sizeOf92
  v218 := Try.zeroValue92
  t222 := Try.underlying96
  a222 := Try.isAgg96
  z222 := Try.sizeOf96
  v222 := Try.zeroValue96
  t228 := Try.underlying98
  a228 := Try.isAgg98
  z228 := Try.sizeOf98
  v228 := Try.zeroValue98
  t229 := Try.underlying78
  a229 := Try.isAgg78
  z229 := Try.sizeOf78
  v229 := Try.zeroValue78 }
open Go.Sort Go.RowKit in
theorem Try.slices_Sort_int (blk off cap : Nat) (zs : List Int) (w : World) (hH : Holds (Value.int .i64) w blk off zs.toArray) (hblk : blk < w.heap.size) (hsz : zs.length < 4611686018427387904) :
    Calls Try.prog 57 #[.slice (some ⟨blk, off, none⟩) zs.length cap] w fun e w' =>
      e = .returned (.tuple #[]) ∧ ∃ n os, w' = grow (putRow (Value.int .i64) (Sort.ahead w n) blk off (zs.mergeSort fun x y => decide (x ≤ y)).toArray) os := Any.slices_Sort_int Try.lays189 blk off cap zs w hH hblk hsz
def Try.laysNm220_ren : Go.Shelf.Ren := ⟨fun | 20 => 58 | n => n, fun | 22 => 26 | 3 => 3 | 4 => 4 | 0 => 0 | n => n, fun | n => n⟩
theorem Try.laysNm220 : Go.Proofs.Lays2.n20 Try.prog Try.laysNm220_ren := {
  mixed := by kernel_rfl
  f20 := Try.func58.trans (congrArg some (by kernel_rfl))
  t0 := Try.underlying0
  a0 := Try.isAgg0
  z0 := Try.sizeOf0
  v0 := Try.zeroValue0
  t3 := Try.underlying3
  a3 := Try.isAgg3
  z3 := Try.sizeOf3
  v3 := Try.zeroValue3
  t4 := Try.underlying4
  a4 := Try.isAgg4
  z4 := Try.sizeOf4
  v4 := Try.zeroValue4
  t22 := Try.underlying26
  a22 := Try.isAgg26
  z22 := Try.sizeOf26
  v22 := Try.zeroValue26
  i3 := by kernel_rfl }
open Go.RowKit Go.Lib Go.Sort in
/-- slices.Compact at []int: "Compact replaces consecutive runs of equal elements with a single copy. This is like the uniq command found on Unix. Compact modifies the contents of the slice s and returns the modified slice, which may have a smaller length. Compact zeroes the elements between the new length and the original length. The result preserves the nilness of s.": IT RETURNS THE SLICE CUT TO 'Lib.compact zs'; ITS CELLS HOLD 'Lib.compact zs', THEN ZERO VALUES up to the old length; all else is as it was, but for the count of draws. IN THE WORDS OF slices.Sort's CONTRACT ('Holds', 'putRow'): so the everyday 'slices.Sort(xs); xs = slices.Compact(xs)' goes from the one contract to the other. It asks 'zs.length ≤ cap' (every slice's: the reslicing 's[:k]' looks at it). Length 0, nil: '.._empty'. (LAID: no walk: one application.) -/
theorem Try.slices_Compact_int (blk off cap : Nat) (zs : List Int) (w : World) (hH : Holds (Value.int .i64) w blk off zs.toArray) (hsz : zs.length ≤ 9223372036854775807) (hcap : zs.length ≤ cap) :
    Calls Try.prog 58 #[.slice (some ⟨blk, off, none⟩) zs.length cap] w fun e w' => e = .returned (.slice (some ⟨blk, off, none⟩) (Lib.compact zs).length cap) ∧ ∃ q, w' = putRow (Value.int .i64) (Sort.ahead w q) blk off (Lib.compact zs ++ List.replicate (zs.length - (Lib.compact zs).length) 0).toArray := Any.slices_Compact_int Try.laysNm220 blk off cap zs w hH hsz hcap
open Go.RowKit Go.Lib Go.Sort in
/-- The same at a slice of length 0, a nil one too: it comes back as it is. (LAID: no walk: one application.) -/
theorem Try.slices_Compact_int_empty (a : Option Addr) (cap : Nat) (w : World) :
    Calls Try.prog 58 #[.slice a 0 cap] w fun e w' => e = .returned (.slice a 0 cap) ∧ w' = w := Any.slices_Compact_int_empty Try.laysNm220 a cap w

end Go.Proofs

namespace Go.Proofs.Dev
set_option linter.unusedSimpArgs false
set_option maxRecDepth 100000

theorem s_bits_Len64_zero : SoundAt Try.prog n_mathbits_Len64 [.v (.int .u64 0)] (.v (.int .i64 0)) [.bot] := by
  refine fn_ok (md := md0) (ms := [false]) k_mathbits_Len64 (by simp) ?_
  simp [c_mathbits_Len64]
  show stepK _ _ _ (some (AV.v (.int .u8 0), []))
  simp

theorem s_bits_Len_zero : SoundAt Try.prog n_mathbits_Len [.v (.int .u64 0)] (.v (.int .i64 0)) [.bot] := by
  refine fn_ok (md := md0) (ms := [false]) k_mathbits_Len (by simp) ?_
  simp [c_mathbits_Len]
  refine call_on s_bits_Len64_zero ?_
  simp

theorem s_insertion_nil : SoundAt Try.prog n_slices_insertionSortOrdered_int [.sl 1 1 [], .v (.int .i64 0), .v (.int .i64 0)] (.tup []) [.bot, .bot, .bot] := by
  refine fn_ok (md := md0) (ms := [false, false, false]) k_slices_insertionSortOrdered_int (by simp) ?_
  simp [c_slices_insertionSortOrdered_int]
  refine loop_by (fun m E H => m = 0 ∧ H = [] ∧ E = [(0, .sl 1 1 []), (1, .v (.int .i64 0)), (2, .v (.int .i64 0)), (6, .v (.int .i64 1))]) 0 ⟨rfl, rfl, rfl⟩ ?_
  rintro J hJ m E H ⟨rfl, rfl, rfl⟩
  simp [c_slices_insertionSortOrdered_int_L1]

theorem s_pdqsort_nil : SoundAt Try.prog n_slices_pdqsortOrdered_int [.sl 1 1 [], .v (.int .i64 0), .v (.int .i64 0), .v (.int .i64 0)] (.tup []) [.bot, .bot, .bot, .bot] := by
  refine fn_ok (md := md0) (ms := [false, false, false, false]) k_slices_pdqsortOrdered_int (by simp) ?_
  simp [c_slices_pdqsortOrdered_int]
  refine loop_by (fun m E H => m = 0 ∧ H = [] ∧ E = [(0, .sl 1 1 []), (1, .v (.int .i64 0)), (2, .v (.int .i64 0)), (3, .v (.int .i64 0)), (8, .v (.bool true)), (9, .v (.bool true))]) 0 ⟨rfl, rfl, rfl⟩ ?_
  rintro J hJ m E H ⟨rfl, rfl, rfl⟩
  simp [c_slices_pdqsortOrdered_int_L0]
  refine call_on s_insertion_nil ?_
  simp

theorem s_slices_Sort_nil : SoundAt Try.prog n_slices_Sort_int_int [.os 1 []] (.tup []) [.os 1 []] := by
  refine fn_ok (md := md0) (ms := [true]) k_slices_Sort_int_int (by simp) ?_
  simp [c_slices_Sort_int_int]
  refine call_on s_bits_Len_zero ?_
  simp
  refine call_on s_pdqsort_nil ?_
  simp

theorem s_slices_Sort (xs : List Int) (hx : xs.length < 2 ^ 40) : SoundAt Try.prog n_slices_Sort_int_int [.os 1 (ints xs)] (.tup []) [.os 1 (ints (srt xs))] := by
  by_cases hz : xs = []
  · subst hz
    have : srt [] = [] := List.eq_nil_of_length_eq_zero (by rw [srt_length]; rfl)
    rw [this]
    exact s_slices_Sort_nil
  · refine arr_sound (srt_length xs) hz fun blk off cap w hH hb => ?_
    exact Try.slices_Sort_int blk off cap xs w hH hb (by omega)

theorem s_slices_Compact (xs : List Int) (hx : xs.length < 2 ^ 40) : SoundAt Try.prog 58 [.os 1 (ints xs)] (.os 1 (ints (Lib.compact xs))) [.bot] := by
  by_cases hz : xs = []
  · subst hz
    have hc : Lib.compact ([] : List Int) = [] := List.eq_nil_of_length_eq_zero (by have := compact_le []; simpa using this)
    rw [hc]
    intro w forb us S hr hnd hlt hforb
    have hr0 := hr
    rw [RL] at hr
    obtain ⟨S1, S2, u, us', hS, rfl, h1, h2⟩ := hr
    rw [RL] at h2
    obtain ⟨rfl, rfl⟩ := h2
    rw [List.append_nil] at hS
    subst hS
    have h1' := h1
    rw [R] at h1'
    obtain ⟨a, cap, rfl, hc, _⟩ := h1'
    refine (Try.slices_Compact_int_empty a cap w).mono ?_
    rintro e w' ⟨rfl, rfl⟩
    refine ⟨_, S, rfl, ?_, hnd, fun x hx => ⟨hlt x hx, .inr hx⟩, Kept.refl _ _ _⟩
    rw [RL]
    refine ⟨S, [], _, _, by simp, rfl, ?_, by rw [RL]; exact ⟨[], [], _, _, rfl, rfl, by rw [R], by rw [RL]; exact ⟨rfl, rfl⟩⟩⟩
    rw [R] at h1 ⊢
    exact h1
  · refine arr_pref (rest := List.replicate (xs.length - (Lib.compact xs).length) 0) (by have := compact_le xs; simp; omega) hz fun blk off cap w hH hb hcap => ?_
    exact Try.slices_Compact_int blk off cap xs w hH (by omega) hcap

theorem s_impl_Region_fair (W T : Int) (cs : List Bool) (ds ls : List Int) (hok : okB W T cs ds ls = true) :
    SoundAt Try.prog n_impl_Region_fair [.agg [.v (.int .i64 W), .v (.int .i64 T), .sl 1 1 (bools cs)], .sl 1 1 (ints ds), .sl 1 1 (ints ls)] (.v (.bool (onceB (pairsI W T ds ls)))) [.bot, .bot, .bot] := by
  refine fn_ok (md := md0) (ms := [false, false, false]) k_impl_Region_fair (by simp) ?_
  obtain ⟨hr, e1, e2, _⟩ := okB_W hok
  have hl36 := regB_len hr
  have hlen := pairsTo_length W T ds ls ls.length
  have hb : (pairsI W T ds ls).length ≤ 36 := by unfold pairsI; omega
  simp [c_impl_Region_fair]
  refine call_on (s_impl_Region_pairs W T cs ds ls hok) ?_
  generalize pairsI W T ds ls = xs at *
  have hsl := srt_length xs
  have ht : (srt xs).take xs.length = srt xs := List.take_of_length_le (by omega)
  simp
  refine call_on (s_slices_Sort xs (by omega)) ?_
  simp [hsl]
  refine call_on (s_slices_Clone_int (srt xs) (by omega)) ?_
  simp [hsl, take_ints, ht]
  refine call_on (s_slices_Compact (srt xs) (by omega)) ?_
  simp [hsl, onceB]
  have ho := once_sorted xs
  rw [Bool.eq_iff_iff]
  simp only [beq_iff_eq, decide_eq_true_eq]
  rw [← ho]
  omega

end Go.Proofs.Dev

namespace Go.Proofs.Dev
set_option linter.unusedSimpArgs false
set_option maxRecDepth 100000

def fairB (W T : Int) (cs : List Bool) (ds ls : List Int) : Bool := okB W T cs ds ls && onceB (pairsI W T ds ls)

theorem s_spec_FairOk (W T : Int) (cs : List Bool) (ds ls : List Int) (hb : cs.length < 2 ^ 40) (hd : ds.length < 2 ^ 40) (hl : ls.length < 2 ^ 40) :
    SoundAt Try.prog n_spec_FairOk [.agg [.v (.int .i64 W), .v (.int .i64 T), .sl 1 1 (bools cs)], .sl 1 1 (ints ds), .sl 1 1 (ints ls)] (.v (.bool (fairB W T cs ds ls))) [.bot, .bot, .bot] := by
  refine fn_ok (md := md0) (ms := [false, false, false]) k_spec_FairOk (by simp) ?_
  simp [c_spec_FairOk]
  refine call_on (s_spec_PuzzleValid W T cs ds hb hd) ?_
  cases hp : (regB W T cs && digsB cs ds) with
  | false =>
    have hn : okB W T cs ds ls = false := by simp only [okB, ← Bool.and_assoc, hp, Bool.false_and]
    simp [fairB, hn]
  | true =>
  simp
  refine call_on (s_spec_LaidOk W T cs ls hb hl) ?_
  cases hp2 : (regB W T cs && laysB W T cs ls) with
  | false =>
    have hn : okB W T cs ds ls = false := by
      simp only [Bool.and_eq_true] at hp
      rw [hp.1, Bool.true_and] at hp2
      simp [okB, hp2]
    simp [fairB, hn]
  | true =>
  have hok : okB W T cs ds ls = true := by
    simp only [Bool.and_eq_true] at hp hp2
    simp [okB, hp, hp2]
  have hlen := pairsTo_length W T ds ls ls.length
  have hb' : (pairsI W T ds ls).length ≤ ls.length := by unfold pairsI; omega
  simp
  refine call_on (s_spec_PairsOf W T cs ds ls hb hd hl) ?_
  simp [hok]
  refine call_on (s_spec_l9Once (pairsI W T ds ls) (by omega)) ?_
  simp [fairB, hok]

end Go.Proofs.Dev

namespace Go.Proofs.Dev

-- 2 parameters, results [.t 4], 28 slots, modes [false, false]
@[simp] abbrev n_spec_TilingOk : Nat := 48
def c_spec_TilingOk_L0 : ACode :=
  .seq (.seq (.reg [⟨(some 10), .mv, [.t 5], none⟩,
    ⟨(some 11), .mv, [.t 1], none⟩,
    ⟨(some 12), .len false, [.t 11], none⟩,
    ⟨(some 13), .bin .lss 0, [.t 10, .t 12], none⟩]) <|
  .cond (.t 13) (
    .skip) (
    .exit 0)) <|
  .seq (.block 1 (
    .seq (.reg [⟨(some 16), .fadr 2, [.t 2], none⟩,
      ⟨(some 17), .load false 1, [.t 16], none⟩,
      ⟨(some 18), .mv, [.t 5], none⟩,
      ⟨(some 19), .iadr 1, [.t 17, .t 18], none⟩,
      ⟨(some 20), .load false 1, [.t 19], none⟩,
      ⟨(some 21), .mv, [.t 20], none⟩,
      ⟨(some 22), .mv, [.t 1], (some (21, true))⟩,
      ⟨(some 23), .mv, [.t 5], (some (21, true))⟩,
      ⟨(some 24), .iadr 1, [.t 22, .t 23], (some (21, true))⟩,
      ⟨(some 25), .load false 1, [.t 24], (some (21, true))⟩,
      ⟨(some 26), .bin .eql 0, [.t 25, .c (.v (.int .i64 (0)))], (some (21, true))⟩,
      ⟨(some 27), .pick, [.t 21, .t 26, .c (.v (.bool false))], none⟩]) <|
    .cond (.t 27) (
      .seq (.reg [⟨(some 4), .mv, [.c (.v (.bool false))], none⟩]) <|
      .ret) (
      .skip))) <|
  .reg [⟨(some 14), .mv, [.t 5], none⟩,
    ⟨(some 15), .bin .add 0, [.t 14, .c (.v (.int .i64 (1)))], none⟩,
    ⟨(some 5), .mv, [.t 15], none⟩]

def c_spec_TilingOk : ACode :=
  .seq (.reg [⟨(some 2), .box, [.t 0], none⟩,
    ⟨(some 4), .mv, [.c (.v (.bool false))], none⟩]) <|
  .seq (.seq (.reg [⟨(some 6), .load true 3, [.t 2], none⟩,
    ⟨(some 7), .mv, [.t 1], none⟩,
    ⟨(some 8), .call 64 [], [.t 6, .t 7], none⟩,
    ⟨(some 9), .un .not, [.t 8], none⟩]) <|
  .cond (.t 9) (
    .seq (.reg [⟨(some 4), .mv, [.c (.v (.bool false))], none⟩]) <|
    .ret) (
    .skip)) <|
  .seq (.seq (.reg [⟨(some 5), .mv, [.c (.v (.int .i64 (0)))], none⟩]) <|
  .block 0 (
    .loop [(1, 1)] [1, 2, 5] c_spec_TilingOk_L0)) <|
  .seq (.reg [⟨(some 4), .mv, [.c (.v (.bool true))], none⟩]) <|
  .ret

theorem k_spec_TilingOk : cFn Try.prog n_spec_TilingOk 28 [.t 4] c_spec_TilingOk := ⟨Try.f48, _, Try.func48, rfl, by kernel_rfl, by kernel_rfl, by kernel_rfl, by kernel_rfl⟩

-- 3 parameters, results [.t 6], 16 slots, modes [false, false, false]
@[simp] abbrev n_spec_SolvedOk : Nat := 31

def c_spec_SolvedOk : ACode :=
  .seq (.reg [⟨(some 3), .box, [.t 0], none⟩,
    ⟨(some 6), .mv, [.c (.v (.bool false))], none⟩]) <|
  .seq (.reg [⟨(some 7), .load true 3, [.t 3], none⟩,
    ⟨(some 8), .mv, [.t 2], none⟩,
    ⟨(some 9), .call 48 [], [.t 7, .t 8], none⟩,
    ⟨(some 10), .mv, [.t 9], none⟩,
    ⟨(some 11), .load true 3, [.t 3], (some (10, true))⟩,
    ⟨(some 12), .mv, [.t 1], (some (10, true))⟩,
    ⟨(some 13), .mv, [.t 2], (some (10, true))⟩,
    ⟨(some 14), .call 51 [], [.t 11, .t 12, .t 13], (some (10, true))⟩,
    ⟨(some 15), .pick, [.t 10, .t 14, .c (.v (.bool false))], none⟩,
    ⟨(some 6), .mv, [.t 15], none⟩]) <|
  .ret

theorem k_spec_SolvedOk : cFn Try.prog n_spec_SolvedOk 16 [.t 6] c_spec_SolvedOk := ⟨Try.f31, _, Try.func31, rfl, by kernel_rfl, by kernel_rfl, by kernel_rfl, by kernel_rfl⟩

end Go.Proofs.Dev

namespace Go.Proofs.Dev
set_option linter.unusedSimpArgs false
set_option maxRecDepth 100000

def fullAt (cs : List Bool) (ls : List Int) (k : Int) : Bool := !(atb cs k && decide (ati ls k = 0))
/-- Every cell of the region has a domino. -/
def fullB (cs : List Bool) (ls : List Int) : Bool := allB cs.length (fun k => fullAt cs ls k)
def solvedB (W T : Int) (cs : List Bool) (ds ls : List Int) : Bool := fairB W T cs ds ls && fullB cs ls

theorem s_spec_TilingOk (W T : Int) (cs : List Bool) (ls : List Int) (hb : cs.length < 2 ^ 40) (hd : ls.length < 2 ^ 40) :
    SoundAt Try.prog n_spec_TilingOk [.agg [.v (.int .i64 W), .v (.int .i64 T), .sl 1 1 (bools cs)], .sl 1 1 (ints ls)] (.v (.bool (regB W T cs && laysB W T cs ls && fullB cs ls))) [.bot, .bot] := by
  refine fn_ok (md := md0) (ms := [false, false]) k_spec_TilingOk (by simp) ?_
  simp [c_spec_TilingOk]
  refine call_on (s_spec_LaidOk W T cs ls hb hd) ?_
  cases hp : (regB W T cs && laysB W T cs ls) with
  | false => simp
  | true =>
  have hl' : ls.length = cs.length := by
    simp only [laysB, Bool.and_eq_true, decide_eq_true_eq] at hp
    exact hp.2.1
  simp
  refine loop_by (fun m E H => ∃ i : Nat, m = ls.length - i ∧ i ≤ ls.length ∧ allB i (fun k => fullAt cs ls k) = true ∧ H = [some (.box [.v (.int .i64 W), .v (.int .i64 T), .sl 1 1 (bools cs)])] ∧ E = [(1, .sl 1 1 (ints ls)), (2, .lp 0 0 0 0), (5, .v (.int .i64 i))]) ls.length ⟨0, by simp [allB_zero]⟩ ?_
  rintro J hJ m E H ⟨i, rfl, hi, ha, rfl, rfl⟩
  by_cases h : i < ls.length
  · have h2 : i < cs.length := by omega
    have next : fullAt cs ls i = true → again J (ls.length - i) [(1, .sl 1 1 (ints ls)), (2, .lp 0 0 0 0), (5, .v (.int .i64 (i + 1)))] [some (.box [.v (.int .i64 W), .v (.int .i64 T), .sl 1 1 (bools cs)])] :=
      fun hd => ⟨_, by omega, hJ _ _ _ ⟨i + 1, rfl, h, by rw [allB_succ, ha, hd]; rfl, rfl, rfl⟩⟩
    have stop : fullAt cs ls i = false → fullB cs ls = false := fun hd => allB_false h2 hd
    cases hc : atb cs i with
    | false =>
      simp [c_spec_TilingOk_L0, h, h2, hc]
      exact ⟨by omega, next (by simp [fullAt, hc])⟩
    | true =>
      simp [c_spec_TilingOk_L0, h, h2, hc]
      exact ⟨fun e => stop (by simp [fullAt, hc, e]), fun e => ⟨by omega, next (by simp [fullAt, hc, e])⟩⟩
  · have : i = ls.length := by omega
    subst this
    simp [c_spec_TilingOk_L0]
    rw [hl'] at ha
    simpa [fullB] using ha

theorem fairB_ok {W T : Int} {cs : List Bool} {ds ls : List Int} (h : fairB W T cs ds ls = true) : okB W T cs ds ls = true := by
  simp only [fairB, Bool.and_eq_true] at h; exact h.1
theorem fairB_rl {W T : Int} {cs : List Bool} {ds ls : List Int} (h : (regB W T cs && laysB W T cs ls) = false) : fairB W T cs ds ls = false := by
  cases hf : fairB W T cs ds ls with
  | false => rfl
  | true =>
    have := fairB_ok hf
    simp only [okB, Bool.and_eq_true] at this
    rw [this.1, this.2.2] at h; cases h

theorem s_spec_SolvedOk (W T : Int) (cs : List Bool) (ds ls : List Int) (hb : cs.length < 2 ^ 40) (hd : ds.length < 2 ^ 40) (hl : ls.length < 2 ^ 40) :
    SoundAt Try.prog n_spec_SolvedOk [.agg [.v (.int .i64 W), .v (.int .i64 T), .sl 1 1 (bools cs)], .sl 1 1 (ints ds), .sl 1 1 (ints ls)] (.v (.bool (solvedB W T cs ds ls))) [.bot, .bot, .bot] := by
  refine fn_ok (md := md0) (ms := [false, false, false]) k_spec_SolvedOk (by simp) ?_
  simp [c_spec_SolvedOk]
  refine call_on (s_spec_TilingOk W T cs ls hb hl) ?_
  cases hp : (regB W T cs && laysB W T cs ls) with
  | false => simp [solvedB, fairB_rl hp]
  | true =>
  cases hf : fullB cs ls with
  | false => simp [solvedB, hf]
  | true =>
  simp
  refine call_on (s_spec_FairOk W T cs ds ls hb hd hl) ?_
  simp [solvedB, hf]

end Go.Proofs.Dev

namespace Go.Proofs.Dev
set_option linter.unusedSimpArgs false
set_option maxRecDepth 100000

end Go.Proofs.Dev
