/- Contracts of the functions of the program over slots and rows, each proved against the program itself; no condition beyond those that each theorem names. -/
import Derived.Test.YtakaenhgbkbegaaGreatAJ
import Derived.Test.YtakaenhgbkbegaaGreatProg
import Derived.Test.YtakaenhgbkbegaaGreatAH
import Derived.Shelf.Sort.Plain
import Derived.Shelf.Slices.CompactI
import Derived.Ground.Names2Prog

set_option linter.unusedSimpArgs false
set_option linter.unusedVariables false

namespace Go.Proofs.Dev
set_option linter.unusedSimpArgs false
set_option maxRecDepth 100000

/-- A puzzle and its dominoes are in order. -/
def okB (W T : Int) (cs : List Bool) (ds ls : List Int) : Bool := regB W T cs && (digsB cs ds && laysB W T cs ls)

theorem okB_W {W T : Int} {cs : List Bool} {ds ls : List Int} (h : okB W T cs ds ls = true) : regB W T cs = true ∧ ds.length = cs.length ∧ ls.length = cs.length ∧
    ∀ k : Nat, k < cs.length → digAt cs ds k = true ∧ layAt W T cs ls k = true := by
  simp only [okB, digsB, laysB, Bool.and_eq_true, decide_eq_true_eq, allB_iff] at h
  obtain ⟨h1, ⟨h2, h3⟩, h4, h5⟩ := h
  exact ⟨h1, h2, h4, fun k hk => ⟨h3 k (by omega), h5 k (by omega)⟩⟩

/-- What a first cell of a domino knows. -/
theorem okB_first {W T : Int} {cs : List Bool} {ds ls : List Int} (h : okB W T cs ds ls = true) {k : Nat} (hk : k < cs.length) (hw : ati ls k = 1 ∨ ati ls k = 2) :
    0 ≤ stepI W T k (ati ls k) ∧ stepI W T k (ati ls k) < cs.length ∧ (0 ≤ ati ds k ∧ ati ds k ≤ 6) ∧ (0 ≤ ati ds (stepI W T k (ati ls k)) ∧ ati ds (stepI W T k (ati ls k)) ≤ 6) := by
  obtain ⟨hr, h1, h2, h3⟩ := okB_W h
  obtain ⟨w1, w2, t1, t2, l1, _⟩ := regB_W hr
  obtain ⟨d1, p1⟩ := h3 k hk
  have hst := stepI_range (T := T) (k := k) (way := ati ls k) w1 (by omega) (by omega)
  simp only [layAt, decide_eq_true_eq] at p1
  rcases p1 with p1 | ⟨_, _, pc, p0, pt, _⟩
  · omega
  generalize hto : stepI W T k (ati ls k) = to at *
  have d2 := (h3 to.toNat (by omega)).1
  rw [show ((to.toNat : Nat) : Int) = to by omega] at d2
  simp only [digAt, pc, pt, if_true, decide_eq_true_eq] at d1 d2
  exact ⟨p0, by omega, d1, d2⟩

theorem s_spec_PairsOf (W T : Int) (cs : List Bool) (ds ls : List Int) (hb : cs.length < 2 ^ 40) (hd : ds.length < 2 ^ 40) (hl : ls.length < 2 ^ 40) :
    SoundAt Tryz.prog n_spec_PairsOf [.agg [.v (.int .i64 W), .v (.int .i64 T), .sl 1 1 (bools cs)], .sl 1 1 (ints ds), .sl 1 1 (ints ls)] (.os 1 (ints (if okB W T cs ds ls then pairsI W T ds ls else []))) [.bot, .bot, .bot] := by
  refine fn_ok (md := md0) (ms := [false, false, false]) k_spec_PairsOf (by simp) ?_
  simp [c_spec_PairsOf]
  refine loop_by (fun m E H => ∃ i : Nat, m = ls.length - i ∧ i ≤ ls.length ∧ (i = 0 ∨ okB W T cs ds ls = true) ∧ H = [some (.box [.v (.int .i64 W), .v (.int .i64 T), .sl 1 1 (bools cs)]), some (.arr 1 (ints (pairsTo W T ds ls i)))] ∧
    E = [(1, .sl 1 1 (ints ds)), (2, .sl 1 1 (ints ls)), (3, .lp 0 0 0 0), (7, .ls 1 1 0 (pairsTo W T ds ls i).length), (8, .v (.int .i64 i))]) ls.length ⟨0, by simp [pairsTo]⟩ ?_
  rintro J hJ m E H ⟨i, rfl, hi, hz, rfl, rfl⟩
  by_cases h : i < ls.length
  case neg =>
    have : i = ls.length := by omega
    subst this
    simp [c_spec_PairsOf_L0]
    rcases hz with hz | hz
    · have : ls = [] := List.eq_nil_of_length_eq_zero hz
      subst this
      simp [pairsI, pairsTo]
    · simp [hz, pairsI]
  simp [c_spec_PairsOf_L0, h]
  refine call_on (s_spec_PuzzleValid W T cs ds hb hd) ?_
  have ok0 : okB W T cs ds ls = false → i = 0 := fun h => by rcases hz with hz | hz; exact hz; rw [h] at hz; cases hz
  cases hp : (regB W T cs && digsB cs ds) with
  | false =>
    have hn : okB W T cs ds ls = false := by simp only [okB, ← Bool.and_assoc, hp, Bool.false_and]
    have := ok0 hn; subst this
    simp [hn, pairsTo]
  | true =>
  simp
  refine call_on (s_spec_LaidOk W T cs ls hb hl) ?_
  cases hp2 : (regB W T cs && laysB W T cs ls) with
  | false =>
    have hn : okB W T cs ds ls = false := by
      simp only [Bool.and_eq_true] at hp
      rw [hp.1, Bool.true_and] at hp2
      simp [okB, hp2]
    have := ok0 hn; subst this
    simp [hn, pairsTo]
  | true =>
  have hok : okB W T cs ds ls = true := by
    simp only [Bool.and_eq_true] at hp hp2
    simp [okB, hp, hp2]
  obtain ⟨hr, e1, e2, _⟩ := okB_W hok
  have hlen := pairsTo_length W T ds ls i
  have hl36 := regB_len hr
  have hsuc := pairsTo_succ W T ds ls i
  have next : ∀ (x : List Int), pairsTo W T ds ls (i + 1) = pairsTo W T ds ls i ++ x → again J (ls.length - i) [(1, .sl 1 1 (ints ds)), (2, .sl 1 1 (ints ls)), (3, .lp 0 0 0 0), (7, .ls 1 1 0 ((pairsTo W T ds ls i).length + x.length)), (8, .v (.int .i64 (i + 1)))]
      [some (.box [.v (.int .i64 W), .v (.int .i64 T), .sl 1 1 (bools cs)]), some (.arr 1 (ints (pairsTo W T ds ls i) ++ ints x))] := by
    intro x hx
    refine ⟨_, by omega, hJ _ _ _ ⟨i + 1, rfl, h, .inr hok, ?_, ?_⟩⟩
    · rw [hx, ints_append]
    · rw [hx, List.length_append]; rfl
  have hds : i < ds.length := by omega
  by_cases hw : ati ls i = 1 ∨ ati ls i = 2
  · obtain ⟨o1, o2, o3, o4⟩ := okB_first hok (k := i) (by omega) hw
    have one : SoundAt Tryz.prog n_spec_l2Step [.agg [.v (.int .i64 W), .v (.int .i64 T), .sl 1 1 (bools cs)], .v (.int .i64 i), .v (.int .i64 (ati ls i))] (.v (.int .i64 (stepI W T i (ati ls i)))) [.bot, .bot, .bot] := s_spec_l2Step W T cs i (ati ls i) hr (by omega) (by omega)
    have two := s_spec_PairOf (ati ds i) (ati ds (stepI W T i (ati ls i))) o3 o4
    have next1 := next _ (by rw [hsuc, if_pos hw])
    clear hsuc next
    simp at next1
    generalize hto : stepI W T i (ati ls i) = to at *
    have o5 : to < ds.length := by omega
    have hb : (pairsTo W T ds ls i).length ≤ 36 := by omega
    rcases hw with hw | hw <;> rw [hw] at one <;>
    · simp [h, hw, hds]
      (repeat' first | assumption | apply And.intro) <;>
      · refine call_on one ?_
        simp [o1, o5, hds]
        (repeat' first | assumption | apply And.intro) <;>
        · refine call_on two ?_
          simp
          exact ⟨by omega, by omega, next1⟩
  · have hw1 : ¬ ati ls i = 1 := fun e => hw (.inl e)
    have hw2 : ¬ ati ls i = 2 := fun e => hw (.inr e)
    simp [h, hw1, hw2]
    rw [if_neg hw, List.append_nil] at hsuc
    refine ⟨by omega, _, by omega, hJ _ _ _ ⟨i + 1, rfl, h, .inr hok, ?_, ?_⟩⟩ <;> rw [hsuc]
    rfl

end Go.Proofs.Dev

namespace Go.Proofs.Dev
set_option linter.unusedSimpArgs false
set_option maxRecDepth 100000

theorem s_impl_in (x lo hi : Int) : SoundAt Tryz.prog n_impl_in [.v (.int .i64 x), .v (.int .i64 lo), .v (.int .i64 hi)] (.v (.bool (decide (lo ≤ x ∧ x ≤ hi)))) [.bot, .bot, .bot] := by
  refine fn_ok (md := md0) (ms := [false, false, false]) k_impl_in (by simp) ?_
  simp [c_impl_in]
  constructor
  · intro h; simp [h]
  · intro h; omega

theorem s_impl_in_t {x lo hi : Int} (h : lo ≤ x ∧ x ≤ hi) : SoundAt Tryz.prog n_impl_in [.v (.int .i64 x), .v (.int .i64 lo), .v (.int .i64 hi)] (.v (.bool true)) [.bot, .bot, .bot] := by
  have := s_impl_in x lo hi
  rwa [decide_eq_true h] at this
theorem s_impl_in_f {x lo hi : Int} (h : ¬ (lo ≤ x ∧ x ≤ hi)) : SoundAt Tryz.prog n_impl_in [.v (.int .i64 x), .v (.int .i64 lo), .v (.int .i64 hi)] (.v (.bool false)) [.bot, .bot, .bot] := by
  have := s_impl_in x lo hi
  rwa [decide_eq_false h] at this

theorem s_impl_many (bs : List Bool) (hb : bs.length < 2 ^ 40) : SoundAt Tryz.prog n_impl_many [.sl 1 1 (bools bs)] (.v (.int .i64 (manyOf bs))) [.bot] := by
  refine fn_ok (md := md0) (ms := [false]) k_impl_many (by simp) ?_
  simp [c_impl_many]
  refine loop_by (fun m E H => ∃ i : Nat, m = bs.length - i ∧ i ≤ bs.length ∧ H = [] ∧ E = [(3, .v (.int .i64 (manyOf (bs.take i)))), (6, .sl 1 1 (bools bs)), (7, .v (.int .i64 bs.length)), (8, .v (.int .i64 i))]) bs.length ⟨0, by simp [manyOf]⟩ ?_
  rintro J hJ m E H ⟨i, rfl, hi, rfl, rfl⟩
  simp [c_impl_many_L0]
  refine ⟨fun h => ?_, fun h => ?_⟩
  · have e := manyOf_take bs i h
    have e3 := manyOf_le (bs.take i)
    rw [List.length_take] at e3
    simp [h]
    refine ⟨fun hb => ⟨by omega, by omega, _, by omega, hJ _ _ _ ⟨i + 1, rfl, h, rfl, ?_⟩⟩, fun hb => ⟨by omega, _, by omega, hJ _ _ _ ⟨i + 1, rfl, h, rfl, ?_⟩⟩⟩ <;> simp [e, hb]
  · have : i = bs.length := by omega
    subst this
    simp

theorem s_impl_RegionValid (W T : Int) (cs : List Bool) (hb : cs.length < 2 ^ 40) : SoundAt Tryz.prog n_impl_RegionValid [.agg [.v (.int .i64 W), .v (.int .i64 T), .sl 1 1 (bools cs)]] (.v (.bool (regB W T cs))) [.bot] := by
  refine fn_ok (md := md0) (ms := [false]) k_impl_RegionValid (by simp) ?_
  simp [c_impl_RegionValid]
  refine call_on (s_impl_in W 1 6) ?_
  simp
  refine ⟨fun h h' => ?_, fun h => ?_⟩
  · refine call_on (s_impl_in T 1 6) ?_
    have hx : T ≤ 6 → W * T ≤ 36 ∧ (1 ≤ T → 1 ≤ W * T) := fun ht => ⟨(by
      by_cases h0 : 0 ≤ T
      · exact Int.mul_le_mul h' ht h0 (by omega)
      · have : W * T ≤ 0 := Int.mul_nonpos_of_nonneg_of_nonpos (by omega) (by omega)
        omega), fun h1 => Int.mul_pos (by omega) (by omega)⟩
    simp
    refine ⟨fun h1 h2 => ⟨by have := hx h2; omega, fun h3 => ?_, fun h3 => ?_⟩, fun h1 => ?_⟩
    · refine call_on (s_impl_many cs hb) ?_
      simp [regB, h, h', h1, h2, h3]
      omega
    · simp [regB]; omega
    · simp [regB]; omega
  · simp [regB]; omega

theorem s_impl_back (n : Int) (h : 0 ≤ n) (h2 : n < 2 ^ 60) : SoundAt Tryz.prog n_impl_back [.v (.int .i64 n)] (.v (.int .i64 (backI n))) [.bot] := by
  refine fn_ok (md := md0) (ms := [false]) k_impl_back (by simp) ?_
  simp [c_impl_back, backI]
  omega

theorem s_impl_pair (a b : Int) (h1 : 0 ≤ a ∧ a ≤ 6) (h2 : 0 ≤ b ∧ b ≤ 6) : SoundAt Tryz.prog n_impl_pair [.v (.int .i64 a), .v (.int .i64 b)] (.v (.int .i64 (pairI a b))) [.bot, .bot] := by
  refine fn_ok (md := md0) (ms := [false, false]) k_impl_pair (by simp) ?_
  simp [c_impl_pair, pairI]
  rw [Int.min_def, Int.max_def]
  (repeat' split) <;> omega

theorem s_impl_Region_xy (W T : Int) (cs : List Bool) (k : Int) (hW : 1 ≤ W) (h0 : 0 ≤ k) (h1 : k < 2 ^ 40) :
    SoundAt Tryz.prog n_impl_Region_xy [.agg [.v (.int .i64 W), .v (.int .i64 T), .sl 1 1 (bools cs)], .v (.int .i64 k)] (.tup [.v (.int .i64 (k % W)), .v (.int .i64 (k / W))]) [.bot, .bot] := by
  refine fn_ok (md := md0) (ms := [false, false]) k_impl_Region_xy (by simp) ?_
  simp [c_impl_Region_xy]
  omega

theorem s_impl_Region_step (W T : Int) (cs : List Bool) (k way : Int) (hr : regB W T cs = true) (h0 : 0 ≤ k) (h1 : k < cs.length) :
    SoundAt Tryz.prog n_impl_Region_step [.agg [.v (.int .i64 W), .v (.int .i64 T), .sl 1 1 (bools cs)], .v (.int .i64 k), .v (.int .i64 way)] (.v (.int .i64 (stepI W T k way))) [.bot, .bot, .bot] := by
  refine fn_ok (md := md0) (ms := [false, false, false]) k_impl_Region_step (by simp) ?_
  obtain ⟨w1, w2, t1, t2, l1, _⟩ := regB_W hr
  have hl := regB_len hr
  have hxy := cell_xy (T := T) (k := k) w1 h0 (by omega)
  have e1 : stepI W T k way = if way = 1 ∧ k % W < W - 1 then k + 1 else if way = 2 ∧ k / W < T - 1 then k + W else if way = 3 ∧ 0 < k % W then k - 1 else if way = 4 ∧ 0 < k / W then k - W else -1 := rfl
  rw [e1]
  clear e1 hr
  simp [c_impl_Region_step]
  refine call_on (s_impl_Region_xy W T cs k w1 h0 (by omega)) ?_
  generalize hA : k % W = A at *
  generalize hB : k / W = B at *
  have hBW : 0 ≤ B * W := Int.mul_nonneg hxy.2.2.1 (by omega)
  have hBW2 : B ≤ 6 := by omega
  generalize hP : B * W = P at *
  by_cases c1 : way = 1
  · subst c1
    by_cases d : A < W - 1
    · simp [d]
      (repeat' first | assumption | omega | apply And.intro)
      refine call_on (s_impl_in_t (x := A + 1) (lo := 0) (hi := W - 1) (by omega)) ?_
      simp
      (repeat' first | assumption | omega | apply And.intro)
      refine call_on (s_impl_in_t (x := B) (lo := 0) (hi := T - 1) (by omega)) ?_
      simp [Int.add_mul, Int.sub_mul, hP]
      omega
    · simp [d]
      (repeat' first | assumption | omega | apply And.intro)
      refine call_on (s_impl_in_f (x := A + 1) (lo := 0) (hi := W - 1) (by omega)) ?_
      simp
  by_cases c2 : way = 2
  · subst c2
    by_cases d : B < T - 1
    · simp [d]
      (repeat' first | assumption | omega | apply And.intro)
      refine call_on (s_impl_in_t (x := A) (lo := 0) (hi := W - 1) (by omega)) ?_
      simp
      (repeat' first | assumption | omega | apply And.intro)
      refine call_on (s_impl_in_t (x := B + 1) (lo := 0) (hi := T - 1) (by omega)) ?_
      simp [Int.add_mul, Int.sub_mul, hP]
      omega
    · simp [d]
      (repeat' first | assumption | omega | apply And.intro)
      refine call_on (s_impl_in_t (x := A) (lo := 0) (hi := W - 1) (by omega)) ?_
      simp
      (repeat' first | assumption | omega | apply And.intro)
      refine call_on (s_impl_in_f (x := B + 1) (lo := 0) (hi := T - 1) (by omega)) ?_
      simp
  by_cases c3 : way = 3
  · subst c3
    by_cases d : 0 < A
    · simp [d]
      (repeat' first | assumption | omega | apply And.intro)
      refine call_on (s_impl_in_t (x := A - 1) (lo := 0) (hi := W - 1) (by omega)) ?_
      simp
      (repeat' first | assumption | omega | apply And.intro)
      refine call_on (s_impl_in_t (x := B) (lo := 0) (hi := T - 1) (by omega)) ?_
      simp [Int.add_mul, Int.sub_mul, hP]
      omega
    · simp [d]
      (repeat' first | assumption | omega | apply And.intro)
      refine call_on (s_impl_in_f (x := A - 1) (lo := 0) (hi := W - 1) (by omega)) ?_
      simp
  by_cases c4 : way = 4
  · subst c4
    by_cases d : 0 < B
    · simp [d]
      (repeat' first | assumption | omega | apply And.intro)
      refine call_on (s_impl_in_t (x := A) (lo := 0) (hi := W - 1) (by omega)) ?_
      simp
      (repeat' first | assumption | omega | apply And.intro)
      refine call_on (s_impl_in_t (x := B - 1) (lo := 0) (hi := T - 1) (by omega)) ?_
      simp [Int.add_mul, Int.sub_mul, hP]
      omega
    · simp [d]
      (repeat' first | assumption | omega | apply And.intro)
      refine call_on (s_impl_in_t (x := A) (lo := 0) (hi := W - 1) (by omega)) ?_
      simp
      (repeat' first | assumption | omega | apply And.intro)
      refine call_on (s_impl_in_f (x := B - 1) (lo := 0) (hi := T - 1) (by omega)) ?_
      simp
  simp [c1, c2, c3, c4]

theorem s_impl_puzzle (W T : Int) (cs : List Bool) (ds : List Int) (hb : cs.length < 2 ^ 40) (hd : ds.length < 2 ^ 40) :
    SoundAt Tryz.prog n_impl_puzzle [.agg [.v (.int .i64 W), .v (.int .i64 T), .sl 1 1 (bools cs)], .sl 1 1 (ints ds)] (.v (.bool (digsB cs ds))) [.bot, .bot] := by
  refine fn_ok (md := md0) (ms := [false, false]) k_impl_puzzle (by simp) ?_
  simp [c_impl_puzzle]
  refine ⟨fun hl => ?_, fun hl => ?_⟩
  · simp [digsB]; omega
  · have hl' : ds.length = cs.length := by omega
    refine loop_by (fun m E H => ∃ i : Nat, m = ds.length - i ∧ i ≤ ds.length ∧ allB i (fun k => digAt cs ds k) = true ∧ H = [some (.box [.v (.int .i64 W), .v (.int .i64 T), .sl 1 1 (bools cs)])] ∧ E = [(2, .lp 0 0 0 0), (13, .sl 1 1 (ints ds)), (14, .v (.int .i64 ds.length)), (15, .v (.int .i64 i))]) ds.length ⟨0, by simp [allB_zero]⟩ ?_
    rintro J hJ m E H ⟨i, rfl, hi, ha, rfl, rfl⟩
    by_cases h : i < ds.length
    · have h2 : i < cs.length := by omega
      have next : digAt cs ds i = true → again J (ds.length - i) [(2, .lp 0 0 0 0), (13, .sl 1 1 (ints ds)), (14, .v (.int .i64 ds.length)), (15, .v (.int .i64 (i + 1)))] [some (.box [.v (.int .i64 W), .v (.int .i64 T), .sl 1 1 (bools cs)])] :=
        fun hd => ⟨_, by omega, hJ _ _ _ ⟨i + 1, rfl, h, by rw [allB_succ, ha, hd]; rfl, rfl, rfl⟩⟩
      have stop : digAt cs ds i = false → digsB cs ds = false := fun hd => by simp only [digsB, hl', decide_true, Bool.true_and]; exact allB_false h2 hd
      cases hc : atb cs i with
      | true =>
        simp [c_impl_puzzle_L0, h, h2, hc]
        by_cases hx : 0 ≤ ati ds i ∧ ati ds i ≤ 6
        · refine call_on (s_impl_in_t hx) ?_
          simp [hc, h2]
          exact ⟨by omega, next (by simp [digAt, hc, hx])⟩
        · refine call_on (s_impl_in_f hx) ?_
          simp [hc, h2]
          exact stop (by simp [digAt, hc]; omega)
      | false =>
        simp [c_impl_puzzle_L0, h, h2, hc]
        simp [digAt, hc] at next stop ⊢
        exact ⟨fun hx => stop hx, fun hx => ⟨by omega, next hx⟩⟩
    · have : i = ds.length := by omega
      subst this
      simp [c_impl_puzzle_L0]
      simp [digsB, hl'] at ha ⊢
      exact ha

theorem s_impl_PuzzleValid (W T : Int) (cs : List Bool) (ds : List Int) (hb : cs.length < 2 ^ 40) (hd : ds.length < 2 ^ 40) :
    SoundAt Tryz.prog n_impl_PuzzleValid [.agg [.v (.int .i64 W), .v (.int .i64 T), .sl 1 1 (bools cs)], .sl 1 1 (ints ds)] (.v (.bool (regB W T cs && digsB cs ds))) [.bot, .bot] := by
  refine fn_ok (md := md0) (ms := [false, false]) k_impl_PuzzleValid (by simp) ?_
  simp [c_impl_PuzzleValid]
  refine call_on (s_impl_RegionValid W T cs hb) ?_
  cases hr : regB W T cs with
  | false => simp
  | true =>
    simp
    refine call_on (s_impl_puzzle W T cs ds hb hd) ?_
    simp

theorem s_impl_Region_lays (W T : Int) (cs : List Bool) (ls : List Int) (hr : regB W T cs = true) (hd : ls.length < 2 ^ 40) :
    SoundAt Tryz.prog n_impl_Region_lays [.agg [.v (.int .i64 W), .v (.int .i64 T), .sl 1 1 (bools cs)], .sl 1 1 (ints ls)] (.v (.bool (laysB W T cs ls))) [.bot, .bot] := by
  refine fn_ok (md := md0) (ms := [false, false]) k_impl_Region_lays (by simp) ?_
  simp [c_impl_Region_lays]
  refine ⟨fun hl => ?_, fun hl => ?_⟩
  · simp [laysB]; omega
  · have hl' : ls.length = cs.length := by omega
    obtain ⟨w1, w2, t1, t2, l1, _⟩ := regB_W hr
    refine loop_by (fun m E H => ∃ i : Nat, m = ls.length - i ∧ i ≤ ls.length ∧ allB i (fun k => layAt W T cs ls k) = true ∧ H = [some (.box [.v (.int .i64 W), .v (.int .i64 T), .sl 1 1 (bools cs)])] ∧ E = [(1, .sl 1 1 (ints ls)), (2, .lp 0 0 0 0), (14, .sl 1 1 (ints ls)), (15, .v (.int .i64 ls.length)), (16, .v (.int .i64 i))]) ls.length ⟨0, by simp [allB_zero]⟩ ?_
    rintro J hJ m E H ⟨i, rfl, hi, ha, rfl, rfl⟩
    by_cases h : i < ls.length
    · have h2 : i < cs.length := by omega
      have next : layAt W T cs ls i = true → again J (ls.length - i) [(1, .sl 1 1 (ints ls)), (2, .lp 0 0 0 0), (14, .sl 1 1 (ints ls)), (15, .v (.int .i64 ls.length)), (16, .v (.int .i64 (i + 1)))] [some (.box [.v (.int .i64 W), .v (.int .i64 T), .sl 1 1 (bools cs)])] :=
        fun hd => ⟨_, by omega, hJ _ _ _ ⟨i + 1, rfl, h, by rw [allB_succ, ha, hd]; rfl, rfl, rfl⟩⟩
      have stop : layAt W T cs ls i = false → laysB W T cs ls = false := fun hd => by simp only [laysB, hl', decide_true, Bool.true_and]; exact allB_false h2 hd
      by_cases z : ati ls i = 0
      · simp [c_impl_Region_lays_L0, h, h2, z]
        exact ⟨by omega, next (by simp [layAt, z])⟩
      have hst := stepI_range (T := T) (k := i) (way := ati ls i) w1 (by omega) (by omega)
      have one : SoundAt Tryz.prog n_impl_Region_step [.agg [.v (.int .i64 W), .v (.int .i64 T), .sl 1 1 (bools cs)], .v (.int .i64 i), .v (.int .i64 (ati ls i))] (.v (.int .i64 (stepI W T i (ati ls i)))) [.bot, .bot, .bot] := s_impl_Region_step W T cs i (ati ls i) hr (by omega) (by omega)
      simp [layAt, z] at next stop
      generalize hto : stepI W T i (ati ls i) = to at *
      simp [c_impl_Region_lays_L0, h, h2, z]
      refine call_on one ?_
      rcases hst with hst | ⟨hst, hst2, g1, g2⟩
      · subst hst
        simp
        exact stop (by omega)
      have two := s_impl_back (ati ls i) (by omega) (by omega)
      have e1 : ¬ to < 0 := by omega
      have e2 : to < cs.length := by omega
      have e3 : to < ls.length := by omega
      simp [g1, g2, hst] at next stop
      cases hc : atb cs i with
      | false => simp [e1, e2, e3, hst, hc, h2]; exact stop (by simp [hc])
      | true =>
      cases hct : atb cs to with
      | false => simp [e1, e2, e3, hst, hc, hct, h2]; exact stop (by simp [hct])
      | true =>
      simp [hc, hct] at next stop
      simp [e1, e2, e3, hst, hc, hct, h2]
      (repeat' first | assumption | omega | apply And.intro) <;>
      · refine call_on two ?_
        simp [e1, e2, e3, hst, hct, h]
        exact ⟨stop, fun hq => ⟨by omega, next hq⟩⟩
    · have : i = ls.length := by omega
      subst this
      simp [c_impl_Region_lays_L0]
      simp [laysB, hl'] at ha ⊢
      exact ha

end Go.Proofs.Dev

namespace Go.Proofs.Dev
set_option linter.unusedSimpArgs false
set_option maxRecDepth 100000

theorem s_impl_Region_pairs (W T : Int) (cs : List Bool) (ds ls : List Int) (hok : okB W T cs ds ls = true) :
    SoundAt Tryz.prog n_impl_Region_pairs [.agg [.v (.int .i64 W), .v (.int .i64 T), .sl 1 1 (bools cs)], .sl 1 1 (ints ds), .sl 1 1 (ints ls)] (.os 1 (ints (pairsI W T ds ls))) [.bot, .bot, .bot] := by
  refine fn_ok (md := md0) (ms := [false, false, false]) k_impl_Region_pairs (by simp) ?_
  obtain ⟨hr, e1, e2, _⟩ := okB_W hok
  have hl36 := regB_len hr
  simp [c_impl_Region_pairs]
  refine loop_by (fun m E H => ∃ i : Nat, m = ls.length - i ∧ i ≤ ls.length ∧ H = [some (.box [.v (.int .i64 W), .v (.int .i64 T), .sl 1 1 (bools cs)]), some (.arr 1 (ints (pairsTo W T ds ls i)))] ∧
    E = [(1, .sl 1 1 (ints ds)), (3, .lp 0 0 0 0), (7, .ls 1 1 0 (pairsTo W T ds ls i).length), (10, .sl 1 1 (ints ls)), (11, .v (.int .i64 ls.length)), (12, .v (.int .i64 i))]) ls.length ⟨0, by simp [pairsTo]⟩ ?_
  rintro J hJ m E H ⟨i, rfl, hi, rfl, rfl⟩
  by_cases h : i < ls.length
  case neg =>
    have : i = ls.length := by omega
    subst this
    simp [c_impl_Region_pairs_L0]
    refine call_on (s_slices_Clip_int_int (pairsTo W T ds ls ls.length)) ?_
    simp [pairsI]
  have hlen := pairsTo_length W T ds ls i
  have hsuc := pairsTo_succ W T ds ls i
  have next : ∀ (x : List Int), pairsTo W T ds ls (i + 1) = pairsTo W T ds ls i ++ x → again J (ls.length - i) [(1, .sl 1 1 (ints ds)), (3, .lp 0 0 0 0), (7, .ls 1 1 0 ((pairsTo W T ds ls i).length + x.length)), (10, .sl 1 1 (ints ls)), (11, .v (.int .i64 ls.length)), (12, .v (.int .i64 (i + 1)))]
      [some (.box [.v (.int .i64 W), .v (.int .i64 T), .sl 1 1 (bools cs)]), some (.arr 1 (ints (pairsTo W T ds ls i) ++ ints x))] := by
    intro x hx
    refine ⟨_, by omega, hJ _ _ _ ⟨i + 1, rfl, h, ?_, ?_⟩⟩
    · rw [hx, ints_append]
    · rw [hx, List.length_append]; rfl
  have hds : i < ds.length := by omega
  by_cases hw : ati ls i = 1 ∨ ati ls i = 2
  · obtain ⟨o1, o2, o3, o4⟩ := okB_first hok (k := i) (by omega) hw
    have one : SoundAt Tryz.prog n_impl_Region_step [.agg [.v (.int .i64 W), .v (.int .i64 T), .sl 1 1 (bools cs)], .v (.int .i64 i), .v (.int .i64 (ati ls i))] (.v (.int .i64 (stepI W T i (ati ls i)))) [.bot, .bot, .bot] := s_impl_Region_step W T cs i (ati ls i) hr (by omega) (by omega)
    have two := s_impl_pair (ati ds i) (ati ds (stepI W T i (ati ls i))) o3 o4
    have next1 := next _ (by rw [hsuc, if_pos hw])
    clear hsuc next
    simp at next1
    generalize hto : stepI W T i (ati ls i) = to at *
    have o5 : to < ds.length := by omega
    have hb : (pairsTo W T ds ls i).length ≤ 36 := by omega
    rcases hw with hw | hw <;> rw [hw] at one <;>
    · simp [c_impl_Region_pairs_L0, h, hw, hds]
      (repeat' first | assumption | apply And.intro) <;>
      · refine call_on one ?_
        simp [o1, o5, hds]
        (repeat' first | assumption | apply And.intro) <;>
        · refine call_on two ?_
          simp
          exact ⟨by omega, by omega, next1⟩
  · have hw1 : ¬ ati ls i = 1 := fun e => hw (.inl e)
    have hw2 : ¬ ati ls i = 2 := fun e => hw (.inr e)
    simp [c_impl_Region_pairs_L0, h, hw1, hw2]
    rw [if_neg hw, List.append_nil] at hsuc
    refine ⟨by omega, _, by omega, hJ _ _ _ ⟨i + 1, rfl, h, ?_, ?_⟩⟩ <;> rw [hsuc]
    rfl

end Go.Proofs.Dev

namespace Go.Proofs.Dev

-- 1 parameters, results [.t 2], 8 slots, modes [false]
@[simp] abbrev n_slices_Clone_int_int : Nat := 119

def c_slices_Clone_int_int : ACode := .seq (.reg [.o 2 .mv [.c (.os 1 [])]]) <| .seq (.seq (.reg [.m 3 0, .o 4 (.nilq false) [.t 3]]) <|
 .cond (.t 4) ( .seq (.reg [.o 2 .mv [.c (.os 1 [])]]) <| .ret) ( .skip)) <| .seq (.reg [.o 5 (.bsl 1) [], .m 6 0, .o 7 (.app 1 8 true) [.t 5, .t 6], .m 2 7]) <|
 .ret

theorem k_slices_Clone_int_int : cFn Tryz.prog n_slices_Clone_int_int 8 [.t 2] c_slices_Clone_int_int := ⟨Tryz.f119, _, Tryz.func119, rfl, by kernel_rfl, by kernel_rfl, by kernel_rfl, by kernel_rfl⟩

-- 1 parameters, results [.t 2], 6 slots, modes [false]
@[simp] abbrev n_impl_clone_int : Nat := 58

def c_impl_clone_int : ACode := .seq (.reg [.o 2 .mv [.c (.os 1 [])]]) <| .seq (.reg [.m 3 0, .o 4 (.call 119 []) [.t 3], .o 5 (.call 118 []) [.t 4],
 .m 2 5]) <| .ret

theorem k_impl_clone_int : cFn Tryz.prog n_impl_clone_int 6 [.t 2] c_impl_clone_int := ⟨Tryz.f58, _, Tryz.func58, rfl, by kernel_rfl, by kernel_rfl, by kernel_rfl, by kernel_rfl⟩

-- 2 parameters, results [.t 4], 18 slots, modes [false, false]
@[simp] abbrev n_spec_l1Has : Nat := 169
def c_spec_l1Has_L0 : ACode := .seq (.seq (.reg [.m 6 5, .m 7 0, .n 8 7, .o 9 (.bin .lss 0) [.t 6, .t 8]]) <| .cond (.t 9) ( .skip) ( .exit 0)) <|
 .seq (.block 1 ( .seq (.reg [.m 12 0, .m 13 5, .o 14 (.iadr 1) [.t 12, .t 13], .l 15 14, .m 16 1, .o 17 (.bin .eql 0) [.t 15, .t 16]]) <|
 .cond (.t 17) ( .seq (.reg [.o 4 .mv [.kb true]]) <| .ret) ( .skip))) <| .reg [.m 10 5, .o 11 (.bin .add 0) [.t 10, .k 1], .m 5 11]

def c_spec_l1Has : ACode := .seq (.reg [.o 4 .mv [.kb false]]) <| .seq (.seq (.reg [.o 5 .mv [.k 0]]) <| .block 0 ( .loop [(0, 1)] [0, 1,
 5] c_spec_l1Has_L0)) <| .seq (.reg [.o 4 .mv [.kb false]]) <| .ret

theorem k_spec_l1Has : cFn Tryz.prog n_spec_l1Has 18 [.t 4] c_spec_l1Has := ⟨Tryz.f169, _, Tryz.func169, rfl, by kernel_rfl, by kernel_rfl, by kernel_rfl, by kernel_rfl⟩

-- 1 parameters, results [.t 2], 18 slots, modes [false]
@[simp] abbrev n_spec_l9Once : Nat := 136
def c_spec_l9Once_L0 : ACode := .seq (.seq (.reg [.m 4 3, .m 5 0, .n 6 5, .o 7 (.bin .lss 0) [.t 4, .t 6]]) <| .cond (.t 7) ( .skip) ( .exit 0)) <|
 .seq (.block 1 ( .seq (.draw ( .take (.m 10 0) <| .take (.m 11 3) <| .take (.o 12 (.slice 1 false false true false) [.t 10, .t 11]) <| .take (.m 13 0) <|
 .take (.m 14 3) <| .take (.o 15 (.iadr 1) [.t 13, .t 14]) <| .al (.l 16 15) ( .al (.o 17 (.call 169 []) [.t 12, .t 16]) ( .done)))) <|
 .cond (.t 17) ( .seq (.reg [.o 2 .mv [.kb false]]) <| .ret) ( .skip))) <| .reg [.m 8 3, .o 9 (.bin .add 0) [.t 8, .k 1], .m 3 9]

def c_spec_l9Once : ACode := .seq (.reg [.o 2 .mv [.kb false]]) <| .seq (.seq (.reg [.o 3 .mv [.k 0]]) <| .block 0 ( .loop [(0, 1)] [0, 3] c_spec_l9Once_L0)) <|
 .seq (.reg [.o 2 .mv [.kb true]]) <| .ret

theorem k_spec_l9Once : cFn Tryz.prog n_spec_l9Once 18 [.t 2] c_spec_l9Once := ⟨Tryz.f136, _, Tryz.func136, rfl, by kernel_rfl, by kernel_rfl, by kernel_rfl, by kernel_rfl⟩

-- 3 parameters, results [.t 6], 21 slots, modes [false, false, false]
@[simp] abbrev n_impl_Region_fair : Nat := 107

def c_impl_Region_fair : ACode := .seq (.reg [.o 3 .box [.t 0], .o 6 .mv [.kb false]]) <| .seq (.reg [.la 8 3 3, .m 9 1, .m 10 2, .o 11 (.call 149 []) [.t 8,
 .t 9, .t 10], .m 7 11]) <| .seq (.reg [.m 12 7, .o 13 (.call 150 []) [.t 12]]) <| .seq (.reg [.m 14 7, .o 15 (.call 119 []) [.t 14],
 .o 16 (.call 151 []) [.t 15], .n 17 16, .m 18 7, .n 19 18, .o 20 (.bin .eql 0) [.t 17, .t 19], .m 6 20]) <| .ret

theorem k_impl_Region_fair : cFn Tryz.prog n_impl_Region_fair 21 [.t 6] c_impl_Region_fair := ⟨Tryz.f107, _, Tryz.func107, rfl, by kernel_rfl, by kernel_rfl, by kernel_rfl, by kernel_rfl⟩

-- 3 parameters, results [.t 6], 22 slots, modes [false, false, false]
@[simp] abbrev n_spec_FairOk : Nat := 85

def c_spec_FairOk : ACode := .seq (.reg [.o 3 .box [.t 0], .o 6 .mv [.kb false]]) <| .seq (.reg [.la 7 3 3, .m 8 1, .o 9 (.call 15 []) [.t 7, .t 8], .m 10 9,
 .g 11 (.load true 3) [.t 3] 10 true, .mg 12 2 10 true, .g 13 (.call 128 []) [.t 11, .t 12] 10 true, .o 14 .pick [.t 10, .t 13, .kb false], .m 15 14,
 .g 16 (.load true 3) [.t 3] 15 true, .mg 17 1 15 true, .mg 18 2 15 true, .g 19 (.call 137 []) [.t 16, .t 17, .t 18] 15 true,
 .g 20 (.call 136 []) [.t 19] 15 true, .o 21 .pick [.t 15, .t 20, .kb false], .m 6 21]) <| .ret

theorem k_spec_FairOk : cFn Tryz.prog n_spec_FairOk 22 [.t 6] c_spec_FairOk := ⟨Tryz.f85, _, Tryz.func85, rfl, by kernel_rfl, by kernel_rfl, by kernel_rfl, by kernel_rfl⟩

-- 3 parameters, results [.t 6], 21 slots, modes [false, false, false]
@[simp] abbrev n_impl_FairOk : Nat := 47

def c_impl_FairOk : ACode := .seq (.reg [.o 3 .box [.t 0], .o 6 .mv [.kb false]]) <| .seq (.reg [.la 7 3 3, .m 8 1, .o 9 (.call 56 []) [.t 7, .t 8], .m 10 9,
 .g 11 (.load true 3) [.t 3] 10 true, .mg 12 2 10 true, .g 13 (.call 106 []) [.t 11, .t 12] 10 true, .o 14 .pick [.t 10, .t 13, .kb false], .m 15 14,
 .g 16 (.load true 3) [.t 3] 15 true, .mg 17 1 15 true, .mg 18 2 15 true, .g 19 (.call 107 []) [.t 16, .t 17, .t 18] 15 true, .o 20 .pick [.t 15, .t 19,
 .kb false], .m 6 20]) <| .ret

theorem k_impl_FairOk : cFn Tryz.prog n_impl_FairOk 21 [.t 6] c_impl_FairOk := ⟨Tryz.f47, _, Tryz.func47, rfl, by kernel_rfl, by kernel_rfl, by kernel_rfl, by kernel_rfl⟩

-- 1 parameters, results [], 11 slots, modes [true]
@[simp] abbrev n_slices_Sort_int_int : Nat := 150

def c_slices_Sort_int_int : ACode := .seq (.reg [.m 3 0, .n 4 3, .m 2 4]) <| .reg [.m 5 0, .m 6 2, .m 7 2, .o 8 (.conv .u64) [.t 7], .o 9 (.call 177 []) [.t 8],
 .o 10 (.call 176 []) [.t 5, .k 0, .t 6, .t 9]]

theorem k_slices_Sort_int_int : cFn Tryz.prog n_slices_Sort_int_int 11 [] c_slices_Sort_int_int := ⟨Tryz.f150, _, Tryz.func150, rfl, by kernel_rfl, by kernel_rfl, by kernel_rfl, by kernel_rfl⟩

-- 1 parameters, results [.t 2], 8 slots, modes [false]
@[simp] abbrev n_mathbits_Len : Nat := 177

def c_mathbits_Len : ACode := .seq (.reg [.o 2 .mv [.k 0]]) <| .seq (.cond (.kb false) ( .seq (.reg [.m 3 0, .o 4 (.conv .u32) [.t 3],
 .o 5 (.call 197 []) [.t 4], .m 2 5]) <| .ret) ( .skip)) <| .seq (.reg [.m 6 0, .o 7 (.call 198 []) [.t 6], .m 2 7]) <| .ret

theorem k_mathbits_Len : cFn Tryz.prog n_mathbits_Len 8 [.t 2] c_mathbits_Len := ⟨Tryz.f177, _, Tryz.func177, rfl, by kernel_rfl, by kernel_rfl, by kernel_rfl, by kernel_rfl⟩

-- 1 parameters, results [.t 2], 25 slots, modes [false]
@[simp] abbrev n_mathbits_Len64 : Nat := 198

def c_mathbits_Len64 : ACode := .seq (.reg [.o 2 .mv [.k 0]]) <| .seq (.seq (.reg [.m 3 0, .o 4 (.bin .geq 0) [.t 3, .c (.v (.int .u64 (4294967296)))]]) <|
 .cond (.t 4) ( .seq (.reg [.m 5 0, .o 6 (.bin .shr 0) [.t 5, .c (.v (.int .u64 (32)))], .m 0 6]) <| .reg [.o 2 .mv [.k 32]]) ( .skip)) <|
 .seq (.seq (.reg [.m 7 0, .o 8 (.bin .geq 0) [.t 7, .c (.v (.int .u64 (65536)))]]) <| .cond (.t 8) ( .seq (.reg [.m 9 0, .o 10 (.bin .shr 0) [.t 9,
 .c (.v (.int .u64 (16)))], .m 0 10]) <| .reg [.m 11 2, .o 12 (.bin .add 0) [.t 11, .k 16], .m 2 12]) ( .skip)) <| .seq (.seq (.reg [.m 13 0,
 .o 14 (.bin .geq 0) [.t 13, .c (.v (.int .u64 (256)))]]) <| .cond (.t 14) ( .seq (.reg [.m 15 0, .o 16 (.bin .shr 0) [.t 15, .c (.v (.int .u64 (8)))],
 .m 0 16]) <| .reg [.m 17 2, .o 18 (.bin .add 0) [.t 17, .k 8], .m 2 18]) ( .skip)) <| .seq (.reg [.m 19 2, .m 20 0, .o 21 (.conv .u8) [.t 20],
 .o 22 .sidx [.c (.v (.string ⟨#[0, 1, 2, 2, 3, 3, 3, 3, 4, 4, 4, 4, 4, 4, 4, 4, 5, 5, 5, 5, 5, 5, 5, 5, 5, 5, 5, 5, 5, 5, 5, 5, 6, 6, 6, 6, 6, 6, 6, 6, 6, 6, 6,
 6, 6, 6, 6, 6, 6, 6, 6, 6, 6, 6, 6, 6, 6, 6, 6, 6, 6, 6, 6, 6, 7, 7, 7, 7, 7, 7, 7, 7, 7, 7, 7, 7, 7, 7, 7, 7, 7, 7, 7, 7, 7, 7, 7, 7, 7, 7, 7, 7, 7, 7, 7, 7,
 7, 7, 7, 7, 7, 7, 7, 7, 7, 7, 7, 7, 7, 7, 7, 7, 7, 7, 7, 7, 7, 7, 7, 7, 7, 7, 7, 7, 7, 7, 7, 7, 8, 8, 8, 8, 8, 8, 8, 8, 8, 8, 8, 8, 8, 8, 8, 8, 8, 8, 8, 8, 8,
 8, 8, 8, 8, 8, 8, 8, 8, 8, 8, 8, 8, 8, 8, 8, 8, 8, 8, 8, 8, 8, 8, 8, 8, 8, 8, 8, 8, 8, 8, 8, 8, 8, 8, 8, 8, 8, 8, 8, 8, 8, 8, 8, 8, 8, 8, 8, 8, 8, 8, 8, 8, 8,
 8, 8, 8, 8, 8, 8, 8, 8, 8, 8, 8, 8, 8, 8, 8, 8, 8, 8, 8, 8, 8, 8, 8, 8, 8, 8, 8, 8, 8, 8, 8, 8, 8, 8, 8, 8, 8, 8, 8, 8, 8, 8, 8, 8, 8, 8, 8, 8, 8, 8, 8, 8, 8,
 8]⟩)), .t 21], .o 23 (.conv .i64) [.t 22], .o 24 (.bin .add 0) [.t 19, .t 23], .m 2 24]) <| .ret

theorem k_mathbits_Len64 : cFn Tryz.prog n_mathbits_Len64 25 [.t 2] c_mathbits_Len64 := ⟨Tryz.f198, _, Tryz.func198, rfl, by kernel_rfl, by kernel_rfl, by kernel_rfl, by kernel_rfl⟩

-- 4 parameters, results [], 134 slots, modes [false, false, false, false]
@[simp] abbrev n_slices_pdqsortOrdered_int : Nat := 176
abbrev c_slices_pdqsortOrdered_int_L0_p0 : Plan := .al (.g 85 (.call 194 []) [.t 80, .t 84] 75 true) ( .take (.g 86 (.un .not) [.t 85] 75 true) <| .take (.o 87 .pick [.t 75, .t 86, .kb false]) <| .done)
def c_slices_pdqsortOrdered_int_L0 : ACode := .block 1 ( .seq (.reg [.m 19 2, .m 20 1, .o 21 (.bin .sub 0) [.t 19, .t 20], .m 10 21]) <|
 .seq (.seq (.reg [.m 22 10, .o 23 (.bin .leq 0) [.t 22, .k 12]]) <| .cond (.t 23) ( .seq (.reg [.m 24 0, .m 25 1, .m 26 2, .o 27 (.call 188 []) [.t 24, .t 25,
 .t 26]]) <| .ret) ( .skip)) <| .seq (.seq (.reg [.m 28 3, .o 29 (.bin .eql 0) [.t 28, .k 0]]) <| .cond (.t 29) ( .seq (.reg [.m 30 0, .m 31 1, .m 32 2,
 .o 33 (.call 189 []) [.t 30, .t 31, .t 32]]) <| .ret) ( .skip)) <| .seq (.seq (.reg [.m 34 8, .o 35 (.un .not) [.t 34]]) <| .cond (.t 35) ( .seq (.reg [.m 36 0,
 .m 37 1, .m 38 2, .o 39 (.call 190 []) [.t 36, .t 37, .t 38]]) <| .reg [.m 40 3, .o 41 (.bin .sub 0) [.t 40, .k 1], .m 3 41]) ( .skip)) <| .seq (.reg [.m 43 0,
 .m 44 1, .m 45 2, .o 46 (.call 191 []) [.t 43, .t 44, .t 45], .m 42 46, .e 47 0 42, .e 48 1 42, .m 11 47, .m 12 48]) <| .seq (.seq (.reg [.m 49 12,
 .o 50 (.bin .eql 0) [.t 49, .k 2]]) <| .cond (.t 50) ( .seq (.reg [.m 51 0, .m 52 1, .m 53 2, .o 54 (.call 192 []) [.t 51, .t 52, .t 53]]) <|
 .seq (.reg [.m 55 2, .o 56 (.bin .sub 0) [.t 55, .k 1], .m 57 11, .m 58 1, .o 59 (.bin .sub 0) [.t 57, .t 58], .o 60 (.bin .sub 0) [.t 56, .t 59], .m 11 60]) <|
 .reg [.o 12 .mv [.k 1]]) ( .skip)) <| .seq (.seq (.reg [.m 61 8, .m 62 61, .mg 63 9 62 true, .o 64 .pick [.t 62, .t 63, .kb false], .m 65 64, .mg 66 12 65 true,
 .g 67 (.bin .eql 0) [.t 66, .k 1] 65 true, .o 68 .pick [.t 65, .t 67, .kb false]]) <| .cond (.t 68) ( .seq (.reg [.m 69 0, .m 70 1, .m 71 2,
 .o 72 (.call 193 []) [.t 69, .t 70, .t 71]]) <| .cond (.t 72) ( .ret) ( .skip)) ( .skip)) <| .seq (.seq (.draw ( .take (.m 73 1) <|
 .take (.o 74 (.bin .gtr 0) [.t 73, .k 0]) <| .take (.m 75 74) <| .take (.mg 76 0 75 true) <| .take (.mg 77 1 75 true) <| .take (.g 78 (.bin .sub 0) [.t 77,
 .k 1] 75 true) <| .take (.g 79 (.iadr 1) [.t 76, .t 78] 75 true) <| .take (.mg 81 0 75 true) <| .take (.mg 82 11 75 true) <| .take (.g 83 (.iadr 1) [.t 81,
 .t 82] 75 true) <| .alt (.lg 80 79 75 true) ( .al (.lg 84 83 75 true) c_slices_pdqsortOrdered_int_L0_p0) <|
 .al (.lg 84 83 75 true) ( .al (.lg 80 79 75 true) c_slices_pdqsortOrdered_int_L0_p0))) <| .cond (.t 87) ( .seq (.reg [.m 88 0, .m 89 1, .m 90 2, .m 91 11, .o 92 (.call 195 []) [.t 88,
 .t 89, .t 90, .t 91], .m 13 92]) <| .seq (.reg [.m 93 13, .m 1 93]) <| .exit 1) ( .skip)) <| .seq (.reg [.m 95 0, .m 96 1, .m 97 2, .m 98 11,
 .o 99 (.call 196 []) [.t 95, .t 96, .t 97, .t 98], .m 94 99, .e 100 0 94, .e 101 1 94, .m 14 100, .m 15 101]) <| .seq (.reg [.m 102 15, .m 9 102]) <|
 .seq (.reg [.m 103 14, .m 104 1, .o 105 (.bin .sub 0) [.t 103, .t 104], .m 106 2, .m 107 14, .o 108 (.bin .sub 0) [.t 106, .t 107], .m 16 105, .m 17 108]) <|
 .seq (.reg [.m 109 10, .o 110 (.bin .quo 0) [.t 109, .k 8], .m 18 110]) <| .seq (.reg [.m 111 16, .m 112 17, .o 113 (.bin .lss 0) [.t 111, .t 112]]) <|
 .cond (.t 113) ( .seq (.reg [.m 114 16, .m 115 18, .o 116 (.bin .geq 0) [.t 114, .t 115], .m 8 116]) <| .seq (.reg [.m 117 0, .m 118 1, .m 119 14, .m 120 3,
 .o 121 (.call 176 []) [.t 117, .t 118, .t 119, .t 120]]) <| .reg [.m 122 14, .o 123 (.bin .add 0) [.t 122, .k 1], .m 1 123]) ( .seq (.reg [.m 124 17, .m 125 18,
 .o 126 (.bin .geq 0) [.t 124, .t 125], .m 8 126]) <| .seq (.reg [.m 127 0, .m 128 14, .o 129 (.bin .add 0) [.t 128, .k 1], .m 130 2, .m 131 3,
 .o 132 (.call 176 []) [.t 127, .t 129, .t 130, .t 131]]) <| .reg [.m 133 14, .m 2 133]))

def c_slices_pdqsortOrdered_int : ACode := .seq (.reg [.o 8 .mv [.kb true]]) <| .seq (.reg [.o 9 .mv [.kb true]]) <| .block 0 ( .loop [(0, 1)] [0, 1, 2, 3, 8,
 9] c_slices_pdqsortOrdered_int_L0)

theorem k_slices_pdqsortOrdered_int : cFn Tryz.prog n_slices_pdqsortOrdered_int 134 [] c_slices_pdqsortOrdered_int := ⟨Tryz.f176, _, Tryz.func176, rfl, by kernel_rfl, by kernel_rfl, by kernel_rfl, by kernel_rfl⟩

-- 3 parameters, results [], 49 slots, modes [false, false, false]
@[simp] abbrev n_slices_insertionSortOrdered_int : Nat := 188
abbrev c_slices_insertionSortOrdered_int_L0_p0 : Plan := .take (.o 47 (.iadr 1) [.t 33, .t 34]) <| .al (.s (.store 1) [.t 47, .t 42]) ( .take (.o 48 (.iadr 1) [.t 35, .t 37]) <| .al (.s (.store 1) [.t 48, .t 46]) ( .done))
abbrev c_slices_insertionSortOrdered_int_L0_p1 : Plan := .al (.g 29 (.call 194 []) [.t 23, .t 28] 19 true) ( .take (.o 30 .pick [.t 19, .t 29, .kb false]) <| .done)
def c_slices_insertionSortOrdered_int_L0 : ACode := .seq (.seq (.draw ( .take (.m 16 7) <| .take (.m 17 1) <| .take (.o 18 (.bin .gtr 0) [.t 16, .t 17]) <|
 .take (.m 19 18) <| .take (.mg 20 0 19 true) <| .take (.mg 21 7 19 true) <| .take (.g 22 (.iadr 1) [.t 20, .t 21] 19 true) <| .take (.mg 24 0 19 true) <|
 .take (.mg 25 7 19 true) <| .take (.g 26 (.bin .sub 0) [.t 25, .k 1] 19 true) <| .take (.g 27 (.iadr 1) [.t 24, .t 26] 19 true) <|
 .alt (.lg 23 22 19 true) ( .al (.lg 28 27 19 true) c_slices_insertionSortOrdered_int_L0_p1) <| .al (.lg 28 27 19 true) ( .al (.lg 23 22 19 true) c_slices_insertionSortOrdered_int_L0_p1))) <| .cond (.t 30) ( .skip) ( .exit 2)) <| .seq (.block 3 ( .draw ( .take (.m 33 0) <| .take (.m 34 7) <| .take (.m 35 0) <|
 .take (.m 36 7) <| .take (.o 37 (.bin .sub 0) [.t 36, .k 1]) <| .take (.m 38 0) <| .take (.m 39 7) <| .take (.o 40 (.bin .sub 0) [.t 39, .k 1]) <|
 .take (.o 41 (.iadr 1) [.t 38, .t 40]) <| .take (.m 43 0) <| .take (.m 44 7) <| .take (.o 45 (.iadr 1) [.t 43, .t 44]) <|
 .alt (.l 42 41) ( .al (.l 46 45) c_slices_insertionSortOrdered_int_L0_p0) <| .al (.l 46 45) ( .al (.l 42 41) c_slices_insertionSortOrdered_int_L0_p0)))) <| .reg [.m 31 7, .o 32 (.bin .sub 0) [.t 31, .k 1],
 .m 7 32]

def c_slices_insertionSortOrdered_int_L1 : ACode := .seq (.seq (.reg [.m 10 6, .m 11 2, .o 12 (.bin .lss 0) [.t 10, .t 11]]) <|
 .cond (.t 12) ( .skip) ( .exit 0)) <| .seq (.block 1 ( .seq (.reg [.m 15 6, .m 7 15]) <| .block 2 ( .loop [(0, 1)] [0, 1, 2, 6,
 7] c_slices_insertionSortOrdered_int_L0))) <| .reg [.m 13 6, .o 14 (.bin .add 0) [.t 13, .k 1], .m 6 14]

def c_slices_insertionSortOrdered_int : ACode := .seq (.reg [.m 8 1, .o 9 (.bin .add 0) [.t 8, .k 1], .m 6 9]) <| .block 0 ( .loop [(0, 1)] [0, 1, 2,
 6] c_slices_insertionSortOrdered_int_L1)

theorem k_slices_insertionSortOrdered_int : cFn Tryz.prog n_slices_insertionSortOrdered_int 49 [] c_slices_insertionSortOrdered_int := ⟨Tryz.f188, _, Tryz.func188, rfl, by kernel_rfl, by kernel_rfl, by kernel_rfl, by kernel_rfl⟩

end Go.Proofs.Dev

namespace Go.Proofs.Dev
set_option linter.unusedSimpArgs false
set_option maxRecDepth 100000

theorem s_slices_Clone_int (xs : List Int) (hx : xs.length < 2 ^ 40) : SoundAt Tryz.prog n_slices_Clone_int_int [.sl 1 1 (ints xs)] (.os 1 (ints xs)) [.bot] := by
  refine fn_ok (md := md0) (ms := [false]) k_slices_Clone_int_int (by simp) ?_
  simp [c_slices_Clone_int_int]
  refine ⟨fun h => by omega, fun h => ?_⟩
  subst h
  simp

theorem s_impl_clone_int (xs : List Int) (hx : xs.length < 2 ^ 40) : SoundAt Tryz.prog n_impl_clone_int [.sl 1 1 (ints xs)] (.os 1 (ints xs)) [.bot] := by
  refine fn_ok (md := md0) (ms := [false]) k_impl_clone_int (by simp) ?_
  simp [c_impl_clone_int]
  refine call_on (s_slices_Clone_int xs hx) ?_
  simp
  refine call_on (s_slices_Clip_int_int xs) ?_
  simp

theorem s_spec_l1Has (xs : List Int) (n : Int) (hx : xs.length < 2 ^ 40) : SoundAt Tryz.prog n_spec_l1Has [.sl 1 1 (ints xs), .v (.int .i64 n)] (.v (.bool (decide (n ∈ xs)))) [.bot, .bot] := by
  refine fn_ok (md := md0) (ms := [false, false]) k_spec_l1Has (by simp) ?_
  simp [c_spec_l1Has]
  refine loop_by (fun m E H => ∃ i : Nat, m = xs.length - i ∧ i ≤ xs.length ∧ ¬ n ∈ xs.take i ∧ H = [] ∧ E = [(0, .sl 1 1 (ints xs)), (1, .v (.int .i64 n)), (5, .v (.int .i64 i))]) xs.length ⟨0, by simp⟩ ?_
  rintro J hJ m E H ⟨i, rfl, hi, hn, rfl, rfl⟩
  by_cases h : i < xs.length
  · have e : ati xs i = xs[i] := by simp [ati, h]
    simp [c_spec_l1Has_L0, h]
    refine ⟨fun he => ?_, fun he => ⟨by omega, _, by omega, hJ _ _ _ ⟨i + 1, rfl, h, ?_, rfl, rfl⟩⟩⟩
    · rw [← he, e]; exact List.getElem_mem h
    · rw [List.take_succ_eq_append_getElem h, ← e]
      simp [hn, Ne.symm he]
  · have : i = xs.length := by omega
    subst this
    rw [List.take_length] at hn
    simp [c_spec_l1Has_L0, hn]

theorem s_spec_l9Once (xs : List Int) (hx : xs.length < 2 ^ 40) : SoundAt Tryz.prog n_spec_l9Once [.sl 1 1 (ints xs)] (.v (.bool (onceB xs))) [.bot] := by
  refine fn_ok (md := md0) (ms := [false]) k_spec_l9Once (by simp) ?_
  simp [c_spec_l9Once]
  refine loop_by (fun m E H => ∃ i : Nat, m = xs.length - i ∧ i ≤ xs.length ∧ (xs.take i).Nodup ∧ H = [] ∧ E = [(0, .sl 1 1 (ints xs)), (3, .v (.int .i64 i))]) xs.length ⟨0, by simp⟩ ?_
  rintro J hJ m E H ⟨i, rfl, hi, hn, rfl, rfl⟩
  by_cases h : i < xs.length
  · have e := once_take_succ xs i h
    have hle : i ≤ xs.length := hi
    simp [c_spec_l9Once_L0, h, hle, take_ints]
    refine call_on (s_spec_l1Has (xs.take i) (ati xs i) (by simp; omega)) ?_
    simp [take_ints]
    refine ⟨fun he => ?_, fun he => ⟨by omega, _, by omega, hJ _ _ _ ⟨i + 1, rfl, h, e.2 ⟨hn, he⟩, rfl, rfl⟩⟩⟩
    simp only [onceB, decide_eq_false_iff_not]
    intro hnd
    exact (e.1 ((List.take_sublist (i + 1) xs).nodup hnd)).2 he
  · have : i = xs.length := by omega
    subst this
    rw [List.take_length] at hn
    simp [c_spec_l9Once_L0, onceB, hn]

end Go.Proofs.Dev

namespace Go.Proofs
open Go.Shelf
set_option maxRecDepth 1000000
def Tryz.lays189_ren : Go.Shelf.Ren := ⟨fun | 189 => 150 | 125 => 177 | 257 => 176 | 128 => 197 | 129 => 198 | 294 => 188 | 295 => 189 | 296 => 190 | 297 => 191 | 298 => 192 | 299 => 193 | 216 => 194 | 300 => 195 | 301 => 196 | 328 => 202 | 329 => 203 | 330 => 204 | 331 => 205 | 332 => 206 | 215 => 207 | 343 => 209 | n => n, fun | 28 => 26 | 3 => 3 | 46 => 142 | 0 => 0 | 51 => 160 | 53 => 162 | 4 => 4 | 183 => 153 | 182 => 152 | 131 => 157 | 5 => 5 | 9 => 9 | 218 => 165 | 222 => 169 | 228 => 171 | 229 => 138 | n => n, fun | n => n⟩
theorem Tryz.lays189 : Go.Proofs.Lays.n189 Tryz.prog Tryz.lays189_ren := {
  mixed := by kernel_rfl
  f125 := Tryz.func177.trans (congrArg some (by kernel_rfl))
  f128 := Tryz.func197.trans (congrArg some (by kernel_rfl))
  f129 := Tryz.func198.trans (congrArg some (by kernel_rfl))
  f189 := Tryz.func150.trans (congrArg some (by kernel_rfl))
  f215 := Tryz.func207.trans (congrArg some (by kernel_rfl))
  f216 := Tryz.func194.trans (congrArg some (by kernel_rfl))
  f257 := Tryz.func176.trans (congrArg some (by kernel_rfl))
  f294 := Tryz.func188.trans (congrArg some (by kernel_rfl))
  f295 := Tryz.func189.trans (congrArg some (by kernel_rfl))
  f296 := Tryz.func190.trans (congrArg some (by kernel_rfl))
  f297 := Tryz.func191.trans (congrArg some (by kernel_rfl))
  f298 := Tryz.func192.trans (congrArg some (by kernel_rfl))
  f299 := Tryz.func193.trans (congrArg some (by kernel_rfl))
  f300 := Tryz.func195.trans (congrArg some (by kernel_rfl))
  f301 := Tryz.func196.trans (congrArg some (by kernel_rfl))
  f328 := Tryz.func202.trans (congrArg some (by kernel_rfl))
  f329 := Tryz.func203.trans (congrArg some (by kernel_rfl))
  f330 := Tryz.func204.trans (congrArg some (by kernel_rfl))
  f331 := Tryz.func205.trans (congrArg some (by kernel_rfl))
  f332 := Tryz.func206.trans (congrArg some (by kernel_rfl))
  f343 := Tryz.func209.trans (congrArg some (by kernel_rfl))
  t0 := Tryz.underlying0
  a0 := Tryz.isAgg0
  z0 := Tryz.sizeOf0
  v0 := Tryz.zeroValue0
  t3 := Tryz.underlying3
  a3 := Tryz.isAgg3
  z3 := Tryz.sizeOf3
  v3 := Tryz.zeroValue3
  t4 := Tryz.underlying4
  a4 := Tryz.isAgg4
  z4 := Tryz.sizeOf4
  v4 := Tryz.zeroValue4
  t5 := Tryz.underlying5
  a5 := Tryz.isAgg5
  z5 := Tryz.sizeOf5
  v5 := Tryz.zeroValue5
  t9 := Tryz.underlying9
  a9 := Tryz.isAgg9
  z9 := Tryz.sizeOf9
  v9 := Tryz.zeroValue9
  t28 := Tryz.underlying26
  a28 := Tryz.isAgg26
  z28 := Tryz.sizeOf26
  v28 := Tryz.zeroValue26
  t46 := Tryz.underlying142
  a46 := Tryz.isAgg142
  z46 := Tryz.sizeOf142
  v46 := Tryz.zeroValue142
  t51 := Tryz.underlying160
  a51 := Tryz.isAgg160
  z51 := Tryz.sizeOf160
  v51 := Tryz.zeroValue160
  t53 := Tryz.underlying162
  a53 := Tryz.isAgg162
  z53 := Tryz.sizeOf162
  v53 := Tryz.zeroValue162
  t131 := Tryz.underlying157
  a131 := Tryz.isAgg157
  z131 := Tryz.sizeOf157
  v131 := Tryz.zeroValue157
  t182 := Tryz.underlying152
  a182 := Tryz.isAgg152
  z182 := Tryz.sizeOf152
  v182 := Tryz.zeroValue152
  t183 := Tryz.underlying153
  a183 := Tryz.isAgg153
  z183 := Tryz.sizeOf153
  v183 := Tryz.zeroValue153
  t218 := Tryz.underlying165
  a218 := Tryz.isAgg165
  z218 := Tryz.sizeOf165
  v218 := Tryz.zeroValue165
  t222 := Tryz.underlying169
  a222 := Tryz.isAgg169
  z222 := Tryz.sizeOf169
  v222 := Tryz.zeroValue169
  t228 := Tryz.underlying171
  a228 := Tryz.isAgg171
  z228 := Tryz.sizeOf171
  v228 := Tryz.zeroValue171
  t229 := Tryz.underlying138
  a229 := Tryz.isAgg138
  z229 := Tryz.sizeOf138
  v229 := Tryz.zeroValue138 }
open Go.Sort Go.RowKit in
theorem Tryz.slices_Sort_int (blk off cap : Nat) (zs : List Int) (w : World) (hH : Holds (Value.int .i64) w blk off zs.toArray) (hblk : blk < w.heap.size) (hsz : zs.length < 4611686018427387904) :
    Calls Tryz.prog 150 #[.slice (some ⟨blk, off, none⟩) zs.length cap] w fun e w' =>
      e = .returned (.tuple #[]) ∧ ∃ n os, w' = grow (putRow (Value.int .i64) (Sort.ahead w n) blk off (zs.mergeSort fun x y => decide (x ≤ y)).toArray) os := Any.slices_Sort_int Tryz.lays189 blk off cap zs w hH hblk hsz
def Tryz.laysNm220_ren : Go.Shelf.Ren := ⟨fun | 20 => 151 | n => n, fun | 22 => 26 | 3 => 3 | 4 => 4 | 0 => 0 | n => n, fun | n => n⟩
theorem Tryz.laysNm220 : Go.Proofs.Lays2.n20 Tryz.prog Tryz.laysNm220_ren := {
  mixed := by kernel_rfl
  f20 := Tryz.func151.trans (congrArg some (by kernel_rfl))
  t0 := Tryz.underlying0
  a0 := Tryz.isAgg0
  z0 := Tryz.sizeOf0
  v0 := Tryz.zeroValue0
  t3 := Tryz.underlying3
  a3 := Tryz.isAgg3
  z3 := Tryz.sizeOf3
  v3 := Tryz.zeroValue3
  t4 := Tryz.underlying4
  a4 := Tryz.isAgg4
  z4 := Tryz.sizeOf4
  v4 := Tryz.zeroValue4
  t22 := Tryz.underlying26
  a22 := Tryz.isAgg26
  z22 := Tryz.sizeOf26
  v22 := Tryz.zeroValue26
  i3 := by kernel_rfl }
open Go.RowKit Go.Lib Go.Sort in
open Go.RowKit Go.Lib Go.Sort in
/-- slices.Compact at []int: "Compact replaces consecutive runs of equal elements with a single copy. This is like the uniq command found on Unix. Compact modifies the contents of the slice s and returns the modified slice, which may have a smaller length. Compact zeroes the elements between the new length and the original length. The result preserves the nilness of s.": IT RETURNS THE SLICE CUT TO 'Lib.compact zs'; ITS CELLS HOLD 'Lib.compact zs', THEN ZERO VALUES up to the old length; all else is as it was, but for the count of draws. IN THE WORDS OF slices.Sort's CONTRACT ('Holds', 'putRow'): so the everyday 'slices.Sort(xs); xs = slices.Compact(xs)' goes from the one contract to the other. It asks 'zs.length ≤ cap' (every slice's: the reslicing 's[:k]' looks at it). Length 0, nil: '.._empty'. (LAID: no walk: one application.) -/
theorem Tryz.slices_Compact_int (blk off cap : Nat) (zs : List Int) (w : World) (hH : Holds (Value.int .i64) w blk off zs.toArray) (hsz : zs.length ≤ 9223372036854775807) (hcap : zs.length ≤ cap) :
    Calls Tryz.prog 151 #[.slice (some ⟨blk, off, none⟩) zs.length cap] w fun e w' => e = .returned (.slice (some ⟨blk, off, none⟩) (Lib.compact zs).length cap) ∧ ∃ q, w' = putRow (Value.int .i64) (Sort.ahead w q) blk off (Lib.compact zs ++ List.replicate (zs.length - (Lib.compact zs).length) 0).toArray := Any.slices_Compact_int Tryz.laysNm220 blk off cap zs w hH hsz hcap
open Go.RowKit Go.Lib Go.Sort in
/-- The same at a slice of length 0, a nil one too: it comes back as it is. (LAID: no walk: one application.) -/
theorem Tryz.slices_Compact_int_empty (a : Option Addr) (cap : Nat) (w : World) :
    Calls Tryz.prog 151 #[.slice a 0 cap] w fun e w' => e = .returned (.slice a 0 cap) ∧ w' = w := Any.slices_Compact_int_empty Tryz.laysNm220 a cap w

end Go.Proofs

namespace Go.Proofs.Dev
set_option linter.unusedSimpArgs false
set_option maxRecDepth 100000

theorem s_bits_Len64_zero : SoundAt Tryz.prog n_mathbits_Len64 [.v (.int .u64 0)] (.v (.int .i64 0)) [.bot] := by
  refine fn_ok (md := md0) (ms := [false]) k_mathbits_Len64 (by simp) ?_
  simp [c_mathbits_Len64]
  show stepK _ _ _ (some (AV.v (.int .u8 0), []))
  simp

theorem s_bits_Len_zero : SoundAt Tryz.prog n_mathbits_Len [.v (.int .u64 0)] (.v (.int .i64 0)) [.bot] := by
  refine fn_ok (md := md0) (ms := [false]) k_mathbits_Len (by simp) ?_
  simp [c_mathbits_Len]
  refine call_on s_bits_Len64_zero ?_
  simp

theorem s_insertion_nil : SoundAt Tryz.prog n_slices_insertionSortOrdered_int [.sl 1 1 [], .v (.int .i64 0), .v (.int .i64 0)] (.tup []) [.bot, .bot, .bot] := by
  refine fn_ok (md := md0) (ms := [false, false, false]) k_slices_insertionSortOrdered_int (by simp) ?_
  simp [c_slices_insertionSortOrdered_int]
  refine loop_by (fun m E H => m = 0 ∧ H = [] ∧ E = [(0, .sl 1 1 []), (1, .v (.int .i64 0)), (2, .v (.int .i64 0)), (6, .v (.int .i64 1))]) 0 ⟨rfl, rfl, rfl⟩ ?_
  rintro J hJ m E H ⟨rfl, rfl, rfl⟩
  simp [c_slices_insertionSortOrdered_int_L1]

theorem s_pdqsort_nil : SoundAt Tryz.prog n_slices_pdqsortOrdered_int [.sl 1 1 [], .v (.int .i64 0), .v (.int .i64 0), .v (.int .i64 0)] (.tup []) [.bot, .bot, .bot, .bot] := by
  refine fn_ok (md := md0) (ms := [false, false, false, false]) k_slices_pdqsortOrdered_int (by simp) ?_
  simp [c_slices_pdqsortOrdered_int]
  refine loop_by (fun m E H => m = 0 ∧ H = [] ∧ E = [(0, .sl 1 1 []), (1, .v (.int .i64 0)), (2, .v (.int .i64 0)), (3, .v (.int .i64 0)), (8, .v (.bool true)), (9, .v (.bool true))]) 0 ⟨rfl, rfl, rfl⟩ ?_
  rintro J hJ m E H ⟨rfl, rfl, rfl⟩
  simp [c_slices_pdqsortOrdered_int_L0]
  refine call_on s_insertion_nil ?_
  simp

theorem s_slices_Sort_nil : SoundAt Tryz.prog n_slices_Sort_int_int [.os 1 []] (.tup []) [.os 1 []] := by
  refine fn_ok (md := md0) (ms := [true]) k_slices_Sort_int_int (by simp) ?_
  simp [c_slices_Sort_int_int]
  refine call_on s_bits_Len_zero ?_
  simp
  refine call_on s_pdqsort_nil ?_
  simp

theorem s_slices_Sort (xs : List Int) (hx : xs.length < 2 ^ 40) : SoundAt Tryz.prog n_slices_Sort_int_int [.os 1 (ints xs)] (.tup []) [.os 1 (ints (srt xs))] := by
  by_cases hz : xs = []
  · subst hz
    have : srt [] = [] := List.eq_nil_of_length_eq_zero (by rw [srt_length]; rfl)
    rw [this]
    exact s_slices_Sort_nil
  · refine arr_sound (srt_length xs) hz fun blk off cap w hH hb => ?_
    exact Tryz.slices_Sort_int blk off cap xs w hH hb (by omega)

theorem s_slices_Compact (xs : List Int) (hx : xs.length < 2 ^ 40) : SoundAt Tryz.prog 151 [.os 1 (ints xs)] (.os 1 (ints (Lib.compact xs))) [.bot] := by
  by_cases hz : xs = []
  · subst hz
    have hc : Lib.compact ([] : List Int) = [] := List.eq_nil_of_length_eq_zero (by have := compact_le []; simpa using this)
    rw [hc]
    intro w forb us S hr hnd hlt hforb
    have hr0 := hr
    rw [RL] at hr
    obtain ⟨S1, S2, u, us', hS, rfl, h1, h2⟩ := hr
    rw [RL] at h2
    obtain ⟨rfl, rfl⟩ := h2
    rw [List.append_nil] at hS
    subst hS
    have h1' := h1
    rw [R] at h1'
    obtain ⟨a, cap, rfl, hc, _⟩ := h1'
    refine (Tryz.slices_Compact_int_empty a cap w).mono ?_
    rintro e w' ⟨rfl, rfl⟩
    refine ⟨_, S, rfl, ?_, hnd, fun x hx => ⟨hlt x hx, .inr hx⟩, Kept.refl _ _ _⟩
    rw [RL]
    refine ⟨S, [], _, _, by simp, rfl, ?_, by rw [RL]; exact ⟨[], [], _, _, rfl, rfl, by rw [R], by rw [RL]; exact ⟨rfl, rfl⟩⟩⟩
    rw [R] at h1 ⊢
    exact h1
  · refine arr_pref (rest := List.replicate (xs.length - (Lib.compact xs).length) 0) (by have := compact_le xs; simp; omega) hz fun blk off cap w hH hb hcap => ?_
    exact Tryz.slices_Compact_int blk off cap xs w hH (by omega) hcap

theorem s_impl_Region_fair (W T : Int) (cs : List Bool) (ds ls : List Int) (hok : okB W T cs ds ls = true) :
    SoundAt Tryz.prog n_impl_Region_fair [.agg [.v (.int .i64 W), .v (.int .i64 T), .sl 1 1 (bools cs)], .sl 1 1 (ints ds), .sl 1 1 (ints ls)] (.v (.bool (onceB (pairsI W T ds ls)))) [.bot, .bot, .bot] := by
  refine fn_ok (md := md0) (ms := [false, false, false]) k_impl_Region_fair (by simp) ?_
  obtain ⟨hr, e1, e2, _⟩ := okB_W hok
  have hl36 := regB_len hr
  have hlen := pairsTo_length W T ds ls ls.length
  have hb : (pairsI W T ds ls).length ≤ 36 := by unfold pairsI; omega
  simp [c_impl_Region_fair]
  refine call_on (s_impl_Region_pairs W T cs ds ls hok) ?_
  generalize pairsI W T ds ls = xs at *
  have hsl := srt_length xs
  have ht : (srt xs).take xs.length = srt xs := List.take_of_length_le (by omega)
  simp
  refine call_on (s_slices_Sort xs (by omega)) ?_
  simp [hsl]
  refine call_on (s_slices_Clone_int (srt xs) (by omega)) ?_
  simp [hsl, take_ints, ht]
  refine call_on (s_slices_Compact (srt xs) (by omega)) ?_
  simp [hsl, onceB]
  have ho := once_sorted xs
  rw [Bool.eq_iff_iff]
  simp only [beq_iff_eq, decide_eq_true_eq]
  rw [← ho]
  omega

end Go.Proofs.Dev

namespace Go.Proofs.Dev
set_option linter.unusedSimpArgs false
set_option maxRecDepth 100000

def fairB (W T : Int) (cs : List Bool) (ds ls : List Int) : Bool := okB W T cs ds ls && onceB (pairsI W T ds ls)

theorem s_spec_FairOk (W T : Int) (cs : List Bool) (ds ls : List Int) (hb : cs.length < 2 ^ 40) (hd : ds.length < 2 ^ 40) (hl : ls.length < 2 ^ 40) :
    SoundAt Tryz.prog n_spec_FairOk [.agg [.v (.int .i64 W), .v (.int .i64 T), .sl 1 1 (bools cs)], .sl 1 1 (ints ds), .sl 1 1 (ints ls)] (.v (.bool (fairB W T cs ds ls))) [.bot, .bot, .bot] := by
  refine fn_ok (md := md0) (ms := [false, false, false]) k_spec_FairOk (by simp) ?_
  simp [c_spec_FairOk]
  refine call_on (s_spec_PuzzleValid W T cs ds hb hd) ?_
  cases hp : (regB W T cs && digsB cs ds) with
  | false =>
    have hn : okB W T cs ds ls = false := by simp only [okB, ← Bool.and_assoc, hp, Bool.false_and]
    simp [fairB, hn]
  | true =>
  simp
  refine call_on (s_spec_LaidOk W T cs ls hb hl) ?_
  cases hp2 : (regB W T cs && laysB W T cs ls) with
  | false =>
    have hn : okB W T cs ds ls = false := by
      simp only [Bool.and_eq_true] at hp
      rw [hp.1, Bool.true_and] at hp2
      simp [okB, hp2]
    simp [fairB, hn]
  | true =>
  have hok : okB W T cs ds ls = true := by
    simp only [Bool.and_eq_true] at hp hp2
    simp [okB, hp, hp2]
  have hlen := pairsTo_length W T ds ls ls.length
  have hb' : (pairsI W T ds ls).length ≤ ls.length := by unfold pairsI; omega
  simp
  refine call_on (s_spec_PairsOf W T cs ds ls hb hd hl) ?_
  simp [hok]
  refine call_on (s_spec_l9Once (pairsI W T ds ls) (by omega)) ?_
  simp [fairB, hok]

theorem s_impl_FairOk (W T : Int) (cs : List Bool) (ds ls : List Int) (hb : cs.length < 2 ^ 40) (hd : ds.length < 2 ^ 40) (hl : ls.length < 2 ^ 40) :
    SoundAt Tryz.prog n_impl_FairOk [.agg [.v (.int .i64 W), .v (.int .i64 T), .sl 1 1 (bools cs)], .sl 1 1 (ints ds), .sl 1 1 (ints ls)] (.v (.bool (fairB W T cs ds ls))) [.bot, .bot, .bot] := by
  refine fn_ok (md := md0) (ms := [false, false, false]) k_impl_FairOk (by simp) ?_
  simp [c_impl_FairOk]
  refine call_on (s_impl_PuzzleValid W T cs ds hb hd) ?_
  cases hp : (regB W T cs && digsB cs ds) with
  | false =>
    have hn : okB W T cs ds ls = false := by simp only [okB, ← Bool.and_assoc, hp, Bool.false_and]
    simp [fairB, hn]
  | true =>
  simp only [Bool.and_eq_true] at hp
  simp
  refine call_on (s_impl_Region_lays W T cs ls hp.1 hl) ?_
  cases hp2 : laysB W T cs ls with
  | false =>
    have hn : okB W T cs ds ls = false := by simp [okB, hp2]
    simp [fairB, hn]
  | true =>
  have hok : okB W T cs ds ls = true := by simp [okB, hp, hp2]
  simp
  refine call_on (s_impl_Region_fair W T cs ds ls hok) ?_
  simp [fairB, hok]

end Go.Proofs.Dev

namespace Go.Proofs.Dev

-- 2 parameters, results [.t 4], 28 slots, modes [false, false]
@[simp] abbrev n_spec_TilingOk : Nat := 142
def c_spec_TilingOk_L0 : ACode := .seq (.seq (.reg [.m 10 5, .m 11 1, .n 12 11, .o 13 (.bin .lss 0) [.t 10, .t 12]]) <| .cond (.t 13) ( .skip) ( .exit 0)) <|
 .seq (.block 1 ( .seq (.reg [.f 16 2 2, .l 17 16, .m 18 5, .o 19 (.iadr 1) [.t 17, .t 18], .l 20 19, .m 21 20, .mg 22 1 21 true, .mg 23 5 21 true,
 .g 24 (.iadr 1) [.t 22, .t 23] 21 true, .lg 25 24 21 true, .g 26 (.bin .eql 0) [.t 25, .k 0] 21 true, .o 27 .pick [.t 21, .t 26, .kb false]]) <|
 .cond (.t 27) ( .seq (.reg [.o 4 .mv [.kb false]]) <| .ret) ( .skip))) <| .reg [.m 14 5, .o 15 (.bin .add 0) [.t 14, .k 1], .m 5 15]

def c_spec_TilingOk : ACode := .seq (.reg [.o 2 .box [.t 0], .o 4 .mv [.kb false]]) <| .seq (.seq (.reg [.la 6 3 2, .m 7 1, .o 8 (.call 128 []) [.t 6, .t 7],
 .o 9 (.un .not) [.t 8]]) <| .cond (.t 9) ( .seq (.reg [.o 4 .mv [.kb false]]) <| .ret) ( .skip)) <| .seq (.seq (.reg [.o 5 .mv [.k 0]]) <| .block 0 ( .loop [(1,
 1)] [1, 2, 5] c_spec_TilingOk_L0)) <| .seq (.reg [.o 4 .mv [.kb true]]) <| .ret

theorem k_spec_TilingOk : cFn Tryz.prog n_spec_TilingOk 28 [.t 4] c_spec_TilingOk := ⟨Tryz.f142, _, Tryz.func142, rfl, by kernel_rfl, by kernel_rfl, by kernel_rfl, by kernel_rfl⟩

end Go.Proofs.Dev

namespace Go.Proofs.Dev
set_option linter.unusedSimpArgs false
set_option maxRecDepth 100000

def fullAt (cs : List Bool) (ls : List Int) (k : Int) : Bool := !(atb cs k && decide (ati ls k = 0))
/-- Every cell of the region has a domino. -/
def fullB (cs : List Bool) (ls : List Int) : Bool := allB cs.length (fun k => fullAt cs ls k)
def solvedB (W T : Int) (cs : List Bool) (ds ls : List Int) : Bool := fairB W T cs ds ls && fullB cs ls

theorem s_spec_TilingOk (W T : Int) (cs : List Bool) (ls : List Int) (hb : cs.length < 2 ^ 40) (hd : ls.length < 2 ^ 40) :
    SoundAt Tryz.prog n_spec_TilingOk [.agg [.v (.int .i64 W), .v (.int .i64 T), .sl 1 1 (bools cs)], .sl 1 1 (ints ls)] (.v (.bool (regB W T cs && laysB W T cs ls && fullB cs ls))) [.bot, .bot] := by
  refine fn_ok (md := md0) (ms := [false, false]) k_spec_TilingOk (by simp) ?_
  simp [c_spec_TilingOk]
  refine call_on (s_spec_LaidOk W T cs ls hb hd) ?_
  cases hp : (regB W T cs && laysB W T cs ls) with
  | false => simp
  | true =>
  have hl' : ls.length = cs.length := by
    simp only [laysB, Bool.and_eq_true, decide_eq_true_eq] at hp
    exact hp.2.1
  simp
  refine loop_by (fun m E H => ∃ i : Nat, m = ls.length - i ∧ i ≤ ls.length ∧ allB i (fun k => fullAt cs ls k) = true ∧ H = [some (.box [.v (.int .i64 W), .v (.int .i64 T), .sl 1 1 (bools cs)])] ∧ E = [(1, .sl 1 1 (ints ls)), (2, .lp 0 0 0 0), (5, .v (.int .i64 i))]) ls.length ⟨0, by simp [allB_zero]⟩ ?_
  rintro J hJ m E H ⟨i, rfl, hi, ha, rfl, rfl⟩
  by_cases h : i < ls.length
  · have h2 : i < cs.length := by omega
    have next : fullAt cs ls i = true → again J (ls.length - i) [(1, .sl 1 1 (ints ls)), (2, .lp 0 0 0 0), (5, .v (.int .i64 (i + 1)))] [some (.box [.v (.int .i64 W), .v (.int .i64 T), .sl 1 1 (bools cs)])] :=
      fun hd => ⟨_, by omega, hJ _ _ _ ⟨i + 1, rfl, h, by rw [allB_succ, ha, hd]; rfl, rfl, rfl⟩⟩
    have stop : fullAt cs ls i = false → fullB cs ls = false := fun hd => allB_false h2 hd
    cases hc : atb cs i with
    | false =>
      simp [c_spec_TilingOk_L0, h, h2, hc]
      exact ⟨by omega, next (by simp [fullAt, hc])⟩
    | true =>
      simp [c_spec_TilingOk_L0, h, h2, hc]
      exact ⟨fun e => stop (by simp [fullAt, hc, e]), fun e => ⟨by omega, next (by simp [fullAt, hc, e])⟩⟩
  · have : i = ls.length := by omega
    subst this
    simp [c_spec_TilingOk_L0]
    rw [hl'] at ha
    simpa [fullB] using ha

theorem fairB_ok {W T : Int} {cs : List Bool} {ds ls : List Int} (h : fairB W T cs ds ls = true) : okB W T cs ds ls = true := by
  simp only [fairB, Bool.and_eq_true] at h; exact h.1
end Go.Proofs.Dev

namespace Go.Proofs.Dev
set_option linter.unusedSimpArgs false
set_option maxRecDepth 100000

/-- A list of which the first i elements are changed. -/
def half (f : Int → Int) (ds : List Int) (i : Nat) : List Int := (ds.take i).map f ++ ds.drop i
end Go.Proofs.Dev
