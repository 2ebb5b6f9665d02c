/- Contracts of the functions of the program over slots and rows, each proved against the program itself; no condition beyond those that each theorem names. -/
import Derived.Test.YtakaenhgbkbegaaGreatAS
import Derived.Test.YtakaenhgbkbegaaGreatProg
import Derived.Test.YtakaenhgbkbegaaGreatAK
import Derived.Test.YtakaenhgbkbegaaGreatAO
import Derived.Test.YtakaenhgbkbegaaGreatAH
import Derived.Test.YtakaenhgbkbegaaGreatAP

set_option linter.unusedSimpArgs false
set_option linter.unusedVariables false

namespace Go.Proofs.Dev
set_option linter.unusedSimpArgs false
set_option maxRecDepth 100000

/-- Whether a cell of the field, by column and row, belongs to the region. -/
def atXY (W T : Int) (cs : List Bool) (x y : Int) : Bool := decide (0 ≤ x ∧ x ≤ W - 1) && (decide (0 ≤ y ∧ y ≤ T - 1) && atb cs (y * W + x))

theorem xy_in {W T x y : Int} (h1 : 0 ≤ x ∧ x ≤ W - 1) (h2 : 0 ≤ y ∧ y ≤ T - 1) : 0 ≤ y * W ∧ y * W + x < W * T := by
  have a1 : 0 ≤ y * W := Int.mul_nonneg h2.1 (by omega)
  have a2 : (y + 1) * W ≤ T * W := Int.mul_le_mul_of_nonneg_right (by omega) (by omega)
  rw [Int.add_mul, Int.one_mul, Int.mul_comm T W] at a2
  omega

theorem s_spec_l1At (W T : Int) (cs : List Bool) (x y : Int) (hr : regB W T cs = true) (hx : -9 ≤ x ∧ x ≤ 9 * 2 ^ 40) (hy : -9 ≤ y ∧ y ≤ 9 * 2 ^ 40) :
    SoundAt Tryz.prog n_spec_l1At [.agg [.v (.int .i64 W), .v (.int .i64 T), .sl 1 1 (bools cs)], .v (.int .i64 x), .v (.int .i64 y)] (.v (.bool (atXY W T cs x y))) [.bot, .bot, .bot] := by
  obtain ⟨w1, w2, t1, t2, l1, _⟩ := regB_W hr
  have h36 := regB_len hr
  refine fn_ok (md := md5) (ms := [false, false, false]) k_spec_l1At (by simp) ?_
  by_cases h1 : 0 ≤ x ∧ x ≤ W - 1
  · by_cases h2 : 0 ≤ y ∧ y ≤ T - 1
    · obtain ⟨m1, m2⟩ := xy_in h1 h2
      simp [c_spec_l1At, atXY, h1, h2]
      refine ⟨by omega, ?_⟩
      refine call_on (s_spec_l1In_t (x := x) (lo := 0) (hi := W - 1) h1) ?_
      simp
      refine ⟨by omega, ?_⟩
      refine call_on (s_spec_l1In_t (x := y) (lo := 0) (hi := T - 1) h2) ?_
      have n1 : 0 ≤ y * W + x := by omega
      have n2 : y * W + x < cs.length := by omega
      simp [n1, n2]
      omega
    · simp [c_spec_l1At, atXY, h1, h2]
      refine ⟨by omega, ?_⟩
      refine call_on (s_spec_l1In_t (x := x) (lo := 0) (hi := W - 1) h1) ?_
      simp
      refine ⟨by omega, ?_⟩
      refine call_on (s_spec_l1In_f (x := y) (lo := 0) (hi := T - 1) h2) ?_
      simp
  · simp [c_spec_l1At, atXY, h1]
    refine ⟨by omega, ?_⟩
    refine call_on (s_spec_l1In_f (x := x) (lo := 0) (hi := W - 1) h1) ?_
    simp

def corI (W T : Int) : Int := (W + 1) * (T + 1)
theorem cor_in {W T : Int} (w1 : 1 ≤ W) (w2 : W ≤ 6) (t1 : 1 ≤ T) (t2 : T ≤ 6) : 4 ≤ corI W T ∧ corI W T ≤ 49 := by
  have h1 : (2 : Int) * 2 ≤ (W + 1) * (T + 1) := Int.mul_le_mul (by omega) (by omega) (by omega) (by omega)
  have h2 : (W + 1) * (T + 1) ≤ 7 * 7 := Int.mul_le_mul (by omega) (by omega) (by omega) (by omega)
  unfold corI; omega

theorem s_spec_CornerMany (W T : Int) (cs : List Bool) (hb : cs.length < 2 ^ 40) :
    SoundAt Tryz.prog n_spec_CornerMany [.agg [.v (.int .i64 W), .v (.int .i64 T), .sl 1 1 (bools cs)]] (.v (.int .i64 (if regB W T cs = true then corI W T else -1))) [.bot] := by
  refine fn_ok (md := md5) (ms := [false]) k_spec_CornerMany (by simp) ?_
  simp [c_spec_CornerMany]
  refine call_on (s_spec_RegionValid W T cs hb) ?_
  cases hr : regB W T cs with
  | false => simp
  | true =>
    obtain ⟨w1, w2, t1, t2, l1, _⟩ := regB_W hr
    have := cor_in w1 w2 t1 t2
    unfold corI at *
    simp
    omega

/-- The four cells around a corner all belong to the region. -/
def sqB (W T : Int) (cs : List Bool) (c : Int) : Bool :=
  ((atXY W T cs (c % (W + 1) - 1) (c / (W + 1) - 1) && atXY W T cs (c % (W + 1)) (c / (W + 1) - 1)) && atXY W T cs (c % (W + 1) - 1) (c / (W + 1))) && atXY W T cs (c % (W + 1)) (c / (W + 1))

theorem sq_mid {W T : Int} {cs : List Bool} {c : Int} (h0 : 0 ≤ c) (h : sqB W T cs c = true) : midB W T c = true := by
  simp only [sqB, atXY, Bool.and_eq_true, decide_eq_true_eq] at h
  simp only [midB, decide_eq_true_eq]
  omega

set_option maxHeartbeats 1000000 in
theorem s_spec_l5Square (W T : Int) (cs : List Bool) (c : Int) (hr : regB W T cs = true) (h0 : 0 ≤ c) (h1 : c < 2 ^ 40) :
    SoundAt Tryz.prog n_spec_l5Square [.agg [.v (.int .i64 W), .v (.int .i64 T), .sl 1 1 (bools cs)], .v (.int .i64 c)]
      (if sqB W T cs c = true then .tup [.v (.int .i64 (swI W c)), .v (.int .i64 (swI W c + 1)), .v (.int .i64 (swI W c + W)), .v (.int .i64 (swI W c + W + 1)), .v (.bool true)]
        else .tup [.v (.int .i64 0), .v (.int .i64 0), .v (.int .i64 0), .v (.int .i64 0), .v (.bool false)]) [.bot, .bot] := by
  obtain ⟨w1, w2, t1, t2, l1, _⟩ := regB_W hr
  have h36 := regB_len hr
  have m1 := Int.emod_nonneg c (show W + 1 ≠ 0 by omega)
  have m2 := Int.emod_lt_of_pos c (show 0 < W + 1 by omega)
  have m3 := Int.ediv_nonneg h0 (show 0 ≤ W + 1 by omega)
  have m4 := Int.ediv_le_self (W + 1) h0
  have hs := @sq_mid W T cs c h0
  have c1 := s_spec_l1At W T cs (c % (W + 1) - 1) (c / (W + 1) - 1) hr (by omega) (by omega)
  have c2 := s_spec_l1At W T cs (c % (W + 1)) (c / (W + 1) - 1) hr (by omega) (by omega)
  have c3 := s_spec_l1At W T cs (c % (W + 1) - 1) (c / (W + 1)) hr (by omega) (by omega)
  have c4 := s_spec_l1At W T cs (c % (W + 1)) (c / (W + 1)) hr (by omega) (by omega)
  have hsw := @sw_at W T c w1
  have hsd : swI W c = (c / (W + 1) - 1) * W + c % (W + 1) - 1 := rfl
  unfold sqB at *
  have w0 : 1 ≤ W + 1 := by omega
  refine fn_ok (md := md5) (ms := [false, false]) k_spec_l5Square (by simp) ?_
  simp [c_spec_l5Square, h0, w0]
  generalize c % (W + 1) = x at *
  generalize c / (W + 1) = y at *
  refine ⟨by omega, by omega, by omega, by omega, ?_⟩
  refine call_on c1 ?_
  cases b1 : atXY W T cs (x - 1) (y - 1) with
  | false => simp
  | true =>
  simp
  refine ⟨by omega, ?_⟩
  refine call_on c2 ?_
  cases b2 : atXY W T cs x (y - 1) with
  | false => simp
  | true =>
  simp
  refine ⟨by omega, ?_⟩
  refine call_on c3 ?_
  cases b3 : atXY W T cs (x - 1) y with
  | false => simp
  | true =>
  simp
  refine call_on c4 ?_
  cases b4 : atXY W T cs x y with
  | false => simp
  | true =>
  have hm := hsw (hs (by simp [b1, b2, b3, b4]))
  rw [hsd] at hm
  rw [hsd]
  simp
  generalize (y - 1) * W = z at *
  (repeat' first | omega | rfl | apply And.intro)
end Go.Proofs.Dev

namespace Go.Proofs.Dev
set_option linter.unusedSimpArgs false
set_option maxRecDepth 100000

theorem mid_cor {W T c : Int} (w1 : 1 ≤ W) (t1 : 1 ≤ T) (h : midB W T c = true) : 0 ≤ c ∧ c ≤ corI W T - 1 := by
  simp only [midB, decide_eq_true_eq] at h
  refine ⟨h.1, ?_⟩
  have e := Int.mul_ediv_add_emod c (W + 1)
  have m2 := Int.emod_lt_of_pos c (show 0 < W + 1 by omega)
  have h2 : (W + 1) * (c / (W + 1)) ≤ (W + 1) * T := Int.mul_le_mul_of_nonneg_left (by omega) (by omega)
  unfold corI
  rw [Int.mul_add, Int.mul_one]
  omega

theorem may_eq {W T : Int} {cs : List Bool} {ls : List Int} {c : Int} (hr : regB W T cs = true) (hy : laysB W T cs ls = true) (h0 : 0 ≤ c) :
    (sqB W T cs c && (flatB W ls c || upB W ls c)) = flipB W T ls c := by
  obtain ⟨w1, w2, t1, t2, l1, _⟩ := regB_W hr
  cases hf : flipB W T ls c with
  | true =>
    obtain ⟨⟨a1, a2, a3, a4⟩, _⟩ := flip_ok hr hy hf
    have hf2 := hf
    simp only [flipB, Bool.and_eq_true] at hf2
    obtain ⟨x, y, x0, x1, y0, y1, e, ex, ey⟩ := mid_at w1 hf2.1
    have hm : (y + 1) * W = y * W + W := by rw [Int.add_mul, Int.one_mul]
    rw [e] at a1 a2 a3 a4
    rw [hf2.2, Bool.and_true]
    simp only [sqB, atXY, ex, ey, Bool.and_eq_true, decide_eq_true_eq]
    refine ⟨⟨⟨⟨by omega, by omega, ?_⟩, by omega, by omega, ?_⟩, by omega, by omega, ?_⟩, by omega, by omega, ?_⟩
    · rw [show (y + 1 - 1) * W + (x + 1 - 1) = y * W + x by rw [show y + 1 - 1 = y by omega]; omega]; exact a1
    · rw [show (y + 1 - 1) * W + (x + 1) = y * W + x + 1 by rw [show y + 1 - 1 = y by omega]; omega]; exact a2
    · rw [show (y + 1) * W + (x + 1 - 1) = y * W + x + W by omega]; exact a3
    · rw [show (y + 1) * W + (x + 1) = y * W + x + W + 1 by omega]; exact a4
  | false =>
    cases hs : sqB W T cs c with
    | false => rfl
    | true =>
      have hm := sq_mid h0 hs
      simp only [flipB, hm, Bool.true_and] at hf
      simp [hf]

def mayI (W T : Int) (cs : List Bool) (ls : List Int) (c : Int) : Bool := (regB W T cs && laysB W T cs ls) && flipB W T ls c

theorem s_spec_FlipMay (W T : Int) (cs : List Bool) (ls : List Int) (c : Int) (hb : cs.length < 2 ^ 40) (hl : ls.length < 2 ^ 40) :
    SoundAt Tryz.prog n_spec_FlipMay [.agg [.v (.int .i64 W), .v (.int .i64 T), .sl 1 1 (bools cs)], .sl 1 1 (ints ls), .v (.int .i64 c)] (.v (.bool (mayI W T cs ls c))) [.bot, .bot, .bot] := by
  refine fn_ok (md := md5) (ms := [false, false, false]) k_spec_FlipMay (by simp) ?_
  simp [c_spec_FlipMay]
  refine call_on (s_spec_LaidOk W T cs ls hb hl) ?_
  unfold mayI
  cases hq : (regB W T cs && laysB W T cs ls) with
  | false => simp
  | true =>
  simp only [Bool.and_eq_true] at hq
  obtain ⟨hr, hy⟩ := hq
  obtain ⟨w1, w2, t1, t2, l1, _⟩ := regB_W hr
  have h36 := regB_len hr
  have hlen := lays_len hy
  have hc := cor_in w1 w2 t1 t2
  have cm := s_spec_CornerMany W T cs hb
  rw [if_pos hr] at cm
  simp
  refine call_on cm ?_
  simp
  refine ⟨by omega, ?_⟩
  by_cases hin : 0 ≤ c ∧ c ≤ corI W T - 1
  case neg =>
    have hf : flipB W T ls c = false := by
      cases hf : flipB W T ls c with
      | false => rfl
      | true =>
        simp only [flipB, Bool.and_eq_true] at hf
        exact absurd (mid_cor w1 t1 hf.1) hin
    refine call_on (s_spec_l1In_f (x := c) (lo := 0) (hi := corI W T - 1) hin) ?_
    simp [hf]
  refine call_on (s_spec_l1In_t (x := c) (lo := 0) (hi := corI W T - 1) hin) ?_
  simp
  have sq := s_spec_l5Square W T cs c hr hin.1 (by omega)
  have me := may_eq (c := c) hr hy hin.1
  cases hs : sqB W T cs c with
  | false =>
    have hff : flipB W T ls c = false := by rw [← me, hs]; rfl
    rw [if_neg (by rw [hs]; decide)] at sq
    refine call_on sq ?_
    simp [hff]
  | true =>
    have hff : flipB W T ls c = (flatB W ls c || upB W ls c) := by rw [← me, hs]; rfl
    rw [if_pos hs] at sq
    have hm := sw_at w1 (sq_mid hin.1 hs)
    rw [hff]
    refine call_on sq ?_
    have q0 := hm.1
    have q1 : swI W c < ls.length := by omega
    have q2 : 0 ≤ swI W c + W := by omega
    have q3 : swI W c + W < ls.length := by omega
    have q4 : 0 ≤ swI W c + 1 := by omega
    have q5 : swI W c + 1 < ls.length := by omega
    unfold flatB upB
    by_cases e1 : ati ls (swI W c) = 1
    · have e2 : ¬ ati ls (swI W c) = 2 := by omega
      simp [q0, q1, q2, q3, q4, q5, e1, e2]
    · by_cases e2 : ati ls (swI W c) = 2
      · simp [q0, q1, q2, q3, q4, q5, e1, e2]
        by_cases e3 : ati ls (swI W c + 1) = 2 <;> simp [e3]
      · simp [q0, q1, q2, q3, q4, q5, e1, e2]

theorem set4_acbd {ls : List Int} {a W : Int} (h0 : 0 ≤ a) (hW : 2 ≤ W) (p q r s : Int) : (((ls.set a.toNat p).set (a + W).toNat r).set (a + 1).toNat q).set (a + W + 1).toNat s = set4 ls a W p q r s := by
  unfold set4
  rw [List.set_comm _ _ (show (a + W).toNat ≠ (a + 1).toNat by omega)]

def flipL (W T : Int) (cs : List Bool) (ls : List Int) (c : Int) : List Int := if (regB W T cs && laysB W T cs ls) = true then flipI W T ls c else []

set_option maxHeartbeats 1000000 in
theorem s_spec_FlipOne (W T : Int) (cs : List Bool) (ls : List Int) (c : Int) (hb : cs.length < 2 ^ 40) (hl : ls.length < 2 ^ 40) :
    SoundAt Tryz.prog n_spec_FlipOne [.agg [.v (.int .i64 W), .v (.int .i64 T), .sl 1 1 (bools cs)], .sl 1 1 (ints ls), .v (.int .i64 c)]
      (.tup [.os 1 (ints (flipL W T cs ls c)), .v (.bool (mayI W T cs ls c))]) [.bot, .bot, .bot] := by
  refine fn_ok (md := md5) (ms := [false, false, false]) k_spec_FlipOne (by simp) ?_
  simp [c_spec_FlipOne]
  refine call_on (s_spec_LaidOk W T cs ls hb hl) ?_
  have may := s_spec_FlipMay W T cs ls c hb hl
  unfold mayI flipL at *
  cases hq : (regB W T cs && laysB W T cs ls) with
  | false => simp
  | true =>
  rw [hq] at may
  rw [if_pos rfl]
  simp only [Bool.and_eq_true] at hq
  obtain ⟨hr, hy⟩ := hq
  obtain ⟨w1, w2, t1, t2, l1, _⟩ := regB_W hr
  have h36 := regB_len hr
  have hlen := lays_len hy
  simp
  refine ⟨by omega, ?_⟩
  cases hf : flipB W T ls c with
  | false =>
    rw [hf] at may
    refine call_on may ?_
    have e : flipI W T ls c = ls := by unfold flipI; rw [hf]; rfl
    simp [e]
  | true =>
    rw [hf] at may
    refine call_on may ?_
    have hf2 := hf
    simp only [flipB, Bool.and_eq_true] at hf2
    have hW2 : 2 ≤ W := by
      obtain ⟨x, y, x0, x1, _⟩ := mid_at w1 hf2.1
      omega
    have hc0 := (mid_cor w1 t1 hf2.1)
    have hcor := cor_in w1 w2 t1 t2
    have me := may_eq (c := c) hr hy hc0.1
    rw [hf] at me
    have hs : sqB W T cs c = true := by
      simp only [Bool.and_eq_true] at me
      exact me.1
    have sq := s_spec_l5Square W T cs c hr hc0.1 (by omega)
    rw [if_pos hs] at sq
    have hm := sw_at w1 hf2.1
    have q0 := hm.1
    have q1 : swI W c < ls.length := by omega
    have q2 : 0 ≤ swI W c + W := by omega
    have q3 : swI W c + W < ls.length := by omega
    have q4 : 0 ≤ swI W c + 1 := by omega
    have q5 : swI W c + 1 < ls.length := by omega
    have q6 : 0 ≤ swI W c + W + 1 := by omega
    have q7 : swI W c + W + 1 < ls.length := by omega
    simp
    refine call_on sq ?_
    by_cases hF : flatB W ls c = true
    · have e : flipI W T ls c = set4 ls (swI W c) W 2 2 4 4 := by unfold flipI; rw [if_pos hf, if_pos hF]
      have hF2 := hF
      simp only [flatB, Bool.and_eq_true, decide_eq_true_eq] at hF2
      have ht : (ints (set4 ls (swI W c) W 2 2 4 4)).take ls.length = ints (set4 ls (swI W c) W 2 2 4 4) := List.take_of_length_le (by simp [set4_length])
      unfold set4 at ht e
      simp [q0, q1, q2, q3, q4, q5, q6, q7, hF2.1, ints_set, e, ht]
    · have e : flipI W T ls c = set4 ls (swI W c) W 1 3 1 3 := by unfold flipI; rw [if_pos hf, if_neg hF]
      have hU : upB W ls c = true := by
        have := hf2.2
        simp only [Bool.or_eq_true] at this
        exact this.resolve_left hF
      simp only [upB, Bool.and_eq_true, decide_eq_true_eq] at hU
      have hn1 : ¬ ati ls (swI W c) = 1 := by omega
      have ht : (ints (set4 ls (swI W c) W 1 3 1 3)).take ls.length = ints (set4 ls (swI W c) W 1 3 1 3) := List.take_of_length_le (by simp [set4_length])
      have e4 := set4_acbd (ls := ls) q0 hW2 1 3 1 3
      simp [q0, q1, q2, q3, q4, q5, q6, q7, hU.1, hn1, ints_set, e, e4, ht, set4_length]

/-- The corners that can be flipped, below n. -/
def flipsTo (W T : Int) (cs : List Bool) (ls : List Int) (n : Nat) : List Int := (List.range n).flatMap fun k : Nat => if mayI W T cs ls k then [(k : Int)] else []
theorem flipsTo_succ (W T : Int) (cs : List Bool) (ls : List Int) (n : Nat) : flipsTo W T cs ls (n + 1) = flipsTo W T cs ls n ++ if mayI W T cs ls n then [(n : Int)] else [] := by simp [flipsTo, List.range_succ]
theorem flipsTo_length (W T : Int) (cs : List Bool) (ls : List Int) : ∀ n, (flipsTo W T cs ls n).length ≤ n
  | 0 => by simp [flipsTo]
  | n + 1 => by
    have := flipsTo_length W T cs ls n
    rw [flipsTo_succ]; split <;> simp <;> omega
theorem flipsTo_mem {W T : Int} {cs : List Bool} {ls : List Int} {n : Nat} {x : Int} (h : x ∈ flipsTo W T cs ls n) : 0 ≤ x ∧ x < n := by
  simp only [flipsTo, List.mem_flatMap, List.mem_range] at h
  obtain ⟨k, hk, h⟩ := h
  split at h
  · simp at h; omega
  · simp at h
def corN (W T : Int) (cs : List Bool) : Nat := if regB W T cs = true then (corI W T).toNat else 0
theorem corN_le (W T : Int) (cs : List Bool) : corN W T cs ≤ 49 := by
  unfold corN; split
  · rename_i hr
    obtain ⟨w1, w2, t1, t2, _⟩ := regB_W hr
    have := cor_in w1 w2 t1 t2
    omega
  · omega
def flipsI (W T : Int) (cs : List Bool) (ls : List Int) : List Int := flipsTo W T cs ls (corN W T cs)

theorem s_spec_FlipsOf (W T : Int) (cs : List Bool) (ls : List Int) (hb : cs.length < 2 ^ 40) (hl : ls.length < 2 ^ 40) :
    SoundAt Tryz.prog n_spec_FlipsOf [.agg [.v (.int .i64 W), .v (.int .i64 T), .sl 1 1 (bools cs)], .sl 1 1 (ints ls)] (.os 1 (ints (flipsI W T cs ls))) [.bot, .bot] := by
  refine fn_ok (md := md5) (ms := [false, false]) k_spec_FlipsOf (by simp) ?_
  have cm := s_spec_CornerMany W T cs hb
  have h49 := corN_le W T cs
  have hcor : ∀ k : Nat, ((k : Int) < if regB W T cs = true then corI W T else -1) ↔ k < corN W T cs := by
    intro k
    unfold corN
    split
    · rename_i hr
      obtain ⟨w1, w2, t1, t2, _⟩ := regB_W hr
      have := cor_in w1 w2 t1 t2
      omega
    · omega
  simp [c_spec_FlipsOf]
  refine loop_by (fun m E H => ∃ i : Nat, m = corN W T cs - i ∧ i ≤ corN W T cs ∧ E = [(1, .sl 1 1 (ints ls)), (2, .lp 0 0 0 0), (5, .ls 1 1 0 (flipsTo W T cs ls i).length), (6, .v (.int .i64 i))] ∧
    H = [some (.box [.v (.int .i64 W), .v (.int .i64 T), .sl 1 1 (bools cs)]), some (.arr 1 (ints (flipsTo W T cs ls i)))]) (corN W T cs) ⟨0, rfl, by omega, by simp [flipsTo], by simp [flipsTo]⟩ ?_
  rintro J hJ m E H ⟨i, rfl, hi, rfl, rfl⟩
  have hfl := flipsTo_length W T cs ls i
  have hc := hcor i
  have may := s_spec_FlipMay W T cs ls i hb hl
  have hstep := flipsTo_succ W T cs ls i
  simp [c_spec_FlipsOf_L0]
  refine call_on cm ?_
  by_cases h : i < corN W T cs
  · have hc2 := hc.2 h
    simp [hc2]
    refine call_on may ?_
    cases hm : mayI W T cs ls i with
    | false =>
      rw [hm] at hstep
      simp at hstep
      simp
      exact ⟨by omega, _, by omega, hJ _ _ _ ⟨i + 1, rfl, h, by simp [hstep], by simp [hstep]⟩⟩
    | true =>
      rw [hm] at hstep
      simp at hstep
      simp
      exact ⟨by omega, by omega, _, by omega, hJ _ _ _ ⟨i + 1, rfl, h, by simp [hstep], by simp [hstep, ints_append, ints_one]⟩⟩
  · have hc2 : ¬ ((i : Int) < if regB W T cs = true then corI W T else -1) := fun h2 => h (hc.1 h2)
    have : i = corN W T cs := by omega
    subst this
    have ht : (ints (flipsTo W T cs ls (corN W T cs))).take (flipsTo W T cs ls (corN W T cs)).length = ints (flipsTo W T cs ls (corN W T cs)) := take_ints_all _
    simp [hc2, flipsI, ht]
end Go.Proofs.Dev

namespace Go.Proofs.Dev

def c_impl_Region_around_N : BCode := .seq (.base (.reg [.o 2 .box [.t 0], .o 4 (.alloc [.v (.int .i64 (0)), .v (.int .i64 (0)), .v (.int .i64 (0)),
 .v (.int .i64 (0))]) [], .o 5 .mv [.kb false]])) <| .seq (.calm [(false, .m 9 1), (false, .f 10 0 2), (false, .l 11 10), (false, .o 12 (.bin .add 0) [.t 11,
 .k 1]), (true, .o 13 (.bin .rem 0) [.t 9, .t 12]), (false, .m 14 1), (false, .f 15 0 2), (false, .l 16 15), (false, .o 17 (.bin .add 0) [.t 16, .k 1]), (true,
 .o 18 (.bin .quo 0) [.t 14, .t 17]), (false, .m 6 13), (false, .m 7 18)]) <| .base (c_impl_Region_around_T0)

theorem kn_impl_Region_around : cFnB Tryz.prog n_impl_Region_around 59 [.c 4 true 4, .t 5] c_impl_Region_around_N := ⟨Tryz.f185, _, Tryz.func185, rfl, by kernel_rfl, by kernel_rfl, by kernel_rfl, by kernel_rfl⟩


-- 1 parameters, results [.c 2 true 6], 44 slots, modes [false]
@[simp] abbrev n_impl_Book_copyOf : Nat := 64
abbrev c_impl_Book_copyOf_L0_p0 : Plan := .take (.o 41 (.iadr 1) [.t 37, .t 38]) <| .al (.s (.store 1) [.t 41, .t 40]) ( .done)
def c_impl_Book_copyOf_L0 : ACode := .seq (.reg [.o 32 (.bin .lss 0) [.t 31, .t 30]]) <| .seq (.cond (.t 32) ( .skip) ( .exit 0)) <|
 .seq (.block 1 ( .seq (.reg [.m 33 31, .o 34 (.iadr 1) [.t 29, .t 31], .l 35 34, .m 4 33, .m 5 35]) <| .draw ( .take (.f 36 5 3) <| .take (.m 38 4) <|
 .take (.m 39 5) <| .alt (.l 37 36) ( .al (.o 40 (.call 58 []) [.t 39]) c_impl_Book_copyOf_L0_p0) <| .al (.o 40 (.call 58 []) [.t 39]) ( .al (.l 37 36) c_impl_Book_copyOf_L0_p0)))) <| .reg [.o 42 (.bin .add 0) [.t 31, .k 1], .m 31 42]

def c_impl_Book_copyOf_T1 : ACode := .seq (.seq (.reg [.f 28 5 1, .l 29 28, .n 30 29, .o 31 .mv [.k 0]]) <| .block 0 ( .loop [(29, 1)] [2, 3, 29, 30,
 31] c_impl_Book_copyOf_L0)) <| .seq (.reg [.la 43 6 3, .s (.store 6) [.t 2, .t 43]]) <| .ret

abbrev c_impl_Book_copyOf_E_p0 : Plan := .take (.o 27 (.build bz [(0, 3), (3, 1), (4, 1), (5, 1)]) [.t 16, .t 19, .t 22, .t 26]) <| .al (.s (.store 6) [.t 3, .t 27]) ( .done)
abbrev c_impl_Book_copyOf_E_p1 : Plan := .al (.o 22 (.call 58 []) [.t 21]) c_impl_Book_copyOf_E_p0
abbrev c_impl_Book_copyOf_E_p2 : Plan := .alt (.o 22 (.call 58 []) [.t 21]) ( .take (.o 27 (.build bz [(0, 3), (3, 1), (4, 1), (5, 1)]) [.t 16, .t 19, .t 22, .t 26]) <| .al (.o 3 (.alloc bz) []) ( .al (.s (.store 6) [.t 3, .t 27]) ( .done))) <| .al (.o 3 (.alloc bz) []) c_impl_Book_copyOf_E_p1
abbrev c_impl_Book_copyOf_E_p3 : Plan := .alt (.o 22 (.call 58 []) [.t 21]) ( .al (.o 26 (.mksl 1 24 (.os 1 [])) [.t 25, .t 25]) c_impl_Book_copyOf_E_p0) <| .al (.o 26 (.mksl 1 24 (.os 1 [])) [.t 25, .t 25]) c_impl_Book_copyOf_E_p1
abbrev c_impl_Book_copyOf_E_p4 : Plan := .al (.o 19 (.call 58 []) [.t 18]) c_impl_Book_copyOf_E_p1
abbrev c_impl_Book_copyOf_E_p5 : Plan := .al (.o 15 (.call 57 []) [.t 14]) ( .take (.o 16 (.build rz [(0, 1), (1, 1), (2, 1)]) [.t 8, .t 11, .t 15]) <| .al (.o 19 (.call 58 []) [.t 18]) c_impl_Book_copyOf_E_p1)
def c_impl_Book_copyOf_E : BCode := .seq (.base (.reg [.o 1 .box [.t 0], .o 2 (.alloc bz) []])) <| .frz 1 <| .seq (.early [.f 6 0 1, .f 7 0 6, .l 8 7, .f 9 0 1,
 .f 10 1 9, .l 11 10, .f 12 0 1, .f 13 2 12, .l 14 13, .f 17 3 1, .l 18 17, .f 20 4 1, .l 21 20, .f 23 5 1, .l 24 23,
 .n 25 24] ( .alt (.o 15 (.call 57 []) [.t 14]) ( .take (.o 16 (.build rz [(0, 1), (1, 1), (2, 1)]) [.t 8, .t 11, .t 15]) <|
 .alt (.o 19 (.call 58 []) [.t 18]) ( .alt (.o 22 (.call 58 []) [.t 21]) ( .alt (.o 26 (.mksl 1 24 (.os 1 [])) [.t 25, .t 25]) ( .take (.o 27 (.build bz [(0, 3),
 (3, 1), (4, 1), (5, 1)]) [.t 16, .t 19, .t 22, .t 26]) <| .al (.o 3 (.alloc bz) []) ( .al (.s (.store 6) [.t 3, .t 27]) ( .done))) <|
 .al (.o 3 (.alloc bz) []) ( .al (.o 26 (.mksl 1 24 (.os 1 [])) [.t 25, .t 25]) c_impl_Book_copyOf_E_p0)) <| .alt (.o 26 (.mksl 1 24 (.os 1 [])) [.t 25,
 .t 25]) c_impl_Book_copyOf_E_p2 <| .al (.o 3 (.alloc bz) []) c_impl_Book_copyOf_E_p3) <| .alt (.o 26 (.mksl 1 24 (.os 1 [])) [.t 25,
 .t 25]) ( .alt (.o 19 (.call 58 []) [.t 18]) c_impl_Book_copyOf_E_p2 <|
 .al (.o 3 (.alloc bz) []) c_impl_Book_copyOf_E_p4) <|
 .al (.o 3 (.alloc bz) []) ( .alt (.o 19 (.call 58 []) [.t 18]) c_impl_Book_copyOf_E_p3 <| .al (.o 26 (.mksl 1 24 (.os 1 [])) [.t 25,
 .t 25]) c_impl_Book_copyOf_E_p4)) <| .alt (.o 26 (.mksl 1 24 (.os 1 [])) [.t 25,
 .t 25]) ( .alt (.o 15 (.call 57 []) [.t 14]) ( .take (.o 16 (.build rz [(0, 1), (1, 1), (2, 1)]) [.t 8, .t 11, .t 15]) <|
 .alt (.o 19 (.call 58 []) [.t 18]) c_impl_Book_copyOf_E_p2 <|
 .al (.o 3 (.alloc bz) []) c_impl_Book_copyOf_E_p4) <|
 .al (.o 3 (.alloc bz) []) c_impl_Book_copyOf_E_p5) <| .al (.o 3 (.alloc bz) []) ( .alt (.o 15 (.call 57 []) [.t 14]) ( .take (.o 16 (.build rz [(0, 1),
 (1, 1), (2, 1)]) [.t 8, .t 11, .t 15]) <| .alt (.o 19 (.call 58 []) [.t 18]) c_impl_Book_copyOf_E_p3 <| .al (.o 26 (.mksl 1 24 (.os 1 [])) [.t 25,
 .t 25]) c_impl_Book_copyOf_E_p4) <| .al (.o 26 (.mksl 1 24 (.os 1 [])) [.t 25,
 .t 25]) c_impl_Book_copyOf_E_p5))) <| .base (.gc [] [1, 2, 3] c_impl_Book_copyOf_T1)

theorem k_impl_Book_copyOf : cFnB Tryz.prog n_impl_Book_copyOf 44 [.c 2 true 6] c_impl_Book_copyOf_E := ⟨Tryz.f64, _, Tryz.func64, rfl, by kernel_rfl, by kernel_rfl, by kernel_rfl, by kernel_rfl⟩

end Go.Proofs.Dev

namespace Go.Proofs.Dev
set_option linter.unusedSimpArgs false
set_option maxRecDepth 100000

def arV (a b c d : Int) : AV := .agg [.v (.int .i64 a), .v (.int .i64 b), .v (.int .i64 c), .v (.int .i64 d)]
def arR (W T c : Int) : AV := if midB W T c = true then .tup [arV (swI W c) (swI W c + 1) (swI W c + W) (swI W c + W + 1), .v (.bool true)] else .tup [arV 0 0 0 0, .v (.bool false)]

theorem s_impl_Region_around (W T : Int) (cs : List Bool) (c : Int) (hr : regB W T cs = true) (h1 : c ≤ 9223372036854775807) :
    SoundAt Tryz.prog n_impl_Region_around [.agg [.v (.int .i64 W), .v (.int .i64 T), .sl 1 1 (bools cs)], .v (.int .i64 c)] (arR W T c) [.bot, .bot] := by
  obtain ⟨w1, w2, t1, t2, l1, _⟩ := regB_W hr
  have h36 := regB_len hr
  have w0 : 1 ≤ W + 1 := by omega
  by_cases h0 : 0 ≤ c
  case neg =>
    have hm : midB W T c = false := by simp [midB]; omega
    have hc : c < 0 := by omega
    refine fn_okB (md := md0) (ms := [false, false]) kn_impl_Region_around (by simp) ?_
    simp [c_impl_Region_around_N]
    refine ⟨by omega, ?_⟩
    refine awpC_quo (.inr rfl) ?_
    simp [calmK, w0]
    refine ⟨by omega, ?_⟩
    refine awpC_quo (.inl rfl) ?_
    simp [calmK, w0, c_impl_Region_around_T0, hc, arR, hm, arV]
  have m1 := Int.emod_nonneg c (show W + 1 ≠ 0 by omega)
  have m2 := Int.emod_lt_of_pos c (show 0 < W + 1 by omega)
  have m3 := Int.ediv_nonneg h0 (show 0 ≤ W + 1 by omega)
  have m4 := Int.ediv_le_self (W + 1) h0
  refine fn_ok (md := md0) (ms := [false, false]) k_impl_Region_around (by simp) ?_
  have hsw := @sw_at W T c w1
  have hsd : swI W c = (c / (W + 1) - 1) * W + c % (W + 1) - 1 := rfl
  have hc : ¬ c < 0 := by omega
  by_cases hx : 1 ≤ c % (W + 1) ∧ c % (W + 1) ≤ W - 1
  case neg =>
    have hm : midB W T c = false := by simp [midB]; omega
    simp [c_impl_Region_around, h0, w0]
    (repeat' first | omega | apply And.intro) <;>
    · simp [c_impl_Region_around_T0, hc]
      refine ⟨by omega, ?_⟩
      refine call_on (s_impl_in_f (x := c % (W + 1)) (lo := 1) (hi := W - 1) hx) ?_
      simp [arR, hm, arV]
  by_cases hy : 1 ≤ c / (W + 1) ∧ c / (W + 1) ≤ T - 1
  case neg =>
    have hm : midB W T c = false := by simp [midB]; omega
    simp [c_impl_Region_around, h0, w0]
    (repeat' first | omega | apply And.intro) <;>
    · simp [c_impl_Region_around_T0, hc]
      refine ⟨by omega, ?_⟩
      refine call_on (s_impl_in_t (x := c % (W + 1)) (lo := 1) (hi := W - 1) hx) ?_
      simp
      refine ⟨by omega, ?_⟩
      refine call_on (s_impl_in_f (x := c / (W + 1)) (lo := 1) (hi := T - 1) hy) ?_
      simp [arR, hm, arV]
  have hm : midB W T c = true := by simp [midB]; omega
  have hs := hsw hm
  have hz : swI W c = (c / (W + 1) - 1) * W + c % (W + 1) - 1 := hsd
  rw [hz] at hs
  simp [c_impl_Region_around, h0, w0]
  (repeat' first | omega | apply And.intro) <;>
  · simp [c_impl_Region_around_T0, hc]
    refine ⟨by omega, ?_⟩
    refine call_on (s_impl_in_t (x := c % (W + 1)) (lo := 1) (hi := W - 1) hx) ?_
    simp
    refine ⟨by omega, ?_⟩
    refine call_on (s_impl_in_t (x := c / (W + 1)) (lo := 1) (hi := T - 1) hy) ?_
    simp [arR, hm, arV, hz]
    generalize (c / (W + 1) - 1) * W = z at *
    (repeat' first | omega | rfl | apply And.intro)
end Go.Proofs.Dev

namespace Go.Proofs.Dev
set_option linter.unusedSimpArgs false
set_option maxRecDepth 100000

@[simp] theorem awpEarly_some {P : Program} {md : Nat → List Bool} {K : ES → Heap → Prop} {E : ES} {H : Heap} {dst : Option Nat} {k : AK} {xs : List Opd} {s : Nat} {w : Bool} {os : List AOper} {p : Plan} :
    awpEarly P md (⟨dst, k, xs, some (s, w)⟩ :: os) p K E H = (viewOk ⟨dst, k, xs, some (s, w)⟩ E ∧ guardK P md ⟨dst, k, xs, some (s, w)⟩ s w (awpEarly P md os p K) E H (get E s)) := (rfl)

set_option maxHeartbeats 4000000 in
theorem s_impl_Region_flippable (W T : Int) (cs : List Bool) (ls : List Int) (c : Int) (hr : regB W T cs = true) (hl : ls.length = cs.length) (h1 : c ≤ 9223372036854775807) :
    SoundAt Tryz.prog n_impl_Region_flippable [.agg [.v (.int .i64 W), .v (.int .i64 T), .sl 1 1 (bools cs)], .sl 1 1 (ints ls), .v (.int .i64 c)]
      (.tup [.v (.bool (midB W T c && flatB W ls c)), .v (.bool (midB W T c && upB W ls c))]) [.bot, .bot, .bot] := by
  obtain ⟨w1, w2, t1, t2, l1, _⟩ := regB_W hr
  have h36 := regB_len hr
  have ar := s_impl_Region_around W T cs c hr h1
  refine fn_okB (md := md0) (ms := [false, false, false]) k_impl_Region_flippable (by simp) ?_
  simp [c_impl_Region_flippable_E]
  refine call_on ar ?_
  cases hm : midB W T c with
  | false => simp [arR, hm, arV]
  | true =>
    have hs := sw_at w1 hm
    have q0 := hs.1
    have q1 : swI W c < ls.length := by omega
    have q2 : 0 ≤ swI W c + W := by omega
    have q3 : swI W c + W < ls.length := by omega
    have q4 : 0 ≤ swI W c + 1 := by omega
    have q5 : swI W c + 1 < ls.length := by omega
    simp [arR, hm, arV]
    refine frz_on rfl rfl rfl ?_
    unfold flatB upB
    by_cases e1 : ati ls (swI W c) = 1
    · have e2 : ¬ ati ls (swI W c) = 2 := by omega
      simp [q0, q1, q2, q3, q4, q5, e1, e2]
      by_cases e3 : ati ls (swI W c + W) = 1 <;> simp [e3]
    · by_cases e2 : ati ls (swI W c) = 2
      · simp [q0, q1, q2, q3, q4, q5, e1, e2]
        by_cases e3 : ati ls (swI W c + 1) = 2 <;> simp [e3]
      · simp [q0, q1, q2, q3, q4, q5, e1, e2]

set_option maxHeartbeats 4000000 in
theorem s_impl_Region_flip (W T : Int) (cs : List Bool) (ls : List Int) (c : Int) (hr : regB W T cs = true) (hl : ls.length = cs.length) (h1 : c ≤ 9223372036854775807) :
    SoundAt Tryz.prog n_impl_Region_flip [.agg [.v (.int .i64 W), .v (.int .i64 T), .sl 1 1 (bools cs)], .sl 1 1 (ints ls), .v (.int .i64 c)]
      (.tup [.os 1 (ints (flipI W T ls c)), .v (.bool (flipB W T ls c))]) [.bot, .bot, .bot] := by
  obtain ⟨w1, w2, t1, t2, l1, _⟩ := regB_W hr
  have h36 := regB_len hr
  have ar := s_impl_Region_around W T cs c hr h1
  have fl := s_impl_Region_flippable W T cs ls c hr hl h1
  refine fn_okB (md := md0) (ms := [false, false, false]) k_impl_Region_flip (by simp) ?_
  simp [c_impl_Region_flip_E]
  refine call_on (s_impl_clone_int ls (by omega)) ?_
  simp
  refine call_on fl ?_
  simp
  refine call_on ar ?_
  have htl : (ints ls).take ls.length = ints ls := take_ints_all ls
  cases hm : midB W T c with
  | false =>
    have e : flipI W T ls c = ls := by simp [flipI, flipB, hm]
    have e2 : flipB W T ls c = false := by simp [flipB, hm]
    simp [arR, hm, arV, e, e2]
    refine frz_on rfl rfl rfl ?_
    simp [htl]
  | true =>
    have hs := sw_at w1 hm
    have hW2 : 2 ≤ W := by
      obtain ⟨x, y, x0, x1, _⟩ := mid_at w1 hm
      omega
    have q0 := hs.1
    have q1 : swI W c < ls.length := by omega
    have q2 : 0 ≤ swI W c + W := by omega
    have q3 : swI W c + W < ls.length := by omega
    have q4 : 0 ≤ swI W c + 1 := by omega
    have q5 : swI W c + 1 < ls.length := by omega
    have q6 : 0 ≤ swI W c + W + 1 := by omega
    have q7 : swI W c + W + 1 < ls.length := by omega
    simp [arR, hm, arV]
    refine frz_on rfl rfl rfl ?_
    cases hF : flatB W ls c with
    | true =>
      have e2 : flipB W T ls c = true := by simp [flipB, hm, hF]
      have e : flipI W T ls c = set4 ls (swI W c) W 2 2 4 4 := by unfold flipI; rw [if_pos e2, if_pos hF]
      have ht : (ints (set4 ls (swI W c) W 2 2 4 4)).take ls.length = ints (set4 ls (swI W c) W 2 2 4 4) := List.take_of_length_le (by simp [set4_length])
      have hlen := set4_length ls (swI W c) W 2 2 4 4
      rw [e, e2]
      unfold set4 at *
      simp [q0, q1, q2, q3, q4, q5, q6, q7, ints_set, ht]
    | false =>
      cases hU : upB W ls c with
      | true =>
        have e2 : flipB W T ls c = true := by simp [flipB, hm, hU]
        have e : flipI W T ls c = set4 ls (swI W c) W 1 3 1 3 := by unfold flipI; rw [if_pos e2, if_neg (by rw [hF]; decide)]
        have ht : (ints (set4 ls (swI W c) W 1 3 1 3)).take ls.length = ints (set4 ls (swI W c) W 1 3 1 3) := List.take_of_length_le (by simp [set4_length])
        rw [e, e2]
        unfold set4 at *
        simp [q0, q1, q2, q3, q4, q5, q6, q7, ints_set, ht]
      | false =>
        have e2 : flipB W T ls c = false := by simp [flipB, hF, hU]
        have e : flipI W T ls c = ls := by simp [flipI, e2]
        rw [e, e2]
        simp [htl]
end Go.Proofs.Dev

namespace Go.Proofs.Dev
set_option linter.unusedSimpArgs false
set_option maxRecDepth 100000

theorem s_spec_LiftOne (W T : Int) (cs : List Bool) (ls : List Int) (k : Nat) (hr : regB W T cs = true) (hy : laysB W T cs ls = true) (hk : k < ls.length) :
    SoundAt Tryz.prog n_spec_LiftOne [.agg [.v (.int .i64 W), .v (.int .i64 T), .sl 1 1 (bools cs)], .sl 1 1 (ints ls), .v (.int .i64 k)]
      (if ati ls k = 0 then .tup [.os 1 (ints ls), .v (.bool false)] else .tup [.os 1 (ints (liftI W T ls k)), .v (.bool true)]) [.bot, .bot, .bot] := by
  refine fn_ok (md := md5) (ms := [false, false, false]) k_spec_LiftOne (by simp) ?_
  have h36 := regB_len hr
  have hl := lays_len hy
  simp [c_spec_LiftOne]
  refine call_on (s_spec_LaidOk W T cs ls (by omega) (by omega)) ?_
  simp [hr, hy]
  refine ⟨by omega, by omega, ?_⟩
  refine call_on (s_spec_l1In_t (x := k) (lo := 0) (hi := (ls.length : Int) - 1) (by omega)) ?_
  by_cases hz : ati ls k = 0
  · simp [hk, hz]
  obtain ⟨t, e, ht, htk, _⟩ := lift_at hr hy hk hz
  have eL : liftI W T ls k = (ls.set t 0).set k 0 := by unfold liftI; rw [e]; simp
  rw [eL]
  have one := s_spec_l2Step W T cs k (ati ls k) hr (by omega) (by omega)
  rw [e] at one
  simp [hk, hz]
  (repeat' first | assumption | omega | apply And.intro) <;>
  · refine call_on one ?_
    have htk2 : (ints ((ls.set t 0).set k 0)).take ls.length = ints ((ls.set t 0).set k 0) := List.take_of_length_le (by simp)
    simp [ht, hk, ints_set, c_spec_LiftOne_T0, htk2]

end Go.Proofs.Dev

namespace Go.Proofs.Dev
set_option linter.unusedSimpArgs false
set_option maxRecDepth 100000


theorem okL_raw {us : List Value} (h : ∀ u ∈ us, u.oneCell' = true) : okL (rawL us) = true := by
  induction us with
  | nil => simp [rawL]
  | cons u us ih =>
    have h1 := h u (by simp)
    have h2 := ih fun x hx => h x (by simp [hx])
    show (okE (.v u) && okL (rawL us)) = true
    rw [h2, Bool.and_true]
    exact h1
@[simp] theorem take_raw (us : List Value) : (rawL us).take us.length = rawL us := List.take_of_length_le (by simp)

theorem s_slices_Clone_ints0 (us : List Value) (hn : us.length < 2 ^ 40) (h1 : ∀ u ∈ us, u.oneCell' = true) :
    SoundAt Tryz.prog n_slices_Clone_ints [.sl 0 1 (rawL us)] (.os 1 (rawL us)) [.bot] := by
  refine fn_ok (md := md3) (ms := [false]) k_slices_Clone_ints (by simp) ?_
  simp [c_slices_Clone_ints]
  simp [okL_raw h1]
  refine ⟨fun _ => by omega, fun e => ⟨by omega, by rw [e]; rfl⟩⟩

theorem s_slices_Clip_raw (us : List Value) : SoundAt Tryz.prog n_slices_Clip_ints [.os 1 (rawL us)] (.os 1 (rawL us)) [.bot] := by
  refine fn_ok (md := md3) (ms := [false]) k_slices_Clip_ints (by simp) ?_
  simp [c_slices_Clip_ints]

theorem noVL_raw (us : List Value) : noVL (rawL us) = true := by
  induction us with
  | nil => rfl
  | cons u us ih => show (noV (.v u) && noVL (rawL us)) = true; rw [ih]; rfl
theorem s_slices_Clone_raw (us : List Value) (hn : us.length < 2 ^ 40) (h1 : ∀ u ∈ us, u.oneCell' = true) :
    SoundAt Tryz.prog n_slices_Clone_ints [.sl 1 1 (rawL us)] (.os 1 (rawL us)) [.bot] := by
  refine SoundAt.lift (n := 1) (fun C S us hr => noOL_ok _ S us rfl hr) (by simp [noV, noVL_raw]) ?_
  have := s_slices_Clone_ints0 us hn h1
  simpa [vwL, vw, vwL_raw] using this

theorem s_impl_clone_raw (us : List Value) (hn : us.length < 2 ^ 40) (h1 : ∀ u ∈ us, u.oneCell' = true) :
    SoundAt Tryz.prog n_impl_clone_ints [.sl 1 1 (rawL us)] (.os 1 (rawL us)) [.bot] := by
  refine fn_ok (md := md3) (ms := [false]) k_impl_clone_ints (by simp) ?_
  simp [c_impl_clone_ints]
  refine call_on (s_slices_Clone_raw us hn h1) ?_
  simp [vwL_raw]
  refine call_on (s_slices_Clip_raw us) ?_
  simp

end Go.Proofs.Dev

namespace Go.Proofs.Dev
set_option linter.unusedSimpArgs false
set_option maxRecDepth 100000

def needB (d : Int × Int × Int) : Bool :=
  if d.1 = 0 then true else if d.1 = 1 ∨ d.1 = 2 then decide (d.2.2 = 0) else if d.1 = 3 ∨ d.1 = 4 then decide (d.2.1 = 0 ∧ d.2.2 = 0) else false

theorem s_impl_Deed_needs (d : Int × Int × Int) : SoundAt Tryz.prog n_impl_Deed_needs [deedA d] (.v (.bool (needB d))) [.bot] := by
  obtain ⟨k, s, w⟩ := d
  refine fn_ok (md := md3) (ms := [false]) k_impl_Deed_needs (by simp [deedA]) ?_
  by_cases h0 : k = 0 <;> by_cases h1 : k = 1 <;> by_cases h2 : k = 2 <;> by_cases h3 : k = 3 <;> by_cases h4 : k = 4 <;> by_cases hs : s = 0 <;> by_cases hw : w = 0 <;> first | (exfalso; omega) | (simp [c_impl_Deed_needs, deedA, needB, h0, h1, h2, h3, h4, hs, hw])

theorem s_spec_l10Named (d : Int × Int × Int) : SoundAt Tryz.prog n_spec_l10Named [deedA d] (.v (.bool (needB d))) [.bot] := by
  obtain ⟨k, s, w⟩ := d
  refine fn_ok (md := md3) (ms := [false]) k_spec_l10Named (by simp [deedA]) ?_
  by_cases h0 : k = 0 <;> by_cases h1 : k = 1 <;> by_cases h2 : k = 2 <;> by_cases h3 : k = 3 <;> by_cases h4 : k = 4 <;> by_cases hs : s = 0 <;> by_cases hw : w = 0 <;> first | (exfalso; omega) | (simp [c_spec_l10Named, deedA, needB, h0, h1, h2, h3, h4, hs, hw])

end Go.Proofs.Dev

namespace Go.Proofs.Dev
set_option linter.unusedSimpArgs false
set_option maxRecDepth 100000

end Go.Proofs.Dev

namespace Go.Proofs.Dev
set_option linter.unusedSimpArgs false
set_option maxRecDepth 100000

theorem s_laws_markIntSW (bs : List Int) (k : Int) (h0 : 0 ≤ k) (h1 : k < 2 ^ 60) (hb : bs.length < 2 ^ 40) :
    SoundAt Tryz.prog n_laws_markIntS [.os 1 (ints bs), .v (.int .i64 k)] (.v (.int .i64 (k + bs.length))) [.os 1 (ints (marksI bs.length k)), .bot] := by
  refine fn_ok (md := md0) (ms := [true, false]) k_laws_markIntS (by simp) ?_
  simp [c_laws_markIntS]
  refine loop_by (fun m E H => ∃ i : Nat, m = bs.length - i ∧ i ≤ bs.length ∧ H = [some (.arr 1 (ints (marksI i k ++ bs.drop i)))] ∧ E = [(0, .ls 1 0 0 bs.length), (1, .v (.int .i64 (k + i))), (5, .v (.int .i64 i)), (19, .ls 1 0 0 bs.length)]) bs.length ⟨0, by simp [marksI]⟩ ?_
  rintro J hJ m E H ⟨i, rfl, hi, rfl, rfl⟩
  simp [c_laws_markIntS_L0]
  refine ⟨fun h => ?_, fun h => ?_⟩
  · simp [h]
    have e : (ints (marksI i k ++ bs.drop i)).set i (.v (.int .i64 (k + i))) = ints (marksI (i + 1) k ++ bs.drop (i + 1)) := by
      rw [ints_set, set_mid _ _ _ _ (by simp [marksI]) h, marksI, marksI, List.range_succ, List.map_append]; rfl
    simp [marksI] at e ⊢
    refine ⟨by omega, by omega, by omega, _, ?_, hJ _ _ _ ⟨i + 1, rfl, h, ?_, ?_⟩⟩
    · omega
    · simp [marksI, e]
    · simp; omega
  · have : i = bs.length := by omega
    subst this
    simp [marksI]

theorem s_laws_heldIntSW (n : Nat) (k : Int) (h0 : 0 ≤ k) (h1 : k < 2 ^ 60) (hb : n < 2 ^ 40) :
    SoundAt Tryz.prog n_laws_heldIntS [.sl 1 1 (ints (marksI n k)), .v (.int .i64 k)] (.v (.int .i64 (k + n))) [.bot, .bot] := by
  refine fn_ok (md := md0) (ms := [false, false]) k_laws_heldIntS (by simp) ?_
  simp [c_laws_heldIntS]
  refine loop_by (fun m E H => ∃ i : Nat, m = n - i ∧ i ≤ n ∧ H = [] ∧ E = [(0, .sl 1 1 (ints (marksI n k))), (1, .v (.int .i64 (k + i))), (5, .v (.int .i64 i))]) n ⟨0, by simp⟩ ?_
  rintro J hJ m E H ⟨i, rfl, hi, rfl, rfl⟩
  simp [c_laws_heldIntS_L0, marksI_length]
  refine ⟨fun h => ?_, fun h => ?_⟩
  · have e : ati (marksI n k) i = k + i := by simp [ati, marksI, h]
    have hl := marksI_length n k
    simp [e, h]
    refine ⟨by omega, by omega, _, by omega, hJ _ _ _ ⟨i + 1, rfl, h, rfl, ?_⟩⟩
    simp; omega
  · have : i = n := by omega
    subst this
    simp

@[simp] theorem take_sls_all (c : Nat) (ps : List (List Int)) : (sls c ps).take ps.length = sls c ps := List.take_of_length_le (by simp)

/-- What the marks of lists of lists are. -/
def marksSS : Int → List (List Int) → List (List Int)
  | _, [] => []
  | k, p :: ps => marksI p.length k :: marksSS (k + p.length) ps
theorem sumL_cons (p : List Int) (ps : List (List Int)) : sumL (p :: ps) = p.length + sumL ps := by simp [sumL]
theorem marksSS_append : ∀ (k : Int) (a b : List (List Int)), marksSS k (a ++ b) = marksSS k a ++ marksSS (k + sumL a) b
  | k, [], b => by simp [marksSS, sumL]
  | k, p :: a, b => by
    rw [List.cons_append, marksSS, marksSS, marksSS_append, sumL_cons, List.cons_append, show k + (p.length : Int) + (sumL a : Int) = k + ((p.length + sumL a : Nat) : Int) by omega]
@[simp] theorem marksSS_length : ∀ (k : Int) (a : List (List Int)), (marksSS k a).length = a.length
  | k, [] => by simp [marksSS]
  | k, p :: a => by simp [marksSS, marksSS_length]
@[simp] theorem take_marksSS (k : Int) (ps : List (List Int)) : (oss (marksSS k ps)).take ps.length = oss (marksSS k ps) := List.take_of_length_le (by simp)
theorem marksSS_succ {ps : List (List Int)} {i : Nat} (k : Int) (h : i < ps.length) : marksSS k (ps.take (i + 1)) = marksSS k (ps.take i) ++ [marksI (pti ps i).length (k + sumL (ps.take i))] := by
  rw [List.take_succ_eq_append_getElem h, marksSS_append, pti_get h]
  rfl
theorem marksSS_at {ps : List (List Int)} {i : Nat} (k : Int) (h : i < ps.length) : pti (marksSS k ps) i = marksI (pti ps i).length (k + sumL (ps.take i)) := by
  have e : marksSS k ps = marksSS k (ps.take i) ++ marksSS (k + sumL (ps.take i)) (ps.drop i) := by
    rw [← marksSS_append, List.take_append_drop]
  have hl : (ps.take i).length = i := by simp; omega
  rw [e, pti_nat, List.getD_eq_getElem?_getD, List.getElem?_append_right (by simp [hl]), List.drop_eq_getElem_cons h]
  simp [hl, marksSS, pti_get h]

theorem s_laws_markIntSS (ps : List (List Int)) (k : Int) (h0 : 0 ≤ k) (h1 : k + sumL ps < 2 ^ 60) (hb : ps.length < 2 ^ 40) (hp : ∀ p ∈ ps, p.length < 2 ^ 40) :
    SoundAt Tryz.prog n_laws_markIntSS [.os 1 (oss ps), .v (.int .i64 k)] (.v (.int .i64 (k + sumL ps))) [.os 1 (oss (marksSS k ps)), .bot] := by
  refine fn_ok (md := md0) (ms := [true, false]) k_laws_markIntSS (by simp) ?_
  simp [c_laws_markIntSS]
  refine loop_by (fun m E H => ∃ i : Nat, m = ps.length - i ∧ i ≤ ps.length ∧ H = [some (.arr 1 (oss (marksSS k (ps.take i) ++ ps.drop i)))] ∧
    E = [(0, .ls 1 0 0 ps.length), (1, .v (.int .i64 (k + sumL (ps.take i)))), (5, .v (.int .i64 i)), (19, .ls 1 0 0 ps.length)]) ps.length ⟨0, by simp [marksSS, sumL]⟩ ?_
  rintro J hJ m E H ⟨i, rfl, hi, rfl, rfl⟩
  by_cases h : i < ps.length
  case neg =>
    have : i = ps.length := by omega
    subst this
    simp [c_laws_markIntSS_L0]
  have hs := sumL_succ h
  have hle := sumL_le (ps := ps) (i := i + 1)
  have hpl := hp _ (pti_mem h)
  have hX : (marksSS k (ps.take i)).length = i := by simp; omega
  have hget : (oss (marksSS k (ps.take i) ++ ps.drop i))[i]? = some (.os 1 (ints (pti ps i))) := by
    unfold oss
    rw [List.getElem?_map, List.getElem?_append_right (by omega), hX, Nat.sub_self, List.drop_eq_getElem_cons h, pti_get h]
    rfl
  simp [c_laws_markIntSS_L0, h]
  refine awpT_take rfl rfl (by simpa using hget) ?_
  intro u
  simp [takeH]
  refine call_on (s_laws_markIntSW (pti ps i) (k + sumL (ps.take i)) (by omega) (by omega) hpl) ?_
  simp
  refine ⟨15, u, 0, i, _, 1, 1, _, rfl, rfl, rfl, List.getElem?_set_self (by simp; omega), by simp, rfl, by decide, ?_⟩
  simp [backH]
  have e1 : (oss (marksSS k (ps.take i) ++ ps.drop i)).set i (.os 1 (ints (marksI (pti ps i).length (k + sumL (ps.take i))))) = oss (marksSS k (ps.take (i + 1)) ++ ps.drop (i + 1)) := by
    rw [oss_set, set_mid _ _ _ _ hX h, ← marksSS_succ k h]
  rw [e1]
  refine ⟨by omega, _, by omega, hJ _ _ _ ⟨i + 1, rfl, h, rfl, ?_⟩⟩
  have e2 : k + (sumL (ps.take i) : Int) + ((pti ps i).length : Int) = k + ((sumL (ps.take (i + 1)) : Nat) : Int) := by omega
  rw [e2]
  rfl

theorem s_laws_heldIntSS (ps : List (List Int)) (k : Int) (h0 : 0 ≤ k) (h1 : k + sumL ps < 2 ^ 60) (hb : ps.length < 2 ^ 40) (hp : ∀ p ∈ ps, p.length < 2 ^ 40) :
    SoundAt Tryz.prog n_laws_heldIntSS [.sl 1 1 (sls 1 (marksSS k ps)), .v (.int .i64 k)] (.v (.int .i64 (k + sumL ps))) [.bot, .bot] := by
  refine fn_ok (md := md0) (ms := [false, false]) k_laws_heldIntSS (by simp) ?_
  simp [c_laws_heldIntSS]
  refine loop_by (fun m E H => ∃ i : Nat, m = ps.length - i ∧ i ≤ ps.length ∧ H = [] ∧
    E = [(0, .sl 1 1 (sls 1 (marksSS k ps))), (1, .v (.int .i64 (k + sumL (ps.take i)))), (5, .v (.int .i64 i))]) ps.length ⟨0, by simp [sumL]⟩ ?_
  rintro J hJ m E H ⟨i, rfl, hi, rfl, rfl⟩
  by_cases h : i < ps.length
  case neg =>
    have : i = ps.length := by omega
    subst this
    simp [c_laws_heldIntSS_L0]
  have hs := sumL_succ h
  have hle := sumL_le (ps := ps) (i := i + 1)
  have hpl := hp _ (pti_mem h)
  have one := s_laws_heldIntSW (pti ps i).length (k + sumL (ps.take i)) (by omega) (by omega) hpl
  rw [← marksSS_at k h] at one
  have hn : ¬ (k + (sumL (ps.take i) : Int) + ((pti ps i).length : Int) < 0) := by omega
  have e2 : k + (sumL (ps.take i) : Int) + ((pti ps i).length : Int) = k + ((sumL (ps.take (i + 1)) : Nat) : Int) := by omega
  simp [c_laws_heldIntSS_L0, h]
  refine call_on one ?_
  simp [hn]
  refine ⟨by omega, _, by omega, hJ _ _ _ ⟨i + 1, rfl, h, rfl, ?_⟩⟩
  rw [e2]
  rfl

end Go.Proofs.Dev

namespace Go.Proofs.Dev

-- 1 parameters, results [.t 2], 6 slots, modes [false]
@[simp] abbrev n_impl_clone_bool : Nat := 57

def c_impl_clone_bool : ACode := .seq (.reg [.o 2 .mv [.c (.os 1 [])]]) <| .seq (.reg [.m 3 0, .o 4 (.call 117 []) [.t 3], .o 5 (.call 116 []) [.t 4],
 .m 2 5]) <| .ret

theorem k_impl_clone_bool : cFn Tryz.prog n_impl_clone_bool 6 [.t 2] c_impl_clone_bool := ⟨Tryz.f57, _, Tryz.func57, rfl, by kernel_rfl, by kernel_rfl, by kernel_rfl, by kernel_rfl⟩

-- 1 parameters, results [.t 2], 8 slots, modes [false]
@[simp] abbrev n_slices_Clone_bool_bool : Nat := 117

def c_slices_Clone_bool_bool : ACode := .seq (.reg [.o 2 .mv [.c (.os 1 [])]]) <| .seq (.seq (.reg [.m 3 0, .o 4 (.nilq false) [.t 3]]) <|
 .cond (.t 4) ( .seq (.reg [.o 2 .mv [.c (.os 1 [])]]) <| .ret) ( .skip)) <| .seq (.reg [.o 5 (.bsl 1) [], .m 6 0, .o 7 (.app 1 1 true) [.t 5, .t 6], .m 2 7]) <|
 .ret

theorem k_slices_Clone_bool_bool : cFn Tryz.prog n_slices_Clone_bool_bool 8 [.t 2] c_slices_Clone_bool_bool := ⟨Tryz.f117, _, Tryz.func117, rfl, by kernel_rfl, by kernel_rfl, by kernel_rfl, by kernel_rfl⟩

-- 2 parameters, results [.t 4], 23 slots, modes [false, false]
@[simp] abbrev n_laws_heldBoolS : Nat := 141
def c_laws_heldBoolS_L0 : ACode := .seq (.seq (.reg [.m 6 5, .m 7 0, .n 8 7, .o 9 (.bin .lss 0) [.t 6, .t 8]]) <| .cond (.t 9) ( .skip) ( .exit 0)) <|
 .seq (.block 1 ( .seq (.seq (.reg [.m 12 0, .m 13 5, .o 14 (.iadr 1) [.t 12, .t 13], .l 15 14, .m 16 1, .o 17 (.bin .rem 0) [.t 16, .k 3],
 .o 18 (.bin .eql 0) [.t 17, .k 0], .o 19 (.bin .neq 2) [.t 15, .t 18]]) <| .cond (.t 19) ( .seq (.reg [.o 4 .mv [.k (-1)]]) <| .ret) ( .skip)) <| .reg [.m 20 1,
 .o 21 (.bin .add 0) [.t 20, .k 1], .m 1 21])) <| .reg [.m 10 5, .o 11 (.bin .add 0) [.t 10, .k 1], .m 5 11]

def c_laws_heldBoolS : ACode := .seq (.reg [.o 4 .mv [.k 0]]) <| .seq (.seq (.reg [.o 5 .mv [.k 0]]) <| .block 0 ( .loop [(0, 1)] [0, 1,
 5] c_laws_heldBoolS_L0)) <| .seq (.reg [.m 22 1, .m 4 22]) <| .ret

theorem k_laws_heldBoolS : cFn Tryz.prog n_laws_heldBoolS 23 [.t 4] c_laws_heldBoolS := ⟨Tryz.f141, _, Tryz.func141, rfl, by kernel_rfl, by kernel_rfl, by kernel_rfl, by kernel_rfl⟩

-- 2 parameters, results [.t 4], 12 slots, modes [false, false]
@[simp] abbrev n_laws_heldRegion : Nat := 95

def c_laws_heldRegion : ACode := .seq (.reg [.o 2 .box [.t 0], .o 4 .mv [.k 0]]) <| .seq (.reg [.f 5 2 2, .l 6 5, .m 7 1, .o 8 (.call 141 []) [.t 6, .t 7],
 .m 1 8]) <| .seq (.seq (.reg [.m 9 1, .o 10 (.bin .lss 0) [.t 9, .k 0]]) <| .cond (.t 10) ( .seq (.reg [.o 4 .mv [.k (-1)]]) <| .ret) ( .skip)) <|
 .seq (.reg [.m 11 1, .m 4 11]) <| .ret

theorem k_laws_heldRegion : cFn Tryz.prog n_laws_heldRegion 12 [.t 4] c_laws_heldRegion := ⟨Tryz.f95, _, Tryz.func95, rfl, by kernel_rfl, by kernel_rfl, by kernel_rfl, by kernel_rfl⟩

-- 2 parameters, results [.t 4], 30 slots, modes [false, false]
@[simp] abbrev n_laws_heldBook : Nat := 32

def c_laws_heldBook : ACode := .seq (.reg [.o 2 .box [.t 0], .o 4 .mv [.k 0]]) <| .seq (.reg [.f 5 0 2, .la 6 3 5, .m 7 1, .o 8 (.call 95 []) [.t 6, .t 7],
 .m 1 8]) <| .seq (.seq (.reg [.m 9 1, .o 10 (.bin .lss 0) [.t 9, .k 0]]) <| .cond (.t 10) ( .seq (.reg [.o 4 .mv [.k (-1)]]) <| .ret) ( .skip)) <|
 .seq (.reg [.f 11 3 2, .l 12 11, .m 13 1, .o 14 (.call 96 []) [.t 12, .t 13], .m 1 14]) <| .seq (.seq (.reg [.m 15 1, .o 16 (.bin .lss 0) [.t 15, .k 0]]) <|
 .cond (.t 16) ( .seq (.reg [.o 4 .mv [.k (-1)]]) <| .ret) ( .skip)) <| .seq (.reg [.f 17 4 2, .l 18 17, .m 19 1, .o 20 (.call 96 []) [.t 18, .t 19],
 .m 1 20]) <| .seq (.seq (.reg [.m 21 1, .o 22 (.bin .lss 0) [.t 21, .k 0]]) <| .cond (.t 22) ( .seq (.reg [.o 4 .mv [.k (-1)]]) <| .ret) ( .skip)) <|
 .seq (.reg [.f 23 5 2, .l 24 23, .m 25 1, .o 26 (.call 97 []) [.t 24, .t 25], .m 1 26]) <| .seq (.seq (.reg [.m 27 1, .o 28 (.bin .lss 0) [.t 27, .k 0]]) <|
 .cond (.t 28) ( .seq (.reg [.o 4 .mv [.k (-1)]]) <| .ret) ( .skip)) <| .seq (.reg [.m 29 1, .m 4 29]) <| .ret

theorem k_laws_heldBook : cFn Tryz.prog n_laws_heldBook 30 [.t 4] c_laws_heldBook := ⟨Tryz.f32, _, Tryz.func32, rfl, by kernel_rfl, by kernel_rfl, by kernel_rfl, by kernel_rfl⟩

-- 2 parameters, results [.t 4], 22 slots, modes [true, false]
@[simp] abbrev n_laws_markBook : Nat := 31

def c_laws_markBook : ACode := .seq (.reg [.o 2 .box [.t 0], .o 4 .mv [.k 0]]) <| .seq (.reg [.f 5 0 2, .la 6 3 5, .m 7 1, .o 8 (.call 92 []) [.t 6, .t 7],
 .m 1 8]) <| .seq (.reg [.f 9 3 2, .l 10 9, .m 11 1, .o 12 (.call 93 []) [.t 10, .t 11], .m 1 12]) <| .seq (.reg [.f 13 4 2, .l 14 13, .m 15 1,
 .o 16 (.call 93 []) [.t 14, .t 15], .m 1 16]) <| .seq (.reg [.f 17 5 2, .l 18 17, .m 19 1, .o 20 (.call 94 []) [.t 18, .t 19], .m 1 20]) <| .seq (.reg [.m 21 1,
 .m 4 21]) <| .ret

theorem k_laws_markBook : cFn Tryz.prog n_laws_markBook 22 [.t 4] c_laws_markBook := ⟨Tryz.f31, _, Tryz.func31, rfl, by kernel_rfl, by kernel_rfl, by kernel_rfl, by kernel_rfl⟩

-- 1 parameters, results [.t 2], 9 slots, modes [true]
@[simp] abbrev n_slices_Clip_bool_bool : Nat := 116

def c_slices_Clip_bool_bool : ACode := .seq (.reg [.o 2 .mv [.c (.os 1 [])]]) <| .seq (.reg [.m 3 0, .m 4 0, .n 5 4, .m 6 0, .n 7 6,
 .o 8 (.slice 1 false false true true) [.t 3, .t 5, .t 7], .m 2 8]) <| .ret

theorem k_slices_Clip_bool_bool : cFn Tryz.prog n_slices_Clip_bool_bool 9 [.t 2] c_slices_Clip_bool_bool := ⟨Tryz.f116, _, Tryz.func116, rfl, by kernel_rfl, by kernel_rfl, by kernel_rfl, by kernel_rfl⟩

end Go.Proofs.Dev
