/- Contracts of the functions of the program over slots and rows, each proved against the program itself; no condition beyond those that each theorem names. -/
import Derived.Test.YtlcoaglnegibkaaBI
import Derived.Test.YtlcoaglnegibkaaBQ

set_option linter.unusedSimpArgs false
set_option linter.unusedVariables false

namespace Go.Proofs.Dev
set_option linter.unusedSimpArgs false
set_option maxRecDepth 100000

def compSet (W T : Int) (cs : List Bool) (k : Nat) (r : AV) (ups : List AV) : Prop :=
  ∃ (o : List Int) (b : Bool), r = .tup [.os 1 (ints o), .v (.bool b)] ∧ (b = true → regB W T cs = true ∧ laysB W T cs o = true) ∧ o.length ≤ cs.length ∧ ups = List.replicate k .bot

theorem s_spec_l2Complete (W T : Int) (cs : List Bool) (hr : regB W T cs = true) : ∀ (n : Nat) (ls : List Int), n ≤ 36 → zeros ls ≤ n → laysB W T cs ls = true →
    SoundSet Try.prog n_spec_l2Complete [.agg [.v (.int .i64 W), .v (.int .i64 T), .sl 1 1 (bools cs)], .os 1 (ints ls)] (compSet W T cs 2) := by
  intro n
  have h36 := regB_len hr
  induction n with
  | zero =>
    intro ls hn hz hy
    have hl := lays_len hy
    refine fn_okS (md := md5) (ms := [false, false]) k_spec_l2Complete (by simp) ?_
    simp [c_spec_l2Complete]
    refine call_on (s_spec_l2First W T cs ls hl (by omega)) ?_
    rcases bare_cases cs ls with h | ⟨k, hk, he, hc, hzk⟩
    · simp [h]
      exact ⟨_, _, ⟨ls, true, rfl, fun _ => ⟨hr, hy⟩, by omega, rfl⟩, by simp⟩
    · have := zeros_pos hk hzk
      omega
  | succ n ih =>
    intro ls hn hz hy
    have hl := lays_len hy
    refine fn_okS (md := md5) (ms := [false, false]) k_spec_l2Complete (by simp) ?_
    simp [c_spec_l2Complete]
    refine call_on (s_spec_l2First W T cs ls hl (by omega)) ?_
    rcases bare_cases cs ls with h | ⟨k, hk, he, hc, hzk⟩
    · simp [h]
      exact ⟨_, _, ⟨ls, true, rfl, fun _ => ⟨hr, hy⟩, by omega, rfl⟩, by simp⟩
    have hk0 : ¬ (k : Int) < 0 := by omega
    simp [he, hk0]
    refine loop_by (fun m E H => ∃ i : Nat, m = 2 - i ∧ i ≤ 2 ∧ H = [some (.arr 1 (ints ls)), some (.box [.v (.int .i64 W), .v (.int .i64 T), .sl 1 1 (bools cs)])] ∧
      E = [(1, .ls 1 0 0 ls.length), (2, .lp 0 1 0 0), (6, .v (.int .i64 k)), (7, .v (.int .i64 (i + 1))), (41, .ls 1 0 0 ls.length)]) 2 ⟨0, by simp⟩ ?_
    rintro J hJ m E H ⟨i, rfl, hi, rfl, rfl⟩
    by_cases h : i < 2
    case neg =>
      have : i = 2 := by omega
      subst this
      simp [c_spec_l2Complete_L0]
      exact ⟨_, _, ⟨[], false, rfl, by simp, by simp, rfl⟩, by simp⟩
    have h' : (i : Int) + 1 ≤ 2 := by omega
    have next : again J (2 - i) [(1, .ls 1 0 0 ls.length), (2, .lp 0 1 0 0), (6, .v (.int .i64 k)), (7, .v (.int .i64 (i + 1 + 1))), (41, .ls 1 0 0 ls.length)]
        [some (.arr 1 (ints ls)), some (.box [.v (.int .i64 W), .v (.int .i64 T), .sl 1 1 (bools cs)])] := by
      exact ⟨_, by omega, hJ _ _ _ ⟨i + 1, rfl, h, rfl, rfl⟩⟩
    have one := s_spec_LayOne W T cs ls k (i + 1) hr hy
    simp [c_spec_l2Complete_L0, h']
    refine call_on one ?_
    cases hf : freeB W T cs ls k (i + 1) with
    | false =>
      simp
      exact ⟨by omega, next⟩
    | true =>
      have el : layOneL W T cs ls k (i + 1) = layI W T ls k (i + 1) := by simp [layOneL, hf]
      rw [el]
      have hy2 := lay_ok hr hy hf
      have hz2 : zeros (layI W T ls k (i + 1)) < zeros ls := lay_zeros hk hzk (by omega) (by omega)
      have two := ih (layI W T ls k (i + 1)) (by omega) (by omega) hy2
      have hll := layI_length W T ls k (i + 1)
      have htk : (ints (layI W T ls k (i + 1))).take ls.length = ints (layI W T ls k (i + 1)) := List.take_of_length_le (by simp [hll])
      simp [hll, htk]
      refine call_onK two [2] (by simp [hll]) (by simp) (by simp [hll]) ?_
      rintro _ _ ⟨o, b, rfl, hb, hol, rfl⟩
      cases b with
      | true =>
        simp
        exact ⟨_, _, ⟨o, true, rfl, hb, hol, rfl⟩, by simp⟩
      | false =>
        simp
        exact ⟨by omega, next⟩

theorem s_spec_Complete (W T : Int) (cs : List Bool) (ls : List Int) (hb : cs.length < 2 ^ 40) (hl : ls.length < 2 ^ 40) :
    SoundSet Try.prog n_spec_Complete [.agg [.v (.int .i64 W), .v (.int .i64 T), .sl 1 1 (bools cs)], .sl 1 1 (ints ls)] (compSet W T cs 2) := by
  refine fn_okS (md := md5) (ms := [false, false]) k_spec_Complete (by simp) ?_
  simp [c_spec_Complete]
  have one := s_spec_LaidOk W T cs ls hb hl
  cases hv : (regB W T cs && laysB W T cs ls) with
  | false =>
    rw [hv] at one
    refine call_on one ?_
    simp
    exact ⟨_, _, ⟨[], false, rfl, by simp, by simp, rfl⟩, by simp⟩
  | true =>
    rw [hv] at one
    simp at hv
    have h36 := regB_len hv.1
    have hll := lays_len hv.2
    have hz : zeros ls ≤ 36 := by have := zeros_le ls; omega
    refine call_on one ?_
    simp
    (repeat' first | omega | apply And.intro) <;>
    · refine call_onK (s_spec_l2Complete W T cs hv.1 36 ls (by omega) hz hv.2) [2] (by simp) (by simp) (by simp) ?_
      rintro _ _ ⟨o, b, rfl, hb, hol, rfl⟩
      simp
      exact ⟨_, _, ⟨o, b, rfl, hb, hol, rfl⟩, by simp⟩

theorem s_spec_TilingFirst (W T : Int) (cs : List Bool) (hb : cs.length < 2 ^ 40) :
    SoundSet Try.prog n_spec_TilingFirst [.agg [.v (.int .i64 W), .v (.int .i64 T), .sl 1 1 (bools cs)]] (compSet W T cs 1) := by
  refine fn_okS (md := md5) (ms := [false]) k_spec_TilingFirst (by simp) ?_
  simp [c_spec_TilingFirst]
  have hl : (if regB W T cs = true then noneL cs else []).length < 2 ^ 40 := by split <;> simp [noneL]; omega
  have two := s_spec_LaidBare W T cs hb
  generalize (if regB W T cs = true then noneL cs else []) = ls at *
  (repeat' first | omega | apply And.intro) <;>
  · refine call_on two ?_
    simp
    (repeat' first | omega | apply And.intro) <;>
    · refine call_onK (s_spec_Complete W T cs ls hb hl) [] (by simp) (by simp) (by simp) ?_
      rintro _ _ ⟨o, b, rfl, hb, hol, rfl⟩
      simp
      exact ⟨_, _, ⟨o, b, rfl, hb, hol, rfl⟩, by simp⟩
end Go.Proofs.Dev

namespace Go.Proofs.Dev
set_option linter.unusedSimpArgs false
set_option maxRecDepth 100000

/-- A region and a list, and the place that is reached. -/
def laidSet (bs : List Int) (p d : Nat) (r : AV) (ups : List AV) : Prop := ∃ (W T : Int) (cs : List Bool) (ls : List Int) (q : Nat), r = .tup [regA W T cs, .os 1 (ints ls)] ∧ cs.length ≤ 37 ∧ ls.length ≤ 37 ∧ q ≤ p + d ∧ ups = [rdA bs q, .bot]

def c_laidZ : ACode :=
  .seq (.seq (.reg [⟨(some 90), .mv, [.t 0], none⟩,
    ⟨(some 91), .mv, [.t 1], none⟩,
    ⟨(some 92), .bin .mul 0, [.c (.v (.int .i64 (2))), .t 91], none⟩,
    ⟨(some 93), .call 96 [], [.t 90, .t 92], none⟩,
    ⟨(some 94), .mv, [.t 93], none⟩,
    ⟨(some 95), .mv, [.t 7], (some (94, true))⟩,
    ⟨(some 96), .len false, [.t 95], (some (94, true))⟩,
    ⟨(some 97), .bin .gtr 0, [.t 96, .c (.v (.int .i64 (0)))], (some (94, true))⟩,
    ⟨(some 98), .pick, [.t 94, .t 97, .c (.v (.bool false))], none⟩]) <|
  .cond (.t 98) (
    .reg [⟨(some 99), .mv, [.t 7], none⟩,
      ⟨(some 100), .mv, [.t 0], none⟩,
      ⟨(some 101), .mv, [.t 7], none⟩,
      ⟨(some 102), .len false, [.t 101], none⟩,
      ⟨(some 103), .call 82 [], [.t 100, .t 102], none⟩,
      ⟨(some 104), .mv, [.t 0], none⟩,
      ⟨(some 105), .call 82 [], [.t 104, .c (.v (.int .i64 (6)))], none⟩,
      ⟨(some 106), .iadr 1, [.t 99, .t 103], none⟩,
      ⟨none, .store 1, [.t 106, .t 105], none⟩]) (
    .skip)) <|
  .seq (.reg [⟨(some 107), .load true 3, [.t 6], none⟩,
    ⟨(some 108), .mv, [.t 7], none⟩,
    ⟨none, .store 3, [.t 4, .t 107], none⟩,
    ⟨(some 5), .mv, [.t 108], none⟩]) <|
  .ret

def c_laidY : ACode :=
  .seq (.seq (.reg [⟨(some 14), .mv, [.c (.v (.int .i64 (0)))], none⟩]) <|
  .block 2 (
    .loop [(7, 1)] [0, 1, 4, 6, 7, 14, 109] c_spec_l20Laid_L1)) <|
  c_laidZ

def c_laidX : ACode :=
    .seq (.reg [⟨(some 61), .mv, [.t 0], none⟩,
      ⟨(some 62), .call 82 [], [.t 61, .c (.v (.int .i64 (2)))], none⟩,
      ⟨(some 63), .bin .eql 0, [.t 62, .c (.v (.int .i64 (0)))], none⟩]) <|
    .cond (.t 63) (
      .seq (.reg [⟨(some 65), .load true 3, [.t 6], none⟩,
        ⟨(some 66), .mv, [.t 7], none⟩,
        ⟨(some 67), .call 151 [], [.t 65, .t 66], none⟩,
        ⟨(some 64), .mv, [.t 67], none⟩,
        ⟨(some 68), .extr 0, [.t 64], none⟩,
        ⟨(some 69), .extr 1, [.t 64], none⟩,
        ⟨(some 12), .mv, [.t 68], none⟩,
        ⟨(some 13), .mv, [.t 69], none⟩]) <|
      .seq (.reg [⟨(some 70), .mv, [.t 13], none⟩]) <|
      .cond (.t 70) (
        .reg [⟨(some 71), .mv, [.t 12], none⟩,
          ⟨(some 7), .mv, [.t 71], none⟩]) (
        .skip)) (
      .skip)

abbrev laidH (bs : List Int) (q : Nat) (W T : Int) (cs : List Bool) (ls : List Int) : Heap :=
  [some (.box [.sl 0 1 (u8s bs), .v (.int .i64 q)]), some (.box [.v (.int .i64 0), .v (.int .i64 0), .os 1 []]), some (.box [.v (.int .i64 W), .v (.int .i64 T), .ls 1 4 0 cs.length]), some (.arr 1 (ints ls)), some (.arr 1 (bools cs))]
abbrev laidE (n : Int) (j : Nat) (ls : List Int) (k : Int) : ES := [(0, .lp 0 0 0 0), (1, .v (.int .i64 n)), (4, .lp 0 1 0 0), (6, .lp 0 2 0 0), (7, .ls 1 3 0 ls.length), (j, .v (.int .i64 k)), (109, .lp 0 0 0 0)]
def okL2 (W T : Int) (cs : List Bool) (ls : List Int) : Prop := ls = [] ∨ (regB W T cs = true ∧ laysB W T cs ls = true)

theorem laid_Z (bs : List Int) (p q : Nat) (n W T : Int) (cs : List Bool) (ls : List Int) (hb : bs.length ≤ 2000) (hB : Byt bs) (hp : p < 2 ^ 35) (hn0 : 0 ≤ n) (hn : n < 2 ^ 20) (hcs : cs.length ≤ 37) (hls : ls.length ≤ 37) (hq : q ≤ p + 700) (E : ES)
    (e0 : get E 0 = .lp 0 0 0 0) (e1 : get E 1 = .v (.int .i64 n)) (e4 : get E 4 = .lp 0 1 0 0) (e6 : get E 6 = .lp 0 2 0 0) (e7 : get E 7 = .ls 1 3 0 ls.length) (e109 : get E 109 = .lp 0 0 0 0) :
    awp Try.prog md5 c_laidZ (FinS [RV.c 4 true 3, RV.t 5] 109 2 [true, false] (laidSet bs p 800)) E (laidH bs q W T cs ls) := by
  simp [c_laidZ, e0, e1, e4, e6, e7, e109]
  refine ⟨by omega, ?_⟩
  refine call_onK (s_spec_l20Rd_odd bs q (2 * n) hb hB (by omega) (by omega)) [0] (by simp) (by simp) (by simp) ?_
  rintro _ _ ⟨b, q2, rfl, hq2, rfl⟩
  cases b with
  | false =>
    simp [get_purgeE, e0, e1, e4, e6, e7, e109]
    exact ⟨_, _, ⟨W, T, cs, ls, q2, rfl, hcs, hls, by omega, rfl⟩, by simp [regA, get_purgeE, e0, e1, e4, e6, e7, e109]⟩
  | true =>
    by_cases hz : ls.length = 0
    · have hz3 : ls = [] := List.eq_nil_of_length_eq_zero hz
      subst hz3
      simp [get_purgeE, e0, e1, e4, e6, e7, e109]
      exact ⟨_, _, ⟨W, T, cs, [], q2, rfl, hcs, by simp, by omega, rfl⟩, by simp [regA, get_purgeE, e0, e1, e4, e6, e7, e109]⟩
    · have hz2 : 0 < ls.length := by omega
      simp [get_purgeE, e0, e1, e4, e6, e7, e109, hz2]
      refine call_onK (s_spec_l20Rd_pick bs q2 ls.length hb hB (by omega)) [0] (by simp) (by simp) (by simp) ?_
      rintro _ _ ⟨x, x0, x1, rfl, rfl⟩
      simp [get_purgeE, e0, e1, e4, e6, e7, e109, hz2]
      refine call_onK (s_spec_l20Rd_pick bs (q2 + 1) 6 hb hB (by omega)) [0] (by simp) (by simp) (by simp) ?_
      rintro _ _ ⟨y, y0, y1, rfl, rfl⟩
      have x3 : x < ls.length := by omega
      simp [get_purgeE, e0, e1, e4, e6, e7, e109, hz2, x0, x3, ints_set]
      have htk : (ints (ls.set x.toNat y)).take ls.length = ints (ls.set x.toNat y) := List.take_of_length_le (by simp)
      exact ⟨_, _, ⟨W, T, cs, ls.set x.toNat y, q2 + 1 + 1, rfl, hcs, by simpa using hls, by omega, rfl⟩, by simp [regA, get_purgeE, e0, e1, e4, e6, e7, e109, htk]⟩

theorem laid_L1 (bs : List Int) (p q : Nat) (n W T : Int) (cs : List Bool) (ls : List Int) (hb : bs.length ≤ 2000) (hB : Byt bs) (hp : p < 2 ^ 35) (hcs : cs.length ≤ 37) (hls : ls.length ≤ 37) (hv : okL2 W T cs ls) (hq : q ≤ p + 650) (Qc : AExit → ES → Heap → Prop)
    (hend : ∀ (q2 : Nat) (ls2 : List Int), q2 ≤ q + 37 → ls2.length ≤ 37 → Qc (.exit 2) ([(75, .v (.bool false)), (74, .v (.int .i64 ls2.length)), (73, .ls 1 3 0 ls2.length), (72, .v (.int .i64 ls2.length))] ++ laidE n 14 ls2 ls2.length) (laidH bs q2 W T cs ls2)) :
    loopNode [(7, 1)] [0, 1, 4, 6, 7, 14, 109] (awp Try.prog md5 c_spec_l20Laid_L1) Qc (laidE n 14 ls 0) (laidH bs q W T cs ls) := by
  refine loop_by (fun m E H => ∃ (i q2 : Nat) (l2 : List Int), m = l2.length - i ∧ l2.length = ls.length ∧ i ≤ l2.length ∧ okL2 W T cs l2 ∧ q2 ≤ q + i ∧ E = laidE n 14 l2 i ∧ H = laidH bs q2 W T cs l2) ls.length ⟨0, q, ls, by simp, rfl, by omega, hv, by omega, rfl, rfl⟩ ?_
  rintro J hJ m E H ⟨i, q2, l2, rfl, hl2, hi, hv2, hq2, rfl, rfl⟩
  by_cases h : i < l2.length
  case neg =>
    have : i = l2.length := by omega
    subst this
    simp [c_spec_l20Laid_L1]
    exact hend q2 l2 (by omega) (by omega)
  have hrl : regB W T cs = true ∧ laysB W T cs l2 = true := by
    rcases hv2 with h1 | h1
    · subst h1; simp at h
    · exact h1
  have next : ∀ (q3 : Nat) (l3 : List Int), q3 ≤ q2 + 1 → l3.length = l2.length → okL2 W T cs l3 → again J (l2.length - i) [(0, .lp 0 0 0 0), (1, .v (.int .i64 n)), (4, .lp 0 1 0 0), (6, .lp 0 2 0 0), (7, .ls 1 3 0 l2.length), (14, .v (.int .i64 (i + 1))), (109, .lp 0 0 0 0)] (laidH bs q3 W T cs l3) := by
    intro q3 l3 h3 h4 h5
    exact ⟨_, by omega, hJ _ _ _ ⟨i + 1, q3, l3, rfl, by omega, by omega, h5, by omega, by simp [laidE, h4], rfl⟩⟩
  simp [c_spec_l20Laid_L1, h]
  refine call_onK (s_spec_l20Rd_pick bs q2 12 hb hB (by omega)) [0] (by simp) (by simp) (by simp) ?_
  rintro _ _ ⟨x, x0, x1, rfl, rfl⟩
  by_cases hx : x = 0
  · simp [hx]
    have one := s_spec_LiftOne W T cs l2 i hrl.1 hrl.2 h
    by_cases hz : ati l2 i = 0
    · rw [if_pos hz] at one
      refine call_on one ?_
      simp
      exact ⟨by omega, next (q2 + 1) l2 (by omega) rfl hv2⟩
    · rw [if_neg hz] at one
      have hll := liftI_length W T l2 i
      have htk : (ints (liftI W T l2 i)).take l2.length = ints (liftI W T l2 i) := List.take_of_length_le (by simp [hll])
      refine call_on one ?_
      simp [hll, htk]
      exact ⟨by omega, next (q2 + 1) (liftI W T l2 i) (by omega) hll (.inr ⟨hrl.1, lift_ok hrl.1 hrl.2 h hz⟩)⟩
  · simp [hx]
    exact ⟨by omega, next (q2 + 1) l2 (by omega) rfl hv2⟩

theorem laid_L0 (bs : List Int) (p q : Nat) (n W T : Int) (cs : List Bool) (ls : List Int) (k : Nat) (hb : bs.length ≤ 2000) (hB : Byt bs) (hp : p < 2 ^ 35) (hk : k ≤ 16) (hcs : cs.length ≤ 37) (hls : ls.length ≤ 37) (hv : okL2 W T cs ls) (hq : q ≤ p + 600) (Qc : AExit → ES → Heap → Prop)
    (hend : ∀ (q2 : Nat) (ls2 : List Int) (E : ES), q2 ≤ q + 2 * k → ls2.length = ls.length → okL2 W T cs ls2 → get E 0 = .lp 0 0 0 0 → get E 1 = .v (.int .i64 n) → get E 4 = .lp 0 1 0 0 → get E 6 = .lp 0 2 0 0 → get E 7 = .ls 1 3 0 ls2.length → get E 109 = .lp 0 0 0 0 → Qc (.exit 0) E (laidH bs q2 W T cs ls2)) :
    loopNode [(7, 1)] [0, 1, 4, 6, 7, 9, 109] (awp Try.prog md5 c_spec_l20Laid_L0) Qc (laidE n 9 ls k) (laidH bs q W T cs ls) := by
  refine loop_by (fun m E H => ∃ (i q2 : Nat) (l2 : List Int), m = i ∧ l2.length = ls.length ∧ i ≤ k ∧ okL2 W T cs l2 ∧ q2 ≤ q + 2 * (k - i) ∧ E = laidE n 9 l2 i ∧ H = laidH bs q2 W T cs l2) k ⟨k, q, ls, rfl, rfl, by omega, hv, by omega, rfl, rfl⟩ ?_
  rintro J hJ m E H ⟨i, q2, l2, rfl, hl2, hi, hv2, hq2, rfl, rfl⟩
  by_cases h : 0 < m
  case neg =>
    have : m = 0 := by omega
    subst this
    simp [c_spec_l20Laid_L0]
    exact hend q2 l2 _ (by omega) hl2 hv2 rfl rfl rfl rfl rfl rfl
  by_cases hz : l2.length = 0
  · have hz3 : l2 = [] := List.eq_nil_of_length_eq_zero hz
    subst hz3
    simp [c_spec_l20Laid_L0, h]
    exact hend q2 [] _ (by omega) hl2 hv2 rfl rfl rfl rfl rfl rfl
  have hrl : regB W T cs = true ∧ laysB W T cs l2 = true := by
    rcases hv2 with h1 | h1
    · subst h1; simp at hz
    · exact h1
  have hz2 : 0 < l2.length := by omega
  have next : ∀ (q3 : Nat) (l3 : List Int), q3 ≤ q2 + 2 → l3.length = l2.length → okL2 W T cs l3 → again J m [(0, .lp 0 0 0 0), (1, .v (.int .i64 n)), (4, .lp 0 1 0 0), (6, .lp 0 2 0 0), (7, .ls 1 3 0 l2.length), (9, .v (.int .i64 ((m : Int) - 1))), (109, .lp 0 0 0 0)] (laidH bs q3 W T cs l3) := by
    intro q3 l3 h3 h4 h5
    have e : (m : Int) - 1 = ((m - 1 : Nat) : Int) := by omega
    exact ⟨m - 1, by omega, hJ _ _ _ ⟨m - 1, q3, l3, rfl, by omega, by omega, h5, by omega, by simp [laidE, h4, e], rfl⟩⟩
  simp [c_spec_l20Laid_L0, h, hz2]
  (repeat' first | omega | apply And.intro) <;>
  · refine call_onK (s_spec_l20Rd_pick bs q2 l2.length hb hB (by omega)) [0] (by simp) (by simp) (by simp) ?_
    rintro _ _ ⟨x, x0, x1, rfl, rfl⟩
    simp
    (repeat' first | omega | apply And.intro) <;>
    · refine call_onK (s_spec_l20Rd_pick bs (q2 + 1) 4 hb hB (by omega)) [0] (by simp) (by simp) (by simp) ?_
      rintro _ _ ⟨y, y0, y1, rfl, rfl⟩
      have one := s_spec_LayOne W T cs l2 x (1 + y) hrl.1 hrl.2
      have hll := layOne_length W T cs l2 x (1 + y)
      have hy3 := tried_lays (cell := x) (way := 1 + y) hrl.1 hrl.2
      have htk : (ints (layOneL W T cs l2 x (1 + y))).take l2.length = ints (layOneL W T cs l2 x (1 + y)) := List.take_of_length_le (by simp [hll])
      simp
      (repeat' first | omega | apply And.intro) <;>
      · refine call_on one ?_
        cases hf : freeB W T cs l2 x (1 + y) with
        | false =>
          simp
          exact ⟨by omega, next (q2 + 1 + 1) l2 (by omega) rfl hv2⟩
        | true =>
          simp [hll, htk]
          exact ⟨by omega, next (q2 + 1 + 1) (layOneL W T cs l2 x (1 + y)) (by omega) hll (.inr ⟨hrl.1, hy3⟩)⟩
end Go.Proofs.Dev

namespace Go.Proofs.Dev
set_option linter.unusedSimpArgs false
set_option maxRecDepth 100000

def c_laidP : ACode :=
  .seq (.reg [⟨(some 4), .alloc [.v (.int .i64 (0)), .v (.int .i64 (0)), .os 1 []], [], none⟩,
    ⟨(some 5), .mv, [.c (.os 1 [])], none⟩]) <|
  .seq (.reg [⟨(some 17), .mv, [.t 0], none⟩,
    ⟨(some 18), .mv, [.t 1], none⟩,
    ⟨(some 19), .bin .mul 0, [.c (.v (.int .i64 (2))), .t 18], none⟩,
    ⟨(some 20), .call 128 [], [.t 17, .t 19], none⟩,
    ⟨(some 6), .alloc [.v (.int .i64 (0)), .v (.int .i64 (0)), .os 1 []], [], none⟩,
    ⟨none, .store 3, [.t 6, .t 20], none⟩]) <|
  .seq (.reg [⟨(some 22), .load true 3, [.t 6], none⟩,
    ⟨(some 23), .call 150 [], [.t 22], none⟩,
    ⟨(some 21), .mv, [.t 23], none⟩,
    ⟨(some 24), .extr 0, [.t 21], none⟩,
    ⟨(some 25), .extr 1, [.t 21], none⟩,
    ⟨(some 7), .mv, [.t 24], none⟩,
    ⟨(some 8), .mv, [.t 25], none⟩]) <|
  .seq (.seq (.reg [⟨(some 26), .mv, [.t 8], none⟩,
    ⟨(some 27), .un .not, [.t 26], none⟩,
    ⟨(some 28), .mv, [.t 27], none⟩,
    ⟨(some 29), .mv, [.t 0], (some (28, false))⟩,
    ⟨(some 30), .call 82 [], [.t 29, .c (.v (.int .i64 (3)))], (some (28, false))⟩,
    ⟨(some 31), .bin .eql 0, [.t 30, .c (.v (.int .i64 (0)))], (some (28, false))⟩,
    ⟨(some 32), .pick, [.t 28, .c (.v (.bool true)), .t 31], none⟩]) <|
  .cond (.t 32) (
    .seq (.reg [⟨(some 33), .load true 3, [.t 6], none⟩,
      ⟨(some 34), .call 110 [], [.t 33], none⟩,
      ⟨(some 7), .mv, [.t 34], none⟩]) <|
    .seq (.seq (.reg [⟨(some 35), .mv, [.t 0], none⟩,
      ⟨(some 36), .call 82 [], [.t 35, .c (.v (.int .i64 (16)))], none⟩,
      ⟨(some 9), .mv, [.t 36], none⟩]) <|
    .block 0 (
      .loop [(7, 1)] [0, 1, 4, 6, 7, 9, 109] c_spec_l20Laid_L0)) <|
    c_laidX) (
    .skip)) <|
  c_laidY
theorem laid_parts : c_spec_l20Laid = c_laidP := rfl

abbrev laidF (bs : List Int) (p : Nat) := FinS [RV.c 4 true 3, RV.t 5] 109 2 [true, false] (laidSet bs p 800)

theorem laid_Y (bs : List Int) (p q : Nat) (n W T : Int) (cs : List Bool) (ls : List Int) (hb : bs.length ≤ 2000) (hB : Byt bs) (hp : p < 2 ^ 35) (hn0 : 0 ≤ n) (hn : n < 2 ^ 20) (hcs : cs.length ≤ 37) (hls : ls.length ≤ 37) (hv : okL2 W T cs ls) (hq : q ≤ p + 650) :
    loopNode [(7, 1)] [0, 1, 4, 6, 7, 14, 109] (awp Try.prog md5 c_spec_l20Laid_L1) (ablock 2 (athen (awp Try.prog md5 c_laidZ (laidF bs p)) (laidF bs p))) (laidE n 14 ls 0) (laidH bs q W T cs ls) := by
  refine laid_L1 bs p q n W T cs ls hb hB hp hcs hls hv hq _ ?_
  intro q2 ls2 h2 hl2
  simp
  exact laid_Z bs p q2 n W T cs ls2 hb hB hp hn0 hn hcs hl2 (by omega) _ rfl rfl rfl rfl rfl rfl

theorem okL2_len {W T : Int} {cs : List Bool} {ls : List Int} (h : okL2 W T cs ls) : ls.length ≤ cs.length := by
  rcases h with h | h
  · subst h; simp
  · rw [lays_len h.2]; exact Nat.le_refl _

theorem laid_X (bs : List Int) (p q : Nat) (n W T : Int) (cs : List Bool) (ls : List Int) (hb : bs.length ≤ 2000) (hB : Byt bs) (hp : p < 2 ^ 35) (hn0 : 0 ≤ n) (hn : n < 2 ^ 20) (hcs : cs.length ≤ 37) (hls : ls.length ≤ 37) (hv : okL2 W T cs ls) (hq : q ≤ p + 640) (E : ES)
    (e0 : get E 0 = .lp 0 0 0 0) (e1 : get E 1 = .v (.int .i64 n)) (e4 : get E 4 = .lp 0 1 0 0) (e6 : get E 6 = .lp 0 2 0 0) (e7 : get E 7 = .ls 1 3 0 ls.length) (e109 : get E 109 = .lp 0 0 0 0) :
    awp Try.prog md5 c_laidX (athen (awp Try.prog md5 c_laidY (laidF bs p)) (laidF bs p)) E (laidH bs q W T cs ls) := by
  simp [c_laidX, e0, e1, e4, e6, e7, e109]
  refine call_onK (s_spec_l20Rd_pick bs q 2 hb hB (by omega)) [0] (by simp) (by simp) (by simp) ?_
  rintro _ _ ⟨x, x0, x1, rfl, rfl⟩
  by_cases hx : x = 0
  · simp [hx, get_purgeE, e0, e1, e4, e6, e7, e109]
    refine call_onK (s_spec_Complete W T cs ls (by omega) (by omega)) [] (by simp) (by simp) (by simp) ?_
    rintro _ _ ⟨o, b, rfl, hbo, hol, rfl⟩
    cases b with
    | true =>
      simp [get_purgeE, e0, e1, e4, e6, e7, e109, c_laidY]
      exact laid_Y bs p (q + 1) n W T cs o hb hB hp hn0 hn hcs (by omega) (.inr (hbo rfl)) (by omega)
    | false =>
      simp [get_purgeE, e0, e1, e4, e6, e7, e109, c_laidY]
      exact laid_Y bs p (q + 1) n W T cs ls hb hB hp hn0 hn hcs hls hv (by omega)
  · simp [hx, get_purgeE, e0, e1, e4, e6, e7, e109, c_laidY]
    exact laid_Y bs p (q + 1) n W T cs ls hb hB hp hn0 hn hcs hls hv (by omega)

theorem laid_A (bs : List Int) (p q : Nat) (n W T : Int) (cs : List Bool) (ls : List Int) (x : Nat) (hb : bs.length ≤ 2000) (hB : Byt bs) (hp : p < 2 ^ 35) (hn0 : 0 ≤ n) (hn : n < 2 ^ 20) (hcs : cs.length ≤ 37) (hls : ls.length ≤ 37) (hv : okL2 W T cs ls) (hx : x ≤ 16) (hq : q ≤ p + 600) :
    loopNode [(7, 1)] [0, 1, 4, 6, 7, 9, 109] (awp Try.prog md5 c_spec_l20Laid_L0)
      (ablock 0 (athen (awp Try.prog md5 c_laidX (athen (awp Try.prog md5 c_laidY (laidF bs p)) (laidF bs p))) (athen (awp Try.prog md5 c_laidY (laidF bs p)) (laidF bs p)))) (laidE n 9 ls x) (laidH bs q W T cs ls) := by
  refine laid_L0 bs p q n W T cs ls x hb hB hp hx hcs hls hv hq _ ?_
  intro q2 ls2 E h2 hl2 hv2 e0 e1 e4 e6 e7 e109
  simp
  exact laid_X bs p q2 n W T cs ls2 hb hB hp hn0 hn hcs (by omega) hv2 (by omega) E e0 e1 e4 e6 e7 e109

theorem s_spec_l20Laid (bs : List Int) (p : Nat) (n : Int) (hb : bs.length ≤ 2000) (hB : Byt bs) (hp : p < 2 ^ 35) (hn0 : 0 ≤ n) (hn : n < 2 ^ 20) :
    SoundSet Try.prog n_spec_l20Laid [rdA bs p, .v (.int .i64 n)] (laidSet bs p 800) := by
  refine fn_okS (md := md5) (ms := [true, false]) k_spec_l20Laid (by simp) ?_
  rw [laid_parts]
  simp [c_laidP]
  refine ⟨by omega, ?_⟩
  refine call_onK (s_spec_l20Some bs p (2 * n) hb hB (by omega) (by omega)) [0] (by simp) (by simp) (by simp) ?_
  rintro _ _ ⟨W, T, cs, q, rfl, hcs, w0, w6, t0, t24, hq, rfl⟩
  simp [regA]
  refine call_onK (s_spec_TilingFirst W T cs (by omega)) [] (by simp) (by simp) (by simp) ?_
  rintro _ _ ⟨o, b, rfl, hbo, hol, rfl⟩
  have bare := s_spec_LaidBare W T cs (by omega)
  have hvb : okL2 W T cs (if regB W T cs = true then noneL cs else []) := by
    split
    · rename_i hr; exact .inr ⟨hr, lays_none W T cs⟩
    · exact .inl rfl
  generalize (if regB W T cs = true then noneL cs else []) = ls at *
  have hll := okL2_len hvb
  cases b with
  | false =>
    simp
    refine call_on bare ?_
    simp
    refine call_onK (s_spec_l20Rd_pick bs q 16 hb hB (by omega)) [0] (by simp) (by simp) (by simp) ?_
    rintro _ _ ⟨x, x0, x1, rfl, rfl⟩
    obtain ⟨k, rfl⟩ : ∃ k : Nat, x = k := ⟨x.toNat, by omega⟩
    simp
    exact laid_A bs p (q + 1) n W T cs ls k hb hB hp hn0 hn hcs (by omega) hvb (by omega) (by omega)
  | true =>
    simp
    refine call_onK (s_spec_l20Rd_pick bs q 3 hb hB (by omega)) [0] (by simp) (by simp) (by simp) ?_
    rintro _ _ ⟨y, y0, y1, rfl, rfl⟩
    by_cases hy : y = 0
    · simp [hy]
      refine call_on bare ?_
      simp
      refine call_onK (s_spec_l20Rd_pick bs (q + 1) 16 hb hB (by omega)) [0] (by simp) (by simp) (by simp) ?_
      rintro _ _ ⟨x, x0, x1, rfl, rfl⟩
      obtain ⟨k, rfl⟩ : ∃ k : Nat, x = k := ⟨x.toNat, by omega⟩
      simp
      exact laid_A bs p (q + 1 + 1) n W T cs ls k hb hB hp hn0 hn hcs (by omega) hvb (by omega) (by omega)
    · simp [hy, c_laidY]
      exact laid_Y bs p (q + 1) n W T cs o hb hB hp hn0 hn hcs (by omega) (.inr (hbo rfl)) (by omega)
end Go.Proofs.Dev

namespace Go.Proofs.Dev
set_option linter.unusedSimpArgs false
set_option maxRecDepth 100000

def tilSet (bs : List Int) (p d : Nat) (r : AV) (ups : List AV) : Prop := ∃ (W T : Int) (cs : List Bool) (ls : List Int) (v : Bool) (q : Nat), r = .tup [regA W T cs, lstA v ls] ∧ cs.length ≤ 37 ∧ ls.length ≤ 38 ∧ q ≤ p + d ∧ ups = [rdA bs q]

theorem til_T0 (bs : List Int) (p q : Nat) (hb : bs.length ≤ 2000) (hB : Byt bs) (hp : p < 2 ^ 30) (hq : q ≤ p + 301) (X : ES) (Y : Heap) (hX : X = [(0, .lp 0 0 0 0), (2, .lp 0 1 0 0), (31, .lp 0 0 0 0)]) (hY : Y = [some (.box [.sl 0 1 (u8s bs), .v (.int .i64 q)]), some (.box [.v (.int .i64 0), .v (.int .i64 0), .os 1 []])]) :
    awp Try.prog md5 c_spec_l20Tiling_T0 (FinS [RV.c 2 true 3, RV.t 3] 31 1 [true] (tilSet bs p 1200)) X Y := by
  subst hX hY
  simp [c_spec_l20Tiling_T0]
  refine call_onK (s_spec_l20Laid bs q 9 hb hB (by omega) (by omega) (by omega)) [0] (by simp) (by simp) (by simp) ?_
  rintro _ _ ⟨W, T, cs, ls, q2, rfl, hcs, hls, hq2, rfl⟩
  simp [regA]
  exact ⟨_, _, ⟨W, T, cs, ls, false, q2, rfl, hcs, by omega, by omega, rfl⟩, by simp [regA, lstA]⟩

set_option maxHeartbeats 4000000 in
theorem s_spec_l20Tiling (bs : List Int) (p : Nat) (hb : bs.length ≤ 2000) (hB : Byt bs) (hp : p < 2 ^ 30) :
    SoundSet Try.prog n_spec_l20Tiling [rdA bs p] (tilSet bs p 1200) := by
  refine fn_okS (md := md5) (ms := [true]) k_spec_l20Tiling (by simp) ?_
  simp [c_spec_l20Tiling]
  refine call_onK (s_spec_l20Some bs p 14 hb hB (by omega) (by omega)) [0] (by simp) (by simp) (by simp) ?_
  rintro _ _ ⟨W, T, cs, q, rfl, hcs, w0, w6, t0, t24, hq, rfl⟩
  have tiles := s_spec_TilingsAllF W T cs (by omega)
  have hlen : ∀ t ∈ tilesI W T cs, t.length = cs.length := fun t ht => tiles_mem ht
  have htl := tiles_length (W := W) (T := T) (cs := cs)
  generalize tilesI W T cs = ts at *
  simp [regA]
  refine call_on tiles ?_
  simp
  refine ⟨fun hn => ?_, fun _ => ?_⟩
  case refine_2 => exact til_T0 bs p q hb hB hp (by omega) _ _ rfl rfl
  have hn2 : (0 : Int) < ts.length := by omega
  refine call_onK (s_spec_l20Rd_pick bs q 8 hb hB (by omega)) [0] (by simp) (by simp) (by simp) ?_
  rintro _ _ ⟨x, x0, x1, rfl, rfl⟩
  by_cases hx : 0 < x
  · simp [hx]
    (repeat' first | omega | apply And.intro) <;>
    · refine call_onK (s_spec_l20Rd_pick bs (q + 1) (if 256 < (ts.length : Int) then 256 else ts.length) hb hB (by omega)) [0] (by simp) (by simp) (by simp) ?_
      rintro _ _ ⟨y, y0, y1, rfl, rfl⟩
      have hy : y < ts.length := by
        rcases y1 with y1 | y1
        · split at y1 <;> omega
        · omega
      have hy2 : y.toNat < ts.length := by omega
      have hpl : (pti ts y).length ≤ 38 := by
        have e : pti ts y = ts[y.toNat] := by
          have := pti_get hy2
          rwa [Int.toNat_of_nonneg y0] at this
        rw [e, hlen _ (List.getElem_mem hy2)]
        omega
      simp [hy, hy2, y0]
      (repeat' apply And.intro) <;>
      · exact ⟨_, _, ⟨W, T, cs, pti ts y, true, q + 1 + 1, rfl, hcs, hpl, by omega, rfl⟩, by simp [regA, lstA]⟩
  · simp [hx]
    exact til_T0 bs p (q + 1) hb hB hp (by omega) _ _ rfl (by simp)

def drawM (r : AV) (ups : List AV) : Prop := ∃ (W T : Int) (cs : List Bool) (ls : List Int) (v : Bool) (fr : Int), r = .tup [regA W T cs, lstA v ls, .v (.int .i64 fr)] ∧ cs.length ≤ 37 ∧ ls.length ≤ 38 ∧ ups = [.bot]

theorem s_spec_DrawMakePuzzle (bs : List Int) (hb : bs.length ≤ 2 ^ 60) (hB : Byt bs) : SoundSet Try.prog n_spec_DrawMakePuzzle [.sl 0 1 (u8s bs)] drawM := by
  have hb2 : (bs.take 2000).length ≤ 2000 := by simp; omega
  have hB2 := byt_take hB 2000
  refine fn_okS (md := md5) (ms := [false]) k_spec_DrawMakePuzzle (by simp) ?_
  simp [c_spec_DrawMakePuzzle]
  refine call_on (s_spec_l20Open bs hb) ?_
  simp
  refine call_onK (s_spec_l20Tiling (bs.take 2000) 0 hb2 hB2 (by omega)) [1] (by simp) (by simp) (by simp) ?_
  rintro _ _ ⟨W, T, cs, ls, v, q, rfl, hcs, hls, hq, rfl⟩
  cases v with
  | false =>
    simp [regA, lstA]
    (repeat' first | omega | apply And.intro) <;>
    · refine call_onK (s_spec_l20Rd_pick (bs.take 2000) q 30 hb2 hB2 (by omega)) [1] (by simp) (by simp) (by simp) ?_
      rintro _ _ ⟨x, x0, x1, rfl, rfl⟩
      simp
      (repeat' first | omega | apply And.intro) <;>
      · exact ⟨_, _, ⟨W, T, cs, ls, false, x - 1, rfl, hcs, hls, rfl⟩, by simp [regA, lstA]⟩
  | true =>
    simp [regA, lstA]
    (repeat' first | omega | apply And.intro) <;>
    · refine call_onK (s_spec_l20Rd_pick (bs.take 2000) q 30 hb2 hB2 (by omega)) [1] (by simp) (by simp) (by simp) ?_
      rintro _ _ ⟨x, x0, x1, rfl, rfl⟩
      simp
      (repeat' first | omega | apply And.intro) <;>
      · exact ⟨_, _, ⟨W, T, cs, ls, true, x - 1, rfl, hcs, hls, rfl⟩, by simp [regA, lstA]⟩
end Go.Proofs.Dev
