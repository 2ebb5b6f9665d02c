/- Contracts of the functions of the program over slots and rows, each proved against the program itself; no condition beyond those that each theorem names. -/
import Derived.Test.YtfkmfobbgoflgaaAK
import Derived.Test.YtfkmfobbgoflgaaProg
import Derived.Test.YtfkmfobbgoflgaaAH

set_option linter.unusedSimpArgs false
set_option linter.unusedVariables false

namespace Go.Proofs.Dev

-- 3 parameters, results [.t 6], 28 slots, modes [false, false, false]
@[simp] abbrev n_spec_StepTo : Nat := 65

def c_spec_StepTo : ACode :=
  .seq (.reg [⟨(some 3), .box, [.t 0], none⟩,
    ⟨(some 6), .mv, [.c (.v (.int .i64 (0)))], none⟩]) <|
  .seq (.seq (.reg [⟨(some 7), .load true 3, [.t 3], none⟩,
    ⟨(some 8), .call 28 [], [.t 7], none⟩,
    ⟨(some 9), .un .not, [.t 8], none⟩,
    ⟨(some 10), .mv, [.t 9], none⟩,
    ⟨(some 11), .mv, [.t 1], (some (10, false))⟩,
    ⟨(some 12), .fadr 2, [.t 3], (some (10, false))⟩,
    ⟨(some 13), .load false 1, [.t 12], (some (10, false))⟩,
    ⟨(some 14), .len false, [.t 13], (some (10, false))⟩,
    ⟨(some 15), .bin .sub 0, [.t 14, .c (.v (.int .i64 (1)))], (some (10, false))⟩,
    ⟨(some 16), .call 29 [], [.t 11, .c (.v (.int .i64 (0))), .t 15], (some (10, false))⟩,
    ⟨(some 17), .un .not, [.t 16], (some (10, false))⟩,
    ⟨(some 18), .pick, [.t 10, .c (.v (.bool true)), .t 17], none⟩,
    ⟨(some 19), .mv, [.t 18], none⟩,
    ⟨(some 20), .mv, [.t 2], (some (19, false))⟩,
    ⟨(some 21), .call 29 [], [.t 20, .c (.v (.int .i64 (1))), .c (.v (.int .i64 (4)))], (some (19, false))⟩,
    ⟨(some 22), .un .not, [.t 21], (some (19, false))⟩,
    ⟨(some 23), .pick, [.t 19, .c (.v (.bool true)), .t 22], none⟩]) <|
  .cond (.t 23) (
    .seq (.reg [⟨(some 6), .mv, [.c (.v (.int .i64 (-1)))], none⟩]) <|
    .ret) (
    .skip)) <|
  .seq (.reg [⟨(some 24), .load true 3, [.t 3], none⟩,
    ⟨(some 25), .mv, [.t 1], none⟩,
    ⟨(some 26), .mv, [.t 2], none⟩,
    ⟨(some 27), .call 47 [], [.t 24, .t 25, .t 26], none⟩,
    ⟨(some 6), .mv, [.t 27], none⟩]) <|
  .ret

theorem k_spec_StepTo : cFn Try.prog n_spec_StepTo 28 [.t 6] c_spec_StepTo := ⟨Try.f65, _, Try.func65, rfl, by kernel_rfl, by kernel_rfl, by kernel_rfl, by kernel_rfl⟩

-- 4 parameters, results [.t 8, .t 9], 67 slots, modes [false, false, false, false]
@[simp] abbrev n_spec_LayOne : Nat := 45

def c_spec_LayOne : ACode :=
  .seq (.reg [⟨(some 4), .box, [.t 0], none⟩,
    ⟨(some 8), .mv, [.c (.os 1 [])], none⟩,
    ⟨(some 9), .mv, [.c (.v (.bool false))], none⟩]) <|
  .seq (.seq (.reg [⟨(some 12), .load true 3, [.t 4], none⟩,
    ⟨(some 13), .mv, [.t 1], none⟩,
    ⟨(some 14), .call 64 [], [.t 12, .t 13], none⟩,
    ⟨(some 15), .un .not, [.t 14], none⟩]) <|
  .cond (.t 15) (
    .seq (.reg [⟨(some 16), .bsl 1, [], none⟩,
      ⟨(some 8), .mv, [.t 16], none⟩,
      ⟨(some 9), .mv, [.c (.v (.bool false))], none⟩]) <|
    .ret) (
    .skip)) <|
  .seq (.reg [⟨(some 17), .bsl 1, [], none⟩,
    ⟨(some 18), .mv, [.t 1], none⟩,
    ⟨(some 19), .app 1 8 true, [.t 17, .t 18], none⟩,
    ⟨(some 10), .mv, [.t 19], none⟩]) <|
  .seq (.reg [⟨(some 20), .load true 3, [.t 4], none⟩,
    ⟨(some 21), .mv, [.t 2], none⟩,
    ⟨(some 22), .mv, [.t 3], none⟩,
    ⟨(some 23), .call 65 [], [.t 20, .t 21, .t 22], none⟩,
    ⟨(some 11), .mv, [.t 23], none⟩]) <|
  .seq (.seq (.reg [⟨(some 24), .mv, [.t 11], none⟩,
    ⟨(some 25), .bin .lss 0, [.t 24, .c (.v (.int .i64 (0)))], none⟩,
    ⟨(some 26), .mv, [.t 25], none⟩,
    ⟨(some 27), .fadr 2, [.t 4], (some (26, false))⟩,
    ⟨(some 28), .load false 1, [.t 27], (some (26, false))⟩,
    ⟨(some 29), .mv, [.t 2], (some (26, false))⟩,
    ⟨(some 30), .iadr 1, [.t 28, .t 29], (some (26, false))⟩,
    ⟨(some 31), .load false 1, [.t 30], (some (26, false))⟩,
    ⟨(some 32), .un .not, [.t 31], (some (26, false))⟩,
    ⟨(some 33), .pick, [.t 26, .c (.v (.bool true)), .t 32], none⟩,
    ⟨(some 34), .mv, [.t 33], none⟩,
    ⟨(some 35), .fadr 2, [.t 4], (some (34, false))⟩,
    ⟨(some 36), .load false 1, [.t 35], (some (34, false))⟩,
    ⟨(some 37), .mv, [.t 11], (some (34, false))⟩,
    ⟨(some 38), .iadr 1, [.t 36, .t 37], (some (34, false))⟩,
    ⟨(some 39), .load false 1, [.t 38], (some (34, false))⟩,
    ⟨(some 40), .un .not, [.t 39], (some (34, false))⟩,
    ⟨(some 41), .pick, [.t 34, .c (.v (.bool true)), .t 40], none⟩,
    ⟨(some 42), .mv, [.t 41], none⟩,
    ⟨(some 43), .mv, [.t 1], (some (42, false))⟩,
    ⟨(some 44), .mv, [.t 2], (some (42, false))⟩,
    ⟨(some 45), .iadr 1, [.t 43, .t 44], (some (42, false))⟩,
    ⟨(some 46), .load false 1, [.t 45], (some (42, false))⟩,
    ⟨(some 47), .bin .neq 0, [.t 46, .c (.v (.int .i64 (0)))], (some (42, false))⟩,
    ⟨(some 48), .pick, [.t 42, .c (.v (.bool true)), .t 47], none⟩,
    ⟨(some 49), .mv, [.t 48], none⟩,
    ⟨(some 50), .mv, [.t 1], (some (49, false))⟩,
    ⟨(some 51), .mv, [.t 11], (some (49, false))⟩,
    ⟨(some 52), .iadr 1, [.t 50, .t 51], (some (49, false))⟩,
    ⟨(some 53), .load false 1, [.t 52], (some (49, false))⟩,
    ⟨(some 54), .bin .neq 0, [.t 53, .c (.v (.int .i64 (0)))], (some (49, false))⟩,
    ⟨(some 55), .pick, [.t 49, .c (.v (.bool true)), .t 54], none⟩]) <|
  .cond (.t 55) (
    .seq (.reg [⟨(some 56), .mv, [.t 10], none⟩,
      ⟨(some 8), .mv, [.t 56], none⟩,
      ⟨(some 9), .mv, [.c (.v (.bool false))], none⟩]) <|
    .ret) (
    .skip)) <|
  .seq (.reg [⟨(some 57), .mv, [.t 10], none⟩,
    ⟨(some 58), .mv, [.t 2], none⟩,
    ⟨(some 59), .mv, [.t 3], none⟩,
    ⟨(some 60), .iadr 1, [.t 57, .t 58], none⟩,
    ⟨none, .store 1, [.t 60, .t 59], none⟩]) <|
  .seq (.reg [⟨(some 61), .mv, [.t 10], none⟩,
    ⟨(some 62), .mv, [.t 11], none⟩,
    ⟨(some 63), .mv, [.t 3], none⟩,
    ⟨(some 64), .call 66 [], [.t 63], none⟩,
    ⟨(some 65), .iadr 1, [.t 61, .t 62], none⟩,
    ⟨none, .store 1, [.t 65, .t 64], none⟩]) <|
  .seq (.reg [⟨(some 66), .mv, [.t 10], none⟩,
    ⟨(some 8), .mv, [.t 66], none⟩,
    ⟨(some 9), .mv, [.c (.v (.bool true))], none⟩]) <|
  .ret

theorem k_spec_LayOne : cFn Try.prog n_spec_LayOne 67 [.t 8, .t 9] c_spec_LayOne := ⟨Try.f45, _, Try.func45, rfl, by kernel_rfl, by kernel_rfl, by kernel_rfl, by kernel_rfl⟩

-- 2 parameters, results [.t 4], 11 slots, modes [false, false]
@[simp] abbrev n_impl_Region_has : Nat := 70

def c_impl_Region_has : ACode :=
  .seq (.reg [⟨(some 2), .box, [.t 0], none⟩,
    ⟨(some 4), .mv, [.c (.v (.bool false))], none⟩]) <|
  .seq (.reg [⟨(some 5), .mv, [.t 1], none⟩,
    ⟨(some 6), .fadr 2, [.t 2], none⟩,
    ⟨(some 7), .load false 1, [.t 6], none⟩,
    ⟨(some 8), .len false, [.t 7], none⟩,
    ⟨(some 9), .bin .sub 0, [.t 8, .c (.v (.int .i64 (1)))], none⟩,
    ⟨(some 10), .call 32 [], [.t 5, .c (.v (.int .i64 (0))), .t 9], none⟩,
    ⟨(some 4), .mv, [.t 10], none⟩]) <|
  .ret

theorem k_impl_Region_has : cFn Try.prog n_impl_Region_has 11 [.t 4] c_impl_Region_has := ⟨Try.f70, _, Try.func70, rfl, by kernel_rfl, by kernel_rfl, by kernel_rfl, by kernel_rfl⟩

-- 4 parameters, results [.t 8], 48 slots, modes [false, false, false, false]
@[simp] abbrev n_impl_Region_free : Nat := 52

def c_impl_Region_free : ACode :=
  .seq (.reg [⟨(some 4), .box, [.t 0], none⟩,
    ⟨(some 8), .mv, [.c (.v (.bool false))], none⟩]) <|
  .seq (.seq (.reg [⟨(some 10), .load true 3, [.t 4], none⟩,
    ⟨(some 11), .mv, [.t 2], none⟩,
    ⟨(some 12), .call 70 [], [.t 10, .t 11], none⟩,
    ⟨(some 13), .un .not, [.t 12], none⟩]) <|
  .cond (.t 13) (
    .seq (.reg [⟨(some 8), .mv, [.c (.v (.bool false))], none⟩]) <|
    .ret) (
    .skip)) <|
  .seq (.reg [⟨(some 14), .load true 3, [.t 4], none⟩,
    ⟨(some 15), .mv, [.t 2], none⟩,
    ⟨(some 16), .mv, [.t 3], none⟩,
    ⟨(some 17), .call 60 [], [.t 14, .t 15, .t 16], none⟩,
    ⟨(some 9), .mv, [.t 17], none⟩]) <|
  .seq (.reg [⟨(some 18), .mv, [.t 9], none⟩,
    ⟨(some 19), .bin .geq 0, [.t 18, .c (.v (.int .i64 (0)))], none⟩,
    ⟨(some 20), .mv, [.t 19], none⟩,
    ⟨(some 21), .fadr 2, [.t 4], (some (20, true))⟩,
    ⟨(some 22), .load false 1, [.t 21], (some (20, true))⟩,
    ⟨(some 23), .mv, [.t 2], (some (20, true))⟩,
    ⟨(some 24), .iadr 1, [.t 22, .t 23], (some (20, true))⟩,
    ⟨(some 25), .load false 1, [.t 24], (some (20, true))⟩,
    ⟨(some 26), .pick, [.t 20, .t 25, .c (.v (.bool false))], none⟩,
    ⟨(some 27), .mv, [.t 26], none⟩,
    ⟨(some 28), .fadr 2, [.t 4], (some (27, true))⟩,
    ⟨(some 29), .load false 1, [.t 28], (some (27, true))⟩,
    ⟨(some 30), .mv, [.t 9], (some (27, true))⟩,
    ⟨(some 31), .iadr 1, [.t 29, .t 30], (some (27, true))⟩,
    ⟨(some 32), .load false 1, [.t 31], (some (27, true))⟩,
    ⟨(some 33), .pick, [.t 27, .t 32, .c (.v (.bool false))], none⟩,
    ⟨(some 34), .mv, [.t 33], none⟩,
    ⟨(some 35), .mv, [.t 1], (some (34, true))⟩,
    ⟨(some 36), .mv, [.t 2], (some (34, true))⟩,
    ⟨(some 37), .iadr 1, [.t 35, .t 36], (some (34, true))⟩,
    ⟨(some 38), .load false 1, [.t 37], (some (34, true))⟩,
    ⟨(some 39), .bin .eql 0, [.t 38, .c (.v (.int .i64 (0)))], (some (34, true))⟩,
    ⟨(some 40), .pick, [.t 34, .t 39, .c (.v (.bool false))], none⟩,
    ⟨(some 41), .mv, [.t 40], none⟩,
    ⟨(some 42), .mv, [.t 1], (some (41, true))⟩,
    ⟨(some 43), .mv, [.t 9], (some (41, true))⟩,
    ⟨(some 44), .iadr 1, [.t 42, .t 43], (some (41, true))⟩,
    ⟨(some 45), .load false 1, [.t 44], (some (41, true))⟩,
    ⟨(some 46), .bin .eql 0, [.t 45, .c (.v (.int .i64 (0)))], (some (41, true))⟩,
    ⟨(some 47), .pick, [.t 41, .t 46, .c (.v (.bool false))], none⟩,
    ⟨(some 8), .mv, [.t 47], none⟩]) <|
  .ret

theorem k_impl_Region_free : cFn Try.prog n_impl_Region_free 48 [.t 8] c_impl_Region_free := ⟨Try.f52, _, Try.func52, rfl, by kernel_rfl, by kernel_rfl, by kernel_rfl, by kernel_rfl⟩

-- 4 parameters, results [.t 8], 25 slots, modes [false, false, false, false]
@[simp] abbrev n_impl_Region_lay : Nat := 53

def c_impl_Region_lay : ACode :=
  .seq (.reg [⟨(some 4), .box, [.t 0], none⟩,
    ⟨(some 8), .mv, [.c (.os 1 [])], none⟩]) <|
  .seq (.reg [⟨(some 10), .mv, [.t 1], none⟩,
    ⟨(some 11), .call 35 [], [.t 10], none⟩,
    ⟨(some 9), .mv, [.t 11], none⟩]) <|
  .seq (.reg [⟨(some 12), .mv, [.t 9], none⟩,
    ⟨(some 13), .mv, [.t 2], none⟩,
    ⟨(some 14), .mv, [.t 9], none⟩,
    ⟨(some 15), .load true 3, [.t 4], none⟩,
    ⟨(some 16), .mv, [.t 2], none⟩,
    ⟨(some 17), .mv, [.t 3], none⟩,
    ⟨(some 18), .call 60 [], [.t 15, .t 16, .t 17], none⟩,
    ⟨(some 19), .mv, [.t 3], none⟩,
    ⟨(some 20), .mv, [.t 3], none⟩,
    ⟨(some 21), .call 71 [], [.t 20], none⟩,
    ⟨(some 22), .iadr 1, [.t 12, .t 13], none⟩,
    ⟨none, .store 1, [.t 22, .t 19], none⟩,
    ⟨(some 23), .iadr 1, [.t 14, .t 18], none⟩,
    ⟨none, .store 1, [.t 23, .t 21], none⟩]) <|
  .seq (.reg [⟨(some 24), .mv, [.t 9], none⟩,
    ⟨(some 8), .mv, [.t 24], none⟩]) <|
  .ret

theorem k_impl_Region_lay : cFn Try.prog n_impl_Region_lay 25 [.t 8] c_impl_Region_lay := ⟨Try.f53, _, Try.func53, rfl, by kernel_rfl, by kernel_rfl, by kernel_rfl, by kernel_rfl⟩

end Go.Proofs.Dev

namespace Go.Proofs.Dev
set_option linter.unusedSimpArgs false
set_option maxRecDepth 100000

theorem s_spec_l1In_t {x lo hi : Int} (h : lo ≤ x ∧ x ≤ hi) : SoundAt Try.prog n_spec_l1In [.v (.int .i64 x), .v (.int .i64 lo), .v (.int .i64 hi)] (.v (.bool true)) [.bot, .bot, .bot] := by
  have := s_spec_l1In x lo hi
  rwa [decide_eq_true h] at this
theorem s_spec_l1In_f {x lo hi : Int} (h : ¬ (lo ≤ x ∧ x ≤ hi)) : SoundAt Try.prog n_spec_l1In [.v (.int .i64 x), .v (.int .i64 lo), .v (.int .i64 hi)] (.v (.bool false)) [.bot, .bot, .bot] := by
  have := s_spec_l1In x lo hi
  rwa [decide_eq_false h] at this

theorem s_impl_Region_has (W T : Int) (cs : List Bool) (cell : Int) (hb : cs.length < 2 ^ 40) :
    SoundAt Try.prog n_impl_Region_has [.agg [.v (.int .i64 W), .v (.int .i64 T), .sl 1 1 (bools cs)], .v (.int .i64 cell)] (.v (.bool (decide (0 ≤ cell ∧ cell < cs.length)))) [.bot, .bot] := by
  refine fn_ok (md := md0) (ms := [false, false]) k_impl_Region_has (by simp) ?_
  simp [c_impl_Region_has]
  refine ⟨by omega, ?_⟩
  by_cases h : 0 ≤ cell ∧ cell < cs.length
  · refine call_on (s_impl_in_t (x := cell) (lo := 0) (hi := cs.length - 1) (by omega)) ?_
    simp [h]
  · refine call_on (s_impl_in_f (x := cell) (lo := 0) (hi := cs.length - 1) (by omega)) ?_
    simp; omega

theorem s_impl_Region_free (W T : Int) (cs : List Bool) (ls : List Int) (cell way : Int) (hr : regB W T cs = true) (hl : ls.length = cs.length) :
    SoundAt Try.prog n_impl_Region_free [.agg [.v (.int .i64 W), .v (.int .i64 T), .sl 1 1 (bools cs)], .sl 1 1 (ints ls), .v (.int .i64 cell), .v (.int .i64 way)] (.v (.bool (freeB W T cs ls cell way))) [.bot, .bot, .bot, .bot] := by
  refine fn_ok (md := md0) (ms := [false, false, false, false]) k_impl_Region_free (by simp) ?_
  have h36 := regB_len hr
  obtain ⟨w1, w2, t1, t2, l1, _⟩ := regB_W hr
  simp [c_impl_Region_free]
  refine call_on (s_impl_Region_has W T cs cell (by omega)) ?_
  by_cases h : 0 ≤ cell ∧ cell < cs.length
  case neg =>
    have hx : (decide (0 ≤ cell) && decide (cell < cs.length)) = false := by simp; omega
    have hf : freeB W T cs ls cell way = false := decide_eq_false (fun x => h ⟨x.1, x.2.1⟩)
    simp [hx, hf]
  simp [h]
  refine call_on (s_impl_Region_step W T cs cell way hr h.1 h.2) ?_
  have hst := stepI_range (T := T) (way := way) w1 h.1 (by omega)
  unfold freeB
  generalize stepI W T cell way = to at *
  rcases hst with rfl | ⟨h3, h4, h5, h6⟩
  · simp
  have h7 : to < cs.length := by omega
  cases hc : atb cs cell with
  | false => simp [h, h3, hc]
  | true =>
  cases ht : atb cs to with
  | false => simp [h, h3, h7, hc, ht]
  | true =>
  simp [h, h3, h7, hc, ht, hl]
  by_cases z : ati ls cell = 0
  · by_cases z2 : ati ls to = 0 <;> simp [z, z2, h3, h7, hl]
  · simp [z]

theorem s_impl_Region_lay (W T : Int) (cs : List Bool) (ls : List Int) (cell way : Int) (hr : regB W T cs = true) (hl : ls.length = cs.length) (hf : freeB W T cs ls cell way = true) :
    SoundAt Try.prog n_impl_Region_lay [.agg [.v (.int .i64 W), .v (.int .i64 T), .sl 1 1 (bools cs)], .sl 1 1 (ints ls), .v (.int .i64 cell), .v (.int .i64 way)] (.os 1 (ints (layI W T ls cell way))) [.bot, .bot, .bot, .bot] := by
  refine fn_ok (md := md0) (ms := [false, false, false, false]) k_impl_Region_lay (by simp) ?_
  have h36 := regB_len hr
  obtain ⟨w1, w2, t1, t2, l1, _⟩ := regB_W hr
  simp only [freeB, decide_eq_true_eq] at hf
  obtain ⟨f0, f1, f2, _⟩ := hf
  obtain ⟨b1, b2, b3, b4, b5⟩ := step_back (T := T) w1 f0 (by omega) f2
  simp [c_impl_Region_lay]
  refine call_on (s_impl_clone_int ls (by omega)) ?_
  simp
  refine call_on (s_impl_Region_step W T cs cell way hr f0 f1) ?_
  simp
  refine call_on (s_impl_back way (by omega) (by omega)) ?_
  have e1 : (ints ls).set cell.toNat (.v (.int .i64 way)) = ints (ls.set cell.toNat way) := ints_set _ _ _
  have e2 : (ints (ls.set cell.toNat way)).set (stepI W T cell way).toNat (.v (.int .i64 (backI way))) = ints (layI W T ls cell way) := by rw [ints_set]; rfl
  have g1 : cell < ls.length := by omega
  have g2 : stepI W T cell way < ls.length := by omega
  have g3 : cell.toNat < ls.length := by omega
  have g4 : (stepI W T cell way).toNat < ls.length := by omega
  have ht : (layI W T ls cell way).length = ls.length := layI_length W T ls cell way
  have hk : (ints (layI W T ls cell way)).take ls.length = ints (layI W T ls cell way) := List.take_of_length_le (by simp [ht])
  simp [f0, f2, g1, g2, g3, g4, e1, e2, ht, hk]

end Go.Proofs.Dev

namespace Go.Proofs.Dev
set_option linter.unusedSimpArgs false
set_option maxRecDepth 100000

theorem s_spec_StepTo (W T : Int) (cs : List Bool) (cell way : Int) (hr : regB W T cs = true) :
    SoundAt Try.prog n_spec_StepTo [.agg [.v (.int .i64 W), .v (.int .i64 T), .sl 1 1 (bools cs)], .v (.int .i64 cell), .v (.int .i64 way)] (.v (.int .i64 (if 0 ≤ cell ∧ cell < cs.length ∧ 1 ≤ way ∧ way ≤ 4 then stepI W T cell way else -1))) [.bot, .bot, .bot] := by
  refine fn_ok (md := md0) (ms := [false, false, false]) k_spec_StepTo (by simp) ?_
  have h36 := regB_len hr
  simp [c_spec_StepTo]
  refine call_on (s_spec_RegionValid W T cs (by omega)) ?_
  simp [hr]
  refine ⟨by omega, ?_⟩
  by_cases h : 0 ≤ cell ∧ cell < cs.length
  case neg =>
    refine call_on (s_spec_l1In_f (x := cell) (lo := 0) (hi := cs.length - 1) (by omega)) ?_
    rw [if_neg (fun x => h ⟨x.1, x.2.1⟩)]
    simp
  refine call_on (s_spec_l1In_t (x := cell) (lo := 0) (hi := cs.length - 1) (by omega)) ?_
  simp
  by_cases hw : 1 ≤ way ∧ way ≤ 4
  case neg =>
    refine call_on (s_spec_l1In_f hw) ?_
    rw [if_neg (fun x => hw x.2.2)]
    simp
  refine call_on (s_spec_l1In_t hw) ?_
  simp
  refine call_on (s_spec_l2Step W T cs cell way hr h.1 h.2) ?_
  simp [h, hw]

/-- What LayOne gives. -/
def layOneL (W T : Int) (cs : List Bool) (ls : List Int) (cell way : Int) : List Int := if freeB W T cs ls cell way then layI W T ls cell way else ls

theorem s_spec_LayOne (W T : Int) (cs : List Bool) (ls : List Int) (cell way : Int) (hr : regB W T cs = true) (hy : laysB W T cs ls = true) :
    SoundAt Try.prog n_spec_LayOne [.agg [.v (.int .i64 W), .v (.int .i64 T), .sl 1 1 (bools cs)], .sl 1 1 (ints ls), .v (.int .i64 cell), .v (.int .i64 way)]
      (.tup [.os 1 (ints (layOneL W T cs ls cell way)), .v (.bool (freeB W T cs ls cell way))]) [.bot, .bot, .bot, .bot] := by
  refine fn_ok (md := md0) (ms := [false, false, false, false]) k_spec_LayOne (by simp) ?_
  have h36 := regB_len hr
  obtain ⟨w1, w2, t1, t2, l1, _⟩ := regB_W hr
  have hl : ls.length = cs.length := by simp only [laysB, Bool.and_eq_true, decide_eq_true_eq] at hy; exact hy.1
  simp [c_spec_LayOne]
  refine call_on (s_spec_LaidOk W T cs ls (by omega) (by omega)) ?_
  simp [hr, hy]
  refine ⟨by omega, ?_⟩
  refine call_on (s_spec_StepTo W T cs cell way hr) ?_
  by_cases h : 0 ≤ cell ∧ cell < cs.length
  case neg =>
    have hf : freeB W T cs ls cell way = false := decide_eq_false (fun x => h ⟨x.1, x.2.1⟩)
    rw [if_neg (fun x => h ⟨x.1, x.2.1⟩)]
    simp [hf, layOneL]
  have hst := stepI_range (T := T) (way := way) w1 h.1 (by omega)
  have e0 : (if 0 ≤ cell ∧ cell < cs.length ∧ 1 ≤ way ∧ way ≤ 4 then stepI W T cell way else -1) = stepI W T cell way := by
    rcases hst with hst | hst
    · split
      · rfl
      · exact hst.symm
    · rw [if_pos ⟨h.1, h.2, hst.2.2.1, hst.2.2.2⟩]
  rw [e0]
  by_cases hneg : stepI W T cell way < 0
  · have hf : freeB W T cs ls cell way = false := decide_eq_false (fun x => by omega)
    simp [hneg, hf, layOneL]
  obtain ⟨h3, h4, h5, h6⟩ : 0 ≤ stepI W T cell way ∧ stepI W T cell way < W * T ∧ 1 ≤ way ∧ way ≤ 4 := by
    rcases hst with hst | hst
    · omega
    · exact hst
  have hfree : freeB W T cs ls cell way = decide (atb cs cell = true ∧ atb cs (stepI W T cell way) = true ∧ ati ls cell = 0 ∧ ati ls (stepI W T cell way) = 0) := by
    simp [freeB, h, h3]
  have e2 : ((ints ls).set cell.toNat (.v (.int .i64 way))).set (stepI W T cell way).toNat (.v (.int .i64 (backI way))) = ints (layI W T ls cell way) := by rw [ints_set, ints_set]; rfl
  have ht : (layI W T ls cell way).length = ls.length := layI_length W T ls cell way
  have hk : (ints (layI W T ls cell way)).take ls.length = ints (layI W T ls cell way) := List.take_of_length_le (by simp [ht])
  have hk0 : (ints ls).take cs.length = ints ls := List.take_of_length_le (by simp [hl])
  have two := s_spec_l2Back way (by omega) (by omega)
  unfold layOneL
  rw [hfree]
  clear hfree e0 hst
  generalize stepI W T cell way = to at *
  have h7 : to < cs.length := by omega
  have h8 : ¬ to < 0 := hneg
  cases hc : atb cs cell with
  | false => simp [h, h8, hc]
  | true =>
  cases ht' : atb cs to with
  | false => simp [h, h3, h7, h8, hc, ht']
  | true =>
  by_cases z : ati ls cell = 0
  case neg => simp [h, h3, h7, h8, hc, ht', hl, z, hk0]
  by_cases z2 : ati ls to = 0
  case neg => simp [h, h3, h7, h8, hc, ht', hl, z, z2, hk0]
  have g3 : cell.toNat < ls.length := by omega
  have g4 : to.toNat < ls.length := by omega
  have g1 : cell < ls.length := by omega
  have g2 : to < ls.length := by omega
  simp [h, h3, h7, h8, hc, ht', g1, g2, g3, g4, z, z2]
  refine call_on two ?_
  simp [h, h3, h7, h8, g1, g2, g3, g4, e2, ht, hk]

end Go.Proofs.Dev

namespace Go.Proofs.Dev
set_option linter.unusedSimpArgs false
set_option maxRecDepth 100000

end Go.Proofs.Dev

namespace Go.Proofs.Dev
set_option linter.unusedSimpArgs false
set_option maxRecDepth 100000

/-- The first place that fits, or -1. -/
def firstI (p : Nat → Bool) (n : Nat) : Int := match (List.range n).find? p with | some k => k | none => -1
theorem firstI_hit {p : Nat → Bool} {n k : Nat} (hk : k < n) (hp : p k = true) (h : ∀ j, j < k → p j = false) : firstI p n = k := by
  have : (List.range n).find? p = some k := by
    rw [List.find?_range_eq_some]
    exact ⟨hp, by simpa using hk, fun j hj => by simp [h j hj]⟩
  simp [firstI, this]
theorem firstI_none {p : Nat → Bool} {n : Nat} (h : ∀ j, j < n → p j = false) : firstI p n = -1 := by
  have : (List.range n).find? p = none := by
    rw [List.find?_eq_none]
    intro x hx
    simp [h x (by simpa using hx)]
  simp [firstI, this]
theorem firstI_cases (p : Nat → Bool) (n : Nat) : (firstI p n = -1) ∨ ∃ k : Nat, k < n ∧ p k = true ∧ firstI p n = k := by
  unfold firstI
  split
  · rename_i k hk
    right
    rw [List.find?_range_eq_some] at hk
    exact ⟨k, by simpa using hk.2.1, hk.1, rfl⟩
  · left; rfl

end Go.Proofs.Dev

namespace Go.Proofs.Dev
set_option linter.unusedSimpArgs false
set_option maxRecDepth 100000

end Go.Proofs.Dev

namespace Go.Proofs.Dev
set_option linter.unusedSimpArgs false
set_option maxRecDepth 100000

def zeros (ls : List Int) : Nat := ls.countP (fun x => decide (x = 0))

theorem zeros_set_le {ls : List Int} {i : Nat} {v : Int} (hv : v ≠ 0) : zeros (ls.set i v) ≤ zeros ls := by
  by_cases h : i < ls.length
  · unfold zeros
    rw [List.countP_set h]
    simp [hv]
  · rw [List.set_eq_of_length_le (by omega)]; exact Nat.le_refl _
theorem zeros_set_lt {ls : List Int} {i : Nat} {v : Int} (h : i < ls.length) (hz : ati ls i = 0) (hv : v ≠ 0) : zeros (ls.set i v) < zeros ls := by
  have he : ls[i] = 0 := by simpa [ati, h] using hz
  have hp : 0 < zeros ls := by
    unfold zeros
    rw [List.countP_pos_iff]
    exact ⟨ls[i], List.getElem_mem h, by simp [he]⟩
  unfold zeros at hp ⊢
  rw [List.countP_set h]
  simp [hv, he]
  omega

theorem zeros_le (ls : List Int) : zeros ls ≤ ls.length := List.countP_le_length

end Go.Proofs.Dev

namespace Go.Proofs.Dev

end Go.Proofs.Dev

namespace Go.Proofs.Dev
set_option linter.unusedSimpArgs false
set_option maxRecDepth 100000

/-- Lists of numbers, as elements of a row: read alone, and owned. -/
def sls (c : Nat) (ps : List (List Int)) : List AV := ps.map fun p => .sl c 1 (ints p)
def oss (ps : List (List Int)) : List AV := ps.map fun p => .os 1 (ints p)
def pti (ps : List (List Int)) (i : Int) : List Int := ps.getD i.toNat []

@[simp] theorem sls_length (c : Nat) (ps : List (List Int)) : (sls c ps).length = ps.length := by simp [sls]
@[simp] theorem oss_length (ps : List (List Int)) : (oss ps).length = ps.length := by simp [oss]
@[simp] theorem sls_nil (c : Nat) : sls c [] = [] := (rfl)
@[simp] theorem oss_nil : oss [] = [] := (rfl)
@[simp] theorem sls_eq_nil (c : Nat) (ps : List (List Int)) : (sls c ps = []) = (ps = []) := by cases ps <;> simp [sls]
@[simp] theorem oss_eq_nil (ps : List (List Int)) : (oss ps = []) = (ps = []) := by cases ps <;> simp [oss]
theorem oss_append (a b : List (List Int)) : oss (a ++ b) = oss a ++ oss b := by simp [oss]
theorem oss_one (a : List Int) : oss [a] = [.os 1 (ints a)] := (rfl)
@[simp] theorem iadr_sls_ite {c d : Nat} {k : IntKind} {ps : List (List Int)} {i : Int} : aiadr 1 (.sl c 1 (sls d ps)) (.v (.int k i)) = if 0 ≤ i ∧ i < ps.length then some (.vp c [.sl d 1 (ints (pti ps i))] 0) else none := by
  by_cases h : 0 ≤ i ∧ i < ps.length
  · rw [if_pos h]
    have h1 : i.toNat < ps.length := by omega
    simp [aiadr, h.1, sls, pti, h1]
  · rw [if_neg h]
    by_cases h0 : 0 ≤ i
    · have : ¬ i.toNat < ps.length := by omega
      simp [aiadr, h0, sls, this]
    · simp [aiadr, h0]
@[simp] theorem vwL_sls (c d : Nat) : ∀ ps : List (List Int), vwL c (sls d ps) = sls c ps
  | [] => rfl
  | p :: ps => by
    show vw c (.sl d 1 (ints p)) :: vwL c (sls d ps) = .sl c 1 (ints p) :: sls c ps
    rw [vwL_sls c d ps]; simp
@[simp] theorem vwL_oss (c : Nat) : ∀ ps : List (List Int), vwL c (oss ps) = sls c ps
  | [] => rfl
  | p :: ps => by
    show vw c (.os 1 (ints p)) :: vwL c (oss ps) = .sl c 1 (ints p) :: sls c ps
    rw [vwL_oss c ps]; simp
@[simp] theorem okL_sls (c : Nat) : ∀ ps : List (List Int), okL (sls c ps) = true
  | [] => rfl
  | p :: ps => by show (okE (.sl c 1 (ints p)) && okL (sls c ps)) = true; rw [okL_sls c ps]; simp
@[simp] theorem okL_oss : ∀ ps : List (List Int), okL (oss ps) = true
  | [] => rfl
  | p :: ps => by show (okE (.os 1 (ints p)) && okL (oss ps)) = true; rw [okL_oss ps]; simp
theorem take_oss (n : Nat) (ps : List (List Int)) : (oss ps).take n = oss (ps.take n) := by simp [oss]
@[simp] theorem take_oss_all (ps : List (List Int)) : (oss ps).take ps.length = oss ps := by rw [take_oss, List.take_length]
theorem pti_get {ps : List (List Int)} {i : Nat} (h : i < ps.length) : pti ps i = ps[i] := by
  unfold pti; rw [Int.toNat_natCast, List.getD_eq_getElem?_getD, List.getElem?_eq_getElem h]; rfl
theorem pti_mem {ps : List (List Int)} {i : Nat} (h : i < ps.length) : pti ps i ∈ ps := by rw [pti_get h]; exact List.getElem_mem h
/-- A book's argument, and a book that is owned. -/
@[simp] def bkA (W T : Int) (cs : List Bool) (ds ls : List Int) (ps : List (List Int)) : AV := .agg [.v (.int .i64 W), .v (.int .i64 T), .sl 1 1 (bools cs), .sl 1 1 (ints ds), .sl 1 1 (ints ls), .sl 1 1 (sls 1 ps)]
@[simp] def bkO (W T : Int) (cs : List Bool) (ds ls : List Int) (ps : List (List Int)) : AV := .agg [.v (.int .i64 W), .v (.int .i64 T), .os 1 (bools cs), .os 1 (ints ds), .os 1 (ints ls), .os 1 (oss ps)]

end Go.Proofs.Dev

namespace Go.Proofs.Dev
set_option linter.unusedSimpArgs false
set_option maxRecDepth 100000

/-- A book that a closure reads. -/
@[simp] def bkP (W T : Int) (cs : List Bool) (ds ls : List Int) (ps : List (List Int)) : AV := .vp 1 [.v (.int .i64 W), .v (.int .i64 T), .sl 1 1 (bools cs), .sl 1 1 (ints ds), .sl 1 1 (ints ls), .sl 1 1 (sls 1 ps)] 0
end Go.Proofs.Dev

namespace Go.Proofs.Dev
set_option linter.unusedSimpArgs false
set_option maxRecDepth 100000

end Go.Proofs.Dev

namespace Go.Proofs.Dev

-- 1 parameters, results [.t 2], 9 slots, modes [false]
@[simp] abbrev n_spec_CellsMany : Nat := 41

def c_spec_CellsMany : ACode :=
  .seq (.reg [⟨(some 1), .box, [.t 0], none⟩,
    ⟨(some 2), .mv, [.c (.v (.int .i64 (0)))], none⟩]) <|
  .seq (.seq (.reg [⟨(some 3), .load true 3, [.t 1], none⟩,
    ⟨(some 4), .call 28 [], [.t 3], none⟩,
    ⟨(some 5), .un .not, [.t 4], none⟩]) <|
  .cond (.t 5) (
    .seq (.reg [⟨(some 2), .mv, [.c (.v (.int .i64 (-1)))], none⟩]) <|
    .ret) (
    .skip)) <|
  .seq (.reg [⟨(some 6), .fadr 2, [.t 1], none⟩,
    ⟨(some 7), .load false 1, [.t 6], none⟩,
    ⟨(some 8), .call 49 [], [.t 7], none⟩,
    ⟨(some 2), .mv, [.t 8], none⟩]) <|
  .ret

theorem k_spec_CellsMany : cFn Try.prog n_spec_CellsMany 9 [.t 2] c_spec_CellsMany := ⟨Try.f41, _, Try.func41, rfl, by kernel_rfl, by kernel_rfl, by kernel_rfl, by kernel_rfl⟩

end Go.Proofs.Dev

namespace Go.Proofs.Dev
set_option linter.unusedSimpArgs false
set_option maxRecDepth 100000

/-- How many dominoes begin in a list. -/
def isDom (x : Int) : Bool := decide (x = 1) || decide (x = 2)
def domN (ls : List Int) : Nat := ls.countP isDom
theorem domN_succ {ls : List Int} {i : Nat} (h : i < ls.length) : domN (ls.take (i + 1)) = domN (ls.take i) + (if isDom (ati ls i) then 1 else 0) := by
  have e : ati ls i = ls[i] := by simp [ati, h]
  rw [e, List.take_succ_eq_append_getElem h, domN, List.countP_append, List.countP_singleton]
  rfl
theorem s_spec_CellsMany (W T : Int) (cs : List Bool) (hb : cs.length < 2 ^ 40) :
    SoundAt Try.prog n_spec_CellsMany [.agg [.v (.int .i64 W), .v (.int .i64 T), .sl 1 1 (bools cs)]] (.v (.int .i64 (if regB W T cs then manyOf cs else -1))) [.bot] := by
  refine fn_ok (md := md0) (ms := [false]) k_spec_CellsMany (by simp) ?_
  simp [c_spec_CellsMany]
  refine call_on (s_spec_RegionValid W T cs hb) ?_
  cases hr : regB W T cs with
  | false => simp
  | true =>
  simp
  refine call_on (s_spec_l1Count cs hb) ?_
  simp

end Go.Proofs.Dev

namespace Go.Proofs.Dev
set_option linter.unusedSimpArgs false
set_option maxRecDepth 100000

end Go.Proofs.Dev

namespace Go.Proofs.Dev

-- 2 parameters, results [.t 4], 25 slots, modes [false, false]
@[simp] abbrev n_spec_l2First : Nat := 44
def c_spec_l2First_L0 : ACode :=
  .seq (.seq (.reg [⟨(some 6), .mv, [.t 5], none⟩,
    ⟨(some 7), .mv, [.t 1], none⟩,
    ⟨(some 8), .len false, [.t 7], none⟩,
    ⟨(some 9), .bin .lss 0, [.t 6, .t 8], none⟩]) <|
  .cond (.t 9) (
    .skip) (
    .exit 0)) <|
  .seq (.block 1 (
    .seq (.reg [⟨(some 12), .fadr 2, [.t 2], none⟩,
      ⟨(some 13), .load false 1, [.t 12], none⟩,
      ⟨(some 14), .mv, [.t 5], none⟩,
      ⟨(some 15), .iadr 1, [.t 13, .t 14], none⟩,
      ⟨(some 16), .load false 1, [.t 15], none⟩,
      ⟨(some 17), .mv, [.t 16], none⟩,
      ⟨(some 18), .mv, [.t 1], (some (17, true))⟩,
      ⟨(some 19), .mv, [.t 5], (some (17, true))⟩,
      ⟨(some 20), .iadr 1, [.t 18, .t 19], (some (17, true))⟩,
      ⟨(some 21), .load false 1, [.t 20], (some (17, true))⟩,
      ⟨(some 22), .bin .eql 0, [.t 21, .c (.v (.int .i64 (0)))], (some (17, true))⟩,
      ⟨(some 23), .pick, [.t 17, .t 22, .c (.v (.bool false))], none⟩]) <|
    .cond (.t 23) (
      .seq (.reg [⟨(some 24), .mv, [.t 5], none⟩,
        ⟨(some 4), .mv, [.t 24], none⟩]) <|
      .ret) (
      .skip))) <|
  .reg [⟨(some 10), .mv, [.t 5], none⟩,
    ⟨(some 11), .bin .add 0, [.t 10, .c (.v (.int .i64 (1)))], none⟩,
    ⟨(some 5), .mv, [.t 11], none⟩]

def c_spec_l2First : ACode :=
  .seq (.reg [⟨(some 2), .box, [.t 0], none⟩,
    ⟨(some 4), .mv, [.c (.v (.int .i64 (0)))], none⟩]) <|
  .seq (.seq (.reg [⟨(some 5), .mv, [.c (.v (.int .i64 (0)))], none⟩]) <|
  .block 0 (
    .loop [(1, 1)] [1, 2, 5] c_spec_l2First_L0)) <|
  .seq (.reg [⟨(some 4), .mv, [.c (.v (.int .i64 (-1)))], none⟩]) <|
  .ret

theorem k_spec_l2First : cFn Try.prog n_spec_l2First 25 [.t 4] c_spec_l2First := ⟨Try.f44, _, Try.func44, rfl, by kernel_rfl, by kernel_rfl, by kernel_rfl, by kernel_rfl⟩

-- 2 parameters, results [.t 4], 39 slots, modes [false, false]
@[simp] abbrev n_spec_l2All : Nat := 50
def c_spec_l2All_L0 : ACode :=
  .seq (.seq (.reg [⟨(some 20), .mv, [.t 7], none⟩,
    ⟨(some 21), .bin .leq 0, [.t 20, .c (.v (.int .i64 (2)))], none⟩]) <|
  .cond (.t 21) (
    .skip) (
    .exit 0)) <|
  .seq (.block 1 (
    .seq (.reg [⟨(some 25), .load true 3, [.t 2], none⟩,
      ⟨(some 26), .mv, [.t 1], none⟩,
      ⟨(some 27), .mv, [.t 6], none⟩,
      ⟨(some 28), .mv, [.t 7], none⟩,
      ⟨(some 29), .call 45 [], [.t 25, .t 26, .t 27, .t 28], none⟩,
      ⟨(some 24), .mv, [.t 29], none⟩,
      ⟨(some 30), .extr 0, [.t 24], none⟩,
      ⟨(some 31), .extr 1, [.t 24], none⟩,
      ⟨(some 8), .mv, [.t 30], none⟩,
      ⟨(some 9), .mv, [.t 31], none⟩]) <|
    .seq (.reg [⟨(some 32), .mv, [.t 9], none⟩]) <|
    .cond (.t 32) (
      .reg [⟨(some 33), .mv, [.t 5], none⟩,
        ⟨(some 34), .load true 3, [.t 2], none⟩,
        ⟨(some 35), .mv, [.t 8], none⟩,
        ⟨(some 36), .call 50 [], [.t 34, .t 35], none⟩,
        ⟨(some 37), .app 1 24 false, [.t 33, .t 36], none⟩,
        ⟨(some 5), .mv, [.t 37], none⟩]) (
      .skip))) <|
  .reg [⟨(some 22), .mv, [.t 7], none⟩,
    ⟨(some 23), .bin .add 0, [.t 22, .c (.v (.int .i64 (1)))], none⟩,
    ⟨(some 7), .mv, [.t 23], none⟩]

def c_spec_l2All : ACode :=
  .seq (.reg [⟨(some 2), .box, [.t 0], none⟩,
    ⟨(some 4), .mv, [.c (.os 1 [])], none⟩]) <|
  .seq (.reg [⟨(some 10), .bsl 1, [], none⟩,
    ⟨(some 5), .mv, [.t 10], none⟩]) <|
  .seq (.reg [⟨(some 11), .load true 3, [.t 2], none⟩,
    ⟨(some 12), .mv, [.t 1], none⟩,
    ⟨(some 13), .call 44 [], [.t 11, .t 12], none⟩,
    ⟨(some 6), .mv, [.t 13], none⟩]) <|
  .seq (.seq (.reg [⟨(some 14), .mv, [.t 6], none⟩,
    ⟨(some 15), .bin .lss 0, [.t 14, .c (.v (.int .i64 (0)))], none⟩]) <|
  .cond (.t 15) (
    .seq (.reg [⟨(some 16), .mv, [.t 5], none⟩,
      ⟨(some 17), .mv, [.t 1], none⟩,
      ⟨(some 18), .bsl 1, [.t 17], none⟩,
      ⟨(some 19), .app 1 24 false, [.t 16, .t 18], none⟩,
      ⟨(some 4), .mv, [.t 19], none⟩]) <|
    .ret) (
    .skip)) <|
  .seq (.seq (.reg [⟨(some 7), .mv, [.c (.v (.int .i64 (1)))], none⟩]) <|
  .block 0 (
    .loop [(1, 1), (5, 1)] [1, 2, 5, 6, 7] c_spec_l2All_L0)) <|
  .seq (.reg [⟨(some 38), .mv, [.t 5], none⟩,
    ⟨(some 4), .mv, [.t 38], none⟩]) <|
  .ret

theorem k_spec_l2All : cFn Try.prog n_spec_l2All 39 [.t 4] c_spec_l2All := ⟨Try.f50, _, Try.func50, rfl, by kernel_rfl, by kernel_rfl, by kernel_rfl, by kernel_rfl⟩

-- 1 parameters, results [.t 2], 11 slots, modes [false]
@[simp] abbrev n_spec_TilingsAll : Nat := 30

def c_spec_TilingsAll : ACode :=
  .seq (.reg [⟨(some 1), .box, [.t 0], none⟩,
    ⟨(some 2), .mv, [.c (.os 1 [])], none⟩]) <|
  .seq (.seq (.reg [⟨(some 3), .load true 3, [.t 1], none⟩,
    ⟨(some 4), .call 28 [], [.t 3], none⟩,
    ⟨(some 5), .un .not, [.t 4], none⟩]) <|
  .cond (.t 5) (
    .seq (.reg [⟨(some 6), .bsl 1, [], none⟩,
      ⟨(some 2), .mv, [.t 6], none⟩]) <|
    .ret) (
    .skip)) <|
  .seq (.draw (
    .alt ⟨(some 7), .load true 3, [.t 1], none⟩ (
      .alt ⟨(some 8), .load true 3, [.t 1], none⟩ (
        .alt ⟨(some 9), .call 43 [], [.t 8], none⟩ (
          .alt ⟨(some 10), .call 50 [], [.t 7, .t 9], none⟩ (
            .take ⟨(some 2), .mv, [.t 10], none⟩ <|
            .done) <|
          .stop) <|
        .stop) <|
      .stop) <|
    .alt ⟨(some 8), .load true 3, [.t 1], none⟩ (
      .alt ⟨(some 7), .load true 3, [.t 1], none⟩ (
        .alt ⟨(some 9), .call 43 [], [.t 8], none⟩ (
          .alt ⟨(some 10), .call 50 [], [.t 7, .t 9], none⟩ (
            .take ⟨(some 2), .mv, [.t 10], none⟩ <|
            .done) <|
          .stop) <|
        .stop) <|
      .alt ⟨(some 9), .call 43 [], [.t 8], none⟩ (
        .alt ⟨(some 7), .load true 3, [.t 1], none⟩ (
          .alt ⟨(some 10), .call 50 [], [.t 7, .t 9], none⟩ (
            .take ⟨(some 2), .mv, [.t 10], none⟩ <|
            .done) <|
          .stop) <|
        .stop) <|
      .stop) <|
    .stop)) <|
  .ret

theorem k_spec_TilingsAll : cFn Try.prog n_spec_TilingsAll 11 [.t 2] c_spec_TilingsAll := ⟨Try.f30, _, Try.func30, rfl, by kernel_rfl, by kernel_rfl, by kernel_rfl, by kernel_rfl⟩

-- 2 parameters, results [.t 4], 37 slots, modes [false, false]
@[simp] abbrev n_spec_SolutionsAll : Nat := 15
def c_spec_SolutionsAll_L0 : ACode :=
  .seq (.seq (.reg [⟨(some 11), .mv, [.t 7], none⟩,
    ⟨(some 12), .mv, [.t 6], none⟩,
    ⟨(some 13), .len false, [.t 12], none⟩,
    ⟨(some 14), .bin .lss 0, [.t 11, .t 13], none⟩,
    ⟨(some 15), .mv, [.t 14], none⟩,
    ⟨(some 16), .load true 3, [.t 2], (some (15, true))⟩,
    ⟨(some 17), .mv, [.t 1], (some (15, true))⟩,
    ⟨(some 18), .call 14 [], [.t 16, .t 17], (some (15, true))⟩,
    ⟨(some 19), .pick, [.t 15, .t 18, .c (.v (.bool false))], none⟩]) <|
  .cond (.t 19) (
    .skip) (
    .exit 0)) <|
  .seq (.block 1 (
    .seq (.draw (
      .take ⟨(some 23), .mv, [.t 1], none⟩ <|
      .take ⟨(some 24), .mv, [.t 6], none⟩ <|
      .take ⟨(some 25), .mv, [.t 7], none⟩ <|
      .take ⟨(some 26), .iadr 1, [.t 24, .t 25], none⟩ <|
      .alt ⟨(some 22), .load true 3, [.t 2], none⟩ (
        .alt ⟨(some 27), .load false 1, [.t 26], none⟩ (
          .alt ⟨(some 28), .call 31 [], [.t 22, .t 23, .t 27], none⟩ (
            .done) <|
          .stop) <|
        .stop) <|
      .alt ⟨(some 27), .load false 1, [.t 26], none⟩ (
        .alt ⟨(some 22), .load true 3, [.t 2], none⟩ (
          .alt ⟨(some 28), .call 31 [], [.t 22, .t 23, .t 27], none⟩ (
            .done) <|
          .stop) <|
        .stop) <|
      .stop)) <|
    .cond (.t 28) (
      .reg [⟨(some 29), .mv, [.t 5], none⟩,
        ⟨(some 30), .mv, [.t 6], none⟩,
        ⟨(some 31), .mv, [.t 7], none⟩,
        ⟨(some 32), .iadr 1, [.t 30, .t 31], none⟩,
        ⟨(some 33), .load false 1, [.t 32], none⟩,
        ⟨(some 34), .bsl 1, [.t 33], none⟩,
        ⟨(some 35), .app 1 24 false, [.t 29, .t 34], none⟩,
        ⟨(some 5), .mv, [.t 35], none⟩]) (
      .skip))) <|
  .reg [⟨(some 20), .mv, [.t 7], none⟩,
    ⟨(some 21), .bin .add 0, [.t 20, .c (.v (.int .i64 (1)))], none⟩,
    ⟨(some 7), .mv, [.t 21], none⟩]

def c_spec_SolutionsAll : ACode :=
  .seq (.reg [⟨(some 2), .box, [.t 0], none⟩,
    ⟨(some 4), .mv, [.c (.os 1 [])], none⟩]) <|
  .seq (.reg [⟨(some 8), .bsl 1, [], none⟩,
    ⟨(some 5), .mv, [.t 8], none⟩]) <|
  .seq (.reg [⟨(some 9), .load true 3, [.t 2], none⟩,
    ⟨(some 10), .call 30 [], [.t 9], none⟩,
    ⟨(some 6), .mv, [.t 10], none⟩]) <|
  .seq (.seq (.reg [⟨(some 7), .mv, [.c (.v (.int .i64 (0)))], none⟩]) <|
  .block 0 (
    .loop [(1, 1), (5, 1), (6, 1)] [1, 2, 5, 6, 7] c_spec_SolutionsAll_L0)) <|
  .seq (.reg [⟨(some 36), .mv, [.t 5], none⟩,
    ⟨(some 4), .mv, [.t 36], none⟩]) <|
  .ret

theorem k_spec_SolutionsAll : cFn Try.prog n_spec_SolutionsAll 37 [.t 4] c_spec_SolutionsAll := ⟨Try.f15, _, Try.func15, rfl, by kernel_rfl, by kernel_rfl, by kernel_rfl, by kernel_rfl⟩

-- 2 parameters, results [.t 4], 13 slots, modes [false, false]
@[simp] abbrev n_spec_SolutionsMany : Nat := 6

def c_spec_SolutionsMany : ACode :=
  .seq (.reg [⟨(some 2), .box, [.t 0], none⟩,
    ⟨(some 4), .mv, [.c (.v (.int .i64 (0)))], none⟩]) <|
  .seq (.seq (.reg [⟨(some 5), .load true 3, [.t 2], none⟩,
    ⟨(some 6), .mv, [.t 1], none⟩,
    ⟨(some 7), .call 14 [], [.t 5, .t 6], none⟩,
    ⟨(some 8), .un .not, [.t 7], none⟩]) <|
  .cond (.t 8) (
    .seq (.reg [⟨(some 4), .mv, [.c (.v (.int .i64 (-1)))], none⟩]) <|
    .ret) (
    .skip)) <|
  .seq (.reg [⟨(some 9), .load true 3, [.t 2], none⟩,
    ⟨(some 10), .mv, [.t 1], none⟩,
    ⟨(some 11), .call 15 [], [.t 9, .t 10], none⟩,
    ⟨(some 12), .len false, [.t 11], none⟩,
    ⟨(some 4), .mv, [.t 12], none⟩]) <|
  .ret

theorem k_spec_SolutionsMany : cFn Try.prog n_spec_SolutionsMany 13 [.t 4] c_spec_SolutionsMany := ⟨Try.f6, _, Try.func6, rfl, by kernel_rfl, by kernel_rfl, by kernel_rfl, by kernel_rfl⟩

-- 1 parameters, results [.t 2], 11 slots, modes [false]
@[simp] abbrev n_spec_LaidBare : Nat := 43

def c_spec_LaidBare : ACode :=
  .seq (.reg [⟨(some 1), .box, [.t 0], none⟩,
    ⟨(some 2), .mv, [.c (.os 1 [])], none⟩]) <|
  .seq (.seq (.reg [⟨(some 3), .load true 3, [.t 1], none⟩,
    ⟨(some 4), .call 28 [], [.t 3], none⟩,
    ⟨(some 5), .un .not, [.t 4], none⟩]) <|
  .cond (.t 5) (
    .seq (.reg [⟨(some 6), .bsl 1, [], none⟩,
      ⟨(some 2), .mv, [.t 6], none⟩]) <|
    .ret) (
    .skip)) <|
  .seq (.reg [⟨(some 7), .fadr 2, [.t 1], none⟩,
    ⟨(some 8), .load false 1, [.t 7], none⟩,
    ⟨(some 9), .len false, [.t 8], none⟩,
    ⟨(some 10), .mksl 1 8 (.v (.int .i64 (0))), [.t 9, .t 9], none⟩,
    ⟨(some 2), .mv, [.t 10], none⟩]) <|
  .ret

theorem k_spec_LaidBare : cFn Try.prog n_spec_LaidBare 11 [.t 2] c_spec_LaidBare := ⟨Try.f43, _, Try.func43, rfl, by kernel_rfl, by kernel_rfl, by kernel_rfl, by kernel_rfl⟩

end Go.Proofs.Dev

namespace Go.Proofs.Dev
set_option linter.unusedSimpArgs false
set_option maxRecDepth 100000

/-- Who takes ownership: 139 of its second argument. -/
@[simp] def md1 (f : Nat) : List Bool := if f = 50 then [false, true] else md0 f

def bareB (cs : List Bool) (ls : List Int) (k : Nat) : Bool := atb cs k && decide (ati ls k = 0)
def bareI (cs : List Bool) (ls : List Int) : Int := firstI (bareB cs ls) ls.length
/-- All tilings that have the dominoes of a list. -/
def allT (W T : Int) (cs : List Bool) : Nat → List Int → List (List Int)
  | 0, ls => [ls]
  | n + 1, ls => if bareI cs ls < 0 then [ls] else
      (if freeB W T cs ls (bareI cs ls) 1 then allT W T cs n (layI W T ls (bareI cs ls) 1) else []) ++
      (if freeB W T cs ls (bareI cs ls) 2 then allT W T cs n (layI W T ls (bareI cs ls) 2) else [])

theorem allT_length (W T : Int) (cs : List Bool) : ∀ (n : Nat) (ls : List Int), (allT W T cs n ls).length ≤ 2 ^ n
  | 0, ls => by simp [allT]
  | n + 1, ls => by
    have h1 := allT_length W T cs n (layI W T ls (bareI cs ls) 1)
    have h2 := allT_length W T cs n (layI W T ls (bareI cs ls) 2)
    have h3 : 0 < 2 ^ n := Nat.pow_pos (by omega)
    rw [allT]
    split
    · simp only [List.length_singleton]; omega
    · rw [List.length_append]
      have e1 : (if freeB W T cs ls (bareI cs ls) 1 then allT W T cs n (layI W T ls (bareI cs ls) 1) else []).length ≤ 2 ^ n := by
        split
        · exact h1
        · simp
      have e2 : (if freeB W T cs ls (bareI cs ls) 2 then allT W T cs n (layI W T ls (bareI cs ls) 2) else []).length ≤ 2 ^ n := by
        split
        · exact h2
        · simp
      omega

theorem bare_cases (cs : List Bool) (ls : List Int) : bareI cs ls = -1 ∨ ∃ k : Nat, k < ls.length ∧ bareI cs ls = k ∧ atb cs k = true ∧ ati ls k = 0 := by
  rcases firstI_cases (bareB cs ls) ls.length with h | ⟨k, hk, hp, he⟩
  · left; exact h
  · right
    simp only [bareB, Bool.and_eq_true, decide_eq_true_eq] at hp
    exact ⟨k, hk, he, hp.1, hp.2⟩

theorem lay_zeros {W T : Int} {ls : List Int} {k : Nat} {way : Int} (hk : k < ls.length) (hz : ati ls k = 0) (h1 : 1 ≤ way) (h4 : way ≤ 4) : zeros (layI W T ls k way) < zeros ls := by
  have hb : backI way ≠ 0 := by
    have := (backI_back h1 h4).2
    omega
  refine Nat.lt_of_le_of_lt (zeros_set_le hb) ?_
  exact zeros_set_lt (by simpa using hk) (by simpa using hz) (by omega)

theorem s_spec_l2First (W T : Int) (cs : List Bool) (ls : List Int) (hl : ls.length = cs.length) (hb : cs.length < 2 ^ 40) :
    SoundAt Try.prog n_spec_l2First [.agg [.v (.int .i64 W), .v (.int .i64 T), .sl 1 1 (bools cs)], .sl 1 1 (ints ls)] (.v (.int .i64 (bareI cs ls))) [.bot, .bot] := by
  refine fn_ok (md := md0) (ms := [false, false]) k_spec_l2First (by simp) ?_
  simp [c_spec_l2First]
  refine loop_by (fun m E H => ∃ i : Nat, m = ls.length - i ∧ i ≤ ls.length ∧ (∀ j : Nat, j < i → bareB cs ls j = false) ∧ H = [some (.box [.v (.int .i64 W), .v (.int .i64 T), .sl 1 1 (bools cs)])] ∧
    E = [(1, .sl 1 1 (ints ls)), (2, .lp 0 0 0 0), (5, .v (.int .i64 i))]) ls.length ⟨0, by simp⟩ ?_
  rintro J hJ m E H ⟨i, rfl, hi, ha, rfl, rfl⟩
  by_cases h : i < ls.length
  case neg =>
    have : i = ls.length := by omega
    subst this
    have e : bareI cs ls = -1 := firstI_none ha
    simp [c_spec_l2First_L0, e]
  have next : bareB cs ls i = false → again J (ls.length - i) [(1, .sl 1 1 (ints ls)), (2, .lp 0 0 0 0), (5, .v (.int .i64 (i + 1)))]
      [some (.box [.v (.int .i64 W), .v (.int .i64 T), .sl 1 1 (bools cs)])] := by
    intro hx
    refine ⟨_, by omega, hJ _ _ _ ⟨i + 1, rfl, h, ?_, rfl, rfl⟩⟩
    intro j hj
    rcases Nat.lt_or_ge j i with h1 | h1
    · exact ha j h1
    · have : j = i := by omega
      subst this; exact hx
  have h2 : i < cs.length := by omega
  cases hc : atb cs i with
  | false =>
    simp [c_spec_l2First_L0, h, h2, hc]
    exact ⟨by omega, next (by simp [bareB, hc])⟩
  | true =>
  by_cases z : ati ls i = 0
  · have e : bareI cs ls = i := firstI_hit h (by simp [bareB, hc, z]) ha
    simp [c_spec_l2First_L0, h, h2, hc, z, e]
  · simp [c_spec_l2First_L0, h, h2, hc, z]
    exact ⟨by omega, next (by simp [bareB, z])⟩

theorem allT_leaf {W T : Int} {cs : List Bool} {ls : List Int} (n : Nat) (h : bareI cs ls < 0) : allT W T cs n ls = [ls] := by
  cases n with
  | zero => rfl
  | succ n => simp [allT, h]

def partT (W T : Int) (cs : List Bool) (n : Nat) (ls : List Int) (cell way : Int) : List (List Int) := if freeB W T cs ls cell way then allT W T cs n (layI W T ls cell way) else []
def accT (W T : Int) (cs : List Bool) (n : Nat) (ls : List Int) (cell : Int) (i : Nat) : List (List Int) := (List.range i).flatMap fun j : Nat => partT W T cs n ls cell (j + 1)
theorem accT_succ (W T : Int) (cs : List Bool) (n : Nat) (ls : List Int) (cell : Int) (i : Nat) : accT W T cs n ls cell (i + 1) = accT W T cs n ls cell i ++ partT W T cs n ls cell (i + 1) := by
  simp [accT, List.range_succ]
theorem partT_length (W T : Int) (cs : List Bool) (n : Nat) (ls : List Int) (cell way : Int) : (partT W T cs n ls cell way).length ≤ 2 ^ n := by
  unfold partT; split
  · exact allT_length ..
  · simp
theorem accT_length (W T : Int) (cs : List Bool) (n : Nat) (ls : List Int) (cell : Int) : ∀ i, (accT W T cs n ls cell i).length ≤ i * 2 ^ n
  | 0 => by simp [accT]
  | i + 1 => by
    have h1 := accT_length W T cs n ls cell i
    have h2 := partT_length W T cs n ls cell (i + 1)
    rw [accT_succ, List.length_append, Nat.succ_mul]
    omega

theorem zeros_pos {ls : List Int} {k : Nat} (h : k < ls.length) (hz : ati ls k = 0) : 0 < zeros ls := by
  have := zeros_set_lt (v := 1) h hz (by omega)
  omega

theorem s_spec_l2All (W T : Int) (cs : List Bool) (hr : regB W T cs = true) : ∀ (n : Nat) (ls : List Int), n ≤ 36 → zeros ls ≤ n → laysB W T cs ls = true →
    SoundAt Try.prog n_spec_l2All [.agg [.v (.int .i64 W), .v (.int .i64 T), .sl 1 1 (bools cs)], .os 1 (ints ls)] (.os 1 (oss (allT W T cs n ls))) [.bot, .bot] := by
  intro n
  have h36 := regB_len hr
  induction n with
  | zero =>
    intro ls hn hz hy
    have hl : ls.length = cs.length := by simp only [laysB, Bool.and_eq_true, decide_eq_true_eq] at hy; exact hy.1
    refine fn_ok (md := md1) (ms := [false, false]) k_spec_l2All (by simp) ?_
    simp [c_spec_l2All]
    refine call_on (s_spec_l2First W T cs ls hl (by omega)) ?_
    rcases bare_cases cs ls with h | ⟨k, hk, he, hc, hzk⟩
    · simp [h, allT_leaf, oss_one]
    · have := zeros_pos hk hzk
      omega
  | succ n ih =>
    intro ls hn hz hy
    have hl : ls.length = cs.length := by simp only [laysB, Bool.and_eq_true, decide_eq_true_eq] at hy; exact hy.1
    refine fn_ok (md := md1) (ms := [false, false]) k_spec_l2All (by simp) ?_
    simp [c_spec_l2All]
    refine call_on (s_spec_l2First W T cs ls hl (by omega)) ?_
    rcases bare_cases cs ls with h | ⟨k, hk, he, hc, hzk⟩
    · simp [h, allT_leaf, oss_one]
    have hk0 : ¬ (k : Int) < 0 := by omega
    have hall : allT W T cs (n + 1) ls = accT W T cs n ls k 2 := by
      rw [allT, he, if_neg hk0]
      simp [accT, partT, List.range_succ]
    rw [hall]
    simp [he, hk0]
    refine loop_by (fun m E H => ∃ i : Nat, m = 2 - i ∧ i ≤ 2 ∧ H = [some (.arr 1 (ints ls)), some (.box [.v (.int .i64 W), .v (.int .i64 T), .sl 1 1 (bools cs)]), some (.arr 1 (oss (accT W T cs n ls k i)))] ∧
      E = [(1, .ls 1 0 0 ls.length), (2, .lp 0 1 0 0), (5, .ls 1 2 0 (accT W T cs n ls k i).length), (6, .v (.int .i64 k)), (7, .v (.int .i64 (i + 1)))]) 2 ⟨0, by simp [accT]⟩ ?_
    rintro J hJ m E H ⟨i, rfl, hi, rfl, rfl⟩
    by_cases h : i < 2
    case neg =>
      have : i = 2 := by omega
      subst this
      simp [c_spec_l2All_L0]
    have h' : (i : Int) + 1 ≤ 2 := by omega
    have hsuc := accT_succ W T cs n ls k i
    have next : ∀ (x : List (List Int)), partT W T cs n ls k (i + 1) = x → again J (2 - i) [(1, .ls 1 0 0 ls.length), (2, .lp 0 1 0 0), (5, .ls 1 2 0 ((accT W T cs n ls k i).length + x.length)), (6, .v (.int .i64 k)), (7, .v (.int .i64 (i + 1 + 1)))]
        [some (.arr 1 (ints ls)), some (.box [.v (.int .i64 W), .v (.int .i64 T), .sl 1 1 (bools cs)]), some (.arr 1 (oss (accT W T cs n ls k i) ++ oss x))] := by
      intro x hx
      refine ⟨_, by omega, hJ _ _ _ ⟨i + 1, rfl, h, ?_, ?_⟩⟩
      · rw [hsuc, hx, oss_append]
      · rw [hsuc, hx, List.length_append]; rfl
    have one := s_spec_LayOne W T cs ls k (i + 1) hr hy
    simp [c_spec_l2All_L0, h']
    refine call_on one ?_
    cases hf : freeB W T cs ls k (i + 1) with
    | false =>
      have nx := next [] (by simp [partT, hf])
      simp at nx
      simp
      exact ⟨by omega, nx⟩
    | true =>
      have el : layOneL W T cs ls k (i + 1) = layI W T ls k (i + 1) := by simp [layOneL, hf]
      rw [el]
      have hy2 := lay_ok hr hy hf
      have hz2 : zeros (layI W T ls k (i + 1)) < zeros ls := lay_zeros hk hzk (by omega) (by omega)
      have two := ih (layI W T ls k (i + 1)) (by omega) (by omega) hy2
      have nx := next (allT W T cs n (layI W T ls k (i + 1))) (by simp [partT, hf])
      have hll := layI_length W T ls k (i + 1)
      have htk : (ints (layI W T ls k (i + 1))).take ls.length = ints (layI W T ls k (i + 1)) := List.take_of_length_le (by simp [hll])
      have b1 := allT_length W T cs n (layI W T ls k (i + 1))
      have b0 : 2 ^ n ≤ 2 ^ 36 := Nat.pow_le_pow_right (by omega) (by omega)
      have b2 := accT_length W T cs n ls k i
      have b3 : i * 2 ^ n ≤ 2 * 2 ^ n := Nat.mul_le_mul_right _ (by omega)
      have b4 : (accT W T cs n ls k i).length + (allT W T cs n (layI W T ls k (i + 1))).length ≤ 206158430208 := by omega
      simp [hll, htk]
      refine call_on two ?_
      simp [hll, htk]
      exact ⟨by omega, by omega, nx⟩

end Go.Proofs.Dev

namespace Go.Proofs.Dev
set_option linter.unusedSimpArgs false
set_option maxRecDepth 100000

def noneL (cs : List Bool) : List Int := List.replicate cs.length 0
theorem ati_none (cs : List Bool) (k : Int) : ati (noneL cs) k = 0 := by
  unfold ati noneL
  rw [List.getD_eq_getElem?_getD, List.getElem?_replicate]
  split <;> rfl
theorem lays_none (W T : Int) (cs : List Bool) : laysB W T cs (noneL cs) = true := by
  simp only [laysB, Bool.and_eq_true, decide_eq_true_eq, allB_iff]
  refine ⟨by simp [noneL], fun k _ => ?_⟩
  simp only [layAt, decide_eq_true_eq]
  exact .inl (ati_none cs k)

theorem allT_mem (W T : Int) (cs : List Bool) : ∀ (n : Nat) (ls p : List Int), p ∈ allT W T cs n ls → p.length = ls.length
  | 0, ls, p, h => by simp [allT] at h; rw [h]
  | n + 1, ls, p, h => by
    rw [allT] at h
    split at h
    · simp at h; rw [h]
    · rw [List.mem_append] at h
      rcases h with h | h <;> split at h
      · rw [allT_mem W T cs n _ p h, layI_length]
      · cases h
      · rw [allT_mem W T cs n _ p h, layI_length]
      · cases h

def tilesI (W T : Int) (cs : List Bool) : List (List Int) := if regB W T cs then allT W T cs cs.length (noneL cs) else []
theorem tiles_mem {W T : Int} {cs : List Bool} {p : List Int} (h : p ∈ tilesI W T cs) : p.length = cs.length := by
  unfold tilesI at h
  split at h
  · rw [allT_mem W T cs _ _ p h]; simp [noneL]
  · cases h
theorem tiles_length {W T : Int} {cs : List Bool} : (tilesI W T cs).length ≤ 68719476736 := by
  unfold tilesI
  split
  · rename_i hr
    have h1 := allT_length W T cs cs.length (noneL cs)
    have h2 : 2 ^ cs.length ≤ 2 ^ 36 := Nat.pow_le_pow_right (by omega) (regB_len hr)
    omega
  · simp

theorem s_spec_LaidBare (W T : Int) (cs : List Bool) (hb : cs.length < 2 ^ 40) :
    SoundAt Try.prog n_spec_LaidBare [.agg [.v (.int .i64 W), .v (.int .i64 T), .sl 1 1 (bools cs)]] (.os 1 (ints (if regB W T cs then noneL cs else []))) [.bot] := by
  refine fn_ok (md := md0) (ms := [false]) k_spec_LaidBare (by simp) ?_
  simp [c_spec_LaidBare]
  refine call_on (s_spec_RegionValid W T cs hb) ?_
  cases hr : regB W T cs with
  | false => simp
  | true =>
  simp [noneL, ints_rep]
  exact ⟨by omega, List.take_of_length_le (by simp)⟩

theorem s_spec_TilingsAll (W T : Int) (cs : List Bool) (hb : cs.length < 2 ^ 40) :
    SoundAt Try.prog n_spec_TilingsAll [.agg [.v (.int .i64 W), .v (.int .i64 T), .sl 1 1 (bools cs)]] (.os 1 (oss (tilesI W T cs))) [.bot] := by
  refine fn_ok (md := md1) (ms := [false]) k_spec_TilingsAll (by simp) ?_
  simp [c_spec_TilingsAll]
  refine call_on (s_spec_RegionValid W T cs hb) ?_
  cases hr : regB W T cs with
  | false => simp [tilesI, hr]
  | true =>
  have one := s_spec_LaidBare W T cs hb
  rw [if_pos hr] at one
  have hn : (noneL cs).length = cs.length := by simp [noneL]
  have hz : zeros (noneL cs) ≤ cs.length := by have := zeros_le (noneL cs); omega
  have two := s_spec_l2All W T cs hr cs.length (noneL cs) (regB_len hr) hz (lays_none W T cs)
  have et : tilesI W T cs = allT W T cs cs.length (noneL cs) := by simp [tilesI, hr]
  have htk : (ints (noneL cs)).take cs.length = ints (noneL cs) := List.take_of_length_le (by simp [hn])
  rw [et]
  simp
  (repeat' first | assumption | omega | apply And.intro) <;>
  · refine call_on one ?_
    simp [hn, htk]
    (repeat' first | assumption | omega | apply And.intro) <;>
    · refine call_on two ?_
      simp [hn, htk]

def solsI (W T : Int) (cs : List Bool) (ds : List Int) : List (List Int) := if (regB W T cs && digsB cs ds) = true then (tilesI W T cs).filter (solvedB W T cs ds) else []

theorem filter_succ {ps : List (List Int)} {i : Nat} (f : List Int → Bool) (h : i < ps.length) : (ps.take (i + 1)).filter f = (ps.take i).filter f ++ if f (pti ps i) then [pti ps i] else [] := by
  rw [List.take_succ_eq_append_getElem h, List.filter_append, pti_get h]
  congr 1
  cases hf : f ps[i] <;> simp [hf]

theorem RL_reg {W T : Int} {cs : List Bool} : ∀ (C : Ctx) (S : List Nat) (us : List Value), RL C [.agg [.v (.int .i64 W), .v (.int .i64 T), .sl 1 1 (bools cs)]] S us → S = [] := by
  intro C S us h
  rw [RL] at h
  obtain ⟨S1, S2, u, us', rfl, rfl, h1, h2⟩ := h
  rw [RL] at h2
  rw [R] at h1
  obtain ⟨vs, _, h1⟩ := h1
  rw [RL] at h1
  obtain ⟨A1, A2, _, _, rfl, _, a1, h1⟩ := h1
  rw [RL] at h1
  obtain ⟨A3, A4, _, _, rfl, _, a3, h1⟩ := h1
  rw [RL] at h1
  obtain ⟨A5, A6, _, _, rfl, _, a5, h1⟩ := h1
  rw [RL] at h1
  rw [R] at a1
  rw [R] at a3
  rw [R] at a5
  rw [a1.1, a3.1, a5.1, h1.1, h2.1]
  rfl

theorem s_spec_TilingsAllF (W T : Int) (cs : List Bool) (hb : cs.length < 2 ^ 40) :
    SoundAt Try.prog n_spec_TilingsAll [.agg [.v (.int .i64 W), .v (.int .i64 T), .sl 1 1 (bools cs)]] (.sl 0 1 (sls 0 (tilesI W T cs))) [.bot] := by
  have h := SoundAt.frozen (n := 1) RL_reg (s_spec_TilingsAll W T cs hb)
  simpa [vw] using h

theorem s_spec_SolutionsAll (W T : Int) (cs : List Bool) (ds : List Int) (hb : cs.length < 2 ^ 40) (hd : ds.length < 2 ^ 40) :
    SoundAt Try.prog n_spec_SolutionsAll [.agg [.v (.int .i64 W), .v (.int .i64 T), .sl 1 1 (bools cs)], .sl 1 1 (ints ds)] (.os 1 (sls 0 (solsI W T cs ds))) [.bot, .bot] := by
  refine fn_ok (md := md1) (ms := [false, false]) k_spec_SolutionsAll (by simp) ?_
  simp [c_spec_SolutionsAll]
  refine call_on (s_spec_TilingsAllF W T cs hb) ?_
  simp
  have hpv := s_spec_PuzzleValid W T cs ds hb hd
  have hmem : ∀ p ∈ tilesI W T cs, p.length = cs.length := fun p hp => tiles_mem hp
  have htl := tiles_length (W := W) (T := T) (cs := cs)
  have esol : solsI W T cs ds = if (regB W T cs && digsB cs ds) = true then (tilesI W T cs).filter (solvedB W T cs ds) else [] := rfl
  generalize tilesI W T cs = ts at *
  refine loop_by (fun m E H => ∃ i : Nat, m = ts.length - i ∧ i ≤ ts.length ∧ (i = 0 ∨ (regB W T cs && digsB cs ds) = true) ∧ H = [some (.box [.v (.int .i64 W), .v (.int .i64 T), .sl 1 1 (bools cs)]), some (.arr 1 (sls 0 ((ts.take i).filter (solvedB W T cs ds))))] ∧
    E = [(1, .sl 1 1 (ints ds)), (2, .lp 0 0 0 0), (5, .ls 1 1 0 ((ts.take i).filter (solvedB W T cs ds)).length), (6, .sl 0 1 (sls 0 ts)), (7, .v (.int .i64 i))]) ts.length ⟨0, by simp⟩ ?_
  rintro J hJ m E H ⟨i, rfl, hi, hp0, rfl, rfl⟩
  by_cases h : i < ts.length
  case neg =>
    have : i = ts.length := by omega
    subst this
    have e2 : (ts.take ts.length).filter (solvedB W T cs ds) = solsI W T cs ds := by
      rw [List.take_length, esol]
      rcases hp0 with h0 | h0
      · have : ts = [] := List.eq_nil_of_length_eq_zero h0
        subst this
        simp
      · rw [if_pos h0]
    rw [e2]
    simp [c_spec_SolutionsAll_L0]
    exact List.take_of_length_le (by simp)
  simp [c_spec_SolutionsAll_L0, h]
  refine call_on hpv ?_
  cases hp : (regB W T cs && digsB cs ds) with
  | false =>
    have : i = 0 := by rcases hp0 with h0 | h0; exact h0; rw [hp] at h0; cases h0
    subst this
    have e2 : solsI W T cs ds = [] := by rw [esol, if_neg (by simp [hp])]
    simp [e2]
  | true =>
  have hr : regB W T cs = true := by simp only [Bool.and_eq_true] at hp; exact hp.1
  have h36 := regB_len hr
  have hpl := hmem _ (pti_mem h)
  have one := s_spec_SolvedOk W T cs ds (pti ts i) hb hd (by omega)
  have hsuc := filter_succ (solvedB W T cs ds) h
  have hlen : ((ts.take i).filter (solvedB W T cs ds)).length ≤ i := by
    refine Nat.le_trans (List.length_filter_le _ _) ?_
    rw [List.length_take]; omega
  simp [h]
  (repeat' first | assumption | omega | apply And.intro) <;>
  · refine call_on one ?_
    cases hs : solvedB W T cs ds (pti ts i) with
    | false =>
      rw [if_neg (by simp [hs]), List.append_nil] at hsuc
      simp [h]
      exact ⟨by omega, _, by omega, hJ _ _ _ ⟨i + 1, rfl, h, .inr hp, by rw [hsuc], by rw [hsuc]; rfl⟩⟩
    | true =>
      rw [if_pos hs] at hsuc
      simp [h]
      exact ⟨by omega, by omega, _, by omega, hJ _ _ _ ⟨i + 1, rfl, h, .inr hp, by rw [hsuc]; simp [sls], by rw [hsuc]; simp⟩⟩

def solsN (W T : Int) (cs : List Bool) (ds : List Int) : Int := if (regB W T cs && digsB cs ds) = true then (solsI W T cs ds).length else -1

theorem s_spec_SolutionsMany (W T : Int) (cs : List Bool) (ds : List Int) (hb : cs.length < 2 ^ 40) (hd : ds.length < 2 ^ 40) :
    SoundAt Try.prog n_spec_SolutionsMany [.agg [.v (.int .i64 W), .v (.int .i64 T), .sl 1 1 (bools cs)], .sl 1 1 (ints ds)] (.v (.int .i64 (solsN W T cs ds))) [.bot, .bot] := by
  refine fn_ok (md := md1) (ms := [false, false]) k_spec_SolutionsMany (by simp) ?_
  simp [c_spec_SolutionsMany]
  refine call_on (s_spec_PuzzleValid W T cs ds hb hd) ?_
  cases hp : (regB W T cs && digsB cs ds) with
  | false => simp [solsN, hp]
  | true =>
  simp
  refine call_on (s_spec_SolutionsAll W T cs ds hb hd) ?_
  simp [solsN, hp]

end Go.Proofs.Dev

namespace Go.Proofs.Dev
set_option linter.unusedSimpArgs false

theorem firstI_neg {p : Nat → Bool} {n : Nat} (h : firstI p n < 0) : ∀ j, j < n → p j = false := by
  intro j hj
  cases hx : p j with
  | false => rfl
  | true =>
    exfalso
    have hm : ∃ x ∈ List.range n, p x = true := ⟨j, by simpa using hj, hx⟩
    have hs := List.find?_isSome.2 hm
    unfold firstI at h
    split at h
    · omega
    · rename_i h9; rw [h9] at hs; cases hs

theorem full_of_bare {cs : List Bool} {ls : List Int} (hl : ls.length = cs.length) (h : bareI cs ls < 0) : fullB cs ls = true := by
  rw [fullB, allB_iff]
  intro k hk
  have h1 := firstI_neg h k (by omega)
  simp only [bareB] at h1
  simp only [fullAt, h1]
  rfl

theorem allT_full {W T : Int} {cs : List Bool} (hr : regB W T cs = true) : ∀ (n : Nat) (ls : List Int), zeros ls ≤ n → laysB W T cs ls = true → ∀ p ∈ allT W T cs n ls, laysB W T cs p = true ∧ fullB cs p = true := by
  intro n
  induction n with
  | zero =>
    intro ls hz hy p hp
    have hl : ls.length = cs.length := by simp only [laysB, Bool.and_eq_true, decide_eq_true_eq] at hy; exact hy.1
    simp only [allT, List.mem_singleton] at hp
    subst hp
    refine ⟨hy, full_of_bare hl ?_⟩
    rcases bare_cases cs p with h | ⟨k, hk, he, hc, hzk⟩
    · omega
    · have := zeros_pos hk hzk
      omega
  | succ n ih =>
    intro ls hz hy p hp
    have hl : ls.length = cs.length := by simp only [laysB, Bool.and_eq_true, decide_eq_true_eq] at hy; exact hy.1
    rw [allT] at hp
    split at hp
    · rename_i hb
      simp only [List.mem_singleton] at hp
      subst hp
      exact ⟨hy, full_of_bare hl hb⟩
    · rename_i hb
      rcases bare_cases cs ls with h | ⟨k, hk, he, hc, hzk⟩
      · omega
      rw [he] at hp
      have step : ∀ way : Int, 1 ≤ way → way ≤ 4 → freeB W T cs ls k way = true → p ∈ allT W T cs n (layI W T ls k way) → laysB W T cs p = true ∧ fullB cs p = true := by
        intro way w1 w4 hf hm
        have hz2 : zeros (layI W T ls k way) < zeros ls := lay_zeros hk hzk w1 w4
        exact ih (layI W T ls k way) (by omega) (lay_ok hr hy hf) p hm
      rw [List.mem_append] at hp
      rcases hp with hp | hp
      · split at hp
        · rename_i hf; exact step 1 (by omega) (by omega) hf hp
        · cases hp
      · split at hp
        · rename_i hf; exact step 2 (by omega) (by omega) hf hp
        · cases hp

/-- For a valid puzzle: of the tilings those solve it whose pairs are fair. -/
theorem sols_fair {W T : Int} {cs : List Bool} {ds : List Int} (h : (regB W T cs && digsB cs ds) = true) : solsI W T cs ds = (tilesI W T cs).filter (fun t => onceB (pairsI W T ds t)) := by
  have hr : regB W T cs = true := by simp only [Bool.and_eq_true] at h; exact h.1
  have hd : digsB cs ds = true := by simp only [Bool.and_eq_true] at h; exact h.2
  have hn : (noneL cs).length = cs.length := by simp [noneL]
  have hz : zeros (noneL cs) ≤ cs.length := by have := zeros_le (noneL cs); omega
  rw [solsI, if_pos h]
  apply List.filter_congr
  intro t ht
  rw [tilesI, if_pos hr] at ht
  obtain ⟨h1, h2⟩ := allT_full hr cs.length (noneL cs) hz (lays_none W T cs) t ht
  simp only [solvedB, fairB, okB, hr, hd, h1, h2, Bool.true_and, Bool.and_true]

end Go.Proofs.Dev
