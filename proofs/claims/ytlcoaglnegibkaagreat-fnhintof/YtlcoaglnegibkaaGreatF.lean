/- Contracts of the functions of the program over slots and rows, each proved against the program itself; no condition beyond those that each theorem names. -/
import Derived.Test.YtlcoaglnegibkaaGreatE
import Derived.Test.YtlcoaglnegibkaaGreatProg

set_option linter.unusedSimpArgs false
set_option linter.unusedVariables false

namespace Go.Proofs.Dev

-- 3 parameters, results [.t 6], 15 slots, modes [false, false, false]
@[simp] abbrev n_spec_l1In : Nat := 76

def c_spec_l1In : ACode :=
  .seq (.reg [⟨(some 6), .mv, [.c (.v (.bool false))], none⟩]) <|
  .seq (.reg [⟨(some 7), .mv, [.t 0], none⟩,
    ⟨(some 8), .mv, [.t 1], none⟩,
    ⟨(some 9), .bin .geq 0, [.t 7, .t 8], none⟩,
    ⟨(some 10), .mv, [.t 9], none⟩,
    ⟨(some 11), .mv, [.t 0], (some (10, true))⟩,
    ⟨(some 12), .mv, [.t 2], (some (10, true))⟩,
    ⟨(some 13), .bin .leq 0, [.t 11, .t 12], (some (10, true))⟩,
    ⟨(some 14), .pick, [.t 10, .t 13, .c (.v (.bool false))], none⟩,
    ⟨(some 6), .mv, [.t 14], none⟩]) <|
  .ret

theorem k_spec_l1In : cFn Tryz.prog n_spec_l1In 15 [.t 6] c_spec_l1In := ⟨Tryz.f76, _, Tryz.func76, rfl, by kernel_rfl, by kernel_rfl, by kernel_rfl, by kernel_rfl⟩

-- 1 parameters, results [.t 2], 18 slots, modes [false]
@[simp] abbrev n_spec_l1Count : Nat := 93
def c_spec_l1Count_L0 : ACode :=
  .seq (.seq (.reg [⟨(some 5), .mv, [.t 4], none⟩,
    ⟨(some 6), .mv, [.t 0], none⟩,
    ⟨(some 7), .len false, [.t 6], none⟩,
    ⟨(some 8), .bin .lss 0, [.t 5, .t 7], none⟩]) <|
  .cond (.t 8) (
    .skip) (
    .exit 0)) <|
  .seq (.block 1 (
    .seq (.reg [⟨(some 11), .mv, [.t 0], none⟩,
      ⟨(some 12), .mv, [.t 4], none⟩,
      ⟨(some 13), .iadr 1, [.t 11, .t 12], none⟩,
      ⟨(some 14), .load false 1, [.t 13], none⟩]) <|
    .cond (.t 14) (
      .reg [⟨(some 15), .mv, [.t 3], none⟩,
        ⟨(some 16), .bin .add 0, [.t 15, .c (.v (.int .i64 (1)))], none⟩,
        ⟨(some 3), .mv, [.t 16], none⟩]) (
      .skip))) <|
  .reg [⟨(some 9), .mv, [.t 4], none⟩,
    ⟨(some 10), .bin .add 0, [.t 9, .c (.v (.int .i64 (1)))], none⟩,
    ⟨(some 4), .mv, [.t 10], none⟩]

def c_spec_l1Count : ACode :=
  .seq (.reg [⟨(some 2), .mv, [.c (.v (.int .i64 (0)))], none⟩]) <|
  .seq (.reg [⟨(some 3), .mv, [.c (.v (.int .i64 (0)))], none⟩]) <|
  .seq (.seq (.reg [⟨(some 4), .mv, [.c (.v (.int .i64 (0)))], none⟩]) <|
  .block 0 (
    .loop [(0, 1)] [0, 3, 4] c_spec_l1Count_L0)) <|
  .seq (.reg [⟨(some 17), .mv, [.t 3], none⟩,
    ⟨(some 2), .mv, [.t 17], none⟩]) <|
  .ret

theorem k_spec_l1Count : cFn Tryz.prog n_spec_l1Count 18 [.t 2] c_spec_l1Count := ⟨Tryz.f93, _, Tryz.func93, rfl, by kernel_rfl, by kernel_rfl, by kernel_rfl, by kernel_rfl⟩

-- 1 parameters, results [.t 2], 28 slots, modes [false]
@[simp] abbrev n_spec_RegionValid : Nat := 75

def c_spec_RegionValid : ACode :=
  .seq (.reg [⟨(some 1), .box, [.t 0], none⟩,
    ⟨(some 2), .mv, [.c (.v (.bool false))], none⟩]) <|
  .seq (.reg [⟨(some 3), .fadr 0, [.t 1], none⟩,
    ⟨(some 4), .load false 1, [.t 3], none⟩,
    ⟨(some 5), .call 76 [], [.t 4, .c (.v (.int .i64 (1))), .c (.v (.int .i64 (6)))], none⟩,
    ⟨(some 6), .mv, [.t 5], none⟩,
    ⟨(some 7), .fadr 1, [.t 1], (some (6, true))⟩,
    ⟨(some 8), .load false 1, [.t 7], (some (6, true))⟩,
    ⟨(some 9), .call 76 [], [.t 8, .c (.v (.int .i64 (1))), .c (.v (.int .i64 (6)))], (some (6, true))⟩,
    ⟨(some 10), .pick, [.t 6, .t 9, .c (.v (.bool false))], none⟩,
    ⟨(some 11), .mv, [.t 10], none⟩,
    ⟨(some 12), .fadr 2, [.t 1], (some (11, true))⟩,
    ⟨(some 13), .load false 1, [.t 12], (some (11, true))⟩,
    ⟨(some 14), .len false, [.t 13], (some (11, true))⟩,
    ⟨(some 15), .fadr 0, [.t 1], (some (11, true))⟩,
    ⟨(some 16), .load false 1, [.t 15], (some (11, true))⟩,
    ⟨(some 17), .fadr 1, [.t 1], (some (11, true))⟩,
    ⟨(some 18), .load false 1, [.t 17], (some (11, true))⟩,
    ⟨(some 19), .bin .mul 0, [.t 16, .t 18], (some (11, true))⟩,
    ⟨(some 20), .bin .eql 0, [.t 14, .t 19], (some (11, true))⟩,
    ⟨(some 21), .pick, [.t 11, .t 20, .c (.v (.bool false))], none⟩,
    ⟨(some 22), .mv, [.t 21], none⟩,
    ⟨(some 23), .fadr 2, [.t 1], (some (22, true))⟩,
    ⟨(some 24), .load false 1, [.t 23], (some (22, true))⟩,
    ⟨(some 25), .call 93 [], [.t 24], (some (22, true))⟩,
    ⟨(some 26), .bin .leq 0, [.t 25, .c (.v (.int .i64 (24)))], (some (22, true))⟩,
    ⟨(some 27), .pick, [.t 22, .t 26, .c (.v (.bool false))], none⟩,
    ⟨(some 2), .mv, [.t 27], none⟩]) <|
  .ret

theorem k_spec_RegionValid : cFn Tryz.prog n_spec_RegionValid 28 [.t 2] c_spec_RegionValid := ⟨Tryz.f75, _, Tryz.func75, rfl, by kernel_rfl, by kernel_rfl, by kernel_rfl, by kernel_rfl⟩

-- 2 parameters, results [.t 4], 51 slots, modes [false, false]
@[simp] abbrev n_spec_PuzzleValid : Nat := 39
def c_spec_PuzzleValid_L0 : ACode :=
  .seq (.seq (.reg [⟨(some 17), .mv, [.t 5], none⟩,
    ⟨(some 18), .mv, [.t 1], none⟩,
    ⟨(some 19), .len false, [.t 18], none⟩,
    ⟨(some 20), .bin .lss 0, [.t 17, .t 19], none⟩]) <|
  .cond (.t 20) (
    .skip) (
    .exit 0)) <|
  .seq (.block 1 (
    .seq (.reg [⟨(some 23), .fadr 2, [.t 2], none⟩,
      ⟨(some 24), .load false 1, [.t 23], none⟩,
      ⟨(some 25), .mv, [.t 5], none⟩,
      ⟨(some 26), .iadr 1, [.t 24, .t 25], none⟩,
      ⟨(some 27), .load false 1, [.t 26], none⟩,
      ⟨(some 28), .mv, [.t 27], none⟩,
      ⟨(some 29), .mv, [.t 1], (some (28, true))⟩,
      ⟨(some 30), .mv, [.t 5], (some (28, true))⟩,
      ⟨(some 31), .iadr 1, [.t 29, .t 30], (some (28, true))⟩,
      ⟨(some 32), .load false 1, [.t 31], (some (28, true))⟩,
      ⟨(some 33), .call 76 [], [.t 32, .c (.v (.int .i64 (0))), .c (.v (.int .i64 (6)))], (some (28, true))⟩,
      ⟨(some 34), .un .not, [.t 33], (some (28, true))⟩,
      ⟨(some 35), .pick, [.t 28, .t 34, .c (.v (.bool false))], none⟩,
      ⟨(some 36), .mv, [.t 35], none⟩,
      ⟨(some 37), .fadr 2, [.t 2], (some (36, false))⟩,
      ⟨(some 38), .load false 1, [.t 37], (some (36, false))⟩,
      ⟨(some 39), .mv, [.t 5], (some (36, false))⟩,
      ⟨(some 40), .iadr 1, [.t 38, .t 39], (some (36, false))⟩,
      ⟨(some 41), .load false 1, [.t 40], (some (36, false))⟩,
      ⟨(some 42), .un .not, [.t 41], (some (36, false))⟩,
      ⟨(some 43), .mv, [.t 42], (some (36, false))⟩,
      ⟨(some 44), .mv, [.t 1], (some (43, true))⟩,
      ⟨(some 45), .mv, [.t 5], (some (43, true))⟩,
      ⟨(some 46), .iadr 1, [.t 44, .t 45], (some (43, true))⟩,
      ⟨(some 47), .load false 1, [.t 46], (some (43, true))⟩,
      ⟨(some 48), .bin .neq 0, [.t 47, .c (.v (.int .i64 (-1)))], (some (43, true))⟩,
      ⟨(some 49), .pick, [.t 43, .t 48, .c (.v (.bool false))], (some (36, false))⟩,
      ⟨(some 50), .pick, [.t 36, .c (.v (.bool true)), .t 49], none⟩]) <|
    .cond (.t 50) (
      .seq (.reg [⟨(some 4), .mv, [.c (.v (.bool false))], none⟩]) <|
      .ret) (
      .skip))) <|
  .reg [⟨(some 21), .mv, [.t 5], none⟩,
    ⟨(some 22), .bin .add 0, [.t 21, .c (.v (.int .i64 (1)))], none⟩,
    ⟨(some 5), .mv, [.t 22], none⟩]

def c_spec_PuzzleValid : ACode :=
  .seq (.reg [⟨(some 2), .box, [.t 0], none⟩,
    ⟨(some 4), .mv, [.c (.v (.bool false))], none⟩]) <|
  .seq (.seq (.reg [⟨(some 6), .load true 3, [.t 2], none⟩,
    ⟨(some 7), .call 75 [], [.t 6], none⟩,
    ⟨(some 8), .un .not, [.t 7], none⟩,
    ⟨(some 9), .mv, [.t 8], none⟩,
    ⟨(some 10), .mv, [.t 1], (some (9, false))⟩,
    ⟨(some 11), .len false, [.t 10], (some (9, false))⟩,
    ⟨(some 12), .fadr 2, [.t 2], (some (9, false))⟩,
    ⟨(some 13), .load false 1, [.t 12], (some (9, false))⟩,
    ⟨(some 14), .len false, [.t 13], (some (9, false))⟩,
    ⟨(some 15), .bin .neq 0, [.t 11, .t 14], (some (9, false))⟩,
    ⟨(some 16), .pick, [.t 9, .c (.v (.bool true)), .t 15], none⟩]) <|
  .cond (.t 16) (
    .seq (.reg [⟨(some 4), .mv, [.c (.v (.bool false))], none⟩]) <|
    .ret) (
    .skip)) <|
  .seq (.seq (.reg [⟨(some 5), .mv, [.c (.v (.int .i64 (0)))], none⟩]) <|
  .block 0 (
    .loop [(1, 1)] [1, 2, 5] c_spec_PuzzleValid_L0)) <|
  .seq (.reg [⟨(some 4), .mv, [.c (.v (.bool true))], none⟩]) <|
  .ret

theorem k_spec_PuzzleValid : cFn Tryz.prog n_spec_PuzzleValid 51 [.t 4] c_spec_PuzzleValid := ⟨Tryz.f39, _, Tryz.func39, rfl, by kernel_rfl, by kernel_rfl, by kernel_rfl, by kernel_rfl⟩

-- 3 parameters, results [.t 6], 65 slots, modes [false, false, false]
@[simp] abbrev n_spec_l2Step : Nat := 77

def c_spec_l2Step : ACode :=
  .seq (.reg [⟨(some 3), .box, [.t 0], none⟩,
    ⟨(some 6), .mv, [.c (.v (.int .i64 (0)))], none⟩]) <|
  .seq (.block 0 (
    .seq (.draw (
      .take ⟨(some 8), .mv, [.t 2], none⟩ <|
      .take ⟨(some 9), .bin .eql 0, [.t 8, .c (.v (.int .i64 (1)))], none⟩ <|
      .take ⟨(some 10), .mv, [.t 9], none⟩ <|
      .take ⟨(some 11), .mv, [.t 1], (some (10, true))⟩ <|
      .take ⟨(some 12), .fadr 0, [.t 3], (some (10, true))⟩ <|
      .take ⟨(some 15), .fadr 0, [.t 3], (some (10, true))⟩ <|
      .alt ⟨(some 13), .load false 1, [.t 12], (some (10, true))⟩ (
        .take ⟨(some 14), .bin .rem 0, [.t 11, .t 13], (some (10, true))⟩ <|
        .alt ⟨(some 16), .load false 1, [.t 15], (some (10, true))⟩ (
          .take ⟨(some 17), .bin .sub 0, [.t 16, .c (.v (.int .i64 (1)))], (some (10, true))⟩ <|
          .take ⟨(some 18), .bin .lss 0, [.t 14, .t 17], (some (10, true))⟩ <|
          .take ⟨(some 19), .pick, [.t 10, .t 18, .c (.v (.bool false))], none⟩ <|
          .take ⟨(some 7), .mv, [.t 19], none⟩ <|
          .done) <|
        .stop) <|
      .alt ⟨(some 16), .load false 1, [.t 15], (some (10, true))⟩ (
        .take ⟨(some 17), .bin .sub 0, [.t 16, .c (.v (.int .i64 (1)))], (some (10, true))⟩ <|
        .alt ⟨(some 13), .load false 1, [.t 12], (some (10, true))⟩ (
          .take ⟨(some 14), .bin .rem 0, [.t 11, .t 13], (some (10, true))⟩ <|
          .take ⟨(some 18), .bin .lss 0, [.t 14, .t 17], (some (10, true))⟩ <|
          .take ⟨(some 19), .pick, [.t 10, .t 18, .c (.v (.bool false))], none⟩ <|
          .take ⟨(some 7), .mv, [.t 19], none⟩ <|
          .done) <|
        .stop) <|
      .stop)) <|
    .cond (.t 7) (
      .seq (.reg [⟨(some 20), .mv, [.t 1], none⟩,
        ⟨(some 21), .bin .add 0, [.t 20, .c (.v (.int .i64 (1)))], none⟩,
        ⟨(some 6), .mv, [.t 21], none⟩]) <|
      .ret) (
      .seq (.draw (
        .take ⟨(some 23), .mv, [.t 2], none⟩ <|
        .take ⟨(some 24), .bin .eql 0, [.t 23, .c (.v (.int .i64 (2)))], none⟩ <|
        .take ⟨(some 25), .mv, [.t 24], none⟩ <|
        .take ⟨(some 26), .mv, [.t 1], (some (25, true))⟩ <|
        .take ⟨(some 27), .fadr 0, [.t 3], (some (25, true))⟩ <|
        .take ⟨(some 30), .fadr 1, [.t 3], (some (25, true))⟩ <|
        .alt ⟨(some 28), .load false 1, [.t 27], (some (25, true))⟩ (
          .take ⟨(some 29), .bin .quo 0, [.t 26, .t 28], (some (25, true))⟩ <|
          .alt ⟨(some 31), .load false 1, [.t 30], (some (25, true))⟩ (
            .take ⟨(some 32), .bin .sub 0, [.t 31, .c (.v (.int .i64 (1)))], (some (25, true))⟩ <|
            .take ⟨(some 33), .bin .lss 0, [.t 29, .t 32], (some (25, true))⟩ <|
            .take ⟨(some 34), .pick, [.t 25, .t 33, .c (.v (.bool false))], none⟩ <|
            .take ⟨(some 22), .mv, [.t 34], none⟩ <|
            .done) <|
          .stop) <|
        .alt ⟨(some 31), .load false 1, [.t 30], (some (25, true))⟩ (
          .take ⟨(some 32), .bin .sub 0, [.t 31, .c (.v (.int .i64 (1)))], (some (25, true))⟩ <|
          .alt ⟨(some 28), .load false 1, [.t 27], (some (25, true))⟩ (
            .take ⟨(some 29), .bin .quo 0, [.t 26, .t 28], (some (25, true))⟩ <|
            .take ⟨(some 33), .bin .lss 0, [.t 29, .t 32], (some (25, true))⟩ <|
            .take ⟨(some 34), .pick, [.t 25, .t 33, .c (.v (.bool false))], none⟩ <|
            .take ⟨(some 22), .mv, [.t 34], none⟩ <|
            .done) <|
          .stop) <|
        .stop)) <|
      .cond (.t 22) (
        .seq (.reg [⟨(some 35), .mv, [.t 1], none⟩,
          ⟨(some 36), .fadr 0, [.t 3], none⟩,
          ⟨(some 37), .load false 1, [.t 36], none⟩,
          ⟨(some 38), .bin .add 0, [.t 35, .t 37], none⟩,
          ⟨(some 6), .mv, [.t 38], none⟩]) <|
        .ret) (
        .seq (.reg [⟨(some 40), .mv, [.t 2], none⟩,
          ⟨(some 41), .bin .eql 0, [.t 40, .c (.v (.int .i64 (3)))], none⟩,
          ⟨(some 42), .mv, [.t 41], none⟩,
          ⟨(some 43), .mv, [.t 1], (some (42, true))⟩,
          ⟨(some 44), .fadr 0, [.t 3], (some (42, true))⟩,
          ⟨(some 45), .load false 1, [.t 44], (some (42, true))⟩,
          ⟨(some 46), .bin .rem 0, [.t 43, .t 45], (some (42, true))⟩,
          ⟨(some 47), .bin .gtr 0, [.t 46, .c (.v (.int .i64 (0)))], (some (42, true))⟩,
          ⟨(some 48), .pick, [.t 42, .t 47, .c (.v (.bool false))], none⟩,
          ⟨(some 39), .mv, [.t 48], none⟩]) <|
        .cond (.t 39) (
          .seq (.reg [⟨(some 49), .mv, [.t 1], none⟩,
            ⟨(some 50), .bin .sub 0, [.t 49, .c (.v (.int .i64 (1)))], none⟩,
            ⟨(some 6), .mv, [.t 50], none⟩]) <|
          .ret) (
          .seq (.reg [⟨(some 52), .mv, [.t 2], none⟩,
            ⟨(some 53), .bin .eql 0, [.t 52, .c (.v (.int .i64 (4)))], none⟩,
            ⟨(some 54), .mv, [.t 53], none⟩,
            ⟨(some 55), .mv, [.t 1], (some (54, true))⟩,
            ⟨(some 56), .fadr 0, [.t 3], (some (54, true))⟩,
            ⟨(some 57), .load false 1, [.t 56], (some (54, true))⟩,
            ⟨(some 58), .bin .quo 0, [.t 55, .t 57], (some (54, true))⟩,
            ⟨(some 59), .bin .gtr 0, [.t 58, .c (.v (.int .i64 (0)))], (some (54, true))⟩,
            ⟨(some 60), .pick, [.t 54, .t 59, .c (.v (.bool false))], none⟩,
            ⟨(some 51), .mv, [.t 60], none⟩]) <|
          .cond (.t 51) (
            .seq (.reg [⟨(some 61), .mv, [.t 1], none⟩,
              ⟨(some 62), .fadr 0, [.t 3], none⟩,
              ⟨(some 63), .load false 1, [.t 62], none⟩,
              ⟨(some 64), .bin .sub 0, [.t 61, .t 63], none⟩,
              ⟨(some 6), .mv, [.t 64], none⟩]) <|
            .ret) (
            .skip)))))) <|
  .seq (.reg [⟨(some 6), .mv, [.c (.v (.int .i64 (-1)))], none⟩]) <|
  .ret

theorem k_spec_l2Step : cFn Tryz.prog n_spec_l2Step 65 [.t 6] c_spec_l2Step := ⟨Tryz.f77, _, Tryz.func77, rfl, by kernel_rfl, by kernel_rfl, by kernel_rfl, by kernel_rfl⟩

-- 1 parameters, results [.t 2], 7 slots, modes [false]
@[simp] abbrev n_spec_l2Back : Nat := 59

def c_spec_l2Back : ACode :=
  .seq (.reg [⟨(some 2), .mv, [.c (.v (.int .i64 (0)))], none⟩]) <|
  .seq (.reg [⟨(some 3), .mv, [.t 0], none⟩,
    ⟨(some 4), .bin .add 0, [.t 3, .c (.v (.int .i64 (1)))], none⟩,
    ⟨(some 5), .bin .rem 0, [.t 4, .c (.v (.int .i64 (4)))], none⟩,
    ⟨(some 6), .bin .add 0, [.t 5, .c (.v (.int .i64 (1)))], none⟩,
    ⟨(some 2), .mv, [.t 6], none⟩]) <|
  .ret

theorem k_spec_l2Back : cFn Tryz.prog n_spec_l2Back 7 [.t 2] c_spec_l2Back := ⟨Tryz.f59, _, Tryz.func59, rfl, by kernel_rfl, by kernel_rfl, by kernel_rfl, by kernel_rfl⟩

-- 2 parameters, results [.t 4], 72 slots, modes [false, false]
@[simp] abbrev n_spec_LaidOk : Nat := 40
def c_spec_LaidOk_L0 : ACode :=
  .seq (.seq (.reg [⟨(some 18), .mv, [.t 5], none⟩,
    ⟨(some 19), .mv, [.t 1], none⟩,
    ⟨(some 20), .len false, [.t 19], none⟩,
    ⟨(some 21), .bin .lss 0, [.t 18, .t 20], none⟩]) <|
  .cond (.t 21) (
    .skip) (
    .exit 0)) <|
  .seq (.block 1 (
    .seq (.seq (.reg [⟨(some 24), .mv, [.t 1], none⟩,
      ⟨(some 25), .mv, [.t 5], none⟩,
      ⟨(some 26), .iadr 1, [.t 24, .t 25], none⟩,
      ⟨(some 27), .load false 1, [.t 26], none⟩,
      ⟨(some 28), .bin .eql 0, [.t 27, .c (.v (.int .i64 (0)))], none⟩]) <|
    .cond (.t 28) (
      .exit 1) (
      .skip)) <|
    .seq (.seq (.reg [⟨(some 29), .mv, [.t 1], none⟩,
      ⟨(some 30), .mv, [.t 5], none⟩,
      ⟨(some 31), .iadr 1, [.t 29, .t 30], none⟩,
      ⟨(some 32), .load false 1, [.t 31], none⟩,
      ⟨(some 33), .call 76 [], [.t 32, .c (.v (.int .i64 (1))), .c (.v (.int .i64 (4)))], none⟩,
      ⟨(some 34), .un .not, [.t 33], none⟩,
      ⟨(some 35), .mv, [.t 34], none⟩,
      ⟨(some 36), .fadr 2, [.t 2], (some (35, false))⟩,
      ⟨(some 37), .load false 1, [.t 36], (some (35, false))⟩,
      ⟨(some 38), .mv, [.t 5], (some (35, false))⟩,
      ⟨(some 39), .iadr 1, [.t 37, .t 38], (some (35, false))⟩,
      ⟨(some 40), .load false 1, [.t 39], (some (35, false))⟩,
      ⟨(some 41), .un .not, [.t 40], (some (35, false))⟩,
      ⟨(some 42), .pick, [.t 35, .c (.v (.bool true)), .t 41], none⟩]) <|
    .cond (.t 42) (
      .seq (.reg [⟨(some 4), .mv, [.c (.v (.bool false))], none⟩]) <|
      .ret) (
      .skip)) <|
    .seq (.draw (
      .take ⟨(some 44), .mv, [.t 5], none⟩ <|
      .take ⟨(some 45), .mv, [.t 1], none⟩ <|
      .take ⟨(some 46), .mv, [.t 5], none⟩ <|
      .take ⟨(some 47), .iadr 1, [.t 45, .t 46], none⟩ <|
      .alt ⟨(some 43), .load true 3, [.t 2], none⟩ (
        .alt ⟨(some 48), .load false 1, [.t 47], none⟩ (
          .alt ⟨(some 49), .call 77 [], [.t 43, .t 44, .t 48], none⟩ (
            .take ⟨(some 6), .mv, [.t 49], none⟩ <|
            .done) <|
          .stop) <|
        .stop) <|
      .alt ⟨(some 48), .load false 1, [.t 47], none⟩ (
        .alt ⟨(some 43), .load true 3, [.t 2], none⟩ (
          .alt ⟨(some 49), .call 77 [], [.t 43, .t 44, .t 48], none⟩ (
            .take ⟨(some 6), .mv, [.t 49], none⟩ <|
            .done) <|
          .stop) <|
        .stop) <|
      .stop)) <|
    .seq (.draw (
      .take ⟨(some 50), .mv, [.t 6], none⟩ <|
      .take ⟨(some 51), .bin .lss 0, [.t 50, .c (.v (.int .i64 (0)))], none⟩ <|
      .take ⟨(some 52), .mv, [.t 51], none⟩ <|
      .take ⟨(some 53), .fadr 2, [.t 2], (some (52, false))⟩ <|
      .take ⟨(some 55), .mv, [.t 6], (some (52, false))⟩ <|
      .alt ⟨(some 54), .load false 1, [.t 53], (some (52, false))⟩ (
        .take ⟨(some 56), .iadr 1, [.t 54, .t 55], (some (52, false))⟩ <|
        .alt ⟨(some 57), .load false 1, [.t 56], (some (52, false))⟩ (
          .take ⟨(some 58), .un .not, [.t 57], (some (52, false))⟩ <|
          .take ⟨(some 59), .pick, [.t 52, .c (.v (.bool true)), .t 58], none⟩ <|
          .take ⟨(some 60), .mv, [.t 59], none⟩ <|
          .take ⟨(some 61), .mv, [.t 1], (some (60, false))⟩ <|
          .take ⟨(some 62), .mv, [.t 6], (some (60, false))⟩ <|
          .take ⟨(some 63), .iadr 1, [.t 61, .t 62], (some (60, false))⟩ <|
          .take ⟨(some 65), .mv, [.t 1], (some (60, false))⟩ <|
          .take ⟨(some 66), .mv, [.t 5], (some (60, false))⟩ <|
          .take ⟨(some 67), .iadr 1, [.t 65, .t 66], (some (60, false))⟩ <|
          .alt ⟨(some 64), .load false 1, [.t 63], (some (60, false))⟩ (
            .alt ⟨(some 68), .load false 1, [.t 67], (some (60, false))⟩ (
              .alt ⟨(some 69), .call 59 [], [.t 68], (some (60, false))⟩ (
                .take ⟨(some 70), .bin .neq 0, [.t 64, .t 69], (some (60, false))⟩ <|
                .take ⟨(some 71), .pick, [.t 60, .c (.v (.bool true)), .t 70], none⟩ <|
                .done) <|
              .stop) <|
            .stop) <|
          .alt ⟨(some 68), .load false 1, [.t 67], (some (60, false))⟩ (
            .alt ⟨(some 64), .load false 1, [.t 63], (some (60, false))⟩ (
              .alt ⟨(some 69), .call 59 [], [.t 68], (some (60, false))⟩ (
                .take ⟨(some 70), .bin .neq 0, [.t 64, .t 69], (some (60, false))⟩ <|
                .take ⟨(some 71), .pick, [.t 60, .c (.v (.bool true)), .t 70], none⟩ <|
                .done) <|
              .stop) <|
            .alt ⟨(some 69), .call 59 [], [.t 68], (some (60, false))⟩ (
              .alt ⟨(some 64), .load false 1, [.t 63], (some (60, false))⟩ (
                .take ⟨(some 70), .bin .neq 0, [.t 64, .t 69], (some (60, false))⟩ <|
                .take ⟨(some 71), .pick, [.t 60, .c (.v (.bool true)), .t 70], none⟩ <|
                .done) <|
              .stop) <|
            .stop) <|
          .stop) <|
        .stop) <|
      .stop)) <|
    .cond (.t 71) (
      .seq (.reg [⟨(some 4), .mv, [.c (.v (.bool false))], none⟩]) <|
      .ret) (
      .skip))) <|
  .reg [⟨(some 22), .mv, [.t 5], none⟩,
    ⟨(some 23), .bin .add 0, [.t 22, .c (.v (.int .i64 (1)))], none⟩,
    ⟨(some 5), .mv, [.t 23], none⟩]

def c_spec_LaidOk : ACode :=
  .seq (.reg [⟨(some 2), .box, [.t 0], none⟩,
    ⟨(some 4), .mv, [.c (.v (.bool false))], none⟩]) <|
  .seq (.seq (.reg [⟨(some 7), .load true 3, [.t 2], none⟩,
    ⟨(some 8), .call 75 [], [.t 7], none⟩,
    ⟨(some 9), .un .not, [.t 8], none⟩,
    ⟨(some 10), .mv, [.t 9], none⟩,
    ⟨(some 11), .mv, [.t 1], (some (10, false))⟩,
    ⟨(some 12), .len false, [.t 11], (some (10, false))⟩,
    ⟨(some 13), .fadr 2, [.t 2], (some (10, false))⟩,
    ⟨(some 14), .load false 1, [.t 13], (some (10, false))⟩,
    ⟨(some 15), .len false, [.t 14], (some (10, false))⟩,
    ⟨(some 16), .bin .neq 0, [.t 12, .t 15], (some (10, false))⟩,
    ⟨(some 17), .pick, [.t 10, .c (.v (.bool true)), .t 16], none⟩]) <|
  .cond (.t 17) (
    .seq (.reg [⟨(some 4), .mv, [.c (.v (.bool false))], none⟩]) <|
    .ret) (
    .skip)) <|
  .seq (.seq (.reg [⟨(some 5), .mv, [.c (.v (.int .i64 (0)))], none⟩]) <|
  .block 0 (
    .loop [(1, 1)] [1, 2, 5] c_spec_LaidOk_L0)) <|
  .seq (.reg [⟨(some 4), .mv, [.c (.v (.bool true))], none⟩]) <|
  .ret

theorem k_spec_LaidOk : cFn Tryz.prog n_spec_LaidOk 72 [.t 4] c_spec_LaidOk := ⟨Tryz.f40, _, Tryz.func40, rfl, by kernel_rfl, by kernel_rfl, by kernel_rfl, by kernel_rfl⟩

-- 2 parameters, results [.t 4], 21 slots, modes [false, false]
@[simp] abbrev n_spec_PairOf : Nat := 79

def c_spec_PairOf : ACode :=
  .seq (.reg [⟨(some 4), .mv, [.c (.v (.int .i64 (0)))], none⟩]) <|
  .seq (.seq (.reg [⟨(some 5), .mv, [.t 0], none⟩,
    ⟨(some 6), .call 76 [], [.t 5, .c (.v (.int .i64 (0))), .c (.v (.int .i64 (6)))], none⟩,
    ⟨(some 7), .un .not, [.t 6], none⟩,
    ⟨(some 8), .mv, [.t 7], none⟩,
    ⟨(some 9), .mv, [.t 1], (some (8, false))⟩,
    ⟨(some 10), .call 76 [], [.t 9, .c (.v (.int .i64 (0))), .c (.v (.int .i64 (6)))], (some (8, false))⟩,
    ⟨(some 11), .un .not, [.t 10], (some (8, false))⟩,
    ⟨(some 12), .pick, [.t 8, .c (.v (.bool true)), .t 11], none⟩]) <|
  .cond (.t 12) (
    .seq (.reg [⟨(some 4), .mv, [.c (.v (.int .i64 (-1)))], none⟩]) <|
    .ret) (
    .skip)) <|
  .seq (.reg [⟨(some 13), .mv, [.t 0], none⟩,
    ⟨(some 14), .mv, [.t 1], none⟩,
    ⟨(some 15), .mnx true, [.t 13, .t 14], none⟩,
    ⟨(some 16), .bin .mul 0, [.c (.v (.int .i64 (7))), .t 15], none⟩,
    ⟨(some 17), .mv, [.t 0], none⟩,
    ⟨(some 18), .mv, [.t 1], none⟩,
    ⟨(some 19), .mnx false, [.t 17, .t 18], none⟩,
    ⟨(some 20), .bin .add 0, [.t 16, .t 19], none⟩,
    ⟨(some 4), .mv, [.t 20], none⟩]) <|
  .ret

theorem k_spec_PairOf : cFn Tryz.prog n_spec_PairOf 21 [.t 4] c_spec_PairOf := ⟨Tryz.f79, _, Tryz.func79, rfl, by kernel_rfl, by kernel_rfl, by kernel_rfl, by kernel_rfl⟩

-- 3 parameters, results [.t 6], 57 slots, modes [false, false, false]
@[simp] abbrev n_spec_PairsOf : Nat := 42
def c_spec_PairsOf_L0 : ACode :=
  .seq (.seq (.reg [⟨(some 10), .mv, [.t 8], none⟩,
    ⟨(some 11), .mv, [.t 2], none⟩,
    ⟨(some 12), .len false, [.t 11], none⟩,
    ⟨(some 13), .bin .lss 0, [.t 10, .t 12], none⟩,
    ⟨(some 14), .mv, [.t 13], none⟩,
    ⟨(some 15), .load true 3, [.t 3], (some (14, true))⟩,
    ⟨(some 16), .mv, [.t 1], (some (14, true))⟩,
    ⟨(some 17), .call 39 [], [.t 15, .t 16], (some (14, true))⟩,
    ⟨(some 18), .pick, [.t 14, .t 17, .c (.v (.bool false))], none⟩,
    ⟨(some 19), .mv, [.t 18], none⟩,
    ⟨(some 20), .load true 3, [.t 3], (some (19, true))⟩,
    ⟨(some 21), .mv, [.t 2], (some (19, true))⟩,
    ⟨(some 22), .call 40 [], [.t 20, .t 21], (some (19, true))⟩,
    ⟨(some 23), .pick, [.t 19, .t 22, .c (.v (.bool false))], none⟩]) <|
  .cond (.t 23) (
    .skip) (
    .exit 0)) <|
  .seq (.block 1 (
    .seq (.reg [⟨(some 26), .mv, [.t 2], none⟩,
      ⟨(some 27), .mv, [.t 8], none⟩,
      ⟨(some 28), .iadr 1, [.t 26, .t 27], none⟩,
      ⟨(some 29), .load false 1, [.t 28], none⟩,
      ⟨(some 30), .bin .eql 0, [.t 29, .c (.v (.int .i64 (1)))], none⟩,
      ⟨(some 31), .mv, [.t 30], none⟩,
      ⟨(some 32), .mv, [.t 2], (some (31, false))⟩,
      ⟨(some 33), .mv, [.t 8], (some (31, false))⟩,
      ⟨(some 34), .iadr 1, [.t 32, .t 33], (some (31, false))⟩,
      ⟨(some 35), .load false 1, [.t 34], (some (31, false))⟩,
      ⟨(some 36), .bin .eql 0, [.t 35, .c (.v (.int .i64 (2)))], (some (31, false))⟩,
      ⟨(some 37), .pick, [.t 31, .c (.v (.bool true)), .t 36], none⟩]) <|
    .cond (.t 37) (
      .draw (
        .take ⟨(some 38), .mv, [.t 7], none⟩ <|
        .take ⟨(some 39), .mv, [.t 1], none⟩ <|
        .take ⟨(some 40), .mv, [.t 8], none⟩ <|
        .take ⟨(some 41), .iadr 1, [.t 39, .t 40], none⟩ <|
        .take ⟨(some 43), .mv, [.t 1], none⟩ <|
        .take ⟨(some 45), .mv, [.t 8], none⟩ <|
        .take ⟨(some 46), .mv, [.t 2], none⟩ <|
        .take ⟨(some 47), .mv, [.t 8], none⟩ <|
        .take ⟨(some 48), .iadr 1, [.t 46, .t 47], none⟩ <|
        .alt ⟨(some 42), .load false 1, [.t 41], none⟩ (
          .alt ⟨(some 44), .load true 3, [.t 3], none⟩ (
            .alt ⟨(some 49), .load false 1, [.t 48], none⟩ (
              .alt ⟨(some 50), .call 77 [], [.t 44, .t 45, .t 49], none⟩ (
                .take ⟨(some 51), .iadr 1, [.t 43, .t 50], none⟩ <|
                .alt ⟨(some 52), .load false 1, [.t 51], none⟩ (
                  .alt ⟨(some 53), .call 79 [], [.t 42, .t 52], none⟩ (
                    .alt ⟨(some 54), .bsl 1, [.t 53], none⟩ (
                      .alt ⟨(some 55), .app 1 8 true, [.t 38, .t 54], none⟩ (
                        .take ⟨(some 7), .mv, [.t 55], none⟩ <|
                        .done) <|
                      .stop) <|
                    .stop) <|
                  .stop) <|
                .stop) <|
              .stop) <|
            .stop) <|
          .alt ⟨(some 49), .load false 1, [.t 48], none⟩ (
            .alt ⟨(some 44), .load true 3, [.t 3], none⟩ (
              .alt ⟨(some 50), .call 77 [], [.t 44, .t 45, .t 49], none⟩ (
                .take ⟨(some 51), .iadr 1, [.t 43, .t 50], none⟩ <|
                .alt ⟨(some 52), .load false 1, [.t 51], none⟩ (
                  .alt ⟨(some 53), .call 79 [], [.t 42, .t 52], none⟩ (
                    .alt ⟨(some 54), .bsl 1, [.t 53], none⟩ (
                      .alt ⟨(some 55), .app 1 8 true, [.t 38, .t 54], none⟩ (
                        .take ⟨(some 7), .mv, [.t 55], none⟩ <|
                        .done) <|
                      .stop) <|
                    .stop) <|
                  .stop) <|
                .stop) <|
              .stop) <|
            .stop) <|
          .stop) <|
        .alt ⟨(some 44), .load true 3, [.t 3], none⟩ (
          .alt ⟨(some 42), .load false 1, [.t 41], none⟩ (
            .alt ⟨(some 49), .load false 1, [.t 48], none⟩ (
              .alt ⟨(some 50), .call 77 [], [.t 44, .t 45, .t 49], none⟩ (
                .take ⟨(some 51), .iadr 1, [.t 43, .t 50], none⟩ <|
                .alt ⟨(some 52), .load false 1, [.t 51], none⟩ (
                  .alt ⟨(some 53), .call 79 [], [.t 42, .t 52], none⟩ (
                    .alt ⟨(some 54), .bsl 1, [.t 53], none⟩ (
                      .alt ⟨(some 55), .app 1 8 true, [.t 38, .t 54], none⟩ (
                        .take ⟨(some 7), .mv, [.t 55], none⟩ <|
                        .done) <|
                      .stop) <|
                    .stop) <|
                  .stop) <|
                .stop) <|
              .stop) <|
            .stop) <|
          .alt ⟨(some 49), .load false 1, [.t 48], none⟩ (
            .alt ⟨(some 42), .load false 1, [.t 41], none⟩ (
              .alt ⟨(some 50), .call 77 [], [.t 44, .t 45, .t 49], none⟩ (
                .take ⟨(some 51), .iadr 1, [.t 43, .t 50], none⟩ <|
                .alt ⟨(some 52), .load false 1, [.t 51], none⟩ (
                  .alt ⟨(some 53), .call 79 [], [.t 42, .t 52], none⟩ (
                    .alt ⟨(some 54), .bsl 1, [.t 53], none⟩ (
                      .alt ⟨(some 55), .app 1 8 true, [.t 38, .t 54], none⟩ (
                        .take ⟨(some 7), .mv, [.t 55], none⟩ <|
                        .done) <|
                      .stop) <|
                    .stop) <|
                  .stop) <|
                .stop) <|
              .stop) <|
            .alt ⟨(some 50), .call 77 [], [.t 44, .t 45, .t 49], none⟩ (
              .take ⟨(some 51), .iadr 1, [.t 43, .t 50], none⟩ <|
              .alt ⟨(some 42), .load false 1, [.t 41], none⟩ (
                .alt ⟨(some 52), .load false 1, [.t 51], none⟩ (
                  .alt ⟨(some 53), .call 79 [], [.t 42, .t 52], none⟩ (
                    .alt ⟨(some 54), .bsl 1, [.t 53], none⟩ (
                      .alt ⟨(some 55), .app 1 8 true, [.t 38, .t 54], none⟩ (
                        .take ⟨(some 7), .mv, [.t 55], none⟩ <|
                        .done) <|
                      .stop) <|
                    .stop) <|
                  .stop) <|
                .stop) <|
              .alt ⟨(some 52), .load false 1, [.t 51], none⟩ (
                .alt ⟨(some 42), .load false 1, [.t 41], none⟩ (
                  .alt ⟨(some 53), .call 79 [], [.t 42, .t 52], none⟩ (
                    .alt ⟨(some 54), .bsl 1, [.t 53], none⟩ (
                      .alt ⟨(some 55), .app 1 8 true, [.t 38, .t 54], none⟩ (
                        .take ⟨(some 7), .mv, [.t 55], none⟩ <|
                        .done) <|
                      .stop) <|
                    .stop) <|
                  .stop) <|
                .stop) <|
              .stop) <|
            .stop) <|
          .stop) <|
        .alt ⟨(some 49), .load false 1, [.t 48], none⟩ (
          .alt ⟨(some 42), .load false 1, [.t 41], none⟩ (
            .alt ⟨(some 44), .load true 3, [.t 3], none⟩ (
              .alt ⟨(some 50), .call 77 [], [.t 44, .t 45, .t 49], none⟩ (
                .take ⟨(some 51), .iadr 1, [.t 43, .t 50], none⟩ <|
                .alt ⟨(some 52), .load false 1, [.t 51], none⟩ (
                  .alt ⟨(some 53), .call 79 [], [.t 42, .t 52], none⟩ (
                    .alt ⟨(some 54), .bsl 1, [.t 53], none⟩ (
                      .alt ⟨(some 55), .app 1 8 true, [.t 38, .t 54], none⟩ (
                        .take ⟨(some 7), .mv, [.t 55], none⟩ <|
                        .done) <|
                      .stop) <|
                    .stop) <|
                  .stop) <|
                .stop) <|
              .stop) <|
            .stop) <|
          .alt ⟨(some 44), .load true 3, [.t 3], none⟩ (
            .alt ⟨(some 42), .load false 1, [.t 41], none⟩ (
              .alt ⟨(some 50), .call 77 [], [.t 44, .t 45, .t 49], none⟩ (
                .take ⟨(some 51), .iadr 1, [.t 43, .t 50], none⟩ <|
                .alt ⟨(some 52), .load false 1, [.t 51], none⟩ (
                  .alt ⟨(some 53), .call 79 [], [.t 42, .t 52], none⟩ (
                    .alt ⟨(some 54), .bsl 1, [.t 53], none⟩ (
                      .alt ⟨(some 55), .app 1 8 true, [.t 38, .t 54], none⟩ (
                        .take ⟨(some 7), .mv, [.t 55], none⟩ <|
                        .done) <|
                      .stop) <|
                    .stop) <|
                  .stop) <|
                .stop) <|
              .stop) <|
            .alt ⟨(some 50), .call 77 [], [.t 44, .t 45, .t 49], none⟩ (
              .take ⟨(some 51), .iadr 1, [.t 43, .t 50], none⟩ <|
              .alt ⟨(some 42), .load false 1, [.t 41], none⟩ (
                .alt ⟨(some 52), .load false 1, [.t 51], none⟩ (
                  .alt ⟨(some 53), .call 79 [], [.t 42, .t 52], none⟩ (
                    .alt ⟨(some 54), .bsl 1, [.t 53], none⟩ (
                      .alt ⟨(some 55), .app 1 8 true, [.t 38, .t 54], none⟩ (
                        .take ⟨(some 7), .mv, [.t 55], none⟩ <|
                        .done) <|
                      .stop) <|
                    .stop) <|
                  .stop) <|
                .stop) <|
              .alt ⟨(some 52), .load false 1, [.t 51], none⟩ (
                .alt ⟨(some 42), .load false 1, [.t 41], none⟩ (
                  .alt ⟨(some 53), .call 79 [], [.t 42, .t 52], none⟩ (
                    .alt ⟨(some 54), .bsl 1, [.t 53], none⟩ (
                      .alt ⟨(some 55), .app 1 8 true, [.t 38, .t 54], none⟩ (
                        .take ⟨(some 7), .mv, [.t 55], none⟩ <|
                        .done) <|
                      .stop) <|
                    .stop) <|
                  .stop) <|
                .stop) <|
              .stop) <|
            .stop) <|
          .stop) <|
        .stop)) (
      .skip))) <|
  .reg [⟨(some 24), .mv, [.t 8], none⟩,
    ⟨(some 25), .bin .add 0, [.t 24, .c (.v (.int .i64 (1)))], none⟩,
    ⟨(some 8), .mv, [.t 25], none⟩]

def c_spec_PairsOf : ACode :=
  .seq (.reg [⟨(some 3), .box, [.t 0], none⟩,
    ⟨(some 6), .mv, [.c (.os 1 [])], none⟩]) <|
  .seq (.reg [⟨(some 9), .bsl 1, [], none⟩,
    ⟨(some 7), .mv, [.t 9], none⟩]) <|
  .seq (.seq (.reg [⟨(some 8), .mv, [.c (.v (.int .i64 (0)))], none⟩]) <|
  .block 0 (
    .loop [(1, 1), (2, 1), (7, 1)] [1, 2, 3, 7, 8] c_spec_PairsOf_L0)) <|
  .seq (.reg [⟨(some 56), .mv, [.t 7], none⟩,
    ⟨(some 6), .mv, [.t 56], none⟩]) <|
  .ret

theorem k_spec_PairsOf : cFn Tryz.prog n_spec_PairsOf 57 [.t 6] c_spec_PairsOf := ⟨Tryz.f42, _, Tryz.func42, rfl, by kernel_rfl, by kernel_rfl, by kernel_rfl, by kernel_rfl⟩

-- 3 parameters, results [.t 6], 15 slots, modes [false, false, false]
@[simp] abbrev n_impl_in : Nat := 69

def c_impl_in : ACode :=
  .seq (.reg [⟨(some 6), .mv, [.c (.v (.bool false))], none⟩]) <|
  .seq (.reg [⟨(some 7), .mv, [.t 0], none⟩,
    ⟨(some 8), .mv, [.t 1], none⟩,
    ⟨(some 9), .bin .geq 0, [.t 7, .t 8], none⟩,
    ⟨(some 10), .mv, [.t 9], none⟩,
    ⟨(some 11), .mv, [.t 0], (some (10, true))⟩,
    ⟨(some 12), .mv, [.t 2], (some (10, true))⟩,
    ⟨(some 13), .bin .leq 0, [.t 11, .t 12], (some (10, true))⟩,
    ⟨(some 14), .pick, [.t 10, .t 13, .c (.v (.bool false))], none⟩,
    ⟨(some 6), .mv, [.t 14], none⟩]) <|
  .ret

theorem k_impl_in : cFn Tryz.prog n_impl_in 15 [.t 6] c_impl_in := ⟨Tryz.f69, _, Tryz.func69, rfl, by kernel_rfl, by kernel_rfl, by kernel_rfl, by kernel_rfl⟩

-- 1 parameters, results [.t 2], 17 slots, modes [false]
@[simp] abbrev n_impl_many : Nat := 68
def c_impl_many_L0 : ACode :=
  .seq (.reg [⟨(some 9), .bin .lss 0, [.t 8, .t 7], none⟩]) <|
  .seq (.cond (.t 9) (
    .skip) (
    .exit 0)) <|
  .seq (.block 1 (
    .seq (.reg [⟨(some 10), .iadr 1, [.t 6, .t 8], none⟩,
      ⟨(some 11), .load false 1, [.t 10], none⟩,
      ⟨(some 5), .mv, [.t 11], none⟩]) <|
    .seq (.reg [⟨(some 12), .mv, [.t 5], none⟩]) <|
    .cond (.t 12) (
      .reg [⟨(some 13), .mv, [.t 3], none⟩,
        ⟨(some 14), .bin .add 0, [.t 13, .c (.v (.int .i64 (1)))], none⟩,
        ⟨(some 3), .mv, [.t 14], none⟩]) (
      .skip))) <|
  .reg [⟨(some 15), .bin .add 0, [.t 8, .c (.v (.int .i64 (1)))], none⟩,
    ⟨(some 8), .mv, [.t 15], none⟩]

def c_impl_many : ACode :=
  .seq (.reg [⟨(some 2), .mv, [.c (.v (.int .i64 (0)))], none⟩]) <|
  .seq (.reg [⟨(some 3), .mv, [.c (.v (.int .i64 (0)))], none⟩]) <|
  .seq (.seq (.reg [⟨(some 6), .mv, [.t 0], none⟩,
    ⟨(some 7), .len false, [.t 6], none⟩,
    ⟨(some 8), .mv, [.c (.v (.int .i64 (0)))], none⟩]) <|
  .block 0 (
    .loop [(6, 1)] [3, 6, 7, 8] c_impl_many_L0)) <|
  .seq (.reg [⟨(some 16), .mv, [.t 3], none⟩,
    ⟨(some 2), .mv, [.t 16], none⟩]) <|
  .ret

theorem k_impl_many : cFn Tryz.prog n_impl_many 17 [.t 2] c_impl_many := ⟨Tryz.f68, _, Tryz.func68, rfl, by kernel_rfl, by kernel_rfl, by kernel_rfl, by kernel_rfl⟩

-- 1 parameters, results [.t 2], 28 slots, modes [false]
@[simp] abbrev n_impl_RegionValid : Nat := 60

def c_impl_RegionValid : ACode :=
  .seq (.reg [⟨(some 1), .box, [.t 0], none⟩,
    ⟨(some 2), .mv, [.c (.v (.bool false))], none⟩]) <|
  .seq (.reg [⟨(some 3), .fadr 0, [.t 1], none⟩,
    ⟨(some 4), .load false 1, [.t 3], none⟩,
    ⟨(some 5), .call 69 [], [.t 4, .c (.v (.int .i64 (1))), .c (.v (.int .i64 (6)))], none⟩,
    ⟨(some 6), .mv, [.t 5], none⟩,
    ⟨(some 7), .fadr 1, [.t 1], (some (6, true))⟩,
    ⟨(some 8), .load false 1, [.t 7], (some (6, true))⟩,
    ⟨(some 9), .call 69 [], [.t 8, .c (.v (.int .i64 (1))), .c (.v (.int .i64 (6)))], (some (6, true))⟩,
    ⟨(some 10), .pick, [.t 6, .t 9, .c (.v (.bool false))], none⟩,
    ⟨(some 11), .mv, [.t 10], none⟩,
    ⟨(some 12), .fadr 2, [.t 1], (some (11, true))⟩,
    ⟨(some 13), .load false 1, [.t 12], (some (11, true))⟩,
    ⟨(some 14), .len false, [.t 13], (some (11, true))⟩,
    ⟨(some 15), .fadr 0, [.t 1], (some (11, true))⟩,
    ⟨(some 16), .load false 1, [.t 15], (some (11, true))⟩,
    ⟨(some 17), .fadr 1, [.t 1], (some (11, true))⟩,
    ⟨(some 18), .load false 1, [.t 17], (some (11, true))⟩,
    ⟨(some 19), .bin .mul 0, [.t 16, .t 18], (some (11, true))⟩,
    ⟨(some 20), .bin .eql 0, [.t 14, .t 19], (some (11, true))⟩,
    ⟨(some 21), .pick, [.t 11, .t 20, .c (.v (.bool false))], none⟩,
    ⟨(some 22), .mv, [.t 21], none⟩,
    ⟨(some 23), .fadr 2, [.t 1], (some (22, true))⟩,
    ⟨(some 24), .load false 1, [.t 23], (some (22, true))⟩,
    ⟨(some 25), .call 68 [], [.t 24], (some (22, true))⟩,
    ⟨(some 26), .bin .leq 0, [.t 25, .c (.v (.int .i64 (24)))], (some (22, true))⟩,
    ⟨(some 27), .pick, [.t 22, .t 26, .c (.v (.bool false))], none⟩,
    ⟨(some 2), .mv, [.t 27], none⟩]) <|
  .ret

theorem k_impl_RegionValid : cFn Tryz.prog n_impl_RegionValid 28 [.t 2] c_impl_RegionValid := ⟨Tryz.f60, _, Tryz.func60, rfl, by kernel_rfl, by kernel_rfl, by kernel_rfl, by kernel_rfl⟩

-- 2 parameters, results [.t 4], 43 slots, modes [false, false]
@[simp] abbrev n_impl_puzzle : Nat := 61
def c_impl_puzzle_L0 : ACode :=
  .seq (.reg [⟨(some 16), .bin .lss 0, [.t 15, .t 14], none⟩]) <|
  .seq (.cond (.t 16) (
    .skip) (
    .exit 0)) <|
  .seq (.block 1 (
    .seq (.reg [⟨(some 17), .mv, [.t 15], none⟩,
      ⟨(some 18), .iadr 1, [.t 13, .t 15], none⟩,
      ⟨(some 19), .load false 1, [.t 18], none⟩,
      ⟨(some 5), .mv, [.t 17], none⟩,
      ⟨(some 6), .mv, [.t 19], none⟩]) <|
    .seq (.reg [⟨(some 20), .fadr 2, [.t 2], none⟩,
      ⟨(some 21), .load false 1, [.t 20], none⟩,
      ⟨(some 22), .mv, [.t 5], none⟩,
      ⟨(some 23), .iadr 1, [.t 21, .t 22], none⟩,
      ⟨(some 24), .load false 1, [.t 23], none⟩,
      ⟨(some 25), .mv, [.t 24], none⟩,
      ⟨(some 26), .mv, [.t 6], (some (25, true))⟩,
      ⟨(some 27), .call 69 [], [.t 26, .c (.v (.int .i64 (0))), .c (.v (.int .i64 (6)))], (some (25, true))⟩,
      ⟨(some 28), .un .not, [.t 27], (some (25, true))⟩,
      ⟨(some 29), .pick, [.t 25, .t 28, .c (.v (.bool false))], none⟩,
      ⟨(some 30), .mv, [.t 29], none⟩,
      ⟨(some 31), .fadr 2, [.t 2], (some (30, false))⟩,
      ⟨(some 32), .load false 1, [.t 31], (some (30, false))⟩,
      ⟨(some 33), .mv, [.t 5], (some (30, false))⟩,
      ⟨(some 34), .iadr 1, [.t 32, .t 33], (some (30, false))⟩,
      ⟨(some 35), .load false 1, [.t 34], (some (30, false))⟩,
      ⟨(some 36), .un .not, [.t 35], (some (30, false))⟩,
      ⟨(some 37), .mv, [.t 36], (some (30, false))⟩,
      ⟨(some 38), .mv, [.t 6], (some (37, true))⟩,
      ⟨(some 39), .bin .neq 0, [.t 38, .c (.v (.int .i64 (-1)))], (some (37, true))⟩,
      ⟨(some 40), .pick, [.t 37, .t 39, .c (.v (.bool false))], (some (30, false))⟩,
      ⟨(some 41), .pick, [.t 30, .c (.v (.bool true)), .t 40], none⟩]) <|
    .cond (.t 41) (
      .seq (.reg [⟨(some 4), .mv, [.c (.v (.bool false))], none⟩]) <|
      .ret) (
      .skip))) <|
  .reg [⟨(some 42), .bin .add 0, [.t 15, .c (.v (.int .i64 (1)))], none⟩,
    ⟨(some 15), .mv, [.t 42], none⟩]

def c_impl_puzzle : ACode :=
  .seq (.reg [⟨(some 2), .box, [.t 0], none⟩,
    ⟨(some 4), .mv, [.c (.v (.bool false))], none⟩]) <|
  .seq (.seq (.reg [⟨(some 7), .mv, [.t 1], none⟩,
    ⟨(some 8), .len false, [.t 7], none⟩,
    ⟨(some 9), .fadr 2, [.t 2], none⟩,
    ⟨(some 10), .load false 1, [.t 9], none⟩,
    ⟨(some 11), .len false, [.t 10], none⟩,
    ⟨(some 12), .bin .neq 0, [.t 8, .t 11], none⟩]) <|
  .cond (.t 12) (
    .seq (.reg [⟨(some 4), .mv, [.c (.v (.bool false))], none⟩]) <|
    .ret) (
    .skip)) <|
  .seq (.seq (.reg [⟨(some 13), .mv, [.t 1], none⟩,
    ⟨(some 14), .len false, [.t 13], none⟩,
    ⟨(some 15), .mv, [.c (.v (.int .i64 (0)))], none⟩]) <|
  .block 0 (
    .loop [(13, 1)] [2, 13, 14, 15] c_impl_puzzle_L0)) <|
  .seq (.reg [⟨(some 4), .mv, [.c (.v (.bool true))], none⟩]) <|
  .ret

theorem k_impl_puzzle : cFn Tryz.prog n_impl_puzzle 43 [.t 4] c_impl_puzzle := ⟨Tryz.f61, _, Tryz.func61, rfl, by kernel_rfl, by kernel_rfl, by kernel_rfl, by kernel_rfl⟩

-- 2 parameters, results [.t 4], 12 slots, modes [false, false]
@[simp] abbrev n_impl_PuzzleValid : Nat := 30

def c_impl_PuzzleValid : ACode :=
  .seq (.reg [⟨(some 2), .box, [.t 0], none⟩,
    ⟨(some 4), .mv, [.c (.v (.bool false))], none⟩]) <|
  .seq (.reg [⟨(some 5), .load true 3, [.t 2], none⟩,
    ⟨(some 6), .call 60 [], [.t 5], none⟩,
    ⟨(some 7), .mv, [.t 6], none⟩,
    ⟨(some 8), .load true 3, [.t 2], (some (7, true))⟩,
    ⟨(some 9), .mv, [.t 1], (some (7, true))⟩,
    ⟨(some 10), .call 61 [], [.t 8, .t 9], (some (7, true))⟩,
    ⟨(some 11), .pick, [.t 7, .t 10, .c (.v (.bool false))], none⟩,
    ⟨(some 4), .mv, [.t 11], none⟩]) <|
  .ret

theorem k_impl_PuzzleValid : cFn Tryz.prog n_impl_PuzzleValid 12 [.t 4] c_impl_PuzzleValid := ⟨Tryz.f30, _, Tryz.func30, rfl, by kernel_rfl, by kernel_rfl, by kernel_rfl, by kernel_rfl⟩

-- 2 parameters, results [.t 4, .t 5], 14 slots, modes [false, false]
@[simp] abbrev n_impl_Region_xy : Nat := 88

def c_impl_Region_xy : ACode :=
  .seq (.reg [⟨(some 2), .box, [.t 0], none⟩,
    ⟨(some 4), .mv, [.c (.v (.int .i64 (0)))], none⟩,
    ⟨(some 5), .mv, [.c (.v (.int .i64 (0)))], none⟩]) <|
  .seq (.draw (
    .take ⟨(some 6), .mv, [.t 1], none⟩ <|
    .take ⟨(some 7), .fadr 0, [.t 2], none⟩ <|
    .take ⟨(some 10), .mv, [.t 1], none⟩ <|
    .take ⟨(some 11), .fadr 0, [.t 2], none⟩ <|
    .alt ⟨(some 8), .load false 1, [.t 7], none⟩ (
      .take ⟨(some 9), .bin .rem 0, [.t 6, .t 8], none⟩ <|
      .take ⟨(some 4), .mv, [.t 9], none⟩ <|
      .alt ⟨(some 12), .load false 1, [.t 11], none⟩ (
        .take ⟨(some 13), .bin .quo 0, [.t 10, .t 12], none⟩ <|
        .take ⟨(some 5), .mv, [.t 13], none⟩ <|
        .done) <|
      .stop) <|
    .alt ⟨(some 12), .load false 1, [.t 11], none⟩ (
      .take ⟨(some 13), .bin .quo 0, [.t 10, .t 12], none⟩ <|
      .alt ⟨(some 8), .load false 1, [.t 7], none⟩ (
        .take ⟨(some 9), .bin .rem 0, [.t 6, .t 8], none⟩ <|
        .take ⟨(some 4), .mv, [.t 9], none⟩ <|
        .take ⟨(some 5), .mv, [.t 13], none⟩ <|
        .done) <|
      .stop) <|
    .stop)) <|
  .ret

theorem k_impl_Region_xy : cFn Tryz.prog n_impl_Region_xy 14 [.t 4, .t 5] c_impl_Region_xy := ⟨Tryz.f88, _, Tryz.func88, rfl, by kernel_rfl, by kernel_rfl, by kernel_rfl, by kernel_rfl⟩

-- 3 parameters, results [.t 6], 52 slots, modes [false, false, false]
@[simp] abbrev n_impl_Region_step : Nat := 62

def c_impl_Region_step : ACode :=
  .seq (.reg [⟨(some 3), .box, [.t 0], none⟩,
    ⟨(some 6), .mv, [.c (.v (.int .i64 (0)))], none⟩]) <|
  .seq (.reg [⟨(some 10), .load true 3, [.t 3], none⟩,
    ⟨(some 11), .mv, [.t 1], none⟩,
    ⟨(some 12), .call 88 [], [.t 10, .t 11], none⟩,
    ⟨(some 9), .mv, [.t 12], none⟩,
    ⟨(some 13), .extr 0, [.t 9], none⟩,
    ⟨(some 14), .extr 1, [.t 9], none⟩,
    ⟨(some 7), .mv, [.t 13], none⟩,
    ⟨(some 8), .mv, [.t 14], none⟩]) <|
  .seq (.seq (.reg [⟨(some 15), .mv, [.t 2], none⟩]) <|
  .block 0 (
    .seq (.reg [⟨(some 17), .bin .eql 0, [.t 15, .c (.v (.int .i64 (1)))], none⟩,
      ⟨(some 16), .mv, [.t 17], none⟩]) <|
    .cond (.t 16) (
      .reg [⟨(some 18), .mv, [.t 7], none⟩,
        ⟨(some 19), .bin .add 0, [.t 18, .c (.v (.int .i64 (1)))], none⟩,
        ⟨(some 7), .mv, [.t 19], none⟩]) (
      .seq (.reg [⟨(some 21), .bin .eql 0, [.t 15, .c (.v (.int .i64 (2)))], none⟩,
        ⟨(some 20), .mv, [.t 21], none⟩]) <|
      .cond (.t 20) (
        .reg [⟨(some 22), .mv, [.t 8], none⟩,
          ⟨(some 23), .bin .add 0, [.t 22, .c (.v (.int .i64 (1)))], none⟩,
          ⟨(some 8), .mv, [.t 23], none⟩]) (
        .seq (.reg [⟨(some 25), .bin .eql 0, [.t 15, .c (.v (.int .i64 (3)))], none⟩,
          ⟨(some 24), .mv, [.t 25], none⟩]) <|
        .cond (.t 24) (
          .reg [⟨(some 26), .mv, [.t 7], none⟩,
            ⟨(some 27), .bin .sub 0, [.t 26, .c (.v (.int .i64 (1)))], none⟩,
            ⟨(some 7), .mv, [.t 27], none⟩]) (
          .seq (.reg [⟨(some 29), .bin .eql 0, [.t 15, .c (.v (.int .i64 (4)))], none⟩,
            ⟨(some 28), .mv, [.t 29], none⟩]) <|
          .cond (.t 28) (
            .reg [⟨(some 30), .mv, [.t 8], none⟩,
              ⟨(some 31), .bin .sub 0, [.t 30, .c (.v (.int .i64 (1)))], none⟩,
              ⟨(some 8), .mv, [.t 31], none⟩]) (
            .seq (.reg [⟨(some 6), .mv, [.c (.v (.int .i64 (-1)))], none⟩]) <|
            .ret)))))) <|
  .seq (.seq (.reg [⟨(some 32), .mv, [.t 7], none⟩,
    ⟨(some 33), .fadr 0, [.t 3], none⟩,
    ⟨(some 34), .load false 1, [.t 33], none⟩,
    ⟨(some 35), .bin .sub 0, [.t 34, .c (.v (.int .i64 (1)))], none⟩,
    ⟨(some 36), .call 69 [], [.t 32, .c (.v (.int .i64 (0))), .t 35], none⟩,
    ⟨(some 37), .un .not, [.t 36], none⟩,
    ⟨(some 38), .mv, [.t 37], none⟩,
    ⟨(some 39), .mv, [.t 8], (some (38, false))⟩,
    ⟨(some 40), .fadr 1, [.t 3], (some (38, false))⟩,
    ⟨(some 41), .load false 1, [.t 40], (some (38, false))⟩,
    ⟨(some 42), .bin .sub 0, [.t 41, .c (.v (.int .i64 (1)))], (some (38, false))⟩,
    ⟨(some 43), .call 69 [], [.t 39, .c (.v (.int .i64 (0))), .t 42], (some (38, false))⟩,
    ⟨(some 44), .un .not, [.t 43], (some (38, false))⟩,
    ⟨(some 45), .pick, [.t 38, .c (.v (.bool true)), .t 44], none⟩]) <|
  .cond (.t 45) (
    .seq (.reg [⟨(some 6), .mv, [.c (.v (.int .i64 (-1)))], none⟩]) <|
    .ret) (
    .skip)) <|
  .seq (.reg [⟨(some 46), .mv, [.t 8], none⟩,
    ⟨(some 47), .fadr 0, [.t 3], none⟩,
    ⟨(some 48), .load false 1, [.t 47], none⟩,
    ⟨(some 49), .bin .mul 0, [.t 46, .t 48], none⟩,
    ⟨(some 50), .mv, [.t 7], none⟩,
    ⟨(some 51), .bin .add 0, [.t 49, .t 50], none⟩,
    ⟨(some 6), .mv, [.t 51], none⟩]) <|
  .ret

theorem k_impl_Region_step : cFn Tryz.prog n_impl_Region_step 52 [.t 6] c_impl_Region_step := ⟨Tryz.f62, _, Tryz.func62, rfl, by kernel_rfl, by kernel_rfl, by kernel_rfl, by kernel_rfl⟩

-- 1 parameters, results [.t 2], 7 slots, modes [false]
@[simp] abbrev n_impl_back : Nat := 63

def c_impl_back : ACode :=
  .seq (.reg [⟨(some 2), .mv, [.c (.v (.int .i64 (0)))], none⟩]) <|
  .seq (.reg [⟨(some 3), .mv, [.t 0], none⟩,
    ⟨(some 4), .bin .add 0, [.t 3, .c (.v (.int .i64 (1)))], none⟩,
    ⟨(some 5), .bin .rem 0, [.t 4, .c (.v (.int .i64 (4)))], none⟩,
    ⟨(some 6), .bin .add 0, [.t 5, .c (.v (.int .i64 (1)))], none⟩,
    ⟨(some 2), .mv, [.t 6], none⟩]) <|
  .ret

theorem k_impl_back : cFn Tryz.prog n_impl_back 7 [.t 2] c_impl_back := ⟨Tryz.f63, _, Tryz.func63, rfl, by kernel_rfl, by kernel_rfl, by kernel_rfl, by kernel_rfl⟩

-- 2 parameters, results [.t 4], 55 slots, modes [false, false]
@[simp] abbrev n_impl_Region_lays : Nat := 31
def c_impl_Region_lays_L0 : ACode :=
  .seq (.reg [⟨(some 17), .bin .lss 0, [.t 16, .t 15], none⟩]) <|
  .seq (.cond (.t 17) (
    .skip) (
    .exit 0)) <|
  .seq (.block 1 (
    .seq (.reg [⟨(some 18), .mv, [.t 16], none⟩,
      ⟨(some 19), .iadr 1, [.t 14, .t 16], none⟩,
      ⟨(some 20), .load false 1, [.t 19], none⟩,
      ⟨(some 5), .mv, [.t 18], none⟩,
      ⟨(some 6), .mv, [.t 20], none⟩]) <|
    .seq (.seq (.reg [⟨(some 21), .mv, [.t 6], none⟩,
      ⟨(some 22), .bin .eql 0, [.t 21, .c (.v (.int .i64 (0)))], none⟩]) <|
    .cond (.t 22) (
      .exit 1) (
      .skip)) <|
    .seq (.reg [⟨(some 23), .load true 3, [.t 2], none⟩,
      ⟨(some 24), .mv, [.t 5], none⟩,
      ⟨(some 25), .mv, [.t 6], none⟩,
      ⟨(some 26), .call 62 [], [.t 23, .t 24, .t 25], none⟩,
      ⟨(some 7), .mv, [.t 26], none⟩]) <|
    .seq (.draw (
      .take ⟨(some 27), .mv, [.t 7], none⟩ <|
      .take ⟨(some 28), .bin .lss 0, [.t 27, .c (.v (.int .i64 (0)))], none⟩ <|
      .take ⟨(some 29), .mv, [.t 28], none⟩ <|
      .take ⟨(some 30), .fadr 2, [.t 2], (some (29, false))⟩ <|
      .take ⟨(some 32), .mv, [.t 5], (some (29, false))⟩ <|
      .alt ⟨(some 31), .load false 1, [.t 30], (some (29, false))⟩ (
        .take ⟨(some 33), .iadr 1, [.t 31, .t 32], (some (29, false))⟩ <|
        .alt ⟨(some 34), .load false 1, [.t 33], (some (29, false))⟩ (
          .take ⟨(some 35), .un .not, [.t 34], (some (29, false))⟩ <|
          .take ⟨(some 36), .pick, [.t 29, .c (.v (.bool true)), .t 35], none⟩ <|
          .take ⟨(some 37), .mv, [.t 36], none⟩ <|
          .take ⟨(some 38), .fadr 2, [.t 2], (some (37, false))⟩ <|
          .take ⟨(some 40), .mv, [.t 7], (some (37, false))⟩ <|
          .alt ⟨(some 39), .load false 1, [.t 38], (some (37, false))⟩ (
            .take ⟨(some 41), .iadr 1, [.t 39, .t 40], (some (37, false))⟩ <|
            .alt ⟨(some 42), .load false 1, [.t 41], (some (37, false))⟩ (
              .take ⟨(some 43), .un .not, [.t 42], (some (37, false))⟩ <|
              .take ⟨(some 44), .pick, [.t 37, .c (.v (.bool true)), .t 43], none⟩ <|
              .take ⟨(some 45), .mv, [.t 44], none⟩ <|
              .take ⟨(some 46), .mv, [.t 1], (some (45, false))⟩ <|
              .take ⟨(some 47), .mv, [.t 7], (some (45, false))⟩ <|
              .take ⟨(some 48), .iadr 1, [.t 46, .t 47], (some (45, false))⟩ <|
              .take ⟨(some 50), .mv, [.t 6], (some (45, false))⟩ <|
              .alt ⟨(some 49), .load false 1, [.t 48], (some (45, false))⟩ (
                .alt ⟨(some 51), .call 63 [], [.t 50], (some (45, false))⟩ (
                  .take ⟨(some 52), .bin .neq 0, [.t 49, .t 51], (some (45, false))⟩ <|
                  .take ⟨(some 53), .pick, [.t 45, .c (.v (.bool true)), .t 52], none⟩ <|
                  .done) <|
                .stop) <|
              .alt ⟨(some 51), .call 63 [], [.t 50], (some (45, false))⟩ (
                .alt ⟨(some 49), .load false 1, [.t 48], (some (45, false))⟩ (
                  .take ⟨(some 52), .bin .neq 0, [.t 49, .t 51], (some (45, false))⟩ <|
                  .take ⟨(some 53), .pick, [.t 45, .c (.v (.bool true)), .t 52], none⟩ <|
                  .done) <|
                .stop) <|
              .stop) <|
            .stop) <|
          .stop) <|
        .stop) <|
      .stop)) <|
    .cond (.t 53) (
      .seq (.reg [⟨(some 4), .mv, [.c (.v (.bool false))], none⟩]) <|
      .ret) (
      .skip))) <|
  .reg [⟨(some 54), .bin .add 0, [.t 16, .c (.v (.int .i64 (1)))], none⟩,
    ⟨(some 16), .mv, [.t 54], none⟩]

def c_impl_Region_lays : ACode :=
  .seq (.reg [⟨(some 2), .box, [.t 0], none⟩,
    ⟨(some 4), .mv, [.c (.v (.bool false))], none⟩]) <|
  .seq (.seq (.reg [⟨(some 8), .mv, [.t 1], none⟩,
    ⟨(some 9), .len false, [.t 8], none⟩,
    ⟨(some 10), .fadr 2, [.t 2], none⟩,
    ⟨(some 11), .load false 1, [.t 10], none⟩,
    ⟨(some 12), .len false, [.t 11], none⟩,
    ⟨(some 13), .bin .neq 0, [.t 9, .t 12], none⟩]) <|
  .cond (.t 13) (
    .seq (.reg [⟨(some 4), .mv, [.c (.v (.bool false))], none⟩]) <|
    .ret) (
    .skip)) <|
  .seq (.seq (.reg [⟨(some 14), .mv, [.t 1], none⟩,
    ⟨(some 15), .len false, [.t 14], none⟩,
    ⟨(some 16), .mv, [.c (.v (.int .i64 (0)))], none⟩]) <|
  .block 0 (
    .loop [(1, 1), (14, 1)] [1, 2, 14, 15, 16] c_impl_Region_lays_L0)) <|
  .seq (.reg [⟨(some 4), .mv, [.c (.v (.bool true))], none⟩]) <|
  .ret

theorem k_impl_Region_lays : cFn Tryz.prog n_impl_Region_lays 55 [.t 4] c_impl_Region_lays := ⟨Tryz.f31, _, Tryz.func31, rfl, by kernel_rfl, by kernel_rfl, by kernel_rfl, by kernel_rfl⟩

-- 2 parameters, results [.t 4], 13 slots, modes [false, false]
@[simp] abbrev n_impl_pair : Nat := 89

def c_impl_pair : ACode :=
  .seq (.reg [⟨(some 4), .mv, [.c (.v (.int .i64 (0)))], none⟩]) <|
  .seq (.reg [⟨(some 5), .mv, [.t 0], none⟩,
    ⟨(some 6), .mv, [.t 1], none⟩,
    ⟨(some 7), .mnx true, [.t 5, .t 6], none⟩,
    ⟨(some 8), .bin .mul 0, [.c (.v (.int .i64 (7))), .t 7], none⟩,
    ⟨(some 9), .mv, [.t 0], none⟩,
    ⟨(some 10), .mv, [.t 1], none⟩,
    ⟨(some 11), .mnx false, [.t 9, .t 10], none⟩,
    ⟨(some 12), .bin .add 0, [.t 8, .t 11], none⟩,
    ⟨(some 4), .mv, [.t 12], none⟩]) <|
  .ret

theorem k_impl_pair : cFn Tryz.prog n_impl_pair 13 [.t 4] c_impl_pair := ⟨Tryz.f89, _, Tryz.func89, rfl, by kernel_rfl, by kernel_rfl, by kernel_rfl, by kernel_rfl⟩

-- 1 parameters, results [.t 2], 9 slots, modes [true]
@[simp] abbrev n_slices_Clip_int_int : Nat := 81

def c_slices_Clip_int_int : ACode :=
  .seq (.reg [⟨(some 2), .mv, [.c (.os 1 [])], none⟩]) <|
  .seq (.reg [⟨(some 3), .mv, [.t 0], none⟩,
    ⟨(some 4), .mv, [.t 0], none⟩,
    ⟨(some 5), .len false, [.t 4], none⟩,
    ⟨(some 6), .mv, [.t 0], none⟩,
    ⟨(some 7), .len false, [.t 6], none⟩,
    ⟨(some 8), .slice 1 false false true true, [.t 3, .t 5, .t 7], none⟩,
    ⟨(some 2), .mv, [.t 8], none⟩]) <|
  .ret

theorem k_slices_Clip_int_int : cFn Tryz.prog n_slices_Clip_int_int 9 [.t 2] c_slices_Clip_int_int := ⟨Tryz.f81, _, Tryz.func81, rfl, by kernel_rfl, by kernel_rfl, by kernel_rfl, by kernel_rfl⟩

-- 3 parameters, results [.t 6], 41 slots, modes [false, false, false]
@[simp] abbrev n_impl_Region_pairs : Nat := 64
def c_impl_Region_pairs_L0 : ACode :=
  .seq (.reg [⟨(some 13), .bin .lss 0, [.t 12, .t 11], none⟩]) <|
  .seq (.cond (.t 13) (
    .skip) (
    .exit 0)) <|
  .seq (.block 1 (
    .seq (.reg [⟨(some 14), .mv, [.t 12], none⟩,
      ⟨(some 15), .iadr 1, [.t 10, .t 12], none⟩,
      ⟨(some 16), .load false 1, [.t 15], none⟩,
      ⟨(some 8), .mv, [.t 14], none⟩,
      ⟨(some 9), .mv, [.t 16], none⟩]) <|
    .seq (.reg [⟨(some 17), .mv, [.t 9], none⟩,
      ⟨(some 18), .bin .eql 0, [.t 17, .c (.v (.int .i64 (1)))], none⟩,
      ⟨(some 19), .mv, [.t 18], none⟩,
      ⟨(some 20), .mv, [.t 9], (some (19, false))⟩,
      ⟨(some 21), .bin .eql 0, [.t 20, .c (.v (.int .i64 (2)))], (some (19, false))⟩,
      ⟨(some 22), .pick, [.t 19, .c (.v (.bool true)), .t 21], none⟩]) <|
    .cond (.t 22) (
      .draw (
        .take ⟨(some 23), .mv, [.t 7], none⟩ <|
        .take ⟨(some 24), .mv, [.t 1], none⟩ <|
        .take ⟨(some 25), .mv, [.t 8], none⟩ <|
        .take ⟨(some 26), .iadr 1, [.t 24, .t 25], none⟩ <|
        .take ⟨(some 28), .mv, [.t 1], none⟩ <|
        .take ⟨(some 30), .mv, [.t 8], none⟩ <|
        .take ⟨(some 31), .mv, [.t 9], none⟩ <|
        .alt ⟨(some 27), .load false 1, [.t 26], none⟩ (
          .alt ⟨(some 29), .load true 3, [.t 3], none⟩ (
            .alt ⟨(some 32), .call 62 [], [.t 29, .t 30, .t 31], none⟩ (
              .take ⟨(some 33), .iadr 1, [.t 28, .t 32], none⟩ <|
              .alt ⟨(some 34), .load false 1, [.t 33], none⟩ (
                .alt ⟨(some 35), .call 89 [], [.t 27, .t 34], none⟩ (
                  .alt ⟨(some 36), .bsl 1, [.t 35], none⟩ (
                    .alt ⟨(some 37), .app 1 8 true, [.t 23, .t 36], none⟩ (
                      .take ⟨(some 7), .mv, [.t 37], none⟩ <|
                      .done) <|
                    .stop) <|
                  .stop) <|
                .stop) <|
              .stop) <|
            .stop) <|
          .stop) <|
        .alt ⟨(some 29), .load true 3, [.t 3], none⟩ (
          .alt ⟨(some 27), .load false 1, [.t 26], none⟩ (
            .alt ⟨(some 32), .call 62 [], [.t 29, .t 30, .t 31], none⟩ (
              .take ⟨(some 33), .iadr 1, [.t 28, .t 32], none⟩ <|
              .alt ⟨(some 34), .load false 1, [.t 33], none⟩ (
                .alt ⟨(some 35), .call 89 [], [.t 27, .t 34], none⟩ (
                  .alt ⟨(some 36), .bsl 1, [.t 35], none⟩ (
                    .alt ⟨(some 37), .app 1 8 true, [.t 23, .t 36], none⟩ (
                      .take ⟨(some 7), .mv, [.t 37], none⟩ <|
                      .done) <|
                    .stop) <|
                  .stop) <|
                .stop) <|
              .stop) <|
            .stop) <|
          .alt ⟨(some 32), .call 62 [], [.t 29, .t 30, .t 31], none⟩ (
            .take ⟨(some 33), .iadr 1, [.t 28, .t 32], none⟩ <|
            .alt ⟨(some 27), .load false 1, [.t 26], none⟩ (
              .alt ⟨(some 34), .load false 1, [.t 33], none⟩ (
                .alt ⟨(some 35), .call 89 [], [.t 27, .t 34], none⟩ (
                  .alt ⟨(some 36), .bsl 1, [.t 35], none⟩ (
                    .alt ⟨(some 37), .app 1 8 true, [.t 23, .t 36], none⟩ (
                      .take ⟨(some 7), .mv, [.t 37], none⟩ <|
                      .done) <|
                    .stop) <|
                  .stop) <|
                .stop) <|
              .stop) <|
            .alt ⟨(some 34), .load false 1, [.t 33], none⟩ (
              .alt ⟨(some 27), .load false 1, [.t 26], none⟩ (
                .alt ⟨(some 35), .call 89 [], [.t 27, .t 34], none⟩ (
                  .alt ⟨(some 36), .bsl 1, [.t 35], none⟩ (
                    .alt ⟨(some 37), .app 1 8 true, [.t 23, .t 36], none⟩ (
                      .take ⟨(some 7), .mv, [.t 37], none⟩ <|
                      .done) <|
                    .stop) <|
                  .stop) <|
                .stop) <|
              .stop) <|
            .stop) <|
          .stop) <|
        .stop)) (
      .skip))) <|
  .reg [⟨(some 38), .bin .add 0, [.t 12, .c (.v (.int .i64 (1)))], none⟩,
    ⟨(some 12), .mv, [.t 38], none⟩]

def c_impl_Region_pairs : ACode :=
  .seq (.reg [⟨(some 3), .box, [.t 0], none⟩,
    ⟨(some 6), .mv, [.c (.os 1 [])], none⟩]) <|
  .seq (.reg [⟨(some 7), .mv, [.c (.os 1 [])], none⟩]) <|
  .seq (.seq (.reg [⟨(some 10), .mv, [.t 2], none⟩,
    ⟨(some 11), .len false, [.t 10], none⟩,
    ⟨(some 12), .mv, [.c (.v (.int .i64 (0)))], none⟩]) <|
  .block 0 (
    .loop [(1, 1), (7, 1), (10, 1)] [1, 3, 7, 10, 11, 12] c_impl_Region_pairs_L0)) <|
  .seq (.reg [⟨(some 39), .mv, [.t 7], none⟩,
    ⟨(some 40), .call 81 [], [.t 39], none⟩,
    ⟨(some 6), .mv, [.t 40], none⟩]) <|
  .ret

theorem k_impl_Region_pairs : cFn Tryz.prog n_impl_Region_pairs 41 [.t 6] c_impl_Region_pairs := ⟨Tryz.f64, _, Tryz.func64, rfl, by kernel_rfl, by kernel_rfl, by kernel_rfl, by kernel_rfl⟩

end Go.Proofs.Dev
