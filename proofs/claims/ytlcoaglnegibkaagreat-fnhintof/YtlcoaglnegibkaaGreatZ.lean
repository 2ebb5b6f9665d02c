/- Contracts of the functions of the program over slots and rows, each proved against the program itself; no condition beyond those that each theorem names. -/
import Derived.Test.YtlcoaglnegibkaaGreatW
import Derived.Test.YtlcoaglnegibkaaGreatProg

set_option linter.unusedSimpArgs false
set_option linter.unusedVariables false

namespace Go.Proofs.Dev

-- 2 parameters, results [.t 4], 25 slots, modes [false, false]
@[simp] abbrev n_spec_l2First : Nat := 97
def c_spec_l2First_L0 : ACode :=
  .seq (.seq (.reg [⟨(some 6), .mv, [.t 5], none⟩,
    ⟨(some 7), .mv, [.t 1], none⟩,
    ⟨(some 8), .len false, [.t 7], none⟩,
    ⟨(some 9), .bin .lss 0, [.t 6, .t 8], none⟩]) <|
  .cond (.t 9) (
    .skip) (
    .exit 0)) <|
  .seq (.block 1 (
    .seq (.reg [⟨(some 12), .fadr 2, [.t 2], none⟩,
      ⟨(some 13), .load false 1, [.t 12], none⟩,
      ⟨(some 14), .mv, [.t 5], none⟩,
      ⟨(some 15), .iadr 1, [.t 13, .t 14], none⟩,
      ⟨(some 16), .load false 1, [.t 15], none⟩,
      ⟨(some 17), .mv, [.t 16], none⟩,
      ⟨(some 18), .mv, [.t 1], (some (17, true))⟩,
      ⟨(some 19), .mv, [.t 5], (some (17, true))⟩,
      ⟨(some 20), .iadr 1, [.t 18, .t 19], (some (17, true))⟩,
      ⟨(some 21), .load false 1, [.t 20], (some (17, true))⟩,
      ⟨(some 22), .bin .eql 0, [.t 21, .c (.v (.int .i64 (0)))], (some (17, true))⟩,
      ⟨(some 23), .pick, [.t 17, .t 22, .c (.v (.bool false))], none⟩]) <|
    .cond (.t 23) (
      .seq (.reg [⟨(some 24), .mv, [.t 5], none⟩,
        ⟨(some 4), .mv, [.t 24], none⟩]) <|
      .ret) (
      .skip))) <|
  .reg [⟨(some 10), .mv, [.t 5], none⟩,
    ⟨(some 11), .bin .add 0, [.t 10, .c (.v (.int .i64 (1)))], none⟩,
    ⟨(some 5), .mv, [.t 11], none⟩]

def c_spec_l2First : ACode :=
  .seq (.reg [⟨(some 2), .box, [.t 0], none⟩,
    ⟨(some 4), .mv, [.c (.v (.int .i64 (0)))], none⟩]) <|
  .seq (.seq (.reg [⟨(some 5), .mv, [.c (.v (.int .i64 (0)))], none⟩]) <|
  .block 0 (
    .loop [(1, 1)] [1, 2, 5] c_spec_l2First_L0)) <|
  .seq (.reg [⟨(some 4), .mv, [.c (.v (.int .i64 (-1)))], none⟩]) <|
  .ret

theorem k_spec_l2First : cFn Tryz.prog n_spec_l2First 25 [.t 4] c_spec_l2First := ⟨Tryz.f97, _, Tryz.func97, rfl, by kernel_rfl, by kernel_rfl, by kernel_rfl, by kernel_rfl⟩

-- 2 parameters, results [.t 4], 39 slots, modes [false, false]
@[simp] abbrev n_spec_l2All : Nat := 100
def c_spec_l2All_L0 : ACode :=
  .seq (.seq (.reg [⟨(some 20), .mv, [.t 7], none⟩,
    ⟨(some 21), .bin .leq 0, [.t 20, .c (.v (.int .i64 (2)))], none⟩]) <|
  .cond (.t 21) (
    .skip) (
    .exit 0)) <|
  .seq (.block 1 (
    .seq (.reg [⟨(some 25), .load true 3, [.t 2], none⟩,
      ⟨(some 26), .mv, [.t 1], none⟩,
      ⟨(some 27), .mv, [.t 6], none⟩,
      ⟨(some 28), .mv, [.t 7], none⟩,
      ⟨(some 29), .call 29 [], [.t 25, .t 26, .t 27, .t 28], none⟩,
      ⟨(some 24), .mv, [.t 29], none⟩,
      ⟨(some 30), .extr 0, [.t 24], none⟩,
      ⟨(some 31), .extr 1, [.t 24], none⟩,
      ⟨(some 8), .mv, [.t 30], none⟩,
      ⟨(some 9), .mv, [.t 31], none⟩]) <|
    .seq (.reg [⟨(some 32), .mv, [.t 9], none⟩]) <|
    .cond (.t 32) (
      .reg [⟨(some 33), .mv, [.t 5], none⟩,
        ⟨(some 34), .load true 3, [.t 2], none⟩,
        ⟨(some 35), .mv, [.t 8], none⟩,
        ⟨(some 36), .call 100 [], [.t 34, .t 35], none⟩,
        ⟨(some 37), .app 1 24 false, [.t 33, .t 36], none⟩,
        ⟨(some 5), .mv, [.t 37], none⟩]) (
      .skip))) <|
  .reg [⟨(some 22), .mv, [.t 7], none⟩,
    ⟨(some 23), .bin .add 0, [.t 22, .c (.v (.int .i64 (1)))], none⟩,
    ⟨(some 7), .mv, [.t 23], none⟩]

def c_spec_l2All : ACode :=
  .seq (.reg [⟨(some 2), .box, [.t 0], none⟩,
    ⟨(some 4), .mv, [.c (.os 1 [])], none⟩]) <|
  .seq (.reg [⟨(some 10), .bsl 1, [], none⟩,
    ⟨(some 5), .mv, [.t 10], none⟩]) <|
  .seq (.reg [⟨(some 11), .load true 3, [.t 2], none⟩,
    ⟨(some 12), .mv, [.t 1], none⟩,
    ⟨(some 13), .call 97 [], [.t 11, .t 12], none⟩,
    ⟨(some 6), .mv, [.t 13], none⟩]) <|
  .seq (.seq (.reg [⟨(some 14), .mv, [.t 6], none⟩,
    ⟨(some 15), .bin .lss 0, [.t 14, .c (.v (.int .i64 (0)))], none⟩]) <|
  .cond (.t 15) (
    .seq (.reg [⟨(some 16), .mv, [.t 5], none⟩,
      ⟨(some 17), .mv, [.t 1], none⟩,
      ⟨(some 18), .bsl 1, [.t 17], none⟩,
      ⟨(some 19), .app 1 24 false, [.t 16, .t 18], none⟩,
      ⟨(some 4), .mv, [.t 19], none⟩]) <|
    .ret) (
    .skip)) <|
  .seq (.seq (.reg [⟨(some 7), .mv, [.c (.v (.int .i64 (1)))], none⟩]) <|
  .block 0 (
    .loop [(1, 1), (5, 1)] [1, 2, 5, 6, 7] c_spec_l2All_L0)) <|
  .seq (.reg [⟨(some 38), .mv, [.t 5], none⟩,
    ⟨(some 4), .mv, [.t 38], none⟩]) <|
  .ret

theorem k_spec_l2All : cFn Tryz.prog n_spec_l2All 39 [.t 4] c_spec_l2All := ⟨Tryz.f100, _, Tryz.func100, rfl, by kernel_rfl, by kernel_rfl, by kernel_rfl, by kernel_rfl⟩

-- 1 parameters, results [.t 2], 11 slots, modes [false]
@[simp] abbrev n_spec_TilingsAll : Nat := 86

def c_spec_TilingsAll : ACode :=
  .seq (.reg [⟨(some 1), .box, [.t 0], none⟩,
    ⟨(some 2), .mv, [.c (.os 1 [])], none⟩]) <|
  .seq (.seq (.reg [⟨(some 3), .load true 3, [.t 1], none⟩,
    ⟨(some 4), .call 75 [], [.t 3], none⟩,
    ⟨(some 5), .un .not, [.t 4], none⟩]) <|
  .cond (.t 5) (
    .seq (.reg [⟨(some 6), .bsl 1, [], none⟩,
      ⟨(some 2), .mv, [.t 6], none⟩]) <|
    .ret) (
    .skip)) <|
  .seq (.draw (
    .alt ⟨(some 7), .load true 3, [.t 1], none⟩ (
      .alt ⟨(some 8), .load true 3, [.t 1], none⟩ (
        .alt ⟨(some 9), .call 52 [], [.t 8], none⟩ (
          .alt ⟨(some 10), .call 100 [], [.t 7, .t 9], none⟩ (
            .take ⟨(some 2), .mv, [.t 10], none⟩ <|
            .done) <|
          .stop) <|
        .stop) <|
      .stop) <|
    .alt ⟨(some 8), .load true 3, [.t 1], none⟩ (
      .alt ⟨(some 7), .load true 3, [.t 1], none⟩ (
        .alt ⟨(some 9), .call 52 [], [.t 8], none⟩ (
          .alt ⟨(some 10), .call 100 [], [.t 7, .t 9], none⟩ (
            .take ⟨(some 2), .mv, [.t 10], none⟩ <|
            .done) <|
          .stop) <|
        .stop) <|
      .alt ⟨(some 9), .call 52 [], [.t 8], none⟩ (
        .alt ⟨(some 7), .load true 3, [.t 1], none⟩ (
          .alt ⟨(some 10), .call 100 [], [.t 7, .t 9], none⟩ (
            .take ⟨(some 2), .mv, [.t 10], none⟩ <|
            .done) <|
          .stop) <|
        .stop) <|
      .stop) <|
    .stop)) <|
  .ret

theorem k_spec_TilingsAll : cFn Tryz.prog n_spec_TilingsAll 11 [.t 2] c_spec_TilingsAll := ⟨Tryz.f86, _, Tryz.func86, rfl, by kernel_rfl, by kernel_rfl, by kernel_rfl, by kernel_rfl⟩

-- 2 parameters, results [.t 4], 37 slots, modes [false, false]
@[simp] abbrev n_spec_SolutionsAll : Nat := 54
def c_spec_SolutionsAll_L0 : ACode :=
  .seq (.seq (.reg [⟨(some 11), .mv, [.t 7], none⟩,
    ⟨(some 12), .mv, [.t 6], none⟩,
    ⟨(some 13), .len false, [.t 12], none⟩,
    ⟨(some 14), .bin .lss 0, [.t 11, .t 13], none⟩,
    ⟨(some 15), .mv, [.t 14], none⟩,
    ⟨(some 16), .load true 3, [.t 2], (some (15, true))⟩,
    ⟨(some 17), .mv, [.t 1], (some (15, true))⟩,
    ⟨(some 18), .call 39 [], [.t 16, .t 17], (some (15, true))⟩,
    ⟨(some 19), .pick, [.t 15, .t 18, .c (.v (.bool false))], none⟩]) <|
  .cond (.t 19) (
    .skip) (
    .exit 0)) <|
  .seq (.block 1 (
    .seq (.draw (
      .take ⟨(some 23), .mv, [.t 1], none⟩ <|
      .take ⟨(some 24), .mv, [.t 6], none⟩ <|
      .take ⟨(some 25), .mv, [.t 7], none⟩ <|
      .take ⟨(some 26), .iadr 1, [.t 24, .t 25], none⟩ <|
      .alt ⟨(some 22), .load true 3, [.t 2], none⟩ (
        .alt ⟨(some 27), .load false 1, [.t 26], none⟩ (
          .alt ⟨(some 28), .call 87 [], [.t 22, .t 23, .t 27], none⟩ (
            .done) <|
          .stop) <|
        .stop) <|
      .alt ⟨(some 27), .load false 1, [.t 26], none⟩ (
        .alt ⟨(some 22), .load true 3, [.t 2], none⟩ (
          .alt ⟨(some 28), .call 87 [], [.t 22, .t 23, .t 27], none⟩ (
            .done) <|
          .stop) <|
        .stop) <|
      .stop)) <|
    .cond (.t 28) (
      .reg [⟨(some 29), .mv, [.t 5], none⟩,
        ⟨(some 30), .mv, [.t 6], none⟩,
        ⟨(some 31), .mv, [.t 7], none⟩,
        ⟨(some 32), .iadr 1, [.t 30, .t 31], none⟩,
        ⟨(some 33), .load false 1, [.t 32], none⟩,
        ⟨(some 34), .bsl 1, [.t 33], none⟩,
        ⟨(some 35), .app 1 24 false, [.t 29, .t 34], none⟩,
        ⟨(some 5), .mv, [.t 35], none⟩]) (
      .skip))) <|
  .reg [⟨(some 20), .mv, [.t 7], none⟩,
    ⟨(some 21), .bin .add 0, [.t 20, .c (.v (.int .i64 (1)))], none⟩,
    ⟨(some 7), .mv, [.t 21], none⟩]

def c_spec_SolutionsAll : ACode :=
  .seq (.reg [⟨(some 2), .box, [.t 0], none⟩,
    ⟨(some 4), .mv, [.c (.os 1 [])], none⟩]) <|
  .seq (.reg [⟨(some 8), .bsl 1, [], none⟩,
    ⟨(some 5), .mv, [.t 8], none⟩]) <|
  .seq (.reg [⟨(some 9), .load true 3, [.t 2], none⟩,
    ⟨(some 10), .call 86 [], [.t 9], none⟩,
    ⟨(some 6), .mv, [.t 10], none⟩]) <|
  .seq (.seq (.reg [⟨(some 7), .mv, [.c (.v (.int .i64 (0)))], none⟩]) <|
  .block 0 (
    .loop [(1, 1), (5, 1), (6, 1)] [1, 2, 5, 6, 7] c_spec_SolutionsAll_L0)) <|
  .seq (.reg [⟨(some 36), .mv, [.t 5], none⟩,
    ⟨(some 4), .mv, [.t 36], none⟩]) <|
  .ret

theorem k_spec_SolutionsAll : cFn Tryz.prog n_spec_SolutionsAll 37 [.t 4] c_spec_SolutionsAll := ⟨Tryz.f54, _, Tryz.func54, rfl, by kernel_rfl, by kernel_rfl, by kernel_rfl, by kernel_rfl⟩

-- 1 parameters, results [.t 2], 11 slots, modes [false]
@[simp] abbrev n_spec_LaidBare : Nat := 52

def c_spec_LaidBare : ACode :=
  .seq (.reg [⟨(some 1), .box, [.t 0], none⟩,
    ⟨(some 2), .mv, [.c (.os 1 [])], none⟩]) <|
  .seq (.seq (.reg [⟨(some 3), .load true 3, [.t 1], none⟩,
    ⟨(some 4), .call 75 [], [.t 3], none⟩,
    ⟨(some 5), .un .not, [.t 4], none⟩]) <|
  .cond (.t 5) (
    .seq (.reg [⟨(some 6), .bsl 1, [], none⟩,
      ⟨(some 2), .mv, [.t 6], none⟩]) <|
    .ret) (
    .skip)) <|
  .seq (.reg [⟨(some 7), .fadr 2, [.t 1], none⟩,
    ⟨(some 8), .load false 1, [.t 7], none⟩,
    ⟨(some 9), .len false, [.t 8], none⟩,
    ⟨(some 10), .mksl 1 8 (.v (.int .i64 (0))), [.t 9, .t 9], none⟩,
    ⟨(some 2), .mv, [.t 10], none⟩]) <|
  .ret

theorem k_spec_LaidBare : cFn Tryz.prog n_spec_LaidBare 11 [.t 2] c_spec_LaidBare := ⟨Tryz.f52, _, Tryz.func52, rfl, by kernel_rfl, by kernel_rfl, by kernel_rfl, by kernel_rfl⟩

end Go.Proofs.Dev

namespace Go.Proofs.Dev

-- 1 parameters, results [.t 5], 14 slots, modes [false]
@[simp] abbrev n_impl_Region_solutions_1 : Nat := 72

def c_impl_Region_solutions_1 : ACode :=
  .seq (.reg [⟨(some 5), .mv, [.c (.v (.bool false))], none⟩]) <|
  .seq (.seq (.reg [⟨(some 6), .load true 3, [.t 1], none⟩,
    ⟨(some 7), .load false 1, [.t 2], none⟩,
    ⟨(some 8), .mv, [.t 0], none⟩,
    ⟨(some 9), .call 32 [], [.t 6, .t 7, .t 8], none⟩]) <|
  .cond (.t 9) (
    .reg [⟨(some 10), .load false 1, [.t 3], none⟩,
      ⟨(some 11), .mv, [.t 0], none⟩,
      ⟨(some 12), .bsl 1, [.t 11], none⟩,
      ⟨(some 13), .app 1 24 false, [.t 10, .t 12], none⟩,
      ⟨none, .store 1, [.t 3, .t 13], none⟩]) (
    .skip)) <|
  .seq (.reg [⟨(some 5), .mv, [.c (.v (.bool true))], none⟩]) <|
  .ret

theorem k_impl_Region_solutions_1 : cFn Tryz.prog n_impl_Region_solutions_1 14 [.t 5] c_impl_Region_solutions_1 := ⟨Tryz.f72, _, Tryz.func72, rfl, by kernel_rfl, by kernel_rfl, by kernel_rfl, by kernel_rfl⟩

-- 3 parameters, results [.t 6], 61 slots, modes [false, false, true]
@[simp] abbrev n_impl_Region_each : Nat := 71
def c_impl_Region_each_L0 : ACode :=
  .seq (.seq (.reg [⟨(some 10), .mv, [.t 7], none⟩,
    ⟨(some 11), .mv, [.t 1], none⟩,
    ⟨(some 12), .len false, [.t 11], none⟩,
    ⟨(some 13), .bin .lss 0, [.t 10, .t 12], none⟩,
    ⟨(some 14), .mv, [.t 13], none⟩,
    ⟨(some 15), .fadr 2, [.t 3], (some (14, true))⟩,
    ⟨(some 16), .load false 1, [.t 15], (some (14, true))⟩,
    ⟨(some 17), .mv, [.t 7], (some (14, true))⟩,
    ⟨(some 18), .iadr 1, [.t 16, .t 17], (some (14, true))⟩,
    ⟨(some 19), .load false 1, [.t 18], (some (14, true))⟩,
    ⟨(some 20), .un .not, [.t 19], (some (14, true))⟩,
    ⟨(some 21), .mv, [.t 20], (some (14, true))⟩,
    ⟨(some 22), .mv, [.t 1], (some (21, false))⟩,
    ⟨(some 23), .mv, [.t 7], (some (21, false))⟩,
    ⟨(some 24), .iadr 1, [.t 22, .t 23], (some (21, false))⟩,
    ⟨(some 25), .load false 1, [.t 24], (some (21, false))⟩,
    ⟨(some 26), .bin .neq 0, [.t 25, .c (.v (.int .i64 (0)))], (some (21, false))⟩,
    ⟨(some 27), .pick, [.t 21, .c (.v (.bool true)), .t 26], (some (14, true))⟩,
    ⟨(some 28), .pick, [.t 14, .t 27, .c (.v (.bool false))], none⟩]) <|
  .cond (.t 28) (
    .skip) (
    .exit 0)) <|
  .block 1 (
    .reg [⟨(some 29), .mv, [.t 7], none⟩,
      ⟨(some 30), .bin .add 0, [.t 29, .c (.v (.int .i64 (1)))], none⟩,
      ⟨(some 7), .mv, [.t 30], none⟩])

def c_impl_Region_each_L1 : ACode :=
  .seq (.reg [⟨(some 41), .bin .lss 0, [.t 40, .t 39], none⟩]) <|
  .seq (.cond (.t 41) (
    .skip) (
    .exit 2)) <|
  .seq (.block 3 (
    .seq (.reg [⟨(some 42), .iadr 1, [.t 38, .t 40], none⟩,
      ⟨(some 43), .load false 1, [.t 42], none⟩,
      ⟨(some 9), .mv, [.t 43], none⟩]) <|
    .seq (.draw (
      .take ⟨(some 45), .mv, [.t 1], none⟩ <|
      .take ⟨(some 46), .mv, [.t 7], none⟩ <|
      .take ⟨(some 47), .mv, [.t 9], none⟩ <|
      .alt ⟨(some 44), .load true 3, [.t 3], none⟩ (
        .alt ⟨(some 48), .call 48 [], [.t 44, .t 45, .t 46, .t 47], none⟩ (
          .take ⟨(some 49), .mv, [.t 48], none⟩ <|
          .take ⟨(some 52), .mv, [.t 1], (some (49, true))⟩ <|
          .take ⟨(some 53), .mv, [.t 7], (some (49, true))⟩ <|
          .take ⟨(some 54), .mv, [.t 9], (some (49, true))⟩ <|
          .take ⟨(some 56), .mv, [.t 2], (some (49, true))⟩ <|
          .alt ⟨(some 50), .load true 3, [.t 3], (some (49, true))⟩ (
            .alt ⟨(some 51), .load true 3, [.t 3], (some (49, true))⟩ (
              .alt ⟨(some 55), .call 50 [], [.t 51, .t 52, .t 53, .t 54], (some (49, true))⟩ (
                .alt ⟨(some 57), .call 71 [], [.t 50, .t 55, .t 56], (some (49, true))⟩ (
                  .take ⟨(some 58), .un .not, [.t 57], (some (49, true))⟩ <|
                  .take ⟨(some 59), .pick, [.t 49, .t 58, .c (.v (.bool false))], none⟩ <|
                  .done) <|
                .stop) <|
              .stop) <|
            .stop) <|
          .alt ⟨(some 51), .load true 3, [.t 3], (some (49, true))⟩ (
            .alt ⟨(some 50), .load true 3, [.t 3], (some (49, true))⟩ (
              .alt ⟨(some 55), .call 50 [], [.t 51, .t 52, .t 53, .t 54], (some (49, true))⟩ (
                .alt ⟨(some 57), .call 71 [], [.t 50, .t 55, .t 56], (some (49, true))⟩ (
                  .take ⟨(some 58), .un .not, [.t 57], (some (49, true))⟩ <|
                  .take ⟨(some 59), .pick, [.t 49, .t 58, .c (.v (.bool false))], none⟩ <|
                  .done) <|
                .stop) <|
              .stop) <|
            .alt ⟨(some 55), .call 50 [], [.t 51, .t 52, .t 53, .t 54], (some (49, true))⟩ (
              .alt ⟨(some 50), .load true 3, [.t 3], (some (49, true))⟩ (
                .alt ⟨(some 57), .call 71 [], [.t 50, .t 55, .t 56], (some (49, true))⟩ (
                  .take ⟨(some 58), .un .not, [.t 57], (some (49, true))⟩ <|
                  .take ⟨(some 59), .pick, [.t 49, .t 58, .c (.v (.bool false))], none⟩ <|
                  .done) <|
                .stop) <|
              .stop) <|
            .stop) <|
          .stop) <|
        .stop) <|
      .stop)) <|
    .cond (.t 59) (
      .seq (.reg [⟨(some 6), .mv, [.c (.v (.bool false))], none⟩]) <|
      .ret) (
      .skip))) <|
  .reg [⟨(some 60), .bin .add 0, [.t 40, .c (.v (.int .i64 (1)))], none⟩,
    ⟨(some 40), .mv, [.t 60], none⟩]

def c_impl_Region_each : ACode :=
  .seq (.reg [⟨(some 3), .box, [.t 0], none⟩,
    ⟨(some 6), .mv, [.c (.v (.bool false))], none⟩]) <|
  .seq (.reg [⟨(some 7), .mv, [.c (.v (.int .i64 (0)))], none⟩]) <|
  .seq (.block 0 (
    .loop [(1, 1)] [1, 2, 3, 7, 63] c_impl_Region_each_L0)) <|
  .seq (.seq (.reg [⟨(some 31), .mv, [.t 7], none⟩,
    ⟨(some 32), .mv, [.t 1], none⟩,
    ⟨(some 33), .len false, [.t 32], none⟩,
    ⟨(some 34), .bin .eql 0, [.t 31, .t 33], none⟩]) <|
  .cond (.t 34) (
    .seq (.reg [⟨(some 35), .mv, [.t 2], none⟩,
      ⟨(some 36), .mv, [.t 1], none⟩,
      ⟨(some 37), .callv [], [.t 35, .t 36], none⟩,
      ⟨(some 6), .mv, [.t 37], none⟩]) <|
    .ret) (
    .skip)) <|
  .seq (.seq (.reg [⟨(some 38), .bsl 1, [.c (.v (.int .i64 (1))), .c (.v (.int .i64 (2)))], none⟩,
    ⟨(some 39), .len false, [.t 38], none⟩,
    ⟨(some 40), .mv, [.c (.v (.int .i64 (0)))], none⟩]) <|
  .block 2 (
    .loop [(1, 1), (38, 1)] [1, 2, 3, 7, 38, 39, 40, 63] c_impl_Region_each_L1)) <|
  .seq (.reg [⟨(some 6), .mv, [.c (.v (.bool true))], none⟩]) <|
  .ret

theorem k_impl_Region_each : cFn Tryz.prog n_impl_Region_each 61 [.t 6] c_impl_Region_each := ⟨Tryz.f71, _, Tryz.func71, rfl, by kernel_rfl, by kernel_rfl, by kernel_rfl, by kernel_rfl⟩

-- 3 parameters, results [.t 6], 15 slots, modes [false, false, false]
@[simp] abbrev n_impl_Region_solutions : Nat := 35
def c_impl_Region_solutions_T0 : ACode :=
  .seq (.reg [⟨(some 13), .load false 1, [.t 7], none⟩,
    ⟨(some 14), .call 73 [], [.t 13], none⟩,
    ⟨(some 6), .mv, [.t 14], none⟩]) <|
  .ret

def c_impl_Region_solutions : ACode :=
  .seq (.reg [⟨(some 3), .box, [.t 0], none⟩,
    ⟨(some 4), .box, [.t 1], none⟩,
    ⟨(some 6), .mv, [.c (.os 1 [])], none⟩]) <|
  .seq (.reg [⟨(some 7), .alloc [.os 1 []], [], none⟩]) <|
  .seq (.draw (
    .take ⟨(some 9), .mv, [.t 2], none⟩ <|
    .take ⟨(some 11), .mkfn 72, [.t 3, .t 4, .t 7], none⟩ <|
    .alt ⟨(some 8), .load true 3, [.t 3], none⟩ (
      .alt ⟨(some 10), .call 49 [], [.t 9], none⟩ (
        .alt ⟨(some 12), .call 71 [], [.t 8, .t 10, .t 11], none⟩ (
          .done) <|
        .stop) <|
      .stop) <|
    .alt ⟨(some 10), .call 49 [], [.t 9], none⟩ (
      .alt ⟨(some 8), .load true 3, [.t 3], none⟩ (
        .alt ⟨(some 12), .call 71 [], [.t 8, .t 10, .t 11], none⟩ (
          .done) <|
        .stop) <|
      .stop) <|
    .stop)) <|
  .gc [] [7] c_impl_Region_solutions_T0

theorem k_impl_Region_solutions : cFn Tryz.prog n_impl_Region_solutions 15 [.t 6] c_impl_Region_solutions := ⟨Tryz.f35, _, Tryz.func35, rfl, by kernel_rfl, by kernel_rfl, by kernel_rfl, by kernel_rfl⟩

-- 2 parameters, results [.t 4], 15 slots, modes [false, false]
@[simp] abbrev n_impl_SolutionsAll : Nat := 12

def c_impl_SolutionsAll : ACode :=
  .seq (.reg [⟨(some 2), .box, [.t 0], none⟩,
    ⟨(some 4), .mv, [.c (.os 1 [])], none⟩]) <|
  .seq (.seq (.reg [⟨(some 5), .load true 3, [.t 2], none⟩,
    ⟨(some 6), .mv, [.t 1], none⟩,
    ⟨(some 7), .call 30 [], [.t 5, .t 6], none⟩,
    ⟨(some 8), .un .not, [.t 7], none⟩]) <|
  .cond (.t 8) (
    .seq (.reg [⟨(some 4), .mv, [.c (.os 1 [])], none⟩]) <|
    .ret) (
    .skip)) <|
  .seq (.draw (
    .take ⟨(some 10), .mv, [.t 1], none⟩ <|
    .take ⟨(some 11), .mv, [.t 1], none⟩ <|
    .take ⟨(some 12), .len false, [.t 11], none⟩ <|
    .alt ⟨(some 9), .load true 3, [.t 2], none⟩ (
      .alt ⟨(some 13), .mksl 1 8 (.v (.int .i64 (0))), [.t 12, .t 12], none⟩ (
        .alt ⟨(some 14), .call 35 [], [.t 9, .t 10, .t 13], none⟩ (
          .take ⟨(some 4), .mv, [.t 14], none⟩ <|
          .done) <|
        .stop) <|
      .stop) <|
    .alt ⟨(some 13), .mksl 1 8 (.v (.int .i64 (0))), [.t 12, .t 12], none⟩ (
      .alt ⟨(some 9), .load true 3, [.t 2], none⟩ (
        .alt ⟨(some 14), .call 35 [], [.t 9, .t 10, .t 13], none⟩ (
          .take ⟨(some 4), .mv, [.t 14], none⟩ <|
          .done) <|
        .stop) <|
      .stop) <|
    .stop)) <|
  .ret

theorem k_impl_SolutionsAll : cFn Tryz.prog n_impl_SolutionsAll 15 [.t 4] c_impl_SolutionsAll := ⟨Tryz.f12, _, Tryz.func12, rfl, by kernel_rfl, by kernel_rfl, by kernel_rfl, by kernel_rfl⟩

end Go.Proofs.Dev

namespace Go.Proofs.Dev

-- 1 parameters, results [.t 2], 9 slots, modes [true]
@[simp] abbrev n_slices_Clip_ints : Nat := 73

def c_slices_Clip_ints : ACode :=
  .seq (.reg [⟨(some 2), .mv, [.c (.os 1 [])], none⟩]) <|
  .seq (.reg [⟨(some 3), .mv, [.t 0], none⟩,
    ⟨(some 4), .mv, [.t 0], none⟩,
    ⟨(some 5), .len false, [.t 4], none⟩,
    ⟨(some 6), .mv, [.t 0], none⟩,
    ⟨(some 7), .len false, [.t 6], none⟩,
    ⟨(some 8), .slice 1 false false true true, [.t 3, .t 5, .t 7], none⟩,
    ⟨(some 2), .mv, [.t 8], none⟩]) <|
  .ret

theorem k_slices_Clip_ints : cFn Tryz.prog n_slices_Clip_ints 9 [.t 2] c_slices_Clip_ints := ⟨Tryz.f73, _, Tryz.func73, rfl, by kernel_rfl, by kernel_rfl, by kernel_rfl, by kernel_rfl⟩

-- 3 parameters, results [.t 6, .t 7], 19 slots, modes [false, false, false]
@[simp] abbrev n_impl_Region_solve : Nat := 47

def c_impl_Region_solve : ACode :=
  .seq (.reg [⟨(some 3), .box, [.t 0], none⟩,
    ⟨(some 6), .mv, [.c (.os 1 [])], none⟩,
    ⟨(some 7), .mv, [.c (.v (.bool false))], none⟩]) <|
  .seq (.reg [⟨(some 9), .load true 3, [.t 3], none⟩,
    ⟨(some 10), .mv, [.t 1], none⟩,
    ⟨(some 11), .mv, [.t 2], none⟩,
    ⟨(some 12), .call 35 [], [.t 9, .t 10, .t 11], none⟩,
    ⟨(some 8), .mv, [.t 12], none⟩]) <|
  .seq (.seq (.reg [⟨(some 13), .mv, [.t 8], none⟩,
    ⟨(some 14), .len false, [.t 13], none⟩,
    ⟨(some 15), .bin .eql 0, [.t 14, .c (.v (.int .i64 (0)))], none⟩]) <|
  .cond (.t 15) (
    .seq (.reg [⟨(some 6), .mv, [.c (.os 1 [])], none⟩,
      ⟨(some 7), .mv, [.c (.v (.bool false))], none⟩]) <|
    .ret) (
    .skip)) <|
  .seq (.own [(.op, ⟨(some 16), .mv, [.t 8], none⟩),
    (.op, ⟨(some 17), .iadr 1, [.t 16, .c (.v (.int .i64 (0)))], none⟩),
    (.take, ⟨(some 18), .load false 1, [.t 17], none⟩),
    (.op, ⟨(some 6), .mv, [.t 18], none⟩),
    (.op, ⟨(some 7), .mv, [.c (.v (.bool true))], none⟩)]) <|
  .ret

theorem k_impl_Region_solve : cFn Tryz.prog n_impl_Region_solve 19 [.t 6, .t 7] c_impl_Region_solve := ⟨Tryz.f47, _, Tryz.func47, rfl, by kernel_rfl, by kernel_rfl, by kernel_rfl, by kernel_rfl⟩

-- 3 parameters, results [.t 6, .t 7], 19 slots, modes [false, false, false]
@[simp] abbrev n_impl_SolveFirst : Nat := 23

def c_impl_SolveFirst : ACode :=
  .seq (.reg [⟨(some 3), .box, [.t 0], none⟩,
    ⟨(some 6), .mv, [.c (.os 1 [])], none⟩,
    ⟨(some 7), .mv, [.c (.v (.bool false))], none⟩]) <|
  .seq (.seq (.reg [⟨(some 8), .load true 3, [.t 3], none⟩,
    ⟨(some 9), .mv, [.t 1], none⟩,
    ⟨(some 10), .mv, [.t 2], none⟩,
    ⟨(some 11), .call 10 [], [.t 8, .t 9, .t 10], none⟩,
    ⟨(some 12), .un .not, [.t 11], none⟩]) <|
  .cond (.t 12) (
    .seq (.reg [⟨(some 6), .mv, [.c (.os 1 [])], none⟩,
      ⟨(some 7), .mv, [.c (.v (.bool false))], none⟩]) <|
    .ret) (
    .skip)) <|
  .seq (.reg [⟨(some 13), .load true 3, [.t 3], none⟩,
    ⟨(some 14), .mv, [.t 1], none⟩,
    ⟨(some 15), .mv, [.t 2], none⟩,
    ⟨(some 16), .call 47 [], [.t 13, .t 14, .t 15], none⟩,
    ⟨(some 17), .extr 0, [.t 16], none⟩,
    ⟨(some 18), .extr 1, [.t 16], none⟩,
    ⟨(some 6), .mv, [.t 17], none⟩,
    ⟨(some 7), .mv, [.t 18], none⟩]) <|
  .ret

theorem k_impl_SolveFirst : cFn Tryz.prog n_impl_SolveFirst 19 [.t 6, .t 7] c_impl_SolveFirst := ⟨Tryz.f23, _, Tryz.func23, rfl, by kernel_rfl, by kernel_rfl, by kernel_rfl, by kernel_rfl⟩

-- 3 parameters, results [.t 6, .t 7], 47 slots, modes [false, false, false]
@[simp] abbrev n_impl_HintOf : Nat := 21
def c_impl_HintOf_L0 : ACode :=
  .seq (.seq (.reg [⟨(some 25), .mv, [.t 11], none⟩,
    ⟨(some 26), .mv, [.t 2], none⟩,
    ⟨(some 27), .len false, [.t 26], none⟩,
    ⟨(some 28), .bin .lss 0, [.t 25, .t 27], none⟩,
    ⟨(some 29), .mv, [.t 28], none⟩,
    ⟨(some 30), .mv, [.t 10], (some (29, true))⟩,
    ⟨(some 31), .bin .lss 0, [.t 30, .c (.v (.int .i64 (0)))], (some (29, true))⟩,
    ⟨(some 32), .pick, [.t 29, .t 31, .c (.v (.bool false))], none⟩]) <|
  .cond (.t 32) (
    .skip) (
    .exit 0)) <|
  .seq (.block 1 (
    .seq (.reg [⟨(some 35), .load true 3, [.t 3], none⟩,
      ⟨(some 36), .mv, [.t 2], none⟩,
      ⟨(some 37), .mv, [.t 11], none⟩,
      ⟨(some 38), .call 45 [], [.t 35, .t 36, .t 37], none⟩]) <|
    .cond (.t 38) (
      .reg [⟨(some 39), .mv, [.t 11], none⟩,
        ⟨(some 10), .mv, [.t 39], none⟩]) (
      .skip))) <|
  .reg [⟨(some 33), .mv, [.t 11], none⟩,
    ⟨(some 34), .bin .add 0, [.t 33, .c (.v (.int .i64 (1)))], none⟩,
    ⟨(some 11), .mv, [.t 34], none⟩]

def c_impl_HintOf : ACode :=
  .seq (.reg [⟨(some 3), .box, [.t 0], none⟩,
    ⟨(some 6), .mv, [.c (.v (.int .i64 (0)))], none⟩,
    ⟨(some 7), .mv, [.c (.v (.int .i64 (0)))], none⟩]) <|
  .seq (.reg [⟨(some 13), .load true 3, [.t 3], none⟩,
    ⟨(some 14), .mv, [.t 1], none⟩,
    ⟨(some 15), .mv, [.t 2], none⟩,
    ⟨(some 16), .call 23 [], [.t 13, .t 14, .t 15], none⟩,
    ⟨(some 12), .mv, [.t 16], none⟩,
    ⟨(some 17), .extr 0, [.t 12], none⟩,
    ⟨(some 18), .extr 1, [.t 12], none⟩,
    ⟨(some 8), .mv, [.t 17], none⟩,
    ⟨(some 9), .mv, [.t 18], none⟩]) <|
  .seq (.seq (.reg [⟨(some 19), .mv, [.t 9], none⟩,
    ⟨(some 20), .un .not, [.t 19], none⟩]) <|
  .cond (.t 20) (
    .seq (.reg [⟨(some 6), .mv, [.c (.v (.int .i64 (-1)))], none⟩,
      ⟨(some 7), .mv, [.c (.v (.int .i64 (0)))], none⟩]) <|
    .ret) (
    .skip)) <|
  .seq (.reg [⟨(some 21), .load true 3, [.t 3], none⟩,
    ⟨(some 22), .mv, [.t 1], none⟩,
    ⟨(some 23), .mv, [.t 2], none⟩,
    ⟨(some 24), .call 44 [], [.t 21, .t 22, .t 23, .c (.v (.int .i64 (1)))], none⟩,
    ⟨(some 10), .mv, [.t 24], none⟩]) <|
  .seq (.seq (.reg [⟨(some 11), .mv, [.c (.v (.int .i64 (0)))], none⟩]) <|
  .block 0 (
    .loop [(2, 1), (8, 1)] [2, 3, 8, 10, 11] c_impl_HintOf_L0)) <|
  .seq (.seq (.reg [⟨(some 40), .mv, [.t 10], none⟩,
    ⟨(some 41), .bin .lss 0, [.t 40, .c (.v (.int .i64 (0)))], none⟩]) <|
  .cond (.t 41) (
    .seq (.reg [⟨(some 6), .mv, [.c (.v (.int .i64 (-1)))], none⟩,
      ⟨(some 7), .mv, [.c (.v (.int .i64 (0)))], none⟩]) <|
    .ret) (
    .skip)) <|
  .seq (.draw (
    .take ⟨(some 42), .mv, [.t 10], none⟩ <|
    .take ⟨(some 43), .mv, [.t 8], none⟩ <|
    .take ⟨(some 44), .mv, [.t 10], none⟩ <|
    .take ⟨(some 45), .iadr 1, [.t 43, .t 44], none⟩ <|
    .take ⟨(some 6), .mv, [.t 42], none⟩ <|
    .alt ⟨(some 46), .load false 1, [.t 45], none⟩ (
      .take ⟨(some 7), .mv, [.t 46], none⟩ <|
      .done) <|
    .stop)) <|
  .ret

theorem k_impl_HintOf : cFn Tryz.prog n_impl_HintOf 47 [.t 6, .t 7] c_impl_HintOf := ⟨Tryz.f21, _, Tryz.func21, rfl, by kernel_rfl, by kernel_rfl, by kernel_rfl, by kernel_rfl⟩

-- 3 parameters, results [.t 6, .t 7], 61 slots, modes [false, false, false]
@[simp] abbrev n_spec_SolveFirst : Nat := 46
def c_spec_SolveFirst_L0 : ACode :=
  .seq (.seq (.reg [⟨(some 27), .mv, [.t 11], none⟩,
    ⟨(some 28), .mv, [.t 2], none⟩,
    ⟨(some 29), .len false, [.t 28], none⟩,
    ⟨(some 30), .bin .lss 0, [.t 27, .t 29], none⟩]) <|
  .cond (.t 30) (
    .skip) (
    .exit 2)) <|
  .seq (.block 3 (
    .draw (
      .take ⟨(some 33), .mv, [.t 10], none⟩ <|
      .take ⟨(some 34), .mv, [.t 33], none⟩ <|
      .take ⟨(some 35), .mv, [.t 2], (some (34, true))⟩ <|
      .take ⟨(some 36), .mv, [.t 11], (some (34, true))⟩ <|
      .take ⟨(some 37), .iadr 1, [.t 35, .t 36], (some (34, true))⟩ <|
      .alt ⟨(some 38), .load false 1, [.t 37], (some (34, true))⟩ (
        .take ⟨(some 39), .bin .eql 0, [.t 38, .c (.v (.int .i64 (0)))], (some (34, true))⟩ <|
        .take ⟨(some 40), .mv, [.t 39], (some (34, true))⟩ <|
        .take ⟨(some 41), .mv, [.t 8], (some (40, false))⟩ <|
        .take ⟨(some 42), .mv, [.t 9], (some (40, false))⟩ <|
        .take ⟨(some 43), .iadr 1, [.t 41, .t 42], (some (40, false))⟩ <|
        .take ⟨(some 45), .mv, [.t 11], (some (40, false))⟩ <|
        .take ⟨(some 48), .mv, [.t 2], (some (40, false))⟩ <|
        .take ⟨(some 49), .mv, [.t 11], (some (40, false))⟩ <|
        .take ⟨(some 50), .iadr 1, [.t 48, .t 49], (some (40, false))⟩ <|
        .alt ⟨(some 44), .load false 1, [.t 43], (some (40, false))⟩ (
          .take ⟨(some 46), .iadr 1, [.t 44, .t 45], (some (40, false))⟩ <|
          .alt ⟨(some 47), .load false 1, [.t 46], (some (40, false))⟩ (
            .alt ⟨(some 51), .load false 1, [.t 50], (some (40, false))⟩ (
              .take ⟨(some 52), .bin .eql 0, [.t 47, .t 51], (some (40, false))⟩ <|
              .take ⟨(some 53), .pick, [.t 40, .c (.v (.bool true)), .t 52], (some (34, true))⟩ <|
              .take ⟨(some 54), .pick, [.t 34, .t 53, .c (.v (.bool false))], none⟩ <|
              .take ⟨(some 10), .mv, [.t 54], none⟩ <|
              .done) <|
            .stop) <|
          .alt ⟨(some 51), .load false 1, [.t 50], (some (40, false))⟩ (
            .alt ⟨(some 47), .load false 1, [.t 46], (some (40, false))⟩ (
              .take ⟨(some 52), .bin .eql 0, [.t 47, .t 51], (some (40, false))⟩ <|
              .take ⟨(some 53), .pick, [.t 40, .c (.v (.bool true)), .t 52], (some (34, true))⟩ <|
              .take ⟨(some 54), .pick, [.t 34, .t 53, .c (.v (.bool false))], none⟩ <|
              .take ⟨(some 10), .mv, [.t 54], none⟩ <|
              .done) <|
            .stop) <|
          .stop) <|
        .alt ⟨(some 51), .load false 1, [.t 50], (some (40, false))⟩ (
          .alt ⟨(some 44), .load false 1, [.t 43], (some (40, false))⟩ (
            .take ⟨(some 46), .iadr 1, [.t 44, .t 45], (some (40, false))⟩ <|
            .alt ⟨(some 47), .load false 1, [.t 46], (some (40, false))⟩ (
              .take ⟨(some 52), .bin .eql 0, [.t 47, .t 51], (some (40, false))⟩ <|
              .take ⟨(some 53), .pick, [.t 40, .c (.v (.bool true)), .t 52], (some (34, true))⟩ <|
              .take ⟨(some 54), .pick, [.t 34, .t 53, .c (.v (.bool false))], none⟩ <|
              .take ⟨(some 10), .mv, [.t 54], none⟩ <|
              .done) <|
            .stop) <|
          .stop) <|
        .stop) <|
      .stop))) <|
  .reg [⟨(some 31), .mv, [.t 11], none⟩,
    ⟨(some 32), .bin .add 0, [.t 31, .c (.v (.int .i64 (1)))], none⟩,
    ⟨(some 11), .mv, [.t 32], none⟩]

def c_spec_SolveFirst_L1 : ACode :=
  .seq (.seq (.reg [⟨(some 15), .mv, [.t 9], none⟩,
    ⟨(some 16), .mv, [.t 8], none⟩,
    ⟨(some 17), .len false, [.t 16], none⟩,
    ⟨(some 18), .bin .lss 0, [.t 15, .t 17], none⟩,
    ⟨(some 19), .mv, [.t 18], none⟩,
    ⟨(some 20), .load true 3, [.t 3], (some (19, true))⟩,
    ⟨(some 21), .mv, [.t 1], (some (19, true))⟩,
    ⟨(some 22), .mv, [.t 2], (some (19, true))⟩,
    ⟨(some 23), .call 18 [], [.t 20, .t 21, .t 22], (some (19, true))⟩,
    ⟨(some 24), .pick, [.t 19, .t 23, .c (.v (.bool false))], none⟩]) <|
  .cond (.t 24) (
    .skip) (
    .exit 0)) <|
  .seq (.block 1 (
    .seq (.reg [⟨(some 10), .mv, [.c (.v (.bool true))], none⟩]) <|
    .seq (.seq (.reg [⟨(some 11), .mv, [.c (.v (.int .i64 (0)))], none⟩]) <|
    .block 2 (
      .loop [(1, 1), (2, 1), (8, 1)] [1, 2, 3, 8, 9, 10, 11] c_spec_SolveFirst_L0)) <|
    .seq (.reg [⟨(some 55), .mv, [.t 10], none⟩]) <|
    .cond (.t 55) (
      .seq (.reg [⟨(some 56), .mv, [.t 8], none⟩,
        ⟨(some 57), .mv, [.t 9], none⟩,
        ⟨(some 58), .iadr 1, [.t 56, .t 57], none⟩,
        ⟨(some 59), .load false 1, [.t 58], none⟩,
        ⟨(some 6), .mv, [.t 59], none⟩,
        ⟨(some 7), .mv, [.c (.v (.bool true))], none⟩]) <|
      .ret) (
      .skip))) <|
  .reg [⟨(some 25), .mv, [.t 9], none⟩,
    ⟨(some 26), .bin .add 0, [.t 25, .c (.v (.int .i64 (1)))], none⟩,
    ⟨(some 9), .mv, [.t 26], none⟩]

def c_spec_SolveFirst : ACode :=
  .seq (.reg [⟨(some 3), .box, [.t 0], none⟩,
    ⟨(some 6), .mv, [.c (.os 1 [])], none⟩,
    ⟨(some 7), .mv, [.c (.v (.bool false))], none⟩]) <|
  .seq (.reg [⟨(some 12), .load true 3, [.t 3], none⟩,
    ⟨(some 13), .mv, [.t 1], none⟩,
    ⟨(some 14), .call 54 [], [.t 12, .t 13], none⟩,
    ⟨(some 8), .mv, [.t 14], none⟩]) <|
  .seq (.seq (.reg [⟨(some 9), .mv, [.c (.v (.int .i64 (0)))], none⟩]) <|
  .block 0 (
    .loop [(1, 1), (2, 1), (8, 1)] [1, 2, 3, 8, 9] c_spec_SolveFirst_L1)) <|
  .seq (.reg [⟨(some 60), .bsl 1, [], none⟩,
    ⟨(some 6), .mv, [.t 60], none⟩,
    ⟨(some 7), .mv, [.c (.v (.bool false))], none⟩]) <|
  .ret

theorem k_spec_SolveFirst : cFn Tryz.prog n_spec_SolveFirst 61 [.t 6, .t 7] c_spec_SolveFirst := ⟨Tryz.f46, _, Tryz.func46, rfl, by kernel_rfl, by kernel_rfl, by kernel_rfl, by kernel_rfl⟩

-- 3 parameters, results [.t 6, .t 7], 71 slots, modes [false, false, false]
@[simp] abbrev n_spec_HintOf : Nat := 22
def c_spec_HintOf_L0 : ACode :=
  .seq (.seq (.reg [⟨(some 20), .mv, [.t 11], none⟩,
    ⟨(some 21), .mv, [.t 2], none⟩,
    ⟨(some 22), .len false, [.t 21], none⟩,
    ⟨(some 23), .bin .lss 0, [.t 20, .t 22], none⟩,
    ⟨(some 24), .mv, [.t 23], none⟩,
    ⟨(some 25), .mv, [.t 9], (some (24, true))⟩,
    ⟨(some 26), .pick, [.t 24, .t 25, .c (.v (.bool false))], none⟩]) <|
  .cond (.t 26) (
    .skip) (
    .exit 0)) <|
  .seq (.block 1 (
    .seq (.reg [⟨(some 29), .mv, [.t 10], none⟩,
      ⟨(some 30), .bin .lss 0, [.t 29, .c (.v (.int .i64 (0)))], none⟩,
      ⟨(some 31), .mv, [.t 30], none⟩,
      ⟨(some 32), .fadr 2, [.t 3], (some (31, true))⟩,
      ⟨(some 33), .load false 1, [.t 32], (some (31, true))⟩,
      ⟨(some 34), .mv, [.t 11], (some (31, true))⟩,
      ⟨(some 35), .iadr 1, [.t 33, .t 34], (some (31, true))⟩,
      ⟨(some 36), .load false 1, [.t 35], (some (31, true))⟩,
      ⟨(some 37), .pick, [.t 31, .t 36, .c (.v (.bool false))], none⟩,
      ⟨(some 38), .mv, [.t 37], none⟩,
      ⟨(some 39), .mv, [.t 2], (some (38, true))⟩,
      ⟨(some 40), .mv, [.t 11], (some (38, true))⟩,
      ⟨(some 41), .iadr 1, [.t 39, .t 40], (some (38, true))⟩,
      ⟨(some 42), .load false 1, [.t 41], (some (38, true))⟩,
      ⟨(some 43), .bin .eql 0, [.t 42, .c (.v (.int .i64 (0)))], (some (38, true))⟩,
      ⟨(some 44), .pick, [.t 38, .t 43, .c (.v (.bool false))], none⟩]) <|
    .cond (.t 44) (
      .reg [⟨(some 45), .mv, [.t 11], none⟩,
        ⟨(some 10), .mv, [.t 45], none⟩]) (
      .skip))) <|
  .reg [⟨(some 27), .mv, [.t 11], none⟩,
    ⟨(some 28), .bin .add 0, [.t 27, .c (.v (.int .i64 (1)))], none⟩,
    ⟨(some 11), .mv, [.t 28], none⟩]

def c_spec_HintOf_L1 : ACode :=
  .seq (.seq (.reg [⟨(some 49), .mv, [.t 12], none⟩,
    ⟨(some 50), .bin .geq 0, [.t 49, .c (.v (.int .i64 (0)))], none⟩,
    ⟨(some 51), .mv, [.t 50], none⟩,
    ⟨(some 52), .mv, [.t 9], (some (51, true))⟩,
    ⟨(some 53), .pick, [.t 51, .t 52, .c (.v (.bool false))], none⟩]) <|
  .cond (.t 53) (
    .skip) (
    .exit 2)) <|
  .seq (.block 3 (
    .seq (.reg [⟨(some 56), .load true 3, [.t 3], none⟩,
      ⟨(some 57), .mv, [.t 1], none⟩,
      ⟨(some 58), .mv, [.t 2], none⟩,
      ⟨(some 59), .mv, [.t 12], none⟩,
      ⟨(some 60), .call 28 [], [.t 56, .t 57, .t 58, .t 59], none⟩,
      ⟨(some 61), .len false, [.t 60], none⟩,
      ⟨(some 62), .bin .eql 0, [.t 61, .c (.v (.int .i64 (1)))], none⟩]) <|
    .cond (.t 62) (
      .reg [⟨(some 63), .mv, [.t 12], none⟩,
        ⟨(some 10), .mv, [.t 63], none⟩]) (
      .skip))) <|
  .reg [⟨(some 54), .mv, [.t 12], none⟩,
    ⟨(some 55), .bin .sub 0, [.t 54, .c (.v (.int .i64 (1)))], none⟩,
    ⟨(some 12), .mv, [.t 55], none⟩]

def c_spec_HintOf : ACode :=
  .seq (.reg [⟨(some 3), .box, [.t 0], none⟩,
    ⟨(some 6), .mv, [.c (.v (.int .i64 (0)))], none⟩,
    ⟨(some 7), .mv, [.c (.v (.int .i64 (0)))], none⟩]) <|
  .seq (.reg [⟨(some 14), .load true 3, [.t 3], none⟩,
    ⟨(some 15), .mv, [.t 1], none⟩,
    ⟨(some 16), .mv, [.t 2], none⟩,
    ⟨(some 17), .call 46 [], [.t 14, .t 15, .t 16], none⟩,
    ⟨(some 13), .mv, [.t 17], none⟩,
    ⟨(some 18), .extr 0, [.t 13], none⟩,
    ⟨(some 19), .extr 1, [.t 13], none⟩,
    ⟨(some 8), .mv, [.t 18], none⟩,
    ⟨(some 9), .mv, [.t 19], none⟩]) <|
  .seq (.reg [⟨(some 10), .mv, [.c (.v (.int .i64 (-1)))], none⟩]) <|
  .seq (.seq (.reg [⟨(some 11), .mv, [.c (.v (.int .i64 (0)))], none⟩]) <|
  .block 0 (
    .loop [(1, 1), (2, 1), (8, 1)] [1, 2, 3, 8, 9, 10, 11] c_spec_HintOf_L0)) <|
  .seq (.seq (.reg [⟨(some 46), .mv, [.t 2], none⟩,
    ⟨(some 47), .len false, [.t 46], none⟩,
    ⟨(some 48), .bin .sub 0, [.t 47, .c (.v (.int .i64 (1)))], none⟩,
    ⟨(some 12), .mv, [.t 48], none⟩]) <|
  .block 2 (
    .loop [(1, 1), (2, 1), (8, 1)] [1, 2, 3, 8, 9, 10, 12] c_spec_HintOf_L1)) <|
  .seq (.seq (.reg [⟨(some 64), .mv, [.t 10], none⟩,
    ⟨(some 65), .bin .lss 0, [.t 64, .c (.v (.int .i64 (0)))], none⟩]) <|
  .cond (.t 65) (
    .seq (.reg [⟨(some 6), .mv, [.c (.v (.int .i64 (-1)))], none⟩,
      ⟨(some 7), .mv, [.c (.v (.int .i64 (0)))], none⟩]) <|
    .ret) (
    .skip)) <|
  .seq (.draw (
    .take ⟨(some 66), .mv, [.t 10], none⟩ <|
    .take ⟨(some 67), .mv, [.t 8], none⟩ <|
    .take ⟨(some 68), .mv, [.t 10], none⟩ <|
    .take ⟨(some 69), .iadr 1, [.t 67, .t 68], none⟩ <|
    .take ⟨(some 6), .mv, [.t 66], none⟩ <|
    .alt ⟨(some 70), .load false 1, [.t 69], none⟩ (
      .take ⟨(some 7), .mv, [.t 70], none⟩ <|
      .done) <|
    .stop)) <|
  .ret

theorem k_spec_HintOf : cFn Tryz.prog n_spec_HintOf 71 [.t 6, .t 7] c_spec_HintOf := ⟨Tryz.f22, _, Tryz.func22, rfl, by kernel_rfl, by kernel_rfl, by kernel_rfl, by kernel_rfl⟩

end Go.Proofs.Dev
