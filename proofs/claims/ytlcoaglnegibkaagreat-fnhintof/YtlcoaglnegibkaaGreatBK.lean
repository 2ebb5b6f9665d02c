/- Contracts of the functions of the program over slots and rows, each proved against the program itself; no condition beyond those that each theorem names. -/
import Derived.Test.YtlcoaglnegibkaaGreatBE
import Derived.Test.YtlcoaglnegibkaaGreatProg

set_option linter.unusedSimpArgs false
set_option linter.unusedVariables false

namespace Go.Proofs.Dev

-- 1 parameters, results [.t 2], 102 slots, modes [false]
@[simp] abbrev n_laws_FnForceOne : Nat := 3
def c_laws_FnForceOne_L0 : ACode :=
  .seq (.seq (.reg [⟨(some 62), .mv, [.t 11], none⟩,
    ⟨(some 63), .mv, [.t 10], none⟩,
    ⟨(some 64), .len false, [.t 63], none⟩,
    ⟨(some 65), .bin .lss 0, [.t 62, .t 64], none⟩]) <|
  .cond (.t 65) (
    .skip) (
    .exit 0)) <|
  .seq (.block 1 (
    .seq (.reg [⟨(some 68), .mv, [.t 10], none⟩,
      ⟨(some 69), .mv, [.t 11], none⟩,
      ⟨(some 70), .iadr 1, [.t 68, .t 69], none⟩,
      ⟨(some 71), .load false 1, [.t 70], none⟩,
      ⟨(some 72), .mv, [.t 5], none⟩,
      ⟨(some 73), .call 13 [], [.t 71, .t 72], none⟩,
      ⟨(some 74), .mv, [.t 73], none⟩,
      ⟨(some 75), .mv, [.t 10], (some (74, true))⟩,
      ⟨(some 76), .mv, [.t 11], (some (74, true))⟩,
      ⟨(some 77), .iadr 1, [.t 75, .t 76], (some (74, true))⟩,
      ⟨(some 78), .load false 1, [.t 77], (some (74, true))⟩,
      ⟨(some 79), .mv, [.t 6], (some (74, true))⟩,
      ⟨(some 80), .call 13 [], [.t 78, .t 79], (some (74, true))⟩,
      ⟨(some 81), .un .not, [.t 80], (some (74, true))⟩,
      ⟨(some 82), .pick, [.t 74, .t 81, .c (.v (.bool false))], none⟩]) <|
    .cond (.t 82) (
      .seq (.reg [⟨(some 2), .mv, [.c (.v (.bool false))], none⟩]) <|
      .ret) (
      .skip))) <|
  .reg [⟨(some 66), .mv, [.t 11], none⟩,
    ⟨(some 67), .bin .add 0, [.t 66, .c (.v (.int .i64 (1)))], none⟩,
    ⟨(some 11), .mv, [.t 67], none⟩]

def c_laws_FnForceOne : ACode :=
  .seq (.reg [⟨(some 2), .mv, [.c (.v (.bool false))], none⟩]) <|
  .seq (.seq (.reg [⟨(some 12), .mv, [.t 0], none⟩,
    ⟨(some 13), .len false, [.t 12], none⟩,
    ⟨(some 14), .bin .gtr 0, [.t 13, .c (.v (.int .i64 (1048576)))], none⟩]) <|
  .cond (.t 14) (
    .seq (.reg [⟨(some 2), .mv, [.c (.v (.bool true))], none⟩]) <|
    .ret) (
    .skip)) <|
  .seq (.reg [⟨(some 16), .mv, [.t 0], none⟩,
    ⟨(some 17), .call 6 [], [.t 16], none⟩,
    ⟨(some 15), .mv, [.t 17], none⟩,
    ⟨(some 18), .extr 0, [.t 15], none⟩,
    ⟨(some 19), .extr 1, [.t 15], none⟩,
    ⟨(some 20), .extr 2, [.t 15], none⟩,
    ⟨(some 3), .alloc [.v (.int .i64 (0)), .v (.int .i64 (0)), .os 1 []], [], none⟩,
    ⟨none, .store 3, [.t 3, .t 18], none⟩,
    ⟨(some 4), .mv, [.t 19], none⟩,
    ⟨(some 5), .mv, [.t 20], none⟩]) <|
  .seq (.reg [⟨(some 22), .load true 3, [.t 3], none⟩,
    ⟨(some 23), .mv, [.t 4], none⟩,
    ⟨(some 24), .mv, [.t 5], none⟩,
    ⟨(some 25), .call 7 [], [.t 22, .t 23, .t 24], none⟩,
    ⟨(some 21), .mv, [.t 25], none⟩,
    ⟨(some 26), .extr 0, [.t 21], none⟩,
    ⟨(some 27), .extr 1, [.t 21], none⟩,
    ⟨(some 6), .mv, [.t 26], none⟩,
    ⟨(some 7), .mv, [.t 27], none⟩]) <|
  .seq (.reg [⟨(some 29), .load true 3, [.t 3], none⟩,
    ⟨(some 30), .mv, [.t 4], none⟩,
    ⟨(some 31), .mv, [.t 5], none⟩,
    ⟨(some 32), .call 8 [], [.t 29, .t 30, .t 31], none⟩,
    ⟨(some 28), .mv, [.t 32], none⟩,
    ⟨(some 33), .extr 0, [.t 28], none⟩,
    ⟨(some 34), .extr 1, [.t 28], none⟩,
    ⟨(some 8), .mv, [.t 33], none⟩,
    ⟨(some 9), .mv, [.t 34], none⟩]) <|
  .seq (.seq (.reg [⟨(some 35), .mv, [.t 6], none⟩,
    ⟨(some 36), .mv, [.t 8], none⟩,
    ⟨(some 37), .call 9 [], [.t 35, .t 36], none⟩,
    ⟨(some 38), .un .not, [.t 37], none⟩,
    ⟨(some 39), .mv, [.t 38], none⟩,
    ⟨(some 40), .mv, [.t 7], (some (39, false))⟩,
    ⟨(some 41), .mv, [.t 9], (some (39, false))⟩,
    ⟨(some 42), .bin .neq 2, [.t 40, .t 41], (some (39, false))⟩,
    ⟨(some 43), .pick, [.t 39, .c (.v (.bool true)), .t 42], none⟩]) <|
  .cond (.t 43) (
    .seq (.reg [⟨(some 2), .mv, [.c (.v (.bool false))], none⟩]) <|
    .ret) (
    .skip)) <|
  .seq (.seq (.reg [⟨(some 44), .mv, [.t 7], none⟩,
    ⟨(some 45), .un .not, [.t 44], none⟩]) <|
  .cond (.t 45) (
    .seq (.reg [⟨(some 46), .mv, [.t 6], none⟩,
      ⟨(some 47), .mv, [.t 5], none⟩,
      ⟨(some 48), .call 9 [], [.t 46, .t 47], none⟩,
      ⟨(some 49), .mv, [.t 48], none⟩,
      ⟨(some 50), .load true 3, [.t 3], (some (49, false))⟩,
      ⟨(some 51), .mv, [.t 4], (some (49, false))⟩,
      ⟨(some 52), .mv, [.t 5], (some (49, false))⟩,
      ⟨(some 53), .call 10 [], [.t 50, .t 51, .t 52], (some (49, false))⟩,
      ⟨(some 54), .un .not, [.t 53], (some (49, false))⟩,
      ⟨(some 55), .pick, [.t 49, .c (.v (.bool true)), .t 54], none⟩,
      ⟨(some 56), .mv, [.t 55], none⟩,
      ⟨(some 57), .call 11 [], [], (some (56, true))⟩,
      ⟨(some 58), .pick, [.t 56, .t 57, .c (.v (.bool false))], none⟩,
      ⟨(some 2), .mv, [.t 58], none⟩]) <|
    .ret) (
    .skip)) <|
  .seq (.reg [⟨(some 59), .load true 3, [.t 3], none⟩,
    ⟨(some 60), .mv, [.t 4], none⟩,
    ⟨(some 61), .call 12 [], [.t 59, .t 60], none⟩,
    ⟨(some 10), .mv, [.t 61], none⟩]) <|
  .seq (.seq (.reg [⟨(some 11), .mv, [.c (.v (.int .i64 (0)))], none⟩]) <|
  .block 0 (
    .loop [(4, 1), (5, 1), (6, 1), (10, 1)] [3, 4, 5, 6, 10, 11] c_laws_FnForceOne_L0)) <|
  .seq (.draw (
    .take ⟨(some 84), .mv, [.t 4], none⟩ <|
    .take ⟨(some 85), .mv, [.t 6], none⟩ <|
    .alt ⟨(some 83), .load true 3, [.t 3], none⟩ (
      .alt ⟨(some 86), .call 10 [], [.t 83, .t 84, .t 85], none⟩ (
        .take ⟨(some 87), .mv, [.t 86], none⟩ <|
        .take ⟨(some 88), .mv, [.t 6], (some (87, true))⟩ <|
        .take ⟨(some 89), .mv, [.t 5], (some (87, true))⟩ <|
        .alt ⟨(some 90), .call 13 [], [.t 88, .t 89], (some (87, true))⟩ (
          .take ⟨(some 91), .pick, [.t 87, .t 90, .c (.v (.bool false))], none⟩ <|
          .take ⟨(some 92), .mv, [.t 91], none⟩ <|
          .take ⟨(some 94), .mv, [.t 6], (some (92, true))⟩ <|
          .take ⟨(some 97), .mv, [.t 5], (some (92, true))⟩ <|
          .alt ⟨(some 93), .load true 3, [.t 3], (some (92, true))⟩ (
            .alt ⟨(some 95), .call 14 [], [.t 93, .t 94], (some (92, true))⟩ (
              .alt ⟨(some 96), .load true 3, [.t 3], (some (92, true))⟩ (
                .alt ⟨(some 98), .call 14 [], [.t 96, .t 97], (some (92, true))⟩ (
                  .take ⟨(some 99), .bin .add 0, [.t 98, .c (.v (.int .i64 (1)))], (some (92, true))⟩ <|
                  .take ⟨(some 100), .bin .eql 0, [.t 95, .t 99], (some (92, true))⟩ <|
                  .take ⟨(some 101), .pick, [.t 92, .t 100, .c (.v (.bool false))], none⟩ <|
                  .take ⟨(some 2), .mv, [.t 101], none⟩ <|
                  .done) <|
                .stop) <|
              .stop) <|
            .alt ⟨(some 96), .load true 3, [.t 3], (some (92, true))⟩ (
              .alt ⟨(some 95), .call 14 [], [.t 93, .t 94], (some (92, true))⟩ (
                .alt ⟨(some 98), .call 14 [], [.t 96, .t 97], (some (92, true))⟩ (
                  .take ⟨(some 99), .bin .add 0, [.t 98, .c (.v (.int .i64 (1)))], (some (92, true))⟩ <|
                  .take ⟨(some 100), .bin .eql 0, [.t 95, .t 99], (some (92, true))⟩ <|
                  .take ⟨(some 101), .pick, [.t 92, .t 100, .c (.v (.bool false))], none⟩ <|
                  .take ⟨(some 2), .mv, [.t 101], none⟩ <|
                  .done) <|
                .stop) <|
              .stop) <|
            .stop) <|
          .alt ⟨(some 96), .load true 3, [.t 3], (some (92, true))⟩ (
            .alt ⟨(some 93), .load true 3, [.t 3], (some (92, true))⟩ (
              .alt ⟨(some 95), .call 14 [], [.t 93, .t 94], (some (92, true))⟩ (
                .alt ⟨(some 98), .call 14 [], [.t 96, .t 97], (some (92, true))⟩ (
                  .take ⟨(some 99), .bin .add 0, [.t 98, .c (.v (.int .i64 (1)))], (some (92, true))⟩ <|
                  .take ⟨(some 100), .bin .eql 0, [.t 95, .t 99], (some (92, true))⟩ <|
                  .take ⟨(some 101), .pick, [.t 92, .t 100, .c (.v (.bool false))], none⟩ <|
                  .take ⟨(some 2), .mv, [.t 101], none⟩ <|
                  .done) <|
                .stop) <|
              .stop) <|
            .stop) <|
          .stop) <|
        .stop) <|
      .stop) <|
    .stop)) <|
  .ret

theorem k_laws_FnForceOne : cFn Tryz.prog n_laws_FnForceOne 102 [.t 2] c_laws_FnForceOne := ⟨Tryz.f3, _, Tryz.func3, rfl, by kernel_rfl, by kernel_rfl, by kernel_rfl, by kernel_rfl⟩

-- 1 parameters, results [.t 2], 97 slots, modes [false]
@[simp] abbrev n_laws_FnForceAll : Nat := 4
def c_laws_FnForceAll_L0 : ACode :=
  .seq (.seq (.reg [⟨(some 46), .mv, [.t 9], none⟩,
    ⟨(some 47), .mv, [.t 7], none⟩,
    ⟨(some 48), .len false, [.t 47], none⟩,
    ⟨(some 49), .bin .lss 0, [.t 46, .t 48], none⟩]) <|
  .cond (.t 49) (
    .skip) (
    .exit 0)) <|
  .seq (.block 1 (
    .seq (.reg [⟨(some 52), .mv, [.t 7], none⟩,
      ⟨(some 53), .mv, [.t 9], none⟩,
      ⟨(some 54), .iadr 1, [.t 52, .t 53], none⟩,
      ⟨(some 55), .load false 1, [.t 54], none⟩,
      ⟨(some 56), .mv, [.t 5], none⟩,
      ⟨(some 57), .call 13 [], [.t 55, .t 56], none⟩]) <|
    .cond (.t 57) (
      .seq (.reg [⟨(some 58), .mv, [.t 8], none⟩,
        ⟨(some 59), .bin .add 0, [.t 58, .c (.v (.int .i64 (1)))], none⟩,
        ⟨(some 8), .mv, [.t 59], none⟩]) <|
      .seq (.reg [⟨(some 60), .mv, [.t 7], none⟩,
        ⟨(some 61), .mv, [.t 9], none⟩,
        ⟨(some 62), .iadr 1, [.t 60, .t 61], none⟩,
        ⟨(some 63), .load false 1, [.t 62], none⟩,
        ⟨(some 64), .mv, [.t 6], none⟩,
        ⟨(some 65), .call 13 [], [.t 63, .t 64], none⟩,
        ⟨(some 66), .un .not, [.t 65], none⟩]) <|
      .cond (.t 66) (
        .seq (.reg [⟨(some 2), .mv, [.c (.v (.bool false))], none⟩]) <|
        .ret) (
        .skip)) (
      .skip))) <|
  .reg [⟨(some 50), .mv, [.t 9], none⟩,
    ⟨(some 51), .bin .add 0, [.t 50, .c (.v (.int .i64 (1)))], none⟩,
    ⟨(some 9), .mv, [.t 51], none⟩]

def c_laws_FnForceAll : ACode :=
  .seq (.reg [⟨(some 2), .mv, [.c (.v (.bool false))], none⟩]) <|
  .seq (.seq (.reg [⟨(some 12), .mv, [.t 0], none⟩,
    ⟨(some 13), .len false, [.t 12], none⟩,
    ⟨(some 14), .bin .gtr 0, [.t 13, .c (.v (.int .i64 (1048576)))], none⟩]) <|
  .cond (.t 14) (
    .seq (.reg [⟨(some 2), .mv, [.c (.v (.bool true))], none⟩]) <|
    .ret) (
    .skip)) <|
  .seq (.reg [⟨(some 16), .mv, [.t 0], none⟩,
    ⟨(some 17), .call 15 [], [.t 16], none⟩,
    ⟨(some 15), .mv, [.t 17], none⟩,
    ⟨(some 18), .extr 0, [.t 15], none⟩,
    ⟨(some 19), .extr 1, [.t 15], none⟩,
    ⟨(some 20), .extr 2, [.t 15], none⟩,
    ⟨(some 3), .alloc [.v (.int .i64 (0)), .v (.int .i64 (0)), .os 1 []], [], none⟩,
    ⟨none, .store 3, [.t 3, .t 18], none⟩,
    ⟨(some 4), .mv, [.t 19], none⟩,
    ⟨(some 5), .mv, [.t 20], none⟩]) <|
  .seq (.reg [⟨(some 21), .load true 3, [.t 3], none⟩,
    ⟨(some 22), .mv, [.t 4], none⟩,
    ⟨(some 23), .mv, [.t 5], none⟩,
    ⟨(some 24), .call 16 [], [.t 21, .t 22, .t 23], none⟩,
    ⟨(some 6), .mv, [.t 24], none⟩]) <|
  .seq (.seq (.reg [⟨(some 25), .mv, [.t 6], none⟩,
    ⟨(some 26), .load true 3, [.t 3], none⟩,
    ⟨(some 27), .mv, [.t 4], none⟩,
    ⟨(some 28), .mv, [.t 5], none⟩,
    ⟨(some 29), .call 17 [], [.t 26, .t 27, .t 28], none⟩,
    ⟨(some 30), .call 9 [], [.t 25, .t 29], none⟩,
    ⟨(some 31), .un .not, [.t 30], none⟩]) <|
  .cond (.t 31) (
    .seq (.reg [⟨(some 2), .mv, [.c (.v (.bool false))], none⟩]) <|
    .ret) (
    .skip)) <|
  .seq (.seq (.reg [⟨(some 32), .load true 3, [.t 3], none⟩,
    ⟨(some 33), .mv, [.t 4], none⟩,
    ⟨(some 34), .mv, [.t 5], none⟩,
    ⟨(some 35), .call 18 [], [.t 32, .t 33, .t 34], none⟩,
    ⟨(some 36), .un .not, [.t 35], none⟩]) <|
  .cond (.t 36) (
    .seq (.reg [⟨(some 37), .mv, [.t 6], none⟩,
      ⟨(some 38), .len false, [.t 37], none⟩,
      ⟨(some 39), .bin .eql 0, [.t 38, .c (.v (.int .i64 (0)))], none⟩,
      ⟨(some 40), .mv, [.t 39], none⟩,
      ⟨(some 41), .call 11 [], [], (some (40, true))⟩,
      ⟨(some 42), .pick, [.t 40, .t 41, .c (.v (.bool false))], none⟩,
      ⟨(some 2), .mv, [.t 42], none⟩]) <|
    .ret) (
    .skip)) <|
  .seq (.reg [⟨(some 43), .load true 3, [.t 3], none⟩,
    ⟨(some 44), .mv, [.t 4], none⟩,
    ⟨(some 45), .call 12 [], [.t 43, .t 44], none⟩,
    ⟨(some 7), .mv, [.t 45], none⟩]) <|
  .seq (.reg [⟨(some 8), .mv, [.c (.v (.int .i64 (0)))], none⟩]) <|
  .seq (.seq (.reg [⟨(some 9), .mv, [.c (.v (.int .i64 (0)))], none⟩]) <|
  .block 0 (
    .loop [(4, 1), (5, 1), (6, 1), (7, 1)] [3, 4, 5, 6, 7, 8, 9] c_laws_FnForceAll_L0)) <|
  .seq (.reg [⟨(some 68), .load true 3, [.t 3], none⟩,
    ⟨(some 69), .mv, [.t 4], none⟩,
    ⟨(some 70), .mv, [.t 6], none⟩,
    ⟨(some 71), .call 7 [], [.t 68, .t 69, .t 70], none⟩,
    ⟨(some 67), .mv, [.t 71], none⟩,
    ⟨(some 72), .extr 0, [.t 67], none⟩,
    ⟨(some 73), .extr 1, [.t 67], none⟩,
    ⟨(some 10), .mv, [.t 72], none⟩,
    ⟨(some 11), .mv, [.t 73], none⟩]) <|
  .seq (.reg [⟨(some 74), .load true 3, [.t 3], none⟩,
    ⟨(some 75), .mv, [.t 4], none⟩,
    ⟨(some 76), .mv, [.t 6], none⟩,
    ⟨(some 77), .call 10 [], [.t 74, .t 75, .t 76], none⟩,
    ⟨(some 78), .mv, [.t 77], none⟩,
    ⟨(some 79), .mv, [.t 6], (some (78, true))⟩,
    ⟨(some 80), .mv, [.t 5], (some (78, true))⟩,
    ⟨(some 81), .call 13 [], [.t 79, .t 80], (some (78, true))⟩,
    ⟨(some 82), .pick, [.t 78, .t 81, .c (.v (.bool false))], none⟩,
    ⟨(some 83), .mv, [.t 82], none⟩,
    ⟨(some 84), .mv, [.t 11], (some (83, true))⟩,
    ⟨(some 85), .un .not, [.t 84], (some (83, true))⟩,
    ⟨(some 86), .pick, [.t 83, .t 85, .c (.v (.bool false))], none⟩,
    ⟨(some 87), .mv, [.t 86], none⟩,
    ⟨(some 88), .load true 3, [.t 3], (some (87, true))⟩,
    ⟨(some 89), .mv, [.t 6], (some (87, true))⟩,
    ⟨(some 90), .call 19 [], [.t 88, .t 89], (some (87, true))⟩,
    ⟨(some 91), .un .not, [.t 90], (some (87, true))⟩,
    ⟨(some 92), .mv, [.t 91], (some (87, true))⟩,
    ⟨(some 93), .mv, [.t 8], (some (92, false))⟩,
    ⟨(some 94), .bin .eql 0, [.t 93, .c (.v (.int .i64 (1)))], (some (92, false))⟩,
    ⟨(some 95), .pick, [.t 92, .c (.v (.bool true)), .t 94], (some (87, true))⟩,
    ⟨(some 96), .pick, [.t 87, .t 95, .c (.v (.bool false))], none⟩,
    ⟨(some 2), .mv, [.t 96], none⟩]) <|
  .ret

theorem k_laws_FnForceAll : cFn Tryz.prog n_laws_FnForceAll 97 [.t 2] c_laws_FnForceAll := ⟨Tryz.f4, _, Tryz.func4, rfl, by kernel_rfl, by kernel_rfl, by kernel_rfl, by kernel_rfl⟩

-- 1 parameters, results [.t 2], 96 slots, modes [false]
@[simp] abbrev n_laws_FnHintOf : Nat := 5

def c_laws_FnHintOf : ACode :=
  .seq (.reg [⟨(some 2), .mv, [.c (.v (.bool false))], none⟩]) <|
  .seq (.seq (.reg [⟨(some 16), .mv, [.t 0], none⟩,
    ⟨(some 17), .len false, [.t 16], none⟩,
    ⟨(some 18), .bin .gtr 0, [.t 17, .c (.v (.int .i64 (1048576)))], none⟩]) <|
  .cond (.t 18) (
    .seq (.reg [⟨(some 2), .mv, [.c (.v (.bool true))], none⟩]) <|
    .ret) (
    .skip)) <|
  .seq (.reg [⟨(some 20), .mv, [.t 0], none⟩,
    ⟨(some 21), .call 20 [], [.t 20], none⟩,
    ⟨(some 19), .mv, [.t 21], none⟩,
    ⟨(some 22), .extr 0, [.t 19], none⟩,
    ⟨(some 23), .extr 1, [.t 19], none⟩,
    ⟨(some 24), .extr 2, [.t 19], none⟩,
    ⟨(some 3), .alloc [.v (.int .i64 (0)), .v (.int .i64 (0)), .os 1 []], [], none⟩,
    ⟨none, .store 3, [.t 3, .t 22], none⟩,
    ⟨(some 4), .mv, [.t 23], none⟩,
    ⟨(some 5), .mv, [.t 24], none⟩]) <|
  .seq (.reg [⟨(some 26), .load true 3, [.t 3], none⟩,
    ⟨(some 27), .mv, [.t 4], none⟩,
    ⟨(some 28), .mv, [.t 5], none⟩,
    ⟨(some 29), .call 21 [], [.t 26, .t 27, .t 28], none⟩,
    ⟨(some 25), .mv, [.t 29], none⟩,
    ⟨(some 30), .extr 0, [.t 25], none⟩,
    ⟨(some 31), .extr 1, [.t 25], none⟩,
    ⟨(some 6), .mv, [.t 30], none⟩,
    ⟨(some 7), .mv, [.t 31], none⟩]) <|
  .seq (.reg [⟨(some 33), .load true 3, [.t 3], none⟩,
    ⟨(some 34), .mv, [.t 4], none⟩,
    ⟨(some 35), .mv, [.t 5], none⟩,
    ⟨(some 36), .call 22 [], [.t 33, .t 34, .t 35], none⟩,
    ⟨(some 32), .mv, [.t 36], none⟩,
    ⟨(some 37), .extr 0, [.t 32], none⟩,
    ⟨(some 38), .extr 1, [.t 32], none⟩,
    ⟨(some 8), .mv, [.t 37], none⟩,
    ⟨(some 9), .mv, [.t 38], none⟩]) <|
  .seq (.seq (.reg [⟨(some 39), .mv, [.t 6], none⟩,
    ⟨(some 40), .mv, [.t 8], none⟩,
    ⟨(some 41), .bin .neq 0, [.t 39, .t 40], none⟩,
    ⟨(some 42), .mv, [.t 41], none⟩,
    ⟨(some 43), .mv, [.t 7], (some (42, false))⟩,
    ⟨(some 44), .mv, [.t 9], (some (42, false))⟩,
    ⟨(some 45), .bin .neq 0, [.t 43, .t 44], (some (42, false))⟩,
    ⟨(some 46), .pick, [.t 42, .c (.v (.bool true)), .t 45], none⟩]) <|
  .cond (.t 46) (
    .seq (.reg [⟨(some 2), .mv, [.c (.v (.bool false))], none⟩]) <|
    .ret) (
    .skip)) <|
  .seq (.reg [⟨(some 48), .load true 3, [.t 3], none⟩,
    ⟨(some 49), .mv, [.t 4], none⟩,
    ⟨(some 50), .mv, [.t 5], none⟩,
    ⟨(some 51), .call 23 [], [.t 48, .t 49, .t 50], none⟩,
    ⟨(some 47), .mv, [.t 51], none⟩,
    ⟨(some 52), .extr 0, [.t 47], none⟩,
    ⟨(some 53), .extr 1, [.t 47], none⟩,
    ⟨(some 10), .mv, [.t 52], none⟩,
    ⟨(some 11), .mv, [.t 53], none⟩]) <|
  .seq (.seq (.reg [⟨(some 54), .mv, [.t 6], none⟩,
    ⟨(some 55), .bin .lss 0, [.t 54, .c (.v (.int .i64 (0)))], none⟩]) <|
  .cond (.t 55) (
    .seq (.reg [⟨(some 56), .mv, [.t 6], none⟩,
      ⟨(some 57), .bin .eql 0, [.t 56, .c (.v (.int .i64 (-1)))], none⟩,
      ⟨(some 58), .mv, [.t 57], none⟩,
      ⟨(some 59), .mv, [.t 7], (some (58, true))⟩,
      ⟨(some 60), .bin .eql 0, [.t 59, .c (.v (.int .i64 (0)))], (some (58, true))⟩,
      ⟨(some 61), .pick, [.t 58, .t 60, .c (.v (.bool false))], none⟩,
      ⟨(some 62), .mv, [.t 61], none⟩,
      ⟨(some 63), .mv, [.t 11], (some (62, true))⟩,
      ⟨(some 64), .un .not, [.t 63], (some (62, true))⟩,
      ⟨(some 65), .mv, [.t 64], (some (62, true))⟩,
      ⟨(some 66), .load true 3, [.t 3], (some (65, false))⟩,
      ⟨(some 67), .mv, [.t 5], (some (65, false))⟩,
      ⟨(some 68), .call 19 [], [.t 66, .t 67], (some (65, false))⟩,
      ⟨(some 69), .pick, [.t 65, .c (.v (.bool true)), .t 68], (some (62, true))⟩,
      ⟨(some 70), .pick, [.t 62, .t 69, .c (.v (.bool false))], none⟩,
      ⟨(some 71), .mv, [.t 70], none⟩,
      ⟨(some 72), .call 11 [], [], (some (71, true))⟩,
      ⟨(some 73), .pick, [.t 71, .t 72, .c (.v (.bool false))], none⟩,
      ⟨(some 2), .mv, [.t 73], none⟩]) <|
    .ret) (
    .skip)) <|
  .seq (.reg [⟨(some 75), .load true 3, [.t 3], none⟩,
    ⟨(some 76), .mv, [.t 5], none⟩,
    ⟨(some 77), .mv, [.t 6], none⟩,
    ⟨(some 78), .mv, [.t 7], none⟩,
    ⟨(some 79), .call 24 [], [.t 75, .t 76, .t 77, .t 78], none⟩,
    ⟨(some 74), .mv, [.t 79], none⟩,
    ⟨(some 80), .extr 0, [.t 74], none⟩,
    ⟨(some 81), .extr 1, [.t 74], none⟩,
    ⟨(some 12), .mv, [.t 80], none⟩,
    ⟨(some 13), .mv, [.t 81], none⟩]) <|
  .seq (.reg [⟨(some 83), .load true 3, [.t 3], none⟩,
    ⟨(some 84), .mv, [.t 4], none⟩,
    ⟨(some 85), .mv, [.t 12], none⟩,
    ⟨(some 86), .call 23 [], [.t 83, .t 84, .t 85], none⟩,
    ⟨(some 82), .mv, [.t 86], none⟩,
    ⟨(some 87), .extr 0, [.t 82], none⟩,
    ⟨(some 88), .extr 1, [.t 82], none⟩,
    ⟨(some 14), .mv, [.t 87], none⟩,
    ⟨(some 15), .mv, [.t 88], none⟩]) <|
  .seq (.reg [⟨(some 89), .mv, [.t 11], none⟩,
    ⟨(some 90), .mv, [.t 89], none⟩,
    ⟨(some 91), .mv, [.t 13], (some (90, true))⟩,
    ⟨(some 92), .pick, [.t 90, .t 91, .c (.v (.bool false))], none⟩,
    ⟨(some 93), .mv, [.t 92], none⟩,
    ⟨(some 94), .mv, [.t 15], (some (93, true))⟩,
    ⟨(some 95), .pick, [.t 93, .t 94, .c (.v (.bool false))], none⟩,
    ⟨(some 2), .mv, [.t 95], none⟩]) <|
  .ret

theorem k_laws_FnHintOf : cFn Tryz.prog n_laws_FnHintOf 96 [.t 2] c_laws_FnHintOf := ⟨Tryz.f5, _, Tryz.func5, rfl, by kernel_rfl, by kernel_rfl, by kernel_rfl, by kernel_rfl⟩

-- 1 parameters, results [.c 2 true 3, .t 3, .t 4], 11 slots, modes [false]
@[simp] abbrev n_spec_DrawForceOne : Nat := 6

def c_spec_DrawForceOne : ACode :=
  .seq (.reg [⟨(some 2), .alloc [.v (.int .i64 (0)), .v (.int .i64 (0)), .os 1 []], [], none⟩,
    ⟨(some 3), .mv, [.c (.os 1 [])], none⟩,
    ⟨(some 4), .mv, [.c (.os 1 [])], none⟩]) <|
  .seq (.reg [⟨(some 5), .mv, [.t 0], none⟩,
    ⟨(some 6), .call 26 [], [.t 5], none⟩,
    ⟨(some 7), .call 25 [], [.t 6], none⟩,
    ⟨(some 8), .extr 0, [.t 7], none⟩,
    ⟨(some 9), .extr 1, [.t 7], none⟩,
    ⟨(some 10), .extr 2, [.t 7], none⟩,
    ⟨none, .store 3, [.t 2, .t 8], none⟩,
    ⟨(some 3), .mv, [.t 9], none⟩,
    ⟨(some 4), .mv, [.t 10], none⟩]) <|
  .ret

theorem k_spec_DrawForceOne : cFn Tryz.prog n_spec_DrawForceOne 11 [.c 2 true 3, .t 3, .t 4] c_spec_DrawForceOne := ⟨Tryz.f6, _, Tryz.func6, rfl, by kernel_rfl, by kernel_rfl, by kernel_rfl, by kernel_rfl⟩

-- 1 parameters, results [.c 2 true 3, .t 3, .t 4], 11 slots, modes [false]
@[simp] abbrev n_spec_DrawForceAll : Nat := 15

def c_spec_DrawForceAll : ACode :=
  .seq (.reg [⟨(some 2), .alloc [.v (.int .i64 (0)), .v (.int .i64 (0)), .os 1 []], [], none⟩,
    ⟨(some 3), .mv, [.c (.os 1 [])], none⟩,
    ⟨(some 4), .mv, [.c (.os 1 [])], none⟩]) <|
  .seq (.reg [⟨(some 5), .mv, [.t 0], none⟩,
    ⟨(some 6), .call 26 [], [.t 5], none⟩,
    ⟨(some 7), .call 25 [], [.t 6], none⟩,
    ⟨(some 8), .extr 0, [.t 7], none⟩,
    ⟨(some 9), .extr 1, [.t 7], none⟩,
    ⟨(some 10), .extr 2, [.t 7], none⟩,
    ⟨none, .store 3, [.t 2, .t 8], none⟩,
    ⟨(some 3), .mv, [.t 9], none⟩,
    ⟨(some 4), .mv, [.t 10], none⟩]) <|
  .ret

theorem k_spec_DrawForceAll : cFn Tryz.prog n_spec_DrawForceAll 11 [.c 2 true 3, .t 3, .t 4] c_spec_DrawForceAll := ⟨Tryz.f15, _, Tryz.func15, rfl, by kernel_rfl, by kernel_rfl, by kernel_rfl, by kernel_rfl⟩

-- 1 parameters, results [.c 2 true 3, .t 3, .t 4], 11 slots, modes [false]
@[simp] abbrev n_spec_DrawHintOf : Nat := 20

def c_spec_DrawHintOf : ACode :=
  .seq (.reg [⟨(some 2), .alloc [.v (.int .i64 (0)), .v (.int .i64 (0)), .os 1 []], [], none⟩,
    ⟨(some 3), .mv, [.c (.os 1 [])], none⟩,
    ⟨(some 4), .mv, [.c (.os 1 [])], none⟩]) <|
  .seq (.reg [⟨(some 5), .mv, [.t 0], none⟩,
    ⟨(some 6), .call 26 [], [.t 5], none⟩,
    ⟨(some 7), .call 25 [], [.t 6], none⟩,
    ⟨(some 8), .extr 0, [.t 7], none⟩,
    ⟨(some 9), .extr 1, [.t 7], none⟩,
    ⟨(some 10), .extr 2, [.t 7], none⟩,
    ⟨none, .store 3, [.t 2, .t 8], none⟩,
    ⟨(some 3), .mv, [.t 9], none⟩,
    ⟨(some 4), .mv, [.t 10], none⟩]) <|
  .ret

theorem k_spec_DrawHintOf : cFn Tryz.prog n_spec_DrawHintOf 11 [.c 2 true 3, .t 3, .t 4] c_spec_DrawHintOf := ⟨Tryz.f20, _, Tryz.func20, rfl, by kernel_rfl, by kernel_rfl, by kernel_rfl, by kernel_rfl⟩


end Go.Proofs.Dev
