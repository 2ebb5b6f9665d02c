/- Contracts of the functions of the program over slots and rows, each proved against the program itself; no condition beyond those that each theorem names. -/
import Derived.Test.YtfkmfobbgoflgaaAO
import Derived.Test.YtfkmfobbgoflgaaProg

set_option linter.unusedSimpArgs false
set_option linter.unusedVariables false

namespace Go.Proofs.Dev

-- 2 parameters, results [.c 4 true 3], 73 slots, modes [true, false]
@[simp] abbrev n_spec_l20Region : Nat := 62
def c_spec_l20Region_L0 : ACode :=
  .seq (.seq (.reg [⟨(some 29), .mv, [.t 7], none⟩,
    ⟨(some 30), .fadr 0, [.t 5], none⟩,
    ⟨(some 31), .load false 1, [.t 30], none⟩,
    ⟨(some 32), .fadr 1, [.t 5], none⟩,
    ⟨(some 33), .load false 1, [.t 32], none⟩,
    ⟨(some 34), .bin .mul 0, [.t 31, .t 33], none⟩,
    ⟨(some 35), .bin .lss 0, [.t 29, .t 34], none⟩]) <|
  .cond (.t 35) (
    .skip) (
    .exit 0)) <|
  .seq (.block 1 (
    .draw (
      .take ⟨(some 38), .fadr 2, [.t 5], none⟩ <|
      .take ⟨(some 40), .mv, [.t 0], none⟩ <|
      .take ⟨(some 42), .mv, [.t 6], none⟩ <|
      .alt ⟨(some 39), .load false 1, [.t 38], none⟩ (
        .alt ⟨(some 41), .call 23 [], [.t 40, .c (.v (.int .i64 (10)))], none⟩ (
          .take ⟨(some 43), .bin .leq 0, [.t 41, .t 42], none⟩ <|
          .alt ⟨(some 44), .bsl 1, [.t 43], none⟩ (
            .alt ⟨(some 45), .app 1 1 true, [.t 39, .t 44], none⟩ (
              .take ⟨(some 46), .fadr 2, [.t 5], none⟩ <|
              .alt ⟨none, .store 1, [.t 46, .t 45], none⟩ (
                .done) <|
              .stop) <|
            .stop) <|
          .stop) <|
        .stop) <|
      .alt ⟨(some 41), .call 23 [], [.t 40, .c (.v (.int .i64 (10)))], none⟩ (
        .take ⟨(some 43), .bin .leq 0, [.t 41, .t 42], none⟩ <|
        .alt ⟨(some 39), .load false 1, [.t 38], none⟩ (
          .alt ⟨(some 44), .bsl 1, [.t 43], none⟩ (
            .alt ⟨(some 45), .app 1 1 true, [.t 39, .t 44], none⟩ (
              .take ⟨(some 46), .fadr 2, [.t 5], none⟩ <|
              .alt ⟨none, .store 1, [.t 46, .t 45], none⟩ (
                .done) <|
              .stop) <|
            .stop) <|
          .stop) <|
        .alt ⟨(some 44), .bsl 1, [.t 43], none⟩ (
          .alt ⟨(some 39), .load false 1, [.t 38], none⟩ (
            .alt ⟨(some 45), .app 1 1 true, [.t 39, .t 44], none⟩ (
              .take ⟨(some 46), .fadr 2, [.t 5], none⟩ <|
              .alt ⟨none, .store 1, [.t 46, .t 45], none⟩ (
                .done) <|
              .stop) <|
            .stop) <|
          .stop) <|
        .stop) <|
      .stop))) <|
  .reg [⟨(some 36), .mv, [.t 7], none⟩,
    ⟨(some 37), .bin .add 0, [.t 36, .c (.v (.int .i64 (1)))], none⟩,
    ⟨(some 7), .mv, [.t 37], none⟩]

def c_spec_l20Region_L1 : ACode :=
  .seq (.seq (.reg [⟨(some 53), .mv, [.t 8], none⟩,
    ⟨(some 54), .bin .lss 0, [.t 53, .c (.v (.int .i64 (36)))], none⟩]) <|
  .cond (.t 54) (
    .skip) (
    .exit 3)) <|
  .seq (.block 4 (
    .reg [⟨(some 57), .fadr 2, [.t 5], none⟩,
      ⟨(some 58), .load false 1, [.t 57], none⟩,
      ⟨(some 59), .bsl 1, [.c (.v (.bool true))], none⟩,
      ⟨(some 60), .app 1 1 true, [.t 58, .t 59], none⟩,
      ⟨(some 61), .fadr 2, [.t 5], none⟩,
      ⟨none, .store 1, [.t 61, .t 60], none⟩])) <|
  .reg [⟨(some 55), .mv, [.t 8], none⟩,
    ⟨(some 56), .bin .add 0, [.t 55, .c (.v (.int .i64 (1)))], none⟩,
    ⟨(some 8), .mv, [.t 56], none⟩]

def c_spec_l20Region : ACode :=
  .seq (.reg [⟨(some 4), .alloc [.v (.int .i64 (0)), .v (.int .i64 (0)), .os 1 []], [], none⟩]) <|
  .seq (.reg [⟨(some 9), .mv, [.t 0], none⟩,
    ⟨(some 10), .call 23 [], [.t 9, .c (.v (.int .i64 (6)))], none⟩,
    ⟨(some 11), .bin .add 0, [.c (.v (.int .i64 (1))), .t 10], none⟩,
    ⟨(some 12), .mv, [.t 0], none⟩,
    ⟨(some 13), .call 23 [], [.t 12, .c (.v (.int .i64 (6)))], none⟩,
    ⟨(some 14), .bin .add 0, [.c (.v (.int .i64 (1))), .t 13], none⟩,
    ⟨(some 15), .build [.v (.int .i64 (0)), .v (.int .i64 (0)), .os 1 []] [(0, 1), (1, 1)], [.t 11, .t 14], none⟩,
    ⟨(some 5), .alloc [.v (.int .i64 (0)), .v (.int .i64 (0)), .os 1 []], [], none⟩,
    ⟨none, .store 3, [.t 5, .t 15], none⟩]) <|
  .seq (.seq (.reg [⟨(some 16), .fadr 0, [.t 5], none⟩,
    ⟨(some 17), .load false 1, [.t 16], none⟩,
    ⟨(some 18), .fadr 1, [.t 5], none⟩,
    ⟨(some 19), .load false 1, [.t 18], none⟩,
    ⟨(some 20), .bin .mul 0, [.t 17, .t 19], none⟩,
    ⟨(some 21), .bin .gtr 0, [.t 20, .c (.v (.int .i64 (24)))], none⟩]) <|
  .cond (.t 21) (
    .reg [⟨(some 22), .fadr 0, [.t 5], none⟩,
      ⟨(some 23), .load false 1, [.t 22], none⟩,
      ⟨(some 24), .bin .quo 0, [.c (.v (.int .i64 (24))), .t 23], none⟩,
      ⟨(some 25), .fadr 1, [.t 5], none⟩,
      ⟨none, .store 1, [.t 25, .t 24], none⟩]) (
    .skip)) <|
  .seq (.reg [⟨(some 26), .mv, [.t 0], none⟩,
    ⟨(some 27), .call 23 [], [.t 26, .c (.v (.int .i64 (8)))], none⟩,
    ⟨(some 28), .bin .add 0, [.c (.v (.int .i64 (2))), .t 27], none⟩,
    ⟨(some 6), .mv, [.t 28], none⟩]) <|
  .seq (.seq (.reg [⟨(some 7), .mv, [.c (.v (.int .i64 (0)))], none⟩]) <|
  .block 0 (
    .loop [] [0, 1, 4, 5, 6, 7, 73] c_spec_l20Region_L0)) <|
  .seq (.seq (.reg [⟨(some 47), .mv, [.t 0], none⟩,
    ⟨(some 48), .mv, [.t 1], none⟩,
    ⟨(some 49), .call 26 [], [.t 47, .t 48], none⟩]) <|
  .cond (.t 49) (
    .seq (.reg [⟨(some 50), .mv, [.t 0], none⟩,
      ⟨(some 51), .call 23 [], [.t 50, .c (.v (.int .i64 (3)))], none⟩]) <|
    .block 2 (
      .seq (.reg [⟨(some 63), .bin .eql 0, [.t 51, .c (.v (.int .i64 (0)))], none⟩,
        ⟨(some 62), .mv, [.t 63], none⟩]) <|
      .cond (.t 62) (
        .reg [⟨(some 64), .fadr 2, [.t 5], none⟩,
          ⟨(some 65), .load false 1, [.t 64], none⟩,
          ⟨(some 66), .bsl 1, [.c (.v (.bool true))], none⟩,
          ⟨(some 67), .app 1 1 true, [.t 65, .t 66], none⟩,
          ⟨(some 68), .fadr 2, [.t 5], none⟩,
          ⟨none, .store 1, [.t 68, .t 67], none⟩]) (
        .seq (.reg [⟨(some 70), .bin .eql 0, [.t 51, .c (.v (.int .i64 (1)))], none⟩,
          ⟨(some 69), .mv, [.t 70], none⟩]) <|
        .cond (.t 69) (
          .seq (.reg [⟨(some 71), .build [.v (.int .i64 (0)), .v (.int .i64 (0)), .os 1 []] [], [], none⟩,
            ⟨none, .store 3, [.t 4, .t 71], none⟩]) <|
          .ret) (
          .seq (.reg [⟨(some 52), .build [.v (.int .i64 (0)), .v (.int .i64 (0)), .os 1 []] [(0, 1), (1, 1)], [.c (.v (.int .i64 (6))), .c (.v (.int .i64 (6)))], none⟩,
            ⟨none, .store 3, [.t 5, .t 52], none⟩]) <|
          .seq (.reg [⟨(some 8), .mv, [.c (.v (.int .i64 (0)))], none⟩]) <|
          .block 3 (
            .loop [] [4, 5, 8, 73] c_spec_l20Region_L1))))) (
    .skip)) <|
  .seq (.reg [⟨(some 72), .load true 3, [.t 5], none⟩,
    ⟨none, .store 3, [.t 4, .t 72], none⟩]) <|
  .ret

theorem k_spec_l20Region : cFn Try.prog n_spec_l20Region 73 [.c 4 true 3] c_spec_l20Region := ⟨Try.f62, _, Try.func62, rfl, by kernel_rfl, by kernel_rfl, by kernel_rfl, by kernel_rfl⟩

-- 2 parameters, results [.c 4 true 3], 87 slots, modes [true, false]
@[simp] abbrev n_spec_l20Tiled : Nat := 63
def c_spec_l20Tiled_L0 : ACode :=
  .seq (.seq (.reg [⟨(some 25), .mv, [.t 7], none⟩,
    ⟨(some 26), .mv, [.t 6], none⟩,
    ⟨(some 27), .len false, [.t 26], none⟩,
    ⟨(some 28), .bin .lss 0, [.t 25, .t 27], none⟩]) <|
  .cond (.t 28) (
    .skip) (
    .exit 0)) <|
  .seq (.block 1 (
    .seq (.draw (
      .take ⟨(some 33), .mv, [.t 6], none⟩ <|
      .take ⟨(some 34), .mv, [.t 7], none⟩ <|
      .take ⟨(some 36), .mv, [.t 0], none⟩ <|
      .alt ⟨(some 32), .load true 3, [.t 5], none⟩ (
        .alt ⟨(some 35), .bsl 1, [.c (.v (.int .i64 (1))), .c (.v (.int .i64 (2))), .c (.v (.int .i64 (3))), .c (.v (.int .i64 (4)))], none⟩ (
          .alt ⟨(some 37), .call 23 [], [.t 36, .c (.v (.int .i64 (4)))], none⟩ (
            .take ⟨(some 38), .iadr 1, [.t 35, .t 37], none⟩ <|
            .alt ⟨(some 39), .load false 1, [.t 38], none⟩ (
              .alt ⟨(some 40), .call 45 [], [.t 32, .t 33, .t 34, .t 39], none⟩ (
                .take ⟨(some 31), .mv, [.t 40], none⟩ <|
                .take ⟨(some 41), .extr 0, [.t 31], none⟩ <|
                .take ⟨(some 42), .extr 1, [.t 31], none⟩ <|
                .take ⟨(some 8), .mv, [.t 41], none⟩ <|
                .take ⟨(some 9), .mv, [.t 42], none⟩ <|
                .done) <|
              .stop) <|
            .stop) <|
          .stop) <|
        .alt ⟨(some 37), .call 23 [], [.t 36, .c (.v (.int .i64 (4)))], none⟩ (
          .alt ⟨(some 35), .bsl 1, [.c (.v (.int .i64 (1))), .c (.v (.int .i64 (2))), .c (.v (.int .i64 (3))), .c (.v (.int .i64 (4)))], none⟩ (
            .take ⟨(some 38), .iadr 1, [.t 35, .t 37], none⟩ <|
            .alt ⟨(some 39), .load false 1, [.t 38], none⟩ (
              .alt ⟨(some 40), .call 45 [], [.t 32, .t 33, .t 34, .t 39], none⟩ (
                .take ⟨(some 31), .mv, [.t 40], none⟩ <|
                .take ⟨(some 41), .extr 0, [.t 31], none⟩ <|
                .take ⟨(some 42), .extr 1, [.t 31], none⟩ <|
                .take ⟨(some 8), .mv, [.t 41], none⟩ <|
                .take ⟨(some 9), .mv, [.t 42], none⟩ <|
                .done) <|
              .stop) <|
            .stop) <|
          .stop) <|
        .stop) <|
      .alt ⟨(some 35), .bsl 1, [.c (.v (.int .i64 (1))), .c (.v (.int .i64 (2))), .c (.v (.int .i64 (3))), .c (.v (.int .i64 (4)))], none⟩ (
        .alt ⟨(some 32), .load true 3, [.t 5], none⟩ (
          .alt ⟨(some 37), .call 23 [], [.t 36, .c (.v (.int .i64 (4)))], none⟩ (
            .take ⟨(some 38), .iadr 1, [.t 35, .t 37], none⟩ <|
            .alt ⟨(some 39), .load false 1, [.t 38], none⟩ (
              .alt ⟨(some 40), .call 45 [], [.t 32, .t 33, .t 34, .t 39], none⟩ (
                .take ⟨(some 31), .mv, [.t 40], none⟩ <|
                .take ⟨(some 41), .extr 0, [.t 31], none⟩ <|
                .take ⟨(some 42), .extr 1, [.t 31], none⟩ <|
                .take ⟨(some 8), .mv, [.t 41], none⟩ <|
                .take ⟨(some 9), .mv, [.t 42], none⟩ <|
                .done) <|
              .stop) <|
            .stop) <|
          .stop) <|
        .alt ⟨(some 37), .call 23 [], [.t 36, .c (.v (.int .i64 (4)))], none⟩ (
          .take ⟨(some 38), .iadr 1, [.t 35, .t 37], none⟩ <|
          .alt ⟨(some 32), .load true 3, [.t 5], none⟩ (
            .alt ⟨(some 39), .load false 1, [.t 38], none⟩ (
              .alt ⟨(some 40), .call 45 [], [.t 32, .t 33, .t 34, .t 39], none⟩ (
                .take ⟨(some 31), .mv, [.t 40], none⟩ <|
                .take ⟨(some 41), .extr 0, [.t 31], none⟩ <|
                .take ⟨(some 42), .extr 1, [.t 31], none⟩ <|
                .take ⟨(some 8), .mv, [.t 41], none⟩ <|
                .take ⟨(some 9), .mv, [.t 42], none⟩ <|
                .done) <|
              .stop) <|
            .stop) <|
          .alt ⟨(some 39), .load false 1, [.t 38], none⟩ (
            .alt ⟨(some 32), .load true 3, [.t 5], none⟩ (
              .alt ⟨(some 40), .call 45 [], [.t 32, .t 33, .t 34, .t 39], none⟩ (
                .take ⟨(some 31), .mv, [.t 40], none⟩ <|
                .take ⟨(some 41), .extr 0, [.t 31], none⟩ <|
                .take ⟨(some 42), .extr 1, [.t 31], none⟩ <|
                .take ⟨(some 8), .mv, [.t 41], none⟩ <|
                .take ⟨(some 9), .mv, [.t 42], none⟩ <|
                .done) <|
              .stop) <|
            .stop) <|
          .stop) <|
        .stop) <|
      .alt ⟨(some 37), .call 23 [], [.t 36, .c (.v (.int .i64 (4)))], none⟩ (
        .alt ⟨(some 32), .load true 3, [.t 5], none⟩ (
          .alt ⟨(some 35), .bsl 1, [.c (.v (.int .i64 (1))), .c (.v (.int .i64 (2))), .c (.v (.int .i64 (3))), .c (.v (.int .i64 (4)))], none⟩ (
            .take ⟨(some 38), .iadr 1, [.t 35, .t 37], none⟩ <|
            .alt ⟨(some 39), .load false 1, [.t 38], none⟩ (
              .alt ⟨(some 40), .call 45 [], [.t 32, .t 33, .t 34, .t 39], none⟩ (
                .take ⟨(some 31), .mv, [.t 40], none⟩ <|
                .take ⟨(some 41), .extr 0, [.t 31], none⟩ <|
                .take ⟨(some 42), .extr 1, [.t 31], none⟩ <|
                .take ⟨(some 8), .mv, [.t 41], none⟩ <|
                .take ⟨(some 9), .mv, [.t 42], none⟩ <|
                .done) <|
              .stop) <|
            .stop) <|
          .stop) <|
        .alt ⟨(some 35), .bsl 1, [.c (.v (.int .i64 (1))), .c (.v (.int .i64 (2))), .c (.v (.int .i64 (3))), .c (.v (.int .i64 (4)))], none⟩ (
          .take ⟨(some 38), .iadr 1, [.t 35, .t 37], none⟩ <|
          .alt ⟨(some 32), .load true 3, [.t 5], none⟩ (
            .alt ⟨(some 39), .load false 1, [.t 38], none⟩ (
              .alt ⟨(some 40), .call 45 [], [.t 32, .t 33, .t 34, .t 39], none⟩ (
                .take ⟨(some 31), .mv, [.t 40], none⟩ <|
                .take ⟨(some 41), .extr 0, [.t 31], none⟩ <|
                .take ⟨(some 42), .extr 1, [.t 31], none⟩ <|
                .take ⟨(some 8), .mv, [.t 41], none⟩ <|
                .take ⟨(some 9), .mv, [.t 42], none⟩ <|
                .done) <|
              .stop) <|
            .stop) <|
          .alt ⟨(some 39), .load false 1, [.t 38], none⟩ (
            .alt ⟨(some 32), .load true 3, [.t 5], none⟩ (
              .alt ⟨(some 40), .call 45 [], [.t 32, .t 33, .t 34, .t 39], none⟩ (
                .take ⟨(some 31), .mv, [.t 40], none⟩ <|
                .take ⟨(some 41), .extr 0, [.t 31], none⟩ <|
                .take ⟨(some 42), .extr 1, [.t 31], none⟩ <|
                .take ⟨(some 8), .mv, [.t 41], none⟩ <|
                .take ⟨(some 9), .mv, [.t 42], none⟩ <|
                .done) <|
              .stop) <|
            .stop) <|
          .stop) <|
        .stop) <|
      .stop)) <|
    .seq (.reg [⟨(some 43), .mv, [.t 9], none⟩]) <|
    .cond (.t 43) (
      .reg [⟨(some 44), .mv, [.t 8], none⟩,
        ⟨(some 6), .mv, [.t 44], none⟩]) (
      .skip))) <|
  .reg [⟨(some 29), .mv, [.t 7], none⟩,
    ⟨(some 30), .bin .add 0, [.t 29, .c (.v (.int .i64 (1)))], none⟩,
    ⟨(some 7), .mv, [.t 30], none⟩]

def c_spec_l20Tiled_L1 : ACode :=
  .seq (.seq (.reg [⟨(some 51), .mv, [.t 11], none⟩,
    ⟨(some 52), .bin .leq 0, [.t 51, .c (.v (.int .i64 (2)))], none⟩]) <|
  .cond (.t 52) (
    .skip) (
    .exit 4)) <|
  .seq (.block 5 (
    .seq (.reg [⟨(some 56), .load true 3, [.t 5], none⟩,
      ⟨(some 57), .mv, [.t 6], none⟩,
      ⟨(some 58), .mv, [.t 10], none⟩,
      ⟨(some 59), .mv, [.t 11], none⟩,
      ⟨(some 60), .call 45 [], [.t 56, .t 57, .t 58, .t 59], none⟩,
      ⟨(some 55), .mv, [.t 60], none⟩,
      ⟨(some 61), .extr 0, [.t 55], none⟩,
      ⟨(some 62), .extr 1, [.t 55], none⟩,
      ⟨(some 12), .mv, [.t 61], none⟩,
      ⟨(some 13), .mv, [.t 62], none⟩]) <|
    .seq (.reg [⟨(some 63), .mv, [.t 13], none⟩]) <|
    .cond (.t 63) (
      .reg [⟨(some 64), .mv, [.t 12], none⟩,
        ⟨(some 6), .mv, [.t 64], none⟩]) (
      .skip))) <|
  .reg [⟨(some 53), .mv, [.t 11], none⟩,
    ⟨(some 54), .bin .add 0, [.t 53, .c (.v (.int .i64 (1)))], none⟩,
    ⟨(some 11), .mv, [.t 54], none⟩]

def c_spec_l20Tiled_L2 : ACode :=
  .seq (.seq (.reg [⟨(some 45), .mv, [.t 10], none⟩,
    ⟨(some 46), .mv, [.t 6], none⟩,
    ⟨(some 47), .len false, [.t 46], none⟩,
    ⟨(some 48), .bin .lss 0, [.t 45, .t 47], none⟩]) <|
  .cond (.t 48) (
    .skip) (
    .exit 2)) <|
  .seq (.block 3 (
    .seq (.reg [⟨(some 11), .mv, [.c (.v (.int .i64 (1)))], none⟩]) <|
    .block 4 (
      .loop [(6, 1)] [4, 5, 6, 10, 11, 87] c_spec_l20Tiled_L1))) <|
  .reg [⟨(some 49), .mv, [.t 10], none⟩,
    ⟨(some 50), .bin .add 0, [.t 49, .c (.v (.int .i64 (1)))], none⟩,
    ⟨(some 10), .mv, [.t 50], none⟩]

def c_spec_l20Tiled_L3 : ACode :=
  .seq (.seq (.reg [⟨(some 70), .mv, [.t 15], none⟩,
    ⟨(some 71), .mv, [.t 6], none⟩,
    ⟨(some 72), .len false, [.t 71], none⟩,
    ⟨(some 73), .bin .lss 0, [.t 70, .t 72], none⟩]) <|
  .cond (.t 73) (
    .skip) (
    .exit 6)) <|
  .seq (.block 7 (
    .draw (
      .take ⟨(some 76), .fadr 2, [.t 14], none⟩ <|
      .take ⟨(some 78), .mv, [.t 6], none⟩ <|
      .take ⟨(some 79), .mv, [.t 15], none⟩ <|
      .take ⟨(some 80), .iadr 1, [.t 78, .t 79], none⟩ <|
      .alt ⟨(some 77), .load false 1, [.t 76], none⟩ (
        .alt ⟨(some 81), .load false 1, [.t 80], none⟩ (
          .take ⟨(some 82), .bin .neq 0, [.t 81, .c (.v (.int .i64 (0)))], none⟩ <|
          .alt ⟨(some 83), .bsl 1, [.t 82], none⟩ (
            .alt ⟨(some 84), .app 1 1 true, [.t 77, .t 83], none⟩ (
              .take ⟨(some 85), .fadr 2, [.t 14], none⟩ <|
              .alt ⟨none, .store 1, [.t 85, .t 84], none⟩ (
                .done) <|
              .stop) <|
            .stop) <|
          .stop) <|
        .stop) <|
      .alt ⟨(some 81), .load false 1, [.t 80], none⟩ (
        .take ⟨(some 82), .bin .neq 0, [.t 81, .c (.v (.int .i64 (0)))], none⟩ <|
        .alt ⟨(some 77), .load false 1, [.t 76], none⟩ (
          .alt ⟨(some 83), .bsl 1, [.t 82], none⟩ (
            .alt ⟨(some 84), .app 1 1 true, [.t 77, .t 83], none⟩ (
              .take ⟨(some 85), .fadr 2, [.t 14], none⟩ <|
              .alt ⟨none, .store 1, [.t 85, .t 84], none⟩ (
                .done) <|
              .stop) <|
            .stop) <|
          .stop) <|
        .alt ⟨(some 83), .bsl 1, [.t 82], none⟩ (
          .alt ⟨(some 77), .load false 1, [.t 76], none⟩ (
            .alt ⟨(some 84), .app 1 1 true, [.t 77, .t 83], none⟩ (
              .take ⟨(some 85), .fadr 2, [.t 14], none⟩ <|
              .alt ⟨none, .store 1, [.t 85, .t 84], none⟩ (
                .done) <|
              .stop) <|
            .stop) <|
          .stop) <|
        .stop) <|
      .stop))) <|
  .reg [⟨(some 74), .mv, [.t 15], none⟩,
    ⟨(some 75), .bin .add 0, [.t 74, .c (.v (.int .i64 (1)))], none⟩,
    ⟨(some 15), .mv, [.t 75], none⟩]

def c_spec_l20Tiled : ACode :=
  .seq (.reg [⟨(some 4), .alloc [.v (.int .i64 (0)), .v (.int .i64 (0)), .os 1 []], [], none⟩]) <|
  .seq (.reg [⟨(some 16), .mv, [.t 0], none⟩,
    ⟨(some 17), .mv, [.t 1], none⟩,
    ⟨(some 18), .call 62 [], [.t 16, .t 17], none⟩,
    ⟨(some 5), .alloc [.v (.int .i64 (0)), .v (.int .i64 (0)), .os 1 []], [], none⟩,
    ⟨none, .store 3, [.t 5, .t 18], none⟩]) <|
  .seq (.seq (.reg [⟨(some 19), .load true 3, [.t 5], none⟩,
    ⟨(some 20), .call 28 [], [.t 19], none⟩,
    ⟨(some 21), .un .not, [.t 20], none⟩]) <|
  .cond (.t 21) (
    .seq (.reg [⟨(some 22), .load true 3, [.t 5], none⟩,
      ⟨none, .store 3, [.t 4, .t 22], none⟩]) <|
    .ret) (
    .skip)) <|
  .seq (.reg [⟨(some 23), .load true 3, [.t 5], none⟩,
    ⟨(some 24), .call 43 [], [.t 23], none⟩,
    ⟨(some 6), .mv, [.t 24], none⟩]) <|
  .seq (.seq (.reg [⟨(some 7), .mv, [.c (.v (.int .i64 (0)))], none⟩]) <|
  .block 0 (
    .loop [(6, 1)] [0, 4, 5, 6, 7, 87] c_spec_l20Tiled_L0)) <|
  .seq (.seq (.reg [⟨(some 10), .mv, [.c (.v (.int .i64 (0)))], none⟩]) <|
  .block 2 (
    .loop [(6, 1)] [4, 5, 6, 10, 87] c_spec_l20Tiled_L2)) <|
  .seq (.reg [⟨(some 65), .fadr 0, [.t 5], none⟩,
    ⟨(some 66), .load false 1, [.t 65], none⟩,
    ⟨(some 67), .fadr 1, [.t 5], none⟩,
    ⟨(some 68), .load false 1, [.t 67], none⟩,
    ⟨(some 69), .build [.v (.int .i64 (0)), .v (.int .i64 (0)), .os 1 []] [(0, 1), (1, 1)], [.t 66, .t 68], none⟩,
    ⟨(some 14), .alloc [.v (.int .i64 (0)), .v (.int .i64 (0)), .os 1 []], [], none⟩,
    ⟨none, .store 3, [.t 14, .t 69], none⟩]) <|
  .seq (.seq (.reg [⟨(some 15), .mv, [.c (.v (.int .i64 (0)))], none⟩]) <|
  .block 6 (
    .loop [(6, 1)] [4, 6, 14, 15, 87] c_spec_l20Tiled_L3)) <|
  .seq (.reg [⟨(some 86), .load true 3, [.t 14], none⟩,
    ⟨none, .store 3, [.t 4, .t 86], none⟩]) <|
  .ret

theorem k_spec_l20Tiled : cFn Try.prog n_spec_l20Tiled 87 [.c 4 true 3] c_spec_l20Tiled := ⟨Try.f63, _, Try.func63, rfl, by kernel_rfl, by kernel_rfl, by kernel_rfl, by kernel_rfl⟩

-- 2 parameters, results [.c 4 true 3], 28 slots, modes [true, false]
@[simp] abbrev n_spec_l20Some : Nat := 40

def c_spec_l20Some : ACode :=
  .seq (.reg [⟨(some 4), .alloc [.v (.int .i64 (0)), .v (.int .i64 (0)), .os 1 []], [], none⟩]) <|
  .seq (.seq (.reg [⟨(some 5), .mv, [.t 0], none⟩,
    ⟨(some 6), .call 23 [], [.t 5, .c (.v (.int .i64 (4)))], none⟩]) <|
  .block 0 (
    .seq (.reg [⟨(some 8), .bin .eql 0, [.t 6, .c (.v (.int .i64 (0)))], none⟩,
      ⟨(some 7), .mv, [.t 8], none⟩]) <|
    .cond (.t 7) (
      .seq (.draw (
        .take ⟨(some 10), .mv, [.t 0], none⟩ <|
        .take ⟨(some 15), .mv, [.t 0], none⟩ <|
        .alt ⟨(some 9), .bsl 1, [.c (.v (.int .i64 (2))), .c (.v (.int .i64 (3))), .c (.v (.int .i64 (4))), .c (.v (.int .i64 (4))), .c (.v (.int .i64 (6)))], none⟩ (
          .alt ⟨(some 11), .call 23 [], [.t 10, .c (.v (.int .i64 (5)))], none⟩ (
            .take ⟨(some 12), .iadr 1, [.t 9, .t 11], none⟩ <|
            .alt ⟨(some 13), .load false 1, [.t 12], none⟩ (
              .alt ⟨(some 14), .bsl 1, [.c (.v (.int .i64 (2))), .c (.v (.int .i64 (3))), .c (.v (.int .i64 (4)))], none⟩ (
                .alt ⟨(some 16), .call 23 [], [.t 15, .c (.v (.int .i64 (3)))], none⟩ (
                  .take ⟨(some 17), .iadr 1, [.t 14, .t 16], none⟩ <|
                  .alt ⟨(some 18), .load false 1, [.t 17], none⟩ (
                    .alt ⟨(some 19), .call 42 [], [.t 13, .t 18], none⟩ (
                      .alt ⟨none, .store 3, [.t 4, .t 19], none⟩ (
                        .done) <|
                      .stop) <|
                    .stop) <|
                  .stop) <|
                .stop) <|
              .alt ⟨(some 16), .call 23 [], [.t 15, .c (.v (.int .i64 (3)))], none⟩ (
                .alt ⟨(some 14), .bsl 1, [.c (.v (.int .i64 (2))), .c (.v (.int .i64 (3))), .c (.v (.int .i64 (4)))], none⟩ (
                  .take ⟨(some 17), .iadr 1, [.t 14, .t 16], none⟩ <|
                  .alt ⟨(some 18), .load false 1, [.t 17], none⟩ (
                    .alt ⟨(some 19), .call 42 [], [.t 13, .t 18], none⟩ (
                      .alt ⟨none, .store 3, [.t 4, .t 19], none⟩ (
                        .done) <|
                      .stop) <|
                    .stop) <|
                  .stop) <|
                .stop) <|
              .stop) <|
            .alt ⟨(some 14), .bsl 1, [.c (.v (.int .i64 (2))), .c (.v (.int .i64 (3))), .c (.v (.int .i64 (4)))], none⟩ (
              .alt ⟨(some 13), .load false 1, [.t 12], none⟩ (
                .alt ⟨(some 16), .call 23 [], [.t 15, .c (.v (.int .i64 (3)))], none⟩ (
                  .take ⟨(some 17), .iadr 1, [.t 14, .t 16], none⟩ <|
                  .alt ⟨(some 18), .load false 1, [.t 17], none⟩ (
                    .alt ⟨(some 19), .call 42 [], [.t 13, .t 18], none⟩ (
                      .alt ⟨none, .store 3, [.t 4, .t 19], none⟩ (
                        .done) <|
                      .stop) <|
                    .stop) <|
                  .stop) <|
                .stop) <|
              .alt ⟨(some 16), .call 23 [], [.t 15, .c (.v (.int .i64 (3)))], none⟩ (
                .take ⟨(some 17), .iadr 1, [.t 14, .t 16], none⟩ <|
                .alt ⟨(some 13), .load false 1, [.t 12], none⟩ (
                  .alt ⟨(some 18), .load false 1, [.t 17], none⟩ (
                    .alt ⟨(some 19), .call 42 [], [.t 13, .t 18], none⟩ (
                      .alt ⟨none, .store 3, [.t 4, .t 19], none⟩ (
                        .done) <|
                      .stop) <|
                    .stop) <|
                  .stop) <|
                .alt ⟨(some 18), .load false 1, [.t 17], none⟩ (
                  .alt ⟨(some 13), .load false 1, [.t 12], none⟩ (
                    .alt ⟨(some 19), .call 42 [], [.t 13, .t 18], none⟩ (
                      .alt ⟨none, .store 3, [.t 4, .t 19], none⟩ (
                        .done) <|
                      .stop) <|
                    .stop) <|
                  .stop) <|
                .stop) <|
              .stop) <|
            .alt ⟨(some 16), .call 23 [], [.t 15, .c (.v (.int .i64 (3)))], none⟩ (
              .alt ⟨(some 13), .load false 1, [.t 12], none⟩ (
                .alt ⟨(some 14), .bsl 1, [.c (.v (.int .i64 (2))), .c (.v (.int .i64 (3))), .c (.v (.int .i64 (4)))], none⟩ (
                  .take ⟨(some 17), .iadr 1, [.t 14, .t 16], none⟩ <|
                  .alt ⟨(some 18), .load false 1, [.t 17], none⟩ (
                    .alt ⟨(some 19), .call 42 [], [.t 13, .t 18], none⟩ (
                      .alt ⟨none, .store 3, [.t 4, .t 19], none⟩ (
                        .done) <|
                      .stop) <|
                    .stop) <|
                  .stop) <|
                .stop) <|
              .alt ⟨(some 14), .bsl 1, [.c (.v (.int .i64 (2))), .c (.v (.int .i64 (3))), .c (.v (.int .i64 (4)))], none⟩ (
                .take ⟨(some 17), .iadr 1, [.t 14, .t 16], none⟩ <|
                .alt ⟨(some 13), .load false 1, [.t 12], none⟩ (
                  .alt ⟨(some 18), .load false 1, [.t 17], none⟩ (
                    .alt ⟨(some 19), .call 42 [], [.t 13, .t 18], none⟩ (
                      .alt ⟨none, .store 3, [.t 4, .t 19], none⟩ (
                        .done) <|
                      .stop) <|
                    .stop) <|
                  .stop) <|
                .alt ⟨(some 18), .load false 1, [.t 17], none⟩ (
                  .alt ⟨(some 13), .load false 1, [.t 12], none⟩ (
                    .alt ⟨(some 19), .call 42 [], [.t 13, .t 18], none⟩ (
                      .alt ⟨none, .store 3, [.t 4, .t 19], none⟩ (
                        .done) <|
                      .stop) <|
                    .stop) <|
                  .stop) <|
                .stop) <|
              .stop) <|
            .stop) <|
          .alt ⟨(some 14), .bsl 1, [.c (.v (.int .i64 (2))), .c (.v (.int .i64 (3))), .c (.v (.int .i64 (4)))], none⟩ (
            .alt ⟨(some 11), .call 23 [], [.t 10, .c (.v (.int .i64 (5)))], none⟩ (
              .take ⟨(some 12), .iadr 1, [.t 9, .t 11], none⟩ <|
              .alt ⟨(some 13), .load false 1, [.t 12], none⟩ (
                .alt ⟨(some 16), .call 23 [], [.t 15, .c (.v (.int .i64 (3)))], none⟩ (
                  .take ⟨(some 17), .iadr 1, [.t 14, .t 16], none⟩ <|
                  .alt ⟨(some 18), .load false 1, [.t 17], none⟩ (
                    .alt ⟨(some 19), .call 42 [], [.t 13, .t 18], none⟩ (
                      .alt ⟨none, .store 3, [.t 4, .t 19], none⟩ (
                        .done) <|
                      .stop) <|
                    .stop) <|
                  .stop) <|
                .stop) <|
              .alt ⟨(some 16), .call 23 [], [.t 15, .c (.v (.int .i64 (3)))], none⟩ (
                .take ⟨(some 17), .iadr 1, [.t 14, .t 16], none⟩ <|
                .alt ⟨(some 13), .load false 1, [.t 12], none⟩ (
                  .alt ⟨(some 18), .load false 1, [.t 17], none⟩ (
                    .alt ⟨(some 19), .call 42 [], [.t 13, .t 18], none⟩ (
                      .alt ⟨none, .store 3, [.t 4, .t 19], none⟩ (
                        .done) <|
                      .stop) <|
                    .stop) <|
                  .stop) <|
                .alt ⟨(some 18), .load false 1, [.t 17], none⟩ (
                  .alt ⟨(some 13), .load false 1, [.t 12], none⟩ (
                    .alt ⟨(some 19), .call 42 [], [.t 13, .t 18], none⟩ (
                      .alt ⟨none, .store 3, [.t 4, .t 19], none⟩ (
                        .done) <|
                      .stop) <|
                    .stop) <|
                  .stop) <|
                .stop) <|
              .stop) <|
            .stop) <|
          .stop) <|
        .alt ⟨(some 11), .call 23 [], [.t 10, .c (.v (.int .i64 (5)))], none⟩ (
          .alt ⟨(some 9), .bsl 1, [.c (.v (.int .i64 (2))), .c (.v (.int .i64 (3))), .c (.v (.int .i64 (4))), .c (.v (.int .i64 (4))), .c (.v (.int .i64 (6)))], none⟩ (
            .take ⟨(some 12), .iadr 1, [.t 9, .t 11], none⟩ <|
            .alt ⟨(some 13), .load false 1, [.t 12], none⟩ (
              .alt ⟨(some 14), .bsl 1, [.c (.v (.int .i64 (2))), .c (.v (.int .i64 (3))), .c (.v (.int .i64 (4)))], none⟩ (
                .alt ⟨(some 16), .call 23 [], [.t 15, .c (.v (.int .i64 (3)))], none⟩ (
                  .take ⟨(some 17), .iadr 1, [.t 14, .t 16], none⟩ <|
                  .alt ⟨(some 18), .load false 1, [.t 17], none⟩ (
                    .alt ⟨(some 19), .call 42 [], [.t 13, .t 18], none⟩ (
                      .alt ⟨none, .store 3, [.t 4, .t 19], none⟩ (
                        .done) <|
                      .stop) <|
                    .stop) <|
                  .stop) <|
                .stop) <|
              .alt ⟨(some 16), .call 23 [], [.t 15, .c (.v (.int .i64 (3)))], none⟩ (
                .alt ⟨(some 14), .bsl 1, [.c (.v (.int .i64 (2))), .c (.v (.int .i64 (3))), .c (.v (.int .i64 (4)))], none⟩ (
                  .take ⟨(some 17), .iadr 1, [.t 14, .t 16], none⟩ <|
                  .alt ⟨(some 18), .load false 1, [.t 17], none⟩ (
                    .alt ⟨(some 19), .call 42 [], [.t 13, .t 18], none⟩ (
                      .alt ⟨none, .store 3, [.t 4, .t 19], none⟩ (
                        .done) <|
                      .stop) <|
                    .stop) <|
                  .stop) <|
                .stop) <|
              .stop) <|
            .alt ⟨(some 14), .bsl 1, [.c (.v (.int .i64 (2))), .c (.v (.int .i64 (3))), .c (.v (.int .i64 (4)))], none⟩ (
              .alt ⟨(some 13), .load false 1, [.t 12], none⟩ (
                .alt ⟨(some 16), .call 23 [], [.t 15, .c (.v (.int .i64 (3)))], none⟩ (
                  .take ⟨(some 17), .iadr 1, [.t 14, .t 16], none⟩ <|
                  .alt ⟨(some 18), .load false 1, [.t 17], none⟩ (
                    .alt ⟨(some 19), .call 42 [], [.t 13, .t 18], none⟩ (
                      .alt ⟨none, .store 3, [.t 4, .t 19], none⟩ (
                        .done) <|
                      .stop) <|
                    .stop) <|
                  .stop) <|
                .stop) <|
              .alt ⟨(some 16), .call 23 [], [.t 15, .c (.v (.int .i64 (3)))], none⟩ (
                .take ⟨(some 17), .iadr 1, [.t 14, .t 16], none⟩ <|
                .alt ⟨(some 13), .load false 1, [.t 12], none⟩ (
                  .alt ⟨(some 18), .load false 1, [.t 17], none⟩ (
                    .alt ⟨(some 19), .call 42 [], [.t 13, .t 18], none⟩ (
                      .alt ⟨none, .store 3, [.t 4, .t 19], none⟩ (
                        .done) <|
                      .stop) <|
                    .stop) <|
                  .stop) <|
                .alt ⟨(some 18), .load false 1, [.t 17], none⟩ (
                  .alt ⟨(some 13), .load false 1, [.t 12], none⟩ (
                    .alt ⟨(some 19), .call 42 [], [.t 13, .t 18], none⟩ (
                      .alt ⟨none, .store 3, [.t 4, .t 19], none⟩ (
                        .done) <|
                      .stop) <|
                    .stop) <|
                  .stop) <|
                .stop) <|
              .stop) <|
            .alt ⟨(some 16), .call 23 [], [.t 15, .c (.v (.int .i64 (3)))], none⟩ (
              .alt ⟨(some 13), .load false 1, [.t 12], none⟩ (
                .alt ⟨(some 14), .bsl 1, [.c (.v (.int .i64 (2))), .c (.v (.int .i64 (3))), .c (.v (.int .i64 (4)))], none⟩ (
                  .take ⟨(some 17), .iadr 1, [.t 14, .t 16], none⟩ <|
                  .alt ⟨(some 18), .load false 1, [.t 17], none⟩ (
                    .alt ⟨(some 19), .call 42 [], [.t 13, .t 18], none⟩ (
                      .alt ⟨none, .store 3, [.t 4, .t 19], none⟩ (
                        .done) <|
                      .stop) <|
                    .stop) <|
                  .stop) <|
                .stop) <|
              .alt ⟨(some 14), .bsl 1, [.c (.v (.int .i64 (2))), .c (.v (.int .i64 (3))), .c (.v (.int .i64 (4)))], none⟩ (
                .take ⟨(some 17), .iadr 1, [.t 14, .t 16], none⟩ <|
                .alt ⟨(some 13), .load false 1, [.t 12], none⟩ (
                  .alt ⟨(some 18), .load false 1, [.t 17], none⟩ (
                    .alt ⟨(some 19), .call 42 [], [.t 13, .t 18], none⟩ (
                      .alt ⟨none, .store 3, [.t 4, .t 19], none⟩ (
                        .done) <|
                      .stop) <|
                    .stop) <|
                  .stop) <|
                .alt ⟨(some 18), .load false 1, [.t 17], none⟩ (
                  .alt ⟨(some 13), .load false 1, [.t 12], none⟩ (
                    .alt ⟨(some 19), .call 42 [], [.t 13, .t 18], none⟩ (
                      .alt ⟨none, .store 3, [.t 4, .t 19], none⟩ (
                        .done) <|
                      .stop) <|
                    .stop) <|
                  .stop) <|
                .stop) <|
              .stop) <|
            .stop) <|
          .alt ⟨(some 14), .bsl 1, [.c (.v (.int .i64 (2))), .c (.v (.int .i64 (3))), .c (.v (.int .i64 (4)))], none⟩ (
            .alt ⟨(some 9), .bsl 1, [.c (.v (.int .i64 (2))), .c (.v (.int .i64 (3))), .c (.v (.int .i64 (4))), .c (.v (.int .i64 (4))), .c (.v (.int .i64 (6)))], none⟩ (
              .take ⟨(some 12), .iadr 1, [.t 9, .t 11], none⟩ <|
              .alt ⟨(some 13), .load false 1, [.t 12], none⟩ (
                .alt ⟨(some 16), .call 23 [], [.t 15, .c (.v (.int .i64 (3)))], none⟩ (
                  .take ⟨(some 17), .iadr 1, [.t 14, .t 16], none⟩ <|
                  .alt ⟨(some 18), .load false 1, [.t 17], none⟩ (
                    .alt ⟨(some 19), .call 42 [], [.t 13, .t 18], none⟩ (
                      .alt ⟨none, .store 3, [.t 4, .t 19], none⟩ (
                        .done) <|
                      .stop) <|
                    .stop) <|
                  .stop) <|
                .stop) <|
              .alt ⟨(some 16), .call 23 [], [.t 15, .c (.v (.int .i64 (3)))], none⟩ (
                .take ⟨(some 17), .iadr 1, [.t 14, .t 16], none⟩ <|
                .alt ⟨(some 13), .load false 1, [.t 12], none⟩ (
                  .alt ⟨(some 18), .load false 1, [.t 17], none⟩ (
                    .alt ⟨(some 19), .call 42 [], [.t 13, .t 18], none⟩ (
                      .alt ⟨none, .store 3, [.t 4, .t 19], none⟩ (
                        .done) <|
                      .stop) <|
                    .stop) <|
                  .stop) <|
                .alt ⟨(some 18), .load false 1, [.t 17], none⟩ (
                  .alt ⟨(some 13), .load false 1, [.t 12], none⟩ (
                    .alt ⟨(some 19), .call 42 [], [.t 13, .t 18], none⟩ (
                      .alt ⟨none, .store 3, [.t 4, .t 19], none⟩ (
                        .done) <|
                      .stop) <|
                    .stop) <|
                  .stop) <|
                .stop) <|
              .stop) <|
            .alt ⟨(some 16), .call 23 [], [.t 15, .c (.v (.int .i64 (3)))], none⟩ (
              .take ⟨(some 17), .iadr 1, [.t 14, .t 16], none⟩ <|
              .alt ⟨(some 9), .bsl 1, [.c (.v (.int .i64 (2))), .c (.v (.int .i64 (3))), .c (.v (.int .i64 (4))), .c (.v (.int .i64 (4))), .c (.v (.int .i64 (6)))], none⟩ (
                .take ⟨(some 12), .iadr 1, [.t 9, .t 11], none⟩ <|
                .alt ⟨(some 13), .load false 1, [.t 12], none⟩ (
                  .alt ⟨(some 18), .load false 1, [.t 17], none⟩ (
                    .alt ⟨(some 19), .call 42 [], [.t 13, .t 18], none⟩ (
                      .alt ⟨none, .store 3, [.t 4, .t 19], none⟩ (
                        .done) <|
                      .stop) <|
                    .stop) <|
                  .stop) <|
                .alt ⟨(some 18), .load false 1, [.t 17], none⟩ (
                  .alt ⟨(some 13), .load false 1, [.t 12], none⟩ (
                    .alt ⟨(some 19), .call 42 [], [.t 13, .t 18], none⟩ (
                      .alt ⟨none, .store 3, [.t 4, .t 19], none⟩ (
                        .done) <|
                      .stop) <|
                    .stop) <|
                  .stop) <|
                .stop) <|
              .alt ⟨(some 18), .load false 1, [.t 17], none⟩ (
                .alt ⟨(some 9), .bsl 1, [.c (.v (.int .i64 (2))), .c (.v (.int .i64 (3))), .c (.v (.int .i64 (4))), .c (.v (.int .i64 (4))), .c (.v (.int .i64 (6)))], none⟩ (
                  .take ⟨(some 12), .iadr 1, [.t 9, .t 11], none⟩ <|
                  .alt ⟨(some 13), .load false 1, [.t 12], none⟩ (
                    .alt ⟨(some 19), .call 42 [], [.t 13, .t 18], none⟩ (
                      .alt ⟨none, .store 3, [.t 4, .t 19], none⟩ (
                        .done) <|
                      .stop) <|
                    .stop) <|
                  .stop) <|
                .stop) <|
              .stop) <|
            .stop) <|
          .alt ⟨(some 16), .call 23 [], [.t 15, .c (.v (.int .i64 (3)))], none⟩ (
            .alt ⟨(some 9), .bsl 1, [.c (.v (.int .i64 (2))), .c (.v (.int .i64 (3))), .c (.v (.int .i64 (4))), .c (.v (.int .i64 (4))), .c (.v (.int .i64 (6)))], none⟩ (
              .take ⟨(some 12), .iadr 1, [.t 9, .t 11], none⟩ <|
              .alt ⟨(some 13), .load false 1, [.t 12], none⟩ (
                .alt ⟨(some 14), .bsl 1, [.c (.v (.int .i64 (2))), .c (.v (.int .i64 (3))), .c (.v (.int .i64 (4)))], none⟩ (
                  .take ⟨(some 17), .iadr 1, [.t 14, .t 16], none⟩ <|
                  .alt ⟨(some 18), .load false 1, [.t 17], none⟩ (
                    .alt ⟨(some 19), .call 42 [], [.t 13, .t 18], none⟩ (
                      .alt ⟨none, .store 3, [.t 4, .t 19], none⟩ (
                        .done) <|
                      .stop) <|
                    .stop) <|
                  .stop) <|
                .stop) <|
              .alt ⟨(some 14), .bsl 1, [.c (.v (.int .i64 (2))), .c (.v (.int .i64 (3))), .c (.v (.int .i64 (4)))], none⟩ (
                .take ⟨(some 17), .iadr 1, [.t 14, .t 16], none⟩ <|
                .alt ⟨(some 13), .load false 1, [.t 12], none⟩ (
                  .alt ⟨(some 18), .load false 1, [.t 17], none⟩ (
                    .alt ⟨(some 19), .call 42 [], [.t 13, .t 18], none⟩ (
                      .alt ⟨none, .store 3, [.t 4, .t 19], none⟩ (
                        .done) <|
                      .stop) <|
                    .stop) <|
                  .stop) <|
                .alt ⟨(some 18), .load false 1, [.t 17], none⟩ (
                  .alt ⟨(some 13), .load false 1, [.t 12], none⟩ (
                    .alt ⟨(some 19), .call 42 [], [.t 13, .t 18], none⟩ (
                      .alt ⟨none, .store 3, [.t 4, .t 19], none⟩ (
                        .done) <|
                      .stop) <|
                    .stop) <|
                  .stop) <|
                .stop) <|
              .stop) <|
            .alt ⟨(some 14), .bsl 1, [.c (.v (.int .i64 (2))), .c (.v (.int .i64 (3))), .c (.v (.int .i64 (4)))], none⟩ (
              .take ⟨(some 17), .iadr 1, [.t 14, .t 16], none⟩ <|
              .alt ⟨(some 9), .bsl 1, [.c (.v (.int .i64 (2))), .c (.v (.int .i64 (3))), .c (.v (.int .i64 (4))), .c (.v (.int .i64 (4))), .c (.v (.int .i64 (6)))], none⟩ (
                .take ⟨(some 12), .iadr 1, [.t 9, .t 11], none⟩ <|
                .alt ⟨(some 13), .load false 1, [.t 12], none⟩ (
                  .alt ⟨(some 18), .load false 1, [.t 17], none⟩ (
                    .alt ⟨(some 19), .call 42 [], [.t 13, .t 18], none⟩ (
                      .alt ⟨none, .store 3, [.t 4, .t 19], none⟩ (
                        .done) <|
                      .stop) <|
                    .stop) <|
                  .stop) <|
                .alt ⟨(some 18), .load false 1, [.t 17], none⟩ (
                  .alt ⟨(some 13), .load false 1, [.t 12], none⟩ (
                    .alt ⟨(some 19), .call 42 [], [.t 13, .t 18], none⟩ (
                      .alt ⟨none, .store 3, [.t 4, .t 19], none⟩ (
                        .done) <|
                      .stop) <|
                    .stop) <|
                  .stop) <|
                .stop) <|
              .alt ⟨(some 18), .load false 1, [.t 17], none⟩ (
                .alt ⟨(some 9), .bsl 1, [.c (.v (.int .i64 (2))), .c (.v (.int .i64 (3))), .c (.v (.int .i64 (4))), .c (.v (.int .i64 (4))), .c (.v (.int .i64 (6)))], none⟩ (
                  .take ⟨(some 12), .iadr 1, [.t 9, .t 11], none⟩ <|
                  .alt ⟨(some 13), .load false 1, [.t 12], none⟩ (
                    .alt ⟨(some 19), .call 42 [], [.t 13, .t 18], none⟩ (
                      .alt ⟨none, .store 3, [.t 4, .t 19], none⟩ (
                        .done) <|
                      .stop) <|
                    .stop) <|
                  .stop) <|
                .stop) <|
              .stop) <|
            .stop) <|
          .stop) <|
        .alt ⟨(some 14), .bsl 1, [.c (.v (.int .i64 (2))), .c (.v (.int .i64 (3))), .c (.v (.int .i64 (4)))], none⟩ (
          .alt ⟨(some 9), .bsl 1, [.c (.v (.int .i64 (2))), .c (.v (.int .i64 (3))), .c (.v (.int .i64 (4))), .c (.v (.int .i64 (4))), .c (.v (.int .i64 (6)))], none⟩ (
            .alt ⟨(some 11), .call 23 [], [.t 10, .c (.v (.int .i64 (5)))], none⟩ (
              .take ⟨(some 12), .iadr 1, [.t 9, .t 11], none⟩ <|
              .alt ⟨(some 13), .load false 1, [.t 12], none⟩ (
                .alt ⟨(some 16), .call 23 [], [.t 15, .c (.v (.int .i64 (3)))], none⟩ (
                  .take ⟨(some 17), .iadr 1, [.t 14, .t 16], none⟩ <|
                  .alt ⟨(some 18), .load false 1, [.t 17], none⟩ (
                    .alt ⟨(some 19), .call 42 [], [.t 13, .t 18], none⟩ (
                      .alt ⟨none, .store 3, [.t 4, .t 19], none⟩ (
                        .done) <|
                      .stop) <|
                    .stop) <|
                  .stop) <|
                .stop) <|
              .alt ⟨(some 16), .call 23 [], [.t 15, .c (.v (.int .i64 (3)))], none⟩ (
                .take ⟨(some 17), .iadr 1, [.t 14, .t 16], none⟩ <|
                .alt ⟨(some 13), .load false 1, [.t 12], none⟩ (
                  .alt ⟨(some 18), .load false 1, [.t 17], none⟩ (
                    .alt ⟨(some 19), .call 42 [], [.t 13, .t 18], none⟩ (
                      .alt ⟨none, .store 3, [.t 4, .t 19], none⟩ (
                        .done) <|
                      .stop) <|
                    .stop) <|
                  .stop) <|
                .alt ⟨(some 18), .load false 1, [.t 17], none⟩ (
                  .alt ⟨(some 13), .load false 1, [.t 12], none⟩ (
                    .alt ⟨(some 19), .call 42 [], [.t 13, .t 18], none⟩ (
                      .alt ⟨none, .store 3, [.t 4, .t 19], none⟩ (
                        .done) <|
                      .stop) <|
                    .stop) <|
                  .stop) <|
                .stop) <|
              .stop) <|
            .stop) <|
          .alt ⟨(some 11), .call 23 [], [.t 10, .c (.v (.int .i64 (5)))], none⟩ (
            .alt ⟨(some 9), .bsl 1, [.c (.v (.int .i64 (2))), .c (.v (.int .i64 (3))), .c (.v (.int .i64 (4))), .c (.v (.int .i64 (4))), .c (.v (.int .i64 (6)))], none⟩ (
              .take ⟨(some 12), .iadr 1, [.t 9, .t 11], none⟩ <|
              .alt ⟨(some 13), .load false 1, [.t 12], none⟩ (
                .alt ⟨(some 16), .call 23 [], [.t 15, .c (.v (.int .i64 (3)))], none⟩ (
                  .take ⟨(some 17), .iadr 1, [.t 14, .t 16], none⟩ <|
                  .alt ⟨(some 18), .load false 1, [.t 17], none⟩ (
                    .alt ⟨(some 19), .call 42 [], [.t 13, .t 18], none⟩ (
                      .alt ⟨none, .store 3, [.t 4, .t 19], none⟩ (
                        .done) <|
                      .stop) <|
                    .stop) <|
                  .stop) <|
                .stop) <|
              .alt ⟨(some 16), .call 23 [], [.t 15, .c (.v (.int .i64 (3)))], none⟩ (
                .take ⟨(some 17), .iadr 1, [.t 14, .t 16], none⟩ <|
                .alt ⟨(some 13), .load false 1, [.t 12], none⟩ (
                  .alt ⟨(some 18), .load false 1, [.t 17], none⟩ (
                    .alt ⟨(some 19), .call 42 [], [.t 13, .t 18], none⟩ (
                      .alt ⟨none, .store 3, [.t 4, .t 19], none⟩ (
                        .done) <|
                      .stop) <|
                    .stop) <|
                  .stop) <|
                .alt ⟨(some 18), .load false 1, [.t 17], none⟩ (
                  .alt ⟨(some 13), .load false 1, [.t 12], none⟩ (
                    .alt ⟨(some 19), .call 42 [], [.t 13, .t 18], none⟩ (
                      .alt ⟨none, .store 3, [.t 4, .t 19], none⟩ (
                        .done) <|
                      .stop) <|
                    .stop) <|
                  .stop) <|
                .stop) <|
              .stop) <|
            .alt ⟨(some 16), .call 23 [], [.t 15, .c (.v (.int .i64 (3)))], none⟩ (
              .take ⟨(some 17), .iadr 1, [.t 14, .t 16], none⟩ <|
              .alt ⟨(some 9), .bsl 1, [.c (.v (.int .i64 (2))), .c (.v (.int .i64 (3))), .c (.v (.int .i64 (4))), .c (.v (.int .i64 (4))), .c (.v (.int .i64 (6)))], none⟩ (
                .take ⟨(some 12), .iadr 1, [.t 9, .t 11], none⟩ <|
                .alt ⟨(some 13), .load false 1, [.t 12], none⟩ (
                  .alt ⟨(some 18), .load false 1, [.t 17], none⟩ (
                    .alt ⟨(some 19), .call 42 [], [.t 13, .t 18], none⟩ (
                      .alt ⟨none, .store 3, [.t 4, .t 19], none⟩ (
                        .done) <|
                      .stop) <|
                    .stop) <|
                  .stop) <|
                .alt ⟨(some 18), .load false 1, [.t 17], none⟩ (
                  .alt ⟨(some 13), .load false 1, [.t 12], none⟩ (
                    .alt ⟨(some 19), .call 42 [], [.t 13, .t 18], none⟩ (
                      .alt ⟨none, .store 3, [.t 4, .t 19], none⟩ (
                        .done) <|
                      .stop) <|
                    .stop) <|
                  .stop) <|
                .stop) <|
              .alt ⟨(some 18), .load false 1, [.t 17], none⟩ (
                .alt ⟨(some 9), .bsl 1, [.c (.v (.int .i64 (2))), .c (.v (.int .i64 (3))), .c (.v (.int .i64 (4))), .c (.v (.int .i64 (4))), .c (.v (.int .i64 (6)))], none⟩ (
                  .take ⟨(some 12), .iadr 1, [.t 9, .t 11], none⟩ <|
                  .alt ⟨(some 13), .load false 1, [.t 12], none⟩ (
                    .alt ⟨(some 19), .call 42 [], [.t 13, .t 18], none⟩ (
                      .alt ⟨none, .store 3, [.t 4, .t 19], none⟩ (
                        .done) <|
                      .stop) <|
                    .stop) <|
                  .stop) <|
                .stop) <|
              .stop) <|
            .stop) <|
          .stop) <|
        .stop)) <|
      .ret) (
      .seq (.reg [⟨(some 21), .bin .eql 0, [.t 6, .c (.v (.int .i64 (1)))], none⟩,
        ⟨(some 20), .mv, [.t 21], none⟩]) <|
      .cond (.t 20) (
        .seq (.reg [⟨(some 22), .mv, [.t 0], none⟩,
          ⟨(some 23), .mv, [.t 1], none⟩,
          ⟨(some 24), .call 62 [], [.t 22, .t 23], none⟩,
          ⟨none, .store 3, [.t 4, .t 24], none⟩]) <|
        .ret) (
        .skip)))) <|
  .seq (.reg [⟨(some 25), .mv, [.t 0], none⟩,
    ⟨(some 26), .mv, [.t 1], none⟩,
    ⟨(some 27), .call 63 [], [.t 25, .t 26], none⟩,
    ⟨none, .store 3, [.t 4, .t 27], none⟩]) <|
  .ret

theorem k_spec_l20Some : cFn Try.prog n_spec_l20Some 28 [.c 4 true 3] c_spec_l20Some := ⟨Try.f40, _, Try.func40, rfl, by kernel_rfl, by kernel_rfl, by kernel_rfl, by kernel_rfl⟩

-- 2 parameters, results [.c 4 true 3], 29 slots, modes [true, false]
@[simp] abbrev n_spec_l20Small : Nat := 21
def c_spec_l20Small_T0 : ACode :=
  .seq (.reg [⟨(some 28), .load true 3, [.t 5], none⟩,
    ⟨none, .store 3, [.t 4, .t 28], none⟩]) <|
  .ret

def c_spec_l20Small : ACode :=
  .seq (.reg [⟨(some 4), .alloc [.v (.int .i64 (0)), .v (.int .i64 (0)), .os 1 []], [], none⟩]) <|
  .seq (.reg [⟨(some 6), .mv, [.t 0], none⟩,
    ⟨(some 7), .mv, [.t 1], none⟩,
    ⟨(some 8), .call 40 [], [.t 6, .t 7], none⟩,
    ⟨(some 5), .alloc [.v (.int .i64 (0)), .v (.int .i64 (0)), .os 1 []], [], none⟩,
    ⟨none, .store 3, [.t 5, .t 8], none⟩]) <|
  .seq (.seq (.reg [⟨(some 9), .load true 3, [.t 5], none⟩,
    ⟨(some 10), .call 41 [], [.t 9], none⟩,
    ⟨(some 11), .bin .gtr 0, [.t 10, .c (.v (.int .i64 (16)))], none⟩,
    ⟨(some 12), .mv, [.t 11], none⟩,
    ⟨(some 13), .mv, [.t 0], (some (12, true))⟩,
    ⟨(some 14), .call 23 [], [.t 13, .c (.v (.int .i64 (12)))], (some (12, true))⟩,
    ⟨(some 15), .bin .gtr 0, [.t 14, .c (.v (.int .i64 (0)))], (some (12, true))⟩,
    ⟨(some 16), .pick, [.t 12, .t 15, .c (.v (.bool false))], none⟩]) <|
  .cond (.t 16) (
    .seq (.draw (
      .take ⟨(some 18), .mv, [.t 0], none⟩ <|
      .take ⟨(some 23), .mv, [.t 0], none⟩ <|
      .alt ⟨(some 17), .bsl 1, [.c (.v (.int .i64 (2))), .c (.v (.int .i64 (4))), .c (.v (.int .i64 (4))), .c (.v (.int .i64 (5)))], none⟩ (
        .alt ⟨(some 19), .call 23 [], [.t 18, .c (.v (.int .i64 (4)))], none⟩ (
          .take ⟨(some 20), .iadr 1, [.t 17, .t 19], none⟩ <|
          .alt ⟨(some 21), .load false 1, [.t 20], none⟩ (
            .alt ⟨(some 22), .bsl 1, [.c (.v (.int .i64 (2))), .c (.v (.int .i64 (3)))], none⟩ (
              .alt ⟨(some 24), .call 23 [], [.t 23, .c (.v (.int .i64 (2)))], none⟩ (
                .take ⟨(some 25), .iadr 1, [.t 22, .t 24], none⟩ <|
                .alt ⟨(some 26), .load false 1, [.t 25], none⟩ (
                  .alt ⟨(some 27), .call 42 [], [.t 21, .t 26], none⟩ (
                    .alt ⟨none, .store 3, [.t 4, .t 27], none⟩ (
                      .done) <|
                    .stop) <|
                  .stop) <|
                .stop) <|
              .stop) <|
            .alt ⟨(some 24), .call 23 [], [.t 23, .c (.v (.int .i64 (2)))], none⟩ (
              .alt ⟨(some 22), .bsl 1, [.c (.v (.int .i64 (2))), .c (.v (.int .i64 (3)))], none⟩ (
                .take ⟨(some 25), .iadr 1, [.t 22, .t 24], none⟩ <|
                .alt ⟨(some 26), .load false 1, [.t 25], none⟩ (
                  .alt ⟨(some 27), .call 42 [], [.t 21, .t 26], none⟩ (
                    .alt ⟨none, .store 3, [.t 4, .t 27], none⟩ (
                      .done) <|
                    .stop) <|
                  .stop) <|
                .stop) <|
              .stop) <|
            .stop) <|
          .alt ⟨(some 22), .bsl 1, [.c (.v (.int .i64 (2))), .c (.v (.int .i64 (3)))], none⟩ (
            .alt ⟨(some 21), .load false 1, [.t 20], none⟩ (
              .alt ⟨(some 24), .call 23 [], [.t 23, .c (.v (.int .i64 (2)))], none⟩ (
                .take ⟨(some 25), .iadr 1, [.t 22, .t 24], none⟩ <|
                .alt ⟨(some 26), .load false 1, [.t 25], none⟩ (
                  .alt ⟨(some 27), .call 42 [], [.t 21, .t 26], none⟩ (
                    .alt ⟨none, .store 3, [.t 4, .t 27], none⟩ (
                      .done) <|
                    .stop) <|
                  .stop) <|
                .stop) <|
              .stop) <|
            .alt ⟨(some 24), .call 23 [], [.t 23, .c (.v (.int .i64 (2)))], none⟩ (
              .take ⟨(some 25), .iadr 1, [.t 22, .t 24], none⟩ <|
              .alt ⟨(some 21), .load false 1, [.t 20], none⟩ (
                .alt ⟨(some 26), .load false 1, [.t 25], none⟩ (
                  .alt ⟨(some 27), .call 42 [], [.t 21, .t 26], none⟩ (
                    .alt ⟨none, .store 3, [.t 4, .t 27], none⟩ (
                      .done) <|
                    .stop) <|
                  .stop) <|
                .stop) <|
              .alt ⟨(some 26), .load false 1, [.t 25], none⟩ (
                .alt ⟨(some 21), .load false 1, [.t 20], none⟩ (
                  .alt ⟨(some 27), .call 42 [], [.t 21, .t 26], none⟩ (
                    .alt ⟨none, .store 3, [.t 4, .t 27], none⟩ (
                      .done) <|
                    .stop) <|
                  .stop) <|
                .stop) <|
              .stop) <|
            .stop) <|
          .alt ⟨(some 24), .call 23 [], [.t 23, .c (.v (.int .i64 (2)))], none⟩ (
            .alt ⟨(some 21), .load false 1, [.t 20], none⟩ (
              .alt ⟨(some 22), .bsl 1, [.c (.v (.int .i64 (2))), .c (.v (.int .i64 (3)))], none⟩ (
                .take ⟨(some 25), .iadr 1, [.t 22, .t 24], none⟩ <|
                .alt ⟨(some 26), .load false 1, [.t 25], none⟩ (
                  .alt ⟨(some 27), .call 42 [], [.t 21, .t 26], none⟩ (
                    .alt ⟨none, .store 3, [.t 4, .t 27], none⟩ (
                      .done) <|
                    .stop) <|
                  .stop) <|
                .stop) <|
              .stop) <|
            .alt ⟨(some 22), .bsl 1, [.c (.v (.int .i64 (2))), .c (.v (.int .i64 (3)))], none⟩ (
              .take ⟨(some 25), .iadr 1, [.t 22, .t 24], none⟩ <|
              .alt ⟨(some 21), .load false 1, [.t 20], none⟩ (
                .alt ⟨(some 26), .load false 1, [.t 25], none⟩ (
                  .alt ⟨(some 27), .call 42 [], [.t 21, .t 26], none⟩ (
                    .alt ⟨none, .store 3, [.t 4, .t 27], none⟩ (
                      .done) <|
                    .stop) <|
                  .stop) <|
                .stop) <|
              .alt ⟨(some 26), .load false 1, [.t 25], none⟩ (
                .alt ⟨(some 21), .load false 1, [.t 20], none⟩ (
                  .alt ⟨(some 27), .call 42 [], [.t 21, .t 26], none⟩ (
                    .alt ⟨none, .store 3, [.t 4, .t 27], none⟩ (
                      .done) <|
                    .stop) <|
                  .stop) <|
                .stop) <|
              .stop) <|
            .stop) <|
          .stop) <|
        .alt ⟨(some 22), .bsl 1, [.c (.v (.int .i64 (2))), .c (.v (.int .i64 (3)))], none⟩ (
          .alt ⟨(some 19), .call 23 [], [.t 18, .c (.v (.int .i64 (4)))], none⟩ (
            .take ⟨(some 20), .iadr 1, [.t 17, .t 19], none⟩ <|
            .alt ⟨(some 21), .load false 1, [.t 20], none⟩ (
              .alt ⟨(some 24), .call 23 [], [.t 23, .c (.v (.int .i64 (2)))], none⟩ (
                .take ⟨(some 25), .iadr 1, [.t 22, .t 24], none⟩ <|
                .alt ⟨(some 26), .load false 1, [.t 25], none⟩ (
                  .alt ⟨(some 27), .call 42 [], [.t 21, .t 26], none⟩ (
                    .alt ⟨none, .store 3, [.t 4, .t 27], none⟩ (
                      .done) <|
                    .stop) <|
                  .stop) <|
                .stop) <|
              .stop) <|
            .alt ⟨(some 24), .call 23 [], [.t 23, .c (.v (.int .i64 (2)))], none⟩ (
              .take ⟨(some 25), .iadr 1, [.t 22, .t 24], none⟩ <|
              .alt ⟨(some 21), .load false 1, [.t 20], none⟩ (
                .alt ⟨(some 26), .load false 1, [.t 25], none⟩ (
                  .alt ⟨(some 27), .call 42 [], [.t 21, .t 26], none⟩ (
                    .alt ⟨none, .store 3, [.t 4, .t 27], none⟩ (
                      .done) <|
                    .stop) <|
                  .stop) <|
                .stop) <|
              .alt ⟨(some 26), .load false 1, [.t 25], none⟩ (
                .alt ⟨(some 21), .load false 1, [.t 20], none⟩ (
                  .alt ⟨(some 27), .call 42 [], [.t 21, .t 26], none⟩ (
                    .alt ⟨none, .store 3, [.t 4, .t 27], none⟩ (
                      .done) <|
                    .stop) <|
                  .stop) <|
                .stop) <|
              .stop) <|
            .stop) <|
          .stop) <|
        .stop) <|
      .alt ⟨(some 19), .call 23 [], [.t 18, .c (.v (.int .i64 (4)))], none⟩ (
        .alt ⟨(some 17), .bsl 1, [.c (.v (.int .i64 (2))), .c (.v (.int .i64 (4))), .c (.v (.int .i64 (4))), .c (.v (.int .i64 (5)))], none⟩ (
          .take ⟨(some 20), .iadr 1, [.t 17, .t 19], none⟩ <|
          .alt ⟨(some 21), .load false 1, [.t 20], none⟩ (
            .alt ⟨(some 22), .bsl 1, [.c (.v (.int .i64 (2))), .c (.v (.int .i64 (3)))], none⟩ (
              .alt ⟨(some 24), .call 23 [], [.t 23, .c (.v (.int .i64 (2)))], none⟩ (
                .take ⟨(some 25), .iadr 1, [.t 22, .t 24], none⟩ <|
                .alt ⟨(some 26), .load false 1, [.t 25], none⟩ (
                  .alt ⟨(some 27), .call 42 [], [.t 21, .t 26], none⟩ (
                    .alt ⟨none, .store 3, [.t 4, .t 27], none⟩ (
                      .done) <|
                    .stop) <|
                  .stop) <|
                .stop) <|
              .stop) <|
            .alt ⟨(some 24), .call 23 [], [.t 23, .c (.v (.int .i64 (2)))], none⟩ (
              .alt ⟨(some 22), .bsl 1, [.c (.v (.int .i64 (2))), .c (.v (.int .i64 (3)))], none⟩ (
                .take ⟨(some 25), .iadr 1, [.t 22, .t 24], none⟩ <|
                .alt ⟨(some 26), .load false 1, [.t 25], none⟩ (
                  .alt ⟨(some 27), .call 42 [], [.t 21, .t 26], none⟩ (
                    .alt ⟨none, .store 3, [.t 4, .t 27], none⟩ (
                      .done) <|
                    .stop) <|
                  .stop) <|
                .stop) <|
              .stop) <|
            .stop) <|
          .alt ⟨(some 22), .bsl 1, [.c (.v (.int .i64 (2))), .c (.v (.int .i64 (3)))], none⟩ (
            .alt ⟨(some 21), .load false 1, [.t 20], none⟩ (
              .alt ⟨(some 24), .call 23 [], [.t 23, .c (.v (.int .i64 (2)))], none⟩ (
                .take ⟨(some 25), .iadr 1, [.t 22, .t 24], none⟩ <|
                .alt ⟨(some 26), .load false 1, [.t 25], none⟩ (
                  .alt ⟨(some 27), .call 42 [], [.t 21, .t 26], none⟩ (
                    .alt ⟨none, .store 3, [.t 4, .t 27], none⟩ (
                      .done) <|
                    .stop) <|
                  .stop) <|
                .stop) <|
              .stop) <|
            .alt ⟨(some 24), .call 23 [], [.t 23, .c (.v (.int .i64 (2)))], none⟩ (
              .take ⟨(some 25), .iadr 1, [.t 22, .t 24], none⟩ <|
              .alt ⟨(some 21), .load false 1, [.t 20], none⟩ (
                .alt ⟨(some 26), .load false 1, [.t 25], none⟩ (
                  .alt ⟨(some 27), .call 42 [], [.t 21, .t 26], none⟩ (
                    .alt ⟨none, .store 3, [.t 4, .t 27], none⟩ (
                      .done) <|
                    .stop) <|
                  .stop) <|
                .stop) <|
              .alt ⟨(some 26), .load false 1, [.t 25], none⟩ (
                .alt ⟨(some 21), .load false 1, [.t 20], none⟩ (
                  .alt ⟨(some 27), .call 42 [], [.t 21, .t 26], none⟩ (
                    .alt ⟨none, .store 3, [.t 4, .t 27], none⟩ (
                      .done) <|
                    .stop) <|
                  .stop) <|
                .stop) <|
              .stop) <|
            .stop) <|
          .alt ⟨(some 24), .call 23 [], [.t 23, .c (.v (.int .i64 (2)))], none⟩ (
            .alt ⟨(some 21), .load false 1, [.t 20], none⟩ (
              .alt ⟨(some 22), .bsl 1, [.c (.v (.int .i64 (2))), .c (.v (.int .i64 (3)))], none⟩ (
                .take ⟨(some 25), .iadr 1, [.t 22, .t 24], none⟩ <|
                .alt ⟨(some 26), .load false 1, [.t 25], none⟩ (
                  .alt ⟨(some 27), .call 42 [], [.t 21, .t 26], none⟩ (
                    .alt ⟨none, .store 3, [.t 4, .t 27], none⟩ (
                      .done) <|
                    .stop) <|
                  .stop) <|
                .stop) <|
              .stop) <|
            .alt ⟨(some 22), .bsl 1, [.c (.v (.int .i64 (2))), .c (.v (.int .i64 (3)))], none⟩ (
              .take ⟨(some 25), .iadr 1, [.t 22, .t 24], none⟩ <|
              .alt ⟨(some 21), .load false 1, [.t 20], none⟩ (
                .alt ⟨(some 26), .load false 1, [.t 25], none⟩ (
                  .alt ⟨(some 27), .call 42 [], [.t 21, .t 26], none⟩ (
                    .alt ⟨none, .store 3, [.t 4, .t 27], none⟩ (
                      .done) <|
                    .stop) <|
                  .stop) <|
                .stop) <|
              .alt ⟨(some 26), .load false 1, [.t 25], none⟩ (
                .alt ⟨(some 21), .load false 1, [.t 20], none⟩ (
                  .alt ⟨(some 27), .call 42 [], [.t 21, .t 26], none⟩ (
                    .alt ⟨none, .store 3, [.t 4, .t 27], none⟩ (
                      .done) <|
                    .stop) <|
                  .stop) <|
                .stop) <|
              .stop) <|
            .stop) <|
          .stop) <|
        .alt ⟨(some 22), .bsl 1, [.c (.v (.int .i64 (2))), .c (.v (.int .i64 (3)))], none⟩ (
          .alt ⟨(some 17), .bsl 1, [.c (.v (.int .i64 (2))), .c (.v (.int .i64 (4))), .c (.v (.int .i64 (4))), .c (.v (.int .i64 (5)))], none⟩ (
            .take ⟨(some 20), .iadr 1, [.t 17, .t 19], none⟩ <|
            .alt ⟨(some 21), .load false 1, [.t 20], none⟩ (
              .alt ⟨(some 24), .call 23 [], [.t 23, .c (.v (.int .i64 (2)))], none⟩ (
                .take ⟨(some 25), .iadr 1, [.t 22, .t 24], none⟩ <|
                .alt ⟨(some 26), .load false 1, [.t 25], none⟩ (
                  .alt ⟨(some 27), .call 42 [], [.t 21, .t 26], none⟩ (
                    .alt ⟨none, .store 3, [.t 4, .t 27], none⟩ (
                      .done) <|
                    .stop) <|
                  .stop) <|
                .stop) <|
              .stop) <|
            .alt ⟨(some 24), .call 23 [], [.t 23, .c (.v (.int .i64 (2)))], none⟩ (
              .take ⟨(some 25), .iadr 1, [.t 22, .t 24], none⟩ <|
              .alt ⟨(some 21), .load false 1, [.t 20], none⟩ (
                .alt ⟨(some 26), .load false 1, [.t 25], none⟩ (
                  .alt ⟨(some 27), .call 42 [], [.t 21, .t 26], none⟩ (
                    .alt ⟨none, .store 3, [.t 4, .t 27], none⟩ (
                      .done) <|
                    .stop) <|
                  .stop) <|
                .stop) <|
              .alt ⟨(some 26), .load false 1, [.t 25], none⟩ (
                .alt ⟨(some 21), .load false 1, [.t 20], none⟩ (
                  .alt ⟨(some 27), .call 42 [], [.t 21, .t 26], none⟩ (
                    .alt ⟨none, .store 3, [.t 4, .t 27], none⟩ (
                      .done) <|
                    .stop) <|
                  .stop) <|
                .stop) <|
              .stop) <|
            .stop) <|
          .alt ⟨(some 24), .call 23 [], [.t 23, .c (.v (.int .i64 (2)))], none⟩ (
            .take ⟨(some 25), .iadr 1, [.t 22, .t 24], none⟩ <|
            .alt ⟨(some 17), .bsl 1, [.c (.v (.int .i64 (2))), .c (.v (.int .i64 (4))), .c (.v (.int .i64 (4))), .c (.v (.int .i64 (5)))], none⟩ (
              .take ⟨(some 20), .iadr 1, [.t 17, .t 19], none⟩ <|
              .alt ⟨(some 21), .load false 1, [.t 20], none⟩ (
                .alt ⟨(some 26), .load false 1, [.t 25], none⟩ (
                  .alt ⟨(some 27), .call 42 [], [.t 21, .t 26], none⟩ (
                    .alt ⟨none, .store 3, [.t 4, .t 27], none⟩ (
                      .done) <|
                    .stop) <|
                  .stop) <|
                .stop) <|
              .alt ⟨(some 26), .load false 1, [.t 25], none⟩ (
                .alt ⟨(some 21), .load false 1, [.t 20], none⟩ (
                  .alt ⟨(some 27), .call 42 [], [.t 21, .t 26], none⟩ (
                    .alt ⟨none, .store 3, [.t 4, .t 27], none⟩ (
                      .done) <|
                    .stop) <|
                  .stop) <|
                .stop) <|
              .stop) <|
            .alt ⟨(some 26), .load false 1, [.t 25], none⟩ (
              .alt ⟨(some 17), .bsl 1, [.c (.v (.int .i64 (2))), .c (.v (.int .i64 (4))), .c (.v (.int .i64 (4))), .c (.v (.int .i64 (5)))], none⟩ (
                .take ⟨(some 20), .iadr 1, [.t 17, .t 19], none⟩ <|
                .alt ⟨(some 21), .load false 1, [.t 20], none⟩ (
                  .alt ⟨(some 27), .call 42 [], [.t 21, .t 26], none⟩ (
                    .alt ⟨none, .store 3, [.t 4, .t 27], none⟩ (
                      .done) <|
                    .stop) <|
                  .stop) <|
                .stop) <|
              .stop) <|
            .stop) <|
          .stop) <|
        .alt ⟨(some 24), .call 23 [], [.t 23, .c (.v (.int .i64 (2)))], none⟩ (
          .alt ⟨(some 17), .bsl 1, [.c (.v (.int .i64 (2))), .c (.v (.int .i64 (4))), .c (.v (.int .i64 (4))), .c (.v (.int .i64 (5)))], none⟩ (
            .take ⟨(some 20), .iadr 1, [.t 17, .t 19], none⟩ <|
            .alt ⟨(some 21), .load false 1, [.t 20], none⟩ (
              .alt ⟨(some 22), .bsl 1, [.c (.v (.int .i64 (2))), .c (.v (.int .i64 (3)))], none⟩ (
                .take ⟨(some 25), .iadr 1, [.t 22, .t 24], none⟩ <|
                .alt ⟨(some 26), .load false 1, [.t 25], none⟩ (
                  .alt ⟨(some 27), .call 42 [], [.t 21, .t 26], none⟩ (
                    .alt ⟨none, .store 3, [.t 4, .t 27], none⟩ (
                      .done) <|
                    .stop) <|
                  .stop) <|
                .stop) <|
              .stop) <|
            .alt ⟨(some 22), .bsl 1, [.c (.v (.int .i64 (2))), .c (.v (.int .i64 (3)))], none⟩ (
              .take ⟨(some 25), .iadr 1, [.t 22, .t 24], none⟩ <|
              .alt ⟨(some 21), .load false 1, [.t 20], none⟩ (
                .alt ⟨(some 26), .load false 1, [.t 25], none⟩ (
                  .alt ⟨(some 27), .call 42 [], [.t 21, .t 26], none⟩ (
                    .alt ⟨none, .store 3, [.t 4, .t 27], none⟩ (
                      .done) <|
                    .stop) <|
                  .stop) <|
                .stop) <|
              .alt ⟨(some 26), .load false 1, [.t 25], none⟩ (
                .alt ⟨(some 21), .load false 1, [.t 20], none⟩ (
                  .alt ⟨(some 27), .call 42 [], [.t 21, .t 26], none⟩ (
                    .alt ⟨none, .store 3, [.t 4, .t 27], none⟩ (
                      .done) <|
                    .stop) <|
                  .stop) <|
                .stop) <|
              .stop) <|
            .stop) <|
          .alt ⟨(some 22), .bsl 1, [.c (.v (.int .i64 (2))), .c (.v (.int .i64 (3)))], none⟩ (
            .take ⟨(some 25), .iadr 1, [.t 22, .t 24], none⟩ <|
            .alt ⟨(some 17), .bsl 1, [.c (.v (.int .i64 (2))), .c (.v (.int .i64 (4))), .c (.v (.int .i64 (4))), .c (.v (.int .i64 (5)))], none⟩ (
              .take ⟨(some 20), .iadr 1, [.t 17, .t 19], none⟩ <|
              .alt ⟨(some 21), .load false 1, [.t 20], none⟩ (
                .alt ⟨(some 26), .load false 1, [.t 25], none⟩ (
                  .alt ⟨(some 27), .call 42 [], [.t 21, .t 26], none⟩ (
                    .alt ⟨none, .store 3, [.t 4, .t 27], none⟩ (
                      .done) <|
                    .stop) <|
                  .stop) <|
                .stop) <|
              .alt ⟨(some 26), .load false 1, [.t 25], none⟩ (
                .alt ⟨(some 21), .load false 1, [.t 20], none⟩ (
                  .alt ⟨(some 27), .call 42 [], [.t 21, .t 26], none⟩ (
                    .alt ⟨none, .store 3, [.t 4, .t 27], none⟩ (
                      .done) <|
                    .stop) <|
                  .stop) <|
                .stop) <|
              .stop) <|
            .alt ⟨(some 26), .load false 1, [.t 25], none⟩ (
              .alt ⟨(some 17), .bsl 1, [.c (.v (.int .i64 (2))), .c (.v (.int .i64 (4))), .c (.v (.int .i64 (4))), .c (.v (.int .i64 (5)))], none⟩ (
                .take ⟨(some 20), .iadr 1, [.t 17, .t 19], none⟩ <|
                .alt ⟨(some 21), .load false 1, [.t 20], none⟩ (
                  .alt ⟨(some 27), .call 42 [], [.t 21, .t 26], none⟩ (
                    .alt ⟨none, .store 3, [.t 4, .t 27], none⟩ (
                      .done) <|
                    .stop) <|
                  .stop) <|
                .stop) <|
              .stop) <|
            .stop) <|
          .stop) <|
        .stop) <|
      .alt ⟨(some 22), .bsl 1, [.c (.v (.int .i64 (2))), .c (.v (.int .i64 (3)))], none⟩ (
        .alt ⟨(some 17), .bsl 1, [.c (.v (.int .i64 (2))), .c (.v (.int .i64 (4))), .c (.v (.int .i64 (4))), .c (.v (.int .i64 (5)))], none⟩ (
          .alt ⟨(some 19), .call 23 [], [.t 18, .c (.v (.int .i64 (4)))], none⟩ (
            .take ⟨(some 20), .iadr 1, [.t 17, .t 19], none⟩ <|
            .alt ⟨(some 21), .load false 1, [.t 20], none⟩ (
              .alt ⟨(some 24), .call 23 [], [.t 23, .c (.v (.int .i64 (2)))], none⟩ (
                .take ⟨(some 25), .iadr 1, [.t 22, .t 24], none⟩ <|
                .alt ⟨(some 26), .load false 1, [.t 25], none⟩ (
                  .alt ⟨(some 27), .call 42 [], [.t 21, .t 26], none⟩ (
                    .alt ⟨none, .store 3, [.t 4, .t 27], none⟩ (
                      .done) <|
                    .stop) <|
                  .stop) <|
                .stop) <|
              .stop) <|
            .alt ⟨(some 24), .call 23 [], [.t 23, .c (.v (.int .i64 (2)))], none⟩ (
              .take ⟨(some 25), .iadr 1, [.t 22, .t 24], none⟩ <|
              .alt ⟨(some 21), .load false 1, [.t 20], none⟩ (
                .alt ⟨(some 26), .load false 1, [.t 25], none⟩ (
                  .alt ⟨(some 27), .call 42 [], [.t 21, .t 26], none⟩ (
                    .alt ⟨none, .store 3, [.t 4, .t 27], none⟩ (
                      .done) <|
                    .stop) <|
                  .stop) <|
                .stop) <|
              .alt ⟨(some 26), .load false 1, [.t 25], none⟩ (
                .alt ⟨(some 21), .load false 1, [.t 20], none⟩ (
                  .alt ⟨(some 27), .call 42 [], [.t 21, .t 26], none⟩ (
                    .alt ⟨none, .store 3, [.t 4, .t 27], none⟩ (
                      .done) <|
                    .stop) <|
                  .stop) <|
                .stop) <|
              .stop) <|
            .stop) <|
          .stop) <|
        .alt ⟨(some 19), .call 23 [], [.t 18, .c (.v (.int .i64 (4)))], none⟩ (
          .alt ⟨(some 17), .bsl 1, [.c (.v (.int .i64 (2))), .c (.v (.int .i64 (4))), .c (.v (.int .i64 (4))), .c (.v (.int .i64 (5)))], none⟩ (
            .take ⟨(some 20), .iadr 1, [.t 17, .t 19], none⟩ <|
            .alt ⟨(some 21), .load false 1, [.t 20], none⟩ (
              .alt ⟨(some 24), .call 23 [], [.t 23, .c (.v (.int .i64 (2)))], none⟩ (
                .take ⟨(some 25), .iadr 1, [.t 22, .t 24], none⟩ <|
                .alt ⟨(some 26), .load false 1, [.t 25], none⟩ (
                  .alt ⟨(some 27), .call 42 [], [.t 21, .t 26], none⟩ (
                    .alt ⟨none, .store 3, [.t 4, .t 27], none⟩ (
                      .done) <|
                    .stop) <|
                  .stop) <|
                .stop) <|
              .stop) <|
            .alt ⟨(some 24), .call 23 [], [.t 23, .c (.v (.int .i64 (2)))], none⟩ (
              .take ⟨(some 25), .iadr 1, [.t 22, .t 24], none⟩ <|
              .alt ⟨(some 21), .load false 1, [.t 20], none⟩ (
                .alt ⟨(some 26), .load false 1, [.t 25], none⟩ (
                  .alt ⟨(some 27), .call 42 [], [.t 21, .t 26], none⟩ (
                    .alt ⟨none, .store 3, [.t 4, .t 27], none⟩ (
                      .done) <|
                    .stop) <|
                  .stop) <|
                .stop) <|
              .alt ⟨(some 26), .load false 1, [.t 25], none⟩ (
                .alt ⟨(some 21), .load false 1, [.t 20], none⟩ (
                  .alt ⟨(some 27), .call 42 [], [.t 21, .t 26], none⟩ (
                    .alt ⟨none, .store 3, [.t 4, .t 27], none⟩ (
                      .done) <|
                    .stop) <|
                  .stop) <|
                .stop) <|
              .stop) <|
            .stop) <|
          .alt ⟨(some 24), .call 23 [], [.t 23, .c (.v (.int .i64 (2)))], none⟩ (
            .take ⟨(some 25), .iadr 1, [.t 22, .t 24], none⟩ <|
            .alt ⟨(some 17), .bsl 1, [.c (.v (.int .i64 (2))), .c (.v (.int .i64 (4))), .c (.v (.int .i64 (4))), .c (.v (.int .i64 (5)))], none⟩ (
              .take ⟨(some 20), .iadr 1, [.t 17, .t 19], none⟩ <|
              .alt ⟨(some 21), .load false 1, [.t 20], none⟩ (
                .alt ⟨(some 26), .load false 1, [.t 25], none⟩ (
                  .alt ⟨(some 27), .call 42 [], [.t 21, .t 26], none⟩ (
                    .alt ⟨none, .store 3, [.t 4, .t 27], none⟩ (
                      .done) <|
                    .stop) <|
                  .stop) <|
                .stop) <|
              .alt ⟨(some 26), .load false 1, [.t 25], none⟩ (
                .alt ⟨(some 21), .load false 1, [.t 20], none⟩ (
                  .alt ⟨(some 27), .call 42 [], [.t 21, .t 26], none⟩ (
                    .alt ⟨none, .store 3, [.t 4, .t 27], none⟩ (
                      .done) <|
                    .stop) <|
                  .stop) <|
                .stop) <|
              .stop) <|
            .alt ⟨(some 26), .load false 1, [.t 25], none⟩ (
              .alt ⟨(some 17), .bsl 1, [.c (.v (.int .i64 (2))), .c (.v (.int .i64 (4))), .c (.v (.int .i64 (4))), .c (.v (.int .i64 (5)))], none⟩ (
                .take ⟨(some 20), .iadr 1, [.t 17, .t 19], none⟩ <|
                .alt ⟨(some 21), .load false 1, [.t 20], none⟩ (
                  .alt ⟨(some 27), .call 42 [], [.t 21, .t 26], none⟩ (
                    .alt ⟨none, .store 3, [.t 4, .t 27], none⟩ (
                      .done) <|
                    .stop) <|
                  .stop) <|
                .stop) <|
              .stop) <|
            .stop) <|
          .stop) <|
        .stop) <|
      .stop)) <|
    .ret) (
    .skip)) <|
  .gc [] [4, 5, 29] c_spec_l20Small_T0

theorem k_spec_l20Small : cFn Try.prog n_spec_l20Small 29 [.c 4 true 3] c_spec_l20Small := ⟨Try.f21, _, Try.func21, rfl, by kernel_rfl, by kernel_rfl, by kernel_rfl, by kernel_rfl⟩

-- 2 parameters, results [.c 4 true 3, .t 5], 87 slots, modes [true, false]
@[simp] abbrev n_spec_l20Puzzle : Nat := 11
def c_spec_l20Puzzle_L0 : ACode :=
  .seq (.seq (.reg [⟨(some 43), .mv, [.t 11], none⟩,
    ⟨(some 44), .fadr 2, [.t 6], none⟩,
    ⟨(some 45), .load false 1, [.t 44], none⟩,
    ⟨(some 46), .len false, [.t 45], none⟩,
    ⟨(some 47), .bin .lss 0, [.t 43, .t 46], none⟩]) <|
  .cond (.t 47) (
    .skip) (
    .exit 0)) <|
  .seq (.block 1 (
    .seq (.reg [⟨(some 50), .fadr 2, [.t 6], none⟩,
      ⟨(some 51), .load false 1, [.t 50], none⟩,
      ⟨(some 52), .mv, [.t 11], none⟩,
      ⟨(some 53), .iadr 1, [.t 51, .t 52], none⟩,
      ⟨(some 54), .load false 1, [.t 53], none⟩]) <|
    .cond (.t 54) (
      .reg [⟨(some 55), .mv, [.t 9], none⟩,
        ⟨(some 56), .mv, [.t 0], none⟩,
        ⟨(some 57), .mv, [.t 10], none⟩,
        ⟨(some 58), .mnx true, [.t 57, .c (.v (.int .i64 (7)))], none⟩,
        ⟨(some 59), .call 23 [], [.t 56, .t 58], none⟩,
        ⟨(some 60), .bsl 1, [.t 59], none⟩,
        ⟨(some 61), .app 1 8 true, [.t 55, .t 60], none⟩,
        ⟨(some 9), .mv, [.t 61], none⟩]) (
      .reg [⟨(some 62), .mv, [.t 9], none⟩,
        ⟨(some 63), .bsl 1, [.c (.v (.int .i64 (-1)))], none⟩,
        ⟨(some 64), .app 1 8 true, [.t 62, .t 63], none⟩,
        ⟨(some 9), .mv, [.t 64], none⟩]))) <|
  .reg [⟨(some 48), .mv, [.t 11], none⟩,
    ⟨(some 49), .bin .add 0, [.t 48, .c (.v (.int .i64 (1)))], none⟩,
    ⟨(some 11), .mv, [.t 49], none⟩]

def c_spec_l20Puzzle_T1 : ACode :=
  .seq (.seq (.reg [⟨(some 32), .mv, [.t 8], none⟩,
    ⟨(some 33), .un .not, [.t 32], none⟩,
    ⟨(some 34), .mv, [.t 33], none⟩,
    ⟨(some 35), .mv, [.t 0], (some (34, false))⟩,
    ⟨(some 36), .call 23 [], [.t 35, .c (.v (.int .i64 (3)))], (some (34, false))⟩,
    ⟨(some 37), .bin .eql 0, [.t 36, .c (.v (.int .i64 (0)))], (some (34, false))⟩,
    ⟨(some 38), .pick, [.t 34, .c (.v (.bool true)), .t 37], none⟩]) <|
  .cond (.t 38) (
    .seq (.reg [⟨(some 39), .bsl 1, [], none⟩,
      ⟨(some 9), .mv, [.t 39], none⟩]) <|
    .seq (.reg [⟨(some 40), .mv, [.t 0], none⟩,
      ⟨(some 41), .call 23 [], [.t 40, .c (.v (.int .i64 (6)))], none⟩,
      ⟨(some 42), .bin .add 0, [.c (.v (.int .i64 (2))), .t 41], none⟩,
      ⟨(some 10), .mv, [.t 42], none⟩]) <|
    .seq (.reg [⟨(some 11), .mv, [.c (.v (.int .i64 (0)))], none⟩]) <|
    .block 0 (
      .loop [(9, 1)] [0, 1, 4, 6, 9, 10, 11, 87] c_spec_l20Puzzle_L0)) (
    .skip)) <|
  .seq (.seq (.reg [⟨(some 65), .mv, [.t 0], none⟩,
    ⟨(some 66), .mv, [.t 1], none⟩,
    ⟨(some 67), .bin .mul 0, [.c (.v (.int .i64 (2))), .t 66], none⟩,
    ⟨(some 68), .call 26 [], [.t 65, .t 67], none⟩,
    ⟨(some 69), .mv, [.t 68], none⟩,
    ⟨(some 70), .mv, [.t 9], (some (69, true))⟩,
    ⟨(some 71), .len false, [.t 70], (some (69, true))⟩,
    ⟨(some 72), .bin .gtr 0, [.t 71, .c (.v (.int .i64 (0)))], (some (69, true))⟩,
    ⟨(some 73), .pick, [.t 69, .t 72, .c (.v (.bool false))], none⟩]) <|
  .cond (.t 73) (
    .reg [⟨(some 74), .mv, [.t 9], none⟩,
      ⟨(some 75), .mv, [.t 0], none⟩,
      ⟨(some 76), .mv, [.t 9], none⟩,
      ⟨(some 77), .len false, [.t 76], none⟩,
      ⟨(some 78), .call 23 [], [.t 75, .t 77], none⟩,
      ⟨(some 79), .bsl 1, [.c (.v (.int .i64 (-1))), .c (.v (.int .i64 (7))), .c (.v (.int .i64 (0)))], none⟩,
      ⟨(some 80), .mv, [.t 0], none⟩,
      ⟨(some 81), .call 23 [], [.t 80, .c (.v (.int .i64 (3)))], none⟩,
      ⟨(some 82), .iadr 1, [.t 79, .t 81], none⟩,
      ⟨(some 83), .load false 1, [.t 82], none⟩,
      ⟨(some 84), .iadr 1, [.t 74, .t 78], none⟩,
      ⟨none, .store 1, [.t 84, .t 83], none⟩]) (
    .skip)) <|
  .seq (.reg [⟨(some 85), .load true 3, [.t 6], none⟩,
    ⟨(some 86), .mv, [.t 9], none⟩,
    ⟨none, .store 3, [.t 4, .t 85], none⟩,
    ⟨(some 5), .mv, [.t 86], none⟩]) <|
  .ret

def c_spec_l20Puzzle_T2 : ACode :=
  .seq (.draw (
    .take ⟨(some 28), .mv, [.t 7], none⟩ <|
    .take ⟨(some 29), .mv, [.t 0], none⟩ <|
    .alt ⟨(some 27), .load true 3, [.t 6], none⟩ (
      .alt ⟨(some 30), .call 23 [], [.t 29, .c (.v (.int .i64 (28)))], none⟩ (
        .alt ⟨(some 31), .call 25 [], [.t 27, .t 28, .t 30], none⟩ (
          .take ⟨(some 9), .mv, [.t 31], none⟩ <|
          .done) <|
        .stop) <|
      .stop) <|
    .alt ⟨(some 30), .call 23 [], [.t 29, .c (.v (.int .i64 (28)))], none⟩ (
      .alt ⟨(some 27), .load true 3, [.t 6], none⟩ (
        .alt ⟨(some 31), .call 25 [], [.t 27, .t 28, .t 30], none⟩ (
          .take ⟨(some 9), .mv, [.t 31], none⟩ <|
          .done) <|
        .stop) <|
      .stop) <|
    .stop)) <|
  .gc [] [0, 1, 4, 6, 8, 9, 87] c_spec_l20Puzzle_T1

def c_spec_l20Puzzle : ACode :=
  .seq (.reg [⟨(some 4), .alloc [.v (.int .i64 (0)), .v (.int .i64 (0)), .os 1 []], [], none⟩,
    ⟨(some 5), .mv, [.c (.os 1 [])], none⟩]) <|
  .seq (.reg [⟨(some 12), .mv, [.t 0], none⟩,
    ⟨(some 13), .mv, [.t 1], none⟩,
    ⟨(some 14), .bin .mul 0, [.c (.v (.int .i64 (2))), .t 13], none⟩,
    ⟨(some 15), .call 21 [], [.t 12, .t 14], none⟩,
    ⟨(some 6), .alloc [.v (.int .i64 (0)), .v (.int .i64 (0)), .os 1 []], [], none⟩,
    ⟨none, .store 3, [.t 6, .t 15], none⟩]) <|
  .seq (.draw (
    .take ⟨(some 18), .mv, [.t 0], none⟩ <|
    .alt ⟨(some 17), .load true 3, [.t 6], none⟩ (
      .alt ⟨(some 19), .call 23 [], [.t 18, .c (.v (.int .i64 (256)))], none⟩ (
        .alt ⟨(some 20), .load true 3, [.t 6], none⟩ (
          .alt ⟨(some 21), .call 24 [], [.t 20], none⟩ (
            .take ⟨(some 22), .mnx false, [.t 21, .c (.v (.int .i64 (1)))], none⟩ <|
            .take ⟨(some 23), .bin .rem 0, [.t 19, .t 22], none⟩ <|
            .alt ⟨(some 24), .call 22 [], [.t 17, .t 23], none⟩ (
              .take ⟨(some 16), .mv, [.t 24], none⟩ <|
              .take ⟨(some 25), .extr 0, [.t 16], none⟩ <|
              .take ⟨(some 26), .extr 1, [.t 16], none⟩ <|
              .take ⟨(some 7), .mv, [.t 25], none⟩ <|
              .take ⟨(some 8), .mv, [.t 26], none⟩ <|
              .done) <|
            .stop) <|
          .stop) <|
        .stop) <|
      .alt ⟨(some 20), .load true 3, [.t 6], none⟩ (
        .alt ⟨(some 19), .call 23 [], [.t 18, .c (.v (.int .i64 (256)))], none⟩ (
          .alt ⟨(some 21), .call 24 [], [.t 20], none⟩ (
            .take ⟨(some 22), .mnx false, [.t 21, .c (.v (.int .i64 (1)))], none⟩ <|
            .take ⟨(some 23), .bin .rem 0, [.t 19, .t 22], none⟩ <|
            .alt ⟨(some 24), .call 22 [], [.t 17, .t 23], none⟩ (
              .take ⟨(some 16), .mv, [.t 24], none⟩ <|
              .take ⟨(some 25), .extr 0, [.t 16], none⟩ <|
              .take ⟨(some 26), .extr 1, [.t 16], none⟩ <|
              .take ⟨(some 7), .mv, [.t 25], none⟩ <|
              .take ⟨(some 8), .mv, [.t 26], none⟩ <|
              .done) <|
            .stop) <|
          .stop) <|
        .stop) <|
      .stop) <|
    .alt ⟨(some 19), .call 23 [], [.t 18, .c (.v (.int .i64 (256)))], none⟩ (
      .alt ⟨(some 17), .load true 3, [.t 6], none⟩ (
        .alt ⟨(some 20), .load true 3, [.t 6], none⟩ (
          .alt ⟨(some 21), .call 24 [], [.t 20], none⟩ (
            .take ⟨(some 22), .mnx false, [.t 21, .c (.v (.int .i64 (1)))], none⟩ <|
            .take ⟨(some 23), .bin .rem 0, [.t 19, .t 22], none⟩ <|
            .alt ⟨(some 24), .call 22 [], [.t 17, .t 23], none⟩ (
              .take ⟨(some 16), .mv, [.t 24], none⟩ <|
              .take ⟨(some 25), .extr 0, [.t 16], none⟩ <|
              .take ⟨(some 26), .extr 1, [.t 16], none⟩ <|
              .take ⟨(some 7), .mv, [.t 25], none⟩ <|
              .take ⟨(some 8), .mv, [.t 26], none⟩ <|
              .done) <|
            .stop) <|
          .stop) <|
        .stop) <|
      .alt ⟨(some 20), .load true 3, [.t 6], none⟩ (
        .alt ⟨(some 17), .load true 3, [.t 6], none⟩ (
          .alt ⟨(some 21), .call 24 [], [.t 20], none⟩ (
            .take ⟨(some 22), .mnx false, [.t 21, .c (.v (.int .i64 (1)))], none⟩ <|
            .take ⟨(some 23), .bin .rem 0, [.t 19, .t 22], none⟩ <|
            .alt ⟨(some 24), .call 22 [], [.t 17, .t 23], none⟩ (
              .take ⟨(some 16), .mv, [.t 24], none⟩ <|
              .take ⟨(some 25), .extr 0, [.t 16], none⟩ <|
              .take ⟨(some 26), .extr 1, [.t 16], none⟩ <|
              .take ⟨(some 7), .mv, [.t 25], none⟩ <|
              .take ⟨(some 8), .mv, [.t 26], none⟩ <|
              .done) <|
            .stop) <|
          .stop) <|
        .alt ⟨(some 21), .call 24 [], [.t 20], none⟩ (
          .take ⟨(some 22), .mnx false, [.t 21, .c (.v (.int .i64 (1)))], none⟩ <|
          .take ⟨(some 23), .bin .rem 0, [.t 19, .t 22], none⟩ <|
          .alt ⟨(some 17), .load true 3, [.t 6], none⟩ (
            .alt ⟨(some 24), .call 22 [], [.t 17, .t 23], none⟩ (
              .take ⟨(some 16), .mv, [.t 24], none⟩ <|
              .take ⟨(some 25), .extr 0, [.t 16], none⟩ <|
              .take ⟨(some 26), .extr 1, [.t 16], none⟩ <|
              .take ⟨(some 7), .mv, [.t 25], none⟩ <|
              .take ⟨(some 8), .mv, [.t 26], none⟩ <|
              .done) <|
            .stop) <|
          .stop) <|
        .stop) <|
      .stop) <|
    .alt ⟨(some 20), .load true 3, [.t 6], none⟩ (
      .alt ⟨(some 17), .load true 3, [.t 6], none⟩ (
        .alt ⟨(some 19), .call 23 [], [.t 18, .c (.v (.int .i64 (256)))], none⟩ (
          .alt ⟨(some 21), .call 24 [], [.t 20], none⟩ (
            .take ⟨(some 22), .mnx false, [.t 21, .c (.v (.int .i64 (1)))], none⟩ <|
            .take ⟨(some 23), .bin .rem 0, [.t 19, .t 22], none⟩ <|
            .alt ⟨(some 24), .call 22 [], [.t 17, .t 23], none⟩ (
              .take ⟨(some 16), .mv, [.t 24], none⟩ <|
              .take ⟨(some 25), .extr 0, [.t 16], none⟩ <|
              .take ⟨(some 26), .extr 1, [.t 16], none⟩ <|
              .take ⟨(some 7), .mv, [.t 25], none⟩ <|
              .take ⟨(some 8), .mv, [.t 26], none⟩ <|
              .done) <|
            .stop) <|
          .stop) <|
        .stop) <|
      .alt ⟨(some 19), .call 23 [], [.t 18, .c (.v (.int .i64 (256)))], none⟩ (
        .alt ⟨(some 17), .load true 3, [.t 6], none⟩ (
          .alt ⟨(some 21), .call 24 [], [.t 20], none⟩ (
            .take ⟨(some 22), .mnx false, [.t 21, .c (.v (.int .i64 (1)))], none⟩ <|
            .take ⟨(some 23), .bin .rem 0, [.t 19, .t 22], none⟩ <|
            .alt ⟨(some 24), .call 22 [], [.t 17, .t 23], none⟩ (
              .take ⟨(some 16), .mv, [.t 24], none⟩ <|
              .take ⟨(some 25), .extr 0, [.t 16], none⟩ <|
              .take ⟨(some 26), .extr 1, [.t 16], none⟩ <|
              .take ⟨(some 7), .mv, [.t 25], none⟩ <|
              .take ⟨(some 8), .mv, [.t 26], none⟩ <|
              .done) <|
            .stop) <|
          .stop) <|
        .alt ⟨(some 21), .call 24 [], [.t 20], none⟩ (
          .take ⟨(some 22), .mnx false, [.t 21, .c (.v (.int .i64 (1)))], none⟩ <|
          .take ⟨(some 23), .bin .rem 0, [.t 19, .t 22], none⟩ <|
          .alt ⟨(some 17), .load true 3, [.t 6], none⟩ (
            .alt ⟨(some 24), .call 22 [], [.t 17, .t 23], none⟩ (
              .take ⟨(some 16), .mv, [.t 24], none⟩ <|
              .take ⟨(some 25), .extr 0, [.t 16], none⟩ <|
              .take ⟨(some 26), .extr 1, [.t 16], none⟩ <|
              .take ⟨(some 7), .mv, [.t 25], none⟩ <|
              .take ⟨(some 8), .mv, [.t 26], none⟩ <|
              .done) <|
            .stop) <|
          .stop) <|
        .stop) <|
      .stop) <|
    .stop)) <|
  .gc [] [0, 1, 4, 6, 7, 8, 87] c_spec_l20Puzzle_T2

theorem k_spec_l20Puzzle : cFn Try.prog n_spec_l20Puzzle 87 [.c 4 true 3, .t 5] c_spec_l20Puzzle := ⟨Try.f11, _, Try.func11, rfl, by kernel_rfl, by kernel_rfl, by kernel_rfl, by kernel_rfl⟩

-- 1 parameters, results [.c 2 true 3, .t 3], 9 slots, modes [false]
@[simp] abbrev n_spec_DrawSolutionsMany : Nat := 4

def c_spec_DrawSolutionsMany : ACode :=
  .seq (.reg [⟨(some 2), .alloc [.v (.int .i64 (0)), .v (.int .i64 (0)), .os 1 []], [], none⟩,
    ⟨(some 3), .mv, [.c (.os 1 [])], none⟩]) <|
  .seq (.reg [⟨(some 4), .mv, [.t 0], none⟩,
    ⟨(some 5), .call 12 [], [.t 4], none⟩,
    ⟨(some 6), .call 11 [], [.t 5, .c (.v (.int .i64 (9)))], none⟩,
    ⟨(some 7), .extr 0, [.t 6], none⟩,
    ⟨(some 8), .extr 1, [.t 6], none⟩,
    ⟨none, .store 3, [.t 2, .t 7], none⟩,
    ⟨(some 3), .mv, [.t 8], none⟩]) <|
  .ret

theorem k_spec_DrawSolutionsMany : cFn Try.prog n_spec_DrawSolutionsMany 9 [.c 2 true 3, .t 3] c_spec_DrawSolutionsMany := ⟨Try.f4, _, Try.func4, rfl, by kernel_rfl, by kernel_rfl, by kernel_rfl, by kernel_rfl⟩

end Go.Proofs.Dev
