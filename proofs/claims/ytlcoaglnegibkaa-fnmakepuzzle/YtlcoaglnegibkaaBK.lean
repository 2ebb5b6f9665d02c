/- Contracts of the functions of the program over slots and rows, each proved against the program itself; no condition beyond those that each theorem names. -/
import Derived.Test.YtlcoaglnegibkaaBE
import Derived.Test.YtlcoaglnegibkaaProg

set_option linter.unusedSimpArgs false
set_option linter.unusedVariables false

namespace Go.Proofs.Dev

-- 1 parameters, results [.t 2], 53 slots, modes [false]
@[simp] abbrev n_laws_FnPuzzleValid : Nat := 3
def c_laws_FnPuzzleValid_L0 : ACode :=
  .seq (.seq (.reg [⟨(some 28), .mv, [.t 7], none⟩,
    ⟨(some 29), .mv, [.t 4], none⟩,
    ⟨(some 30), .len false, [.t 29], none⟩,
    ⟨(some 31), .bin .lss 0, [.t 28, .t 30], none⟩]) <|
  .cond (.t 31) (
    .skip) (
    .exit 0)) <|
  .seq (.block 1 (
    .reg [⟨(some 34), .mv, [.t 6], none⟩,
      ⟨(some 35), .mv, [.t 4], none⟩,
      ⟨(some 36), .mv, [.t 7], none⟩,
      ⟨(some 37), .iadr 1, [.t 35, .t 36], none⟩,
      ⟨(some 38), .load false 1, [.t 37], none⟩,
      ⟨(some 39), .mnx true, [.t 38, .c (.v (.int .i64 (0)))], none⟩,
      ⟨(some 40), .bsl 1, [.t 39], none⟩,
      ⟨(some 41), .app 1 8 true, [.t 34, .t 40], none⟩,
      ⟨(some 6), .mv, [.t 41], none⟩])) <|
  .reg [⟨(some 32), .mv, [.t 7], none⟩,
    ⟨(some 33), .bin .add 0, [.t 32, .c (.v (.int .i64 (1)))], none⟩,
    ⟨(some 7), .mv, [.t 33], none⟩]

def c_laws_FnPuzzleValid : ACode :=
  .seq (.reg [⟨(some 2), .mv, [.c (.v (.bool false))], none⟩]) <|
  .seq (.seq (.reg [⟨(some 8), .mv, [.t 0], none⟩,
    ⟨(some 9), .len false, [.t 8], none⟩,
    ⟨(some 10), .bin .gtr 0, [.t 9, .c (.v (.int .i64 (1048576)))], none⟩]) <|
  .cond (.t 10) (
    .seq (.reg [⟨(some 2), .mv, [.c (.v (.bool true))], none⟩]) <|
    .ret) (
    .skip)) <|
  .seq (.reg [⟨(some 12), .mv, [.t 0], none⟩,
    ⟨(some 13), .call 14 [], [.t 12], none⟩,
    ⟨(some 11), .mv, [.t 13], none⟩,
    ⟨(some 14), .extr 0, [.t 11], none⟩,
    ⟨(some 15), .extr 1, [.t 11], none⟩,
    ⟨(some 3), .alloc [.v (.int .i64 (0)), .v (.int .i64 (0)), .os 1 []], [], none⟩,
    ⟨none, .store 3, [.t 3, .t 14], none⟩,
    ⟨(some 4), .mv, [.t 15], none⟩]) <|
  .seq (.reg [⟨(some 16), .load true 3, [.t 3], none⟩,
    ⟨(some 17), .mv, [.t 4], none⟩,
    ⟨(some 18), .call 15 [], [.t 16, .t 17], none⟩,
    ⟨(some 5), .mv, [.t 18], none⟩]) <|
  .seq (.seq (.reg [⟨(some 19), .mv, [.t 5], none⟩,
    ⟨(some 20), .load true 3, [.t 3], none⟩,
    ⟨(some 21), .mv, [.t 4], none⟩,
    ⟨(some 22), .call 16 [], [.t 20, .t 21], none⟩,
    ⟨(some 23), .bin .neq 2, [.t 19, .t 22], none⟩]) <|
  .cond (.t 23) (
    .seq (.reg [⟨(some 2), .mv, [.c (.v (.bool false))], none⟩]) <|
    .ret) (
    .skip)) <|
  .seq (.seq (.reg [⟨(some 24), .mv, [.t 5], none⟩,
    ⟨(some 25), .un .not, [.t 24], none⟩]) <|
  .cond (.t 25) (
    .seq (.reg [⟨(some 26), .call 17 [], [], none⟩,
      ⟨(some 2), .mv, [.t 26], none⟩]) <|
    .ret) (
    .skip)) <|
  .seq (.reg [⟨(some 27), .bsl 1, [], none⟩,
    ⟨(some 6), .mv, [.t 27], none⟩]) <|
  .seq (.seq (.reg [⟨(some 7), .mv, [.c (.v (.int .i64 (0)))], none⟩]) <|
  .block 0 (
    .loop [(4, 1), (6, 1)] [3, 4, 6, 7] c_laws_FnPuzzleValid_L0)) <|
  .seq (.draw (
    .take ⟨(some 43), .mv, [.t 6], none⟩ <|
    .alt ⟨(some 42), .load true 3, [.t 3], none⟩ (
      .alt ⟨(some 44), .call 15 [], [.t 42, .t 43], none⟩ (
        .take ⟨(some 45), .mv, [.t 44], none⟩ <|
        .take ⟨(some 47), .mv, [.t 6], (some (45, true))⟩ <|
        .alt ⟨(some 46), .load true 3, [.t 3], (some (45, true))⟩ (
          .alt ⟨(some 48), .bsl 1, [.c (.v (.int .i64 (-1)))], (some (45, true))⟩ (
            .alt ⟨(some 49), .app 1 8 true, [.t 47, .t 48], (some (45, true))⟩ (
              .alt ⟨(some 50), .call 15 [], [.t 46, .t 49], (some (45, true))⟩ (
                .take ⟨(some 51), .un .not, [.t 50], (some (45, true))⟩ <|
                .take ⟨(some 52), .pick, [.t 45, .t 51, .c (.v (.bool false))], none⟩ <|
                .take ⟨(some 2), .mv, [.t 52], none⟩ <|
                .done) <|
              .stop) <|
            .stop) <|
          .stop) <|
        .alt ⟨(some 48), .bsl 1, [.c (.v (.int .i64 (-1)))], (some (45, true))⟩ (
          .alt ⟨(some 46), .load true 3, [.t 3], (some (45, true))⟩ (
            .alt ⟨(some 49), .app 1 8 true, [.t 47, .t 48], (some (45, true))⟩ (
              .alt ⟨(some 50), .call 15 [], [.t 46, .t 49], (some (45, true))⟩ (
                .take ⟨(some 51), .un .not, [.t 50], (some (45, true))⟩ <|
                .take ⟨(some 52), .pick, [.t 45, .t 51, .c (.v (.bool false))], none⟩ <|
                .take ⟨(some 2), .mv, [.t 52], none⟩ <|
                .done) <|
              .stop) <|
            .stop) <|
          .alt ⟨(some 49), .app 1 8 true, [.t 47, .t 48], (some (45, true))⟩ (
            .alt ⟨(some 46), .load true 3, [.t 3], (some (45, true))⟩ (
              .alt ⟨(some 50), .call 15 [], [.t 46, .t 49], (some (45, true))⟩ (
                .take ⟨(some 51), .un .not, [.t 50], (some (45, true))⟩ <|
                .take ⟨(some 52), .pick, [.t 45, .t 51, .c (.v (.bool false))], none⟩ <|
                .take ⟨(some 2), .mv, [.t 52], none⟩ <|
                .done) <|
              .stop) <|
            .stop) <|
          .stop) <|
        .stop) <|
      .stop) <|
    .stop)) <|
  .ret

theorem k_laws_FnPuzzleValid : cFn Try.prog n_laws_FnPuzzleValid 53 [.t 2] c_laws_FnPuzzleValid := ⟨Try.f3, _, Try.func3, rfl, by kernel_rfl, by kernel_rfl, by kernel_rfl, by kernel_rfl⟩

-- 1 parameters, results [.t 2], 77 slots, modes [false]
@[simp] abbrev n_laws_FnPairsOf : Nat := 4
def c_laws_FnPairsOf_L0 : ACode :=
  .seq (.seq (.reg [⟨(some 45), .mv, [.t 8], none⟩,
    ⟨(some 46), .mv, [.t 6], none⟩,
    ⟨(some 47), .len false, [.t 46], none⟩,
    ⟨(some 48), .bin .lss 0, [.t 45, .t 47], none⟩]) <|
  .cond (.t 48) (
    .skip) (
    .exit 0)) <|
  .seq (.block 1 (
    .draw (
      .take ⟨(some 51), .mv, [.t 7], none⟩ <|
      .take ⟨(some 52), .mv, [.t 51], none⟩ <|
      .take ⟨(some 53), .mv, [.t 6], (some (52, true))⟩ <|
      .take ⟨(some 54), .mv, [.t 8], (some (52, true))⟩ <|
      .take ⟨(some 55), .slice 1 false false true false, [.t 53, .t 54], (some (52, true))⟩ <|
      .take ⟨(some 56), .mv, [.t 6], (some (52, true))⟩ <|
      .take ⟨(some 57), .mv, [.t 8], (some (52, true))⟩ <|
      .take ⟨(some 58), .iadr 1, [.t 56, .t 57], (some (52, true))⟩ <|
      .alt ⟨(some 59), .load false 1, [.t 58], (some (52, true))⟩ (
        .alt ⟨(some 60), .call 23 [], [.t 55, .t 59], (some (52, true))⟩ (
          .take ⟨(some 61), .un .not, [.t 60], (some (52, true))⟩ <|
          .take ⟨(some 62), .pick, [.t 52, .t 61, .c (.v (.bool false))], none⟩ <|
          .take ⟨(some 7), .mv, [.t 62], none⟩ <|
          .done) <|
        .stop) <|
      .stop))) <|
  .reg [⟨(some 49), .mv, [.t 8], none⟩,
    ⟨(some 50), .bin .add 0, [.t 49, .c (.v (.int .i64 (1)))], none⟩,
    ⟨(some 8), .mv, [.t 50], none⟩]

def c_laws_FnPairsOf : ACode :=
  .seq (.reg [⟨(some 2), .mv, [.c (.v (.bool false))], none⟩]) <|
  .seq (.seq (.reg [⟨(some 9), .mv, [.t 0], none⟩,
    ⟨(some 10), .len false, [.t 9], none⟩,
    ⟨(some 11), .bin .gtr 0, [.t 10, .c (.v (.int .i64 (1048576)))], none⟩]) <|
  .cond (.t 11) (
    .seq (.reg [⟨(some 2), .mv, [.c (.v (.bool true))], none⟩]) <|
    .ret) (
    .skip)) <|
  .seq (.reg [⟨(some 13), .mv, [.t 0], none⟩,
    ⟨(some 14), .call 18 [], [.t 13], none⟩,
    ⟨(some 12), .mv, [.t 14], none⟩,
    ⟨(some 15), .extr 0, [.t 12], none⟩,
    ⟨(some 16), .extr 1, [.t 12], none⟩,
    ⟨(some 17), .extr 2, [.t 12], none⟩,
    ⟨(some 3), .alloc [.v (.int .i64 (0)), .v (.int .i64 (0)), .os 1 []], [], none⟩,
    ⟨none, .store 3, [.t 3, .t 15], none⟩,
    ⟨(some 4), .mv, [.t 16], none⟩,
    ⟨(some 5), .mv, [.t 17], none⟩]) <|
  .seq (.reg [⟨(some 18), .load true 3, [.t 3], none⟩,
    ⟨(some 19), .mv, [.t 4], none⟩,
    ⟨(some 20), .mv, [.t 5], none⟩,
    ⟨(some 21), .call 19 [], [.t 18, .t 19, .t 20], none⟩,
    ⟨(some 6), .mv, [.t 21], none⟩]) <|
  .seq (.seq (.reg [⟨(some 22), .mv, [.t 6], none⟩,
    ⟨(some 23), .load true 3, [.t 3], none⟩,
    ⟨(some 24), .mv, [.t 4], none⟩,
    ⟨(some 25), .mv, [.t 5], none⟩,
    ⟨(some 26), .call 21 [], [.t 23, .t 24, .t 25], none⟩,
    ⟨(some 27), .call 20 [], [.t 22, .t 26], none⟩,
    ⟨(some 28), .un .not, [.t 27], none⟩]) <|
  .cond (.t 28) (
    .seq (.reg [⟨(some 2), .mv, [.c (.v (.bool false))], none⟩]) <|
    .ret) (
    .skip)) <|
  .seq (.seq (.reg [⟨(some 29), .load true 3, [.t 3], none⟩,
    ⟨(some 30), .mv, [.t 4], none⟩,
    ⟨(some 31), .call 16 [], [.t 29, .t 30], none⟩,
    ⟨(some 32), .un .not, [.t 31], none⟩,
    ⟨(some 33), .mv, [.t 32], none⟩,
    ⟨(some 34), .load true 3, [.t 3], (some (33, false))⟩,
    ⟨(some 35), .mv, [.t 5], (some (33, false))⟩,
    ⟨(some 36), .call 22 [], [.t 34, .t 35], (some (33, false))⟩,
    ⟨(some 37), .un .not, [.t 36], (some (33, false))⟩,
    ⟨(some 38), .pick, [.t 33, .c (.v (.bool true)), .t 37], none⟩]) <|
  .cond (.t 38) (
    .seq (.reg [⟨(some 39), .mv, [.t 6], none⟩,
      ⟨(some 40), .len false, [.t 39], none⟩,
      ⟨(some 41), .bin .eql 0, [.t 40, .c (.v (.int .i64 (0)))], none⟩,
      ⟨(some 42), .mv, [.t 41], none⟩,
      ⟨(some 43), .call 17 [], [], (some (42, true))⟩,
      ⟨(some 44), .pick, [.t 42, .t 43, .c (.v (.bool false))], none⟩,
      ⟨(some 2), .mv, [.t 44], none⟩]) <|
    .ret) (
    .skip)) <|
  .seq (.reg [⟨(some 7), .mv, [.c (.v (.bool true))], none⟩]) <|
  .seq (.seq (.reg [⟨(some 8), .mv, [.c (.v (.int .i64 (0)))], none⟩]) <|
  .block 0 (
    .loop [(4, 1), (5, 1), (6, 1)] [3, 4, 5, 6, 7, 8] c_laws_FnPairsOf_L0)) <|
  .seq (.reg [⟨(some 63), .mv, [.t 6], none⟩,
    ⟨(some 64), .len false, [.t 63], none⟩,
    ⟨(some 65), .load true 3, [.t 3], none⟩,
    ⟨(some 66), .mv, [.t 5], none⟩,
    ⟨(some 67), .call 24 [], [.t 65, .t 66], none⟩,
    ⟨(some 68), .bin .eql 0, [.t 64, .t 67], none⟩,
    ⟨(some 69), .mv, [.t 68], none⟩,
    ⟨(some 70), .load true 3, [.t 3], (some (69, true))⟩,
    ⟨(some 71), .mv, [.t 4], (some (69, true))⟩,
    ⟨(some 72), .mv, [.t 5], (some (69, true))⟩,
    ⟨(some 73), .call 25 [], [.t 70, .t 71, .t 72], (some (69, true))⟩,
    ⟨(some 74), .mv, [.t 7], (some (69, true))⟩,
    ⟨(some 75), .bin .eql 2, [.t 73, .t 74], (some (69, true))⟩,
    ⟨(some 76), .pick, [.t 69, .t 75, .c (.v (.bool false))], none⟩,
    ⟨(some 2), .mv, [.t 76], none⟩]) <|
  .ret

theorem k_laws_FnPairsOf : cFn Try.prog n_laws_FnPairsOf 77 [.t 2] c_laws_FnPairsOf := ⟨Try.f4, _, Try.func4, rfl, by kernel_rfl, by kernel_rfl, by kernel_rfl, by kernel_rfl⟩

-- 1 parameters, results [.t 2], 61 slots, modes [false]
@[simp] abbrev n_laws_FnFairOk : Nat := 5
def c_laws_FnFairOk_L0 : ACode :=
  .seq (.seq (.reg [⟨(some 29), .mv, [.t 7], none⟩,
    ⟨(some 30), .mv, [.t 5], none⟩,
    ⟨(some 31), .len false, [.t 30], none⟩,
    ⟨(some 32), .bin .lss 0, [.t 29, .t 31], none⟩,
    ⟨(some 33), .mv, [.t 32], none⟩,
    ⟨(some 34), .mv, [.t 6], (some (33, true))⟩,
    ⟨(some 35), .pick, [.t 33, .t 34, .c (.v (.bool false))], none⟩]) <|
  .cond (.t 35) (
    .skip) (
    .exit 0)) <|
  .seq (.block 1 (
    .seq (.reg [⟨(some 39), .load true 3, [.t 3], none⟩,
      ⟨(some 40), .mv, [.t 5], none⟩,
      ⟨(some 41), .mv, [.t 7], none⟩,
      ⟨(some 42), .call 28 [], [.t 39, .t 40, .t 41], none⟩,
      ⟨(some 38), .mv, [.t 42], none⟩,
      ⟨(some 43), .extr 0, [.t 38], none⟩,
      ⟨(some 44), .extr 1, [.t 38], none⟩,
      ⟨(some 8), .mv, [.t 43], none⟩,
      ⟨(some 9), .mv, [.t 44], none⟩]) <|
    .seq (.reg [⟨(some 45), .load true 3, [.t 3], none⟩,
      ⟨(some 46), .mv, [.t 4], none⟩,
      ⟨(some 47), .mv, [.t 8], none⟩,
      ⟨(some 48), .call 25 [], [.t 45, .t 46, .t 47], none⟩,
      ⟨(some 49), .un .not, [.t 48], none⟩]) <|
    .cond (.t 49) (
      .seq (.reg [⟨(some 2), .mv, [.c (.v (.bool false))], none⟩]) <|
      .ret) (
      .skip))) <|
  .reg [⟨(some 36), .mv, [.t 7], none⟩,
    ⟨(some 37), .bin .add 0, [.t 36, .c (.v (.int .i64 (1)))], none⟩,
    ⟨(some 7), .mv, [.t 37], none⟩]

def c_laws_FnFairOk : ACode :=
  .seq (.reg [⟨(some 2), .mv, [.c (.v (.bool false))], none⟩]) <|
  .seq (.seq (.reg [⟨(some 10), .mv, [.t 0], none⟩,
    ⟨(some 11), .len false, [.t 10], none⟩,
    ⟨(some 12), .bin .gtr 0, [.t 11, .c (.v (.int .i64 (1048576)))], none⟩]) <|
  .cond (.t 12) (
    .seq (.reg [⟨(some 2), .mv, [.c (.v (.bool true))], none⟩]) <|
    .ret) (
    .skip)) <|
  .seq (.reg [⟨(some 14), .mv, [.t 0], none⟩,
    ⟨(some 15), .call 26 [], [.t 14], none⟩,
    ⟨(some 13), .mv, [.t 15], none⟩,
    ⟨(some 16), .extr 0, [.t 13], none⟩,
    ⟨(some 17), .extr 1, [.t 13], none⟩,
    ⟨(some 18), .extr 2, [.t 13], none⟩,
    ⟨(some 3), .alloc [.v (.int .i64 (0)), .v (.int .i64 (0)), .os 1 []], [], none⟩,
    ⟨none, .store 3, [.t 3, .t 16], none⟩,
    ⟨(some 4), .mv, [.t 17], none⟩,
    ⟨(some 5), .mv, [.t 18], none⟩]) <|
  .seq (.reg [⟨(some 19), .load true 3, [.t 3], none⟩,
    ⟨(some 20), .mv, [.t 4], none⟩,
    ⟨(some 21), .mv, [.t 5], none⟩,
    ⟨(some 22), .call 25 [], [.t 19, .t 20, .t 21], none⟩,
    ⟨(some 6), .mv, [.t 22], none⟩]) <|
  .seq (.seq (.reg [⟨(some 23), .mv, [.t 6], none⟩,
    ⟨(some 24), .load true 3, [.t 3], none⟩,
    ⟨(some 25), .mv, [.t 4], none⟩,
    ⟨(some 26), .mv, [.t 5], none⟩,
    ⟨(some 27), .call 27 [], [.t 24, .t 25, .t 26], none⟩,
    ⟨(some 28), .bin .neq 2, [.t 23, .t 27], none⟩]) <|
  .cond (.t 28) (
    .seq (.reg [⟨(some 2), .mv, [.c (.v (.bool false))], none⟩]) <|
    .ret) (
    .skip)) <|
  .seq (.seq (.reg [⟨(some 7), .mv, [.c (.v (.int .i64 (0)))], none⟩]) <|
  .block 0 (
    .loop [(4, 1), (5, 1)] [3, 4, 5, 6, 7] c_laws_FnFairOk_L0)) <|
  .seq (.reg [⟨(some 50), .mv, [.t 6], none⟩,
    ⟨(some 51), .un .not, [.t 50], none⟩,
    ⟨(some 52), .mv, [.t 51], none⟩,
    ⟨(some 53), .load true 3, [.t 3], (some (52, false))⟩,
    ⟨(some 54), .mv, [.t 5], (some (52, false))⟩,
    ⟨(some 55), .call 24 [], [.t 53, .t 54], (some (52, false))⟩,
    ⟨(some 56), .bin .leq 0, [.t 55, .c (.v (.int .i64 (28)))], (some (52, false))⟩,
    ⟨(some 57), .pick, [.t 52, .c (.v (.bool true)), .t 56], none⟩,
    ⟨(some 58), .mv, [.t 57], none⟩,
    ⟨(some 59), .call 17 [], [], (some (58, true))⟩,
    ⟨(some 60), .pick, [.t 58, .t 59, .c (.v (.bool false))], none⟩,
    ⟨(some 2), .mv, [.t 60], none⟩]) <|
  .ret

theorem k_laws_FnFairOk : cFn Try.prog n_laws_FnFairOk 61 [.t 2] c_laws_FnFairOk := ⟨Try.f5, _, Try.func5, rfl, by kernel_rfl, by kernel_rfl, by kernel_rfl, by kernel_rfl⟩

-- 1 parameters, results [.t 2], 53 slots, modes [false]
@[simp] abbrev n_laws_FnSolvedOk : Nat := 6
def c_laws_FnSolvedOk_L0 : ACode :=
  .seq (.seq (.reg [⟨(some 32), .mv, [.t 9], none⟩,
    ⟨(some 33), .mv, [.t 7], none⟩,
    ⟨(some 34), .len false, [.t 33], none⟩,
    ⟨(some 35), .bin .lss 0, [.t 32, .t 34], none⟩]) <|
  .cond (.t 35) (
    .skip) (
    .exit 0)) <|
  .seq (.block 1 (
    .reg [⟨(some 38), .mv, [.t 8], none⟩,
      ⟨(some 39), .mv, [.t 38], none⟩,
      ⟨(some 40), .mv, [.t 7], (some (39, false))⟩,
      ⟨(some 41), .mv, [.t 9], (some (39, false))⟩,
      ⟨(some 42), .iadr 1, [.t 40, .t 41], (some (39, false))⟩,
      ⟨(some 43), .load false 1, [.t 42], (some (39, false))⟩,
      ⟨(some 44), .mv, [.t 5], (some (39, false))⟩,
      ⟨(some 45), .call 20 [], [.t 43, .t 44], (some (39, false))⟩,
      ⟨(some 46), .pick, [.t 39, .c (.v (.bool true)), .t 45], none⟩,
      ⟨(some 8), .mv, [.t 46], none⟩])) <|
  .reg [⟨(some 36), .mv, [.t 9], none⟩,
    ⟨(some 37), .bin .add 0, [.t 36, .c (.v (.int .i64 (1)))], none⟩,
    ⟨(some 9), .mv, [.t 37], none⟩]

def c_laws_FnSolvedOk : ACode :=
  .seq (.reg [⟨(some 2), .mv, [.c (.v (.bool false))], none⟩]) <|
  .seq (.seq (.reg [⟨(some 10), .mv, [.t 0], none⟩,
    ⟨(some 11), .len false, [.t 10], none⟩,
    ⟨(some 12), .bin .gtr 0, [.t 11, .c (.v (.int .i64 (1048576)))], none⟩]) <|
  .cond (.t 12) (
    .seq (.reg [⟨(some 2), .mv, [.c (.v (.bool true))], none⟩]) <|
    .ret) (
    .skip)) <|
  .seq (.reg [⟨(some 14), .mv, [.t 0], none⟩,
    ⟨(some 15), .call 29 [], [.t 14], none⟩,
    ⟨(some 13), .mv, [.t 15], none⟩,
    ⟨(some 16), .extr 0, [.t 13], none⟩,
    ⟨(some 17), .extr 1, [.t 13], none⟩,
    ⟨(some 18), .extr 2, [.t 13], none⟩,
    ⟨(some 3), .alloc [.v (.int .i64 (0)), .v (.int .i64 (0)), .os 1 []], [], none⟩,
    ⟨none, .store 3, [.t 3, .t 16], none⟩,
    ⟨(some 4), .mv, [.t 17], none⟩,
    ⟨(some 5), .mv, [.t 18], none⟩]) <|
  .seq (.reg [⟨(some 19), .load true 3, [.t 3], none⟩,
    ⟨(some 20), .mv, [.t 4], none⟩,
    ⟨(some 21), .mv, [.t 5], none⟩,
    ⟨(some 22), .call 30 [], [.t 19, .t 20, .t 21], none⟩,
    ⟨(some 6), .mv, [.t 22], none⟩]) <|
  .seq (.seq (.reg [⟨(some 23), .mv, [.t 6], none⟩,
    ⟨(some 24), .load true 3, [.t 3], none⟩,
    ⟨(some 25), .mv, [.t 4], none⟩,
    ⟨(some 26), .mv, [.t 5], none⟩,
    ⟨(some 27), .call 31 [], [.t 24, .t 25, .t 26], none⟩,
    ⟨(some 28), .bin .neq 2, [.t 23, .t 27], none⟩]) <|
  .cond (.t 28) (
    .seq (.reg [⟨(some 2), .mv, [.c (.v (.bool false))], none⟩]) <|
    .ret) (
    .skip)) <|
  .seq (.reg [⟨(some 29), .load true 3, [.t 3], none⟩,
    ⟨(some 30), .mv, [.t 4], none⟩,
    ⟨(some 31), .call 32 [], [.t 29, .t 30], none⟩,
    ⟨(some 7), .mv, [.t 31], none⟩]) <|
  .seq (.reg [⟨(some 8), .mv, [.c (.v (.bool false))], none⟩]) <|
  .seq (.seq (.reg [⟨(some 9), .mv, [.c (.v (.int .i64 (0)))], none⟩]) <|
  .block 0 (
    .loop [(5, 1), (7, 1)] [5, 6, 7, 8, 9] c_laws_FnSolvedOk_L0)) <|
  .seq (.reg [⟨(some 47), .mv, [.t 8], none⟩,
    ⟨(some 48), .mv, [.t 6], none⟩,
    ⟨(some 49), .bin .eql 2, [.t 47, .t 48], none⟩,
    ⟨(some 50), .mv, [.t 49], none⟩,
    ⟨(some 51), .call 17 [], [], (some (50, true))⟩,
    ⟨(some 52), .pick, [.t 50, .t 51, .c (.v (.bool false))], none⟩,
    ⟨(some 2), .mv, [.t 52], none⟩]) <|
  .ret

theorem k_laws_FnSolvedOk : cFn Try.prog n_laws_FnSolvedOk 53 [.t 2] c_laws_FnSolvedOk := ⟨Try.f6, _, Try.func6, rfl, by kernel_rfl, by kernel_rfl, by kernel_rfl, by kernel_rfl⟩

-- 1 parameters, results [.t 2], 66 slots, modes [false]
@[simp] abbrev n_laws_FnSolutionsAll : Nat := 7
def c_laws_FnSolutionsAll_L0 : ACode :=
  .seq (.seq (.reg [⟨(some 28), .mv, [.t 8], none⟩,
    ⟨(some 29), .mv, [.t 6], none⟩,
    ⟨(some 30), .len false, [.t 29], none⟩,
    ⟨(some 31), .bin .lss 0, [.t 28, .t 30], none⟩]) <|
  .cond (.t 31) (
    .skip) (
    .exit 0)) <|
  .seq (.block 1 (
    .seq (.draw (
      .take ⟨(some 35), .mv, [.t 4], none⟩ <|
      .take ⟨(some 36), .mv, [.t 6], none⟩ <|
      .take ⟨(some 37), .mv, [.t 8], none⟩ <|
      .take ⟨(some 38), .iadr 1, [.t 36, .t 37], none⟩ <|
      .alt ⟨(some 34), .load true 3, [.t 3], none⟩ (
        .alt ⟨(some 39), .load false 1, [.t 38], none⟩ (
          .alt ⟨(some 40), .call 30 [], [.t 34, .t 35, .t 39], none⟩ (
            .done) <|
          .stop) <|
        .stop) <|
      .alt ⟨(some 39), .load false 1, [.t 38], none⟩ (
        .alt ⟨(some 34), .load true 3, [.t 3], none⟩ (
          .alt ⟨(some 40), .call 30 [], [.t 34, .t 35, .t 39], none⟩ (
            .done) <|
          .stop) <|
        .stop) <|
      .stop)) <|
    .cond (.t 40) (
      .seq (.seq (.draw (
        .take ⟨(some 41), .mv, [.t 7], none⟩ <|
        .take ⟨(some 42), .mv, [.t 5], none⟩ <|
        .take ⟨(some 43), .len false, [.t 42], none⟩ <|
        .take ⟨(some 44), .bin .geq 0, [.t 41, .t 43], none⟩ <|
        .take ⟨(some 45), .mv, [.t 44], none⟩ <|
        .take ⟨(some 46), .mv, [.t 5], (some (45, false))⟩ <|
        .take ⟨(some 47), .mv, [.t 7], (some (45, false))⟩ <|
        .take ⟨(some 48), .iadr 1, [.t 46, .t 47], (some (45, false))⟩ <|
        .take ⟨(some 50), .mv, [.t 6], (some (45, false))⟩ <|
        .take ⟨(some 51), .mv, [.t 8], (some (45, false))⟩ <|
        .take ⟨(some 52), .iadr 1, [.t 50, .t 51], (some (45, false))⟩ <|
        .alt ⟨(some 49), .load false 1, [.t 48], (some (45, false))⟩ (
          .alt ⟨(some 53), .load false 1, [.t 52], (some (45, false))⟩ (
            .alt ⟨(some 54), .call 20 [], [.t 49, .t 53], (some (45, false))⟩ (
              .take ⟨(some 55), .un .not, [.t 54], (some (45, false))⟩ <|
              .take ⟨(some 56), .pick, [.t 45, .c (.v (.bool true)), .t 55], none⟩ <|
              .done) <|
            .stop) <|
          .stop) <|
        .alt ⟨(some 53), .load false 1, [.t 52], (some (45, false))⟩ (
          .alt ⟨(some 49), .load false 1, [.t 48], (some (45, false))⟩ (
            .alt ⟨(some 54), .call 20 [], [.t 49, .t 53], (some (45, false))⟩ (
              .take ⟨(some 55), .un .not, [.t 54], (some (45, false))⟩ <|
              .take ⟨(some 56), .pick, [.t 45, .c (.v (.bool true)), .t 55], none⟩ <|
              .done) <|
            .stop) <|
          .stop) <|
        .stop)) <|
      .cond (.t 56) (
        .seq (.reg [⟨(some 2), .mv, [.c (.v (.bool false))], none⟩]) <|
        .ret) (
        .skip)) <|
      .reg [⟨(some 57), .mv, [.t 7], none⟩,
        ⟨(some 58), .bin .add 0, [.t 57, .c (.v (.int .i64 (1)))], none⟩,
        ⟨(some 7), .mv, [.t 58], none⟩]) (
      .skip))) <|
  .reg [⟨(some 32), .mv, [.t 8], none⟩,
    ⟨(some 33), .bin .add 0, [.t 32, .c (.v (.int .i64 (1)))], none⟩,
    ⟨(some 8), .mv, [.t 33], none⟩]

def c_laws_FnSolutionsAll : ACode :=
  .seq (.reg [⟨(some 2), .mv, [.c (.v (.bool false))], none⟩]) <|
  .seq (.seq (.reg [⟨(some 9), .mv, [.t 0], none⟩,
    ⟨(some 10), .len false, [.t 9], none⟩,
    ⟨(some 11), .bin .gtr 0, [.t 10, .c (.v (.int .i64 (1048576)))], none⟩]) <|
  .cond (.t 11) (
    .seq (.reg [⟨(some 2), .mv, [.c (.v (.bool true))], none⟩]) <|
    .ret) (
    .skip)) <|
  .seq (.reg [⟨(some 13), .mv, [.t 0], none⟩,
    ⟨(some 14), .call 33 [], [.t 13], none⟩,
    ⟨(some 12), .mv, [.t 14], none⟩,
    ⟨(some 15), .extr 0, [.t 12], none⟩,
    ⟨(some 16), .extr 1, [.t 12], none⟩,
    ⟨(some 3), .alloc [.v (.int .i64 (0)), .v (.int .i64 (0)), .os 1 []], [], none⟩,
    ⟨none, .store 3, [.t 3, .t 15], none⟩,
    ⟨(some 4), .mv, [.t 16], none⟩]) <|
  .seq (.reg [⟨(some 17), .load true 3, [.t 3], none⟩,
    ⟨(some 18), .mv, [.t 4], none⟩,
    ⟨(some 19), .call 32 [], [.t 17, .t 18], none⟩,
    ⟨(some 5), .mv, [.t 19], none⟩]) <|
  .seq (.seq (.reg [⟨(some 20), .mv, [.t 5], none⟩,
    ⟨(some 21), .load true 3, [.t 3], none⟩,
    ⟨(some 22), .mv, [.t 4], none⟩,
    ⟨(some 23), .call 35 [], [.t 21, .t 22], none⟩,
    ⟨(some 24), .call 34 [], [.t 20, .t 23], none⟩,
    ⟨(some 25), .un .not, [.t 24], none⟩]) <|
  .cond (.t 25) (
    .seq (.reg [⟨(some 2), .mv, [.c (.v (.bool false))], none⟩]) <|
    .ret) (
    .skip)) <|
  .seq (.reg [⟨(some 26), .load true 3, [.t 3], none⟩,
    ⟨(some 27), .call 36 [], [.t 26], none⟩,
    ⟨(some 6), .mv, [.t 27], none⟩]) <|
  .seq (.reg [⟨(some 7), .mv, [.c (.v (.int .i64 (0)))], none⟩]) <|
  .seq (.seq (.reg [⟨(some 8), .mv, [.c (.v (.int .i64 (0)))], none⟩]) <|
  .block 0 (
    .loop [(4, 1), (5, 1), (6, 1)] [3, 4, 5, 6, 7, 8] c_laws_FnSolutionsAll_L0)) <|
  .seq (.reg [⟨(some 59), .mv, [.t 7], none⟩,
    ⟨(some 60), .mv, [.t 5], none⟩,
    ⟨(some 61), .len false, [.t 60], none⟩,
    ⟨(some 62), .bin .eql 0, [.t 59, .t 61], none⟩,
    ⟨(some 63), .mv, [.t 62], none⟩,
    ⟨(some 64), .call 17 [], [], (some (63, true))⟩,
    ⟨(some 65), .pick, [.t 63, .t 64, .c (.v (.bool false))], none⟩,
    ⟨(some 2), .mv, [.t 65], none⟩]) <|
  .ret

theorem k_laws_FnSolutionsAll : cFn Try.prog n_laws_FnSolutionsAll 66 [.t 2] c_laws_FnSolutionsAll := ⟨Try.f7, _, Try.func7, rfl, by kernel_rfl, by kernel_rfl, by kernel_rfl, by kernel_rfl⟩

-- 1 parameters, results [.t 2], 84 slots, modes [false]
@[simp] abbrev n_laws_FnOptionsOf : Nat := 8
def c_laws_FnOptionsOf_L0 : ACode :=
  .seq (.seq (.reg [⟨(some 35), .mv, [.t 8], none⟩,
    ⟨(some 36), .mv, [.t 7], none⟩,
    ⟨(some 37), .len false, [.t 36], none⟩,
    ⟨(some 38), .bin .lss 0, [.t 35, .t 37], none⟩]) <|
  .cond (.t 38) (
    .skip) (
    .exit 0)) <|
  .seq (.block 1 (
    .seq (.draw (
      .take ⟨(some 43), .mv, [.t 5], none⟩ <|
      .take ⟨(some 44), .mv, [.t 6], none⟩ <|
      .take ⟨(some 45), .mv, [.t 7], none⟩ <|
      .take ⟨(some 46), .mv, [.t 8], none⟩ <|
      .take ⟨(some 47), .iadr 1, [.t 45, .t 46], none⟩ <|
      .alt ⟨(some 42), .load true 3, [.t 3], none⟩ (
        .alt ⟨(some 48), .load false 1, [.t 47], none⟩ (
          .alt ⟨(some 49), .call 40 [], [.t 42, .t 43, .t 44, .t 48], none⟩ (
            .take ⟨(some 41), .mv, [.t 49], none⟩ <|
            .take ⟨(some 50), .extr 0, [.t 41], none⟩ <|
            .take ⟨(some 51), .extr 1, [.t 41], none⟩ <|
            .take ⟨(some 9), .mv, [.t 50], none⟩ <|
            .take ⟨(some 10), .mv, [.t 51], none⟩ <|
            .done) <|
          .stop) <|
        .stop) <|
      .alt ⟨(some 48), .load false 1, [.t 47], none⟩ (
        .alt ⟨(some 42), .load true 3, [.t 3], none⟩ (
          .alt ⟨(some 49), .call 40 [], [.t 42, .t 43, .t 44, .t 48], none⟩ (
            .take ⟨(some 41), .mv, [.t 49], none⟩ <|
            .take ⟨(some 50), .extr 0, [.t 41], none⟩ <|
            .take ⟨(some 51), .extr 1, [.t 41], none⟩ <|
            .take ⟨(some 9), .mv, [.t 50], none⟩ <|
            .take ⟨(some 10), .mv, [.t 51], none⟩ <|
            .done) <|
          .stop) <|
        .stop) <|
      .stop)) <|
    .seq (.seq (.reg [⟨(some 52), .mv, [.t 10], none⟩,
      ⟨(some 53), .un .not, [.t 52], none⟩,
      ⟨(some 54), .mv, [.t 53], none⟩,
      ⟨(some 55), .load true 3, [.t 3], (some (54, false))⟩,
      ⟨(some 56), .mv, [.t 4], (some (54, false))⟩,
      ⟨(some 57), .mv, [.t 9], (some (54, false))⟩,
      ⟨(some 58), .call 25 [], [.t 55, .t 56, .t 57], (some (54, false))⟩,
      ⟨(some 59), .un .not, [.t 58], (some (54, false))⟩,
      ⟨(some 60), .pick, [.t 54, .c (.v (.bool true)), .t 59], none⟩]) <|
    .cond (.t 60) (
      .seq (.reg [⟨(some 2), .mv, [.c (.v (.bool false))], none⟩]) <|
      .ret) (
      .skip)) <|
    .seq (.draw (
      .take ⟨(some 62), .mv, [.t 4], none⟩ <|
      .take ⟨(some 65), .mv, [.t 6], none⟩ <|
      .alt ⟨(some 61), .load true 3, [.t 3], none⟩ (
        .alt ⟨(some 63), .load true 3, [.t 3], none⟩ (
          .alt ⟨(some 64), .call 41 [], [.t 63], none⟩ (
            .alt ⟨(some 66), .call 38 [], [.t 61, .t 62, .t 64, .t 65], none⟩ (
              .take ⟨(some 11), .mv, [.t 66], none⟩ <|
              .done) <|
            .stop) <|
          .stop) <|
        .stop) <|
      .alt ⟨(some 63), .load true 3, [.t 3], none⟩ (
        .alt ⟨(some 61), .load true 3, [.t 3], none⟩ (
          .alt ⟨(some 64), .call 41 [], [.t 63], none⟩ (
            .alt ⟨(some 66), .call 38 [], [.t 61, .t 62, .t 64, .t 65], none⟩ (
              .take ⟨(some 11), .mv, [.t 66], none⟩ <|
              .done) <|
            .stop) <|
          .stop) <|
        .alt ⟨(some 64), .call 41 [], [.t 63], none⟩ (
          .alt ⟨(some 61), .load true 3, [.t 3], none⟩ (
            .alt ⟨(some 66), .call 38 [], [.t 61, .t 62, .t 64, .t 65], none⟩ (
              .take ⟨(some 11), .mv, [.t 66], none⟩ <|
              .done) <|
            .stop) <|
          .stop) <|
        .stop) <|
      .stop)) <|
    .seq (.reg [⟨(some 67), .mv, [.t 11], none⟩,
      ⟨(some 68), .mv, [.t 7], none⟩,
      ⟨(some 69), .mv, [.t 8], none⟩,
      ⟨(some 70), .iadr 1, [.t 68, .t 69], none⟩,
      ⟨(some 71), .load false 1, [.t 70], none⟩,
      ⟨(some 72), .call 23 [], [.t 67, .t 71], none⟩,
      ⟨(some 73), .un .not, [.t 72], none⟩]) <|
    .cond (.t 73) (
      .seq (.reg [⟨(some 2), .mv, [.c (.v (.bool false))], none⟩]) <|
      .ret) (
      .skip))) <|
  .reg [⟨(some 39), .mv, [.t 8], none⟩,
    ⟨(some 40), .bin .add 0, [.t 39, .c (.v (.int .i64 (1)))], none⟩,
    ⟨(some 8), .mv, [.t 40], none⟩]

def c_laws_FnOptionsOf : ACode :=
  .seq (.reg [⟨(some 2), .mv, [.c (.v (.bool false))], none⟩]) <|
  .seq (.seq (.reg [⟨(some 12), .mv, [.t 0], none⟩,
    ⟨(some 13), .len false, [.t 12], none⟩,
    ⟨(some 14), .bin .gtr 0, [.t 13, .c (.v (.int .i64 (1048576)))], none⟩]) <|
  .cond (.t 14) (
    .seq (.reg [⟨(some 2), .mv, [.c (.v (.bool true))], none⟩]) <|
    .ret) (
    .skip)) <|
  .seq (.reg [⟨(some 16), .mv, [.t 0], none⟩,
    ⟨(some 17), .call 37 [], [.t 16], none⟩,
    ⟨(some 15), .mv, [.t 17], none⟩,
    ⟨(some 18), .extr 0, [.t 15], none⟩,
    ⟨(some 19), .extr 1, [.t 15], none⟩,
    ⟨(some 20), .extr 2, [.t 15], none⟩,
    ⟨(some 21), .extr 3, [.t 15], none⟩,
    ⟨(some 3), .alloc [.v (.int .i64 (0)), .v (.int .i64 (0)), .os 1 []], [], none⟩,
    ⟨none, .store 3, [.t 3, .t 18], none⟩,
    ⟨(some 4), .mv, [.t 19], none⟩,
    ⟨(some 5), .mv, [.t 20], none⟩,
    ⟨(some 6), .mv, [.t 21], none⟩]) <|
  .seq (.reg [⟨(some 22), .load true 3, [.t 3], none⟩,
    ⟨(some 23), .mv, [.t 4], none⟩,
    ⟨(some 24), .mv, [.t 5], none⟩,
    ⟨(some 25), .mv, [.t 6], none⟩,
    ⟨(some 26), .call 38 [], [.t 22, .t 23, .t 24, .t 25], none⟩,
    ⟨(some 7), .mv, [.t 26], none⟩]) <|
  .seq (.seq (.reg [⟨(some 27), .mv, [.t 7], none⟩,
    ⟨(some 28), .load true 3, [.t 3], none⟩,
    ⟨(some 29), .mv, [.t 4], none⟩,
    ⟨(some 30), .mv, [.t 5], none⟩,
    ⟨(some 31), .mv, [.t 6], none⟩,
    ⟨(some 32), .call 39 [], [.t 28, .t 29, .t 30, .t 31], none⟩,
    ⟨(some 33), .call 20 [], [.t 27, .t 32], none⟩,
    ⟨(some 34), .un .not, [.t 33], none⟩]) <|
  .cond (.t 34) (
    .seq (.reg [⟨(some 2), .mv, [.c (.v (.bool false))], none⟩]) <|
    .ret) (
    .skip)) <|
  .seq (.seq (.reg [⟨(some 8), .mv, [.c (.v (.int .i64 (0)))], none⟩]) <|
  .block 0 (
    .loop [(4, 1), (5, 1), (7, 1)] [3, 4, 5, 6, 7, 8] c_laws_FnOptionsOf_L0)) <|
  .seq (.reg [⟨(some 74), .mv, [.t 7], none⟩,
    ⟨(some 75), .call 42 [], [.t 74], none⟩,
    ⟨(some 76), .mv, [.t 75], none⟩,
    ⟨(some 77), .mv, [.t 7], (some (76, true))⟩,
    ⟨(some 78), .len false, [.t 77], (some (76, true))⟩,
    ⟨(some 79), .bin .leq 0, [.t 78, .c (.v (.int .i64 (4)))], (some (76, true))⟩,
    ⟨(some 80), .pick, [.t 76, .t 79, .c (.v (.bool false))], none⟩,
    ⟨(some 81), .mv, [.t 80], none⟩,
    ⟨(some 82), .call 17 [], [], (some (81, true))⟩,
    ⟨(some 83), .pick, [.t 81, .t 82, .c (.v (.bool false))], none⟩,
    ⟨(some 2), .mv, [.t 83], none⟩]) <|
  .ret

theorem k_laws_FnOptionsOf : cFn Try.prog n_laws_FnOptionsOf 84 [.t 2] c_laws_FnOptionsOf := ⟨Try.f8, _, Try.func8, rfl, by kernel_rfl, by kernel_rfl, by kernel_rfl, by kernel_rfl⟩

-- 1 parameters, results [.t 2], 53 slots, modes [false]
@[simp] abbrev n_laws_FnDead : Nat := 9

def c_laws_FnDead : ACode :=
  .seq (.reg [⟨(some 2), .mv, [.c (.v (.bool false))], none⟩]) <|
  .seq (.seq (.reg [⟨(some 9), .mv, [.t 0], none⟩,
    ⟨(some 10), .len false, [.t 9], none⟩,
    ⟨(some 11), .bin .gtr 0, [.t 10, .c (.v (.int .i64 (1048576)))], none⟩]) <|
  .cond (.t 11) (
    .seq (.reg [⟨(some 2), .mv, [.c (.v (.bool true))], none⟩]) <|
    .ret) (
    .skip)) <|
  .seq (.reg [⟨(some 13), .mv, [.t 0], none⟩,
    ⟨(some 14), .call 43 [], [.t 13], none⟩,
    ⟨(some 12), .mv, [.t 14], none⟩,
    ⟨(some 15), .extr 0, [.t 12], none⟩,
    ⟨(some 16), .extr 1, [.t 12], none⟩,
    ⟨(some 17), .extr 2, [.t 12], none⟩,
    ⟨(some 3), .alloc [.v (.int .i64 (0)), .v (.int .i64 (0)), .os 1 []], [], none⟩,
    ⟨none, .store 3, [.t 3, .t 15], none⟩,
    ⟨(some 4), .mv, [.t 16], none⟩,
    ⟨(some 5), .mv, [.t 17], none⟩]) <|
  .seq (.reg [⟨(some 18), .load true 3, [.t 3], none⟩,
    ⟨(some 19), .mv, [.t 4], none⟩,
    ⟨(some 20), .mv, [.t 5], none⟩,
    ⟨(some 21), .call 44 [], [.t 18, .t 19, .t 20], none⟩,
    ⟨(some 6), .mv, [.t 21], none⟩]) <|
  .seq (.seq (.reg [⟨(some 22), .mv, [.t 6], none⟩,
    ⟨(some 23), .load true 3, [.t 3], none⟩,
    ⟨(some 24), .mv, [.t 4], none⟩,
    ⟨(some 25), .mv, [.t 5], none⟩,
    ⟨(some 26), .call 45 [], [.t 23, .t 24, .t 25], none⟩,
    ⟨(some 27), .bin .neq 2, [.t 22, .t 26], none⟩]) <|
  .cond (.t 27) (
    .seq (.reg [⟨(some 2), .mv, [.c (.v (.bool false))], none⟩]) <|
    .ret) (
    .skip)) <|
  .seq (.reg [⟨(some 29), .load true 3, [.t 3], none⟩,
    ⟨(some 30), .mv, [.t 4], none⟩,
    ⟨(some 31), .mv, [.t 5], none⟩,
    ⟨(some 32), .call 46 [], [.t 29, .t 30, .t 31], none⟩,
    ⟨(some 28), .mv, [.t 32], none⟩,
    ⟨(some 33), .extr 0, [.t 28], none⟩,
    ⟨(some 34), .extr 1, [.t 28], none⟩,
    ⟨(some 7), .mv, [.t 33], none⟩,
    ⟨(some 8), .mv, [.t 34], none⟩]) <|
  .seq (.reg [⟨(some 35), .mv, [.t 6], none⟩,
    ⟨(some 36), .mv, [.t 35], none⟩,
    ⟨(some 37), .mv, [.t 8], (some (36, true))⟩,
    ⟨(some 38), .pick, [.t 36, .t 37, .c (.v (.bool false))], none⟩,
    ⟨(some 39), .un .not, [.t 38], none⟩,
    ⟨(some 40), .mv, [.t 39], none⟩,
    ⟨(some 41), .mv, [.t 6], (some (40, true))⟩,
    ⟨(some 42), .mv, [.t 41], (some (40, true))⟩,
    ⟨(some 43), .load true 3, [.t 3], (some (42, true))⟩,
    ⟨(some 44), .mv, [.t 4], (some (42, true))⟩,
    ⟨(some 45), .mv, [.t 5], (some (42, true))⟩,
    ⟨(some 46), .call 30 [], [.t 43, .t 44, .t 45], (some (42, true))⟩,
    ⟨(some 47), .pick, [.t 42, .t 46, .c (.v (.bool false))], (some (40, true))⟩,
    ⟨(some 48), .un .not, [.t 47], (some (40, true))⟩,
    ⟨(some 49), .pick, [.t 40, .t 48, .c (.v (.bool false))], none⟩,
    ⟨(some 50), .mv, [.t 49], none⟩,
    ⟨(some 51), .call 17 [], [], (some (50, true))⟩,
    ⟨(some 52), .pick, [.t 50, .t 51, .c (.v (.bool false))], none⟩,
    ⟨(some 2), .mv, [.t 52], none⟩]) <|
  .ret

theorem k_laws_FnDead : cFn Try.prog n_laws_FnDead 53 [.t 2] c_laws_FnDead := ⟨Try.f9, _, Try.func9, rfl, by kernel_rfl, by kernel_rfl, by kernel_rfl, by kernel_rfl⟩

-- 1 parameters, results [.t 2], 93 slots, modes [false]
@[simp] abbrev n_laws_FnSolveFirst : Nat := 10
def c_laws_FnSolveFirst_T0 : ACode :=
  .seq (.reg [⟨(some 69), .mv, [.t 7], none⟩,
    ⟨(some 70), .mv, [.t 69], none⟩,
    ⟨(some 71), .load true 3, [.t 3], (some (70, true))⟩,
    ⟨(some 72), .mv, [.t 4], (some (70, true))⟩,
    ⟨(some 73), .mv, [.t 6], (some (70, true))⟩,
    ⟨(some 74), .call 30 [], [.t 71, .t 72, .t 73], (some (70, true))⟩,
    ⟨(some 75), .pick, [.t 70, .t 74, .c (.v (.bool false))], none⟩,
    ⟨(some 76), .mv, [.t 75], none⟩,
    ⟨(some 77), .mv, [.t 6], (some (76, true))⟩,
    ⟨(some 78), .mv, [.t 5], (some (76, true))⟩,
    ⟨(some 79), .call 49 [], [.t 77, .t 78], (some (76, true))⟩,
    ⟨(some 80), .pick, [.t 76, .t 79, .c (.v (.bool false))], none⟩,
    ⟨(some 81), .mv, [.t 80], none⟩,
    ⟨(some 82), .mv, [.t 7], (some (81, false))⟩,
    ⟨(some 83), .un .not, [.t 82], (some (81, false))⟩,
    ⟨(some 84), .mv, [.t 83], (some (81, false))⟩,
    ⟨(some 85), .mv, [.t 6], (some (84, true))⟩,
    ⟨(some 86), .len false, [.t 85], (some (84, true))⟩,
    ⟨(some 87), .bin .eql 0, [.t 86, .c (.v (.int .i64 (0)))], (some (84, true))⟩,
    ⟨(some 88), .pick, [.t 84, .t 87, .c (.v (.bool false))], (some (81, false))⟩,
    ⟨(some 89), .pick, [.t 81, .c (.v (.bool true)), .t 88], none⟩,
    ⟨(some 90), .mv, [.t 89], none⟩,
    ⟨(some 91), .call 17 [], [], (some (90, true))⟩,
    ⟨(some 92), .pick, [.t 90, .t 91, .c (.v (.bool false))], none⟩,
    ⟨(some 2), .mv, [.t 92], none⟩]) <|
  .ret

def c_laws_FnSolveFirst : ACode :=
  .seq (.reg [⟨(some 2), .mv, [.c (.v (.bool false))], none⟩]) <|
  .seq (.seq (.reg [⟨(some 13), .mv, [.t 0], none⟩,
    ⟨(some 14), .len false, [.t 13], none⟩,
    ⟨(some 15), .bin .gtr 0, [.t 14, .c (.v (.int .i64 (1048576)))], none⟩]) <|
  .cond (.t 15) (
    .seq (.reg [⟨(some 2), .mv, [.c (.v (.bool true))], none⟩]) <|
    .ret) (
    .skip)) <|
  .seq (.reg [⟨(some 17), .mv, [.t 0], none⟩,
    ⟨(some 18), .call 47 [], [.t 17], none⟩,
    ⟨(some 16), .mv, [.t 18], none⟩,
    ⟨(some 19), .extr 0, [.t 16], none⟩,
    ⟨(some 20), .extr 1, [.t 16], none⟩,
    ⟨(some 21), .extr 2, [.t 16], none⟩,
    ⟨(some 3), .alloc [.v (.int .i64 (0)), .v (.int .i64 (0)), .os 1 []], [], none⟩,
    ⟨none, .store 3, [.t 3, .t 19], none⟩,
    ⟨(some 4), .mv, [.t 20], none⟩,
    ⟨(some 5), .mv, [.t 21], none⟩]) <|
  .seq (.reg [⟨(some 23), .load true 3, [.t 3], none⟩,
    ⟨(some 24), .mv, [.t 4], none⟩,
    ⟨(some 25), .mv, [.t 5], none⟩,
    ⟨(some 26), .call 46 [], [.t 23, .t 24, .t 25], none⟩,
    ⟨(some 22), .mv, [.t 26], none⟩,
    ⟨(some 27), .extr 0, [.t 22], none⟩,
    ⟨(some 28), .extr 1, [.t 22], none⟩,
    ⟨(some 6), .mv, [.t 27], none⟩,
    ⟨(some 7), .mv, [.t 28], none⟩]) <|
  .seq (.reg [⟨(some 30), .load true 3, [.t 3], none⟩,
    ⟨(some 31), .mv, [.t 4], none⟩,
    ⟨(some 32), .mv, [.t 5], none⟩,
    ⟨(some 33), .call 48 [], [.t 30, .t 31, .t 32], none⟩,
    ⟨(some 29), .mv, [.t 33], none⟩,
    ⟨(some 34), .extr 0, [.t 29], none⟩,
    ⟨(some 35), .extr 1, [.t 29], none⟩,
    ⟨(some 8), .mv, [.t 34], none⟩,
    ⟨(some 9), .mv, [.t 35], none⟩]) <|
  .seq (.seq (.reg [⟨(some 36), .mv, [.t 6], none⟩,
    ⟨(some 37), .mv, [.t 8], none⟩,
    ⟨(some 38), .call 20 [], [.t 36, .t 37], none⟩,
    ⟨(some 39), .un .not, [.t 38], none⟩,
    ⟨(some 40), .mv, [.t 39], none⟩,
    ⟨(some 41), .mv, [.t 7], (some (40, false))⟩,
    ⟨(some 42), .mv, [.t 9], (some (40, false))⟩,
    ⟨(some 43), .bin .neq 2, [.t 41, .t 42], (some (40, false))⟩,
    ⟨(some 44), .pick, [.t 40, .c (.v (.bool true)), .t 43], none⟩]) <|
  .cond (.t 44) (
    .seq (.reg [⟨(some 2), .mv, [.c (.v (.bool false))], none⟩]) <|
    .ret) (
    .skip)) <|
  .seq (.reg [⟨(some 45), .load true 3, [.t 3], none⟩,
    ⟨(some 46), .mv, [.t 4], none⟩,
    ⟨(some 47), .call 32 [], [.t 45, .t 46], none⟩,
    ⟨(some 10), .mv, [.t 47], none⟩]) <|
  .seq (.seq (.reg [⟨(some 48), .mv, [.t 10], none⟩,
    ⟨(some 49), .len false, [.t 48], none⟩,
    ⟨(some 50), .bin .gtr 0, [.t 49, .c (.v (.int .i64 (0)))], none⟩]) <|
  .cond (.t 50) (
    .seq (.draw (
      .take ⟨(some 53), .mv, [.t 4], none⟩ <|
      .alt ⟨(some 52), .load true 3, [.t 3], none⟩ (
        .alt ⟨(some 54), .load true 3, [.t 3], none⟩ (
          .alt ⟨(some 55), .call 41 [], [.t 54], none⟩ (
            .alt ⟨(some 56), .call 46 [], [.t 52, .t 53, .t 55], none⟩ (
              .take ⟨(some 51), .mv, [.t 56], none⟩ <|
              .take ⟨(some 57), .extr 0, [.t 51], none⟩ <|
              .take ⟨(some 58), .extr 1, [.t 51], none⟩ <|
              .take ⟨(some 11), .mv, [.t 57], none⟩ <|
              .take ⟨(some 12), .mv, [.t 58], none⟩ <|
              .done) <|
            .stop) <|
          .stop) <|
        .stop) <|
      .alt ⟨(some 54), .load true 3, [.t 3], none⟩ (
        .alt ⟨(some 52), .load true 3, [.t 3], none⟩ (
          .alt ⟨(some 55), .call 41 [], [.t 54], none⟩ (
            .alt ⟨(some 56), .call 46 [], [.t 52, .t 53, .t 55], none⟩ (
              .take ⟨(some 51), .mv, [.t 56], none⟩ <|
              .take ⟨(some 57), .extr 0, [.t 51], none⟩ <|
              .take ⟨(some 58), .extr 1, [.t 51], none⟩ <|
              .take ⟨(some 11), .mv, [.t 57], none⟩ <|
              .take ⟨(some 12), .mv, [.t 58], none⟩ <|
              .done) <|
            .stop) <|
          .stop) <|
        .alt ⟨(some 55), .call 41 [], [.t 54], none⟩ (
          .alt ⟨(some 52), .load true 3, [.t 3], none⟩ (
            .alt ⟨(some 56), .call 46 [], [.t 52, .t 53, .t 55], none⟩ (
              .take ⟨(some 51), .mv, [.t 56], none⟩ <|
              .take ⟨(some 57), .extr 0, [.t 51], none⟩ <|
              .take ⟨(some 58), .extr 1, [.t 51], none⟩ <|
              .take ⟨(some 11), .mv, [.t 57], none⟩ <|
              .take ⟨(some 12), .mv, [.t 58], none⟩ <|
              .done) <|
            .stop) <|
          .stop) <|
        .stop) <|
      .stop)) <|
    .seq (.reg [⟨(some 59), .mv, [.t 12], none⟩,
      ⟨(some 60), .un .not, [.t 59], none⟩,
      ⟨(some 61), .mv, [.t 60], none⟩,
      ⟨(some 62), .mv, [.t 11], (some (61, false))⟩,
      ⟨(some 63), .mv, [.t 10], (some (61, false))⟩,
      ⟨(some 64), .iadr 1, [.t 63, .c (.v (.int .i64 (0)))], (some (61, false))⟩,
      ⟨(some 65), .load false 1, [.t 64], (some (61, false))⟩,
      ⟨(some 66), .call 20 [], [.t 62, .t 65], (some (61, false))⟩,
      ⟨(some 67), .un .not, [.t 66], (some (61, false))⟩,
      ⟨(some 68), .pick, [.t 61, .c (.v (.bool true)), .t 67], none⟩]) <|
    .cond (.t 68) (
      .seq (.reg [⟨(some 2), .mv, [.c (.v (.bool false))], none⟩]) <|
      .ret) (
      .skip)) (
    .skip)) <|
  .gc [] [3, 4, 5, 6, 7] c_laws_FnSolveFirst_T0

theorem k_laws_FnSolveFirst : cFn Try.prog n_laws_FnSolveFirst 93 [.t 2] c_laws_FnSolveFirst := ⟨Try.f10, _, Try.func10, rfl, by kernel_rfl, by kernel_rfl, by kernel_rfl, by kernel_rfl⟩

-- 1 parameters, results [.t 2], 43 slots, modes [false]
@[simp] abbrev n_laws_FnRelabel : Nat := 11

def c_laws_FnRelabel : ACode :=
  .seq (.reg [⟨(some 2), .mv, [.c (.v (.bool false))], none⟩]) <|
  .seq (.seq (.reg [⟨(some 7), .mv, [.t 0], none⟩,
    ⟨(some 8), .len false, [.t 7], none⟩,
    ⟨(some 9), .bin .gtr 0, [.t 8, .c (.v (.int .i64 (1048576)))], none⟩]) <|
  .cond (.t 9) (
    .seq (.reg [⟨(some 2), .mv, [.c (.v (.bool true))], none⟩]) <|
    .ret) (
    .skip)) <|
  .seq (.reg [⟨(some 11), .mv, [.t 0], none⟩,
    ⟨(some 12), .call 50 [], [.t 11], none⟩,
    ⟨(some 10), .mv, [.t 12], none⟩,
    ⟨(some 13), .extr 0, [.t 10], none⟩,
    ⟨(some 14), .extr 1, [.t 10], none⟩,
    ⟨(some 15), .extr 2, [.t 10], none⟩,
    ⟨(some 3), .alloc [.v (.int .i64 (0)), .v (.int .i64 (0)), .os 1 []], [], none⟩,
    ⟨none, .store 3, [.t 3, .t 13], none⟩,
    ⟨(some 4), .mv, [.t 14], none⟩,
    ⟨(some 5), .mv, [.t 15], none⟩]) <|
  .seq (.reg [⟨(some 16), .load true 3, [.t 3], none⟩,
    ⟨(some 17), .mv, [.t 4], none⟩,
    ⟨(some 18), .mv, [.t 5], none⟩,
    ⟨(some 19), .call 51 [], [.t 16, .t 17, .t 18], none⟩,
    ⟨(some 6), .mv, [.t 19], none⟩]) <|
  .seq (.seq (.reg [⟨(some 20), .mv, [.t 6], none⟩,
    ⟨(some 21), .load true 3, [.t 3], none⟩,
    ⟨(some 22), .mv, [.t 4], none⟩,
    ⟨(some 23), .mv, [.t 5], none⟩,
    ⟨(some 24), .call 52 [], [.t 21, .t 22, .t 23], none⟩,
    ⟨(some 25), .call 20 [], [.t 20, .t 24], none⟩,
    ⟨(some 26), .un .not, [.t 25], none⟩]) <|
  .cond (.t 26) (
    .seq (.reg [⟨(some 2), .mv, [.c (.v (.bool false))], none⟩]) <|
    .ret) (
    .skip)) <|
  .seq (.seq (.reg [⟨(some 27), .mv, [.t 6], none⟩,
    ⟨(some 28), .len false, [.t 27], none⟩,
    ⟨(some 29), .bin .eql 0, [.t 28, .c (.v (.int .i64 (0)))], none⟩]) <|
  .cond (.t 29) (
    .seq (.reg [⟨(some 30), .call 17 [], [], none⟩,
      ⟨(some 2), .mv, [.t 30], none⟩]) <|
    .ret) (
    .skip)) <|
  .seq (.draw (
    .take ⟨(some 32), .mv, [.t 6], none⟩ <|
    .alt ⟨(some 31), .load true 3, [.t 3], none⟩ (
      .alt ⟨(some 33), .call 15 [], [.t 31, .t 32], none⟩ (
        .take ⟨(some 34), .mv, [.t 33], none⟩ <|
        .take ⟨(some 36), .mv, [.t 6], (some (34, true))⟩ <|
        .take ⟨(some 39), .mv, [.t 4], (some (34, true))⟩ <|
        .alt ⟨(some 35), .load true 3, [.t 3], (some (34, true))⟩ (
          .alt ⟨(some 37), .call 32 [], [.t 35, .t 36], (some (34, true))⟩ (
            .alt ⟨(some 38), .load true 3, [.t 3], (some (34, true))⟩ (
              .alt ⟨(some 40), .call 32 [], [.t 38, .t 39], (some (34, true))⟩ (
                .alt ⟨(some 41), .call 34 [], [.t 37, .t 40], (some (34, true))⟩ (
                  .take ⟨(some 42), .pick, [.t 34, .t 41, .c (.v (.bool false))], none⟩ <|
                  .take ⟨(some 2), .mv, [.t 42], none⟩ <|
                  .done) <|
                .stop) <|
              .stop) <|
            .stop) <|
          .alt ⟨(some 38), .load true 3, [.t 3], (some (34, true))⟩ (
            .alt ⟨(some 37), .call 32 [], [.t 35, .t 36], (some (34, true))⟩ (
              .alt ⟨(some 40), .call 32 [], [.t 38, .t 39], (some (34, true))⟩ (
                .alt ⟨(some 41), .call 34 [], [.t 37, .t 40], (some (34, true))⟩ (
                  .take ⟨(some 42), .pick, [.t 34, .t 41, .c (.v (.bool false))], none⟩ <|
                  .take ⟨(some 2), .mv, [.t 42], none⟩ <|
                  .done) <|
                .stop) <|
              .stop) <|
            .stop) <|
          .stop) <|
        .alt ⟨(some 38), .load true 3, [.t 3], (some (34, true))⟩ (
          .alt ⟨(some 35), .load true 3, [.t 3], (some (34, true))⟩ (
            .alt ⟨(some 37), .call 32 [], [.t 35, .t 36], (some (34, true))⟩ (
              .alt ⟨(some 40), .call 32 [], [.t 38, .t 39], (some (34, true))⟩ (
                .alt ⟨(some 41), .call 34 [], [.t 37, .t 40], (some (34, true))⟩ (
                  .take ⟨(some 42), .pick, [.t 34, .t 41, .c (.v (.bool false))], none⟩ <|
                  .take ⟨(some 2), .mv, [.t 42], none⟩ <|
                  .done) <|
                .stop) <|
              .stop) <|
            .stop) <|
          .stop) <|
        .stop) <|
      .stop) <|
    .stop)) <|
  .ret

theorem k_laws_FnRelabel : cFn Try.prog n_laws_FnRelabel 43 [.t 2] c_laws_FnRelabel := ⟨Try.f11, _, Try.func11, rfl, by kernel_rfl, by kernel_rfl, by kernel_rfl, by kernel_rfl⟩

-- 1 parameters, results [.t 2], 54 slots, modes [false]
@[simp] abbrev n_laws_FnMakePuzzle : Nat := 12

def c_laws_FnMakePuzzle : ACode :=
  .seq (.reg [⟨(some 2), .mv, [.c (.v (.bool false))], none⟩]) <|
  .seq (.seq (.reg [⟨(some 7), .mv, [.t 0], none⟩,
    ⟨(some 8), .len false, [.t 7], none⟩,
    ⟨(some 9), .bin .gtr 0, [.t 8, .c (.v (.int .i64 (1048576)))], none⟩]) <|
  .cond (.t 9) (
    .seq (.reg [⟨(some 2), .mv, [.c (.v (.bool true))], none⟩]) <|
    .ret) (
    .skip)) <|
  .seq (.reg [⟨(some 11), .mv, [.t 0], none⟩,
    ⟨(some 12), .call 53 [], [.t 11], none⟩,
    ⟨(some 10), .mv, [.t 12], none⟩,
    ⟨(some 13), .extr 0, [.t 10], none⟩,
    ⟨(some 14), .extr 1, [.t 10], none⟩,
    ⟨(some 15), .extr 2, [.t 10], none⟩,
    ⟨(some 3), .alloc [.v (.int .i64 (0)), .v (.int .i64 (0)), .os 1 []], [], none⟩,
    ⟨none, .store 3, [.t 3, .t 13], none⟩,
    ⟨(some 4), .mv, [.t 14], none⟩,
    ⟨(some 5), .mv, [.t 15], none⟩]) <|
  .seq (.reg [⟨(some 16), .load true 3, [.t 3], none⟩,
    ⟨(some 17), .mv, [.t 4], none⟩,
    ⟨(some 18), .mv, [.t 5], none⟩,
    ⟨(some 19), .call 54 [], [.t 16, .t 17, .t 18], none⟩,
    ⟨(some 6), .mv, [.t 19], none⟩]) <|
  .seq (.seq (.reg [⟨(some 20), .mv, [.t 6], none⟩,
    ⟨(some 21), .load true 3, [.t 3], none⟩,
    ⟨(some 22), .mv, [.t 4], none⟩,
    ⟨(some 23), .mv, [.t 5], none⟩,
    ⟨(some 24), .call 55 [], [.t 21, .t 22, .t 23], none⟩,
    ⟨(some 25), .call 20 [], [.t 20, .t 24], none⟩,
    ⟨(some 26), .un .not, [.t 25], none⟩]) <|
  .cond (.t 26) (
    .seq (.reg [⟨(some 2), .mv, [.c (.v (.bool false))], none⟩]) <|
    .ret) (
    .skip)) <|
  .seq (.seq (.reg [⟨(some 27), .load true 3, [.t 3], none⟩,
    ⟨(some 28), .mv, [.t 4], none⟩,
    ⟨(some 29), .call 56 [], [.t 27, .t 28], none⟩,
    ⟨(some 30), .un .not, [.t 29], none⟩,
    ⟨(some 31), .mv, [.t 30], none⟩,
    ⟨(some 32), .mv, [.t 5], (some (31, false))⟩,
    ⟨(some 33), .bin .lss 0, [.t 32, .c (.v (.int .i64 (0)))], (some (31, false))⟩,
    ⟨(some 34), .pick, [.t 31, .c (.v (.bool true)), .t 33], none⟩,
    ⟨(some 35), .mv, [.t 34], none⟩,
    ⟨(some 36), .mv, [.t 5], (some (35, false))⟩,
    ⟨(some 37), .bin .gtr 0, [.t 36, .c (.v (.int .i64 (27)))], (some (35, false))⟩,
    ⟨(some 38), .pick, [.t 35, .c (.v (.bool true)), .t 37], none⟩]) <|
  .cond (.t 38) (
    .seq (.reg [⟨(some 39), .mv, [.t 6], none⟩,
      ⟨(some 40), .len false, [.t 39], none⟩,
      ⟨(some 41), .bin .eql 0, [.t 40, .c (.v (.int .i64 (0)))], none⟩,
      ⟨(some 42), .mv, [.t 41], none⟩,
      ⟨(some 43), .call 17 [], [], (some (42, true))⟩,
      ⟨(some 44), .pick, [.t 42, .t 43, .c (.v (.bool false))], none⟩,
      ⟨(some 2), .mv, [.t 44], none⟩]) <|
    .ret) (
    .skip)) <|
  .seq (.reg [⟨(some 45), .load true 3, [.t 3], none⟩,
    ⟨(some 46), .mv, [.t 6], none⟩,
    ⟨(some 47), .call 15 [], [.t 45, .t 46], none⟩,
    ⟨(some 48), .mv, [.t 47], none⟩,
    ⟨(some 49), .load true 3, [.t 3], (some (48, true))⟩,
    ⟨(some 50), .mv, [.t 6], (some (48, true))⟩,
    ⟨(some 51), .mv, [.t 4], (some (48, true))⟩,
    ⟨(some 52), .call 30 [], [.t 49, .t 50, .t 51], (some (48, true))⟩,
    ⟨(some 53), .pick, [.t 48, .t 52, .c (.v (.bool false))], none⟩,
    ⟨(some 2), .mv, [.t 53], none⟩]) <|
  .ret

theorem k_laws_FnMakePuzzle : cFn Try.prog n_laws_FnMakePuzzle 54 [.t 2] c_laws_FnMakePuzzle := ⟨Try.f12, _, Try.func12, rfl, by kernel_rfl, by kernel_rfl, by kernel_rfl, by kernel_rfl⟩

end Go.Proofs.Dev
