/- Contracts of the functions of the program over slots and rows, each proved against the program itself; no condition beyond those that each theorem names. -/
import Derived.Test.YtlcoaglnegibkaaO
import Derived.Test.YtlcoaglnegibkaaProg

set_option linter.unusedSimpArgs false
set_option linter.unusedVariables false

namespace Go.Proofs.Dev

-- 3 parameters, results [.t 6], 82 slots, modes [false, false, false]
@[simp] abbrev n_spec_MakePuzzle : Nat := 55
def c_spec_MakePuzzle_L0 : ACode :=
  .seq (.seq (.reg [⟨(some 23), .mv, [.t 8], none⟩,
    ⟨(some 24), .mv, [.t 1], none⟩,
    ⟨(some 25), .len false, [.t 24], none⟩,
    ⟨(some 26), .bin .lss 0, [.t 23, .t 25], none⟩]) <|
  .cond (.t 26) (
    .skip) (
    .exit 0)) <|
  .seq (.block 1 (
    .reg [⟨(some 29), .mv, [.t 7], none⟩,
      ⟨(some 30), .bsl 1, [.c (.v (.int .i64 (-1)))], none⟩,
      ⟨(some 31), .app 1 8 true, [.t 29, .t 30], none⟩,
      ⟨(some 7), .mv, [.t 31], none⟩])) <|
  .reg [⟨(some 27), .mv, [.t 8], none⟩,
    ⟨(some 28), .bin .add 0, [.t 27, .c (.v (.int .i64 (1)))], none⟩,
    ⟨(some 8), .mv, [.t 28], none⟩]

def c_spec_MakePuzzle_L1 : ACode :=
  .seq (.seq (.reg [⟨(some 52), .mv, [.t 10], none⟩,
    ⟨(some 53), .mv, [.t 11], none⟩,
    ⟨(some 54), .bin .sub 0, [.c (.v (.int .i64 (6))), .t 53], none⟩,
    ⟨(some 55), .bin .gtr 0, [.t 52, .t 54], none⟩]) <|
  .cond (.t 55) (
    .skip) (
    .exit 4)) <|
  .block 5 (
    .seq (.reg [⟨(some 56), .mv, [.t 10], none⟩,
      ⟨(some 57), .mv, [.t 11], none⟩,
      ⟨(some 58), .bin .sub 0, [.c (.v (.int .i64 (6))), .t 57], none⟩,
      ⟨(some 59), .bin .add 0, [.t 58, .c (.v (.int .i64 (1)))], none⟩,
      ⟨(some 60), .bin .sub 0, [.t 56, .t 59], none⟩,
      ⟨(some 10), .mv, [.t 60], none⟩]) <|
    .reg [⟨(some 61), .mv, [.t 11], none⟩,
      ⟨(some 62), .bin .add 0, [.t 61, .c (.v (.int .i64 (1)))], none⟩,
      ⟨(some 11), .mv, [.t 62], none⟩])

def c_spec_MakePuzzle_D : ACode :=
  .draw (
        .take ⟨(some 67), .mv, [.t 7], none⟩ <|
        .take ⟨(some 69), .mv, [.t 9], none⟩ <|
        .take ⟨(some 70), .mv, [.t 1], none⟩ <|
        .take ⟨(some 71), .mv, [.t 9], none⟩ <|
        .take ⟨(some 72), .iadr 1, [.t 70, .t 71], none⟩ <|
        .take ⟨(some 75), .mv, [.t 11], none⟩ <|
        .take ⟨(some 76), .mv, [.t 10], none⟩ <|
        .take ⟨(some 77), .bin .add 0, [.t 75, .t 76], none⟩ <|
        .alt ⟨(some 68), .load true 3, [.t 3], none⟩ (
          .alt ⟨(some 73), .load false 1, [.t 72], none⟩ (
            .alt ⟨(some 74), .call 73 [], [.t 68, .t 69, .t 73], none⟩ (
              .take ⟨(some 78), .iadr 1, [.t 67, .t 74], none⟩ <|
              .alt ⟨none, .store 1, [.t 78, .t 77], none⟩ (
                .done) <|
              .stop) <|
            .stop) <|
          .stop) <|
        .alt ⟨(some 73), .load false 1, [.t 72], none⟩ (
          .alt ⟨(some 68), .load true 3, [.t 3], none⟩ (
            .alt ⟨(some 74), .call 73 [], [.t 68, .t 69, .t 73], none⟩ (
              .take ⟨(some 78), .iadr 1, [.t 67, .t 74], none⟩ <|
              .alt ⟨none, .store 1, [.t 78, .t 77], none⟩ (
                .done) <|
              .stop) <|
            .stop) <|
          .stop) <|
        .stop)

def c_spec_MakePuzzle_L2 : ACode :=
  .seq (.seq (.reg [⟨(some 32), .mv, [.t 9], none⟩,
    ⟨(some 33), .mv, [.t 1], none⟩,
    ⟨(some 34), .len false, [.t 33], none⟩,
    ⟨(some 35), .bin .lss 0, [.t 32, .t 34], none⟩]) <|
  .cond (.t 35) (
    .skip) (
    .exit 2)) <|
  .seq (.block 3 (
    .seq (.reg [⟨(some 38), .mv, [.t 1], none⟩,
      ⟨(some 39), .mv, [.t 9], none⟩,
      ⟨(some 40), .iadr 1, [.t 38, .t 39], none⟩,
      ⟨(some 41), .load false 1, [.t 40], none⟩,
      ⟨(some 42), .bin .eql 0, [.t 41, .c (.v (.int .i64 (1)))], none⟩,
      ⟨(some 43), .mv, [.t 42], none⟩,
      ⟨(some 44), .mv, [.t 1], (some (43, false))⟩,
      ⟨(some 45), .mv, [.t 9], (some (43, false))⟩,
      ⟨(some 46), .iadr 1, [.t 44, .t 45], (some (43, false))⟩,
      ⟨(some 47), .load false 1, [.t 46], (some (43, false))⟩,
      ⟨(some 48), .bin .eql 0, [.t 47, .c (.v (.int .i64 (2)))], (some (43, false))⟩,
      ⟨(some 49), .pick, [.t 43, .c (.v (.bool true)), .t 48], none⟩]) <|
    .cond (.t 49) (
      .seq (.reg [⟨(some 50), .mv, [.t 2], none⟩,
        ⟨(some 51), .bin .rem 0, [.t 50, .c (.v (.int .i64 (28)))], none⟩,
        ⟨(some 10), .mv, [.t 51], none⟩]) <|
      .seq (.reg [⟨(some 11), .mv, [.c (.v (.int .i64 (0)))], none⟩]) <|
      .seq (.block 4 (
        .loop [(1, 1), (7, 1)] [1, 2, 3, 7, 9, 10, 11] c_spec_MakePuzzle_L1)) <|
      .seq (.reg [⟨(some 63), .mv, [.t 7], none⟩,
        ⟨(some 64), .mv, [.t 9], none⟩,
        ⟨(some 65), .mv, [.t 11], none⟩,
        ⟨(some 66), .iadr 1, [.t 63, .t 64], none⟩,
        ⟨none, .store 1, [.t 66, .t 65], none⟩]) <|
      .seq c_spec_MakePuzzle_D <|
      .reg [⟨(some 79), .mv, [.t 2], none⟩,
        ⟨(some 80), .bin .add 0, [.t 79, .c (.v (.int .i64 (1)))], none⟩,
        ⟨(some 2), .mv, [.t 80], none⟩]) (
      .skip))) <|
  .reg [⟨(some 36), .mv, [.t 9], none⟩,
    ⟨(some 37), .bin .add 0, [.t 36, .c (.v (.int .i64 (1)))], none⟩,
    ⟨(some 9), .mv, [.t 37], none⟩]

def c_spec_MakePuzzle : ACode :=
  .seq (.reg [⟨(some 3), .box, [.t 0], none⟩,
    ⟨(some 6), .mv, [.c (.os 1 [])], none⟩]) <|
  .seq (.seq (.reg [⟨(some 12), .load true 3, [.t 3], none⟩,
    ⟨(some 13), .mv, [.t 1], none⟩,
    ⟨(some 14), .call 56 [], [.t 12, .t 13], none⟩,
    ⟨(some 15), .un .not, [.t 14], none⟩,
    ⟨(some 16), .mv, [.t 15], none⟩,
    ⟨(some 17), .mv, [.t 2], (some (16, false))⟩,
    ⟨(some 18), .call 67 [], [.t 17, .c (.v (.int .i64 (0))), .c (.v (.int .i64 (27)))], (some (16, false))⟩,
    ⟨(some 19), .un .not, [.t 18], (some (16, false))⟩,
    ⟨(some 20), .pick, [.t 16, .c (.v (.bool true)), .t 19], none⟩]) <|
  .cond (.t 20) (
    .seq (.reg [⟨(some 21), .bsl 1, [], none⟩,
      ⟨(some 6), .mv, [.t 21], none⟩]) <|
    .ret) (
    .skip)) <|
  .seq (.reg [⟨(some 22), .bsl 1, [], none⟩,
    ⟨(some 7), .mv, [.t 22], none⟩]) <|
  .seq (.seq (.reg [⟨(some 8), .mv, [.c (.v (.int .i64 (0)))], none⟩]) <|
  .block 0 (
    .loop [(1, 1), (7, 1)] [1, 2, 3, 7, 8] c_spec_MakePuzzle_L0)) <|
  .seq (.seq (.reg [⟨(some 9), .mv, [.c (.v (.int .i64 (0)))], none⟩]) <|
  .block 2 (
    .loop [(1, 1), (7, 1)] [1, 2, 3, 7, 9] c_spec_MakePuzzle_L2)) <|
  .seq (.reg [⟨(some 81), .mv, [.t 7], none⟩,
    ⟨(some 6), .mv, [.t 81], none⟩]) <|
  .ret

theorem k_spec_MakePuzzle : cFn Try.prog n_spec_MakePuzzle 82 [.t 6] c_spec_MakePuzzle := ⟨Try.f55, _, Try.func55, rfl, by kernel_rfl, by kernel_rfl, by kernel_rfl, by kernel_rfl⟩

-- 0 parameters, results [.t 0], 20 slots, modes []
@[simp] abbrev n_impl_allPairs : Nat := 100
def c_impl_allPairs_L0 : ACode :=
  .seq (.seq (.reg [⟨(some 9), .mv, [.t 3], none⟩,
    ⟨(some 10), .bin .leq 0, [.t 9, .c (.v (.int .i64 (6)))], none⟩]) <|
  .cond (.t 10) (
    .skip) (
    .exit 2)) <|
  .seq (.block 3 (
    .reg [⟨(some 13), .mv, [.t 1], none⟩,
      ⟨(some 14), .mv, [.t 2], none⟩,
      ⟨(some 15), .mv, [.t 3], none⟩,
      ⟨(some 16), .build [.v (.int .i64 (0)), .v (.int .i64 (0))] [(0, 1), (1, 1)], [.t 14, .t 15], none⟩,
      ⟨(some 17), .bsl 2, [.t 16], none⟩,
      ⟨(some 18), .app 2 16 true, [.t 13, .t 17], none⟩,
      ⟨(some 1), .mv, [.t 18], none⟩])) <|
  .reg [⟨(some 11), .mv, [.t 3], none⟩,
    ⟨(some 12), .bin .add 0, [.t 11, .c (.v (.int .i64 (1)))], none⟩,
    ⟨(some 3), .mv, [.t 12], none⟩]

def c_impl_allPairs_L1 : ACode :=
  .seq (.seq (.reg [⟨(some 4), .mv, [.t 2], none⟩,
    ⟨(some 5), .bin .leq 0, [.t 4, .c (.v (.int .i64 (6)))], none⟩]) <|
  .cond (.t 5) (
    .skip) (
    .exit 0)) <|
  .seq (.block 1 (
    .seq (.reg [⟨(some 8), .mv, [.t 2], none⟩,
      ⟨(some 3), .mv, [.t 8], none⟩]) <|
    .block 2 (
      .loop [(1, 2)] [1, 2, 3] c_impl_allPairs_L0))) <|
  .reg [⟨(some 6), .mv, [.t 2], none⟩,
    ⟨(some 7), .bin .add 0, [.t 6, .c (.v (.int .i64 (1)))], none⟩,
    ⟨(some 2), .mv, [.t 7], none⟩]

def c_impl_allPairs : ACode :=
  .seq (.reg [⟨(some 0), .mv, [.c (.os 2 [])], none⟩]) <|
  .seq (.reg [⟨(some 1), .mv, [.c (.os 2 [])], none⟩]) <|
  .seq (.seq (.reg [⟨(some 2), .mv, [.c (.v (.int .i64 (0)))], none⟩]) <|
  .block 0 (
    .loop [(1, 2)] [1, 2] c_impl_allPairs_L1)) <|
  .seq (.reg [⟨(some 19), .mv, [.t 1], none⟩,
    ⟨(some 0), .mv, [.t 19], none⟩]) <|
  .ret

theorem k_impl_allPairs : cFn Try.prog n_impl_allPairs 20 [.t 0] c_impl_allPairs := ⟨Try.f100, _, Try.func100, rfl, by kernel_rfl, by kernel_rfl, by kernel_rfl, by kernel_rfl⟩

-- 2 parameters, results [.t 4], 48 slots, modes [false, false]
@[simp] abbrev n_slices_Repeat_int_int : Nat := 103
def c_slices_Repeat_int_int_L0 : ACode :=
  .seq (.seq (.reg [⟨(some 34), .mv, [.t 8], none⟩,
    ⟨(some 35), .mv, [.t 7], none⟩,
    ⟨(some 36), .len false, [.t 35], none⟩,
    ⟨(some 37), .bin .lss 0, [.t 34, .t 36], none⟩]) <|
  .cond (.t 37) (
    .skip) (
    .exit 0)) <|
  .block 1 (
    .draw (
      .take ⟨(some 38), .mv, [.t 8], none⟩ <|
      .take ⟨(some 39), .mv, [.t 7], none⟩ <|
      .take ⟨(some 40), .mv, [.t 8], none⟩ <|
      .take ⟨(some 41), .slice 1 false true false false, [.t 39, .t 40], none⟩ <|
      .take ⟨(some 42), .mv, [.t 7], none⟩ <|
      .take ⟨(some 43), .mv, [.t 8], none⟩ <|
      .take ⟨(some 44), .slice 1 false false true false, [.t 42, .t 43], none⟩ <|
      .alt ⟨(some 45), .copy, [.t 41, .t 44], none⟩ (
        .take ⟨(some 46), .bin .add 0, [.t 38, .t 45], none⟩ <|
        .take ⟨(some 8), .mv, [.t 46], none⟩ <|
        .done) <|
      .stop))

def c_slices_Repeat_int_int : ACode :=
  .seq (.reg [⟨(some 4), .mv, [.c (.os 1 [])], none⟩]) <|
  .seq (.seq (.reg [⟨(some 9), .mv, [.t 1], none⟩,
    ⟨(some 10), .bin .lss 0, [.t 9, .c (.v (.int .i64 (0)))], none⟩]) <|
  .cond (.t 10) (
    .fail) (
    .skip)) <|
  .seq (.reg [⟨(some 13), .mv, [.t 0], none⟩,
    ⟨(some 14), .len false, [.t 13], none⟩,
    ⟨(some 15), .conv .u64, [.t 14], none⟩,
    ⟨(some 16), .mv, [.t 1], none⟩,
    ⟨(some 17), .conv .u64, [.t 16], none⟩,
    ⟨(some 18), .call 130 [], [.t 15, .t 17], none⟩,
    ⟨(some 12), .mv, [.t 18], none⟩,
    ⟨(some 19), .extr 0, [.t 12], none⟩,
    ⟨(some 20), .extr 1, [.t 12], none⟩,
    ⟨(some 5), .mv, [.t 19], none⟩,
    ⟨(some 6), .mv, [.t 20], none⟩]) <|
  .seq (.seq (.reg [⟨(some 21), .mv, [.t 5], none⟩,
    ⟨(some 22), .bin .gtr 0, [.t 21, .c (.v (.int .u64 (0)))], none⟩,
    ⟨(some 23), .mv, [.t 22], none⟩,
    ⟨(some 24), .mv, [.t 6], (some (23, false))⟩,
    ⟨(some 25), .bin .gtr 0, [.t 24, .c (.v (.int .u64 (9223372036854775807)))], (some (23, false))⟩,
    ⟨(some 26), .pick, [.t 23, .c (.v (.bool true)), .t 25], none⟩]) <|
  .cond (.t 26) (
    .fail) (
    .skip)) <|
  .seq (.reg [⟨(some 28), .mv, [.t 6], none⟩,
    ⟨(some 29), .conv .i64, [.t 28], none⟩,
    ⟨(some 30), .mksl 1 8 (.v (.int .i64 (0))), [.t 29, .t 29], none⟩,
    ⟨(some 7), .mv, [.t 30], none⟩]) <|
  .seq (.reg [⟨(some 31), .mv, [.t 7], none⟩,
    ⟨(some 32), .mv, [.t 0], none⟩,
    ⟨(some 33), .copy, [.t 31, .t 32], none⟩,
    ⟨(some 8), .mv, [.t 33], none⟩]) <|
  .seq (.block 0 (
    .loop [(7, 1)] [7, 8] c_slices_Repeat_int_int_L0)) <|
  .seq (.reg [⟨(some 47), .mv, [.t 7], none⟩,
    ⟨(some 4), .mv, [.t 47], none⟩]) <|
  .ret

theorem k_slices_Repeat_int_int : cFn Try.prog n_slices_Repeat_int_int 48 [.t 4] c_slices_Repeat_int_int := ⟨Try.f103, _, Try.func103, rfl, by kernel_rfl, by kernel_rfl, by kernel_rfl, by kernel_rfl⟩

-- 2 parameters, results [.t 4], 12 slots, modes [false, false]
@[simp] abbrev n_impl_LaidOk : Nat := 75

def c_impl_LaidOk : ACode :=
  .seq (.reg [⟨(some 2), .box, [.t 0], none⟩,
    ⟨(some 4), .mv, [.c (.v (.bool false))], none⟩]) <|
  .seq (.reg [⟨(some 5), .load true 3, [.t 2], none⟩,
    ⟨(some 6), .call 64 [], [.t 5], none⟩,
    ⟨(some 7), .mv, [.t 6], none⟩,
    ⟨(some 8), .load true 3, [.t 2], (some (7, true))⟩,
    ⟨(some 9), .mv, [.t 1], (some (7, true))⟩,
    ⟨(some 10), .call 70 [], [.t 8, .t 9], (some (7, true))⟩,
    ⟨(some 11), .pick, [.t 7, .t 10, .c (.v (.bool false))], none⟩,
    ⟨(some 4), .mv, [.t 11], none⟩]) <|
  .ret

theorem k_impl_LaidOk : cFn Try.prog n_impl_LaidOk 12 [.t 4] c_impl_LaidOk := ⟨Try.f75, _, Try.func75, rfl, by kernel_rfl, by kernel_rfl, by kernel_rfl, by kernel_rfl⟩

-- 2 parameters, results [.t 4], 13 slots, modes [false, false]
@[simp] abbrev n_impl_TilingOk : Nat := 101

def c_impl_TilingOk : ACode :=
  .seq (.reg [⟨(some 2), .box, [.t 0], none⟩,
    ⟨(some 4), .mv, [.c (.v (.bool false))], none⟩]) <|
  .seq (.reg [⟨(some 5), .load true 3, [.t 2], none⟩,
    ⟨(some 6), .mv, [.t 1], none⟩,
    ⟨(some 7), .call 75 [], [.t 5, .t 6], none⟩,
    ⟨(some 8), .mv, [.t 7], none⟩,
    ⟨(some 9), .load true 3, [.t 2], (some (8, true))⟩,
    ⟨(some 10), .mv, [.t 1], (some (8, true))⟩,
    ⟨(some 11), .call 85 [], [.t 9, .t 10], (some (8, true))⟩,
    ⟨(some 12), .pick, [.t 8, .t 11, .c (.v (.bool false))], none⟩,
    ⟨(some 4), .mv, [.t 12], none⟩]) <|
  .ret

theorem k_impl_TilingOk : cFn Try.prog n_impl_TilingOk 13 [.t 4] c_impl_TilingOk := ⟨Try.f101, _, Try.func101, rfl, by kernel_rfl, by kernel_rfl, by kernel_rfl, by kernel_rfl⟩

-- 3 parameters, results [.t 6], 67 slots, modes [false, false, false]
@[simp] abbrev n_impl_MakePuzzle : Nat := 54
def c_impl_MakePuzzle_D : ACode :=
  .draw (
        .take ⟨(some 50), .mv, [.t 8], none⟩ <|
        .take ⟨(some 51), .mv, [.t 9], none⟩ <|
        .take ⟨(some 52), .mv, [.t 8], none⟩ <|
        .take ⟨(some 54), .mv, [.t 9], none⟩ <|
        .take ⟨(some 55), .mv, [.t 10], none⟩ <|
        .take ⟨(some 57), .fadr 0, [.t 11], none⟩ <|
        .take ⟨(some 59), .fadr 1, [.t 11], none⟩ <|
        .alt ⟨(some 53), .load true 3, [.t 3], none⟩ (
          .alt ⟨(some 56), .call 104 [], [.t 53, .t 54, .t 55], none⟩ (
            .alt ⟨(some 58), .load false 1, [.t 57], none⟩ (
              .take ⟨(some 61), .iadr 1, [.t 50, .t 51], none⟩ <|
              .alt ⟨(some 60), .load false 1, [.t 59], none⟩ (
                .alt ⟨none, .store 1, [.t 61, .t 58], none⟩ (
                  .take ⟨(some 62), .iadr 1, [.t 52, .t 56], none⟩ <|
                  .alt ⟨none, .store 1, [.t 62, .t 60], none⟩ (
                    .done) <|
                  .stop) <|
                .stop) <|
              .alt ⟨none, .store 1, [.t 61, .t 58], none⟩ (
                .alt ⟨(some 60), .load false 1, [.t 59], none⟩ (
                  .take ⟨(some 62), .iadr 1, [.t 52, .t 56], none⟩ <|
                  .alt ⟨none, .store 1, [.t 62, .t 60], none⟩ (
                    .done) <|
                  .stop) <|
                .stop) <|
              .stop) <|
            .alt ⟨(some 60), .load false 1, [.t 59], none⟩ (
              .alt ⟨(some 58), .load false 1, [.t 57], none⟩ (
                .take ⟨(some 61), .iadr 1, [.t 50, .t 51], none⟩ <|
                .alt ⟨none, .store 1, [.t 61, .t 58], none⟩ (
                  .take ⟨(some 62), .iadr 1, [.t 52, .t 56], none⟩ <|
                  .alt ⟨none, .store 1, [.t 62, .t 60], none⟩ (
                    .done) <|
                  .stop) <|
                .stop) <|
              .stop) <|
            .stop) <|
          .alt ⟨(some 58), .load false 1, [.t 57], none⟩ (
            .alt ⟨(some 56), .call 104 [], [.t 53, .t 54, .t 55], none⟩ (
              .take ⟨(some 61), .iadr 1, [.t 50, .t 51], none⟩ <|
              .alt ⟨(some 60), .load false 1, [.t 59], none⟩ (
                .alt ⟨none, .store 1, [.t 61, .t 58], none⟩ (
                  .take ⟨(some 62), .iadr 1, [.t 52, .t 56], none⟩ <|
                  .alt ⟨none, .store 1, [.t 62, .t 60], none⟩ (
                    .done) <|
                  .stop) <|
                .stop) <|
              .alt ⟨none, .store 1, [.t 61, .t 58], none⟩ (
                .alt ⟨(some 60), .load false 1, [.t 59], none⟩ (
                  .take ⟨(some 62), .iadr 1, [.t 52, .t 56], none⟩ <|
                  .alt ⟨none, .store 1, [.t 62, .t 60], none⟩ (
                    .done) <|
                  .stop) <|
                .stop) <|
              .stop) <|
            .alt ⟨(some 60), .load false 1, [.t 59], none⟩ (
              .alt ⟨(some 56), .call 104 [], [.t 53, .t 54, .t 55], none⟩ (
                .take ⟨(some 61), .iadr 1, [.t 50, .t 51], none⟩ <|
                .alt ⟨none, .store 1, [.t 61, .t 58], none⟩ (
                  .take ⟨(some 62), .iadr 1, [.t 52, .t 56], none⟩ <|
                  .alt ⟨none, .store 1, [.t 62, .t 60], none⟩ (
                    .done) <|
                  .stop) <|
                .stop) <|
              .stop) <|
            .stop) <|
          .alt ⟨(some 60), .load false 1, [.t 59], none⟩ (
            .alt ⟨(some 56), .call 104 [], [.t 53, .t 54, .t 55], none⟩ (
              .alt ⟨(some 58), .load false 1, [.t 57], none⟩ (
                .take ⟨(some 61), .iadr 1, [.t 50, .t 51], none⟩ <|
                .alt ⟨none, .store 1, [.t 61, .t 58], none⟩ (
                  .take ⟨(some 62), .iadr 1, [.t 52, .t 56], none⟩ <|
                  .alt ⟨none, .store 1, [.t 62, .t 60], none⟩ (
                    .done) <|
                  .stop) <|
                .stop) <|
              .stop) <|
            .alt ⟨(some 58), .load false 1, [.t 57], none⟩ (
              .alt ⟨(some 56), .call 104 [], [.t 53, .t 54, .t 55], none⟩ (
                .take ⟨(some 61), .iadr 1, [.t 50, .t 51], none⟩ <|
                .alt ⟨none, .store 1, [.t 61, .t 58], none⟩ (
                  .take ⟨(some 62), .iadr 1, [.t 52, .t 56], none⟩ <|
                  .alt ⟨none, .store 1, [.t 62, .t 60], none⟩ (
                    .done) <|
                  .stop) <|
                .stop) <|
              .stop) <|
            .stop) <|
          .stop) <|
        .alt ⟨(some 58), .load false 1, [.t 57], none⟩ (
          .alt ⟨(some 53), .load true 3, [.t 3], none⟩ (
            .alt ⟨(some 56), .call 104 [], [.t 53, .t 54, .t 55], none⟩ (
              .take ⟨(some 61), .iadr 1, [.t 50, .t 51], none⟩ <|
              .alt ⟨(some 60), .load false 1, [.t 59], none⟩ (
                .alt ⟨none, .store 1, [.t 61, .t 58], none⟩ (
                  .take ⟨(some 62), .iadr 1, [.t 52, .t 56], none⟩ <|
                  .alt ⟨none, .store 1, [.t 62, .t 60], none⟩ (
                    .done) <|
                  .stop) <|
                .stop) <|
              .alt ⟨none, .store 1, [.t 61, .t 58], none⟩ (
                .alt ⟨(some 60), .load false 1, [.t 59], none⟩ (
                  .take ⟨(some 62), .iadr 1, [.t 52, .t 56], none⟩ <|
                  .alt ⟨none, .store 1, [.t 62, .t 60], none⟩ (
                    .done) <|
                  .stop) <|
                .stop) <|
              .stop) <|
            .alt ⟨(some 60), .load false 1, [.t 59], none⟩ (
              .alt ⟨(some 56), .call 104 [], [.t 53, .t 54, .t 55], none⟩ (
                .take ⟨(some 61), .iadr 1, [.t 50, .t 51], none⟩ <|
                .alt ⟨none, .store 1, [.t 61, .t 58], none⟩ (
                  .take ⟨(some 62), .iadr 1, [.t 52, .t 56], none⟩ <|
                  .alt ⟨none, .store 1, [.t 62, .t 60], none⟩ (
                    .done) <|
                  .stop) <|
                .stop) <|
              .stop) <|
            .stop) <|
          .alt ⟨(some 60), .load false 1, [.t 59], none⟩ (
            .alt ⟨(some 53), .load true 3, [.t 3], none⟩ (
              .alt ⟨(some 56), .call 104 [], [.t 53, .t 54, .t 55], none⟩ (
                .take ⟨(some 61), .iadr 1, [.t 50, .t 51], none⟩ <|
                .alt ⟨none, .store 1, [.t 61, .t 58], none⟩ (
                  .take ⟨(some 62), .iadr 1, [.t 52, .t 56], none⟩ <|
                  .alt ⟨none, .store 1, [.t 62, .t 60], none⟩ (
                    .done) <|
                  .stop) <|
                .stop) <|
              .stop) <|
            .stop) <|
          .stop) <|
        .alt ⟨(some 60), .load false 1, [.t 59], none⟩ (
          .alt ⟨(some 53), .load true 3, [.t 3], none⟩ (
            .alt ⟨(some 56), .call 104 [], [.t 53, .t 54, .t 55], none⟩ (
              .alt ⟨(some 58), .load false 1, [.t 57], none⟩ (
                .take ⟨(some 61), .iadr 1, [.t 50, .t 51], none⟩ <|
                .alt ⟨none, .store 1, [.t 61, .t 58], none⟩ (
                  .take ⟨(some 62), .iadr 1, [.t 52, .t 56], none⟩ <|
                  .alt ⟨none, .store 1, [.t 62, .t 60], none⟩ (
                    .done) <|
                  .stop) <|
                .stop) <|
              .stop) <|
            .alt ⟨(some 58), .load false 1, [.t 57], none⟩ (
              .alt ⟨(some 56), .call 104 [], [.t 53, .t 54, .t 55], none⟩ (
                .take ⟨(some 61), .iadr 1, [.t 50, .t 51], none⟩ <|
                .alt ⟨none, .store 1, [.t 61, .t 58], none⟩ (
                  .take ⟨(some 62), .iadr 1, [.t 52, .t 56], none⟩ <|
                  .alt ⟨none, .store 1, [.t 62, .t 60], none⟩ (
                    .done) <|
                  .stop) <|
                .stop) <|
              .stop) <|
            .stop) <|
          .alt ⟨(some 58), .load false 1, [.t 57], none⟩ (
            .alt ⟨(some 53), .load true 3, [.t 3], none⟩ (
              .alt ⟨(some 56), .call 104 [], [.t 53, .t 54, .t 55], none⟩ (
                .take ⟨(some 61), .iadr 1, [.t 50, .t 51], none⟩ <|
                .alt ⟨none, .store 1, [.t 61, .t 58], none⟩ (
                  .take ⟨(some 62), .iadr 1, [.t 52, .t 56], none⟩ <|
                  .alt ⟨none, .store 1, [.t 62, .t 60], none⟩ (
                    .done) <|
                  .stop) <|
                .stop) <|
              .stop) <|
            .stop) <|
          .stop) <|
        .stop)

def c_impl_MakePuzzle_L0 : ACode :=
  .seq (.reg [⟨(some 33), .bin .lss 0, [.t 32, .t 31], none⟩]) <|
  .seq (.cond (.t 33) (
    .skip) (
    .exit 0)) <|
  .seq (.block 1 (
    .seq (.reg [⟨(some 34), .mv, [.t 32], none⟩,
      ⟨(some 35), .iadr 1, [.t 30, .t 32], none⟩,
      ⟨(some 36), .load false 1, [.t 35], none⟩,
      ⟨(some 9), .mv, [.t 34], none⟩,
      ⟨(some 10), .mv, [.t 36], none⟩]) <|
    .seq (.reg [⟨(some 37), .mv, [.t 10], none⟩,
      ⟨(some 38), .bin .eql 0, [.t 37, .c (.v (.int .i64 (1)))], none⟩,
      ⟨(some 39), .mv, [.t 38], none⟩,
      ⟨(some 40), .mv, [.t 10], (some (39, false))⟩,
      ⟨(some 41), .bin .eql 0, [.t 40, .c (.v (.int .i64 (2)))], (some (39, false))⟩,
      ⟨(some 42), .pick, [.t 39, .c (.v (.bool true)), .t 41], none⟩]) <|
    .cond (.t 42) (
      .seq (.reg [⟨(some 43), .mv, [.t 7], none⟩,
        ⟨(some 44), .mv, [.t 2], none⟩,
        ⟨(some 45), .mv, [.t 7], none⟩,
        ⟨(some 46), .len false, [.t 45], none⟩,
        ⟨(some 47), .bin .rem 0, [.t 44, .t 46], none⟩,
        ⟨(some 48), .iadr 2, [.t 43, .t 47], none⟩,
        ⟨(some 49), .load true 2, [.t 48], none⟩,
        ⟨(some 11), .alloc [.v (.int .i64 (0)), .v (.int .i64 (0))], [], none⟩,
        ⟨none, .store 2, [.t 11, .t 49], none⟩]) <|
      .seq c_impl_MakePuzzle_D <|
      .reg [⟨(some 63), .mv, [.t 2], none⟩,
        ⟨(some 64), .bin .add 0, [.t 63, .c (.v (.int .i64 (1)))], none⟩,
        ⟨(some 2), .mv, [.t 64], none⟩]) (
      .skip))) <|
  .reg [⟨(some 65), .bin .add 0, [.t 32, .c (.v (.int .i64 (1)))], none⟩,
    ⟨(some 32), .mv, [.t 65], none⟩]

def c_impl_MakePuzzle : ACode :=
  .seq (.reg [⟨(some 3), .box, [.t 0], none⟩,
    ⟨(some 6), .mv, [.c (.os 1 [])], none⟩]) <|
  .seq (.reg [⟨(some 12), .call 100 [], [], none⟩,
    ⟨(some 7), .mv, [.t 12], none⟩]) <|
  .seq (.seq (.reg [⟨(some 13), .load true 3, [.t 3], none⟩,
    ⟨(some 14), .mv, [.t 1], none⟩,
    ⟨(some 15), .call 101 [], [.t 13, .t 14], none⟩,
    ⟨(some 16), .un .not, [.t 15], none⟩,
    ⟨(some 17), .mv, [.t 16], none⟩,
    ⟨(some 18), .mv, [.t 2], (some (17, false))⟩,
    ⟨(some 19), .mv, [.t 7], (some (17, false))⟩,
    ⟨(some 20), .len false, [.t 19], (some (17, false))⟩,
    ⟨(some 21), .bin .sub 0, [.t 20, .c (.v (.int .i64 (1)))], (some (17, false))⟩,
    ⟨(some 22), .call 102 [], [.t 18, .c (.v (.int .i64 (0))), .t 21], (some (17, false))⟩,
    ⟨(some 23), .un .not, [.t 22], (some (17, false))⟩,
    ⟨(some 24), .pick, [.t 17, .c (.v (.bool true)), .t 23], none⟩]) <|
  .cond (.t 24) (
    .seq (.reg [⟨(some 6), .mv, [.c (.os 1 [])], none⟩]) <|
    .ret) (
    .skip)) <|
  .seq (.reg [⟨(some 25), .bsl 1, [.c (.v (.int .i64 (-1)))], none⟩,
    ⟨(some 26), .fadr 2, [.t 3], none⟩,
    ⟨(some 27), .load false 1, [.t 26], none⟩,
    ⟨(some 28), .len false, [.t 27], none⟩,
    ⟨(some 29), .call 103 [], [.t 25, .t 28], none⟩,
    ⟨(some 8), .mv, [.t 29], none⟩]) <|
  .seq (.seq (.reg [⟨(some 30), .mv, [.t 1], none⟩,
    ⟨(some 31), .len false, [.t 30], none⟩,
    ⟨(some 32), .mv, [.c (.v (.int .i64 (0)))], none⟩]) <|
  .block 0 (
    .loop [(7, 2), (8, 1), (30, 1)] [2, 3, 7, 8, 30, 31, 32] c_impl_MakePuzzle_L0)) <|
  .seq (.reg [⟨(some 66), .mv, [.t 8], none⟩,
    ⟨(some 6), .mv, [.t 66], none⟩]) <|
  .ret

theorem k_impl_MakePuzzle : cFn Try.prog n_impl_MakePuzzle 67 [.t 6] c_impl_MakePuzzle := ⟨Try.f54, _, Try.func54, rfl, by kernel_rfl, by kernel_rfl, by kernel_rfl, by kernel_rfl⟩

end Go.Proofs.Dev
