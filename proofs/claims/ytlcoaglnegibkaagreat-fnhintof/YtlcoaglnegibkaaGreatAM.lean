/- Contracts of the functions of the program over slots and rows, each proved against the program itself; no condition beyond those that each theorem names. -/
import Derived.Test.YtlcoaglnegibkaaGreatO
import Derived.Test.YtlcoaglnegibkaaGreatProg

set_option linter.unusedSimpArgs false
set_option linter.unusedVariables false

namespace Go.Proofs.Dev

-- 3 parameters, results [.t 6], 82 slots, modes [false, false, false]
@[simp] abbrev n_spec_MakePuzzle : Nat := 85
def c_spec_MakePuzzle_L0 : ACode :=
  .seq (.seq (.reg [⟨(some 23), .mv, [.t 8], none⟩,
    ⟨(some 24), .mv, [.t 1], none⟩,
    ⟨(some 25), .len false, [.t 24], none⟩,
    ⟨(some 26), .bin .lss 0, [.t 23, .t 25], none⟩]) <|
  .cond (.t 26) (
    .skip) (
    .exit 0)) <|
  .seq (.block 1 (
    .reg [⟨(some 29), .mv, [.t 7], none⟩,
      ⟨(some 30), .bsl 1, [.c (.v (.int .i64 (-1)))], none⟩,
      ⟨(some 31), .app 1 8 true, [.t 29, .t 30], none⟩,
      ⟨(some 7), .mv, [.t 31], none⟩])) <|
  .reg [⟨(some 27), .mv, [.t 8], none⟩,
    ⟨(some 28), .bin .add 0, [.t 27, .c (.v (.int .i64 (1)))], none⟩,
    ⟨(some 8), .mv, [.t 28], none⟩]

def c_spec_MakePuzzle_L1 : ACode :=
  .seq (.seq (.reg [⟨(some 52), .mv, [.t 10], none⟩,
    ⟨(some 53), .mv, [.t 11], none⟩,
    ⟨(some 54), .bin .sub 0, [.c (.v (.int .i64 (6))), .t 53], none⟩,
    ⟨(some 55), .bin .gtr 0, [.t 52, .t 54], none⟩]) <|
  .cond (.t 55) (
    .skip) (
    .exit 4)) <|
  .block 5 (
    .seq (.reg [⟨(some 56), .mv, [.t 10], none⟩,
      ⟨(some 57), .mv, [.t 11], none⟩,
      ⟨(some 58), .bin .sub 0, [.c (.v (.int .i64 (6))), .t 57], none⟩,
      ⟨(some 59), .bin .add 0, [.t 58, .c (.v (.int .i64 (1)))], none⟩,
      ⟨(some 60), .bin .sub 0, [.t 56, .t 59], none⟩,
      ⟨(some 10), .mv, [.t 60], none⟩]) <|
    .reg [⟨(some 61), .mv, [.t 11], none⟩,
      ⟨(some 62), .bin .add 0, [.t 61, .c (.v (.int .i64 (1)))], none⟩,
      ⟨(some 11), .mv, [.t 62], none⟩])

def c_spec_MakePuzzle_D : ACode :=
  .draw (
        .take ⟨(some 67), .mv, [.t 7], none⟩ <|
        .take ⟨(some 69), .mv, [.t 9], none⟩ <|
        .take ⟨(some 70), .mv, [.t 1], none⟩ <|
        .take ⟨(some 71), .mv, [.t 9], none⟩ <|
        .take ⟨(some 72), .iadr 1, [.t 70, .t 71], none⟩ <|
        .take ⟨(some 75), .mv, [.t 11], none⟩ <|
        .take ⟨(some 76), .mv, [.t 10], none⟩ <|
        .take ⟨(some 77), .bin .add 0, [.t 75, .t 76], none⟩ <|
        .alt ⟨(some 68), .load true 3, [.t 3], none⟩ (
          .alt ⟨(some 73), .load false 1, [.t 72], none⟩ (
            .alt ⟨(some 74), .call 77 [], [.t 68, .t 69, .t 73], none⟩ (
              .take ⟨(some 78), .iadr 1, [.t 67, .t 74], none⟩ <|
              .alt ⟨none, .store 1, [.t 78, .t 77], none⟩ (
                .done) <|
              .stop) <|
            .stop) <|
          .stop) <|
        .alt ⟨(some 73), .load false 1, [.t 72], none⟩ (
          .alt ⟨(some 68), .load true 3, [.t 3], none⟩ (
            .alt ⟨(some 74), .call 77 [], [.t 68, .t 69, .t 73], none⟩ (
              .take ⟨(some 78), .iadr 1, [.t 67, .t 74], none⟩ <|
              .alt ⟨none, .store 1, [.t 78, .t 77], none⟩ (
                .done) <|
              .stop) <|
            .stop) <|
          .stop) <|
        .stop)

def c_spec_MakePuzzle_L2 : ACode :=
  .seq (.seq (.reg [⟨(some 32), .mv, [.t 9], none⟩,
    ⟨(some 33), .mv, [.t 1], none⟩,
    ⟨(some 34), .len false, [.t 33], none⟩,
    ⟨(some 35), .bin .lss 0, [.t 32, .t 34], none⟩]) <|
  .cond (.t 35) (
    .skip) (
    .exit 2)) <|
  .seq (.block 3 (
    .seq (.reg [⟨(some 38), .mv, [.t 1], none⟩,
      ⟨(some 39), .mv, [.t 9], none⟩,
      ⟨(some 40), .iadr 1, [.t 38, .t 39], none⟩,
      ⟨(some 41), .load false 1, [.t 40], none⟩,
      ⟨(some 42), .bin .eql 0, [.t 41, .c (.v (.int .i64 (1)))], none⟩,
      ⟨(some 43), .mv, [.t 42], none⟩,
      ⟨(some 44), .mv, [.t 1], (some (43, false))⟩,
      ⟨(some 45), .mv, [.t 9], (some (43, false))⟩,
      ⟨(some 46), .iadr 1, [.t 44, .t 45], (some (43, false))⟩,
      ⟨(some 47), .load false 1, [.t 46], (some (43, false))⟩,
      ⟨(some 48), .bin .eql 0, [.t 47, .c (.v (.int .i64 (2)))], (some (43, false))⟩,
      ⟨(some 49), .pick, [.t 43, .c (.v (.bool true)), .t 48], none⟩]) <|
    .cond (.t 49) (
      .seq (.reg [⟨(some 50), .mv, [.t 2], none⟩,
        ⟨(some 51), .bin .rem 0, [.t 50, .c (.v (.int .i64 (28)))], none⟩,
        ⟨(some 10), .mv, [.t 51], none⟩]) <|
      .seq (.reg [⟨(some 11), .mv, [.c (.v (.int .i64 (0)))], none⟩]) <|
      .seq (.block 4 (
        .loop [(1, 1), (7, 1)] [1, 2, 3, 7, 9, 10, 11] c_spec_MakePuzzle_L1)) <|
      .seq (.reg [⟨(some 63), .mv, [.t 7], none⟩,
        ⟨(some 64), .mv, [.t 9], none⟩,
        ⟨(some 65), .mv, [.t 11], none⟩,
        ⟨(some 66), .iadr 1, [.t 63, .t 64], none⟩,
        ⟨none, .store 1, [.t 66, .t 65], none⟩]) <|
      .seq c_spec_MakePuzzle_D <|
      .reg [⟨(some 79), .mv, [.t 2], none⟩,
        ⟨(some 80), .bin .add 0, [.t 79, .c (.v (.int .i64 (1)))], none⟩,
        ⟨(some 2), .mv, [.t 80], none⟩]) (
      .skip))) <|
  .reg [⟨(some 36), .mv, [.t 9], none⟩,
    ⟨(some 37), .bin .add 0, [.t 36, .c (.v (.int .i64 (1)))], none⟩,
    ⟨(some 9), .mv, [.t 37], none⟩]

def c_spec_MakePuzzle : ACode :=
  .seq (.reg [⟨(some 3), .box, [.t 0], none⟩,
    ⟨(some 6), .mv, [.c (.os 1 [])], none⟩]) <|
  .seq (.seq (.reg [⟨(some 12), .load true 3, [.t 3], none⟩,
    ⟨(some 13), .mv, [.t 1], none⟩,
    ⟨(some 14), .call 99 [], [.t 12, .t 13], none⟩,
    ⟨(some 15), .un .not, [.t 14], none⟩,
    ⟨(some 16), .mv, [.t 15], none⟩,
    ⟨(some 17), .mv, [.t 2], (some (16, false))⟩,
    ⟨(some 18), .call 76 [], [.t 17, .c (.v (.int .i64 (0))), .c (.v (.int .i64 (27)))], (some (16, false))⟩,
    ⟨(some 19), .un .not, [.t 18], (some (16, false))⟩,
    ⟨(some 20), .pick, [.t 16, .c (.v (.bool true)), .t 19], none⟩]) <|
  .cond (.t 20) (
    .seq (.reg [⟨(some 21), .bsl 1, [], none⟩,
      ⟨(some 6), .mv, [.t 21], none⟩]) <|
    .ret) (
    .skip)) <|
  .seq (.reg [⟨(some 22), .bsl 1, [], none⟩,
    ⟨(some 7), .mv, [.t 22], none⟩]) <|
  .seq (.seq (.reg [⟨(some 8), .mv, [.c (.v (.int .i64 (0)))], none⟩]) <|
  .block 0 (
    .loop [(1, 1), (7, 1)] [1, 2, 3, 7, 8] c_spec_MakePuzzle_L0)) <|
  .seq (.seq (.reg [⟨(some 9), .mv, [.c (.v (.int .i64 (0)))], none⟩]) <|
  .block 2 (
    .loop [(1, 1), (7, 1)] [1, 2, 3, 7, 9] c_spec_MakePuzzle_L2)) <|
  .seq (.reg [⟨(some 81), .mv, [.t 7], none⟩,
    ⟨(some 6), .mv, [.t 81], none⟩]) <|
  .ret

theorem k_spec_MakePuzzle : cFn Tryz.prog n_spec_MakePuzzle 82 [.t 6] c_spec_MakePuzzle := ⟨Tryz.f85, _, Tryz.func85, rfl, by kernel_rfl, by kernel_rfl, by kernel_rfl, by kernel_rfl⟩

-- 2 parameters, results [.t 4], 12 slots, modes [false, false]
@[simp] abbrev n_impl_LaidOk : Nat := 36

def c_impl_LaidOk : ACode :=
  .seq (.reg [⟨(some 2), .box, [.t 0], none⟩,
    ⟨(some 4), .mv, [.c (.v (.bool false))], none⟩]) <|
  .seq (.reg [⟨(some 5), .load true 3, [.t 2], none⟩,
    ⟨(some 6), .call 60 [], [.t 5], none⟩,
    ⟨(some 7), .mv, [.t 6], none⟩,
    ⟨(some 8), .load true 3, [.t 2], (some (7, true))⟩,
    ⟨(some 9), .mv, [.t 1], (some (7, true))⟩,
    ⟨(some 10), .call 31 [], [.t 8, .t 9], (some (7, true))⟩,
    ⟨(some 11), .pick, [.t 7, .t 10, .c (.v (.bool false))], none⟩,
    ⟨(some 4), .mv, [.t 11], none⟩]) <|
  .ret

theorem k_impl_LaidOk : cFn Tryz.prog n_impl_LaidOk 12 [.t 4] c_impl_LaidOk := ⟨Tryz.f36, _, Tryz.func36, rfl, by kernel_rfl, by kernel_rfl, by kernel_rfl, by kernel_rfl⟩

-- 2 parameters, results [.t 4], 13 slots, modes [false, false]
@[simp] abbrev n_impl_TilingOk : Nat := 19

def c_impl_TilingOk : ACode :=
  .seq (.reg [⟨(some 2), .box, [.t 0], none⟩,
    ⟨(some 4), .mv, [.c (.v (.bool false))], none⟩]) <|
  .seq (.reg [⟨(some 5), .load true 3, [.t 2], none⟩,
    ⟨(some 6), .mv, [.t 1], none⟩,
    ⟨(some 7), .call 36 [], [.t 5, .t 6], none⟩,
    ⟨(some 8), .mv, [.t 7], none⟩,
    ⟨(some 9), .load true 3, [.t 2], (some (8, true))⟩,
    ⟨(some 10), .mv, [.t 1], (some (8, true))⟩,
    ⟨(some 11), .call 43 [], [.t 9, .t 10], (some (8, true))⟩,
    ⟨(some 12), .pick, [.t 8, .t 11, .c (.v (.bool false))], none⟩,
    ⟨(some 4), .mv, [.t 12], none⟩]) <|
  .ret

theorem k_impl_TilingOk : cFn Tryz.prog n_impl_TilingOk 13 [.t 4] c_impl_TilingOk := ⟨Tryz.f19, _, Tryz.func19, rfl, by kernel_rfl, by kernel_rfl, by kernel_rfl, by kernel_rfl⟩

end Go.Proofs.Dev
