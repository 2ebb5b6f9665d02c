/- Contracts of the functions of the program over slots and rows, each proved against the program itself; no condition beyond those that each theorem names. -/
import Derived.Test.YtlcoaglnegibkaaGreatO
import Derived.Test.YtlcoaglnegibkaaGreatProg
import Derived.Test.YtlcoaglnegibkaaGreatE

set_option linter.unusedSimpArgs false
set_option linter.unusedVariables false

namespace Go.Proofs.Dev

-- 3 parameters, results [.t 6], 28 slots, modes [false, false, false]
@[simp] abbrev n_spec_StepTo : Nat := 58

def c_spec_StepTo : ACode :=
  .seq (.reg [⟨(some 3), .box, [.t 0], none⟩,
    ⟨(some 6), .mv, [.c (.v (.int .i64 (0)))], none⟩]) <|
  .seq (.seq (.reg [⟨(some 7), .load true 3, [.t 3], none⟩,
    ⟨(some 8), .call 75 [], [.t 7], none⟩,
    ⟨(some 9), .un .not, [.t 8], none⟩,
    ⟨(some 10), .mv, [.t 9], none⟩,
    ⟨(some 11), .mv, [.t 1], (some (10, false))⟩,
    ⟨(some 12), .fadr 2, [.t 3], (some (10, false))⟩,
    ⟨(some 13), .load false 1, [.t 12], (some (10, false))⟩,
    ⟨(some 14), .len false, [.t 13], (some (10, false))⟩,
    ⟨(some 15), .bin .sub 0, [.t 14, .c (.v (.int .i64 (1)))], (some (10, false))⟩,
    ⟨(some 16), .call 76 [], [.t 11, .c (.v (.int .i64 (0))), .t 15], (some (10, false))⟩,
    ⟨(some 17), .un .not, [.t 16], (some (10, false))⟩,
    ⟨(some 18), .pick, [.t 10, .c (.v (.bool true)), .t 17], none⟩,
    ⟨(some 19), .mv, [.t 18], none⟩,
    ⟨(some 20), .mv, [.t 2], (some (19, false))⟩,
    ⟨(some 21), .call 76 [], [.t 20, .c (.v (.int .i64 (1))), .c (.v (.int .i64 (4)))], (some (19, false))⟩,
    ⟨(some 22), .un .not, [.t 21], (some (19, false))⟩,
    ⟨(some 23), .pick, [.t 19, .c (.v (.bool true)), .t 22], none⟩]) <|
  .cond (.t 23) (
    .seq (.reg [⟨(some 6), .mv, [.c (.v (.int .i64 (-1)))], none⟩]) <|
    .ret) (
    .skip)) <|
  .seq (.reg [⟨(some 24), .load true 3, [.t 3], none⟩,
    ⟨(some 25), .mv, [.t 1], none⟩,
    ⟨(some 26), .mv, [.t 2], none⟩,
    ⟨(some 27), .call 77 [], [.t 24, .t 25, .t 26], none⟩,
    ⟨(some 6), .mv, [.t 27], none⟩]) <|
  .ret

theorem k_spec_StepTo : cFn Tryz.prog n_spec_StepTo 28 [.t 6] c_spec_StepTo := ⟨Tryz.f58, _, Tryz.func58, rfl, by kernel_rfl, by kernel_rfl, by kernel_rfl, by kernel_rfl⟩

-- 4 parameters, results [.t 8, .t 9], 67 slots, modes [false, false, false, false]
@[simp] abbrev n_spec_LayOne : Nat := 29

def c_spec_LayOne : ACode :=
  .seq (.reg [⟨(some 4), .box, [.t 0], none⟩,
    ⟨(some 8), .mv, [.c (.os 1 [])], none⟩,
    ⟨(some 9), .mv, [.c (.v (.bool false))], none⟩]) <|
  .seq (.seq (.reg [⟨(some 12), .load true 3, [.t 4], none⟩,
    ⟨(some 13), .mv, [.t 1], none⟩,
    ⟨(some 14), .call 40 [], [.t 12, .t 13], none⟩,
    ⟨(some 15), .un .not, [.t 14], none⟩]) <|
  .cond (.t 15) (
    .seq (.reg [⟨(some 16), .bsl 1, [], none⟩,
      ⟨(some 8), .mv, [.t 16], none⟩,
      ⟨(some 9), .mv, [.c (.v (.bool false))], none⟩]) <|
    .ret) (
    .skip)) <|
  .seq (.reg [⟨(some 17), .bsl 1, [], none⟩,
    ⟨(some 18), .mv, [.t 1], none⟩,
    ⟨(some 19), .app 1 8 true, [.t 17, .t 18], none⟩,
    ⟨(some 10), .mv, [.t 19], none⟩]) <|
  .seq (.reg [⟨(some 20), .load true 3, [.t 4], none⟩,
    ⟨(some 21), .mv, [.t 2], none⟩,
    ⟨(some 22), .mv, [.t 3], none⟩,
    ⟨(some 23), .call 58 [], [.t 20, .t 21, .t 22], none⟩,
    ⟨(some 11), .mv, [.t 23], none⟩]) <|
  .seq (.seq (.reg [⟨(some 24), .mv, [.t 11], none⟩,
    ⟨(some 25), .bin .lss 0, [.t 24, .c (.v (.int .i64 (0)))], none⟩,
    ⟨(some 26), .mv, [.t 25], none⟩,
    ⟨(some 27), .fadr 2, [.t 4], (some (26, false))⟩,
    ⟨(some 28), .load false 1, [.t 27], (some (26, false))⟩,
    ⟨(some 29), .mv, [.t 2], (some (26, false))⟩,
    ⟨(some 30), .iadr 1, [.t 28, .t 29], (some (26, false))⟩,
    ⟨(some 31), .load false 1, [.t 30], (some (26, false))⟩,
    ⟨(some 32), .un .not, [.t 31], (some (26, false))⟩,
    ⟨(some 33), .pick, [.t 26, .c (.v (.bool true)), .t 32], none⟩,
    ⟨(some 34), .mv, [.t 33], none⟩,
    ⟨(some 35), .fadr 2, [.t 4], (some (34, false))⟩,
    ⟨(some 36), .load false 1, [.t 35], (some (34, false))⟩,
    ⟨(some 37), .mv, [.t 11], (some (34, false))⟩,
    ⟨(some 38), .iadr 1, [.t 36, .t 37], (some (34, false))⟩,
    ⟨(some 39), .load false 1, [.t 38], (some (34, false))⟩,
    ⟨(some 40), .un .not, [.t 39], (some (34, false))⟩,
    ⟨(some 41), .pick, [.t 34, .c (.v (.bool true)), .t 40], none⟩,
    ⟨(some 42), .mv, [.t 41], none⟩,
    ⟨(some 43), .mv, [.t 1], (some (42, false))⟩,
    ⟨(some 44), .mv, [.t 2], (some (42, false))⟩,
    ⟨(some 45), .iadr 1, [.t 43, .t 44], (some (42, false))⟩,
    ⟨(some 46), .load false 1, [.t 45], (some (42, false))⟩,
    ⟨(some 47), .bin .neq 0, [.t 46, .c (.v (.int .i64 (0)))], (some (42, false))⟩,
    ⟨(some 48), .pick, [.t 42, .c (.v (.bool true)), .t 47], none⟩,
    ⟨(some 49), .mv, [.t 48], none⟩,
    ⟨(some 50), .mv, [.t 1], (some (49, false))⟩,
    ⟨(some 51), .mv, [.t 11], (some (49, false))⟩,
    ⟨(some 52), .iadr 1, [.t 50, .t 51], (some (49, false))⟩,
    ⟨(some 53), .load false 1, [.t 52], (some (49, false))⟩,
    ⟨(some 54), .bin .neq 0, [.t 53, .c (.v (.int .i64 (0)))], (some (49, false))⟩,
    ⟨(some 55), .pick, [.t 49, .c (.v (.bool true)), .t 54], none⟩]) <|
  .cond (.t 55) (
    .seq (.reg [⟨(some 56), .mv, [.t 10], none⟩,
      ⟨(some 8), .mv, [.t 56], none⟩,
      ⟨(some 9), .mv, [.c (.v (.bool false))], none⟩]) <|
    .ret) (
    .skip)) <|
  .seq (.reg [⟨(some 57), .mv, [.t 10], none⟩,
    ⟨(some 58), .mv, [.t 2], none⟩,
    ⟨(some 59), .mv, [.t 3], none⟩,
    ⟨(some 60), .iadr 1, [.t 57, .t 58], none⟩,
    ⟨none, .store 1, [.t 60, .t 59], none⟩]) <|
  .seq (.reg [⟨(some 61), .mv, [.t 10], none⟩,
    ⟨(some 62), .mv, [.t 11], none⟩,
    ⟨(some 63), .mv, [.t 3], none⟩,
    ⟨(some 64), .call 59 [], [.t 63], none⟩,
    ⟨(some 65), .iadr 1, [.t 61, .t 62], none⟩,
    ⟨none, .store 1, [.t 65, .t 64], none⟩]) <|
  .seq (.reg [⟨(some 66), .mv, [.t 10], none⟩,
    ⟨(some 8), .mv, [.t 66], none⟩,
    ⟨(some 9), .mv, [.c (.v (.bool true))], none⟩]) <|
  .ret

theorem k_spec_LayOne : cFn Tryz.prog n_spec_LayOne 67 [.t 8, .t 9] c_spec_LayOne := ⟨Tryz.f29, _, Tryz.func29, rfl, by kernel_rfl, by kernel_rfl, by kernel_rfl, by kernel_rfl⟩

-- 2 parameters, results [.t 4], 11 slots, modes [false, false]
@[simp] abbrev n_impl_Region_has : Nat := 80

def c_impl_Region_has : ACode :=
  .seq (.reg [⟨(some 2), .box, [.t 0], none⟩,
    ⟨(some 4), .mv, [.c (.v (.bool false))], none⟩]) <|
  .seq (.reg [⟨(some 5), .mv, [.t 1], none⟩,
    ⟨(some 6), .fadr 2, [.t 2], none⟩,
    ⟨(some 7), .load false 1, [.t 6], none⟩,
    ⟨(some 8), .len false, [.t 7], none⟩,
    ⟨(some 9), .bin .sub 0, [.t 8, .c (.v (.int .i64 (1)))], none⟩,
    ⟨(some 10), .call 69 [], [.t 5, .c (.v (.int .i64 (0))), .t 9], none⟩,
    ⟨(some 4), .mv, [.t 10], none⟩]) <|
  .ret

theorem k_impl_Region_has : cFn Tryz.prog n_impl_Region_has 11 [.t 4] c_impl_Region_has := ⟨Tryz.f80, _, Tryz.func80, rfl, by kernel_rfl, by kernel_rfl, by kernel_rfl, by kernel_rfl⟩

-- 4 parameters, results [.t 8], 48 slots, modes [false, false, false, false]
@[simp] abbrev n_impl_Region_free : Nat := 48

def c_impl_Region_free : ACode :=
  .seq (.reg [⟨(some 4), .box, [.t 0], none⟩,
    ⟨(some 8), .mv, [.c (.v (.bool false))], none⟩]) <|
  .seq (.seq (.reg [⟨(some 10), .load true 3, [.t 4], none⟩,
    ⟨(some 11), .mv, [.t 2], none⟩,
    ⟨(some 12), .call 80 [], [.t 10, .t 11], none⟩,
    ⟨(some 13), .un .not, [.t 12], none⟩]) <|
  .cond (.t 13) (
    .seq (.reg [⟨(some 8), .mv, [.c (.v (.bool false))], none⟩]) <|
    .ret) (
    .skip)) <|
  .seq (.reg [⟨(some 14), .load true 3, [.t 4], none⟩,
    ⟨(some 15), .mv, [.t 2], none⟩,
    ⟨(some 16), .mv, [.t 3], none⟩,
    ⟨(some 17), .call 62 [], [.t 14, .t 15, .t 16], none⟩,
    ⟨(some 9), .mv, [.t 17], none⟩]) <|
  .seq (.reg [⟨(some 18), .mv, [.t 9], none⟩,
    ⟨(some 19), .bin .geq 0, [.t 18, .c (.v (.int .i64 (0)))], none⟩,
    ⟨(some 20), .mv, [.t 19], none⟩,
    ⟨(some 21), .fadr 2, [.t 4], (some (20, true))⟩,
    ⟨(some 22), .load false 1, [.t 21], (some (20, true))⟩,
    ⟨(some 23), .mv, [.t 2], (some (20, true))⟩,
    ⟨(some 24), .iadr 1, [.t 22, .t 23], (some (20, true))⟩,
    ⟨(some 25), .load false 1, [.t 24], (some (20, true))⟩,
    ⟨(some 26), .pick, [.t 20, .t 25, .c (.v (.bool false))], none⟩,
    ⟨(some 27), .mv, [.t 26], none⟩,
    ⟨(some 28), .fadr 2, [.t 4], (some (27, true))⟩,
    ⟨(some 29), .load false 1, [.t 28], (some (27, true))⟩,
    ⟨(some 30), .mv, [.t 9], (some (27, true))⟩,
    ⟨(some 31), .iadr 1, [.t 29, .t 30], (some (27, true))⟩,
    ⟨(some 32), .load false 1, [.t 31], (some (27, true))⟩,
    ⟨(some 33), .pick, [.t 27, .t 32, .c (.v (.bool false))], none⟩,
    ⟨(some 34), .mv, [.t 33], none⟩,
    ⟨(some 35), .mv, [.t 1], (some (34, true))⟩,
    ⟨(some 36), .mv, [.t 2], (some (34, true))⟩,
    ⟨(some 37), .iadr 1, [.t 35, .t 36], (some (34, true))⟩,
    ⟨(some 38), .load false 1, [.t 37], (some (34, true))⟩,
    ⟨(some 39), .bin .eql 0, [.t 38, .c (.v (.int .i64 (0)))], (some (34, true))⟩,
    ⟨(some 40), .pick, [.t 34, .t 39, .c (.v (.bool false))], none⟩,
    ⟨(some 41), .mv, [.t 40], none⟩,
    ⟨(some 42), .mv, [.t 1], (some (41, true))⟩,
    ⟨(some 43), .mv, [.t 9], (some (41, true))⟩,
    ⟨(some 44), .iadr 1, [.t 42, .t 43], (some (41, true))⟩,
    ⟨(some 45), .load false 1, [.t 44], (some (41, true))⟩,
    ⟨(some 46), .bin .eql 0, [.t 45, .c (.v (.int .i64 (0)))], (some (41, true))⟩,
    ⟨(some 47), .pick, [.t 41, .t 46, .c (.v (.bool false))], none⟩,
    ⟨(some 8), .mv, [.t 47], none⟩]) <|
  .ret

theorem k_impl_Region_free : cFn Tryz.prog n_impl_Region_free 48 [.t 8] c_impl_Region_free := ⟨Tryz.f48, _, Tryz.func48, rfl, by kernel_rfl, by kernel_rfl, by kernel_rfl, by kernel_rfl⟩

-- 4 parameters, results [.t 8], 25 slots, modes [false, false, false, false]
@[simp] abbrev n_impl_Region_lay : Nat := 50

def c_impl_Region_lay : ACode :=
  .seq (.reg [⟨(some 4), .box, [.t 0], none⟩,
    ⟨(some 8), .mv, [.c (.os 1 [])], none⟩]) <|
  .seq (.reg [⟨(some 10), .mv, [.t 1], none⟩,
    ⟨(some 11), .call 49 [], [.t 10], none⟩,
    ⟨(some 9), .mv, [.t 11], none⟩]) <|
  .seq (.reg [⟨(some 12), .mv, [.t 9], none⟩,
    ⟨(some 13), .mv, [.t 2], none⟩,
    ⟨(some 14), .mv, [.t 9], none⟩,
    ⟨(some 15), .load true 3, [.t 4], none⟩,
    ⟨(some 16), .mv, [.t 2], none⟩,
    ⟨(some 17), .mv, [.t 3], none⟩,
    ⟨(some 18), .call 62 [], [.t 15, .t 16, .t 17], none⟩,
    ⟨(some 19), .mv, [.t 3], none⟩,
    ⟨(some 20), .mv, [.t 3], none⟩,
    ⟨(some 21), .call 63 [], [.t 20], none⟩,
    ⟨(some 22), .iadr 1, [.t 12, .t 13], none⟩,
    ⟨none, .store 1, [.t 22, .t 19], none⟩,
    ⟨(some 23), .iadr 1, [.t 14, .t 18], none⟩,
    ⟨none, .store 1, [.t 23, .t 21], none⟩]) <|
  .seq (.reg [⟨(some 24), .mv, [.t 9], none⟩,
    ⟨(some 8), .mv, [.t 24], none⟩]) <|
  .ret

theorem k_impl_Region_lay : cFn Tryz.prog n_impl_Region_lay 25 [.t 8] c_impl_Region_lay := ⟨Tryz.f50, _, Tryz.func50, rfl, by kernel_rfl, by kernel_rfl, by kernel_rfl, by kernel_rfl⟩

-- 3 parameters, results [.t 6], 24 slots, modes [false, false, false]
@[simp] abbrev n_impl_Region_bare : Nat := 45

def c_impl_Region_bare : ACode :=
  .seq (.reg [⟨(some 3), .box, [.t 0], none⟩,
    ⟨(some 6), .mv, [.c (.v (.bool false))], none⟩]) <|
  .seq (.reg [⟨(some 7), .load true 3, [.t 3], none⟩,
    ⟨(some 8), .mv, [.t 2], none⟩,
    ⟨(some 9), .call 80 [], [.t 7, .t 8], none⟩,
    ⟨(some 10), .mv, [.t 9], none⟩,
    ⟨(some 11), .fadr 2, [.t 3], (some (10, true))⟩,
    ⟨(some 12), .load false 1, [.t 11], (some (10, true))⟩,
    ⟨(some 13), .mv, [.t 2], (some (10, true))⟩,
    ⟨(some 14), .iadr 1, [.t 12, .t 13], (some (10, true))⟩,
    ⟨(some 15), .load false 1, [.t 14], (some (10, true))⟩,
    ⟨(some 16), .pick, [.t 10, .t 15, .c (.v (.bool false))], none⟩,
    ⟨(some 17), .mv, [.t 16], none⟩,
    ⟨(some 18), .mv, [.t 1], (some (17, true))⟩,
    ⟨(some 19), .mv, [.t 2], (some (17, true))⟩,
    ⟨(some 20), .iadr 1, [.t 18, .t 19], (some (17, true))⟩,
    ⟨(some 21), .load false 1, [.t 20], (some (17, true))⟩,
    ⟨(some 22), .bin .eql 0, [.t 21, .c (.v (.int .i64 (0)))], (some (17, true))⟩,
    ⟨(some 23), .pick, [.t 17, .t 22, .c (.v (.bool false))], none⟩,
    ⟨(some 6), .mv, [.t 23], none⟩]) <|
  .ret

theorem k_impl_Region_bare : cFn Tryz.prog n_impl_Region_bare 24 [.t 6] c_impl_Region_bare := ⟨Tryz.f45, _, Tryz.func45, rfl, by kernel_rfl, by kernel_rfl, by kernel_rfl, by kernel_rfl⟩

-- 4 parameters, results [.t 8], 36 slots, modes [false, false, false, false]
@[simp] abbrev n_impl_Region_options : Nat := 57
def c_impl_Region_options_L0 : ACode :=
  .seq (.seq (.reg [⟨(some 11), .mv, [.t 10], none⟩,
    ⟨(some 12), .bin .leq 0, [.t 11, .c (.v (.int .i64 (4)))], none⟩]) <|
  .cond (.t 12) (
    .skip) (
    .exit 0)) <|
  .seq (.block 1 (
    .seq (.draw (
      .take ⟨(some 16), .mv, [.t 2], none⟩ <|
      .take ⟨(some 17), .mv, [.t 3], none⟩ <|
      .take ⟨(some 18), .mv, [.t 10], none⟩ <|
      .alt ⟨(some 15), .load true 3, [.t 4], none⟩ (
        .alt ⟨(some 19), .call 48 [], [.t 15, .t 16, .t 17, .t 18], none⟩ (
          .take ⟨(some 20), .mv, [.t 19], none⟩ <|
          .take ⟨(some 22), .mv, [.t 1], (some (20, true))⟩ <|
          .take ⟨(some 24), .mv, [.t 2], (some (20, true))⟩ <|
          .take ⟨(some 25), .mv, [.t 3], (some (20, true))⟩ <|
          .take ⟨(some 26), .mv, [.t 10], (some (20, true))⟩ <|
          .alt ⟨(some 21), .load true 3, [.t 4], (some (20, true))⟩ (
            .alt ⟨(some 23), .load true 3, [.t 4], (some (20, true))⟩ (
              .alt ⟨(some 27), .call 50 [], [.t 23, .t 24, .t 25, .t 26], (some (20, true))⟩ (
                .alt ⟨(some 28), .call 32 [], [.t 21, .t 22, .t 27], (some (20, true))⟩ (
                  .take ⟨(some 29), .pick, [.t 20, .t 28, .c (.v (.bool false))], none⟩ <|
                  .done) <|
                .stop) <|
              .stop) <|
            .stop) <|
          .alt ⟨(some 23), .load true 3, [.t 4], (some (20, true))⟩ (
            .alt ⟨(some 21), .load true 3, [.t 4], (some (20, true))⟩ (
              .alt ⟨(some 27), .call 50 [], [.t 23, .t 24, .t 25, .t 26], (some (20, true))⟩ (
                .alt ⟨(some 28), .call 32 [], [.t 21, .t 22, .t 27], (some (20, true))⟩ (
                  .take ⟨(some 29), .pick, [.t 20, .t 28, .c (.v (.bool false))], none⟩ <|
                  .done) <|
                .stop) <|
              .stop) <|
            .alt ⟨(some 27), .call 50 [], [.t 23, .t 24, .t 25, .t 26], (some (20, true))⟩ (
              .alt ⟨(some 21), .load true 3, [.t 4], (some (20, true))⟩ (
                .alt ⟨(some 28), .call 32 [], [.t 21, .t 22, .t 27], (some (20, true))⟩ (
                  .take ⟨(some 29), .pick, [.t 20, .t 28, .c (.v (.bool false))], none⟩ <|
                  .done) <|
                .stop) <|
              .stop) <|
            .stop) <|
          .stop) <|
        .stop) <|
      .stop)) <|
    .cond (.t 29) (
      .reg [⟨(some 30), .mv, [.t 9], none⟩,
        ⟨(some 31), .mv, [.t 10], none⟩,
        ⟨(some 32), .bsl 1, [.t 31], none⟩,
        ⟨(some 33), .app 1 8 true, [.t 30, .t 32], none⟩,
        ⟨(some 9), .mv, [.t 33], none⟩]) (
      .skip))) <|
  .reg [⟨(some 13), .mv, [.t 10], none⟩,
    ⟨(some 14), .bin .add 0, [.t 13, .c (.v (.int .i64 (1)))], none⟩,
    ⟨(some 10), .mv, [.t 14], none⟩]

def c_impl_Region_options : ACode :=
  .seq (.reg [⟨(some 4), .box, [.t 0], none⟩,
    ⟨(some 8), .mv, [.c (.os 1 [])], none⟩]) <|
  .seq (.reg [⟨(some 9), .mv, [.c (.os 1 [])], none⟩]) <|
  .seq (.seq (.reg [⟨(some 10), .mv, [.c (.v (.int .i64 (1)))], none⟩]) <|
  .block 0 (
    .loop [(1, 1), (2, 1), (9, 1)] [1, 2, 3, 4, 9, 10] c_impl_Region_options_L0)) <|
  .seq (.reg [⟨(some 34), .mv, [.t 9], none⟩,
    ⟨(some 35), .call 81 [], [.t 34], none⟩,
    ⟨(some 8), .mv, [.t 35], none⟩]) <|
  .ret

theorem k_impl_Region_options : cFn Tryz.prog n_impl_Region_options 36 [.t 8] c_impl_Region_options := ⟨Tryz.f57, _, Tryz.func57, rfl, by kernel_rfl, by kernel_rfl, by kernel_rfl, by kernel_rfl⟩

-- 4 parameters, results [.t 8], 44 slots, modes [false, false, false, false]
@[simp] abbrev n_spec_OptionsOf : Nat := 28
def c_spec_OptionsOf_L0 : ACode :=
  .seq (.seq (.reg [⟨(some 14), .mv, [.t 10], none⟩,
    ⟨(some 15), .bin .leq 0, [.t 14, .c (.v (.int .i64 (4)))], none⟩,
    ⟨(some 16), .mv, [.t 15], none⟩,
    ⟨(some 17), .load true 3, [.t 4], (some (16, true))⟩,
    ⟨(some 18), .mv, [.t 1], (some (16, true))⟩,
    ⟨(some 19), .mv, [.t 2], (some (16, true))⟩,
    ⟨(some 20), .call 18 [], [.t 17, .t 18, .t 19], (some (16, true))⟩,
    ⟨(some 21), .pick, [.t 16, .t 20, .c (.v (.bool false))], none⟩]) <|
  .cond (.t 21) (
    .skip) (
    .exit 0)) <|
  .seq (.block 1 (
    .seq (.reg [⟨(some 25), .load true 3, [.t 4], none⟩,
      ⟨(some 26), .mv, [.t 2], none⟩,
      ⟨(some 27), .mv, [.t 3], none⟩,
      ⟨(some 28), .mv, [.t 10], none⟩,
      ⟨(some 29), .call 29 [], [.t 25, .t 26, .t 27, .t 28], none⟩,
      ⟨(some 24), .mv, [.t 29], none⟩,
      ⟨(some 30), .extr 0, [.t 24], none⟩,
      ⟨(some 31), .extr 1, [.t 24], none⟩,
      ⟨(some 11), .mv, [.t 30], none⟩,
      ⟨(some 12), .mv, [.t 31], none⟩]) <|
    .seq (.reg [⟨(some 32), .mv, [.t 12], none⟩,
      ⟨(some 33), .mv, [.t 32], none⟩,
      ⟨(some 34), .load true 3, [.t 4], (some (33, true))⟩,
      ⟨(some 35), .mv, [.t 1], (some (33, true))⟩,
      ⟨(some 36), .mv, [.t 11], (some (33, true))⟩,
      ⟨(some 37), .call 18 [], [.t 34, .t 35, .t 36], (some (33, true))⟩,
      ⟨(some 38), .pick, [.t 33, .t 37, .c (.v (.bool false))], none⟩]) <|
    .cond (.t 38) (
      .reg [⟨(some 39), .mv, [.t 9], none⟩,
        ⟨(some 40), .mv, [.t 10], none⟩,
        ⟨(some 41), .bsl 1, [.t 40], none⟩,
        ⟨(some 42), .app 1 8 true, [.t 39, .t 41], none⟩,
        ⟨(some 9), .mv, [.t 42], none⟩]) (
      .skip))) <|
  .reg [⟨(some 22), .mv, [.t 10], none⟩,
    ⟨(some 23), .bin .add 0, [.t 22, .c (.v (.int .i64 (1)))], none⟩,
    ⟨(some 10), .mv, [.t 23], none⟩]

def c_spec_OptionsOf : ACode :=
  .seq (.reg [⟨(some 4), .box, [.t 0], none⟩,
    ⟨(some 8), .mv, [.c (.os 1 [])], none⟩]) <|
  .seq (.reg [⟨(some 13), .bsl 1, [], none⟩,
    ⟨(some 9), .mv, [.t 13], none⟩]) <|
  .seq (.seq (.reg [⟨(some 10), .mv, [.c (.v (.int .i64 (1)))], none⟩]) <|
  .block 0 (
    .loop [(1, 1), (2, 1), (9, 1)] [1, 2, 3, 4, 9, 10] c_spec_OptionsOf_L0)) <|
  .seq (.reg [⟨(some 43), .mv, [.t 9], none⟩,
    ⟨(some 8), .mv, [.t 43], none⟩]) <|
  .ret

theorem k_spec_OptionsOf : cFn Tryz.prog n_spec_OptionsOf 44 [.t 8] c_spec_OptionsOf := ⟨Tryz.f28, _, Tryz.func28, rfl, by kernel_rfl, by kernel_rfl, by kernel_rfl, by kernel_rfl⟩

-- 4 parameters, results [.t 8], 31 slots, modes [false, false, false, false]
@[simp] abbrev n_impl_Region_first : Nat := 44
def c_impl_Region_first_L0 : ACode :=
  .seq (.reg [⟨(some 13), .bin .lss 0, [.t 12, .t 11], none⟩]) <|
  .seq (.cond (.t 13) (
    .skip) (
    .exit 0)) <|
  .seq (.block 1 (
    .seq (.reg [⟨(some 14), .mv, [.t 12], none⟩,
      ⟨(some 9), .mv, [.t 14], none⟩]) <|
    .seq (.reg [⟨(some 15), .load true 3, [.t 4], none⟩,
      ⟨(some 16), .mv, [.t 2], none⟩,
      ⟨(some 17), .mv, [.t 9], none⟩,
      ⟨(some 18), .call 45 [], [.t 15, .t 16, .t 17], none⟩,
      ⟨(some 19), .mv, [.t 18], none⟩,
      ⟨(some 20), .load true 3, [.t 4], (some (19, true))⟩,
      ⟨(some 21), .mv, [.t 1], (some (19, true))⟩,
      ⟨(some 22), .mv, [.t 2], (some (19, true))⟩,
      ⟨(some 23), .mv, [.t 9], (some (19, true))⟩,
      ⟨(some 24), .call 57 [], [.t 20, .t 21, .t 22, .t 23], (some (19, true))⟩,
      ⟨(some 25), .len false, [.t 24], (some (19, true))⟩,
      ⟨(some 26), .mv, [.t 3], (some (19, true))⟩,
      ⟨(some 27), .bin .eql 0, [.t 25, .t 26], (some (19, true))⟩,
      ⟨(some 28), .pick, [.t 19, .t 27, .c (.v (.bool false))], none⟩]) <|
    .cond (.t 28) (
      .seq (.reg [⟨(some 29), .mv, [.t 9], none⟩,
        ⟨(some 8), .mv, [.t 29], none⟩]) <|
      .ret) (
      .skip))) <|
  .reg [⟨(some 30), .bin .add 0, [.t 12, .c (.v (.int .i64 (1)))], none⟩,
    ⟨(some 12), .mv, [.t 30], none⟩]

def c_impl_Region_first : ACode :=
  .seq (.reg [⟨(some 4), .box, [.t 0], none⟩,
    ⟨(some 8), .mv, [.c (.v (.int .i64 (0)))], none⟩]) <|
  .seq (.seq (.reg [⟨(some 10), .mv, [.t 2], none⟩,
    ⟨(some 11), .len false, [.t 10], none⟩,
    ⟨(some 12), .mv, [.c (.v (.int .i64 (0)))], none⟩]) <|
  .block 0 (
    .loop [(1, 1), (2, 1)] [1, 2, 3, 4, 11, 12] c_impl_Region_first_L0)) <|
  .seq (.reg [⟨(some 8), .mv, [.c (.v (.int .i64 (-1)))], none⟩]) <|
  .ret

theorem k_impl_Region_first : cFn Tryz.prog n_impl_Region_first 31 [.t 8] c_impl_Region_first := ⟨Tryz.f44, _, Tryz.func44, rfl, by kernel_rfl, by kernel_rfl, by kernel_rfl, by kernel_rfl⟩

-- 3 parameters, results [.t 6, .t 7], 28 slots, modes [false, false, false]
@[simp] abbrev n_impl_Region_force : Nat := 27

def c_impl_Region_force : ACode :=
  .seq (.reg [⟨(some 3), .box, [.t 0], none⟩,
    ⟨(some 6), .mv, [.c (.os 1 [])], none⟩,
    ⟨(some 7), .mv, [.c (.v (.bool false))], none⟩]) <|
  .seq (.reg [⟨(some 9), .load true 3, [.t 3], none⟩,
    ⟨(some 10), .mv, [.t 1], none⟩,
    ⟨(some 11), .mv, [.t 2], none⟩,
    ⟨(some 12), .call 44 [], [.t 9, .t 10, .t 11, .c (.v (.int .i64 (1)))], none⟩,
    ⟨(some 8), .mv, [.t 12], none⟩]) <|
  .seq (.seq (.reg [⟨(some 13), .mv, [.t 8], none⟩,
    ⟨(some 14), .bin .lss 0, [.t 13, .c (.v (.int .i64 (0)))], none⟩]) <|
  .cond (.t 14) (
    .seq (.reg [⟨(some 15), .mv, [.t 2], none⟩,
      ⟨(some 16), .call 49 [], [.t 15], none⟩,
      ⟨(some 6), .mv, [.t 16], none⟩,
      ⟨(some 7), .mv, [.c (.v (.bool false))], none⟩]) <|
    .ret) (
    .skip)) <|
  .seq (.draw (
    .take ⟨(some 18), .mv, [.t 2], none⟩ <|
    .take ⟨(some 19), .mv, [.t 8], none⟩ <|
    .take ⟨(some 21), .mv, [.t 1], none⟩ <|
    .take ⟨(some 22), .mv, [.t 2], none⟩ <|
    .take ⟨(some 23), .mv, [.t 8], none⟩ <|
    .alt ⟨(some 17), .load true 3, [.t 3], none⟩ (
      .alt ⟨(some 20), .load true 3, [.t 3], none⟩ (
        .alt ⟨(some 24), .call 57 [], [.t 20, .t 21, .t 22, .t 23], none⟩ (
          .take ⟨(some 25), .iadr 1, [.t 24, .c (.v (.int .i64 (0)))], none⟩ <|
          .alt ⟨(some 26), .load false 1, [.t 25], none⟩ (
            .alt ⟨(some 27), .call 50 [], [.t 17, .t 18, .t 19, .t 26], none⟩ (
              .take ⟨(some 6), .mv, [.t 27], none⟩ <|
              .take ⟨(some 7), .mv, [.c (.v (.bool true))], none⟩ <|
              .done) <|
            .stop) <|
          .stop) <|
        .stop) <|
      .stop) <|
    .alt ⟨(some 20), .load true 3, [.t 3], none⟩ (
      .alt ⟨(some 17), .load true 3, [.t 3], none⟩ (
        .alt ⟨(some 24), .call 57 [], [.t 20, .t 21, .t 22, .t 23], none⟩ (
          .take ⟨(some 25), .iadr 1, [.t 24, .c (.v (.int .i64 (0)))], none⟩ <|
          .alt ⟨(some 26), .load false 1, [.t 25], none⟩ (
            .alt ⟨(some 27), .call 50 [], [.t 17, .t 18, .t 19, .t 26], none⟩ (
              .take ⟨(some 6), .mv, [.t 27], none⟩ <|
              .take ⟨(some 7), .mv, [.c (.v (.bool true))], none⟩ <|
              .done) <|
            .stop) <|
          .stop) <|
        .stop) <|
      .alt ⟨(some 24), .call 57 [], [.t 20, .t 21, .t 22, .t 23], none⟩ (
        .take ⟨(some 25), .iadr 1, [.t 24, .c (.v (.int .i64 (0)))], none⟩ <|
        .alt ⟨(some 17), .load true 3, [.t 3], none⟩ (
          .alt ⟨(some 26), .load false 1, [.t 25], none⟩ (
            .alt ⟨(some 27), .call 50 [], [.t 17, .t 18, .t 19, .t 26], none⟩ (
              .take ⟨(some 6), .mv, [.t 27], none⟩ <|
              .take ⟨(some 7), .mv, [.c (.v (.bool true))], none⟩ <|
              .done) <|
            .stop) <|
          .stop) <|
        .alt ⟨(some 26), .load false 1, [.t 25], none⟩ (
          .alt ⟨(some 17), .load true 3, [.t 3], none⟩ (
            .alt ⟨(some 27), .call 50 [], [.t 17, .t 18, .t 19, .t 26], none⟩ (
              .take ⟨(some 6), .mv, [.t 27], none⟩ <|
              .take ⟨(some 7), .mv, [.c (.v (.bool true))], none⟩ <|
              .done) <|
            .stop) <|
          .stop) <|
        .stop) <|
      .stop) <|
    .stop)) <|
  .ret

theorem k_impl_Region_force : cFn Tryz.prog n_impl_Region_force 28 [.t 6, .t 7] c_impl_Region_force := ⟨Tryz.f27, _, Tryz.func27, rfl, by kernel_rfl, by kernel_rfl, by kernel_rfl, by kernel_rfl⟩

-- 3 parameters, results [.t 6, .t 7], 42 slots, modes [false, false, false]
@[simp] abbrev n_spec_ForceOne : Nat := 8
def c_spec_ForceOne_L0 : ACode :=
  .seq (.seq (.reg [⟨(some 16), .mv, [.t 8], none⟩,
    ⟨(some 17), .mv, [.t 2], none⟩,
    ⟨(some 18), .len false, [.t 17], none⟩,
    ⟨(some 19), .bin .lss 0, [.t 16, .t 18], none⟩]) <|
  .cond (.t 19) (
    .skip) (
    .exit 0)) <|
  .seq (.block 1 (
    .seq (.reg [⟨(some 22), .load true 3, [.t 3], none⟩,
      ⟨(some 23), .mv, [.t 1], none⟩,
      ⟨(some 24), .mv, [.t 2], none⟩,
      ⟨(some 25), .mv, [.t 8], none⟩,
      ⟨(some 26), .call 28 [], [.t 22, .t 23, .t 24, .t 25], none⟩,
      ⟨(some 9), .mv, [.t 26], none⟩]) <|
    .seq (.reg [⟨(some 27), .mv, [.t 9], none⟩,
      ⟨(some 28), .len false, [.t 27], none⟩,
      ⟨(some 29), .bin .eql 0, [.t 28, .c (.v (.int .i64 (1)))], none⟩]) <|
    .cond (.t 29) (
      .seq (.draw (
        .take ⟨(some 31), .mv, [.t 2], none⟩ <|
        .take ⟨(some 32), .mv, [.t 8], none⟩ <|
        .take ⟨(some 33), .mv, [.t 9], none⟩ <|
        .take ⟨(some 34), .iadr 1, [.t 33, .c (.v (.int .i64 (0)))], none⟩ <|
        .alt ⟨(some 30), .load true 3, [.t 3], none⟩ (
          .alt ⟨(some 35), .load false 1, [.t 34], none⟩ (
            .alt ⟨(some 36), .call 29 [], [.t 30, .t 31, .t 32, .t 35], none⟩ (
              .take ⟨(some 37), .extr 0, [.t 36], none⟩ <|
              .take ⟨(some 38), .extr 1, [.t 36], none⟩ <|
              .take ⟨(some 6), .mv, [.t 37], none⟩ <|
              .take ⟨(some 7), .mv, [.t 38], none⟩ <|
              .done) <|
            .stop) <|
          .stop) <|
        .alt ⟨(some 35), .load false 1, [.t 34], none⟩ (
          .alt ⟨(some 30), .load true 3, [.t 3], none⟩ (
            .alt ⟨(some 36), .call 29 [], [.t 30, .t 31, .t 32, .t 35], none⟩ (
              .take ⟨(some 37), .extr 0, [.t 36], none⟩ <|
              .take ⟨(some 38), .extr 1, [.t 36], none⟩ <|
              .take ⟨(some 6), .mv, [.t 37], none⟩ <|
              .take ⟨(some 7), .mv, [.t 38], none⟩ <|
              .done) <|
            .stop) <|
          .stop) <|
        .stop)) <|
      .ret) (
      .skip))) <|
  .reg [⟨(some 20), .mv, [.t 8], none⟩,
    ⟨(some 21), .bin .add 0, [.t 20, .c (.v (.int .i64 (1)))], none⟩,
    ⟨(some 8), .mv, [.t 21], none⟩]

def c_spec_ForceOne : ACode :=
  .seq (.reg [⟨(some 3), .box, [.t 0], none⟩,
    ⟨(some 6), .mv, [.c (.os 1 [])], none⟩,
    ⟨(some 7), .mv, [.c (.v (.bool false))], none⟩]) <|
  .seq (.seq (.reg [⟨(some 10), .load true 3, [.t 3], none⟩,
    ⟨(some 11), .mv, [.t 1], none⟩,
    ⟨(some 12), .mv, [.t 2], none⟩,
    ⟨(some 13), .call 18 [], [.t 10, .t 11, .t 12], none⟩,
    ⟨(some 14), .un .not, [.t 13], none⟩]) <|
  .cond (.t 14) (
    .seq (.reg [⟨(some 15), .bsl 1, [], none⟩,
      ⟨(some 6), .mv, [.t 15], none⟩,
      ⟨(some 7), .mv, [.c (.v (.bool false))], none⟩]) <|
    .ret) (
    .skip)) <|
  .seq (.seq (.reg [⟨(some 8), .mv, [.c (.v (.int .i64 (0)))], none⟩]) <|
  .block 0 (
    .loop [(1, 1), (2, 1)] [1, 2, 3, 8] c_spec_ForceOne_L0)) <|
  .seq (.reg [⟨(some 39), .bsl 1, [], none⟩,
    ⟨(some 40), .mv, [.t 2], none⟩,
    ⟨(some 41), .app 1 8 true, [.t 39, .t 40], none⟩,
    ⟨(some 6), .mv, [.t 41], none⟩,
    ⟨(some 7), .mv, [.c (.v (.bool false))], none⟩]) <|
  .ret

theorem k_spec_ForceOne : cFn Tryz.prog n_spec_ForceOne 42 [.t 6, .t 7] c_spec_ForceOne := ⟨Tryz.f8, _, Tryz.func8, rfl, by kernel_rfl, by kernel_rfl, by kernel_rfl, by kernel_rfl⟩

-- 3 parameters, results [.t 6, .t 7], 19 slots, modes [false, false, false]
@[simp] abbrev n_impl_ForceOne : Nat := 7

def c_impl_ForceOne : ACode :=
  .seq (.reg [⟨(some 3), .box, [.t 0], none⟩,
    ⟨(some 6), .mv, [.c (.os 1 [])], none⟩,
    ⟨(some 7), .mv, [.c (.v (.bool false))], none⟩]) <|
  .seq (.seq (.reg [⟨(some 8), .load true 3, [.t 3], none⟩,
    ⟨(some 9), .mv, [.t 1], none⟩,
    ⟨(some 10), .mv, [.t 2], none⟩,
    ⟨(some 11), .call 10 [], [.t 8, .t 9, .t 10], none⟩,
    ⟨(some 12), .un .not, [.t 11], none⟩]) <|
  .cond (.t 12) (
    .seq (.reg [⟨(some 6), .mv, [.c (.os 1 [])], none⟩,
      ⟨(some 7), .mv, [.c (.v (.bool false))], none⟩]) <|
    .ret) (
    .skip)) <|
  .seq (.reg [⟨(some 13), .load true 3, [.t 3], none⟩,
    ⟨(some 14), .mv, [.t 1], none⟩,
    ⟨(some 15), .mv, [.t 2], none⟩,
    ⟨(some 16), .call 27 [], [.t 13, .t 14, .t 15], none⟩,
    ⟨(some 17), .extr 0, [.t 16], none⟩,
    ⟨(some 18), .extr 1, [.t 16], none⟩,
    ⟨(some 6), .mv, [.t 17], none⟩,
    ⟨(some 7), .mv, [.t 18], none⟩]) <|
  .ret

theorem k_impl_ForceOne : cFn Tryz.prog n_impl_ForceOne 19 [.t 6, .t 7] c_impl_ForceOne := ⟨Tryz.f7, _, Tryz.func7, rfl, by kernel_rfl, by kernel_rfl, by kernel_rfl, by kernel_rfl⟩

-- 3 parameters, results [.t 6], 20 slots, modes [false, false, false]
@[simp] abbrev n_impl_Region_forceAll : Nat := 38
def c_impl_Region_forceAll_L0 : ACode :=
  .block 1 (
    .seq (.reg [⟨(some 10), .load true 3, [.t 3], none⟩,
      ⟨(some 11), .mv, [.t 1], none⟩,
      ⟨(some 12), .mv, [.t 2], none⟩,
      ⟨(some 13), .call 27 [], [.t 10, .t 11, .t 12], none⟩,
      ⟨(some 9), .mv, [.t 13], none⟩,
      ⟨(some 14), .extr 0, [.t 9], none⟩,
      ⟨(some 15), .extr 1, [.t 9], none⟩,
      ⟨(some 7), .mv, [.t 14], none⟩,
      ⟨(some 8), .mv, [.t 15], none⟩]) <|
    .seq (.seq (.reg [⟨(some 16), .mv, [.t 8], none⟩,
      ⟨(some 17), .un .not, [.t 16], none⟩]) <|
    .cond (.t 17) (
      .seq (.reg [⟨(some 18), .mv, [.t 7], none⟩,
        ⟨(some 6), .mv, [.t 18], none⟩]) <|
      .ret) (
      .skip)) <|
    .reg [⟨(some 19), .mv, [.t 7], none⟩,
      ⟨(some 2), .mv, [.t 19], none⟩])

def c_impl_Region_forceAll : ACode :=
  .seq (.reg [⟨(some 3), .box, [.t 0], none⟩,
    ⟨(some 6), .mv, [.c (.os 1 [])], none⟩]) <|
  .block 0 (
    .loop [(1, 1), (2, 1)] [1, 2, 3] c_impl_Region_forceAll_L0)

theorem k_impl_Region_forceAll : cFn Tryz.prog n_impl_Region_forceAll 20 [.t 6] c_impl_Region_forceAll := ⟨Tryz.f38, _, Tryz.func38, rfl, by kernel_rfl, by kernel_rfl, by kernel_rfl, by kernel_rfl⟩

-- 3 parameters, results [.t 6], 30 slots, modes [false, false, false]
@[simp] abbrev n_spec_ForceAll : Nat := 17
def c_spec_ForceAll_L0 : ACode :=
  .block 1 (
    .seq (.reg [⟨(some 20), .load true 3, [.t 3], none⟩,
      ⟨(some 21), .mv, [.t 1], none⟩,
      ⟨(some 22), .mv, [.t 7], none⟩,
      ⟨(some 23), .call 8 [], [.t 20, .t 21, .t 22], none⟩,
      ⟨(some 19), .mv, [.t 23], none⟩,
      ⟨(some 24), .extr 0, [.t 19], none⟩,
      ⟨(some 25), .extr 1, [.t 19], none⟩,
      ⟨(some 8), .mv, [.t 24], none⟩,
      ⟨(some 9), .mv, [.t 25], none⟩]) <|
    .seq (.seq (.reg [⟨(some 26), .mv, [.t 9], none⟩,
      ⟨(some 27), .un .not, [.t 26], none⟩]) <|
    .cond (.t 27) (
      .seq (.reg [⟨(some 28), .mv, [.t 7], none⟩,
        ⟨(some 6), .mv, [.t 28], none⟩]) <|
      .ret) (
      .skip)) <|
    .reg [⟨(some 29), .mv, [.t 8], none⟩,
      ⟨(some 7), .mv, [.t 29], none⟩])

def c_spec_ForceAll : ACode :=
  .seq (.reg [⟨(some 3), .box, [.t 0], none⟩,
    ⟨(some 6), .mv, [.c (.os 1 [])], none⟩]) <|
  .seq (.seq (.reg [⟨(some 10), .load true 3, [.t 3], none⟩,
    ⟨(some 11), .mv, [.t 1], none⟩,
    ⟨(some 12), .mv, [.t 2], none⟩,
    ⟨(some 13), .call 18 [], [.t 10, .t 11, .t 12], none⟩,
    ⟨(some 14), .un .not, [.t 13], none⟩]) <|
  .cond (.t 14) (
    .seq (.reg [⟨(some 15), .bsl 1, [], none⟩,
      ⟨(some 6), .mv, [.t 15], none⟩]) <|
    .ret) (
    .skip)) <|
  .seq (.reg [⟨(some 16), .bsl 1, [], none⟩,
    ⟨(some 17), .mv, [.t 2], none⟩,
    ⟨(some 18), .app 1 8 true, [.t 16, .t 17], none⟩,
    ⟨(some 7), .mv, [.t 18], none⟩]) <|
  .block 0 (
    .loop [(1, 1), (7, 1)] [1, 3, 7] c_spec_ForceAll_L0)

theorem k_spec_ForceAll : cFn Tryz.prog n_spec_ForceAll 30 [.t 6] c_spec_ForceAll := ⟨Tryz.f17, _, Tryz.func17, rfl, by kernel_rfl, by kernel_rfl, by kernel_rfl, by kernel_rfl⟩

-- 3 parameters, results [.t 6], 16 slots, modes [false, false, false]
@[simp] abbrev n_impl_ForceAll : Nat := 16

def c_impl_ForceAll : ACode :=
  .seq (.reg [⟨(some 3), .box, [.t 0], none⟩,
    ⟨(some 6), .mv, [.c (.os 1 [])], none⟩]) <|
  .seq (.seq (.reg [⟨(some 7), .load true 3, [.t 3], none⟩,
    ⟨(some 8), .mv, [.t 1], none⟩,
    ⟨(some 9), .mv, [.t 2], none⟩,
    ⟨(some 10), .call 10 [], [.t 7, .t 8, .t 9], none⟩,
    ⟨(some 11), .un .not, [.t 10], none⟩]) <|
  .cond (.t 11) (
    .seq (.reg [⟨(some 6), .mv, [.c (.os 1 [])], none⟩]) <|
    .ret) (
    .skip)) <|
  .seq (.reg [⟨(some 12), .load true 3, [.t 3], none⟩,
    ⟨(some 13), .mv, [.t 1], none⟩,
    ⟨(some 14), .mv, [.t 2], none⟩,
    ⟨(some 15), .call 38 [], [.t 12, .t 13, .t 14], none⟩,
    ⟨(some 6), .mv, [.t 15], none⟩]) <|
  .ret

theorem k_impl_ForceAll : cFn Tryz.prog n_impl_ForceAll 16 [.t 6] c_impl_ForceAll := ⟨Tryz.f16, _, Tryz.func16, rfl, by kernel_rfl, by kernel_rfl, by kernel_rfl, by kernel_rfl⟩

end Go.Proofs.Dev

namespace Go.Proofs.Dev

theorem xy_of {W x y : Int} (hx : 0 ≤ x) (hx2 : x < W) : (y * W + x) % W = x ∧ (y * W + x) / W = y := by
  have hW : W ≠ 0 := by omega
  rw [Int.add_comm (y * W) x]
  rw [Int.add_mul_emod_self_right, Int.emod_eq_of_lt hx hx2, Int.add_mul_ediv_right _ _ hW, Int.ediv_eq_zero_of_lt hx hx2, Int.zero_add]
  exact ⟨rfl, rfl⟩

theorem backI_back {w : Int} (h1 : 1 ≤ w) (h4 : w ≤ 4) : backI (backI w) = w ∧ 1 ≤ backI w ∧ backI w ≤ 4 := by
  unfold backI; omega

/-- There and back. -/
theorem step_back {W T k way : Int} (hW : 1 ≤ W) (h0 : 0 ≤ k) (h1 : k < W * T) (ht : 0 ≤ stepI W T k way) :
    stepI W T (stepI W T k way) (backI way) = k ∧ 1 ≤ way ∧ way ≤ 4 ∧ stepI W T k way ≠ k ∧ stepI W T k way < W * T := by
  have hr := stepI_range (T := T) (way := way) hW h0 h1
  obtain ⟨a1, a2, a3, a4, a5⟩ := cell_xy hW h0 h1
  rcases hr with hr | ⟨_, hlt, hw1, hw4⟩
  · omega
  refine ⟨?_, hw1, hw4, ?_, hlt⟩
  · generalize hx : k % W = x at *
    generalize hy : k / W = y at *
    have hk : k = y * W + x := a5
    have hw : way = 1 ∨ way = 2 ∨ way = 3 ∨ way = 4 := by omega
    rcases hw with rfl | rfl | rfl | rfl
    · have e : stepI W T k 1 = k + 1 := by
        unfold stepI at ht ⊢
        simp [hx] at ht ⊢
        split at ht
        · intro; omega
        · omega
      have hx1 : x < W - 1 := by
        unfold stepI at ht; simp [hx] at ht
        split at ht
        · assumption
        · omega
      have c := xy_of (W := W) (x := x + 1) (y := y) (by omega) (by omega)
      rw [e, show k + 1 = y * W + (x + 1) by omega]
      unfold stepI backI
      simp [c.1]
      rw [if_pos (by omega)]; omega
    · have hy1 : y < T - 1 := by
        unfold stepI at ht; simp [hy] at ht
        split at ht
        · assumption
        · omega
      have e : stepI W T k 2 = k + W := by unfold stepI; simp [hy]; intro h; omega
      have c := xy_of (W := W) (x := x) (y := y + 1) (by omega) (by omega)
      have hm : (y + 1) * W = y * W + W := by rw [Int.add_mul, Int.one_mul]
      rw [e, show k + W = (y + 1) * W + x by omega]
      unfold stepI backI
      simp [c.2]
      rw [if_pos (by omega)]; omega
    · have hx1 : 0 < x := by
        unfold stepI at ht; simp [hx] at ht
        split at ht
        · assumption
        · omega
      have e : stepI W T k 3 = k - 1 := by unfold stepI; simp [hx]; intro h; omega
      have c := xy_of (W := W) (x := x - 1) (y := y) (by omega) (by omega)
      rw [e, show k - 1 = y * W + (x - 1) by omega]
      unfold stepI backI
      simp [c.1]
      omega
    · have hy1 : 0 < y := by
        unfold stepI at ht; simp [hy] at ht
        split at ht
        · assumption
        · omega
      have e : stepI W T k 4 = k - W := by unfold stepI; simp [hy]; intro h; omega
      have c := xy_of (W := W) (x := x) (y := y - 1) (by omega) (by omega)
      have hm : (y - 1) * W = y * W - W := by rw [Int.sub_mul, Int.one_mul]
      rw [e, show k - W = (y - 1) * W + x by omega]
      unfold stepI backI
      simp [c.2]
      omega
  · unfold stepI
    split
    · omega
    split
    · omega
    split
    · omega
    split
    · omega
    · omega

def freeB (W T : Int) (cs : List Bool) (ls : List Int) (cell way : Int) : Bool :=
  decide (0 ≤ cell ∧ cell < cs.length ∧ 0 ≤ stepI W T cell way ∧ atb cs cell = true ∧ atb cs (stepI W T cell way) = true ∧ ati ls cell = 0 ∧ ati ls (stepI W T cell way) = 0)
def layI (W T : Int) (ls : List Int) (cell way : Int) : List Int := (ls.set cell.toNat way).set (stepI W T cell way).toNat (backI way)

theorem layI_length (W T : Int) (ls : List Int) (cell way : Int) : (layI W T ls cell way).length = ls.length := by simp [layI]

theorem ati_set {xs : List Int} {i k : Nat} {v : Int} (h : i < xs.length) : ati (xs.set i v) k = if k = i then v else ati xs k := by
  simp only [ati, Int.toNat_natCast, List.getD_eq_getElem?_getD, List.getElem?_set]
  by_cases e : i = k
  · subst e; simp [h]
  · rw [if_neg e, if_neg (fun e2 => e e2.symm)]

theorem lay_ok {W T : Int} {cs : List Bool} {ls : List Int} {cell way : Int} (hr : regB W T cs = true) (hl : laysB W T cs ls = true) (hf : freeB W T cs ls cell way = true) : laysB W T cs (layI W T ls cell way) = true := by
  obtain ⟨w1, w2, t1, t2, l1, _⟩ := regB_W hr
  simp only [freeB, decide_eq_true_eq] at hf
  obtain ⟨f0, f1, f2, f3, f4, f5, f6⟩ := hf
  obtain ⟨b1, b2, b3, b4, b5⟩ := step_back (T := T) w1 f0 (by omega) f2
  obtain ⟨k1, k2, k3⟩ := backI_back b2 b3
  simp only [laysB, Bool.and_eq_true, decide_eq_true_eq, allB_iff, layI_length] at hl ⊢
  obtain ⟨hlen, hall⟩ := hl
  refine ⟨hlen, fun k hk => ?_⟩
  have hc : cell.toNat < ls.length := by omega
  have hto : (stepI W T cell way).toNat < ls.length := by omega
  have at_ : ∀ j : Nat, ati (layI W T ls cell way) j = if j = (stepI W T cell way).toNat then backI way else if j = cell.toNat then way else ati ls j := by
    intro j
    unfold layI
    rw [ati_set (by simpa using hto), ati_set hc]
  have atI : ∀ j : Int, 0 ≤ j → ati (layI W T ls cell way) j = if j = stepI W T cell way then backI way else if j = cell then way else ati ls j := by
    intro j hj
    have := at_ j.toNat
    rw [show ((j.toNat : Nat) : Int) = j by omega] at this
    rw [this]
    by_cases e1 : j = stepI W T cell way
    · rw [if_pos (by omega), if_pos e1]
    · rw [if_neg (by omega), if_neg e1]
      by_cases e2 : j = cell
      · rw [if_pos (by omega), if_pos e2]
      · rw [if_neg (by omega), if_neg e2]
  have hkI := atI k (by omega)
  simp only [layAt, decide_eq_true_eq]
  by_cases e1 : (k : Int) = stepI W T cell way
  · right
    rw [if_pos e1] at hkI
    rw [hkI, e1, b1]
    refine ⟨k2, k3, f4, f0, f3, ?_⟩
    rw [atI cell f0, if_neg (fun e => b4 e.symm), if_pos rfl, k1]
  by_cases e2 : (k : Int) = cell
  · right
    rw [if_neg e1, if_pos e2] at hkI
    rw [hkI, e2]
    refine ⟨b2, b3, f3, f2, f4, ?_⟩
    rw [atI _ f2, if_pos rfl]
  rw [if_neg e1, if_neg e2] at hkI
  rw [hkI]
  have := hall k (by omega)
  simp only [layAt, decide_eq_true_eq] at this
  rcases this with h | ⟨g1, g2, g3, g4, g5, g6⟩
  · left; exact h
  right
  refine ⟨g1, g2, g3, g4, g5, ?_⟩
  have hb := (backI_back g1 g2).2
  rw [atI _ g4, if_neg (fun e => by rw [e] at g6; omega), if_neg (fun e => by rw [e] at g6; omega)]
  exact g6

end Go.Proofs.Dev
