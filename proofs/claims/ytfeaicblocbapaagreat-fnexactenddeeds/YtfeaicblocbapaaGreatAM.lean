/- Contracts of the functions of the program over slots and rows, each proved against the program itself; no condition beyond those that each theorem names. -/
import Derived.Test.YtfeaicblocbapaaGreatO
import Derived.Test.YtfeaicblocbapaaGreatProg

set_option linter.unusedSimpArgs false
set_option linter.unusedVariables false

namespace Go.Proofs.Dev

-- 2 parameters, results [.t 4], 12 slots, modes [false, false]
@[simp] abbrev n_impl_LaidOk : Nat := 119

def c_impl_LaidOk : ACode :=
  .seq (.reg [⟨(some 2), .box, [.t 0], none⟩,
    ⟨(some 4), .mv, [.c (.v (.bool false))], none⟩]) <|
  .seq (.reg [⟨(some 5), .load true 3, [.t 2], none⟩,
    ⟨(some 6), .call 113 [], [.t 5], none⟩,
    ⟨(some 7), .mv, [.t 6], none⟩,
    ⟨(some 8), .load true 3, [.t 2], (some (7, true))⟩,
    ⟨(some 9), .mv, [.t 1], (some (7, true))⟩,
    ⟨(some 10), .call 89 [], [.t 8, .t 9], (some (7, true))⟩,
    ⟨(some 11), .pick, [.t 7, .t 10, .c (.v (.bool false))], none⟩,
    ⟨(some 4), .mv, [.t 11], none⟩]) <|
  .ret

theorem k_impl_LaidOk : cFn Tryz.prog n_impl_LaidOk 12 [.t 4] c_impl_LaidOk := ⟨Tryz.f119, _, Tryz.func119, rfl, by kernel_rfl, by kernel_rfl, by kernel_rfl, by kernel_rfl⟩

end Go.Proofs.Dev

namespace Go.Proofs.Dev

-- 2 parameters, results [.t 4], 20 slots, modes [false, false]
@[simp] abbrev n_laws_eqDeed : Nat := 34

def c_laws_eqDeed : ACode :=
  .seq (.reg [⟨(some 2), .box, [.t 0], none⟩,
    ⟨(some 3), .box, [.t 1], none⟩,
    ⟨(some 4), .mv, [.c (.v (.bool false))], none⟩]) <|
  .seq (.seq (.reg [⟨(some 5), .fadr 0, [.t 2], none⟩,
    ⟨(some 6), .load false 1, [.t 5], none⟩,
    ⟨(some 7), .fadr 0, [.t 3], none⟩,
    ⟨(some 8), .load false 1, [.t 7], none⟩,
    ⟨(some 9), .bin .neq 0, [.t 6, .t 8], none⟩]) <|
  .cond (.t 9) (
    .seq (.reg [⟨(some 4), .mv, [.c (.v (.bool false))], none⟩]) <|
    .ret) (
    .skip)) <|
  .seq (.seq (.reg [⟨(some 10), .fadr 1, [.t 2], none⟩,
    ⟨(some 11), .load false 1, [.t 10], none⟩,
    ⟨(some 12), .fadr 1, [.t 3], none⟩,
    ⟨(some 13), .load false 1, [.t 12], none⟩,
    ⟨(some 14), .bin .neq 0, [.t 11, .t 13], none⟩]) <|
  .cond (.t 14) (
    .seq (.reg [⟨(some 4), .mv, [.c (.v (.bool false))], none⟩]) <|
    .ret) (
    .skip)) <|
  .seq (.seq (.reg [⟨(some 15), .fadr 2, [.t 2], none⟩,
    ⟨(some 16), .load false 1, [.t 15], none⟩,
    ⟨(some 17), .fadr 2, [.t 3], none⟩,
    ⟨(some 18), .load false 1, [.t 17], none⟩,
    ⟨(some 19), .bin .neq 0, [.t 16, .t 18], none⟩]) <|
  .cond (.t 19) (
    .seq (.reg [⟨(some 4), .mv, [.c (.v (.bool false))], none⟩]) <|
    .ret) (
    .skip)) <|
  .seq (.reg [⟨(some 4), .mv, [.c (.v (.bool true))], none⟩]) <|
  .ret

theorem k_laws_eqDeed : cFn Tryz.prog n_laws_eqDeed 20 [.t 4] c_laws_eqDeed := ⟨Tryz.f34, _, Tryz.func34, rfl, by kernel_rfl, by kernel_rfl, by kernel_rfl, by kernel_rfl⟩

-- 2 parameters, results [.t 4], 27 slots, modes [false, false]
@[simp] abbrev n_laws_eqDeedS : Nat := 10
def c_laws_eqDeedS_L0 : ACode :=
  .seq (.seq (.reg [⟨(some 11), .mv, [.t 5], none⟩,
    ⟨(some 12), .mv, [.t 0], none⟩,
    ⟨(some 13), .len false, [.t 12], none⟩,
    ⟨(some 14), .bin .lss 0, [.t 11, .t 13], none⟩]) <|
  .cond (.t 14) (
    .skip) (
    .exit 0)) <|
  .seq (.block 1 (
    .seq (.draw (
      .take ⟨(some 17), .mv, [.t 0], none⟩ <|
      .take ⟨(some 18), .mv, [.t 5], none⟩ <|
      .take ⟨(some 19), .iadr 3, [.t 17, .t 18], none⟩ <|
      .take ⟨(some 21), .mv, [.t 1], none⟩ <|
      .take ⟨(some 22), .mv, [.t 5], none⟩ <|
      .take ⟨(some 23), .iadr 3, [.t 21, .t 22], none⟩ <|
      .alt ⟨(some 20), .load true 3, [.t 19], none⟩ (
        .alt ⟨(some 24), .load true 3, [.t 23], none⟩ (
          .alt ⟨(some 25), .call 34 [], [.t 20, .t 24], none⟩ (
            .take ⟨(some 26), .un .not, [.t 25], none⟩ <|
            .done) <|
          .stop) <|
        .stop) <|
      .alt ⟨(some 24), .load true 3, [.t 23], none⟩ (
        .alt ⟨(some 20), .load true 3, [.t 19], none⟩ (
          .alt ⟨(some 25), .call 34 [], [.t 20, .t 24], none⟩ (
            .take ⟨(some 26), .un .not, [.t 25], none⟩ <|
            .done) <|
          .stop) <|
        .stop) <|
      .stop)) <|
    .cond (.t 26) (
      .seq (.reg [⟨(some 4), .mv, [.c (.v (.bool false))], none⟩]) <|
      .ret) (
      .skip))) <|
  .reg [⟨(some 15), .mv, [.t 5], none⟩,
    ⟨(some 16), .bin .add 0, [.t 15, .c (.v (.int .i64 (1)))], none⟩,
    ⟨(some 5), .mv, [.t 16], none⟩]

def c_laws_eqDeedS : ACode :=
  .seq (.reg [⟨(some 4), .mv, [.c (.v (.bool false))], none⟩]) <|
  .seq (.seq (.reg [⟨(some 6), .mv, [.t 0], none⟩,
    ⟨(some 7), .len false, [.t 6], none⟩,
    ⟨(some 8), .mv, [.t 1], none⟩,
    ⟨(some 9), .len false, [.t 8], none⟩,
    ⟨(some 10), .bin .neq 0, [.t 7, .t 9], none⟩]) <|
  .cond (.t 10) (
    .seq (.reg [⟨(some 4), .mv, [.c (.v (.bool false))], none⟩]) <|
    .ret) (
    .skip)) <|
  .seq (.seq (.reg [⟨(some 5), .mv, [.c (.v (.int .i64 (0)))], none⟩]) <|
  .block 0 (
    .loop [(0, 3), (1, 3)] [0, 1, 5] c_laws_eqDeedS_L0)) <|
  .seq (.reg [⟨(some 4), .mv, [.c (.v (.bool true))], none⟩]) <|
  .ret

theorem k_laws_eqDeedS : cFn Tryz.prog n_laws_eqDeedS 27 [.t 4] c_laws_eqDeedS := ⟨Tryz.f10, _, Tryz.func10, rfl, by kernel_rfl, by kernel_rfl, by kernel_rfl, by kernel_rfl⟩

-- 2 parameters, results [.t 4], 34 slots, modes [true, false]
@[simp] abbrev n_laws_markDeedS : Nat := 13
def c_laws_markDeedS_L0 : ACode :=
  .seq (.seq (.reg [⟨(some 6), .mv, [.t 5], none⟩,
    ⟨(some 7), .mv, [.t 0], none⟩,
    ⟨(some 8), .len false, [.t 7], none⟩,
    ⟨(some 9), .bin .lss 0, [.t 6, .t 8], none⟩]) <|
  .cond (.t 9) (
    .skip) (
    .exit 0)) <|
  .seq (.block 1 (
    .seq (.reg [⟨(some 12), .mv, [.t 0], none⟩,
      ⟨(some 13), .mv, [.t 5], none⟩,
      ⟨(some 14), .mv, [.t 1], none⟩,
      ⟨(some 15), .iadr 3, [.t 12, .t 13], none⟩,
      ⟨(some 16), .fadr 0, [.t 15], none⟩,
      ⟨none, .store 1, [.t 16, .t 14], none⟩]) <|
    .seq (.reg [⟨(some 17), .mv, [.t 1], none⟩,
      ⟨(some 18), .bin .add 0, [.t 17, .c (.v (.int .i64 (1)))], none⟩,
      ⟨(some 1), .mv, [.t 18], none⟩]) <|
    .seq (.reg [⟨(some 19), .mv, [.t 0], none⟩,
      ⟨(some 20), .mv, [.t 5], none⟩,
      ⟨(some 21), .mv, [.t 1], none⟩,
      ⟨(some 22), .iadr 3, [.t 19, .t 20], none⟩,
      ⟨(some 23), .fadr 1, [.t 22], none⟩,
      ⟨none, .store 1, [.t 23, .t 21], none⟩]) <|
    .seq (.reg [⟨(some 24), .mv, [.t 1], none⟩,
      ⟨(some 25), .bin .add 0, [.t 24, .c (.v (.int .i64 (1)))], none⟩,
      ⟨(some 1), .mv, [.t 25], none⟩]) <|
    .seq (.reg [⟨(some 26), .mv, [.t 0], none⟩,
      ⟨(some 27), .mv, [.t 5], none⟩,
      ⟨(some 28), .mv, [.t 1], none⟩,
      ⟨(some 29), .iadr 3, [.t 26, .t 27], none⟩,
      ⟨(some 30), .fadr 2, [.t 29], none⟩,
      ⟨none, .store 1, [.t 30, .t 28], none⟩]) <|
    .reg [⟨(some 31), .mv, [.t 1], none⟩,
      ⟨(some 32), .bin .add 0, [.t 31, .c (.v (.int .i64 (1)))], none⟩,
      ⟨(some 1), .mv, [.t 32], none⟩])) <|
  .reg [⟨(some 10), .mv, [.t 5], none⟩,
    ⟨(some 11), .bin .add 0, [.t 10, .c (.v (.int .i64 (1)))], none⟩,
    ⟨(some 5), .mv, [.t 11], none⟩]

def c_laws_markDeedS : ACode :=
  .seq (.reg [⟨(some 4), .mv, [.c (.v (.int .i64 (0)))], none⟩]) <|
  .seq (.seq (.reg [⟨(some 5), .mv, [.c (.v (.int .i64 (0)))], none⟩]) <|
  .block 0 (
    .loop [(0, 3)] [0, 1, 5, 34] c_laws_markDeedS_L0)) <|
  .seq (.reg [⟨(some 33), .mv, [.t 1], none⟩,
    ⟨(some 4), .mv, [.t 33], none⟩]) <|
  .ret

theorem k_laws_markDeedS : cFn Tryz.prog n_laws_markDeedS 34 [.t 4] c_laws_markDeedS := ⟨Tryz.f13, _, Tryz.func13, rfl, by kernel_rfl, by kernel_rfl, by kernel_rfl, by kernel_rfl⟩

-- 2 parameters, results [.t 4], 40 slots, modes [false, false]
@[simp] abbrev n_laws_heldDeedS : Nat := 14
def c_laws_heldDeedS_L0 : ACode :=
  .seq (.seq (.reg [⟨(some 6), .mv, [.t 5], none⟩,
    ⟨(some 7), .mv, [.t 0], none⟩,
    ⟨(some 8), .len false, [.t 7], none⟩,
    ⟨(some 9), .bin .lss 0, [.t 6, .t 8], none⟩]) <|
  .cond (.t 9) (
    .skip) (
    .exit 0)) <|
  .seq (.block 1 (
    .seq (.seq (.reg [⟨(some 12), .mv, [.t 0], none⟩,
      ⟨(some 13), .mv, [.t 5], none⟩,
      ⟨(some 14), .iadr 3, [.t 12, .t 13], none⟩,
      ⟨(some 15), .fadr 0, [.t 14], none⟩,
      ⟨(some 16), .load false 1, [.t 15], none⟩,
      ⟨(some 17), .mv, [.t 1], none⟩,
      ⟨(some 18), .bin .neq 0, [.t 16, .t 17], none⟩]) <|
    .cond (.t 18) (
      .seq (.reg [⟨(some 4), .mv, [.c (.v (.int .i64 (-1)))], none⟩]) <|
      .ret) (
      .skip)) <|
    .seq (.reg [⟨(some 19), .mv, [.t 1], none⟩,
      ⟨(some 20), .bin .add 0, [.t 19, .c (.v (.int .i64 (1)))], none⟩,
      ⟨(some 1), .mv, [.t 20], none⟩]) <|
    .seq (.seq (.reg [⟨(some 21), .mv, [.t 0], none⟩,
      ⟨(some 22), .mv, [.t 5], none⟩,
      ⟨(some 23), .iadr 3, [.t 21, .t 22], none⟩,
      ⟨(some 24), .fadr 1, [.t 23], none⟩,
      ⟨(some 25), .load false 1, [.t 24], none⟩,
      ⟨(some 26), .mv, [.t 1], none⟩,
      ⟨(some 27), .bin .neq 0, [.t 25, .t 26], none⟩]) <|
    .cond (.t 27) (
      .seq (.reg [⟨(some 4), .mv, [.c (.v (.int .i64 (-1)))], none⟩]) <|
      .ret) (
      .skip)) <|
    .seq (.reg [⟨(some 28), .mv, [.t 1], none⟩,
      ⟨(some 29), .bin .add 0, [.t 28, .c (.v (.int .i64 (1)))], none⟩,
      ⟨(some 1), .mv, [.t 29], none⟩]) <|
    .seq (.seq (.reg [⟨(some 30), .mv, [.t 0], none⟩,
      ⟨(some 31), .mv, [.t 5], none⟩,
      ⟨(some 32), .iadr 3, [.t 30, .t 31], none⟩,
      ⟨(some 33), .fadr 2, [.t 32], none⟩,
      ⟨(some 34), .load false 1, [.t 33], none⟩,
      ⟨(some 35), .mv, [.t 1], none⟩,
      ⟨(some 36), .bin .neq 0, [.t 34, .t 35], none⟩]) <|
    .cond (.t 36) (
      .seq (.reg [⟨(some 4), .mv, [.c (.v (.int .i64 (-1)))], none⟩]) <|
      .ret) (
      .skip)) <|
    .reg [⟨(some 37), .mv, [.t 1], none⟩,
      ⟨(some 38), .bin .add 0, [.t 37, .c (.v (.int .i64 (1)))], none⟩,
      ⟨(some 1), .mv, [.t 38], none⟩])) <|
  .reg [⟨(some 10), .mv, [.t 5], none⟩,
    ⟨(some 11), .bin .add 0, [.t 10, .c (.v (.int .i64 (1)))], none⟩,
    ⟨(some 5), .mv, [.t 11], none⟩]

def c_laws_heldDeedS : ACode :=
  .seq (.reg [⟨(some 4), .mv, [.c (.v (.int .i64 (0)))], none⟩]) <|
  .seq (.seq (.reg [⟨(some 5), .mv, [.c (.v (.int .i64 (0)))], none⟩]) <|
  .block 0 (
    .loop [(0, 3)] [0, 1, 5] c_laws_heldDeedS_L0)) <|
  .seq (.reg [⟨(some 39), .mv, [.t 1], none⟩,
    ⟨(some 4), .mv, [.t 39], none⟩]) <|
  .ret

theorem k_laws_heldDeedS : cFn Tryz.prog n_laws_heldDeedS 40 [.t 4] c_laws_heldDeedS := ⟨Tryz.f14, _, Tryz.func14, rfl, by kernel_rfl, by kernel_rfl, by kernel_rfl, by kernel_rfl⟩

-- 1 parameters, results [.t 2], 9 slots, modes [true]
@[simp] abbrev n_slices_Clip_impl_Deed_impl_Deed : Nat := 63

def c_slices_Clip_impl_Deed_impl_Deed : ACode :=
  .seq (.reg [⟨(some 2), .mv, [.c (.os 3 [])], none⟩]) <|
  .seq (.reg [⟨(some 3), .mv, [.t 0], none⟩,
    ⟨(some 4), .mv, [.t 0], none⟩,
    ⟨(some 5), .len false, [.t 4], none⟩,
    ⟨(some 6), .mv, [.t 0], none⟩,
    ⟨(some 7), .len false, [.t 6], none⟩,
    ⟨(some 8), .slice 3 false false true true, [.t 3, .t 5, .t 7], none⟩,
    ⟨(some 2), .mv, [.t 8], none⟩]) <|
  .ret

theorem k_slices_Clip_impl_Deed_impl_Deed : cFn Tryz.prog n_slices_Clip_impl_Deed_impl_Deed 9 [.t 2] c_slices_Clip_impl_Deed_impl_Deed := ⟨Tryz.f63, _, Tryz.func63, rfl, by kernel_rfl, by kernel_rfl, by kernel_rfl, by kernel_rfl⟩

-- 1 parameters, results [.t 2], 9 slots, modes [false]
@[simp] abbrev n_impl_Book_endDeeds_1 : Nat := 62

def c_impl_Book_endDeeds_1 : ACode :=
  .seq (.reg [⟨(some 2), .mv, [.c (.v (.bool false))], none⟩]) <|
  .seq (.reg [⟨(some 3), .mv, [.t 0], none⟩,
    ⟨(some 4), .bin .eql 0, [.t 3, .c (.v (.int .i64 (1)))], none⟩,
    ⟨(some 5), .mv, [.t 4], none⟩,
    ⟨(some 6), .mv, [.t 0], (some (5, false))⟩,
    ⟨(some 7), .bin .eql 0, [.t 6, .c (.v (.int .i64 (2)))], (some (5, false))⟩,
    ⟨(some 8), .pick, [.t 5, .c (.v (.bool true)), .t 7], none⟩,
    ⟨(some 2), .mv, [.t 8], none⟩]) <|
  .ret

theorem k_impl_Book_endDeeds_1 : cFn Tryz.prog n_impl_Book_endDeeds_1 9 [.t 2] c_impl_Book_endDeeds_1 := ⟨Tryz.f62, _, Tryz.func62, rfl, by kernel_rfl, by kernel_rfl, by kernel_rfl, by kernel_rfl⟩

-- 1 parameters, results [.t 2], 88 slots, modes [false]
@[simp] abbrev n_impl_Book_endDeeds : Nat := 33
def c_impl_Book_endDeeds_L0 : ACode :=
  .seq (.reg [⟨(some 37), .bin .lss 0, [.t 36, .t 35], none⟩]) <|
  .seq (.cond (.t 37) (
    .skip) (
    .exit 0)) <|
  .seq (.block 1 (
    .seq (.reg [⟨(some 38), .mv, [.t 36], none⟩,
      ⟨(some 39), .iadr 1, [.t 34, .t 36], none⟩,
      ⟨(some 40), .load false 1, [.t 39], none⟩,
      ⟨(some 7), .mv, [.t 38], none⟩,
      ⟨(some 8), .mv, [.t 40], none⟩]) <|
    .seq (.reg [⟨(some 41), .mv, [.t 6], none⟩,
      ⟨(some 42), .mv, [.t 8], none⟩,
      ⟨(some 43), .callv [], [.t 41, .t 42], none⟩,
      ⟨(some 44), .mv, [.t 43], none⟩,
      ⟨(some 45), .mv, [.t 3], (some (44, true))⟩,
      ⟨(some 46), .mv, [.t 7], (some (44, true))⟩,
      ⟨(some 47), .iadr 1, [.t 45, .t 46], (some (44, true))⟩,
      ⟨(some 48), .load false 1, [.t 47], (some (44, true))⟩,
      ⟨(some 49), .mv, [.t 8], (some (44, true))⟩,
      ⟨(some 50), .bin .neq 0, [.t 48, .t 49], (some (44, true))⟩,
      ⟨(some 51), .pick, [.t 44, .t 50, .c (.v (.bool false))], none⟩]) <|
    .cond (.t 51) (
      .reg [⟨(some 52), .mv, [.t 5], none⟩,
        ⟨(some 53), .mv, [.t 7], none⟩,
        ⟨(some 54), .build [.v (.int .i64 (0)), .v (.int .i64 (0)), .v (.int .i64 (0))] [(0, 1), (1, 1), (2, 1)], [.c (.v (.int .i64 (1))), .t 53, .c (.v (.int .i64 (0)))], none⟩,
        ⟨(some 55), .bsl 3, [.t 54], none⟩,
        ⟨(some 56), .app 3 24 true, [.t 52, .t 55], none⟩,
        ⟨(some 5), .mv, [.t 56], none⟩]) (
      .skip))) <|
  .reg [⟨(some 57), .bin .add 0, [.t 36, .c (.v (.int .i64 (1)))], none⟩,
    ⟨(some 36), .mv, [.t 57], none⟩]

def c_impl_Book_endDeeds_L1 : ACode :=
  .seq (.reg [⟨(some 61), .bin .lss 0, [.t 60, .t 59], none⟩]) <|
  .seq (.cond (.t 61) (
    .skip) (
    .exit 2)) <|
  .seq (.block 3 (
    .seq (.reg [⟨(some 62), .mv, [.t 60], none⟩,
      ⟨(some 63), .iadr 1, [.t 58, .t 60], none⟩,
      ⟨(some 64), .load false 1, [.t 63], none⟩,
      ⟨(some 9), .mv, [.t 62], none⟩,
      ⟨(some 10), .mv, [.t 64], none⟩]) <|
    .seq (.reg [⟨(some 65), .mv, [.t 6], none⟩,
      ⟨(some 66), .mv, [.t 10], none⟩,
      ⟨(some 67), .callv [], [.t 65, .t 66], none⟩,
      ⟨(some 68), .mv, [.t 67], none⟩,
      ⟨(some 69), .mv, [.t 0], (some (68, true))⟩,
      ⟨(some 70), .nilck, [.t 69], (some (68, true))⟩,
      ⟨(some 71), .fadr 4, [.t 70], (some (68, true))⟩,
      ⟨(some 72), .load false 1, [.t 71], (some (68, true))⟩,
      ⟨(some 73), .mv, [.t 9], (some (68, true))⟩,
      ⟨(some 74), .iadr 1, [.t 72, .t 73], (some (68, true))⟩,
      ⟨(some 75), .load false 1, [.t 74], (some (68, true))⟩,
      ⟨(some 76), .mv, [.t 10], (some (68, true))⟩,
      ⟨(some 77), .bin .neq 0, [.t 75, .t 76], (some (68, true))⟩,
      ⟨(some 78), .pick, [.t 68, .t 77, .c (.v (.bool false))], none⟩]) <|
    .cond (.t 78) (
      .reg [⟨(some 79), .mv, [.t 5], none⟩,
        ⟨(some 80), .mv, [.t 9], none⟩,
        ⟨(some 81), .mv, [.t 10], none⟩,
        ⟨(some 82), .build [.v (.int .i64 (0)), .v (.int .i64 (0)), .v (.int .i64 (0))] [(0, 1), (1, 1), (2, 1)], [.c (.v (.int .i64 (0))), .t 80, .t 81], none⟩,
        ⟨(some 83), .bsl 3, [.t 82], none⟩,
        ⟨(some 84), .app 3 24 true, [.t 79, .t 83], none⟩,
        ⟨(some 5), .mv, [.t 84], none⟩]) (
      .skip))) <|
  .reg [⟨(some 85), .bin .add 0, [.t 60, .c (.v (.int .i64 (1)))], none⟩,
    ⟨(some 60), .mv, [.t 85], none⟩]

def c_impl_Book_endDeeds_T2 : ACode :=
  .seq (.seq (.reg [⟨(some 29), .mv, [.t 4], none⟩,
    ⟨(some 30), .un .not, [.t 29], none⟩]) <|
  .cond (.t 30) (
    .seq (.reg [⟨(some 2), .mv, [.c (.os 3 [])], none⟩]) <|
    .ret) (
    .skip)) <|
  .seq (.reg [⟨(some 5), .mv, [.c (.os 3 [])], none⟩]) <|
  .seq (.reg [⟨(some 6), .mv, [.f 62], none⟩]) <|
  .seq (.seq (.reg [⟨(some 31), .mv, [.t 0], none⟩,
    ⟨(some 32), .nilck, [.t 31], none⟩,
    ⟨(some 33), .fadr 4, [.t 32], none⟩,
    ⟨(some 34), .load false 1, [.t 33], none⟩,
    ⟨(some 35), .len false, [.t 34], none⟩,
    ⟨(some 36), .mv, [.c (.v (.int .i64 (0)))], none⟩]) <|
  .block 0 (
    .loop [(3, 1), (5, 3), (34, 1)] [0, 3, 5, 6, 34, 35, 36] c_impl_Book_endDeeds_L0)) <|
  .seq (.seq (.reg [⟨(some 58), .mv, [.t 3], none⟩,
    ⟨(some 59), .len false, [.t 58], none⟩,
    ⟨(some 60), .mv, [.c (.v (.int .i64 (0)))], none⟩]) <|
  .block 2 (
    .loop [(5, 3), (58, 1)] [0, 5, 6, 58, 59, 60] c_impl_Book_endDeeds_L1)) <|
  .seq (.reg [⟨(some 86), .mv, [.t 5], none⟩,
    ⟨(some 87), .call 63 [], [.t 86], none⟩,
    ⟨(some 2), .mv, [.t 87], none⟩]) <|
  .ret

def c_impl_Book_endDeeds : ACode :=
  .seq (.reg [⟨(some 2), .mv, [.c (.os 3 [])], none⟩]) <|
  .seq (.draw (
    .take ⟨(some 12), .mv, [.t 0], none⟩ <|
    .take ⟨(some 13), .nilck, [.t 12], none⟩ <|
    .take ⟨(some 14), .fadr 0, [.t 13], none⟩ <|
    .take ⟨(some 16), .mv, [.t 0], none⟩ <|
    .take ⟨(some 17), .nilck, [.t 16], none⟩ <|
    .take ⟨(some 18), .fadr 3, [.t 17], none⟩ <|
    .take ⟨(some 20), .mv, [.t 0], none⟩ <|
    .take ⟨(some 21), .nilck, [.t 20], none⟩ <|
    .take ⟨(some 22), .fadr 3, [.t 21], none⟩ <|
    .alt ⟨(some 15), .load true 3, [.t 14], none⟩ (
      .alt ⟨(some 19), .load false 1, [.t 18], none⟩ (
        .alt ⟨(some 23), .load false 1, [.t 22], none⟩ (
          .take ⟨(some 24), .len false, [.t 23], none⟩ <|
          .alt ⟨(some 25), .mksl 1 8 (.v (.int .i64 (0))), [.t 24, .t 24], none⟩ (
            .alt ⟨(some 26), .call 61 [], [.t 15, .t 19, .t 25], none⟩ (
              .take ⟨(some 11), .mv, [.t 26], none⟩ <|
              .take ⟨(some 27), .extr 0, [.t 11], none⟩ <|
              .take ⟨(some 28), .extr 1, [.t 11], none⟩ <|
              .take ⟨(some 3), .mv, [.t 27], none⟩ <|
              .take ⟨(some 4), .mv, [.t 28], none⟩ <|
              .done) <|
            .stop) <|
          .stop) <|
        .stop) <|
      .alt ⟨(some 23), .load false 1, [.t 22], none⟩ (
        .take ⟨(some 24), .len false, [.t 23], none⟩ <|
        .alt ⟨(some 19), .load false 1, [.t 18], none⟩ (
          .alt ⟨(some 25), .mksl 1 8 (.v (.int .i64 (0))), [.t 24, .t 24], none⟩ (
            .alt ⟨(some 26), .call 61 [], [.t 15, .t 19, .t 25], none⟩ (
              .take ⟨(some 11), .mv, [.t 26], none⟩ <|
              .take ⟨(some 27), .extr 0, [.t 11], none⟩ <|
              .take ⟨(some 28), .extr 1, [.t 11], none⟩ <|
              .take ⟨(some 3), .mv, [.t 27], none⟩ <|
              .take ⟨(some 4), .mv, [.t 28], none⟩ <|
              .done) <|
            .stop) <|
          .stop) <|
        .alt ⟨(some 25), .mksl 1 8 (.v (.int .i64 (0))), [.t 24, .t 24], none⟩ (
          .alt ⟨(some 19), .load false 1, [.t 18], none⟩ (
            .alt ⟨(some 26), .call 61 [], [.t 15, .t 19, .t 25], none⟩ (
              .take ⟨(some 11), .mv, [.t 26], none⟩ <|
              .take ⟨(some 27), .extr 0, [.t 11], none⟩ <|
              .take ⟨(some 28), .extr 1, [.t 11], none⟩ <|
              .take ⟨(some 3), .mv, [.t 27], none⟩ <|
              .take ⟨(some 4), .mv, [.t 28], none⟩ <|
              .done) <|
            .stop) <|
          .stop) <|
        .stop) <|
      .stop) <|
    .alt ⟨(some 19), .load false 1, [.t 18], none⟩ (
      .alt ⟨(some 15), .load true 3, [.t 14], none⟩ (
        .alt ⟨(some 23), .load false 1, [.t 22], none⟩ (
          .take ⟨(some 24), .len false, [.t 23], none⟩ <|
          .alt ⟨(some 25), .mksl 1 8 (.v (.int .i64 (0))), [.t 24, .t 24], none⟩ (
            .alt ⟨(some 26), .call 61 [], [.t 15, .t 19, .t 25], none⟩ (
              .take ⟨(some 11), .mv, [.t 26], none⟩ <|
              .take ⟨(some 27), .extr 0, [.t 11], none⟩ <|
              .take ⟨(some 28), .extr 1, [.t 11], none⟩ <|
              .take ⟨(some 3), .mv, [.t 27], none⟩ <|
              .take ⟨(some 4), .mv, [.t 28], none⟩ <|
              .done) <|
            .stop) <|
          .stop) <|
        .stop) <|
      .alt ⟨(some 23), .load false 1, [.t 22], none⟩ (
        .take ⟨(some 24), .len false, [.t 23], none⟩ <|
        .alt ⟨(some 15), .load true 3, [.t 14], none⟩ (
          .alt ⟨(some 25), .mksl 1 8 (.v (.int .i64 (0))), [.t 24, .t 24], none⟩ (
            .alt ⟨(some 26), .call 61 [], [.t 15, .t 19, .t 25], none⟩ (
              .take ⟨(some 11), .mv, [.t 26], none⟩ <|
              .take ⟨(some 27), .extr 0, [.t 11], none⟩ <|
              .take ⟨(some 28), .extr 1, [.t 11], none⟩ <|
              .take ⟨(some 3), .mv, [.t 27], none⟩ <|
              .take ⟨(some 4), .mv, [.t 28], none⟩ <|
              .done) <|
            .stop) <|
          .stop) <|
        .alt ⟨(some 25), .mksl 1 8 (.v (.int .i64 (0))), [.t 24, .t 24], none⟩ (
          .alt ⟨(some 15), .load true 3, [.t 14], none⟩ (
            .alt ⟨(some 26), .call 61 [], [.t 15, .t 19, .t 25], none⟩ (
              .take ⟨(some 11), .mv, [.t 26], none⟩ <|
              .take ⟨(some 27), .extr 0, [.t 11], none⟩ <|
              .take ⟨(some 28), .extr 1, [.t 11], none⟩ <|
              .take ⟨(some 3), .mv, [.t 27], none⟩ <|
              .take ⟨(some 4), .mv, [.t 28], none⟩ <|
              .done) <|
            .stop) <|
          .stop) <|
        .stop) <|
      .stop) <|
    .alt ⟨(some 23), .load false 1, [.t 22], none⟩ (
      .take ⟨(some 24), .len false, [.t 23], none⟩ <|
      .alt ⟨(some 15), .load true 3, [.t 14], none⟩ (
        .alt ⟨(some 19), .load false 1, [.t 18], none⟩ (
          .alt ⟨(some 25), .mksl 1 8 (.v (.int .i64 (0))), [.t 24, .t 24], none⟩ (
            .alt ⟨(some 26), .call 61 [], [.t 15, .t 19, .t 25], none⟩ (
              .take ⟨(some 11), .mv, [.t 26], none⟩ <|
              .take ⟨(some 27), .extr 0, [.t 11], none⟩ <|
              .take ⟨(some 28), .extr 1, [.t 11], none⟩ <|
              .take ⟨(some 3), .mv, [.t 27], none⟩ <|
              .take ⟨(some 4), .mv, [.t 28], none⟩ <|
              .done) <|
            .stop) <|
          .stop) <|
        .alt ⟨(some 25), .mksl 1 8 (.v (.int .i64 (0))), [.t 24, .t 24], none⟩ (
          .alt ⟨(some 19), .load false 1, [.t 18], none⟩ (
            .alt ⟨(some 26), .call 61 [], [.t 15, .t 19, .t 25], none⟩ (
              .take ⟨(some 11), .mv, [.t 26], none⟩ <|
              .take ⟨(some 27), .extr 0, [.t 11], none⟩ <|
              .take ⟨(some 28), .extr 1, [.t 11], none⟩ <|
              .take ⟨(some 3), .mv, [.t 27], none⟩ <|
              .take ⟨(some 4), .mv, [.t 28], none⟩ <|
              .done) <|
            .stop) <|
          .stop) <|
        .stop) <|
      .alt ⟨(some 19), .load false 1, [.t 18], none⟩ (
        .alt ⟨(some 15), .load true 3, [.t 14], none⟩ (
          .alt ⟨(some 25), .mksl 1 8 (.v (.int .i64 (0))), [.t 24, .t 24], none⟩ (
            .alt ⟨(some 26), .call 61 [], [.t 15, .t 19, .t 25], none⟩ (
              .take ⟨(some 11), .mv, [.t 26], none⟩ <|
              .take ⟨(some 27), .extr 0, [.t 11], none⟩ <|
              .take ⟨(some 28), .extr 1, [.t 11], none⟩ <|
              .take ⟨(some 3), .mv, [.t 27], none⟩ <|
              .take ⟨(some 4), .mv, [.t 28], none⟩ <|
              .done) <|
            .stop) <|
          .stop) <|
        .alt ⟨(some 25), .mksl 1 8 (.v (.int .i64 (0))), [.t 24, .t 24], none⟩ (
          .alt ⟨(some 15), .load true 3, [.t 14], none⟩ (
            .alt ⟨(some 26), .call 61 [], [.t 15, .t 19, .t 25], none⟩ (
              .take ⟨(some 11), .mv, [.t 26], none⟩ <|
              .take ⟨(some 27), .extr 0, [.t 11], none⟩ <|
              .take ⟨(some 28), .extr 1, [.t 11], none⟩ <|
              .take ⟨(some 3), .mv, [.t 27], none⟩ <|
              .take ⟨(some 4), .mv, [.t 28], none⟩ <|
              .done) <|
            .stop) <|
          .stop) <|
        .stop) <|
      .alt ⟨(some 25), .mksl 1 8 (.v (.int .i64 (0))), [.t 24, .t 24], none⟩ (
        .alt ⟨(some 15), .load true 3, [.t 14], none⟩ (
          .alt ⟨(some 19), .load false 1, [.t 18], none⟩ (
            .alt ⟨(some 26), .call 61 [], [.t 15, .t 19, .t 25], none⟩ (
              .take ⟨(some 11), .mv, [.t 26], none⟩ <|
              .take ⟨(some 27), .extr 0, [.t 11], none⟩ <|
              .take ⟨(some 28), .extr 1, [.t 11], none⟩ <|
              .take ⟨(some 3), .mv, [.t 27], none⟩ <|
              .take ⟨(some 4), .mv, [.t 28], none⟩ <|
              .done) <|
            .stop) <|
          .stop) <|
        .alt ⟨(some 19), .load false 1, [.t 18], none⟩ (
          .alt ⟨(some 15), .load true 3, [.t 14], none⟩ (
            .alt ⟨(some 26), .call 61 [], [.t 15, .t 19, .t 25], none⟩ (
              .take ⟨(some 11), .mv, [.t 26], none⟩ <|
              .take ⟨(some 27), .extr 0, [.t 11], none⟩ <|
              .take ⟨(some 28), .extr 1, [.t 11], none⟩ <|
              .take ⟨(some 3), .mv, [.t 27], none⟩ <|
              .take ⟨(some 4), .mv, [.t 28], none⟩ <|
              .done) <|
            .stop) <|
          .stop) <|
        .stop) <|
      .stop) <|
    .stop)) <|
  .gc [] [0, 3, 4] c_impl_Book_endDeeds_T2

theorem k_impl_Book_endDeeds : cFn Tryz.prog n_impl_Book_endDeeds 88 [.t 2] c_impl_Book_endDeeds := ⟨Tryz.f33, _, Tryz.func33, rfl, by kernel_rfl, by kernel_rfl, by kernel_rfl, by kernel_rfl⟩

-- 1 parameters, results [.t 2], 7 slots, modes [false]
@[simp] abbrev n_impl_EndDeeds : Nat := 9

def c_impl_EndDeeds : ACode :=
  .seq (.reg [⟨(some 1), .box, [.t 0], none⟩,
    ⟨(some 2), .mv, [.c (.os 3 [])], none⟩]) <|
  .seq (.seq (.reg [⟨(some 3), .load true 6, [.t 1], none⟩,
    ⟨(some 4), .call 32 [], [.t 3], none⟩,
    ⟨(some 5), .un .not, [.t 4], none⟩]) <|
  .cond (.t 5) (
    .seq (.reg [⟨(some 2), .mv, [.c (.os 3 [])], none⟩]) <|
    .ret) (
    .skip)) <|
  .seq (.reg [⟨(some 6), .call 33 [], [.t 1], none⟩,
    ⟨(some 2), .mv, [.t 6], none⟩]) <|
  .ret

theorem k_impl_EndDeeds : cFn Tryz.prog n_impl_EndDeeds 7 [.t 2] c_impl_EndDeeds := ⟨Tryz.f9, _, Tryz.func9, rfl, by kernel_rfl, by kernel_rfl, by kernel_rfl, by kernel_rfl⟩

-- 1 parameters, results [.t 2], 105 slots, modes [false]
@[simp] abbrev n_spec_EndDeeds : Nat := 7
def c_spec_EndDeeds_L0 : ACode :=
  .seq (.seq (.reg [⟨(some 28), .mv, [.t 6], none⟩,
    ⟨(some 29), .mv, [.t 4], none⟩,
    ⟨(some 30), .len false, [.t 29], none⟩,
    ⟨(some 31), .bin .lss 0, [.t 28, .t 30], none⟩]) <|
  .cond (.t 31) (
    .skip) (
    .exit 0)) <|
  .seq (.block 1 (
    .seq (.draw (
      .take ⟨(some 34), .fadr 4, [.t 1], none⟩ <|
      .take ⟨(some 36), .mv, [.t 6], none⟩ <|
      .alt ⟨(some 35), .load false 1, [.t 34], none⟩ (
        .take ⟨(some 37), .iadr 1, [.t 35, .t 36], none⟩ <|
        .alt ⟨(some 38), .load false 1, [.t 37], none⟩ (
          .take ⟨(some 39), .bin .eql 0, [.t 38, .c (.v (.int .i64 (1)))], none⟩ <|
          .take ⟨(some 40), .mv, [.t 39], none⟩ <|
          .take ⟨(some 41), .fadr 4, [.t 1], (some (40, false))⟩ <|
          .take ⟨(some 43), .mv, [.t 6], (some (40, false))⟩ <|
          .alt ⟨(some 42), .load false 1, [.t 41], (some (40, false))⟩ (
            .take ⟨(some 44), .iadr 1, [.t 42, .t 43], (some (40, false))⟩ <|
            .alt ⟨(some 45), .load false 1, [.t 44], (some (40, false))⟩ (
              .take ⟨(some 46), .bin .eql 0, [.t 45, .c (.v (.int .i64 (2)))], (some (40, false))⟩ <|
              .take ⟨(some 47), .pick, [.t 40, .c (.v (.bool true)), .t 46], none⟩ <|
              .take ⟨(some 48), .mv, [.t 47], none⟩ <|
              .take ⟨(some 49), .mv, [.t 4], (some (48, true))⟩ <|
              .take ⟨(some 50), .mv, [.t 6], (some (48, true))⟩ <|
              .take ⟨(some 51), .iadr 1, [.t 49, .t 50], (some (48, true))⟩ <|
              .take ⟨(some 53), .fadr 4, [.t 1], (some (48, true))⟩ <|
              .take ⟨(some 55), .mv, [.t 6], (some (48, true))⟩ <|
              .alt ⟨(some 52), .load false 1, [.t 51], (some (48, true))⟩ (
                .alt ⟨(some 54), .load false 1, [.t 53], (some (48, true))⟩ (
                  .take ⟨(some 56), .iadr 1, [.t 54, .t 55], (some (48, true))⟩ <|
                  .alt ⟨(some 57), .load false 1, [.t 56], (some (48, true))⟩ (
                    .take ⟨(some 58), .bin .neq 0, [.t 52, .t 57], (some (48, true))⟩ <|
                    .take ⟨(some 59), .pick, [.t 48, .t 58, .c (.v (.bool false))], none⟩ <|
                    .done) <|
                  .stop) <|
                .stop) <|
              .alt ⟨(some 54), .load false 1, [.t 53], (some (48, true))⟩ (
                .take ⟨(some 56), .iadr 1, [.t 54, .t 55], (some (48, true))⟩ <|
                .alt ⟨(some 52), .load false 1, [.t 51], (some (48, true))⟩ (
                  .alt ⟨(some 57), .load false 1, [.t 56], (some (48, true))⟩ (
                    .take ⟨(some 58), .bin .neq 0, [.t 52, .t 57], (some (48, true))⟩ <|
                    .take ⟨(some 59), .pick, [.t 48, .t 58, .c (.v (.bool false))], none⟩ <|
                    .done) <|
                  .stop) <|
                .alt ⟨(some 57), .load false 1, [.t 56], (some (48, true))⟩ (
                  .alt ⟨(some 52), .load false 1, [.t 51], (some (48, true))⟩ (
                    .take ⟨(some 58), .bin .neq 0, [.t 52, .t 57], (some (48, true))⟩ <|
                    .take ⟨(some 59), .pick, [.t 48, .t 58, .c (.v (.bool false))], none⟩ <|
                    .done) <|
                  .stop) <|
                .stop) <|
              .stop) <|
            .stop) <|
          .stop) <|
        .stop) <|
      .stop)) <|
    .cond (.t 59) (
      .reg [⟨(some 60), .mv, [.t 3], none⟩,
        ⟨(some 61), .mv, [.t 6], none⟩,
        ⟨(some 62), .build [.v (.int .i64 (0)), .v (.int .i64 (0)), .v (.int .i64 (0))] [(0, 1), (1, 1)], [.c (.v (.int .i64 (1))), .t 61], none⟩,
        ⟨(some 63), .bsl 3, [.t 62], none⟩,
        ⟨(some 64), .app 3 24 true, [.t 60, .t 63], none⟩,
        ⟨(some 3), .mv, [.t 64], none⟩]) (
      .skip))) <|
  .reg [⟨(some 32), .mv, [.t 6], none⟩,
    ⟨(some 33), .bin .add 0, [.t 32, .c (.v (.int .i64 (1)))], none⟩,
    ⟨(some 6), .mv, [.t 33], none⟩]

def c_spec_EndDeeds_L1 : ACode :=
  .seq (.seq (.reg [⟨(some 65), .mv, [.t 7], none⟩,
    ⟨(some 66), .mv, [.t 4], none⟩,
    ⟨(some 67), .len false, [.t 66], none⟩,
    ⟨(some 68), .bin .lss 0, [.t 65, .t 67], none⟩]) <|
  .cond (.t 68) (
    .skip) (
    .exit 2)) <|
  .seq (.block 3 (
    .seq (.draw (
      .take ⟨(some 71), .mv, [.t 4], none⟩ <|
      .take ⟨(some 72), .mv, [.t 7], none⟩ <|
      .take ⟨(some 73), .iadr 1, [.t 71, .t 72], none⟩ <|
      .alt ⟨(some 74), .load false 1, [.t 73], none⟩ (
        .take ⟨(some 75), .bin .eql 0, [.t 74, .c (.v (.int .i64 (1)))], none⟩ <|
        .take ⟨(some 76), .mv, [.t 75], none⟩ <|
        .take ⟨(some 77), .mv, [.t 4], (some (76, false))⟩ <|
        .take ⟨(some 78), .mv, [.t 7], (some (76, false))⟩ <|
        .take ⟨(some 79), .iadr 1, [.t 77, .t 78], (some (76, false))⟩ <|
        .alt ⟨(some 80), .load false 1, [.t 79], (some (76, false))⟩ (
          .take ⟨(some 81), .bin .eql 0, [.t 80, .c (.v (.int .i64 (2)))], (some (76, false))⟩ <|
          .take ⟨(some 82), .pick, [.t 76, .c (.v (.bool true)), .t 81], none⟩ <|
          .take ⟨(some 83), .mv, [.t 82], none⟩ <|
          .take ⟨(some 84), .mv, [.t 4], (some (83, true))⟩ <|
          .take ⟨(some 85), .mv, [.t 7], (some (83, true))⟩ <|
          .take ⟨(some 86), .iadr 1, [.t 84, .t 85], (some (83, true))⟩ <|
          .take ⟨(some 88), .fadr 4, [.t 1], (some (83, true))⟩ <|
          .take ⟨(some 90), .mv, [.t 7], (some (83, true))⟩ <|
          .alt ⟨(some 87), .load false 1, [.t 86], (some (83, true))⟩ (
            .alt ⟨(some 89), .load false 1, [.t 88], (some (83, true))⟩ (
              .take ⟨(some 91), .iadr 1, [.t 89, .t 90], (some (83, true))⟩ <|
              .alt ⟨(some 92), .load false 1, [.t 91], (some (83, true))⟩ (
                .take ⟨(some 93), .bin .neq 0, [.t 87, .t 92], (some (83, true))⟩ <|
                .take ⟨(some 94), .pick, [.t 83, .t 93, .c (.v (.bool false))], none⟩ <|
                .done) <|
              .stop) <|
            .stop) <|
          .alt ⟨(some 89), .load false 1, [.t 88], (some (83, true))⟩ (
            .take ⟨(some 91), .iadr 1, [.t 89, .t 90], (some (83, true))⟩ <|
            .alt ⟨(some 87), .load false 1, [.t 86], (some (83, true))⟩ (
              .alt ⟨(some 92), .load false 1, [.t 91], (some (83, true))⟩ (
                .take ⟨(some 93), .bin .neq 0, [.t 87, .t 92], (some (83, true))⟩ <|
                .take ⟨(some 94), .pick, [.t 83, .t 93, .c (.v (.bool false))], none⟩ <|
                .done) <|
              .stop) <|
            .alt ⟨(some 92), .load false 1, [.t 91], (some (83, true))⟩ (
              .alt ⟨(some 87), .load false 1, [.t 86], (some (83, true))⟩ (
                .take ⟨(some 93), .bin .neq 0, [.t 87, .t 92], (some (83, true))⟩ <|
                .take ⟨(some 94), .pick, [.t 83, .t 93, .c (.v (.bool false))], none⟩ <|
                .done) <|
              .stop) <|
            .stop) <|
          .stop) <|
        .stop) <|
      .stop)) <|
    .cond (.t 94) (
      .reg [⟨(some 95), .mv, [.t 3], none⟩,
        ⟨(some 96), .mv, [.t 7], none⟩,
        ⟨(some 97), .mv, [.t 4], none⟩,
        ⟨(some 98), .mv, [.t 7], none⟩,
        ⟨(some 99), .iadr 1, [.t 97, .t 98], none⟩,
        ⟨(some 100), .load false 1, [.t 99], none⟩,
        ⟨(some 101), .build [.v (.int .i64 (0)), .v (.int .i64 (0)), .v (.int .i64 (0))] [(0, 1), (1, 1), (2, 1)], [.c (.v (.int .i64 (0))), .t 96, .t 100], none⟩,
        ⟨(some 102), .bsl 3, [.t 101], none⟩,
        ⟨(some 103), .app 3 24 true, [.t 95, .t 102], none⟩,
        ⟨(some 3), .mv, [.t 103], none⟩]) (
      .skip))) <|
  .reg [⟨(some 69), .mv, [.t 7], none⟩,
    ⟨(some 70), .bin .add 0, [.t 69, .c (.v (.int .i64 (1)))], none⟩,
    ⟨(some 7), .mv, [.t 70], none⟩]

def c_spec_EndDeeds_T2 : ACode :=
  .seq (.seq (.reg [⟨(some 20), .mv, [.t 5], none⟩,
    ⟨(some 21), .un .not, [.t 20], none⟩,
    ⟨(some 22), .mv, [.t 21], none⟩,
    ⟨(some 23), .load true 6, [.t 1], (some (22, false))⟩,
    ⟨(some 24), .call 28 [], [.t 23], (some (22, false))⟩,
    ⟨(some 25), .un .not, [.t 24], (some (22, false))⟩,
    ⟨(some 26), .pick, [.t 22, .c (.v (.bool true)), .t 25], none⟩]) <|
  .cond (.t 26) (
    .seq (.reg [⟨(some 27), .mv, [.t 3], none⟩,
      ⟨(some 2), .mv, [.t 27], none⟩]) <|
    .ret) (
    .skip)) <|
  .seq (.seq (.reg [⟨(some 6), .mv, [.c (.v (.int .i64 (0)))], none⟩]) <|
  .block 0 (
    .loop [(3, 3), (4, 1)] [1, 3, 4, 6] c_spec_EndDeeds_L0)) <|
  .seq (.seq (.reg [⟨(some 7), .mv, [.c (.v (.int .i64 (0)))], none⟩]) <|
  .block 2 (
    .loop [(3, 3), (4, 1)] [1, 3, 4, 7] c_spec_EndDeeds_L1)) <|
  .seq (.reg [⟨(some 104), .mv, [.t 3], none⟩,
    ⟨(some 2), .mv, [.t 104], none⟩]) <|
  .ret

def c_spec_EndDeeds : ACode :=
  .seq (.reg [⟨(some 1), .box, [.t 0], none⟩,
    ⟨(some 2), .mv, [.c (.os 3 [])], none⟩]) <|
  .seq (.reg [⟨(some 8), .bsl 3, [], none⟩,
    ⟨(some 3), .mv, [.t 8], none⟩]) <|
  .seq (.draw (
    .take ⟨(some 10), .fadr 0, [.t 1], none⟩ <|
    .take ⟨(some 12), .fadr 3, [.t 1], none⟩ <|
    .take ⟨(some 14), .fadr 0, [.t 1], none⟩ <|
    .alt ⟨(some 11), .load true 3, [.t 10], none⟩ (
      .alt ⟨(some 13), .load false 1, [.t 12], none⟩ (
        .alt ⟨(some 15), .load true 3, [.t 14], none⟩ (
          .alt ⟨(some 16), .call 27 [], [.t 15], none⟩ (
            .alt ⟨(some 17), .call 26 [], [.t 11, .t 13, .t 16], none⟩ (
              .take ⟨(some 9), .mv, [.t 17], none⟩ <|
              .take ⟨(some 18), .extr 0, [.t 9], none⟩ <|
              .take ⟨(some 19), .extr 1, [.t 9], none⟩ <|
              .take ⟨(some 4), .mv, [.t 18], none⟩ <|
              .take ⟨(some 5), .mv, [.t 19], none⟩ <|
              .done) <|
            .stop) <|
          .stop) <|
        .stop) <|
      .alt ⟨(some 15), .load true 3, [.t 14], none⟩ (
        .alt ⟨(some 13), .load false 1, [.t 12], none⟩ (
          .alt ⟨(some 16), .call 27 [], [.t 15], none⟩ (
            .alt ⟨(some 17), .call 26 [], [.t 11, .t 13, .t 16], none⟩ (
              .take ⟨(some 9), .mv, [.t 17], none⟩ <|
              .take ⟨(some 18), .extr 0, [.t 9], none⟩ <|
              .take ⟨(some 19), .extr 1, [.t 9], none⟩ <|
              .take ⟨(some 4), .mv, [.t 18], none⟩ <|
              .take ⟨(some 5), .mv, [.t 19], none⟩ <|
              .done) <|
            .stop) <|
          .stop) <|
        .alt ⟨(some 16), .call 27 [], [.t 15], none⟩ (
          .alt ⟨(some 13), .load false 1, [.t 12], none⟩ (
            .alt ⟨(some 17), .call 26 [], [.t 11, .t 13, .t 16], none⟩ (
              .take ⟨(some 9), .mv, [.t 17], none⟩ <|
              .take ⟨(some 18), .extr 0, [.t 9], none⟩ <|
              .take ⟨(some 19), .extr 1, [.t 9], none⟩ <|
              .take ⟨(some 4), .mv, [.t 18], none⟩ <|
              .take ⟨(some 5), .mv, [.t 19], none⟩ <|
              .done) <|
            .stop) <|
          .stop) <|
        .stop) <|
      .stop) <|
    .alt ⟨(some 13), .load false 1, [.t 12], none⟩ (
      .alt ⟨(some 11), .load true 3, [.t 10], none⟩ (
        .alt ⟨(some 15), .load true 3, [.t 14], none⟩ (
          .alt ⟨(some 16), .call 27 [], [.t 15], none⟩ (
            .alt ⟨(some 17), .call 26 [], [.t 11, .t 13, .t 16], none⟩ (
              .take ⟨(some 9), .mv, [.t 17], none⟩ <|
              .take ⟨(some 18), .extr 0, [.t 9], none⟩ <|
              .take ⟨(some 19), .extr 1, [.t 9], none⟩ <|
              .take ⟨(some 4), .mv, [.t 18], none⟩ <|
              .take ⟨(some 5), .mv, [.t 19], none⟩ <|
              .done) <|
            .stop) <|
          .stop) <|
        .stop) <|
      .alt ⟨(some 15), .load true 3, [.t 14], none⟩ (
        .alt ⟨(some 11), .load true 3, [.t 10], none⟩ (
          .alt ⟨(some 16), .call 27 [], [.t 15], none⟩ (
            .alt ⟨(some 17), .call 26 [], [.t 11, .t 13, .t 16], none⟩ (
              .take ⟨(some 9), .mv, [.t 17], none⟩ <|
              .take ⟨(some 18), .extr 0, [.t 9], none⟩ <|
              .take ⟨(some 19), .extr 1, [.t 9], none⟩ <|
              .take ⟨(some 4), .mv, [.t 18], none⟩ <|
              .take ⟨(some 5), .mv, [.t 19], none⟩ <|
              .done) <|
            .stop) <|
          .stop) <|
        .alt ⟨(some 16), .call 27 [], [.t 15], none⟩ (
          .alt ⟨(some 11), .load true 3, [.t 10], none⟩ (
            .alt ⟨(some 17), .call 26 [], [.t 11, .t 13, .t 16], none⟩ (
              .take ⟨(some 9), .mv, [.t 17], none⟩ <|
              .take ⟨(some 18), .extr 0, [.t 9], none⟩ <|
              .take ⟨(some 19), .extr 1, [.t 9], none⟩ <|
              .take ⟨(some 4), .mv, [.t 18], none⟩ <|
              .take ⟨(some 5), .mv, [.t 19], none⟩ <|
              .done) <|
            .stop) <|
          .stop) <|
        .stop) <|
      .stop) <|
    .alt ⟨(some 15), .load true 3, [.t 14], none⟩ (
      .alt ⟨(some 11), .load true 3, [.t 10], none⟩ (
        .alt ⟨(some 13), .load false 1, [.t 12], none⟩ (
          .alt ⟨(some 16), .call 27 [], [.t 15], none⟩ (
            .alt ⟨(some 17), .call 26 [], [.t 11, .t 13, .t 16], none⟩ (
              .take ⟨(some 9), .mv, [.t 17], none⟩ <|
              .take ⟨(some 18), .extr 0, [.t 9], none⟩ <|
              .take ⟨(some 19), .extr 1, [.t 9], none⟩ <|
              .take ⟨(some 4), .mv, [.t 18], none⟩ <|
              .take ⟨(some 5), .mv, [.t 19], none⟩ <|
              .done) <|
            .stop) <|
          .stop) <|
        .alt ⟨(some 16), .call 27 [], [.t 15], none⟩ (
          .alt ⟨(some 13), .load false 1, [.t 12], none⟩ (
            .alt ⟨(some 17), .call 26 [], [.t 11, .t 13, .t 16], none⟩ (
              .take ⟨(some 9), .mv, [.t 17], none⟩ <|
              .take ⟨(some 18), .extr 0, [.t 9], none⟩ <|
              .take ⟨(some 19), .extr 1, [.t 9], none⟩ <|
              .take ⟨(some 4), .mv, [.t 18], none⟩ <|
              .take ⟨(some 5), .mv, [.t 19], none⟩ <|
              .done) <|
            .stop) <|
          .stop) <|
        .stop) <|
      .alt ⟨(some 13), .load false 1, [.t 12], none⟩ (
        .alt ⟨(some 11), .load true 3, [.t 10], none⟩ (
          .alt ⟨(some 16), .call 27 [], [.t 15], none⟩ (
            .alt ⟨(some 17), .call 26 [], [.t 11, .t 13, .t 16], none⟩ (
              .take ⟨(some 9), .mv, [.t 17], none⟩ <|
              .take ⟨(some 18), .extr 0, [.t 9], none⟩ <|
              .take ⟨(some 19), .extr 1, [.t 9], none⟩ <|
              .take ⟨(some 4), .mv, [.t 18], none⟩ <|
              .take ⟨(some 5), .mv, [.t 19], none⟩ <|
              .done) <|
            .stop) <|
          .stop) <|
        .alt ⟨(some 16), .call 27 [], [.t 15], none⟩ (
          .alt ⟨(some 11), .load true 3, [.t 10], none⟩ (
            .alt ⟨(some 17), .call 26 [], [.t 11, .t 13, .t 16], none⟩ (
              .take ⟨(some 9), .mv, [.t 17], none⟩ <|
              .take ⟨(some 18), .extr 0, [.t 9], none⟩ <|
              .take ⟨(some 19), .extr 1, [.t 9], none⟩ <|
              .take ⟨(some 4), .mv, [.t 18], none⟩ <|
              .take ⟨(some 5), .mv, [.t 19], none⟩ <|
              .done) <|
            .stop) <|
          .stop) <|
        .stop) <|
      .alt ⟨(some 16), .call 27 [], [.t 15], none⟩ (
        .alt ⟨(some 11), .load true 3, [.t 10], none⟩ (
          .alt ⟨(some 13), .load false 1, [.t 12], none⟩ (
            .alt ⟨(some 17), .call 26 [], [.t 11, .t 13, .t 16], none⟩ (
              .take ⟨(some 9), .mv, [.t 17], none⟩ <|
              .take ⟨(some 18), .extr 0, [.t 9], none⟩ <|
              .take ⟨(some 19), .extr 1, [.t 9], none⟩ <|
              .take ⟨(some 4), .mv, [.t 18], none⟩ <|
              .take ⟨(some 5), .mv, [.t 19], none⟩ <|
              .done) <|
            .stop) <|
          .stop) <|
        .alt ⟨(some 13), .load false 1, [.t 12], none⟩ (
          .alt ⟨(some 11), .load true 3, [.t 10], none⟩ (
            .alt ⟨(some 17), .call 26 [], [.t 11, .t 13, .t 16], none⟩ (
              .take ⟨(some 9), .mv, [.t 17], none⟩ <|
              .take ⟨(some 18), .extr 0, [.t 9], none⟩ <|
              .take ⟨(some 19), .extr 1, [.t 9], none⟩ <|
              .take ⟨(some 4), .mv, [.t 18], none⟩ <|
              .take ⟨(some 5), .mv, [.t 19], none⟩ <|
              .done) <|
            .stop) <|
          .stop) <|
        .stop) <|
      .stop) <|
    .stop)) <|
  .gc [] [1, 3, 4, 5] c_spec_EndDeeds_T2

theorem k_spec_EndDeeds : cFn Tryz.prog n_spec_EndDeeds 105 [.t 2] c_spec_EndDeeds := ⟨Tryz.f7, _, Tryz.func7, rfl, by kernel_rfl, by kernel_rfl, by kernel_rfl, by kernel_rfl⟩

-- 1 parameters, results [.t 2], 69 slots, modes [false]
@[simp] abbrev n_laws_FnExactEndDeeds : Nat := 3
def c_laws_FnExactEndDeeds_T0 : ACode :=
  .seq (.reg [⟨(some 7), .mv, [.c (.v (.int .i64 (1)))], none⟩]) <|
  .seq (.reg [⟨(some 32), .load true 6, [.t 5], none⟩,
    ⟨(some 33), .mv, [.t 7], none⟩,
    ⟨(some 34), .call 12 [], [.t 32, .t 33], none⟩,
    ⟨(some 7), .mv, [.t 34], none⟩]) <|
  .seq (.seq (.reg [⟨(some 35), .mv, [.t 7], none⟩,
    ⟨(some 36), .bin .lss 0, [.t 35, .c (.v (.int .i64 (0)))], none⟩,
    ⟨(some 37), .mv, [.t 36], none⟩,
    ⟨(some 38), .mv, [.t 6], (some (37, false))⟩,
    ⟨(some 39), .mv, [.t 4], (some (37, false))⟩,
    ⟨(some 40), .call 10 [], [.t 38, .t 39], (some (37, false))⟩,
    ⟨(some 41), .un .not, [.t 40], (some (37, false))⟩,
    ⟨(some 42), .pick, [.t 37, .c (.v (.bool true)), .t 41], none⟩]) <|
  .cond (.t 42) (
    .seq (.reg [⟨(some 2), .mv, [.c (.v (.bool false))], none⟩]) <|
    .ret) (
    .skip)) <|
  .seq (.reg [⟨(some 8), .mv, [.c (.v (.int .i64 (1)))], none⟩]) <|
  .seq (.reg [⟨(some 43), .mv, [.t 6], none⟩,
    ⟨(some 44), .mv, [.t 8], none⟩,
    ⟨(some 45), .call 13 [], [.t 43, .t 44], none⟩,
    ⟨(some 8), .mv, [.t 45], none⟩]) <|
  .seq (.reg [⟨(some 9), .mv, [.c (.v (.int .i64 (1)))], none⟩]) <|
  .seq (.reg [⟨(some 46), .mv, [.t 6], none⟩,
    ⟨(some 47), .mv, [.t 9], none⟩,
    ⟨(some 48), .call 14 [], [.t 46, .t 47], none⟩,
    ⟨(some 9), .mv, [.t 48], none⟩]) <|
  .seq (.seq (.reg [⟨(some 49), .mv, [.t 9], none⟩,
    ⟨(some 50), .bin .lss 0, [.t 49, .c (.v (.int .i64 (0)))], none⟩]) <|
  .cond (.t 50) (
    .seq (.reg [⟨(some 2), .mv, [.c (.v (.bool false))], none⟩]) <|
    .ret) (
    .skip)) <|
  .seq (.seq (.reg [⟨(some 51), .mv, [.t 9], none⟩,
    ⟨(some 52), .mv, [.t 8], none⟩,
    ⟨(some 53), .bin .neq 0, [.t 51, .t 52], none⟩]) <|
  .cond (.t 53) (
    .seq (.reg [⟨(some 2), .mv, [.c (.v (.bool false))], none⟩]) <|
    .ret) (
    .skip)) <|
  .seq (.reg [⟨(some 54), .load true 6, [.t 1], none⟩,
    ⟨(some 55), .call 8 [], [.t 54], none⟩,
    ⟨(some 56), .call 9 [], [.t 55], none⟩,
    ⟨(some 10), .mv, [.t 56], none⟩]) <|
  .seq (.seq (.reg [⟨(some 57), .mv, [.t 10], none⟩,
    ⟨(some 58), .mv, [.t 4], none⟩,
    ⟨(some 59), .call 10 [], [.t 57, .t 58], none⟩,
    ⟨(some 60), .un .not, [.t 59], none⟩]) <|
  .cond (.t 60) (
    .seq (.reg [⟨(some 2), .mv, [.c (.v (.bool false))], none⟩]) <|
    .ret) (
    .skip)) <|
  .seq (.reg [⟨(some 9), .mv, [.c (.v (.int .i64 (1)))], none⟩]) <|
  .seq (.reg [⟨(some 61), .mv, [.t 6], none⟩,
    ⟨(some 62), .mv, [.t 9], none⟩,
    ⟨(some 63), .call 14 [], [.t 61, .t 62], none⟩,
    ⟨(some 9), .mv, [.t 63], none⟩]) <|
  .seq (.seq (.reg [⟨(some 64), .mv, [.t 9], none⟩,
    ⟨(some 65), .bin .lss 0, [.t 64, .c (.v (.int .i64 (0)))], none⟩]) <|
  .cond (.t 65) (
    .seq (.reg [⟨(some 2), .mv, [.c (.v (.bool false))], none⟩]) <|
    .ret) (
    .skip)) <|
  .seq (.seq (.reg [⟨(some 66), .mv, [.t 9], none⟩,
    ⟨(some 67), .mv, [.t 8], none⟩,
    ⟨(some 68), .bin .neq 0, [.t 66, .t 67], none⟩]) <|
  .cond (.t 68) (
    .seq (.reg [⟨(some 2), .mv, [.c (.v (.bool false))], none⟩]) <|
    .ret) (
    .skip)) <|
  .seq (.reg [⟨(some 2), .mv, [.c (.v (.bool true))], none⟩]) <|
  .ret

def c_laws_FnExactEndDeeds : ACode :=
  .seq (.reg [⟨(some 1), .box, [.t 0], none⟩,
    ⟨(some 2), .mv, [.c (.v (.bool false))], none⟩]) <|
  .seq (.reg [⟨(some 3), .mv, [.c (.v (.int .i64 (1048576)))], none⟩]) <|
  .seq (.reg [⟨(some 11), .load true 6, [.t 1], none⟩,
    ⟨(some 12), .mv, [.t 3], none⟩,
    ⟨(some 13), .call 6 [], [.t 11, .t 12], none⟩,
    ⟨(some 3), .mv, [.t 13], none⟩]) <|
  .seq (.seq (.reg [⟨(some 14), .mv, [.t 3], none⟩,
    ⟨(some 15), .bin .lss 0, [.t 14, .c (.v (.int .i64 (0)))], none⟩]) <|
  .cond (.t 15) (
    .seq (.reg [⟨(some 2), .mv, [.c (.v (.bool true))], none⟩]) <|
    .ret) (
    .skip)) <|
  .seq (.reg [⟨(some 16), .load true 6, [.t 1], none⟩,
    ⟨(some 17), .call 8 [], [.t 16], none⟩,
    ⟨(some 18), .call 7 [], [.t 17], none⟩,
    ⟨(some 4), .mv, [.t 18], none⟩]) <|
  .seq (.reg [⟨(some 19), .load true 6, [.t 1], none⟩,
    ⟨(some 20), .call 8 [], [.t 19], none⟩,
    ⟨(some 5), .alloc [.v (.int .i64 (0)), .v (.int .i64 (0)), .os 1 [], .os 1 [], .os 1 [], .os 1 []], [], none⟩,
    ⟨none, .store 6, [.t 5, .t 20], none⟩]) <|
  .seq (.reg [⟨(some 21), .load true 6, [.t 5], none⟩,
    ⟨(some 22), .call 9 [], [.t 21], none⟩,
    ⟨(some 6), .mv, [.t 22], none⟩]) <|
  .seq (.seq (.reg [⟨(some 23), .mv, [.t 6], none⟩,
    ⟨(some 24), .mv, [.t 4], none⟩,
    ⟨(some 25), .call 10 [], [.t 23, .t 24], none⟩,
    ⟨(some 26), .un .not, [.t 25], none⟩]) <|
  .cond (.t 26) (
    .seq (.reg [⟨(some 2), .mv, [.c (.v (.bool false))], none⟩]) <|
    .ret) (
    .skip)) <|
  .seq (.seq (.draw (
    .alt ⟨(some 27), .load true 6, [.t 5], none⟩ (
      .alt ⟨(some 28), .load true 6, [.t 1], none⟩ (
        .alt ⟨(some 29), .call 8 [], [.t 28], none⟩ (
          .alt ⟨(some 30), .call 11 [], [.t 27, .t 29], none⟩ (
            .take ⟨(some 31), .un .not, [.t 30], none⟩ <|
            .done) <|
          .stop) <|
        .stop) <|
      .stop) <|
    .alt ⟨(some 28), .load true 6, [.t 1], none⟩ (
      .alt ⟨(some 27), .load true 6, [.t 5], none⟩ (
        .alt ⟨(some 29), .call 8 [], [.t 28], none⟩ (
          .alt ⟨(some 30), .call 11 [], [.t 27, .t 29], none⟩ (
            .take ⟨(some 31), .un .not, [.t 30], none⟩ <|
            .done) <|
          .stop) <|
        .stop) <|
      .alt ⟨(some 29), .call 8 [], [.t 28], none⟩ (
        .alt ⟨(some 27), .load true 6, [.t 5], none⟩ (
          .alt ⟨(some 30), .call 11 [], [.t 27, .t 29], none⟩ (
            .take ⟨(some 31), .un .not, [.t 30], none⟩ <|
            .done) <|
          .stop) <|
        .stop) <|
      .stop) <|
    .stop)) <|
  .cond (.t 31) (
    .seq (.reg [⟨(some 2), .mv, [.c (.v (.bool false))], none⟩]) <|
    .ret) (
    .skip)) <|
  .gc [] [1, 4, 5, 6] c_laws_FnExactEndDeeds_T0

theorem k_laws_FnExactEndDeeds : cFn Tryz.prog n_laws_FnExactEndDeeds 69 [.t 2] c_laws_FnExactEndDeeds := ⟨Tryz.f3, _, Tryz.func3, rfl, by kernel_rfl, by kernel_rfl, by kernel_rfl, by kernel_rfl⟩

end Go.Proofs.Dev
