/- Contracts of the functions of the program over slots and rows, each proved against the program itself; no condition beyond those that each theorem names. -/
import Derived.Test.YtjldabnbfdgbhaaK
import Derived.Test.YtjldabnbfdgbhaaProg

set_option linter.unusedSimpArgs false
set_option linter.unusedVariables false

namespace Go.Proofs.Dev

-- 2 parameters, results [.t 4], 28 slots, modes [false, false]
@[simp] abbrev n_spec_TilingOk : Nat := 85
def c_spec_TilingOk_L0 : ACode :=
  .seq (.seq (.reg [⟨(some 10), .mv, [.t 5], none⟩,
    ⟨(some 11), .mv, [.t 1], none⟩,
    ⟨(some 12), .len false, [.t 11], none⟩,
    ⟨(some 13), .bin .lss 0, [.t 10, .t 12], none⟩]) <|
  .cond (.t 13) (
    .skip) (
    .exit 0)) <|
  .seq (.block 1 (
    .seq (.reg [⟨(some 16), .fadr 2, [.t 2], none⟩,
      ⟨(some 17), .load false 1, [.t 16], none⟩,
      ⟨(some 18), .mv, [.t 5], none⟩,
      ⟨(some 19), .iadr 1, [.t 17, .t 18], none⟩,
      ⟨(some 20), .load false 1, [.t 19], none⟩,
      ⟨(some 21), .mv, [.t 20], none⟩,
      ⟨(some 22), .mv, [.t 1], (some (21, true))⟩,
      ⟨(some 23), .mv, [.t 5], (some (21, true))⟩,
      ⟨(some 24), .iadr 1, [.t 22, .t 23], (some (21, true))⟩,
      ⟨(some 25), .load false 1, [.t 24], (some (21, true))⟩,
      ⟨(some 26), .bin .eql 0, [.t 25, .c (.v (.int .i64 (0)))], (some (21, true))⟩,
      ⟨(some 27), .pick, [.t 21, .t 26, .c (.v (.bool false))], none⟩]) <|
    .cond (.t 27) (
      .seq (.reg [⟨(some 4), .mv, [.c (.v (.bool false))], none⟩]) <|
      .ret) (
      .skip))) <|
  .reg [⟨(some 14), .mv, [.t 5], none⟩,
    ⟨(some 15), .bin .add 0, [.t 14, .c (.v (.int .i64 (1)))], none⟩,
    ⟨(some 5), .mv, [.t 15], none⟩]

def c_spec_TilingOk : ACode :=
  .seq (.reg [⟨(some 2), .box, [.t 0], none⟩,
    ⟨(some 4), .mv, [.c (.v (.bool false))], none⟩]) <|
  .seq (.seq (.reg [⟨(some 6), .load true 3, [.t 2], none⟩,
    ⟨(some 7), .mv, [.t 1], none⟩,
    ⟨(some 8), .call 72 [], [.t 6, .t 7], none⟩,
    ⟨(some 9), .un .not, [.t 8], none⟩]) <|
  .cond (.t 9) (
    .seq (.reg [⟨(some 4), .mv, [.c (.v (.bool false))], none⟩]) <|
    .ret) (
    .skip)) <|
  .seq (.seq (.reg [⟨(some 5), .mv, [.c (.v (.int .i64 (0)))], none⟩]) <|
  .block 0 (
    .loop [(1, 1)] [1, 2, 5] c_spec_TilingOk_L0)) <|
  .seq (.reg [⟨(some 4), .mv, [.c (.v (.bool true))], none⟩]) <|
  .ret

theorem k_spec_TilingOk : cFn Try.prog n_spec_TilingOk 28 [.t 4] c_spec_TilingOk := ⟨Try.f85, _, Try.func85, rfl, by kernel_rfl, by kernel_rfl, by kernel_rfl, by kernel_rfl⟩

-- 2 parameters, results [.t 4], 24 slots, modes [false, false]
@[simp] abbrev n_impl_Region_full : Nat := 96
def c_impl_Region_full_L0 : ACode :=
  .seq (.reg [⟨(some 11), .bin .lss 0, [.t 10, .t 9], none⟩]) <|
  .seq (.cond (.t 11) (
    .skip) (
    .exit 0)) <|
  .seq (.block 1 (
    .seq (.reg [⟨(some 12), .mv, [.t 10], none⟩,
      ⟨(some 13), .iadr 1, [.t 8, .t 10], none⟩,
      ⟨(some 14), .load false 1, [.t 13], none⟩,
      ⟨(some 5), .mv, [.t 12], none⟩,
      ⟨(some 6), .mv, [.t 14], none⟩]) <|
    .seq (.reg [⟨(some 15), .mv, [.t 6], none⟩,
      ⟨(some 16), .mv, [.t 15], none⟩,
      ⟨(some 17), .mv, [.t 1], (some (16, true))⟩,
      ⟨(some 18), .mv, [.t 5], (some (16, true))⟩,
      ⟨(some 19), .iadr 1, [.t 17, .t 18], (some (16, true))⟩,
      ⟨(some 20), .load false 1, [.t 19], (some (16, true))⟩,
      ⟨(some 21), .bin .eql 0, [.t 20, .c (.v (.int .i64 (0)))], (some (16, true))⟩,
      ⟨(some 22), .pick, [.t 16, .t 21, .c (.v (.bool false))], none⟩]) <|
    .cond (.t 22) (
      .seq (.reg [⟨(some 4), .mv, [.c (.v (.bool false))], none⟩]) <|
      .ret) (
      .skip))) <|
  .reg [⟨(some 23), .bin .add 0, [.t 10, .c (.v (.int .i64 (1)))], none⟩,
    ⟨(some 10), .mv, [.t 23], none⟩]

def c_impl_Region_full : ACode :=
  .seq (.reg [⟨(some 2), .box, [.t 0], none⟩,
    ⟨(some 4), .mv, [.c (.v (.bool false))], none⟩]) <|
  .seq (.seq (.reg [⟨(some 7), .fadr 2, [.t 2], none⟩,
    ⟨(some 8), .load false 1, [.t 7], none⟩,
    ⟨(some 9), .len false, [.t 8], none⟩,
    ⟨(some 10), .mv, [.c (.v (.int .i64 (0)))], none⟩]) <|
  .block 0 (
    .loop [(1, 1), (8, 1)] [1, 8, 9, 10] c_impl_Region_full_L0)) <|
  .seq (.reg [⟨(some 4), .mv, [.c (.v (.bool true))], none⟩]) <|
  .ret

theorem k_impl_Region_full : cFn Try.prog n_impl_Region_full 24 [.t 4] c_impl_Region_full := ⟨Try.f96, _, Try.func96, rfl, by kernel_rfl, by kernel_rfl, by kernel_rfl, by kernel_rfl⟩

-- 3 parameters, results [.t 6], 16 slots, modes [false, false, false]
@[simp] abbrev n_spec_SolvedOk : Nat := 41

def c_spec_SolvedOk : ACode :=
  .seq (.reg [⟨(some 3), .box, [.t 0], none⟩,
    ⟨(some 6), .mv, [.c (.v (.bool false))], none⟩]) <|
  .seq (.reg [⟨(some 7), .load true 3, [.t 3], none⟩,
    ⟨(some 8), .mv, [.t 2], none⟩,
    ⟨(some 9), .call 85 [], [.t 7, .t 8], none⟩,
    ⟨(some 10), .mv, [.t 9], none⟩,
    ⟨(some 11), .load true 3, [.t 3], (some (10, true))⟩,
    ⟨(some 12), .mv, [.t 1], (some (10, true))⟩,
    ⟨(some 13), .mv, [.t 2], (some (10, true))⟩,
    ⟨(some 14), .call 39 [], [.t 11, .t 12, .t 13], (some (10, true))⟩,
    ⟨(some 15), .pick, [.t 10, .t 14, .c (.v (.bool false))], none⟩,
    ⟨(some 6), .mv, [.t 15], none⟩]) <|
  .ret

theorem k_spec_SolvedOk : cFn Try.prog n_spec_SolvedOk 16 [.t 6] c_spec_SolvedOk := ⟨Try.f41, _, Try.func41, rfl, by kernel_rfl, by kernel_rfl, by kernel_rfl, by kernel_rfl⟩

-- 3 parameters, results [.t 6], 16 slots, modes [false, false, false]
@[simp] abbrev n_impl_SolvedOk : Nat := 42

def c_impl_SolvedOk : ACode :=
  .seq (.reg [⟨(some 3), .box, [.t 0], none⟩,
    ⟨(some 6), .mv, [.c (.v (.bool false))], none⟩]) <|
  .seq (.reg [⟨(some 7), .load true 3, [.t 3], none⟩,
    ⟨(some 8), .mv, [.t 1], none⟩,
    ⟨(some 9), .mv, [.t 2], none⟩,
    ⟨(some 10), .call 40 [], [.t 7, .t 8, .t 9], none⟩,
    ⟨(some 11), .mv, [.t 10], none⟩,
    ⟨(some 12), .load true 3, [.t 3], (some (11, true))⟩,
    ⟨(some 13), .mv, [.t 2], (some (11, true))⟩,
    ⟨(some 14), .call 96 [], [.t 12, .t 13], (some (11, true))⟩,
    ⟨(some 15), .pick, [.t 11, .t 14, .c (.v (.bool false))], none⟩,
    ⟨(some 6), .mv, [.t 15], none⟩]) <|
  .ret

theorem k_impl_SolvedOk : cFn Try.prog n_impl_SolvedOk 16 [.t 6] c_impl_SolvedOk := ⟨Try.f42, _, Try.func42, rfl, by kernel_rfl, by kernel_rfl, by kernel_rfl, by kernel_rfl⟩

-- 3 parameters, results [.t 6], 59 slots, modes [false, false, false]
@[simp] abbrev n_laws_FnExactSolvedOk : Nat := 8
def c_laws_FnExactSolvedOk_T0 : ACode :=
  .seq (.seq (.reg [⟨(some 49), .mv, [.t 10], none⟩,
    ⟨(some 50), .mv, [.t 1], none⟩,
    ⟨(some 51), .call 23 [], [.t 50], none⟩,
    ⟨(some 52), .call 25 [], [.t 49, .t 51], none⟩,
    ⟨(some 53), .un .not, [.t 52], none⟩]) <|
  .cond (.t 53) (
    .seq (.reg [⟨(some 6), .mv, [.c (.v (.bool false))], none⟩]) <|
    .ret) (
    .skip)) <|
  .seq (.seq (.reg [⟨(some 54), .mv, [.t 11], none⟩,
    ⟨(some 55), .mv, [.t 2], none⟩,
    ⟨(some 56), .call 23 [], [.t 55], none⟩,
    ⟨(some 57), .call 25 [], [.t 54, .t 56], none⟩,
    ⟨(some 58), .un .not, [.t 57], none⟩]) <|
  .cond (.t 58) (
    .seq (.reg [⟨(some 6), .mv, [.c (.v (.bool false))], none⟩]) <|
    .ret) (
    .skip)) <|
  .seq (.reg [⟨(some 6), .mv, [.c (.v (.bool true))], none⟩]) <|
  .ret

def c_laws_FnExactSolvedOk : ACode :=
  .seq (.reg [⟨(some 3), .box, [.t 0], none⟩,
    ⟨(some 6), .mv, [.c (.v (.bool false))], none⟩]) <|
  .seq (.seq (.reg [⟨(some 13), .mv, [.t 1], none⟩,
    ⟨(some 14), .len false, [.t 13], none⟩,
    ⟨(some 15), .bin .gtr 0, [.t 14, .c (.v (.int .i64 (1048576)))], none⟩]) <|
  .cond (.t 15) (
    .seq (.reg [⟨(some 6), .mv, [.c (.v (.bool true))], none⟩]) <|
    .ret) (
    .skip)) <|
  .seq (.seq (.reg [⟨(some 16), .mv, [.t 2], none⟩,
    ⟨(some 17), .len false, [.t 16], none⟩,
    ⟨(some 18), .bin .gtr 0, [.t 17, .c (.v (.int .i64 (1048576)))], none⟩]) <|
  .cond (.t 18) (
    .seq (.reg [⟨(some 6), .mv, [.c (.v (.bool true))], none⟩]) <|
    .ret) (
    .skip)) <|
  .seq (.reg [⟨(some 7), .mv, [.c (.v (.int .i64 (1048576)))], none⟩]) <|
  .seq (.reg [⟨(some 19), .load true 3, [.t 3], none⟩,
    ⟨(some 20), .mv, [.t 7], none⟩,
    ⟨(some 21), .call 20 [], [.t 19, .t 20], none⟩,
    ⟨(some 7), .mv, [.t 21], none⟩]) <|
  .seq (.seq (.reg [⟨(some 22), .mv, [.t 7], none⟩,
    ⟨(some 23), .bin .lss 0, [.t 22, .c (.v (.int .i64 (0)))], none⟩]) <|
  .cond (.t 23) (
    .seq (.reg [⟨(some 6), .mv, [.c (.v (.bool true))], none⟩]) <|
    .ret) (
    .skip)) <|
  .seq (.reg [⟨(some 24), .load true 3, [.t 3], none⟩,
    ⟨(some 25), .call 22 [], [.t 24], none⟩,
    ⟨(some 26), .mv, [.t 1], none⟩,
    ⟨(some 27), .call 23 [], [.t 26], none⟩,
    ⟨(some 28), .mv, [.t 2], none⟩,
    ⟨(some 29), .call 23 [], [.t 28], none⟩,
    ⟨(some 30), .call 41 [], [.t 25, .t 27, .t 29], none⟩,
    ⟨(some 8), .mv, [.t 30], none⟩]) <|
  .seq (.reg [⟨(some 31), .load true 3, [.t 3], none⟩,
    ⟨(some 32), .call 22 [], [.t 31], none⟩,
    ⟨(some 9), .alloc [.v (.int .i64 (0)), .v (.int .i64 (0)), .os 1 []], [], none⟩,
    ⟨none, .store 3, [.t 9, .t 32], none⟩]) <|
  .seq (.reg [⟨(some 33), .mv, [.t 1], none⟩,
    ⟨(some 34), .call 23 [], [.t 33], none⟩,
    ⟨(some 10), .mv, [.t 34], none⟩]) <|
  .seq (.reg [⟨(some 35), .mv, [.t 2], none⟩,
    ⟨(some 36), .call 23 [], [.t 35], none⟩,
    ⟨(some 11), .mv, [.t 36], none⟩]) <|
  .seq (.reg [⟨(some 37), .load true 3, [.t 9], none⟩,
    ⟨(some 38), .mv, [.t 10], none⟩,
    ⟨(some 39), .mv, [.t 11], none⟩,
    ⟨(some 40), .call 42 [], [.t 37, .t 38, .t 39], none⟩,
    ⟨(some 12), .mv, [.t 40], none⟩]) <|
  .seq (.seq (.reg [⟨(some 41), .mv, [.t 12], none⟩,
    ⟨(some 42), .mv, [.t 8], none⟩,
    ⟨(some 43), .bin .neq 2, [.t 41, .t 42], none⟩]) <|
  .cond (.t 43) (
    .seq (.reg [⟨(some 6), .mv, [.c (.v (.bool false))], none⟩]) <|
    .ret) (
    .skip)) <|
  .seq (.seq (.draw (
    .alt ⟨(some 44), .load true 3, [.t 9], none⟩ (
      .alt ⟨(some 45), .load true 3, [.t 3], none⟩ (
        .alt ⟨(some 46), .call 22 [], [.t 45], none⟩ (
          .alt ⟨(some 47), .call 26 [], [.t 44, .t 46], none⟩ (
            .take ⟨(some 48), .un .not, [.t 47], none⟩ <|
            .done) <|
          .stop) <|
        .stop) <|
      .stop) <|
    .alt ⟨(some 45), .load true 3, [.t 3], none⟩ (
      .alt ⟨(some 44), .load true 3, [.t 9], none⟩ (
        .alt ⟨(some 46), .call 22 [], [.t 45], none⟩ (
          .alt ⟨(some 47), .call 26 [], [.t 44, .t 46], none⟩ (
            .take ⟨(some 48), .un .not, [.t 47], none⟩ <|
            .done) <|
          .stop) <|
        .stop) <|
      .alt ⟨(some 46), .call 22 [], [.t 45], none⟩ (
        .alt ⟨(some 44), .load true 3, [.t 9], none⟩ (
          .alt ⟨(some 47), .call 26 [], [.t 44, .t 46], none⟩ (
            .take ⟨(some 48), .un .not, [.t 47], none⟩ <|
            .done) <|
          .stop) <|
        .stop) <|
      .stop) <|
    .stop)) <|
  .cond (.t 48) (
    .seq (.reg [⟨(some 6), .mv, [.c (.v (.bool false))], none⟩]) <|
    .ret) (
    .skip)) <|
  .gc [] [1, 2, 10, 11] c_laws_FnExactSolvedOk_T0

theorem k_laws_FnExactSolvedOk : cFn Try.prog n_laws_FnExactSolvedOk 59 [.t 6] c_laws_FnExactSolvedOk := ⟨Try.f8, _, Try.func8, rfl, by kernel_rfl, by kernel_rfl, by kernel_rfl, by kernel_rfl⟩

-- 3 parameters, results [.t 6], 63 slots, modes [false, false, false]
@[simp] abbrev n_spec_Relabel : Nat := 37
def c_spec_Relabel_L0 : ACode :=
  .seq (.seq (.reg [⟨(some 25), .mv, [.t 7], none⟩,
    ⟨(some 26), .mv, [.t 2], none⟩,
    ⟨(some 27), .len false, [.t 26], none⟩,
    ⟨(some 28), .bin .lss 0, [.t 25, .t 27], none⟩]) <|
  .cond (.t 28) (
    .skip) (
    .exit 0)) <|
  .seq (.block 1 (
    .seq (.reg [⟨(some 31), .mv, [.t 2], none⟩,
      ⟨(some 32), .mv, [.t 7], none⟩,
      ⟨(some 33), .iadr 1, [.t 31, .t 32], none⟩,
      ⟨(some 34), .load false 1, [.t 33], none⟩,
      ⟨(some 35), .call 86 [], [.t 34, .c (.v (.int .i64 (0))), .c (.v (.int .i64 (6)))], none⟩,
      ⟨(some 36), .un .not, [.t 35], none⟩]) <|
    .cond (.t 36) (
      .seq (.reg [⟨(some 37), .bsl 1, [], none⟩,
        ⟨(some 6), .mv, [.t 37], none⟩]) <|
      .ret) (
      .skip))) <|
  .reg [⟨(some 29), .mv, [.t 7], none⟩,
    ⟨(some 30), .bin .add 0, [.t 29, .c (.v (.int .i64 (1)))], none⟩,
    ⟨(some 7), .mv, [.t 30], none⟩]

def c_spec_Relabel_L1 : ACode :=
  .seq (.seq (.reg [⟨(some 41), .mv, [.t 9], none⟩,
    ⟨(some 42), .mv, [.t 8], none⟩,
    ⟨(some 43), .len false, [.t 42], none⟩,
    ⟨(some 44), .bin .lss 0, [.t 41, .t 43], none⟩]) <|
  .cond (.t 44) (
    .skip) (
    .exit 2)) <|
  .seq (.block 3 (
    .seq (.reg [⟨(some 47), .mv, [.t 8], none⟩,
      ⟨(some 48), .mv, [.t 9], none⟩,
      ⟨(some 49), .iadr 1, [.t 47, .t 48], none⟩,
      ⟨(some 50), .load false 1, [.t 49], none⟩,
      ⟨(some 51), .bin .geq 0, [.t 50, .c (.v (.int .i64 (0)))], none⟩]) <|
    .cond (.t 51) (
      .reg [⟨(some 52), .mv, [.t 8], none⟩,
        ⟨(some 53), .mv, [.t 9], none⟩,
        ⟨(some 54), .mv, [.t 2], none⟩,
        ⟨(some 55), .mv, [.t 8], none⟩,
        ⟨(some 56), .mv, [.t 9], none⟩,
        ⟨(some 57), .iadr 1, [.t 55, .t 56], none⟩,
        ⟨(some 58), .load false 1, [.t 57], none⟩,
        ⟨(some 59), .iadr 1, [.t 54, .t 58], none⟩,
        ⟨(some 60), .load false 1, [.t 59], none⟩,
        ⟨(some 61), .iadr 1, [.t 52, .t 53], none⟩,
        ⟨none, .store 1, [.t 61, .t 60], none⟩]) (
      .skip))) <|
  .reg [⟨(some 45), .mv, [.t 9], none⟩,
    ⟨(some 46), .bin .add 0, [.t 45, .c (.v (.int .i64 (1)))], none⟩,
    ⟨(some 9), .mv, [.t 46], none⟩]

def c_spec_Relabel : ACode :=
  .seq (.reg [⟨(some 3), .box, [.t 0], none⟩,
    ⟨(some 6), .mv, [.c (.os 1 [])], none⟩]) <|
  .seq (.seq (.reg [⟨(some 10), .load true 3, [.t 3], none⟩,
    ⟨(some 11), .mv, [.t 1], none⟩,
    ⟨(some 12), .call 71 [], [.t 10, .t 11], none⟩,
    ⟨(some 13), .un .not, [.t 12], none⟩,
    ⟨(some 14), .mv, [.t 13], none⟩,
    ⟨(some 15), .mv, [.t 2], (some (14, false))⟩,
    ⟨(some 16), .len false, [.t 15], (some (14, false))⟩,
    ⟨(some 17), .bin .neq 0, [.t 16, .c (.v (.int .i64 (7)))], (some (14, false))⟩,
    ⟨(some 18), .pick, [.t 14, .c (.v (.bool true)), .t 17], none⟩,
    ⟨(some 19), .mv, [.t 18], none⟩,
    ⟨(some 20), .mv, [.t 2], (some (19, false))⟩,
    ⟨(some 21), .call 92 [], [.t 20], (some (19, false))⟩,
    ⟨(some 22), .un .not, [.t 21], (some (19, false))⟩,
    ⟨(some 23), .pick, [.t 19, .c (.v (.bool true)), .t 22], none⟩]) <|
  .cond (.t 23) (
    .seq (.reg [⟨(some 24), .bsl 1, [], none⟩,
      ⟨(some 6), .mv, [.t 24], none⟩]) <|
    .ret) (
    .skip)) <|
  .seq (.seq (.reg [⟨(some 7), .mv, [.c (.v (.int .i64 (0)))], none⟩]) <|
  .block 0 (
    .loop [(1, 1), (2, 1)] [1, 2, 7] c_spec_Relabel_L0)) <|
  .seq (.reg [⟨(some 38), .bsl 1, [], none⟩,
    ⟨(some 39), .mv, [.t 1], none⟩,
    ⟨(some 40), .app 1 8 true, [.t 38, .t 39], none⟩,
    ⟨(some 8), .mv, [.t 40], none⟩]) <|
  .seq (.seq (.reg [⟨(some 9), .mv, [.c (.v (.int .i64 (0)))], none⟩]) <|
  .block 2 (
    .loop [(2, 1), (8, 1)] [2, 8, 9] c_spec_Relabel_L1)) <|
  .seq (.reg [⟨(some 62), .mv, [.t 8], none⟩,
    ⟨(some 6), .mv, [.t 62], none⟩]) <|
  .ret

theorem k_spec_Relabel : cFn Try.prog n_spec_Relabel 63 [.t 6] c_spec_Relabel := ⟨Try.f37, _, Try.func37, rfl, by kernel_rfl, by kernel_rfl, by kernel_rfl, by kernel_rfl⟩

-- 3 parameters, results [.t 6], 57 slots, modes [false, false, false]
@[simp] abbrev n_impl_Relabel : Nat := 38
def c_impl_Relabel_L0 : ACode :=
  .seq (.reg [⟨(some 29), .bin .lss 0, [.t 28, .t 27], none⟩]) <|
  .seq (.cond (.t 29) (
    .skip) (
    .exit 0)) <|
  .seq (.block 1 (
    .seq (.reg [⟨(some 30), .mv, [.t 28], none⟩,
      ⟨(some 31), .iadr 1, [.t 26, .t 28], none⟩,
      ⟨(some 32), .load false 1, [.t 31], none⟩,
      ⟨(some 8), .mv, [.t 30], none⟩,
      ⟨(some 9), .mv, [.t 32], none⟩]) <|
    .seq (.reg [⟨(some 33), .mv, [.t 9], none⟩,
      ⟨(some 34), .mv, [.t 8], none⟩,
      ⟨(some 35), .bin .neq 0, [.t 33, .t 34], none⟩]) <|
    .cond (.t 35) (
      .seq (.reg [⟨(some 6), .mv, [.c (.os 1 [])], none⟩]) <|
      .ret) (
      .skip))) <|
  .reg [⟨(some 36), .bin .add 0, [.t 28, .c (.v (.int .i64 (1)))], none⟩,
    ⟨(some 28), .mv, [.t 36], none⟩]

def c_impl_Relabel_L1 : ACode :=
  .seq (.reg [⟨(some 42), .bin .lss 0, [.t 41, .t 40], none⟩]) <|
  .seq (.cond (.t 42) (
    .skip) (
    .exit 2)) <|
  .seq (.block 3 (
    .seq (.reg [⟨(some 43), .mv, [.t 41], none⟩,
      ⟨(some 44), .iadr 1, [.t 39, .t 41], none⟩,
      ⟨(some 45), .load false 1, [.t 44], none⟩,
      ⟨(some 11), .mv, [.t 43], none⟩,
      ⟨(some 12), .mv, [.t 45], none⟩]) <|
    .seq (.reg [⟨(some 46), .mv, [.t 12], none⟩,
      ⟨(some 47), .bin .geq 0, [.t 46, .c (.v (.int .i64 (0)))], none⟩]) <|
    .cond (.t 47) (
      .reg [⟨(some 48), .mv, [.t 10], none⟩,
        ⟨(some 49), .mv, [.t 11], none⟩,
        ⟨(some 50), .mv, [.t 2], none⟩,
        ⟨(some 51), .mv, [.t 12], none⟩,
        ⟨(some 52), .iadr 1, [.t 50, .t 51], none⟩,
        ⟨(some 53), .load false 1, [.t 52], none⟩,
        ⟨(some 54), .iadr 1, [.t 48, .t 49], none⟩,
        ⟨none, .store 1, [.t 54, .t 53], none⟩]) (
      .skip))) <|
  .reg [⟨(some 55), .bin .add 0, [.t 41, .c (.v (.int .i64 (1)))], none⟩,
    ⟨(some 41), .mv, [.t 55], none⟩]

def c_impl_Relabel : ACode :=
  .seq (.reg [⟨(some 3), .box, [.t 0], none⟩,
    ⟨(some 6), .mv, [.c (.os 1 [])], none⟩]) <|
  .seq (.seq (.reg [⟨(some 13), .load true 3, [.t 3], none⟩,
    ⟨(some 14), .mv, [.t 1], none⟩,
    ⟨(some 15), .call 76 [], [.t 13, .t 14], none⟩,
    ⟨(some 16), .un .not, [.t 15], none⟩,
    ⟨(some 17), .mv, [.t 16], none⟩,
    ⟨(some 18), .mv, [.t 2], (some (17, false))⟩,
    ⟨(some 19), .len false, [.t 18], (some (17, false))⟩,
    ⟨(some 20), .bin .neq 0, [.t 19, .c (.v (.int .i64 (7)))], (some (17, false))⟩,
    ⟨(some 21), .pick, [.t 17, .c (.v (.bool true)), .t 20], none⟩]) <|
  .cond (.t 21) (
    .seq (.reg [⟨(some 6), .mv, [.c (.os 1 [])], none⟩]) <|
    .ret) (
    .skip)) <|
  .seq (.reg [⟨(some 22), .mv, [.t 2], none⟩,
    ⟨(some 23), .call 93 [], [.t 22], none⟩,
    ⟨(some 7), .mv, [.t 23], none⟩]) <|
  .seq (.reg [⟨(some 24), .mv, [.t 7], none⟩,
    ⟨(some 25), .call 94 [], [.t 24], none⟩]) <|
  .seq (.seq (.reg [⟨(some 26), .mv, [.t 7], none⟩,
    ⟨(some 27), .len false, [.t 26], none⟩,
    ⟨(some 28), .mv, [.c (.v (.int .i64 (0)))], none⟩]) <|
  .block 0 (
    .loop [(1, 1), (2, 1), (26, 1)] [1, 2, 26, 27, 28] c_impl_Relabel_L0)) <|
  .seq (.reg [⟨(some 37), .mv, [.t 1], none⟩,
    ⟨(some 38), .call 83 [], [.t 37], none⟩,
    ⟨(some 10), .mv, [.t 38], none⟩]) <|
  .seq (.seq (.reg [⟨(some 39), .mv, [.t 1], none⟩,
    ⟨(some 40), .len false, [.t 39], none⟩,
    ⟨(some 41), .mv, [.c (.v (.int .i64 (0)))], none⟩]) <|
  .block 2 (
    .loop [(2, 1), (10, 1), (39, 1)] [2, 10, 39, 40, 41] c_impl_Relabel_L1)) <|
  .seq (.reg [⟨(some 56), .mv, [.t 10], none⟩,
    ⟨(some 6), .mv, [.t 56], none⟩]) <|
  .ret

theorem k_impl_Relabel : cFn Try.prog n_impl_Relabel 57 [.t 6] c_impl_Relabel := ⟨Try.f38, _, Try.func38, rfl, by kernel_rfl, by kernel_rfl, by kernel_rfl, by kernel_rfl⟩

-- 3 parameters, results [.t 6], 111 slots, modes [false, false, false]
@[simp] abbrev n_laws_FnExactRelabel : Nat := 6
def c_laws_FnExactRelabel_T0 : ACode :=
  .seq (.seq (.reg [⟨(some 54), .mv, [.t 10], none⟩,
    ⟨(some 55), .mv, [.t 1], none⟩,
    ⟨(some 56), .call 23 [], [.t 55], none⟩,
    ⟨(some 57), .call 25 [], [.t 54, .t 56], none⟩,
    ⟨(some 58), .un .not, [.t 57], none⟩]) <|
  .cond (.t 58) (
    .seq (.reg [⟨(some 6), .mv, [.c (.v (.bool false))], none⟩]) <|
    .ret) (
    .skip)) <|
  .seq (.seq (.reg [⟨(some 59), .mv, [.t 11], none⟩,
    ⟨(some 60), .mv, [.t 2], none⟩,
    ⟨(some 61), .call 23 [], [.t 60], none⟩,
    ⟨(some 62), .call 25 [], [.t 59, .t 61], none⟩,
    ⟨(some 63), .un .not, [.t 62], none⟩]) <|
  .cond (.t 63) (
    .seq (.reg [⟨(some 6), .mv, [.c (.v (.bool false))], none⟩]) <|
    .ret) (
    .skip)) <|
  .seq (.reg [⟨(some 13), .mv, [.c (.v (.int .i64 (1)))], none⟩]) <|
  .seq (.reg [⟨(some 64), .load true 3, [.t 9], none⟩,
    ⟨(some 65), .mv, [.t 13], none⟩,
    ⟨(some 66), .call 27 [], [.t 64, .t 65], none⟩,
    ⟨(some 13), .mv, [.t 66], none⟩]) <|
  .seq (.reg [⟨(some 67), .mv, [.t 10], none⟩,
    ⟨(some 68), .mv, [.t 13], none⟩,
    ⟨(some 69), .call 28 [], [.t 67, .t 68], none⟩,
    ⟨(some 13), .mv, [.t 69], none⟩]) <|
  .seq (.reg [⟨(some 70), .mv, [.t 11], none⟩,
    ⟨(some 71), .mv, [.t 13], none⟩,
    ⟨(some 72), .call 28 [], [.t 70, .t 71], none⟩,
    ⟨(some 13), .mv, [.t 72], none⟩]) <|
  .seq (.seq (.reg [⟨(some 73), .mv, [.t 13], none⟩,
    ⟨(some 74), .bin .lss 0, [.t 73, .c (.v (.int .i64 (0)))], none⟩,
    ⟨(some 75), .mv, [.t 74], none⟩,
    ⟨(some 76), .mv, [.t 12], (some (75, false))⟩,
    ⟨(some 77), .mv, [.t 8], (some (75, false))⟩,
    ⟨(some 78), .call 25 [], [.t 76, .t 77], (some (75, false))⟩,
    ⟨(some 79), .un .not, [.t 78], (some (75, false))⟩,
    ⟨(some 80), .pick, [.t 75, .c (.v (.bool true)), .t 79], none⟩]) <|
  .cond (.t 80) (
    .seq (.reg [⟨(some 6), .mv, [.c (.v (.bool false))], none⟩]) <|
    .ret) (
    .skip)) <|
  .seq (.reg [⟨(some 14), .mv, [.c (.v (.int .i64 (1)))], none⟩]) <|
  .seq (.reg [⟨(some 81), .mv, [.t 12], none⟩,
    ⟨(some 82), .mv, [.t 14], none⟩,
    ⟨(some 83), .call 28 [], [.t 81, .t 82], none⟩,
    ⟨(some 14), .mv, [.t 83], none⟩]) <|
  .seq (.reg [⟨(some 15), .mv, [.c (.v (.int .i64 (1)))], none⟩]) <|
  .seq (.reg [⟨(some 84), .mv, [.t 12], none⟩,
    ⟨(some 85), .mv, [.t 15], none⟩,
    ⟨(some 86), .call 29 [], [.t 84, .t 85], none⟩,
    ⟨(some 15), .mv, [.t 86], none⟩]) <|
  .seq (.seq (.reg [⟨(some 87), .mv, [.t 15], none⟩,
    ⟨(some 88), .bin .lss 0, [.t 87, .c (.v (.int .i64 (0)))], none⟩]) <|
  .cond (.t 88) (
    .seq (.reg [⟨(some 6), .mv, [.c (.v (.bool false))], none⟩]) <|
    .ret) (
    .skip)) <|
  .seq (.seq (.reg [⟨(some 89), .mv, [.t 15], none⟩,
    ⟨(some 90), .mv, [.t 14], none⟩,
    ⟨(some 91), .bin .neq 0, [.t 89, .t 90], none⟩]) <|
  .cond (.t 91) (
    .seq (.reg [⟨(some 6), .mv, [.c (.v (.bool false))], none⟩]) <|
    .ret) (
    .skip)) <|
  .seq (.reg [⟨(some 92), .load true 3, [.t 3], none⟩,
    ⟨(some 93), .call 22 [], [.t 92], none⟩,
    ⟨(some 94), .mv, [.t 1], none⟩,
    ⟨(some 95), .call 23 [], [.t 94], none⟩,
    ⟨(some 96), .mv, [.t 2], none⟩,
    ⟨(some 97), .call 23 [], [.t 96], none⟩,
    ⟨(some 98), .call 38 [], [.t 93, .t 95, .t 97], none⟩,
    ⟨(some 16), .mv, [.t 98], none⟩]) <|
  .seq (.seq (.reg [⟨(some 99), .mv, [.t 16], none⟩,
    ⟨(some 100), .mv, [.t 8], none⟩,
    ⟨(some 101), .call 25 [], [.t 99, .t 100], none⟩,
    ⟨(some 102), .un .not, [.t 101], none⟩]) <|
  .cond (.t 102) (
    .seq (.reg [⟨(some 6), .mv, [.c (.v (.bool false))], none⟩]) <|
    .ret) (
    .skip)) <|
  .seq (.reg [⟨(some 15), .mv, [.c (.v (.int .i64 (1)))], none⟩]) <|
  .seq (.reg [⟨(some 103), .mv, [.t 12], none⟩,
    ⟨(some 104), .mv, [.t 15], none⟩,
    ⟨(some 105), .call 29 [], [.t 103, .t 104], none⟩,
    ⟨(some 15), .mv, [.t 105], none⟩]) <|
  .seq (.seq (.reg [⟨(some 106), .mv, [.t 15], none⟩,
    ⟨(some 107), .bin .lss 0, [.t 106, .c (.v (.int .i64 (0)))], none⟩]) <|
  .cond (.t 107) (
    .seq (.reg [⟨(some 6), .mv, [.c (.v (.bool false))], none⟩]) <|
    .ret) (
    .skip)) <|
  .seq (.seq (.reg [⟨(some 108), .mv, [.t 15], none⟩,
    ⟨(some 109), .mv, [.t 14], none⟩,
    ⟨(some 110), .bin .neq 0, [.t 108, .t 109], none⟩]) <|
  .cond (.t 110) (
    .seq (.reg [⟨(some 6), .mv, [.c (.v (.bool false))], none⟩]) <|
    .ret) (
    .skip)) <|
  .seq (.reg [⟨(some 6), .mv, [.c (.v (.bool true))], none⟩]) <|
  .ret

def c_laws_FnExactRelabel : ACode :=
  .seq (.reg [⟨(some 3), .box, [.t 0], none⟩,
    ⟨(some 6), .mv, [.c (.v (.bool false))], none⟩]) <|
  .seq (.seq (.reg [⟨(some 17), .mv, [.t 1], none⟩,
    ⟨(some 18), .len false, [.t 17], none⟩,
    ⟨(some 19), .bin .gtr 0, [.t 18, .c (.v (.int .i64 (1048576)))], none⟩]) <|
  .cond (.t 19) (
    .seq (.reg [⟨(some 6), .mv, [.c (.v (.bool true))], none⟩]) <|
    .ret) (
    .skip)) <|
  .seq (.seq (.reg [⟨(some 20), .mv, [.t 2], none⟩,
    ⟨(some 21), .len false, [.t 20], none⟩,
    ⟨(some 22), .bin .gtr 0, [.t 21, .c (.v (.int .i64 (1048576)))], none⟩]) <|
  .cond (.t 22) (
    .seq (.reg [⟨(some 6), .mv, [.c (.v (.bool true))], none⟩]) <|
    .ret) (
    .skip)) <|
  .seq (.reg [⟨(some 7), .mv, [.c (.v (.int .i64 (1048576)))], none⟩]) <|
  .seq (.reg [⟨(some 23), .load true 3, [.t 3], none⟩,
    ⟨(some 24), .mv, [.t 7], none⟩,
    ⟨(some 25), .call 20 [], [.t 23, .t 24], none⟩,
    ⟨(some 7), .mv, [.t 25], none⟩]) <|
  .seq (.seq (.reg [⟨(some 26), .mv, [.t 7], none⟩,
    ⟨(some 27), .bin .lss 0, [.t 26, .c (.v (.int .i64 (0)))], none⟩]) <|
  .cond (.t 27) (
    .seq (.reg [⟨(some 6), .mv, [.c (.v (.bool true))], none⟩]) <|
    .ret) (
    .skip)) <|
  .seq (.reg [⟨(some 28), .load true 3, [.t 3], none⟩,
    ⟨(some 29), .call 22 [], [.t 28], none⟩,
    ⟨(some 30), .mv, [.t 1], none⟩,
    ⟨(some 31), .call 23 [], [.t 30], none⟩,
    ⟨(some 32), .mv, [.t 2], none⟩,
    ⟨(some 33), .call 23 [], [.t 32], none⟩,
    ⟨(some 34), .call 37 [], [.t 29, .t 31, .t 33], none⟩,
    ⟨(some 8), .mv, [.t 34], none⟩]) <|
  .seq (.reg [⟨(some 35), .load true 3, [.t 3], none⟩,
    ⟨(some 36), .call 22 [], [.t 35], none⟩,
    ⟨(some 9), .alloc [.v (.int .i64 (0)), .v (.int .i64 (0)), .os 1 []], [], none⟩,
    ⟨none, .store 3, [.t 9, .t 36], none⟩]) <|
  .seq (.reg [⟨(some 37), .mv, [.t 1], none⟩,
    ⟨(some 38), .call 23 [], [.t 37], none⟩,
    ⟨(some 10), .mv, [.t 38], none⟩]) <|
  .seq (.reg [⟨(some 39), .mv, [.t 2], none⟩,
    ⟨(some 40), .call 23 [], [.t 39], none⟩,
    ⟨(some 11), .mv, [.t 40], none⟩]) <|
  .seq (.reg [⟨(some 41), .load true 3, [.t 9], none⟩,
    ⟨(some 42), .mv, [.t 10], none⟩,
    ⟨(some 43), .mv, [.t 11], none⟩,
    ⟨(some 44), .call 38 [], [.t 41, .t 42, .t 43], none⟩,
    ⟨(some 12), .mv, [.t 44], none⟩]) <|
  .seq (.seq (.reg [⟨(some 45), .mv, [.t 12], none⟩,
    ⟨(some 46), .mv, [.t 8], none⟩,
    ⟨(some 47), .call 25 [], [.t 45, .t 46], none⟩,
    ⟨(some 48), .un .not, [.t 47], none⟩]) <|
  .cond (.t 48) (
    .seq (.reg [⟨(some 6), .mv, [.c (.v (.bool false))], none⟩]) <|
    .ret) (
    .skip)) <|
  .seq (.seq (.draw (
    .alt ⟨(some 49), .load true 3, [.t 9], none⟩ (
      .alt ⟨(some 50), .load true 3, [.t 3], none⟩ (
        .alt ⟨(some 51), .call 22 [], [.t 50], none⟩ (
          .alt ⟨(some 52), .call 26 [], [.t 49, .t 51], none⟩ (
            .take ⟨(some 53), .un .not, [.t 52], none⟩ <|
            .done) <|
          .stop) <|
        .stop) <|
      .stop) <|
    .alt ⟨(some 50), .load true 3, [.t 3], none⟩ (
      .alt ⟨(some 49), .load true 3, [.t 9], none⟩ (
        .alt ⟨(some 51), .call 22 [], [.t 50], none⟩ (
          .alt ⟨(some 52), .call 26 [], [.t 49, .t 51], none⟩ (
            .take ⟨(some 53), .un .not, [.t 52], none⟩ <|
            .done) <|
          .stop) <|
        .stop) <|
      .alt ⟨(some 51), .call 22 [], [.t 50], none⟩ (
        .alt ⟨(some 49), .load true 3, [.t 9], none⟩ (
          .alt ⟨(some 52), .call 26 [], [.t 49, .t 51], none⟩ (
            .take ⟨(some 53), .un .not, [.t 52], none⟩ <|
            .done) <|
          .stop) <|
        .stop) <|
      .stop) <|
    .stop)) <|
  .cond (.t 53) (
    .seq (.reg [⟨(some 6), .mv, [.c (.v (.bool false))], none⟩]) <|
    .ret) (
    .skip)) <|
  .gc [] [1, 2, 3, 8, 9, 10, 11, 12] c_laws_FnExactRelabel_T0

theorem k_laws_FnExactRelabel : cFn Try.prog n_laws_FnExactRelabel 111 [.t 6] c_laws_FnExactRelabel := ⟨Try.f6, _, Try.func6, rfl, by kernel_rfl, by kernel_rfl, by kernel_rfl, by kernel_rfl⟩

end Go.Proofs.Dev
