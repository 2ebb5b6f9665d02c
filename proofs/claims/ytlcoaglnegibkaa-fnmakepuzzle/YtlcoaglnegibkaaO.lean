/- Contracts of the functions of the program over slots and rows, each proved against the program itself; no condition beyond those that each theorem names. -/
import Derived.Test.YtlcoaglnegibkaaK
import Derived.Test.YtlcoaglnegibkaaProg

set_option linter.unusedSimpArgs false
set_option linter.unusedVariables false

namespace Go.Proofs.Dev

-- 2 parameters, results [.t 4], 28 slots, modes [false, false]
@[simp] abbrev n_spec_TilingOk : Nat := 56
def c_spec_TilingOk_L0 : ACode :=
  .seq (.seq (.reg [⟨(some 10), .mv, [.t 5], none⟩,
    ⟨(some 11), .mv, [.t 1], none⟩,
    ⟨(some 12), .len false, [.t 11], none⟩,
    ⟨(some 13), .bin .lss 0, [.t 10, .t 12], none⟩]) <|
  .cond (.t 13) (
    .skip) (
    .exit 0)) <|
  .seq (.block 1 (
    .seq (.reg [⟨(some 16), .fadr 2, [.t 2], none⟩,
      ⟨(some 17), .load false 1, [.t 16], none⟩,
      ⟨(some 18), .mv, [.t 5], none⟩,
      ⟨(some 19), .iadr 1, [.t 17, .t 18], none⟩,
      ⟨(some 20), .load false 1, [.t 19], none⟩,
      ⟨(some 21), .mv, [.t 20], none⟩,
      ⟨(some 22), .mv, [.t 1], (some (21, true))⟩,
      ⟨(some 23), .mv, [.t 5], (some (21, true))⟩,
      ⟨(some 24), .iadr 1, [.t 22, .t 23], (some (21, true))⟩,
      ⟨(some 25), .load false 1, [.t 24], (some (21, true))⟩,
      ⟨(some 26), .bin .eql 0, [.t 25, .c (.v (.int .i64 (0)))], (some (21, true))⟩,
      ⟨(some 27), .pick, [.t 21, .t 26, .c (.v (.bool false))], none⟩]) <|
    .cond (.t 27) (
      .seq (.reg [⟨(some 4), .mv, [.c (.v (.bool false))], none⟩]) <|
      .ret) (
      .skip))) <|
  .reg [⟨(some 14), .mv, [.t 5], none⟩,
    ⟨(some 15), .bin .add 0, [.t 14, .c (.v (.int .i64 (1)))], none⟩,
    ⟨(some 5), .mv, [.t 15], none⟩]

def c_spec_TilingOk : ACode :=
  .seq (.reg [⟨(some 2), .box, [.t 0], none⟩,
    ⟨(some 4), .mv, [.c (.v (.bool false))], none⟩]) <|
  .seq (.seq (.reg [⟨(some 6), .load true 3, [.t 2], none⟩,
    ⟨(some 7), .mv, [.t 1], none⟩,
    ⟨(some 8), .call 22 [], [.t 6, .t 7], none⟩,
    ⟨(some 9), .un .not, [.t 8], none⟩]) <|
  .cond (.t 9) (
    .seq (.reg [⟨(some 4), .mv, [.c (.v (.bool false))], none⟩]) <|
    .ret) (
    .skip)) <|
  .seq (.seq (.reg [⟨(some 5), .mv, [.c (.v (.int .i64 (0)))], none⟩]) <|
  .block 0 (
    .loop [(1, 1)] [1, 2, 5] c_spec_TilingOk_L0)) <|
  .seq (.reg [⟨(some 4), .mv, [.c (.v (.bool true))], none⟩]) <|
  .ret

theorem k_spec_TilingOk : cFn Try.prog n_spec_TilingOk 28 [.t 4] c_spec_TilingOk := ⟨Try.f56, _, Try.func56, rfl, by kernel_rfl, by kernel_rfl, by kernel_rfl, by kernel_rfl⟩

-- 2 parameters, results [.t 4], 24 slots, modes [false, false]
@[simp] abbrev n_impl_Region_full : Nat := 85
def c_impl_Region_full_L0 : ACode :=
  .seq (.reg [⟨(some 11), .bin .lss 0, [.t 10, .t 9], none⟩]) <|
  .seq (.cond (.t 11) (
    .skip) (
    .exit 0)) <|
  .seq (.block 1 (
    .seq (.reg [⟨(some 12), .mv, [.t 10], none⟩,
      ⟨(some 13), .iadr 1, [.t 8, .t 10], none⟩,
      ⟨(some 14), .load false 1, [.t 13], none⟩,
      ⟨(some 5), .mv, [.t 12], none⟩,
      ⟨(some 6), .mv, [.t 14], none⟩]) <|
    .seq (.reg [⟨(some 15), .mv, [.t 6], none⟩,
      ⟨(some 16), .mv, [.t 15], none⟩,
      ⟨(some 17), .mv, [.t 1], (some (16, true))⟩,
      ⟨(some 18), .mv, [.t 5], (some (16, true))⟩,
      ⟨(some 19), .iadr 1, [.t 17, .t 18], (some (16, true))⟩,
      ⟨(some 20), .load false 1, [.t 19], (some (16, true))⟩,
      ⟨(some 21), .bin .eql 0, [.t 20, .c (.v (.int .i64 (0)))], (some (16, true))⟩,
      ⟨(some 22), .pick, [.t 16, .t 21, .c (.v (.bool false))], none⟩]) <|
    .cond (.t 22) (
      .seq (.reg [⟨(some 4), .mv, [.c (.v (.bool false))], none⟩]) <|
      .ret) (
      .skip))) <|
  .reg [⟨(some 23), .bin .add 0, [.t 10, .c (.v (.int .i64 (1)))], none⟩,
    ⟨(some 10), .mv, [.t 23], none⟩]

def c_impl_Region_full : ACode :=
  .seq (.reg [⟨(some 2), .box, [.t 0], none⟩,
    ⟨(some 4), .mv, [.c (.v (.bool false))], none⟩]) <|
  .seq (.seq (.reg [⟨(some 7), .fadr 2, [.t 2], none⟩,
    ⟨(some 8), .load false 1, [.t 7], none⟩,
    ⟨(some 9), .len false, [.t 8], none⟩,
    ⟨(some 10), .mv, [.c (.v (.int .i64 (0)))], none⟩]) <|
  .block 0 (
    .loop [(1, 1), (8, 1)] [1, 8, 9, 10] c_impl_Region_full_L0)) <|
  .seq (.reg [⟨(some 4), .mv, [.c (.v (.bool true))], none⟩]) <|
  .ret

theorem k_impl_Region_full : cFn Try.prog n_impl_Region_full 24 [.t 4] c_impl_Region_full := ⟨Try.f85, _, Try.func85, rfl, by kernel_rfl, by kernel_rfl, by kernel_rfl, by kernel_rfl⟩

-- 3 parameters, results [.t 6], 16 slots, modes [false, false, false]
@[simp] abbrev n_spec_SolvedOk : Nat := 31

def c_spec_SolvedOk : ACode :=
  .seq (.reg [⟨(some 3), .box, [.t 0], none⟩,
    ⟨(some 6), .mv, [.c (.v (.bool false))], none⟩]) <|
  .seq (.reg [⟨(some 7), .load true 3, [.t 3], none⟩,
    ⟨(some 8), .mv, [.t 2], none⟩,
    ⟨(some 9), .call 56 [], [.t 7, .t 8], none⟩,
    ⟨(some 10), .mv, [.t 9], none⟩,
    ⟨(some 11), .load true 3, [.t 3], (some (10, true))⟩,
    ⟨(some 12), .mv, [.t 1], (some (10, true))⟩,
    ⟨(some 13), .mv, [.t 2], (some (10, true))⟩,
    ⟨(some 14), .call 27 [], [.t 11, .t 12, .t 13], (some (10, true))⟩,
    ⟨(some 15), .pick, [.t 10, .t 14, .c (.v (.bool false))], none⟩,
    ⟨(some 6), .mv, [.t 15], none⟩]) <|
  .ret

theorem k_spec_SolvedOk : cFn Try.prog n_spec_SolvedOk 16 [.t 6] c_spec_SolvedOk := ⟨Try.f31, _, Try.func31, rfl, by kernel_rfl, by kernel_rfl, by kernel_rfl, by kernel_rfl⟩

-- 3 parameters, results [.t 6], 16 slots, modes [false, false, false]
@[simp] abbrev n_impl_SolvedOk : Nat := 30

def c_impl_SolvedOk : ACode :=
  .seq (.reg [⟨(some 3), .box, [.t 0], none⟩,
    ⟨(some 6), .mv, [.c (.v (.bool false))], none⟩]) <|
  .seq (.reg [⟨(some 7), .load true 3, [.t 3], none⟩,
    ⟨(some 8), .mv, [.t 1], none⟩,
    ⟨(some 9), .mv, [.t 2], none⟩,
    ⟨(some 10), .call 25 [], [.t 7, .t 8, .t 9], none⟩,
    ⟨(some 11), .mv, [.t 10], none⟩,
    ⟨(some 12), .load true 3, [.t 3], (some (11, true))⟩,
    ⟨(some 13), .mv, [.t 2], (some (11, true))⟩,
    ⟨(some 14), .call 85 [], [.t 12, .t 13], (some (11, true))⟩,
    ⟨(some 15), .pick, [.t 11, .t 14, .c (.v (.bool false))], none⟩,
    ⟨(some 6), .mv, [.t 15], none⟩]) <|
  .ret

theorem k_impl_SolvedOk : cFn Try.prog n_impl_SolvedOk 16 [.t 6] c_impl_SolvedOk := ⟨Try.f30, _, Try.func30, rfl, by kernel_rfl, by kernel_rfl, by kernel_rfl, by kernel_rfl⟩

-- 3 parameters, results [.t 6], 63 slots, modes [false, false, false]
@[simp] abbrev n_spec_Relabel : Nat := 52
def c_spec_Relabel_L0 : ACode :=
  .seq (.seq (.reg [⟨(some 25), .mv, [.t 7], none⟩,
    ⟨(some 26), .mv, [.t 2], none⟩,
    ⟨(some 27), .len false, [.t 26], none⟩,
    ⟨(some 28), .bin .lss 0, [.t 25, .t 27], none⟩]) <|
  .cond (.t 28) (
    .skip) (
    .exit 0)) <|
  .seq (.block 1 (
    .seq (.reg [⟨(some 31), .mv, [.t 2], none⟩,
      ⟨(some 32), .mv, [.t 7], none⟩,
      ⟨(some 33), .iadr 1, [.t 31, .t 32], none⟩,
      ⟨(some 34), .load false 1, [.t 33], none⟩,
      ⟨(some 35), .call 67 [], [.t 34, .c (.v (.int .i64 (0))), .c (.v (.int .i64 (6)))], none⟩,
      ⟨(some 36), .un .not, [.t 35], none⟩]) <|
    .cond (.t 36) (
      .seq (.reg [⟨(some 37), .bsl 1, [], none⟩,
        ⟨(some 6), .mv, [.t 37], none⟩]) <|
      .ret) (
      .skip))) <|
  .reg [⟨(some 29), .mv, [.t 7], none⟩,
    ⟨(some 30), .bin .add 0, [.t 29, .c (.v (.int .i64 (1)))], none⟩,
    ⟨(some 7), .mv, [.t 30], none⟩]

def c_spec_Relabel_L1 : ACode :=
  .seq (.seq (.reg [⟨(some 41), .mv, [.t 9], none⟩,
    ⟨(some 42), .mv, [.t 8], none⟩,
    ⟨(some 43), .len false, [.t 42], none⟩,
    ⟨(some 44), .bin .lss 0, [.t 41, .t 43], none⟩]) <|
  .cond (.t 44) (
    .skip) (
    .exit 2)) <|
  .seq (.block 3 (
    .seq (.reg [⟨(some 47), .mv, [.t 8], none⟩,
      ⟨(some 48), .mv, [.t 9], none⟩,
      ⟨(some 49), .iadr 1, [.t 47, .t 48], none⟩,
      ⟨(some 50), .load false 1, [.t 49], none⟩,
      ⟨(some 51), .bin .geq 0, [.t 50, .c (.v (.int .i64 (0)))], none⟩]) <|
    .cond (.t 51) (
      .reg [⟨(some 52), .mv, [.t 8], none⟩,
        ⟨(some 53), .mv, [.t 9], none⟩,
        ⟨(some 54), .mv, [.t 2], none⟩,
        ⟨(some 55), .mv, [.t 8], none⟩,
        ⟨(some 56), .mv, [.t 9], none⟩,
        ⟨(some 57), .iadr 1, [.t 55, .t 56], none⟩,
        ⟨(some 58), .load false 1, [.t 57], none⟩,
        ⟨(some 59), .iadr 1, [.t 54, .t 58], none⟩,
        ⟨(some 60), .load false 1, [.t 59], none⟩,
        ⟨(some 61), .iadr 1, [.t 52, .t 53], none⟩,
        ⟨none, .store 1, [.t 61, .t 60], none⟩]) (
      .skip))) <|
  .reg [⟨(some 45), .mv, [.t 9], none⟩,
    ⟨(some 46), .bin .add 0, [.t 45, .c (.v (.int .i64 (1)))], none⟩,
    ⟨(some 9), .mv, [.t 46], none⟩]

def c_spec_Relabel : ACode :=
  .seq (.reg [⟨(some 3), .box, [.t 0], none⟩,
    ⟨(some 6), .mv, [.c (.os 1 [])], none⟩]) <|
  .seq (.seq (.reg [⟨(some 10), .load true 3, [.t 3], none⟩,
    ⟨(some 11), .mv, [.t 1], none⟩,
    ⟨(some 12), .call 16 [], [.t 10, .t 11], none⟩,
    ⟨(some 13), .un .not, [.t 12], none⟩,
    ⟨(some 14), .mv, [.t 13], none⟩,
    ⟨(some 15), .mv, [.t 2], (some (14, false))⟩,
    ⟨(some 16), .len false, [.t 15], (some (14, false))⟩,
    ⟨(some 17), .bin .neq 0, [.t 16, .c (.v (.int .i64 (7)))], (some (14, false))⟩,
    ⟨(some 18), .pick, [.t 14, .c (.v (.bool true)), .t 17], none⟩,
    ⟨(some 19), .mv, [.t 18], none⟩,
    ⟨(some 20), .mv, [.t 2], (some (19, false))⟩,
    ⟨(some 21), .call 78 [], [.t 20], (some (19, false))⟩,
    ⟨(some 22), .un .not, [.t 21], (some (19, false))⟩,
    ⟨(some 23), .pick, [.t 19, .c (.v (.bool true)), .t 22], none⟩]) <|
  .cond (.t 23) (
    .seq (.reg [⟨(some 24), .bsl 1, [], none⟩,
      ⟨(some 6), .mv, [.t 24], none⟩]) <|
    .ret) (
    .skip)) <|
  .seq (.seq (.reg [⟨(some 7), .mv, [.c (.v (.int .i64 (0)))], none⟩]) <|
  .block 0 (
    .loop [(1, 1), (2, 1)] [1, 2, 7] c_spec_Relabel_L0)) <|
  .seq (.reg [⟨(some 38), .bsl 1, [], none⟩,
    ⟨(some 39), .mv, [.t 1], none⟩,
    ⟨(some 40), .app 1 8 true, [.t 38, .t 39], none⟩,
    ⟨(some 8), .mv, [.t 40], none⟩]) <|
  .seq (.seq (.reg [⟨(some 9), .mv, [.c (.v (.int .i64 (0)))], none⟩]) <|
  .block 2 (
    .loop [(2, 1), (8, 1)] [2, 8, 9] c_spec_Relabel_L1)) <|
  .seq (.reg [⟨(some 62), .mv, [.t 8], none⟩,
    ⟨(some 6), .mv, [.t 62], none⟩]) <|
  .ret

theorem k_spec_Relabel : cFn Try.prog n_spec_Relabel 63 [.t 6] c_spec_Relabel := ⟨Try.f52, _, Try.func52, rfl, by kernel_rfl, by kernel_rfl, by kernel_rfl, by kernel_rfl⟩

-- 3 parameters, results [.t 6], 57 slots, modes [false, false, false]
@[simp] abbrev n_impl_Relabel : Nat := 51
def c_impl_Relabel_L0 : ACode :=
  .seq (.reg [⟨(some 29), .bin .lss 0, [.t 28, .t 27], none⟩]) <|
  .seq (.cond (.t 29) (
    .skip) (
    .exit 0)) <|
  .seq (.block 1 (
    .seq (.reg [⟨(some 30), .mv, [.t 28], none⟩,
      ⟨(some 31), .iadr 1, [.t 26, .t 28], none⟩,
      ⟨(some 32), .load false 1, [.t 31], none⟩,
      ⟨(some 8), .mv, [.t 30], none⟩,
      ⟨(some 9), .mv, [.t 32], none⟩]) <|
    .seq (.reg [⟨(some 33), .mv, [.t 9], none⟩,
      ⟨(some 34), .mv, [.t 8], none⟩,
      ⟨(some 35), .bin .neq 0, [.t 33, .t 34], none⟩]) <|
    .cond (.t 35) (
      .seq (.reg [⟨(some 6), .mv, [.c (.os 1 [])], none⟩]) <|
      .ret) (
      .skip))) <|
  .reg [⟨(some 36), .bin .add 0, [.t 28, .c (.v (.int .i64 (1)))], none⟩,
    ⟨(some 28), .mv, [.t 36], none⟩]

def c_impl_Relabel_L1 : ACode :=
  .seq (.reg [⟨(some 42), .bin .lss 0, [.t 41, .t 40], none⟩]) <|
  .seq (.cond (.t 42) (
    .skip) (
    .exit 2)) <|
  .seq (.block 3 (
    .seq (.reg [⟨(some 43), .mv, [.t 41], none⟩,
      ⟨(some 44), .iadr 1, [.t 39, .t 41], none⟩,
      ⟨(some 45), .load false 1, [.t 44], none⟩,
      ⟨(some 11), .mv, [.t 43], none⟩,
      ⟨(some 12), .mv, [.t 45], none⟩]) <|
    .seq (.reg [⟨(some 46), .mv, [.t 12], none⟩,
      ⟨(some 47), .bin .geq 0, [.t 46, .c (.v (.int .i64 (0)))], none⟩]) <|
    .cond (.t 47) (
      .reg [⟨(some 48), .mv, [.t 10], none⟩,
        ⟨(some 49), .mv, [.t 11], none⟩,
        ⟨(some 50), .mv, [.t 2], none⟩,
        ⟨(some 51), .mv, [.t 12], none⟩,
        ⟨(some 52), .iadr 1, [.t 50, .t 51], none⟩,
        ⟨(some 53), .load false 1, [.t 52], none⟩,
        ⟨(some 54), .iadr 1, [.t 48, .t 49], none⟩,
        ⟨none, .store 1, [.t 54, .t 53], none⟩]) (
      .skip))) <|
  .reg [⟨(some 55), .bin .add 0, [.t 41, .c (.v (.int .i64 (1)))], none⟩,
    ⟨(some 41), .mv, [.t 55], none⟩]

def c_impl_Relabel : ACode :=
  .seq (.reg [⟨(some 3), .box, [.t 0], none⟩,
    ⟨(some 6), .mv, [.c (.os 1 [])], none⟩]) <|
  .seq (.seq (.reg [⟨(some 13), .load true 3, [.t 3], none⟩,
    ⟨(some 14), .mv, [.t 1], none⟩,
    ⟨(some 15), .call 15 [], [.t 13, .t 14], none⟩,
    ⟨(some 16), .un .not, [.t 15], none⟩,
    ⟨(some 17), .mv, [.t 16], none⟩,
    ⟨(some 18), .mv, [.t 2], (some (17, false))⟩,
    ⟨(some 19), .len false, [.t 18], (some (17, false))⟩,
    ⟨(some 20), .bin .neq 0, [.t 19, .c (.v (.int .i64 (7)))], (some (17, false))⟩,
    ⟨(some 21), .pick, [.t 17, .c (.v (.bool true)), .t 20], none⟩]) <|
  .cond (.t 21) (
    .seq (.reg [⟨(some 6), .mv, [.c (.os 1 [])], none⟩]) <|
    .ret) (
    .skip)) <|
  .seq (.reg [⟨(some 22), .mv, [.t 2], none⟩,
    ⟨(some 23), .call 97 [], [.t 22], none⟩,
    ⟨(some 7), .mv, [.t 23], none⟩]) <|
  .seq (.reg [⟨(some 24), .mv, [.t 7], none⟩,
    ⟨(some 25), .call 98 [], [.t 24], none⟩]) <|
  .seq (.seq (.reg [⟨(some 26), .mv, [.t 7], none⟩,
    ⟨(some 27), .len false, [.t 26], none⟩,
    ⟨(some 28), .mv, [.c (.v (.int .i64 (0)))], none⟩]) <|
  .block 0 (
    .loop [(1, 1), (2, 1), (26, 1)] [1, 2, 26, 27, 28] c_impl_Relabel_L0)) <|
  .seq (.reg [⟨(some 37), .mv, [.t 1], none⟩,
    ⟨(some 38), .call 80 [], [.t 37], none⟩,
    ⟨(some 10), .mv, [.t 38], none⟩]) <|
  .seq (.seq (.reg [⟨(some 39), .mv, [.t 1], none⟩,
    ⟨(some 40), .len false, [.t 39], none⟩,
    ⟨(some 41), .mv, [.c (.v (.int .i64 (0)))], none⟩]) <|
  .block 2 (
    .loop [(2, 1), (10, 1), (39, 1)] [2, 10, 39, 40, 41] c_impl_Relabel_L1)) <|
  .seq (.reg [⟨(some 56), .mv, [.t 10], none⟩,
    ⟨(some 6), .mv, [.t 56], none⟩]) <|
  .ret

theorem k_impl_Relabel : cFn Try.prog n_impl_Relabel 57 [.t 6] c_impl_Relabel := ⟨Try.f51, _, Try.func51, rfl, by kernel_rfl, by kernel_rfl, by kernel_rfl, by kernel_rfl⟩

end Go.Proofs.Dev
