/- Contracts of the functions of the program over slots and rows, each proved against the program itself; no condition beyond those that each theorem names. -/
import Derived.Test.YtlcoaglnegibkaaGreatK
import Derived.Test.YtlcoaglnegibkaaGreatProg

set_option linter.unusedSimpArgs false
set_option linter.unusedVariables false

namespace Go.Proofs.Dev

-- 2 parameters, results [.t 4], 28 slots, modes [false, false]
@[simp] abbrev n_spec_TilingOk : Nat := 99
def c_spec_TilingOk_L0 : ACode :=
  .seq (.seq (.reg [⟨(some 10), .mv, [.t 5], none⟩,
    ⟨(some 11), .mv, [.t 1], none⟩,
    ⟨(some 12), .len false, [.t 11], none⟩,
    ⟨(some 13), .bin .lss 0, [.t 10, .t 12], none⟩]) <|
  .cond (.t 13) (
    .skip) (
    .exit 0)) <|
  .seq (.block 1 (
    .seq (.reg [⟨(some 16), .fadr 2, [.t 2], none⟩,
      ⟨(some 17), .load false 1, [.t 16], none⟩,
      ⟨(some 18), .mv, [.t 5], none⟩,
      ⟨(some 19), .iadr 1, [.t 17, .t 18], none⟩,
      ⟨(some 20), .load false 1, [.t 19], none⟩,
      ⟨(some 21), .mv, [.t 20], none⟩,
      ⟨(some 22), .mv, [.t 1], (some (21, true))⟩,
      ⟨(some 23), .mv, [.t 5], (some (21, true))⟩,
      ⟨(some 24), .iadr 1, [.t 22, .t 23], (some (21, true))⟩,
      ⟨(some 25), .load false 1, [.t 24], (some (21, true))⟩,
      ⟨(some 26), .bin .eql 0, [.t 25, .c (.v (.int .i64 (0)))], (some (21, true))⟩,
      ⟨(some 27), .pick, [.t 21, .t 26, .c (.v (.bool false))], none⟩]) <|
    .cond (.t 27) (
      .seq (.reg [⟨(some 4), .mv, [.c (.v (.bool false))], none⟩]) <|
      .ret) (
      .skip))) <|
  .reg [⟨(some 14), .mv, [.t 5], none⟩,
    ⟨(some 15), .bin .add 0, [.t 14, .c (.v (.int .i64 (1)))], none⟩,
    ⟨(some 5), .mv, [.t 15], none⟩]

def c_spec_TilingOk : ACode :=
  .seq (.reg [⟨(some 2), .box, [.t 0], none⟩,
    ⟨(some 4), .mv, [.c (.v (.bool false))], none⟩]) <|
  .seq (.seq (.reg [⟨(some 6), .load true 3, [.t 2], none⟩,
    ⟨(some 7), .mv, [.t 1], none⟩,
    ⟨(some 8), .call 40 [], [.t 6, .t 7], none⟩,
    ⟨(some 9), .un .not, [.t 8], none⟩]) <|
  .cond (.t 9) (
    .seq (.reg [⟨(some 4), .mv, [.c (.v (.bool false))], none⟩]) <|
    .ret) (
    .skip)) <|
  .seq (.seq (.reg [⟨(some 5), .mv, [.c (.v (.int .i64 (0)))], none⟩]) <|
  .block 0 (
    .loop [(1, 1)] [1, 2, 5] c_spec_TilingOk_L0)) <|
  .seq (.reg [⟨(some 4), .mv, [.c (.v (.bool true))], none⟩]) <|
  .ret

theorem k_spec_TilingOk : cFn Tryz.prog n_spec_TilingOk 28 [.t 4] c_spec_TilingOk := ⟨Tryz.f99, _, Tryz.func99, rfl, by kernel_rfl, by kernel_rfl, by kernel_rfl, by kernel_rfl⟩

-- 2 parameters, results [.t 4], 24 slots, modes [false, false]
@[simp] abbrev n_impl_Region_full : Nat := 43
def c_impl_Region_full_L0 : ACode :=
  .seq (.reg [⟨(some 11), .bin .lss 0, [.t 10, .t 9], none⟩]) <|
  .seq (.cond (.t 11) (
    .skip) (
    .exit 0)) <|
  .seq (.block 1 (
    .seq (.reg [⟨(some 12), .mv, [.t 10], none⟩,
      ⟨(some 13), .iadr 1, [.t 8, .t 10], none⟩,
      ⟨(some 14), .load false 1, [.t 13], none⟩,
      ⟨(some 5), .mv, [.t 12], none⟩,
      ⟨(some 6), .mv, [.t 14], none⟩]) <|
    .seq (.reg [⟨(some 15), .mv, [.t 6], none⟩,
      ⟨(some 16), .mv, [.t 15], none⟩,
      ⟨(some 17), .mv, [.t 1], (some (16, true))⟩,
      ⟨(some 18), .mv, [.t 5], (some (16, true))⟩,
      ⟨(some 19), .iadr 1, [.t 17, .t 18], (some (16, true))⟩,
      ⟨(some 20), .load false 1, [.t 19], (some (16, true))⟩,
      ⟨(some 21), .bin .eql 0, [.t 20, .c (.v (.int .i64 (0)))], (some (16, true))⟩,
      ⟨(some 22), .pick, [.t 16, .t 21, .c (.v (.bool false))], none⟩]) <|
    .cond (.t 22) (
      .seq (.reg [⟨(some 4), .mv, [.c (.v (.bool false))], none⟩]) <|
      .ret) (
      .skip))) <|
  .reg [⟨(some 23), .bin .add 0, [.t 10, .c (.v (.int .i64 (1)))], none⟩,
    ⟨(some 10), .mv, [.t 23], none⟩]

def c_impl_Region_full : ACode :=
  .seq (.reg [⟨(some 2), .box, [.t 0], none⟩,
    ⟨(some 4), .mv, [.c (.v (.bool false))], none⟩]) <|
  .seq (.seq (.reg [⟨(some 7), .fadr 2, [.t 2], none⟩,
    ⟨(some 8), .load false 1, [.t 7], none⟩,
    ⟨(some 9), .len false, [.t 8], none⟩,
    ⟨(some 10), .mv, [.c (.v (.int .i64 (0)))], none⟩]) <|
  .block 0 (
    .loop [(1, 1), (8, 1)] [1, 8, 9, 10] c_impl_Region_full_L0)) <|
  .seq (.reg [⟨(some 4), .mv, [.c (.v (.bool true))], none⟩]) <|
  .ret

theorem k_impl_Region_full : cFn Tryz.prog n_impl_Region_full 24 [.t 4] c_impl_Region_full := ⟨Tryz.f43, _, Tryz.func43, rfl, by kernel_rfl, by kernel_rfl, by kernel_rfl, by kernel_rfl⟩

-- 3 parameters, results [.t 6], 16 slots, modes [false, false, false]
@[simp] abbrev n_spec_SolvedOk : Nat := 87

def c_spec_SolvedOk : ACode :=
  .seq (.reg [⟨(some 3), .box, [.t 0], none⟩,
    ⟨(some 6), .mv, [.c (.v (.bool false))], none⟩]) <|
  .seq (.reg [⟨(some 7), .load true 3, [.t 3], none⟩,
    ⟨(some 8), .mv, [.t 2], none⟩,
    ⟨(some 9), .call 99 [], [.t 7, .t 8], none⟩,
    ⟨(some 10), .mv, [.t 9], none⟩,
    ⟨(some 11), .load true 3, [.t 3], (some (10, true))⟩,
    ⟨(some 12), .mv, [.t 1], (some (10, true))⟩,
    ⟨(some 13), .mv, [.t 2], (some (10, true))⟩,
    ⟨(some 14), .call 18 [], [.t 11, .t 12, .t 13], (some (10, true))⟩,
    ⟨(some 15), .pick, [.t 10, .t 14, .c (.v (.bool false))], none⟩,
    ⟨(some 6), .mv, [.t 15], none⟩]) <|
  .ret

theorem k_spec_SolvedOk : cFn Tryz.prog n_spec_SolvedOk 16 [.t 6] c_spec_SolvedOk := ⟨Tryz.f87, _, Tryz.func87, rfl, by kernel_rfl, by kernel_rfl, by kernel_rfl, by kernel_rfl⟩

end Go.Proofs.Dev
