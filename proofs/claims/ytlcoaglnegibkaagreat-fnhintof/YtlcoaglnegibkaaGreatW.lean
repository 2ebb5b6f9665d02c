/- Contracts of the functions of the program over slots and rows, each proved against the program itself; no condition beyond those that each theorem names. -/
import Derived.Test.YtlcoaglnegibkaaGreatN
import Derived.Test.YtlcoaglnegibkaaGreatProg

set_option linter.unusedSimpArgs false
set_option linter.unusedVariables false

namespace Go.Proofs.Dev

end Go.Proofs.Dev

namespace Go.Proofs.Dev

-- 1 parameters, results [.t 2], 9 slots, modes [false]
@[simp] abbrev n_spec_CellsMany : Nat := 95

def c_spec_CellsMany : ACode :=
  .seq (.reg [⟨(some 1), .box, [.t 0], none⟩,
    ⟨(some 2), .mv, [.c (.v (.int .i64 (0)))], none⟩]) <|
  .seq (.seq (.reg [⟨(some 3), .load true 3, [.t 1], none⟩,
    ⟨(some 4), .call 75 [], [.t 3], none⟩,
    ⟨(some 5), .un .not, [.t 4], none⟩]) <|
  .cond (.t 5) (
    .seq (.reg [⟨(some 2), .mv, [.c (.v (.int .i64 (-1)))], none⟩]) <|
    .ret) (
    .skip)) <|
  .seq (.reg [⟨(some 6), .fadr 2, [.t 1], none⟩,
    ⟨(some 7), .load false 1, [.t 6], none⟩,
    ⟨(some 8), .call 93 [], [.t 7], none⟩,
    ⟨(some 2), .mv, [.t 8], none⟩]) <|
  .ret

theorem k_spec_CellsMany : cFn Tryz.prog n_spec_CellsMany 9 [.t 2] c_spec_CellsMany := ⟨Tryz.f95, _, Tryz.func95, rfl, by kernel_rfl, by kernel_rfl, by kernel_rfl, by kernel_rfl⟩

-- 2 parameters, results [.t 4], 21 slots, modes [false, false]
@[simp] abbrev n_impl_ways : Nat := 37
def c_impl_ways_L0 : ACode :=
  .seq (.reg [⟨(some 11), .bin .lss 0, [.t 10, .t 9], none⟩]) <|
  .seq (.cond (.t 11) (
    .skip) (
    .exit 0)) <|
  .seq (.block 1 (
    .seq (.reg [⟨(some 12), .iadr 1, [.t 8, .t 10], none⟩,
      ⟨(some 13), .load false 1, [.t 12], none⟩,
      ⟨(some 7), .mv, [.t 13], none⟩]) <|
    .seq (.reg [⟨(some 14), .mv, [.t 1], none⟩,
      ⟨(some 15), .mv, [.t 7], none⟩,
      ⟨(some 16), .call 74 [], [.t 14, .t 15], none⟩]) <|
    .cond (.t 16) (
      .reg [⟨(some 17), .mv, [.t 5], none⟩,
        ⟨(some 18), .bin .add 0, [.t 17, .c (.v (.int .i64 (1)))], none⟩,
        ⟨(some 5), .mv, [.t 18], none⟩]) (
      .skip))) <|
  .reg [⟨(some 19), .bin .add 0, [.t 10, .c (.v (.int .i64 (1)))], none⟩,
    ⟨(some 10), .mv, [.t 19], none⟩]

def c_impl_ways : ACode :=
  .seq (.reg [⟨(some 4), .mv, [.c (.v (.int .i64 (0)))], none⟩]) <|
  .seq (.reg [⟨(some 5), .mv, [.c (.v (.int .i64 (0)))], none⟩]) <|
  .seq (.seq (.reg [⟨(some 8), .mv, [.t 0], none⟩,
    ⟨(some 9), .len false, [.t 8], none⟩,
    ⟨(some 10), .mv, [.c (.v (.int .i64 (0)))], none⟩]) <|
  .block 0 (
    .loop [(1, 1), (8, 1)] [1, 5, 8, 9, 10] c_impl_ways_L0)) <|
  .seq (.reg [⟨(some 20), .mv, [.t 5], none⟩,
    ⟨(some 4), .mv, [.t 20], none⟩]) <|
  .ret

theorem k_impl_ways : cFn Tryz.prog n_impl_ways 21 [.t 4] c_impl_ways := ⟨Tryz.f37, _, Tryz.func37, rfl, by kernel_rfl, by kernel_rfl, by kernel_rfl, by kernel_rfl⟩

-- 2 parameters, results [.t 4], 9 slots, modes [false, false]
@[simp] abbrev n_slices_Contains_int_int : Nat := 74

def c_slices_Contains_int_int : ACode :=
  .seq (.reg [⟨(some 4), .mv, [.c (.v (.bool false))], none⟩]) <|
  .seq (.reg [⟨(some 5), .mv, [.t 0], none⟩,
    ⟨(some 6), .mv, [.t 1], none⟩,
    ⟨(some 7), .call 92 [], [.t 5, .t 6], none⟩,
    ⟨(some 8), .bin .geq 0, [.t 7, .c (.v (.int .i64 (0)))], none⟩,
    ⟨(some 4), .mv, [.t 8], none⟩]) <|
  .ret

theorem k_slices_Contains_int_int : cFn Tryz.prog n_slices_Contains_int_int 9 [.t 4] c_slices_Contains_int_int := ⟨Tryz.f74, _, Tryz.func74, rfl, by kernel_rfl, by kernel_rfl, by kernel_rfl, by kernel_rfl⟩

-- 2 parameters, results [.t 4], 19 slots, modes [false, false]
@[simp] abbrev n_slices_Index_int_int : Nat := 92
def c_slices_Index_int_int_L0 : ACode :=
  .seq (.reg [⟨(some 9), .bin .lss 0, [.t 8, .t 7], none⟩]) <|
  .seq (.cond (.t 9) (
    .skip) (
    .exit 0)) <|
  .seq (.block 1 (
    .seq (.reg [⟨(some 10), .mv, [.t 8], none⟩,
      ⟨(some 5), .mv, [.t 10], none⟩]) <|
    .seq (.reg [⟨(some 11), .mv, [.t 1], none⟩,
      ⟨(some 12), .mv, [.t 0], none⟩,
      ⟨(some 13), .mv, [.t 5], none⟩,
      ⟨(some 14), .iadr 1, [.t 12, .t 13], none⟩,
      ⟨(some 15), .load false 1, [.t 14], none⟩,
      ⟨(some 16), .bin .eql 0, [.t 11, .t 15], none⟩]) <|
    .cond (.t 16) (
      .seq (.reg [⟨(some 17), .mv, [.t 5], none⟩,
        ⟨(some 4), .mv, [.t 17], none⟩]) <|
      .ret) (
      .skip))) <|
  .reg [⟨(some 18), .bin .add 0, [.t 8, .c (.v (.int .i64 (1)))], none⟩,
    ⟨(some 8), .mv, [.t 18], none⟩]

def c_slices_Index_int_int : ACode :=
  .seq (.reg [⟨(some 4), .mv, [.c (.v (.int .i64 (0)))], none⟩]) <|
  .seq (.seq (.reg [⟨(some 6), .mv, [.t 0], none⟩,
    ⟨(some 7), .len false, [.t 6], none⟩,
    ⟨(some 8), .mv, [.c (.v (.int .i64 (0)))], none⟩]) <|
  .block 0 (
    .loop [(0, 1)] [0, 1, 7, 8] c_slices_Index_int_int_L0)) <|
  .seq (.reg [⟨(some 4), .mv, [.c (.v (.int .i64 (-1)))], none⟩]) <|
  .ret

theorem k_slices_Index_int_int : cFn Tryz.prog n_slices_Index_int_int 19 [.t 4] c_slices_Index_int_int := ⟨Tryz.f92, _, Tryz.func92, rfl, by kernel_rfl, by kernel_rfl, by kernel_rfl, by kernel_rfl⟩

end Go.Proofs.Dev
