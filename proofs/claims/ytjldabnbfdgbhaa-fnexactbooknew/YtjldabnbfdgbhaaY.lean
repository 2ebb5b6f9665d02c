/- Contracts of the functions of the program over slots and rows, each proved against the program itself; no condition beyond those that each theorem names. -/
import Derived.Test.YtjldabnbfdgbhaaW
import Derived.Test.YtjldabnbfdgbhaaProg
import Derived.Test.YtjldabnbfdgbhaaX

set_option linter.unusedSimpArgs false
set_option linter.unusedVariables false

namespace Go.Proofs.Dev

-- 1 parameters, results [.t 2], 9 slots, modes [false]
@[simp] abbrev n_spec_CellsMany : Nat := 108

def c_spec_CellsMany : ACode :=
  .seq (.reg [⟨(some 1), .box, [.t 0], none⟩,
    ⟨(some 2), .mv, [.c (.v (.int .i64 (0)))], none⟩]) <|
  .seq (.seq (.reg [⟨(some 3), .load true 3, [.t 1], none⟩,
    ⟨(some 4), .call 114 [], [.t 3], none⟩,
    ⟨(some 5), .un .not, [.t 4], none⟩]) <|
  .cond (.t 5) (
    .seq (.reg [⟨(some 2), .mv, [.c (.v (.int .i64 (-1)))], none⟩]) <|
    .ret) (
    .skip)) <|
  .seq (.reg [⟨(some 6), .fadr 2, [.t 1], none⟩,
    ⟨(some 7), .load false 1, [.t 6], none⟩,
    ⟨(some 8), .call 136 [], [.t 7], none⟩,
    ⟨(some 2), .mv, [.t 8], none⟩]) <|
  .ret

theorem k_spec_CellsMany : cFn Try.prog n_spec_CellsMany 9 [.t 2] c_spec_CellsMany := ⟨Try.f108, _, Try.func108, rfl, by kernel_rfl, by kernel_rfl, by kernel_rfl, by kernel_rfl⟩

-- 2 parameters, results [.t 4], 32 slots, modes [false, false]
@[simp] abbrev n_spec_LaidMany : Nat := 109
def c_spec_LaidMany_L0 : ACode :=
  .seq (.seq (.reg [⟨(some 11), .mv, [.t 6], none⟩,
    ⟨(some 12), .mv, [.t 1], none⟩,
    ⟨(some 13), .len false, [.t 12], none⟩,
    ⟨(some 14), .bin .lss 0, [.t 11, .t 13], none⟩]) <|
  .cond (.t 14) (
    .skip) (
    .exit 0)) <|
  .seq (.block 1 (
    .seq (.reg [⟨(some 17), .mv, [.t 1], none⟩,
      ⟨(some 18), .mv, [.t 6], none⟩,
      ⟨(some 19), .iadr 1, [.t 17, .t 18], none⟩,
      ⟨(some 20), .load false 1, [.t 19], none⟩,
      ⟨(some 21), .bin .eql 0, [.t 20, .c (.v (.int .i64 (1)))], none⟩,
      ⟨(some 22), .mv, [.t 21], none⟩,
      ⟨(some 23), .mv, [.t 1], (some (22, false))⟩,
      ⟨(some 24), .mv, [.t 6], (some (22, false))⟩,
      ⟨(some 25), .iadr 1, [.t 23, .t 24], (some (22, false))⟩,
      ⟨(some 26), .load false 1, [.t 25], (some (22, false))⟩,
      ⟨(some 27), .bin .eql 0, [.t 26, .c (.v (.int .i64 (2)))], (some (22, false))⟩,
      ⟨(some 28), .pick, [.t 22, .c (.v (.bool true)), .t 27], none⟩]) <|
    .cond (.t 28) (
      .reg [⟨(some 29), .mv, [.t 5], none⟩,
        ⟨(some 30), .bin .add 0, [.t 29, .c (.v (.int .i64 (1)))], none⟩,
        ⟨(some 5), .mv, [.t 30], none⟩]) (
      .skip))) <|
  .reg [⟨(some 15), .mv, [.t 6], none⟩,
    ⟨(some 16), .bin .add 0, [.t 15, .c (.v (.int .i64 (1)))], none⟩,
    ⟨(some 6), .mv, [.t 16], none⟩]

def c_spec_LaidMany : ACode :=
  .seq (.reg [⟨(some 2), .box, [.t 0], none⟩,
    ⟨(some 4), .mv, [.c (.v (.int .i64 (0)))], none⟩]) <|
  .seq (.seq (.reg [⟨(some 7), .load true 3, [.t 2], none⟩,
    ⟨(some 8), .mv, [.t 1], none⟩,
    ⟨(some 9), .call 72 [], [.t 7, .t 8], none⟩,
    ⟨(some 10), .un .not, [.t 9], none⟩]) <|
  .cond (.t 10) (
    .seq (.reg [⟨(some 4), .mv, [.c (.v (.int .i64 (-1)))], none⟩]) <|
    .ret) (
    .skip)) <|
  .seq (.reg [⟨(some 5), .mv, [.c (.v (.int .i64 (0)))], none⟩]) <|
  .seq (.seq (.reg [⟨(some 6), .mv, [.c (.v (.int .i64 (0)))], none⟩]) <|
  .block 0 (
    .loop [(1, 1)] [1, 5, 6] c_spec_LaidMany_L0)) <|
  .seq (.reg [⟨(some 31), .mv, [.t 5], none⟩,
    ⟨(some 4), .mv, [.t 31], none⟩]) <|
  .ret

theorem k_spec_LaidMany : cFn Try.prog n_spec_LaidMany 32 [.t 4] c_spec_LaidMany := ⟨Try.f109, _, Try.func109, rfl, by kernel_rfl, by kernel_rfl, by kernel_rfl, by kernel_rfl⟩

-- 2 parameters, results [.t 4], 21 slots, modes [false, false]
@[simp] abbrev n_impl_ways : Nat := 138
def c_impl_ways_L0 : ACode :=
  .seq (.reg [⟨(some 11), .bin .lss 0, [.t 10, .t 9], none⟩]) <|
  .seq (.cond (.t 11) (
    .skip) (
    .exit 0)) <|
  .seq (.block 1 (
    .seq (.reg [⟨(some 12), .iadr 1, [.t 8, .t 10], none⟩,
      ⟨(some 13), .load false 1, [.t 12], none⟩,
      ⟨(some 7), .mv, [.t 13], none⟩]) <|
    .seq (.reg [⟨(some 14), .mv, [.t 1], none⟩,
      ⟨(some 15), .mv, [.t 7], none⟩,
      ⟨(some 16), .call 156 [], [.t 14, .t 15], none⟩]) <|
    .cond (.t 16) (
      .reg [⟨(some 17), .mv, [.t 5], none⟩,
        ⟨(some 18), .bin .add 0, [.t 17, .c (.v (.int .i64 (1)))], none⟩,
        ⟨(some 5), .mv, [.t 18], none⟩]) (
      .skip))) <|
  .reg [⟨(some 19), .bin .add 0, [.t 10, .c (.v (.int .i64 (1)))], none⟩,
    ⟨(some 10), .mv, [.t 19], none⟩]

def c_impl_ways : ACode :=
  .seq (.reg [⟨(some 4), .mv, [.c (.v (.int .i64 (0)))], none⟩]) <|
  .seq (.reg [⟨(some 5), .mv, [.c (.v (.int .i64 (0)))], none⟩]) <|
  .seq (.seq (.reg [⟨(some 8), .mv, [.t 0], none⟩,
    ⟨(some 9), .len false, [.t 8], none⟩,
    ⟨(some 10), .mv, [.c (.v (.int .i64 (0)))], none⟩]) <|
  .block 0 (
    .loop [(1, 1), (8, 1)] [1, 5, 8, 9, 10] c_impl_ways_L0)) <|
  .seq (.reg [⟨(some 20), .mv, [.t 5], none⟩,
    ⟨(some 4), .mv, [.t 20], none⟩]) <|
  .ret

theorem k_impl_ways : cFn Try.prog n_impl_ways 21 [.t 4] c_impl_ways := ⟨Try.f138, _, Try.func138, rfl, by kernel_rfl, by kernel_rfl, by kernel_rfl, by kernel_rfl⟩

-- 2 parameters, results [.t 4], 9 slots, modes [false, false]
@[simp] abbrev n_slices_Contains_int_int : Nat := 156

def c_slices_Contains_int_int : ACode :=
  .seq (.reg [⟨(some 4), .mv, [.c (.v (.bool false))], none⟩]) <|
  .seq (.reg [⟨(some 5), .mv, [.t 0], none⟩,
    ⟨(some 6), .mv, [.t 1], none⟩,
    ⟨(some 7), .call 164 [], [.t 5, .t 6], none⟩,
    ⟨(some 8), .bin .geq 0, [.t 7, .c (.v (.int .i64 (0)))], none⟩,
    ⟨(some 4), .mv, [.t 8], none⟩]) <|
  .ret

theorem k_slices_Contains_int_int : cFn Try.prog n_slices_Contains_int_int 9 [.t 4] c_slices_Contains_int_int := ⟨Try.f156, _, Try.func156, rfl, by kernel_rfl, by kernel_rfl, by kernel_rfl, by kernel_rfl⟩

-- 2 parameters, results [.t 4], 19 slots, modes [false, false]
@[simp] abbrev n_slices_Index_int_int : Nat := 164
def c_slices_Index_int_int_L0 : ACode :=
  .seq (.reg [⟨(some 9), .bin .lss 0, [.t 8, .t 7], none⟩]) <|
  .seq (.cond (.t 9) (
    .skip) (
    .exit 0)) <|
  .seq (.block 1 (
    .seq (.reg [⟨(some 10), .mv, [.t 8], none⟩,
      ⟨(some 5), .mv, [.t 10], none⟩]) <|
    .seq (.reg [⟨(some 11), .mv, [.t 1], none⟩,
      ⟨(some 12), .mv, [.t 0], none⟩,
      ⟨(some 13), .mv, [.t 5], none⟩,
      ⟨(some 14), .iadr 1, [.t 12, .t 13], none⟩,
      ⟨(some 15), .load false 1, [.t 14], none⟩,
      ⟨(some 16), .bin .eql 0, [.t 11, .t 15], none⟩]) <|
    .cond (.t 16) (
      .seq (.reg [⟨(some 17), .mv, [.t 5], none⟩,
        ⟨(some 4), .mv, [.t 17], none⟩]) <|
      .ret) (
      .skip))) <|
  .reg [⟨(some 18), .bin .add 0, [.t 8, .c (.v (.int .i64 (1)))], none⟩,
    ⟨(some 8), .mv, [.t 18], none⟩]

def c_slices_Index_int_int : ACode :=
  .seq (.reg [⟨(some 4), .mv, [.c (.v (.int .i64 (0)))], none⟩]) <|
  .seq (.seq (.reg [⟨(some 6), .mv, [.t 0], none⟩,
    ⟨(some 7), .len false, [.t 6], none⟩,
    ⟨(some 8), .mv, [.c (.v (.int .i64 (0)))], none⟩]) <|
  .block 0 (
    .loop [(0, 1)] [0, 1, 7, 8] c_slices_Index_int_int_L0)) <|
  .seq (.reg [⟨(some 4), .mv, [.c (.v (.int .i64 (-1)))], none⟩]) <|
  .ret

theorem k_slices_Index_int_int : cFn Try.prog n_slices_Index_int_int 19 [.t 4] c_slices_Index_int_int := ⟨Try.f164, _, Try.func164, rfl, by kernel_rfl, by kernel_rfl, by kernel_rfl, by kernel_rfl⟩

-- 1 parameters, results [.t 2], 17 slots, modes [false]
@[simp] abbrev n_impl_Book_left : Nat := 110

def c_impl_Book_left : ACode :=
  .seq (.reg [⟨(some 2), .mv, [.c (.v (.int .i64 (0)))], none⟩]) <|
  .seq (.draw (
    .take ⟨(some 3), .mv, [.t 0], none⟩ <|
    .take ⟨(some 4), .nilck, [.t 3], none⟩ <|
    .take ⟨(some 5), .fadr 0, [.t 4], none⟩ <|
    .take ⟨(some 6), .fadr 2, [.t 5], none⟩ <|
    .take ⟨(some 9), .mv, [.t 0], none⟩ <|
    .take ⟨(some 10), .nilck, [.t 9], none⟩ <|
    .take ⟨(some 11), .fadr 4, [.t 10], none⟩ <|
    .alt ⟨(some 7), .load false 1, [.t 6], none⟩ (
      .alt ⟨(some 8), .call 137 [], [.t 7], none⟩ (
        .alt ⟨(some 12), .load false 1, [.t 11], none⟩ (
          .alt ⟨(some 13), .bsl 1, [.c (.v (.int .i64 (1))), .c (.v (.int .i64 (2)))], none⟩ (
            .alt ⟨(some 14), .call 138 [], [.t 12, .t 13], none⟩ (
              .take ⟨(some 15), .bin .mul 0, [.c (.v (.int .i64 (2))), .t 14], none⟩ <|
              .take ⟨(some 16), .bin .sub 0, [.t 8, .t 15], none⟩ <|
              .take ⟨(some 2), .mv, [.t 16], none⟩ <|
              .done) <|
            .stop) <|
          .stop) <|
        .alt ⟨(some 13), .bsl 1, [.c (.v (.int .i64 (1))), .c (.v (.int .i64 (2)))], none⟩ (
          .alt ⟨(some 12), .load false 1, [.t 11], none⟩ (
            .alt ⟨(some 14), .call 138 [], [.t 12, .t 13], none⟩ (
              .take ⟨(some 15), .bin .mul 0, [.c (.v (.int .i64 (2))), .t 14], none⟩ <|
              .take ⟨(some 16), .bin .sub 0, [.t 8, .t 15], none⟩ <|
              .take ⟨(some 2), .mv, [.t 16], none⟩ <|
              .done) <|
            .stop) <|
          .stop) <|
        .stop) <|
      .alt ⟨(some 12), .load false 1, [.t 11], none⟩ (
        .alt ⟨(some 8), .call 137 [], [.t 7], none⟩ (
          .alt ⟨(some 13), .bsl 1, [.c (.v (.int .i64 (1))), .c (.v (.int .i64 (2)))], none⟩ (
            .alt ⟨(some 14), .call 138 [], [.t 12, .t 13], none⟩ (
              .take ⟨(some 15), .bin .mul 0, [.c (.v (.int .i64 (2))), .t 14], none⟩ <|
              .take ⟨(some 16), .bin .sub 0, [.t 8, .t 15], none⟩ <|
              .take ⟨(some 2), .mv, [.t 16], none⟩ <|
              .done) <|
            .stop) <|
          .stop) <|
        .alt ⟨(some 13), .bsl 1, [.c (.v (.int .i64 (1))), .c (.v (.int .i64 (2)))], none⟩ (
          .alt ⟨(some 8), .call 137 [], [.t 7], none⟩ (
            .alt ⟨(some 14), .call 138 [], [.t 12, .t 13], none⟩ (
              .take ⟨(some 15), .bin .mul 0, [.c (.v (.int .i64 (2))), .t 14], none⟩ <|
              .take ⟨(some 16), .bin .sub 0, [.t 8, .t 15], none⟩ <|
              .take ⟨(some 2), .mv, [.t 16], none⟩ <|
              .done) <|
            .stop) <|
          .stop) <|
        .stop) <|
      .alt ⟨(some 13), .bsl 1, [.c (.v (.int .i64 (1))), .c (.v (.int .i64 (2)))], none⟩ (
        .alt ⟨(some 8), .call 137 [], [.t 7], none⟩ (
          .alt ⟨(some 12), .load false 1, [.t 11], none⟩ (
            .alt ⟨(some 14), .call 138 [], [.t 12, .t 13], none⟩ (
              .take ⟨(some 15), .bin .mul 0, [.c (.v (.int .i64 (2))), .t 14], none⟩ <|
              .take ⟨(some 16), .bin .sub 0, [.t 8, .t 15], none⟩ <|
              .take ⟨(some 2), .mv, [.t 16], none⟩ <|
              .done) <|
            .stop) <|
          .stop) <|
        .alt ⟨(some 12), .load false 1, [.t 11], none⟩ (
          .alt ⟨(some 8), .call 137 [], [.t 7], none⟩ (
            .alt ⟨(some 14), .call 138 [], [.t 12, .t 13], none⟩ (
              .take ⟨(some 15), .bin .mul 0, [.c (.v (.int .i64 (2))), .t 14], none⟩ <|
              .take ⟨(some 16), .bin .sub 0, [.t 8, .t 15], none⟩ <|
              .take ⟨(some 2), .mv, [.t 16], none⟩ <|
              .done) <|
            .stop) <|
          .stop) <|
        .stop) <|
      .stop) <|
    .alt ⟨(some 12), .load false 1, [.t 11], none⟩ (
      .alt ⟨(some 7), .load false 1, [.t 6], none⟩ (
        .alt ⟨(some 8), .call 137 [], [.t 7], none⟩ (
          .alt ⟨(some 13), .bsl 1, [.c (.v (.int .i64 (1))), .c (.v (.int .i64 (2)))], none⟩ (
            .alt ⟨(some 14), .call 138 [], [.t 12, .t 13], none⟩ (
              .take ⟨(some 15), .bin .mul 0, [.c (.v (.int .i64 (2))), .t 14], none⟩ <|
              .take ⟨(some 16), .bin .sub 0, [.t 8, .t 15], none⟩ <|
              .take ⟨(some 2), .mv, [.t 16], none⟩ <|
              .done) <|
            .stop) <|
          .stop) <|
        .alt ⟨(some 13), .bsl 1, [.c (.v (.int .i64 (1))), .c (.v (.int .i64 (2)))], none⟩ (
          .alt ⟨(some 8), .call 137 [], [.t 7], none⟩ (
            .alt ⟨(some 14), .call 138 [], [.t 12, .t 13], none⟩ (
              .take ⟨(some 15), .bin .mul 0, [.c (.v (.int .i64 (2))), .t 14], none⟩ <|
              .take ⟨(some 16), .bin .sub 0, [.t 8, .t 15], none⟩ <|
              .take ⟨(some 2), .mv, [.t 16], none⟩ <|
              .done) <|
            .stop) <|
          .stop) <|
        .stop) <|
      .alt ⟨(some 13), .bsl 1, [.c (.v (.int .i64 (1))), .c (.v (.int .i64 (2)))], none⟩ (
        .alt ⟨(some 7), .load false 1, [.t 6], none⟩ (
          .alt ⟨(some 8), .call 137 [], [.t 7], none⟩ (
            .alt ⟨(some 14), .call 138 [], [.t 12, .t 13], none⟩ (
              .take ⟨(some 15), .bin .mul 0, [.c (.v (.int .i64 (2))), .t 14], none⟩ <|
              .take ⟨(some 16), .bin .sub 0, [.t 8, .t 15], none⟩ <|
              .take ⟨(some 2), .mv, [.t 16], none⟩ <|
              .done) <|
            .stop) <|
          .stop) <|
        .stop) <|
      .stop) <|
    .alt ⟨(some 13), .bsl 1, [.c (.v (.int .i64 (1))), .c (.v (.int .i64 (2)))], none⟩ (
      .alt ⟨(some 7), .load false 1, [.t 6], none⟩ (
        .alt ⟨(some 8), .call 137 [], [.t 7], none⟩ (
          .alt ⟨(some 12), .load false 1, [.t 11], none⟩ (
            .alt ⟨(some 14), .call 138 [], [.t 12, .t 13], none⟩ (
              .take ⟨(some 15), .bin .mul 0, [.c (.v (.int .i64 (2))), .t 14], none⟩ <|
              .take ⟨(some 16), .bin .sub 0, [.t 8, .t 15], none⟩ <|
              .take ⟨(some 2), .mv, [.t 16], none⟩ <|
              .done) <|
            .stop) <|
          .stop) <|
        .alt ⟨(some 12), .load false 1, [.t 11], none⟩ (
          .alt ⟨(some 8), .call 137 [], [.t 7], none⟩ (
            .alt ⟨(some 14), .call 138 [], [.t 12, .t 13], none⟩ (
              .take ⟨(some 15), .bin .mul 0, [.c (.v (.int .i64 (2))), .t 14], none⟩ <|
              .take ⟨(some 16), .bin .sub 0, [.t 8, .t 15], none⟩ <|
              .take ⟨(some 2), .mv, [.t 16], none⟩ <|
              .done) <|
            .stop) <|
          .stop) <|
        .stop) <|
      .alt ⟨(some 12), .load false 1, [.t 11], none⟩ (
        .alt ⟨(some 7), .load false 1, [.t 6], none⟩ (
          .alt ⟨(some 8), .call 137 [], [.t 7], none⟩ (
            .alt ⟨(some 14), .call 138 [], [.t 12, .t 13], none⟩ (
              .take ⟨(some 15), .bin .mul 0, [.c (.v (.int .i64 (2))), .t 14], none⟩ <|
              .take ⟨(some 16), .bin .sub 0, [.t 8, .t 15], none⟩ <|
              .take ⟨(some 2), .mv, [.t 16], none⟩ <|
              .done) <|
            .stop) <|
          .stop) <|
        .stop) <|
      .stop) <|
    .stop)) <|
  .ret

theorem k_impl_Book_left : cFn Try.prog n_impl_Book_left 17 [.t 2] c_impl_Book_left := ⟨Try.f110, _, Try.func110, rfl, by kernel_rfl, by kernel_rfl, by kernel_rfl, by kernel_rfl⟩

-- 1 parameters, results [.t 2], 16 slots, modes [false]
@[simp] abbrev n_spec_CellsLeft : Nat := 59

def c_spec_CellsLeft : ACode :=
  .seq (.reg [⟨(some 1), .box, [.t 0], none⟩,
    ⟨(some 2), .mv, [.c (.v (.int .i64 (0)))], none⟩]) <|
  .seq (.seq (.reg [⟨(some 3), .load true 6, [.t 1], none⟩,
    ⟨(some 4), .call 48 [], [.t 3], none⟩,
    ⟨(some 5), .un .not, [.t 4], none⟩]) <|
  .cond (.t 5) (
    .seq (.reg [⟨(some 2), .mv, [.c (.v (.int .i64 (-1)))], none⟩]) <|
    .ret) (
    .skip)) <|
  .seq (.draw (
    .take ⟨(some 6), .fadr 0, [.t 1], none⟩ <|
    .take ⟨(some 9), .fadr 0, [.t 1], none⟩ <|
    .take ⟨(some 11), .fadr 4, [.t 1], none⟩ <|
    .alt ⟨(some 7), .load true 3, [.t 6], none⟩ (
      .alt ⟨(some 8), .call 108 [], [.t 7], none⟩ (
        .alt ⟨(some 10), .load true 3, [.t 9], none⟩ (
          .alt ⟨(some 12), .load false 1, [.t 11], none⟩ (
            .alt ⟨(some 13), .call 109 [], [.t 10, .t 12], none⟩ (
              .take ⟨(some 14), .bin .mul 0, [.c (.v (.int .i64 (2))), .t 13], none⟩ <|
              .take ⟨(some 15), .bin .sub 0, [.t 8, .t 14], none⟩ <|
              .take ⟨(some 2), .mv, [.t 15], none⟩ <|
              .done) <|
            .stop) <|
          .stop) <|
        .alt ⟨(some 12), .load false 1, [.t 11], none⟩ (
          .alt ⟨(some 10), .load true 3, [.t 9], none⟩ (
            .alt ⟨(some 13), .call 109 [], [.t 10, .t 12], none⟩ (
              .take ⟨(some 14), .bin .mul 0, [.c (.v (.int .i64 (2))), .t 13], none⟩ <|
              .take ⟨(some 15), .bin .sub 0, [.t 8, .t 14], none⟩ <|
              .take ⟨(some 2), .mv, [.t 15], none⟩ <|
              .done) <|
            .stop) <|
          .stop) <|
        .stop) <|
      .alt ⟨(some 10), .load true 3, [.t 9], none⟩ (
        .alt ⟨(some 8), .call 108 [], [.t 7], none⟩ (
          .alt ⟨(some 12), .load false 1, [.t 11], none⟩ (
            .alt ⟨(some 13), .call 109 [], [.t 10, .t 12], none⟩ (
              .take ⟨(some 14), .bin .mul 0, [.c (.v (.int .i64 (2))), .t 13], none⟩ <|
              .take ⟨(some 15), .bin .sub 0, [.t 8, .t 14], none⟩ <|
              .take ⟨(some 2), .mv, [.t 15], none⟩ <|
              .done) <|
            .stop) <|
          .stop) <|
        .alt ⟨(some 12), .load false 1, [.t 11], none⟩ (
          .alt ⟨(some 8), .call 108 [], [.t 7], none⟩ (
            .alt ⟨(some 13), .call 109 [], [.t 10, .t 12], none⟩ (
              .take ⟨(some 14), .bin .mul 0, [.c (.v (.int .i64 (2))), .t 13], none⟩ <|
              .take ⟨(some 15), .bin .sub 0, [.t 8, .t 14], none⟩ <|
              .take ⟨(some 2), .mv, [.t 15], none⟩ <|
              .done) <|
            .stop) <|
          .stop) <|
        .stop) <|
      .alt ⟨(some 12), .load false 1, [.t 11], none⟩ (
        .alt ⟨(some 8), .call 108 [], [.t 7], none⟩ (
          .alt ⟨(some 10), .load true 3, [.t 9], none⟩ (
            .alt ⟨(some 13), .call 109 [], [.t 10, .t 12], none⟩ (
              .take ⟨(some 14), .bin .mul 0, [.c (.v (.int .i64 (2))), .t 13], none⟩ <|
              .take ⟨(some 15), .bin .sub 0, [.t 8, .t 14], none⟩ <|
              .take ⟨(some 2), .mv, [.t 15], none⟩ <|
              .done) <|
            .stop) <|
          .stop) <|
        .alt ⟨(some 10), .load true 3, [.t 9], none⟩ (
          .alt ⟨(some 8), .call 108 [], [.t 7], none⟩ (
            .alt ⟨(some 13), .call 109 [], [.t 10, .t 12], none⟩ (
              .take ⟨(some 14), .bin .mul 0, [.c (.v (.int .i64 (2))), .t 13], none⟩ <|
              .take ⟨(some 15), .bin .sub 0, [.t 8, .t 14], none⟩ <|
              .take ⟨(some 2), .mv, [.t 15], none⟩ <|
              .done) <|
            .stop) <|
          .stop) <|
        .stop) <|
      .stop) <|
    .alt ⟨(some 10), .load true 3, [.t 9], none⟩ (
      .alt ⟨(some 7), .load true 3, [.t 6], none⟩ (
        .alt ⟨(some 8), .call 108 [], [.t 7], none⟩ (
          .alt ⟨(some 12), .load false 1, [.t 11], none⟩ (
            .alt ⟨(some 13), .call 109 [], [.t 10, .t 12], none⟩ (
              .take ⟨(some 14), .bin .mul 0, [.c (.v (.int .i64 (2))), .t 13], none⟩ <|
              .take ⟨(some 15), .bin .sub 0, [.t 8, .t 14], none⟩ <|
              .take ⟨(some 2), .mv, [.t 15], none⟩ <|
              .done) <|
            .stop) <|
          .stop) <|
        .alt ⟨(some 12), .load false 1, [.t 11], none⟩ (
          .alt ⟨(some 8), .call 108 [], [.t 7], none⟩ (
            .alt ⟨(some 13), .call 109 [], [.t 10, .t 12], none⟩ (
              .take ⟨(some 14), .bin .mul 0, [.c (.v (.int .i64 (2))), .t 13], none⟩ <|
              .take ⟨(some 15), .bin .sub 0, [.t 8, .t 14], none⟩ <|
              .take ⟨(some 2), .mv, [.t 15], none⟩ <|
              .done) <|
            .stop) <|
          .stop) <|
        .stop) <|
      .alt ⟨(some 12), .load false 1, [.t 11], none⟩ (
        .alt ⟨(some 7), .load true 3, [.t 6], none⟩ (
          .alt ⟨(some 8), .call 108 [], [.t 7], none⟩ (
            .alt ⟨(some 13), .call 109 [], [.t 10, .t 12], none⟩ (
              .take ⟨(some 14), .bin .mul 0, [.c (.v (.int .i64 (2))), .t 13], none⟩ <|
              .take ⟨(some 15), .bin .sub 0, [.t 8, .t 14], none⟩ <|
              .take ⟨(some 2), .mv, [.t 15], none⟩ <|
              .done) <|
            .stop) <|
          .stop) <|
        .stop) <|
      .stop) <|
    .alt ⟨(some 12), .load false 1, [.t 11], none⟩ (
      .alt ⟨(some 7), .load true 3, [.t 6], none⟩ (
        .alt ⟨(some 8), .call 108 [], [.t 7], none⟩ (
          .alt ⟨(some 10), .load true 3, [.t 9], none⟩ (
            .alt ⟨(some 13), .call 109 [], [.t 10, .t 12], none⟩ (
              .take ⟨(some 14), .bin .mul 0, [.c (.v (.int .i64 (2))), .t 13], none⟩ <|
              .take ⟨(some 15), .bin .sub 0, [.t 8, .t 14], none⟩ <|
              .take ⟨(some 2), .mv, [.t 15], none⟩ <|
              .done) <|
            .stop) <|
          .stop) <|
        .alt ⟨(some 10), .load true 3, [.t 9], none⟩ (
          .alt ⟨(some 8), .call 108 [], [.t 7], none⟩ (
            .alt ⟨(some 13), .call 109 [], [.t 10, .t 12], none⟩ (
              .take ⟨(some 14), .bin .mul 0, [.c (.v (.int .i64 (2))), .t 13], none⟩ <|
              .take ⟨(some 15), .bin .sub 0, [.t 8, .t 14], none⟩ <|
              .take ⟨(some 2), .mv, [.t 15], none⟩ <|
              .done) <|
            .stop) <|
          .stop) <|
        .stop) <|
      .alt ⟨(some 10), .load true 3, [.t 9], none⟩ (
        .alt ⟨(some 7), .load true 3, [.t 6], none⟩ (
          .alt ⟨(some 8), .call 108 [], [.t 7], none⟩ (
            .alt ⟨(some 13), .call 109 [], [.t 10, .t 12], none⟩ (
              .take ⟨(some 14), .bin .mul 0, [.c (.v (.int .i64 (2))), .t 13], none⟩ <|
              .take ⟨(some 15), .bin .sub 0, [.t 8, .t 14], none⟩ <|
              .take ⟨(some 2), .mv, [.t 15], none⟩ <|
              .done) <|
            .stop) <|
          .stop) <|
        .stop) <|
      .stop) <|
    .stop)) <|
  .ret

theorem k_spec_CellsLeft : cFn Try.prog n_spec_CellsLeft 16 [.t 2] c_spec_CellsLeft := ⟨Try.f59, _, Try.func59, rfl, by kernel_rfl, by kernel_rfl, by kernel_rfl, by kernel_rfl⟩

-- 1 parameters, results [.t 2], 7 slots, modes [false]
@[simp] abbrev n_impl_CellsLeft : Nat := 60

def c_impl_CellsLeft : ACode :=
  .seq (.reg [⟨(some 1), .box, [.t 0], none⟩,
    ⟨(some 2), .mv, [.c (.v (.int .i64 (0)))], none⟩]) <|
  .seq (.seq (.reg [⟨(some 3), .load true 6, [.t 1], none⟩,
    ⟨(some 4), .call 50 [], [.t 3], none⟩,
    ⟨(some 5), .un .not, [.t 4], none⟩]) <|
  .cond (.t 5) (
    .seq (.reg [⟨(some 2), .mv, [.c (.v (.int .i64 (-1)))], none⟩]) <|
    .ret) (
    .skip)) <|
  .seq (.reg [⟨(some 6), .call 110 [], [.t 1], none⟩,
    ⟨(some 2), .mv, [.t 6], none⟩]) <|
  .ret

theorem k_impl_CellsLeft : cFn Try.prog n_impl_CellsLeft 7 [.t 2] c_impl_CellsLeft := ⟨Try.f60, _, Try.func60, rfl, by kernel_rfl, by kernel_rfl, by kernel_rfl, by kernel_rfl⟩

-- 1 parameters, results [.t 2], 27 slots, modes [false]
@[simp] abbrev n_laws_FnExactCellsLeft : Nat := 16
def c_laws_FnExactCellsLeft_T0 : ACode :=
  .seq (.reg [⟨(some 2), .mv, [.c (.v (.bool true))], none⟩]) <|
  .ret

def c_laws_FnExactCellsLeft : ACode :=
  .seq (.reg [⟨(some 1), .box, [.t 0], none⟩,
    ⟨(some 2), .mv, [.c (.v (.bool false))], none⟩]) <|
  .seq (.reg [⟨(some 3), .mv, [.c (.v (.int .i64 (1048576)))], none⟩]) <|
  .seq (.reg [⟨(some 7), .load true 6, [.t 1], none⟩,
    ⟨(some 8), .mv, [.t 3], none⟩,
    ⟨(some 9), .call 47 [], [.t 7, .t 8], none⟩,
    ⟨(some 3), .mv, [.t 9], none⟩]) <|
  .seq (.seq (.reg [⟨(some 10), .mv, [.t 3], none⟩,
    ⟨(some 11), .bin .lss 0, [.t 10, .c (.v (.int .i64 (0)))], none⟩]) <|
  .cond (.t 11) (
    .seq (.reg [⟨(some 2), .mv, [.c (.v (.bool true))], none⟩]) <|
    .ret) (
    .skip)) <|
  .seq (.reg [⟨(some 12), .load true 6, [.t 1], none⟩,
    ⟨(some 13), .call 49 [], [.t 12], none⟩,
    ⟨(some 14), .call 59 [], [.t 13], none⟩,
    ⟨(some 4), .mv, [.t 14], none⟩]) <|
  .seq (.reg [⟨(some 15), .load true 6, [.t 1], none⟩,
    ⟨(some 16), .call 49 [], [.t 15], none⟩,
    ⟨(some 5), .alloc [.v (.int .i64 (0)), .v (.int .i64 (0)), .os 1 [], .os 1 [], .os 1 [], .os 1 []], [], none⟩,
    ⟨none, .store 6, [.t 5, .t 16], none⟩]) <|
  .seq (.reg [⟨(some 17), .load true 6, [.t 5], none⟩,
    ⟨(some 18), .call 60 [], [.t 17], none⟩,
    ⟨(some 6), .mv, [.t 18], none⟩]) <|
  .seq (.seq (.reg [⟨(some 19), .mv, [.t 6], none⟩,
    ⟨(some 20), .mv, [.t 4], none⟩,
    ⟨(some 21), .bin .neq 0, [.t 19, .t 20], none⟩]) <|
  .cond (.t 21) (
    .seq (.reg [⟨(some 2), .mv, [.c (.v (.bool false))], none⟩]) <|
    .ret) (
    .skip)) <|
  .seq (.seq (.draw (
    .alt ⟨(some 22), .load true 6, [.t 5], none⟩ (
      .alt ⟨(some 23), .load true 6, [.t 1], none⟩ (
        .alt ⟨(some 24), .call 49 [], [.t 23], none⟩ (
          .alt ⟨(some 25), .call 32 [], [.t 22, .t 24], none⟩ (
            .take ⟨(some 26), .un .not, [.t 25], none⟩ <|
            .done) <|
          .stop) <|
        .stop) <|
      .stop) <|
    .alt ⟨(some 23), .load true 6, [.t 1], none⟩ (
      .alt ⟨(some 22), .load true 6, [.t 5], none⟩ (
        .alt ⟨(some 24), .call 49 [], [.t 23], none⟩ (
          .alt ⟨(some 25), .call 32 [], [.t 22, .t 24], none⟩ (
            .take ⟨(some 26), .un .not, [.t 25], none⟩ <|
            .done) <|
          .stop) <|
        .stop) <|
      .alt ⟨(some 24), .call 49 [], [.t 23], none⟩ (
        .alt ⟨(some 22), .load true 6, [.t 5], none⟩ (
          .alt ⟨(some 25), .call 32 [], [.t 22, .t 24], none⟩ (
            .take ⟨(some 26), .un .not, [.t 25], none⟩ <|
            .done) <|
          .stop) <|
        .stop) <|
      .stop) <|
    .stop)) <|
  .cond (.t 26) (
    .seq (.reg [⟨(some 2), .mv, [.c (.v (.bool false))], none⟩]) <|
    .ret) (
    .skip)) <|
  .gc [] [] c_laws_FnExactCellsLeft_T0

theorem k_laws_FnExactCellsLeft : cFn Try.prog n_laws_FnExactCellsLeft 27 [.t 2] c_laws_FnExactCellsLeft := ⟨Try.f16, _, Try.func16, rfl, by kernel_rfl, by kernel_rfl, by kernel_rfl, by kernel_rfl⟩

end Go.Proofs.Dev

namespace Go.Proofs.Dev
set_option linter.unusedSimpArgs false
set_option maxRecDepth 100000

/-- How many dominoes begin in a list. -/
def isDom (x : Int) : Bool := decide (x = 1) || decide (x = 2)
def domN (ls : List Int) : Nat := ls.countP isDom
theorem domN_succ {ls : List Int} {i : Nat} (h : i < ls.length) : domN (ls.take (i + 1)) = domN (ls.take i) + (if isDom (ati ls i) then 1 else 0) := by
  have e : ati ls i = ls[i] := by simp [ati, h]
  rw [e, List.take_succ_eq_append_getElem h, domN, List.countP_append, List.countP_singleton]
  rfl
theorem domN_le (ls : List Int) : domN ls ≤ ls.length := List.countP_le_length

theorem s_spec_CellsMany (W T : Int) (cs : List Bool) (hb : cs.length < 2 ^ 40) :
    SoundAt Try.prog n_spec_CellsMany [.agg [.v (.int .i64 W), .v (.int .i64 T), .sl 1 1 (bools cs)]] (.v (.int .i64 (if regB W T cs then manyOf cs else -1))) [.bot] := by
  refine fn_ok (md := md0) (ms := [false]) k_spec_CellsMany (by simp) ?_
  simp [c_spec_CellsMany]
  refine call_on (s_spec_RegionValid W T cs hb) ?_
  cases hr : regB W T cs with
  | false => simp
  | true =>
  simp
  refine call_on (s_spec_l1Count cs hb) ?_
  simp

theorem s_spec_LaidMany (W T : Int) (cs : List Bool) (ls : List Int) (hb : cs.length < 2 ^ 40) (hl : ls.length < 2 ^ 40) :
    SoundAt Try.prog n_spec_LaidMany [.agg [.v (.int .i64 W), .v (.int .i64 T), .sl 1 1 (bools cs)], .sl 1 1 (ints ls)] (.v (.int .i64 (if regB W T cs && laysB W T cs ls then (domN ls : Int) else -1))) [.bot, .bot] := by
  refine fn_ok (md := md0) (ms := [false, false]) k_spec_LaidMany (by simp) ?_
  simp [c_spec_LaidMany]
  refine call_on (s_spec_LaidOk W T cs ls hb hl) ?_
  cases hr : (regB W T cs && laysB W T cs ls) with
  | false =>
    have : ¬ (regB W T cs = true ∧ laysB W T cs ls = true) := by simpa using hr
    simp [this]
  | true =>
  have : regB W T cs = true ∧ laysB W T cs ls = true := by simpa using hr
  simp [this]
  refine loop_by (fun m E H => ∃ i : Nat, m = ls.length - i ∧ i ≤ ls.length ∧ H = [] ∧ E = [(1, .sl 1 1 (ints ls)), (5, .v (.int .i64 (domN (ls.take i)))), (6, .v (.int .i64 i))]) ls.length ⟨0, by simp [domN]⟩ ?_
  rintro J hJ m E H ⟨i, rfl, hi, rfl, rfl⟩
  by_cases h : i < ls.length
  case neg =>
    have : i = ls.length := by omega
    subst this
    simp [c_spec_LaidMany_L0]
  have hs := domN_succ h
  have hle : domN (ls.take i) ≤ i := by have := domN_le (ls.take i); simp at this; omega
  have next : ∀ v : Int, v = domN (ls.take (i + 1)) → again J (ls.length - i) [(1, .sl 1 1 (ints ls)), (5, .v (.int .i64 v)), (6, .v (.int .i64 (i + 1)))] [] := by
    rintro v rfl
    exact ⟨_, by omega, hJ _ _ _ ⟨i + 1, rfl, h, rfl, rfl⟩⟩
  by_cases e1 : ati ls i = 1
  · simp [isDom, e1] at hs
    simp [c_spec_LaidMany_L0, h, e1]
    exact ⟨by omega, by omega, next _ (by omega)⟩
  by_cases e2 : ati ls i = 2
  · simp [isDom, e2] at hs
    simp [c_spec_LaidMany_L0, h, e1, e2]
    exact ⟨by omega, by omega, next _ (by omega)⟩
  · simp [isDom, e1, e2] at hs
    simp [c_spec_LaidMany_L0, h, e1, e2]
    exact ⟨by omega, next _ (by omega)⟩

theorem s_slices_Index (xs : List Int) (x : Int) (hl : xs.length < 2 ^ 40) :
    SoundAt Try.prog n_slices_Index_int_int [.sl 1 1 (ints xs), .v (.int .i64 x)] (.v (.int .i64 (firstI (fun k => decide (x = ati xs k)) xs.length))) [.bot, .bot] := by
  refine fn_ok (md := md0) (ms := [false, false]) k_slices_Index_int_int (by simp) ?_
  simp [c_slices_Index_int_int]
  refine loop_by (fun m E H => ∃ i : Nat, m = xs.length - i ∧ i ≤ xs.length ∧ (∀ k : Nat, k < i → decide (x = ati xs k) = false) ∧ H = [] ∧ E = [(0, .sl 1 1 (ints xs)), (1, .v (.int .i64 x)), (7, .v (.int .i64 xs.length)), (8, .v (.int .i64 i))]) xs.length ⟨0, by simp⟩ ?_
  rintro J hJ m E H ⟨i, rfl, hi, ha, rfl, rfl⟩
  by_cases h : i < xs.length
  case neg =>
    have : i = xs.length := by omega
    subst this
    have e : firstI (fun k => decide (x = ati xs k)) xs.length = -1 := firstI_none ha
    simp [c_slices_Index_int_int_L0, e]
  by_cases hx : x = ati xs i
  · have e : firstI (fun k => decide (x = ati xs k)) xs.length = i := firstI_hit h (decide_eq_true hx) ha
    simp [c_slices_Index_int_int_L0, h, e]
    exact fun n => absurd hx n
  · simp [c_slices_Index_int_int_L0, h, hx]
    refine ⟨by omega, _, by omega, hJ _ _ _ ⟨i + 1, rfl, h, ?_, rfl, rfl⟩⟩
    intro k hk
    rcases Nat.lt_or_ge k i with h1 | h1
    · exact ha k h1
    · have : k = i := by omega
      subst this; exact decide_eq_false hx

theorem s_slices_Contains12 (x : Int) :
    SoundAt Try.prog n_slices_Contains_int_int [.sl 1 1 (ints [1, 2]), .v (.int .i64 x)] (.v (.bool (isDom x))) [.bot, .bot] := by
  refine fn_ok (md := md0) (ms := [false, false]) k_slices_Contains_int_int (by simp) ?_
  simp [c_slices_Contains_int_int]
  refine call_on (s_slices_Index [1, 2] x (by simp)) ?_
  have e : decide (0 ≤ firstI (fun k : Nat => decide (x = ati [1, 2] k)) 2) = isDom x := by
    by_cases h1 : x = 1
    · rw [firstI_hit (k := 0) (by omega) (by simp [h1, ati]) (by omega)]; simp [isDom, h1]
    · by_cases h2 : x = 2
      · have h0 : ∀ j : Nat, j < 1 → decide (x = ati [1, 2] j) = false := by
          intro j hj
          have : j = 0 := by omega
          subst this
          simp [ati, h1]
        rw [firstI_hit (k := 1) (by omega) (by simp [h2, ati]) h0]
        simp [isDom, h2]
      · have h0 : ∀ j : Nat, j < 2 → decide (x = ati [1, 2] j) = false := by
          intro j hj
          have : j = 0 ∨ j = 1 := by omega
          rcases this with rfl | rfl <;> simp [ati, h1, h2]
        rw [firstI_none h0]
        simp [isDom, h1, h2]
  simp [e]

theorem s_impl_ways12 (ls : List Int) (hl : ls.length < 2 ^ 40) :
    SoundAt Try.prog n_impl_ways [.sl 1 1 (ints ls), .sl 1 1 (ints [1, 2])] (.v (.int .i64 (domN ls))) [.bot, .bot] := by
  refine fn_ok (md := md0) (ms := [false, false]) k_impl_ways (by simp) ?_
  simp [c_impl_ways]
  refine loop_by (fun m E H => ∃ i : Nat, m = ls.length - i ∧ i ≤ ls.length ∧ H = [] ∧ E = [(1, .sl 1 1 (ints [1, 2])), (5, .v (.int .i64 (domN (ls.take i)))), (8, .sl 1 1 (ints ls)), (9, .v (.int .i64 ls.length)), (10, .v (.int .i64 i))]) ls.length ⟨0, by simp [domN]⟩ ?_
  rintro J hJ m E H ⟨i, rfl, hi, rfl, rfl⟩
  by_cases h : i < ls.length
  case neg =>
    have : i = ls.length := by omega
    subst this
    simp [c_impl_ways_L0]
  have hs := domN_succ h
  have hle : domN (ls.take i) ≤ i := by have := domN_le (ls.take i); simp at this; omega
  have next : ∀ v : Int, v = domN (ls.take (i + 1)) → again J (ls.length - i) [(1, .sl 1 1 (ints [1, 2])), (5, .v (.int .i64 v)), (8, .sl 1 1 (ints ls)), (9, .v (.int .i64 ls.length)), (10, .v (.int .i64 (i + 1)))] [] := by
    rintro v rfl
    exact ⟨_, by omega, hJ _ _ _ ⟨i + 1, rfl, h, rfl, rfl⟩⟩
  simp [c_impl_ways_L0, h]
  refine call_on (s_slices_Contains12 (ati ls i)) ?_
  cases hd : isDom (ati ls i) with
  | true =>
    simp [hd] at hs
    simp
    exact ⟨by omega, by omega, next _ (by omega)⟩
  | false =>
    simp [hd] at hs
    simp
    exact ⟨by omega, next _ (by omega)⟩

theorem s_impl_Book_left (W T : Int) (cs : List Bool) (ds ls : List Int) (ps : List (List Int)) (hc : cs.length < 2 ^ 40) (hl : ls.length < 2 ^ 40) :
    SoundAt Try.prog n_impl_Book_left [bkP W T cs ds ls ps] (.v (.int .i64 (manyOf cs - 2 * domN ls))) [.bot] := by
  refine fn_ok (md := md0) (ms := [false]) k_impl_Book_left (by simp) ?_
  have h1 := manyOf_le cs
  have h2 := domN_le ls
  have one := s_impl_many cs hc
  have two := s_impl_ways12 ls hl
  have ei : ints [1, 2] = [.v (.int .i64 1), .v (.int .i64 2)] := rfl
  rw [ei] at two
  simp [c_impl_Book_left, anil]
  (repeat' first | assumption | omega | apply And.intro)
  all_goals first
    | (refine call_on one ?_; simp; (repeat' first | assumption | omega | apply And.intro) <;> (refine call_on two ?_; simp; (repeat' first | assumption | omega | apply And.intro)))
    | (refine call_on two ?_; simp; (repeat' first | assumption | omega | apply And.intro) <;> (refine call_on one ?_; simp; (repeat' first | assumption | omega | apply And.intro)))

def leftI (W T : Int) (cs : List Bool) (ds ls : List Int) (ps : List (List Int)) : Int := if bookB W T cs ds ls ps then manyOf cs - 2 * domN ls else -1

theorem s_impl_CellsLeft (W T : Int) (cs : List Bool) (ds ls : List Int) (ps : List (List Int)) (hc : cs.length < 2 ^ 40) (hd : ds.length < 2 ^ 40) (hl : ls.length < 2 ^ 40) (hb : ps.length < 2 ^ 40) (hp : ∀ p ∈ ps, p.length < 2 ^ 40) :
    SoundAt Try.prog n_impl_CellsLeft [bkA W T cs ds ls ps] (.v (.int .i64 (leftI W T cs ds ls ps))) [.bot] := by
  refine fn_ok (md := md0) (ms := [false]) k_impl_CellsLeft (by simp) ?_
  simp [c_impl_CellsLeft]
  refine call_on (s_impl_BookValid W T cs ds ls ps hc hd hl hb hp) ?_
  cases hv : bookB W T cs ds ls ps with
  | false => simp [leftI, hv]
  | true =>
  simp
  refine call_on (s_impl_Book_left W T cs ds ls ps hc hl) ?_
  simp [leftI, hv]

theorem s_spec_CellsLeft (W T : Int) (cs : List Bool) (ds ls : List Int) (ps : List (List Int)) (hc : cs.length < 2 ^ 40) (hd : ds.length < 2 ^ 40) (hl : ls.length < 2 ^ 40) (hb : ps.length < 2 ^ 40) (hp : ∀ p ∈ ps, p.length < 2 ^ 40) :
    SoundAt Try.prog n_spec_CellsLeft [bkA W T cs ds ls ps] (.v (.int .i64 (leftI W T cs ds ls ps))) [.bot] := by
  refine fn_ok (md := md0) (ms := [false]) k_spec_CellsLeft (by simp) ?_
  simp [c_spec_CellsLeft]
  refine call_on (s_spec_BookValid W T cs ds ls ps hc hd hl hb hp) ?_
  cases hv : bookB W T cs ds ls ps with
  | false => simp [leftI, hv]
  | true =>
  have h1 := manyOf_le cs
  have h2 := domN_le ls
  have hok := fairB_ok (bookB_fair hv)
  have hr := (okB_W hok).1
  have hly : laysB W T cs ls = true := by
    simp only [okB, Bool.and_eq_true] at hok; exact hok.2.2
  have one := s_spec_CellsMany W T cs hc
  have two := s_spec_LaidMany W T cs ls hc hl
  rw [hr] at one
  rw [hr, hly] at two
  simp at one two
  have el : leftI W T cs ds ls ps = manyOf cs - 2 * domN ls := by simp [leftI, hv]
  rw [el]
  simp
  (repeat' first | assumption | omega | apply And.intro)
  all_goals first
    | (refine call_on one ?_; simp; (repeat' first | assumption | omega | apply And.intro) <;> (refine call_on two ?_; simp; (repeat' first | assumption | omega | apply And.intro)))
    | (refine call_on two ?_; simp; (repeat' first | assumption | omega | apply And.intro) <;> (refine call_on one ?_; simp; (repeat' first | assumption | omega | apply And.intro)))

end Go.Proofs.Dev

namespace Go.Proofs.Dev
set_option linter.unusedSimpArgs false
set_option maxRecDepth 100000

theorem s_FnExactCellsLeft (W T : Int) (cs : List Bool) (ds ls : List Int) (ps : List (List Int)) (hc : cs.length ≤ 9223372036854775807) (hd : ds.length ≤ 9223372036854775807) (hl : ls.length ≤ 9223372036854775807) (hb : ps.length ≤ 9223372036854775807) (hp : ∀ p ∈ ps, p.length ≤ 9223372036854775807) :
    SoundAt Try.prog n_laws_FnExactCellsLeft [bkA W T cs ds ls ps] (.v (.bool true)) [.bot] := by
  refine fn_ok (md := md0) (ms := [false]) k_laws_FnExactCellsLeft (by simp) ?_
  simp [c_laws_FnExactCellsLeft]
  refine call_on (s_laws_szBook W T cs ds ls ps 1048576 (by omega) (by omega) hc hd hl hb hp) ?_
  by_cases h3 : (1048576 : Int) < totB cs ds ls ps
  · simp [lessI, h3]
  have hn : ¬ lessI 1048576 (totB cs ds ls ps) < 0 := by unfold lessI; split <;> omega
  obtain ⟨c1, c2, c3, c4, c5⟩ := tot_le (cs := cs) (ds := ds) (ls := ls) (ps := ps) (n := 1048576) (by omega)
  have c5' : ∀ p ∈ ps, p.length < 2 ^ 40 := fun p hp => by have := c5 p hp; omega
  have tob := s_laws_toBook W T cs ds ls ps (by omega) (by omega) (by omega) (by omega) c5'
  simp [hn]
  refine call_on tob ?_
  simp
  refine call_on (s_spec_CellsLeft W T cs ds ls ps (by omega) (by omega) (by omega) (by omega) c5') ?_
  simp
  refine call_on tob ?_
  simp
  refine call_on (s_impl_CellsLeft W T cs ds ls ps (by omega) (by omega) (by omega) (by omega) c5') ?_
  simp
  (repeat' first | assumption | apply And.intro) <;>
  · refine call_on tob ?_
    simp
    refine call_on (s_laws_eqBook W T cs ds ls ps (by omega) (by omega) (by omega) (by omega) c5') ?_
    simp [c_laws_FnExactCellsLeft_T0]

end Go.Proofs.Dev
