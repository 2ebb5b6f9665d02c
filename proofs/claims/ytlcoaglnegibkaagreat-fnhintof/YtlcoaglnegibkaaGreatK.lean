/- Contracts of the functions of the program over slots and rows, each proved against the program itself; no condition beyond those that each theorem names. -/
import Derived.Test.YtlcoaglnegibkaaGreatF
import Derived.Test.YtlcoaglnegibkaaGreatProg

set_option linter.unusedSimpArgs false
set_option linter.unusedVariables false

namespace Go.Proofs.Dev

-- 1 parameters, results [.t 2], 8 slots, modes [false]
@[simp] abbrev n_slices_Clone_int_int : Nat := 67

def c_slices_Clone_int_int : ACode :=
  .seq (.reg [⟨(some 2), .mv, [.c (.os 1 [])], none⟩]) <|
  .seq (.seq (.reg [⟨(some 3), .mv, [.t 0], none⟩,
    ⟨(some 4), .nilq false, [.t 3], none⟩]) <|
  .cond (.t 4) (
    .seq (.reg [⟨(some 2), .mv, [.c (.os 1 [])], none⟩]) <|
    .ret) (
    .skip)) <|
  .seq (.reg [⟨(some 5), .bsl 1, [], none⟩,
    ⟨(some 6), .mv, [.t 0], none⟩,
    ⟨(some 7), .app 1 8 true, [.t 5, .t 6], none⟩,
    ⟨(some 2), .mv, [.t 7], none⟩]) <|
  .ret

theorem k_slices_Clone_int_int : cFn Tryz.prog n_slices_Clone_int_int 8 [.t 2] c_slices_Clone_int_int := ⟨Tryz.f67, _, Tryz.func67, rfl, by kernel_rfl, by kernel_rfl, by kernel_rfl, by kernel_rfl⟩

-- 1 parameters, results [.t 2], 6 slots, modes [false]
@[simp] abbrev n_impl_clone_int : Nat := 49

def c_impl_clone_int : ACode :=
  .seq (.reg [⟨(some 2), .mv, [.c (.os 1 [])], none⟩]) <|
  .seq (.reg [⟨(some 3), .mv, [.t 0], none⟩,
    ⟨(some 4), .call 67 [], [.t 3], none⟩,
    ⟨(some 5), .call 81 [], [.t 4], none⟩,
    ⟨(some 2), .mv, [.t 5], none⟩]) <|
  .ret

theorem k_impl_clone_int : cFn Tryz.prog n_impl_clone_int 6 [.t 2] c_impl_clone_int := ⟨Tryz.f49, _, Tryz.func49, rfl, by kernel_rfl, by kernel_rfl, by kernel_rfl, by kernel_rfl⟩

-- 2 parameters, results [.t 4], 18 slots, modes [false, false]
@[simp] abbrev n_spec_l1Has : Nat := 78
def c_spec_l1Has_L0 : ACode :=
  .seq (.seq (.reg [⟨(some 6), .mv, [.t 5], none⟩,
    ⟨(some 7), .mv, [.t 0], none⟩,
    ⟨(some 8), .len false, [.t 7], none⟩,
    ⟨(some 9), .bin .lss 0, [.t 6, .t 8], none⟩]) <|
  .cond (.t 9) (
    .skip) (
    .exit 0)) <|
  .seq (.block 1 (
    .seq (.reg [⟨(some 12), .mv, [.t 0], none⟩,
      ⟨(some 13), .mv, [.t 5], none⟩,
      ⟨(some 14), .iadr 1, [.t 12, .t 13], none⟩,
      ⟨(some 15), .load false 1, [.t 14], none⟩,
      ⟨(some 16), .mv, [.t 1], none⟩,
      ⟨(some 17), .bin .eql 0, [.t 15, .t 16], none⟩]) <|
    .cond (.t 17) (
      .seq (.reg [⟨(some 4), .mv, [.c (.v (.bool true))], none⟩]) <|
      .ret) (
      .skip))) <|
  .reg [⟨(some 10), .mv, [.t 5], none⟩,
    ⟨(some 11), .bin .add 0, [.t 10, .c (.v (.int .i64 (1)))], none⟩,
    ⟨(some 5), .mv, [.t 11], none⟩]

def c_spec_l1Has : ACode :=
  .seq (.reg [⟨(some 4), .mv, [.c (.v (.bool false))], none⟩]) <|
  .seq (.seq (.reg [⟨(some 5), .mv, [.c (.v (.int .i64 (0)))], none⟩]) <|
  .block 0 (
    .loop [(0, 1)] [0, 1, 5] c_spec_l1Has_L0)) <|
  .seq (.reg [⟨(some 4), .mv, [.c (.v (.bool false))], none⟩]) <|
  .ret

theorem k_spec_l1Has : cFn Tryz.prog n_spec_l1Has 18 [.t 4] c_spec_l1Has := ⟨Tryz.f78, _, Tryz.func78, rfl, by kernel_rfl, by kernel_rfl, by kernel_rfl, by kernel_rfl⟩

-- 1 parameters, results [.t 2], 18 slots, modes [false]
@[simp] abbrev n_spec_l9Once : Nat := 41
def c_spec_l9Once_L0 : ACode :=
  .seq (.seq (.reg [⟨(some 4), .mv, [.t 3], none⟩,
    ⟨(some 5), .mv, [.t 0], none⟩,
    ⟨(some 6), .len false, [.t 5], none⟩,
    ⟨(some 7), .bin .lss 0, [.t 4, .t 6], none⟩]) <|
  .cond (.t 7) (
    .skip) (
    .exit 0)) <|
  .seq (.block 1 (
    .seq (.draw (
      .take ⟨(some 10), .mv, [.t 0], none⟩ <|
      .take ⟨(some 11), .mv, [.t 3], none⟩ <|
      .take ⟨(some 12), .slice 1 false false true false, [.t 10, .t 11], none⟩ <|
      .take ⟨(some 13), .mv, [.t 0], none⟩ <|
      .take ⟨(some 14), .mv, [.t 3], none⟩ <|
      .take ⟨(some 15), .iadr 1, [.t 13, .t 14], none⟩ <|
      .alt ⟨(some 16), .load false 1, [.t 15], none⟩ (
        .alt ⟨(some 17), .call 78 [], [.t 12, .t 16], none⟩ (
          .done) <|
        .stop) <|
      .stop)) <|
    .cond (.t 17) (
      .seq (.reg [⟨(some 2), .mv, [.c (.v (.bool false))], none⟩]) <|
      .ret) (
      .skip))) <|
  .reg [⟨(some 8), .mv, [.t 3], none⟩,
    ⟨(some 9), .bin .add 0, [.t 8, .c (.v (.int .i64 (1)))], none⟩,
    ⟨(some 3), .mv, [.t 9], none⟩]

def c_spec_l9Once : ACode :=
  .seq (.reg [⟨(some 2), .mv, [.c (.v (.bool false))], none⟩]) <|
  .seq (.seq (.reg [⟨(some 3), .mv, [.c (.v (.int .i64 (0)))], none⟩]) <|
  .block 0 (
    .loop [(0, 1)] [0, 3] c_spec_l9Once_L0)) <|
  .seq (.reg [⟨(some 2), .mv, [.c (.v (.bool true))], none⟩]) <|
  .ret

theorem k_spec_l9Once : cFn Tryz.prog n_spec_l9Once 18 [.t 2] c_spec_l9Once := ⟨Tryz.f41, _, Tryz.func41, rfl, by kernel_rfl, by kernel_rfl, by kernel_rfl, by kernel_rfl⟩

-- 3 parameters, results [.t 6], 21 slots, modes [false, false, false]
@[simp] abbrev n_impl_Region_fair : Nat := 32

def c_impl_Region_fair : ACode :=
  .seq (.reg [⟨(some 3), .box, [.t 0], none⟩,
    ⟨(some 6), .mv, [.c (.v (.bool false))], none⟩]) <|
  .seq (.reg [⟨(some 8), .load true 3, [.t 3], none⟩,
    ⟨(some 9), .mv, [.t 1], none⟩,
    ⟨(some 10), .mv, [.t 2], none⟩,
    ⟨(some 11), .call 64 [], [.t 8, .t 9, .t 10], none⟩,
    ⟨(some 7), .mv, [.t 11], none⟩]) <|
  .seq (.reg [⟨(some 12), .mv, [.t 7], none⟩,
    ⟨(some 13), .call 65 [], [.t 12], none⟩]) <|
  .seq (.reg [⟨(some 14), .mv, [.t 7], none⟩,
    ⟨(some 15), .call 67 [], [.t 14], none⟩,
    ⟨(some 16), .call 66 [], [.t 15], none⟩,
    ⟨(some 17), .len false, [.t 16], none⟩,
    ⟨(some 18), .mv, [.t 7], none⟩,
    ⟨(some 19), .len false, [.t 18], none⟩,
    ⟨(some 20), .bin .eql 0, [.t 17, .t 19], none⟩,
    ⟨(some 6), .mv, [.t 20], none⟩]) <|
  .ret

theorem k_impl_Region_fair : cFn Tryz.prog n_impl_Region_fair 21 [.t 6] c_impl_Region_fair := ⟨Tryz.f32, _, Tryz.func32, rfl, by kernel_rfl, by kernel_rfl, by kernel_rfl, by kernel_rfl⟩

-- 3 parameters, results [.t 6], 22 slots, modes [false, false, false]
@[simp] abbrev n_spec_FairOk : Nat := 18

def c_spec_FairOk : ACode :=
  .seq (.reg [⟨(some 3), .box, [.t 0], none⟩,
    ⟨(some 6), .mv, [.c (.v (.bool false))], none⟩]) <|
  .seq (.reg [⟨(some 7), .load true 3, [.t 3], none⟩,
    ⟨(some 8), .mv, [.t 1], none⟩,
    ⟨(some 9), .call 39 [], [.t 7, .t 8], none⟩,
    ⟨(some 10), .mv, [.t 9], none⟩,
    ⟨(some 11), .load true 3, [.t 3], (some (10, true))⟩,
    ⟨(some 12), .mv, [.t 2], (some (10, true))⟩,
    ⟨(some 13), .call 40 [], [.t 11, .t 12], (some (10, true))⟩,
    ⟨(some 14), .pick, [.t 10, .t 13, .c (.v (.bool false))], none⟩,
    ⟨(some 15), .mv, [.t 14], none⟩,
    ⟨(some 16), .load true 3, [.t 3], (some (15, true))⟩,
    ⟨(some 17), .mv, [.t 1], (some (15, true))⟩,
    ⟨(some 18), .mv, [.t 2], (some (15, true))⟩,
    ⟨(some 19), .call 42 [], [.t 16, .t 17, .t 18], (some (15, true))⟩,
    ⟨(some 20), .call 41 [], [.t 19], (some (15, true))⟩,
    ⟨(some 21), .pick, [.t 15, .t 20, .c (.v (.bool false))], none⟩,
    ⟨(some 6), .mv, [.t 21], none⟩]) <|
  .ret

theorem k_spec_FairOk : cFn Tryz.prog n_spec_FairOk 22 [.t 6] c_spec_FairOk := ⟨Tryz.f18, _, Tryz.func18, rfl, by kernel_rfl, by kernel_rfl, by kernel_rfl, by kernel_rfl⟩

-- 3 parameters, results [.t 6], 21 slots, modes [false, false, false]
@[simp] abbrev n_impl_FairOk : Nat := 10

def c_impl_FairOk : ACode :=
  .seq (.reg [⟨(some 3), .box, [.t 0], none⟩,
    ⟨(some 6), .mv, [.c (.v (.bool false))], none⟩]) <|
  .seq (.reg [⟨(some 7), .load true 3, [.t 3], none⟩,
    ⟨(some 8), .mv, [.t 1], none⟩,
    ⟨(some 9), .call 30 [], [.t 7, .t 8], none⟩,
    ⟨(some 10), .mv, [.t 9], none⟩,
    ⟨(some 11), .load true 3, [.t 3], (some (10, true))⟩,
    ⟨(some 12), .mv, [.t 2], (some (10, true))⟩,
    ⟨(some 13), .call 31 [], [.t 11, .t 12], (some (10, true))⟩,
    ⟨(some 14), .pick, [.t 10, .t 13, .c (.v (.bool false))], none⟩,
    ⟨(some 15), .mv, [.t 14], none⟩,
    ⟨(some 16), .load true 3, [.t 3], (some (15, true))⟩,
    ⟨(some 17), .mv, [.t 1], (some (15, true))⟩,
    ⟨(some 18), .mv, [.t 2], (some (15, true))⟩,
    ⟨(some 19), .call 32 [], [.t 16, .t 17, .t 18], (some (15, true))⟩,
    ⟨(some 20), .pick, [.t 15, .t 19, .c (.v (.bool false))], none⟩,
    ⟨(some 6), .mv, [.t 20], none⟩]) <|
  .ret

theorem k_impl_FairOk : cFn Tryz.prog n_impl_FairOk 21 [.t 6] c_impl_FairOk := ⟨Tryz.f10, _, Tryz.func10, rfl, by kernel_rfl, by kernel_rfl, by kernel_rfl, by kernel_rfl⟩

-- 1 parameters, results [], 11 slots, modes [true]
@[simp] abbrev n_slices_Sort_int_int : Nat := 65

def c_slices_Sort_int_int : ACode :=
  .seq (.reg [⟨(some 3), .mv, [.t 0], none⟩,
    ⟨(some 4), .len false, [.t 3], none⟩,
    ⟨(some 2), .mv, [.t 4], none⟩]) <|
  .reg [⟨(some 5), .mv, [.t 0], none⟩,
    ⟨(some 6), .mv, [.t 2], none⟩,
    ⟨(some 7), .mv, [.t 2], none⟩,
    ⟨(some 8), .conv .u64, [.t 7], none⟩,
    ⟨(some 9), .call 91 [], [.t 8], none⟩,
    ⟨(some 10), .call 90 [], [.t 5, .c (.v (.int .i64 (0))), .t 6, .t 9], none⟩]

theorem k_slices_Sort_int_int : cFn Tryz.prog n_slices_Sort_int_int 11 [] c_slices_Sort_int_int := ⟨Tryz.f65, _, Tryz.func65, rfl, by kernel_rfl, by kernel_rfl, by kernel_rfl, by kernel_rfl⟩

-- 1 parameters, results [.t 2], 8 slots, modes [false]
@[simp] abbrev n_mathbits_Len : Nat := 91

def c_mathbits_Len : ACode :=
  .seq (.reg [⟨(some 2), .mv, [.c (.v (.int .i64 (0)))], none⟩]) <|
  .seq (.cond (.c (.v (.bool false))) (
    .seq (.reg [⟨(some 3), .mv, [.t 0], none⟩,
      ⟨(some 4), .conv .u32, [.t 3], none⟩,
      ⟨(some 5), .call 110 [], [.t 4], none⟩,
      ⟨(some 2), .mv, [.t 5], none⟩]) <|
    .ret) (
    .skip)) <|
  .seq (.reg [⟨(some 6), .mv, [.t 0], none⟩,
    ⟨(some 7), .call 111 [], [.t 6], none⟩,
    ⟨(some 2), .mv, [.t 7], none⟩]) <|
  .ret

theorem k_mathbits_Len : cFn Tryz.prog n_mathbits_Len 8 [.t 2] c_mathbits_Len := ⟨Tryz.f91, _, Tryz.func91, rfl, by kernel_rfl, by kernel_rfl, by kernel_rfl, by kernel_rfl⟩

-- 1 parameters, results [.t 2], 25 slots, modes [false]
@[simp] abbrev n_mathbits_Len64 : Nat := 111

def c_mathbits_Len64 : ACode :=
  .seq (.reg [⟨(some 2), .mv, [.c (.v (.int .i64 (0)))], none⟩]) <|
  .seq (.seq (.reg [⟨(some 3), .mv, [.t 0], none⟩,
    ⟨(some 4), .bin .geq 0, [.t 3, .c (.v (.int .u64 (4294967296)))], none⟩]) <|
  .cond (.t 4) (
    .seq (.reg [⟨(some 5), .mv, [.t 0], none⟩,
      ⟨(some 6), .bin .shr 0, [.t 5, .c (.v (.int .u64 (32)))], none⟩,
      ⟨(some 0), .mv, [.t 6], none⟩]) <|
    .reg [⟨(some 2), .mv, [.c (.v (.int .i64 (32)))], none⟩]) (
    .skip)) <|
  .seq (.seq (.reg [⟨(some 7), .mv, [.t 0], none⟩,
    ⟨(some 8), .bin .geq 0, [.t 7, .c (.v (.int .u64 (65536)))], none⟩]) <|
  .cond (.t 8) (
    .seq (.reg [⟨(some 9), .mv, [.t 0], none⟩,
      ⟨(some 10), .bin .shr 0, [.t 9, .c (.v (.int .u64 (16)))], none⟩,
      ⟨(some 0), .mv, [.t 10], none⟩]) <|
    .reg [⟨(some 11), .mv, [.t 2], none⟩,
      ⟨(some 12), .bin .add 0, [.t 11, .c (.v (.int .i64 (16)))], none⟩,
      ⟨(some 2), .mv, [.t 12], none⟩]) (
    .skip)) <|
  .seq (.seq (.reg [⟨(some 13), .mv, [.t 0], none⟩,
    ⟨(some 14), .bin .geq 0, [.t 13, .c (.v (.int .u64 (256)))], none⟩]) <|
  .cond (.t 14) (
    .seq (.reg [⟨(some 15), .mv, [.t 0], none⟩,
      ⟨(some 16), .bin .shr 0, [.t 15, .c (.v (.int .u64 (8)))], none⟩,
      ⟨(some 0), .mv, [.t 16], none⟩]) <|
    .reg [⟨(some 17), .mv, [.t 2], none⟩,
      ⟨(some 18), .bin .add 0, [.t 17, .c (.v (.int .i64 (8)))], none⟩,
      ⟨(some 2), .mv, [.t 18], none⟩]) (
    .skip)) <|
  .seq (.reg [⟨(some 19), .mv, [.t 2], none⟩,
    ⟨(some 20), .mv, [.t 0], none⟩,
    ⟨(some 21), .conv .u8, [.t 20], none⟩,
    ⟨(some 22), .sidx, [.c (.v (.string ⟨#[0, 1, 2, 2, 3, 3, 3, 3, 4, 4, 4, 4, 4, 4, 4, 4, 5, 5, 5, 5, 5, 5, 5, 5, 5, 5, 5, 5, 5, 5, 5, 5, 6, 6, 6, 6, 6, 6, 6, 6, 6, 6, 6, 6, 6, 6, 6, 6, 6, 6, 6, 6, 6, 6, 6, 6, 6, 6, 6, 6, 6, 6, 6, 6, 7, 7, 7, 7, 7, 7, 7, 7, 7, 7, 7, 7, 7, 7, 7, 7, 7, 7, 7, 7, 7, 7, 7, 7, 7, 7, 7, 7, 7, 7, 7, 7, 7, 7, 7, 7, 7, 7, 7, 7, 7, 7, 7, 7, 7, 7, 7, 7, 7, 7, 7, 7, 7, 7, 7, 7, 7, 7, 7, 7, 7, 7, 7, 7, 8, 8, 8, 8, 8, 8, 8, 8, 8, 8, 8, 8, 8, 8, 8, 8, 8, 8, 8, 8, 8, 8, 8, 8, 8, 8, 8, 8, 8, 8, 8, 8, 8, 8, 8, 8, 8, 8, 8, 8, 8, 8, 8, 8, 8, 8, 8, 8, 8, 8, 8, 8, 8, 8, 8, 8, 8, 8, 8, 8, 8, 8, 8, 8, 8, 8, 8, 8, 8, 8, 8, 8, 8, 8, 8, 8, 8, 8, 8, 8, 8, 8, 8, 8, 8, 8, 8, 8, 8, 8, 8, 8, 8, 8, 8, 8, 8, 8, 8, 8, 8, 8, 8, 8, 8, 8, 8, 8, 8, 8, 8, 8, 8, 8, 8, 8, 8, 8, 8, 8, 8, 8, 8, 8, 8, 8, 8, 8]⟩)), .t 21], none⟩,
    ⟨(some 23), .conv .i64, [.t 22], none⟩,
    ⟨(some 24), .bin .add 0, [.t 19, .t 23], none⟩,
    ⟨(some 2), .mv, [.t 24], none⟩]) <|
  .ret

theorem k_mathbits_Len64 : cFn Tryz.prog n_mathbits_Len64 25 [.t 2] c_mathbits_Len64 := ⟨Tryz.f111, _, Tryz.func111, rfl, by kernel_rfl, by kernel_rfl, by kernel_rfl, by kernel_rfl⟩

-- 4 parameters, results [], 134 slots, modes [false, false, false, false]
@[simp] abbrev n_slices_pdqsortOrdered_int : Nat := 90
def c_slices_pdqsortOrdered_int_L0 : ACode :=
  .block 1 (
    .seq (.reg [⟨(some 19), .mv, [.t 2], none⟩,
      ⟨(some 20), .mv, [.t 1], none⟩,
      ⟨(some 21), .bin .sub 0, [.t 19, .t 20], none⟩,
      ⟨(some 10), .mv, [.t 21], none⟩]) <|
    .seq (.seq (.reg [⟨(some 22), .mv, [.t 10], none⟩,
      ⟨(some 23), .bin .leq 0, [.t 22, .c (.v (.int .i64 (12)))], none⟩]) <|
    .cond (.t 23) (
      .seq (.reg [⟨(some 24), .mv, [.t 0], none⟩,
        ⟨(some 25), .mv, [.t 1], none⟩,
        ⟨(some 26), .mv, [.t 2], none⟩,
        ⟨(some 27), .call 101 [], [.t 24, .t 25, .t 26], none⟩]) <|
      .ret) (
      .skip)) <|
    .seq (.seq (.reg [⟨(some 28), .mv, [.t 3], none⟩,
      ⟨(some 29), .bin .eql 0, [.t 28, .c (.v (.int .i64 (0)))], none⟩]) <|
    .cond (.t 29) (
      .seq (.reg [⟨(some 30), .mv, [.t 0], none⟩,
        ⟨(some 31), .mv, [.t 1], none⟩,
        ⟨(some 32), .mv, [.t 2], none⟩,
        ⟨(some 33), .call 102 [], [.t 30, .t 31, .t 32], none⟩]) <|
      .ret) (
      .skip)) <|
    .seq (.seq (.reg [⟨(some 34), .mv, [.t 8], none⟩,
      ⟨(some 35), .un .not, [.t 34], none⟩]) <|
    .cond (.t 35) (
      .seq (.reg [⟨(some 36), .mv, [.t 0], none⟩,
        ⟨(some 37), .mv, [.t 1], none⟩,
        ⟨(some 38), .mv, [.t 2], none⟩,
        ⟨(some 39), .call 103 [], [.t 36, .t 37, .t 38], none⟩]) <|
      .reg [⟨(some 40), .mv, [.t 3], none⟩,
        ⟨(some 41), .bin .sub 0, [.t 40, .c (.v (.int .i64 (1)))], none⟩,
        ⟨(some 3), .mv, [.t 41], none⟩]) (
      .skip)) <|
    .seq (.reg [⟨(some 43), .mv, [.t 0], none⟩,
      ⟨(some 44), .mv, [.t 1], none⟩,
      ⟨(some 45), .mv, [.t 2], none⟩,
      ⟨(some 46), .call 104 [], [.t 43, .t 44, .t 45], none⟩,
      ⟨(some 42), .mv, [.t 46], none⟩,
      ⟨(some 47), .extr 0, [.t 42], none⟩,
      ⟨(some 48), .extr 1, [.t 42], none⟩,
      ⟨(some 11), .mv, [.t 47], none⟩,
      ⟨(some 12), .mv, [.t 48], none⟩]) <|
    .seq (.seq (.reg [⟨(some 49), .mv, [.t 12], none⟩,
      ⟨(some 50), .bin .eql 0, [.t 49, .c (.v (.int .i64 (2)))], none⟩]) <|
    .cond (.t 50) (
      .seq (.reg [⟨(some 51), .mv, [.t 0], none⟩,
        ⟨(some 52), .mv, [.t 1], none⟩,
        ⟨(some 53), .mv, [.t 2], none⟩,
        ⟨(some 54), .call 105 [], [.t 51, .t 52, .t 53], none⟩]) <|
      .seq (.reg [⟨(some 55), .mv, [.t 2], none⟩,
        ⟨(some 56), .bin .sub 0, [.t 55, .c (.v (.int .i64 (1)))], none⟩,
        ⟨(some 57), .mv, [.t 11], none⟩,
        ⟨(some 58), .mv, [.t 1], none⟩,
        ⟨(some 59), .bin .sub 0, [.t 57, .t 58], none⟩,
        ⟨(some 60), .bin .sub 0, [.t 56, .t 59], none⟩,
        ⟨(some 11), .mv, [.t 60], none⟩]) <|
      .reg [⟨(some 12), .mv, [.c (.v (.int .i64 (1)))], none⟩]) (
      .skip)) <|
    .seq (.seq (.reg [⟨(some 61), .mv, [.t 8], none⟩,
      ⟨(some 62), .mv, [.t 61], none⟩,
      ⟨(some 63), .mv, [.t 9], (some (62, true))⟩,
      ⟨(some 64), .pick, [.t 62, .t 63, .c (.v (.bool false))], none⟩,
      ⟨(some 65), .mv, [.t 64], none⟩,
      ⟨(some 66), .mv, [.t 12], (some (65, true))⟩,
      ⟨(some 67), .bin .eql 0, [.t 66, .c (.v (.int .i64 (1)))], (some (65, true))⟩,
      ⟨(some 68), .pick, [.t 65, .t 67, .c (.v (.bool false))], none⟩]) <|
    .cond (.t 68) (
      .seq (.reg [⟨(some 69), .mv, [.t 0], none⟩,
        ⟨(some 70), .mv, [.t 1], none⟩,
        ⟨(some 71), .mv, [.t 2], none⟩,
        ⟨(some 72), .call 106 [], [.t 69, .t 70, .t 71], none⟩]) <|
      .cond (.t 72) (
        .ret) (
        .skip)) (
      .skip)) <|
    .seq (.seq (.draw (
      .take ⟨(some 73), .mv, [.t 1], none⟩ <|
      .take ⟨(some 74), .bin .gtr 0, [.t 73, .c (.v (.int .i64 (0)))], none⟩ <|
      .take ⟨(some 75), .mv, [.t 74], none⟩ <|
      .take ⟨(some 76), .mv, [.t 0], (some (75, true))⟩ <|
      .take ⟨(some 77), .mv, [.t 1], (some (75, true))⟩ <|
      .take ⟨(some 78), .bin .sub 0, [.t 77, .c (.v (.int .i64 (1)))], (some (75, true))⟩ <|
      .take ⟨(some 79), .iadr 1, [.t 76, .t 78], (some (75, true))⟩ <|
      .take ⟨(some 81), .mv, [.t 0], (some (75, true))⟩ <|
      .take ⟨(some 82), .mv, [.t 11], (some (75, true))⟩ <|
      .take ⟨(some 83), .iadr 1, [.t 81, .t 82], (some (75, true))⟩ <|
      .alt ⟨(some 80), .load false 1, [.t 79], (some (75, true))⟩ (
        .alt ⟨(some 84), .load false 1, [.t 83], (some (75, true))⟩ (
          .alt ⟨(some 85), .call 107 [], [.t 80, .t 84], (some (75, true))⟩ (
            .take ⟨(some 86), .un .not, [.t 85], (some (75, true))⟩ <|
            .take ⟨(some 87), .pick, [.t 75, .t 86, .c (.v (.bool false))], none⟩ <|
            .done) <|
          .stop) <|
        .stop) <|
      .alt ⟨(some 84), .load false 1, [.t 83], (some (75, true))⟩ (
        .alt ⟨(some 80), .load false 1, [.t 79], (some (75, true))⟩ (
          .alt ⟨(some 85), .call 107 [], [.t 80, .t 84], (some (75, true))⟩ (
            .take ⟨(some 86), .un .not, [.t 85], (some (75, true))⟩ <|
            .take ⟨(some 87), .pick, [.t 75, .t 86, .c (.v (.bool false))], none⟩ <|
            .done) <|
          .stop) <|
        .stop) <|
      .stop)) <|
    .cond (.t 87) (
      .seq (.reg [⟨(some 88), .mv, [.t 0], none⟩,
        ⟨(some 89), .mv, [.t 1], none⟩,
        ⟨(some 90), .mv, [.t 2], none⟩,
        ⟨(some 91), .mv, [.t 11], none⟩,
        ⟨(some 92), .call 108 [], [.t 88, .t 89, .t 90, .t 91], none⟩,
        ⟨(some 13), .mv, [.t 92], none⟩]) <|
      .seq (.reg [⟨(some 93), .mv, [.t 13], none⟩,
        ⟨(some 1), .mv, [.t 93], none⟩]) <|
      .exit 1) (
      .skip)) <|
    .seq (.reg [⟨(some 95), .mv, [.t 0], none⟩,
      ⟨(some 96), .mv, [.t 1], none⟩,
      ⟨(some 97), .mv, [.t 2], none⟩,
      ⟨(some 98), .mv, [.t 11], none⟩,
      ⟨(some 99), .call 109 [], [.t 95, .t 96, .t 97, .t 98], none⟩,
      ⟨(some 94), .mv, [.t 99], none⟩,
      ⟨(some 100), .extr 0, [.t 94], none⟩,
      ⟨(some 101), .extr 1, [.t 94], none⟩,
      ⟨(some 14), .mv, [.t 100], none⟩,
      ⟨(some 15), .mv, [.t 101], none⟩]) <|
    .seq (.reg [⟨(some 102), .mv, [.t 15], none⟩,
      ⟨(some 9), .mv, [.t 102], none⟩]) <|
    .seq (.reg [⟨(some 103), .mv, [.t 14], none⟩,
      ⟨(some 104), .mv, [.t 1], none⟩,
      ⟨(some 105), .bin .sub 0, [.t 103, .t 104], none⟩,
      ⟨(some 106), .mv, [.t 2], none⟩,
      ⟨(some 107), .mv, [.t 14], none⟩,
      ⟨(some 108), .bin .sub 0, [.t 106, .t 107], none⟩,
      ⟨(some 16), .mv, [.t 105], none⟩,
      ⟨(some 17), .mv, [.t 108], none⟩]) <|
    .seq (.reg [⟨(some 109), .mv, [.t 10], none⟩,
      ⟨(some 110), .bin .quo 0, [.t 109, .c (.v (.int .i64 (8)))], none⟩,
      ⟨(some 18), .mv, [.t 110], none⟩]) <|
    .seq (.reg [⟨(some 111), .mv, [.t 16], none⟩,
      ⟨(some 112), .mv, [.t 17], none⟩,
      ⟨(some 113), .bin .lss 0, [.t 111, .t 112], none⟩]) <|
    .cond (.t 113) (
      .seq (.reg [⟨(some 114), .mv, [.t 16], none⟩,
        ⟨(some 115), .mv, [.t 18], none⟩,
        ⟨(some 116), .bin .geq 0, [.t 114, .t 115], none⟩,
        ⟨(some 8), .mv, [.t 116], none⟩]) <|
      .seq (.reg [⟨(some 117), .mv, [.t 0], none⟩,
        ⟨(some 118), .mv, [.t 1], none⟩,
        ⟨(some 119), .mv, [.t 14], none⟩,
        ⟨(some 120), .mv, [.t 3], none⟩,
        ⟨(some 121), .call 90 [], [.t 117, .t 118, .t 119, .t 120], none⟩]) <|
      .reg [⟨(some 122), .mv, [.t 14], none⟩,
        ⟨(some 123), .bin .add 0, [.t 122, .c (.v (.int .i64 (1)))], none⟩,
        ⟨(some 1), .mv, [.t 123], none⟩]) (
      .seq (.reg [⟨(some 124), .mv, [.t 17], none⟩,
        ⟨(some 125), .mv, [.t 18], none⟩,
        ⟨(some 126), .bin .geq 0, [.t 124, .t 125], none⟩,
        ⟨(some 8), .mv, [.t 126], none⟩]) <|
      .seq (.reg [⟨(some 127), .mv, [.t 0], none⟩,
        ⟨(some 128), .mv, [.t 14], none⟩,
        ⟨(some 129), .bin .add 0, [.t 128, .c (.v (.int .i64 (1)))], none⟩,
        ⟨(some 130), .mv, [.t 2], none⟩,
        ⟨(some 131), .mv, [.t 3], none⟩,
        ⟨(some 132), .call 90 [], [.t 127, .t 129, .t 130, .t 131], none⟩]) <|
      .reg [⟨(some 133), .mv, [.t 14], none⟩,
        ⟨(some 2), .mv, [.t 133], none⟩]))

def c_slices_pdqsortOrdered_int : ACode :=
  .seq (.reg [⟨(some 8), .mv, [.c (.v (.bool true))], none⟩]) <|
  .seq (.reg [⟨(some 9), .mv, [.c (.v (.bool true))], none⟩]) <|
  .block 0 (
    .loop [(0, 1)] [0, 1, 2, 3, 8, 9] c_slices_pdqsortOrdered_int_L0)

theorem k_slices_pdqsortOrdered_int : cFn Tryz.prog n_slices_pdqsortOrdered_int 134 [] c_slices_pdqsortOrdered_int := ⟨Tryz.f90, _, Tryz.func90, rfl, by kernel_rfl, by kernel_rfl, by kernel_rfl, by kernel_rfl⟩

-- 3 parameters, results [], 49 slots, modes [false, false, false]
@[simp] abbrev n_slices_insertionSortOrdered_int : Nat := 101
def c_slices_insertionSortOrdered_int_L0 : ACode :=
  .seq (.seq (.draw (
    .take ⟨(some 16), .mv, [.t 7], none⟩ <|
    .take ⟨(some 17), .mv, [.t 1], none⟩ <|
    .take ⟨(some 18), .bin .gtr 0, [.t 16, .t 17], none⟩ <|
    .take ⟨(some 19), .mv, [.t 18], none⟩ <|
    .take ⟨(some 20), .mv, [.t 0], (some (19, true))⟩ <|
    .take ⟨(some 21), .mv, [.t 7], (some (19, true))⟩ <|
    .take ⟨(some 22), .iadr 1, [.t 20, .t 21], (some (19, true))⟩ <|
    .take ⟨(some 24), .mv, [.t 0], (some (19, true))⟩ <|
    .take ⟨(some 25), .mv, [.t 7], (some (19, true))⟩ <|
    .take ⟨(some 26), .bin .sub 0, [.t 25, .c (.v (.int .i64 (1)))], (some (19, true))⟩ <|
    .take ⟨(some 27), .iadr 1, [.t 24, .t 26], (some (19, true))⟩ <|
    .alt ⟨(some 23), .load false 1, [.t 22], (some (19, true))⟩ (
      .alt ⟨(some 28), .load false 1, [.t 27], (some (19, true))⟩ (
        .alt ⟨(some 29), .call 107 [], [.t 23, .t 28], (some (19, true))⟩ (
          .take ⟨(some 30), .pick, [.t 19, .t 29, .c (.v (.bool false))], none⟩ <|
          .done) <|
        .stop) <|
      .stop) <|
    .alt ⟨(some 28), .load false 1, [.t 27], (some (19, true))⟩ (
      .alt ⟨(some 23), .load false 1, [.t 22], (some (19, true))⟩ (
        .alt ⟨(some 29), .call 107 [], [.t 23, .t 28], (some (19, true))⟩ (
          .take ⟨(some 30), .pick, [.t 19, .t 29, .c (.v (.bool false))], none⟩ <|
          .done) <|
        .stop) <|
      .stop) <|
    .stop)) <|
  .cond (.t 30) (
    .skip) (
    .exit 2)) <|
  .seq (.block 3 (
    .draw (
      .take ⟨(some 33), .mv, [.t 0], none⟩ <|
      .take ⟨(some 34), .mv, [.t 7], none⟩ <|
      .take ⟨(some 35), .mv, [.t 0], none⟩ <|
      .take ⟨(some 36), .mv, [.t 7], none⟩ <|
      .take ⟨(some 37), .bin .sub 0, [.t 36, .c (.v (.int .i64 (1)))], none⟩ <|
      .take ⟨(some 38), .mv, [.t 0], none⟩ <|
      .take ⟨(some 39), .mv, [.t 7], none⟩ <|
      .take ⟨(some 40), .bin .sub 0, [.t 39, .c (.v (.int .i64 (1)))], none⟩ <|
      .take ⟨(some 41), .iadr 1, [.t 38, .t 40], none⟩ <|
      .take ⟨(some 43), .mv, [.t 0], none⟩ <|
      .take ⟨(some 44), .mv, [.t 7], none⟩ <|
      .take ⟨(some 45), .iadr 1, [.t 43, .t 44], none⟩ <|
      .alt ⟨(some 42), .load false 1, [.t 41], none⟩ (
        .alt ⟨(some 46), .load false 1, [.t 45], none⟩ (
          .take ⟨(some 47), .iadr 1, [.t 33, .t 34], none⟩ <|
          .alt ⟨none, .store 1, [.t 47, .t 42], none⟩ (
            .take ⟨(some 48), .iadr 1, [.t 35, .t 37], none⟩ <|
            .alt ⟨none, .store 1, [.t 48, .t 46], none⟩ (
              .done) <|
            .stop) <|
          .stop) <|
        .stop) <|
      .alt ⟨(some 46), .load false 1, [.t 45], none⟩ (
        .alt ⟨(some 42), .load false 1, [.t 41], none⟩ (
          .take ⟨(some 47), .iadr 1, [.t 33, .t 34], none⟩ <|
          .alt ⟨none, .store 1, [.t 47, .t 42], none⟩ (
            .take ⟨(some 48), .iadr 1, [.t 35, .t 37], none⟩ <|
            .alt ⟨none, .store 1, [.t 48, .t 46], none⟩ (
              .done) <|
            .stop) <|
          .stop) <|
        .stop) <|
      .stop))) <|
  .reg [⟨(some 31), .mv, [.t 7], none⟩,
    ⟨(some 32), .bin .sub 0, [.t 31, .c (.v (.int .i64 (1)))], none⟩,
    ⟨(some 7), .mv, [.t 32], none⟩]

def c_slices_insertionSortOrdered_int_L1 : ACode :=
  .seq (.seq (.reg [⟨(some 10), .mv, [.t 6], none⟩,
    ⟨(some 11), .mv, [.t 2], none⟩,
    ⟨(some 12), .bin .lss 0, [.t 10, .t 11], none⟩]) <|
  .cond (.t 12) (
    .skip) (
    .exit 0)) <|
  .seq (.block 1 (
    .seq (.reg [⟨(some 15), .mv, [.t 6], none⟩,
      ⟨(some 7), .mv, [.t 15], none⟩]) <|
    .block 2 (
      .loop [(0, 1)] [0, 1, 2, 6, 7] c_slices_insertionSortOrdered_int_L0))) <|
  .reg [⟨(some 13), .mv, [.t 6], none⟩,
    ⟨(some 14), .bin .add 0, [.t 13, .c (.v (.int .i64 (1)))], none⟩,
    ⟨(some 6), .mv, [.t 14], none⟩]

def c_slices_insertionSortOrdered_int : ACode :=
  .seq (.reg [⟨(some 8), .mv, [.t 1], none⟩,
    ⟨(some 9), .bin .add 0, [.t 8, .c (.v (.int .i64 (1)))], none⟩,
    ⟨(some 6), .mv, [.t 9], none⟩]) <|
  .block 0 (
    .loop [(0, 1)] [0, 1, 2, 6] c_slices_insertionSortOrdered_int_L1)

theorem k_slices_insertionSortOrdered_int : cFn Tryz.prog n_slices_insertionSortOrdered_int 49 [] c_slices_insertionSortOrdered_int := ⟨Tryz.f101, _, Tryz.func101, rfl, by kernel_rfl, by kernel_rfl, by kernel_rfl, by kernel_rfl⟩

end Go.Proofs.Dev
