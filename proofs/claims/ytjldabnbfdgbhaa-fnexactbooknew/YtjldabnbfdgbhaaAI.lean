/- Contracts of the functions of the program over slots and rows, each proved against the program itself; no condition beyond those that each theorem names. -/
import Derived.Test.YtjldabnbfdgbhaaZ
import Derived.Test.YtjldabnbfdgbhaaProg
import Derived.Test.YtjldabnbfdgbhaaAH

set_option linter.unusedSimpArgs false
set_option linter.unusedVariables false

namespace Go.Proofs.Dev

-- 1 parameters, results [.t 2], 6 slots, modes [false]
@[simp] abbrev n_impl_clone_bool : Nat := 82

def c_impl_clone_bool : ACode :=
  .seq (.reg [⟨(some 2), .mv, [.c (.os 1 [])], none⟩]) <|
  .seq (.reg [⟨(some 3), .mv, [.t 0], none⟩,
    ⟨(some 4), .call 122 [], [.t 3], none⟩,
    ⟨(some 5), .call 121 [], [.t 4], none⟩,
    ⟨(some 2), .mv, [.t 5], none⟩]) <|
  .ret

theorem k_impl_clone_bool : cFn Try.prog n_impl_clone_bool 6 [.t 2] c_impl_clone_bool := ⟨Try.f82, _, Try.func82, rfl, by kernel_rfl, by kernel_rfl, by kernel_rfl, by kernel_rfl⟩

-- 1 parameters, results [.t 2], 8 slots, modes [false]
@[simp] abbrev n_slices_Clone_bool_bool : Nat := 122

def c_slices_Clone_bool_bool : ACode :=
  .seq (.reg [⟨(some 2), .mv, [.c (.os 1 [])], none⟩]) <|
  .seq (.seq (.reg [⟨(some 3), .mv, [.t 0], none⟩,
    ⟨(some 4), .nilq false, [.t 3], none⟩]) <|
  .cond (.t 4) (
    .seq (.reg [⟨(some 2), .mv, [.c (.os 1 [])], none⟩]) <|
    .ret) (
    .skip)) <|
  .seq (.reg [⟨(some 5), .bsl 1, [], none⟩,
    ⟨(some 6), .mv, [.t 0], none⟩,
    ⟨(some 7), .app 1 1 true, [.t 5, .t 6], none⟩,
    ⟨(some 2), .mv, [.t 7], none⟩]) <|
  .ret

theorem k_slices_Clone_bool_bool : cFn Try.prog n_slices_Clone_bool_bool 8 [.t 2] c_slices_Clone_bool_bool := ⟨Try.f122, _, Try.func122, rfl, by kernel_rfl, by kernel_rfl, by kernel_rfl, by kernel_rfl⟩

-- 2 parameters, results [.t 4], 23 slots, modes [false, false]
@[simp] abbrev n_laws_heldBoolS : Nat := 123
def c_laws_heldBoolS_L0 : ACode :=
  .seq (.seq (.reg [⟨(some 6), .mv, [.t 5], none⟩,
    ⟨(some 7), .mv, [.t 0], none⟩,
    ⟨(some 8), .len false, [.t 7], none⟩,
    ⟨(some 9), .bin .lss 0, [.t 6, .t 8], none⟩]) <|
  .cond (.t 9) (
    .skip) (
    .exit 0)) <|
  .seq (.block 1 (
    .seq (.seq (.reg [⟨(some 12), .mv, [.t 0], none⟩,
      ⟨(some 13), .mv, [.t 5], none⟩,
      ⟨(some 14), .iadr 1, [.t 12, .t 13], none⟩,
      ⟨(some 15), .load false 1, [.t 14], none⟩,
      ⟨(some 16), .mv, [.t 1], none⟩,
      ⟨(some 17), .bin .rem 0, [.t 16, .c (.v (.int .i64 (3)))], none⟩,
      ⟨(some 18), .bin .eql 0, [.t 17, .c (.v (.int .i64 (0)))], none⟩,
      ⟨(some 19), .bin .neq 2, [.t 15, .t 18], none⟩]) <|
    .cond (.t 19) (
      .seq (.reg [⟨(some 4), .mv, [.c (.v (.int .i64 (-1)))], none⟩]) <|
      .ret) (
      .skip)) <|
    .reg [⟨(some 20), .mv, [.t 1], none⟩,
      ⟨(some 21), .bin .add 0, [.t 20, .c (.v (.int .i64 (1)))], none⟩,
      ⟨(some 1), .mv, [.t 21], none⟩])) <|
  .reg [⟨(some 10), .mv, [.t 5], none⟩,
    ⟨(some 11), .bin .add 0, [.t 10, .c (.v (.int .i64 (1)))], none⟩,
    ⟨(some 5), .mv, [.t 11], none⟩]

def c_laws_heldBoolS : ACode :=
  .seq (.reg [⟨(some 4), .mv, [.c (.v (.int .i64 (0)))], none⟩]) <|
  .seq (.seq (.reg [⟨(some 5), .mv, [.c (.v (.int .i64 (0)))], none⟩]) <|
  .block 0 (
    .loop [(0, 1)] [0, 1, 5] c_laws_heldBoolS_L0)) <|
  .seq (.reg [⟨(some 22), .mv, [.t 1], none⟩,
    ⟨(some 4), .mv, [.t 22], none⟩]) <|
  .ret

theorem k_laws_heldBoolS : cFn Try.prog n_laws_heldBoolS 23 [.t 4] c_laws_heldBoolS := ⟨Try.f123, _, Try.func123, rfl, by kernel_rfl, by kernel_rfl, by kernel_rfl, by kernel_rfl⟩

-- 2 parameters, results [.t 4], 12 slots, modes [false, false]
@[simp] abbrev n_laws_heldRegion : Nat := 84

def c_laws_heldRegion : ACode :=
  .seq (.reg [⟨(some 2), .box, [.t 0], none⟩,
    ⟨(some 4), .mv, [.c (.v (.int .i64 (0)))], none⟩]) <|
  .seq (.reg [⟨(some 5), .fadr 2, [.t 2], none⟩,
    ⟨(some 6), .load false 1, [.t 5], none⟩,
    ⟨(some 7), .mv, [.t 1], none⟩,
    ⟨(some 8), .call 123 [], [.t 6, .t 7], none⟩,
    ⟨(some 1), .mv, [.t 8], none⟩]) <|
  .seq (.seq (.reg [⟨(some 9), .mv, [.t 1], none⟩,
    ⟨(some 10), .bin .lss 0, [.t 9, .c (.v (.int .i64 (0)))], none⟩]) <|
  .cond (.t 10) (
    .seq (.reg [⟨(some 4), .mv, [.c (.v (.int .i64 (-1)))], none⟩]) <|
    .ret) (
    .skip)) <|
  .seq (.reg [⟨(some 11), .mv, [.t 1], none⟩,
    ⟨(some 4), .mv, [.t 11], none⟩]) <|
  .ret

theorem k_laws_heldRegion : cFn Try.prog n_laws_heldRegion 12 [.t 4] c_laws_heldRegion := ⟨Try.f84, _, Try.func84, rfl, by kernel_rfl, by kernel_rfl, by kernel_rfl, by kernel_rfl⟩

-- 2 parameters, results [.t 4], 30 slots, modes [false, false]
@[simp] abbrev n_laws_heldBook : Nat := 34

def c_laws_heldBook : ACode :=
  .seq (.reg [⟨(some 2), .box, [.t 0], none⟩,
    ⟨(some 4), .mv, [.c (.v (.int .i64 (0)))], none⟩]) <|
  .seq (.reg [⟨(some 5), .fadr 0, [.t 2], none⟩,
    ⟨(some 6), .load true 3, [.t 5], none⟩,
    ⟨(some 7), .mv, [.t 1], none⟩,
    ⟨(some 8), .call 84 [], [.t 6, .t 7], none⟩,
    ⟨(some 1), .mv, [.t 8], none⟩]) <|
  .seq (.seq (.reg [⟨(some 9), .mv, [.t 1], none⟩,
    ⟨(some 10), .bin .lss 0, [.t 9, .c (.v (.int .i64 (0)))], none⟩]) <|
  .cond (.t 10) (
    .seq (.reg [⟨(some 4), .mv, [.c (.v (.int .i64 (-1)))], none⟩]) <|
    .ret) (
    .skip)) <|
  .seq (.reg [⟨(some 11), .fadr 3, [.t 2], none⟩,
    ⟨(some 12), .load false 1, [.t 11], none⟩,
    ⟨(some 13), .mv, [.t 1], none⟩,
    ⟨(some 14), .call 29 [], [.t 12, .t 13], none⟩,
    ⟨(some 1), .mv, [.t 14], none⟩]) <|
  .seq (.seq (.reg [⟨(some 15), .mv, [.t 1], none⟩,
    ⟨(some 16), .bin .lss 0, [.t 15, .c (.v (.int .i64 (0)))], none⟩]) <|
  .cond (.t 16) (
    .seq (.reg [⟨(some 4), .mv, [.c (.v (.int .i64 (-1)))], none⟩]) <|
    .ret) (
    .skip)) <|
  .seq (.reg [⟨(some 17), .fadr 4, [.t 2], none⟩,
    ⟨(some 18), .load false 1, [.t 17], none⟩,
    ⟨(some 19), .mv, [.t 1], none⟩,
    ⟨(some 20), .call 29 [], [.t 18, .t 19], none⟩,
    ⟨(some 1), .mv, [.t 20], none⟩]) <|
  .seq (.seq (.reg [⟨(some 21), .mv, [.t 1], none⟩,
    ⟨(some 22), .bin .lss 0, [.t 21, .c (.v (.int .i64 (0)))], none⟩]) <|
  .cond (.t 22) (
    .seq (.reg [⟨(some 4), .mv, [.c (.v (.int .i64 (-1)))], none⟩]) <|
    .ret) (
    .skip)) <|
  .seq (.reg [⟨(some 23), .fadr 5, [.t 2], none⟩,
    ⟨(some 24), .load false 1, [.t 23], none⟩,
    ⟨(some 25), .mv, [.t 1], none⟩,
    ⟨(some 26), .call 65 [], [.t 24, .t 25], none⟩,
    ⟨(some 1), .mv, [.t 26], none⟩]) <|
  .seq (.seq (.reg [⟨(some 27), .mv, [.t 1], none⟩,
    ⟨(some 28), .bin .lss 0, [.t 27, .c (.v (.int .i64 (0)))], none⟩]) <|
  .cond (.t 28) (
    .seq (.reg [⟨(some 4), .mv, [.c (.v (.int .i64 (-1)))], none⟩]) <|
    .ret) (
    .skip)) <|
  .seq (.reg [⟨(some 29), .mv, [.t 1], none⟩,
    ⟨(some 4), .mv, [.t 29], none⟩]) <|
  .ret

theorem k_laws_heldBook : cFn Try.prog n_laws_heldBook 30 [.t 4] c_laws_heldBook := ⟨Try.f34, _, Try.func34, rfl, by kernel_rfl, by kernel_rfl, by kernel_rfl, by kernel_rfl⟩

-- 2 parameters, results [.t 4], 22 slots, modes [true, false]
@[simp] abbrev n_laws_markBook : Nat := 33

def c_laws_markBook : ACode :=
  .seq (.reg [⟨(some 2), .box, [.t 0], none⟩,
    ⟨(some 4), .mv, [.c (.v (.int .i64 (0)))], none⟩]) <|
  .seq (.reg [⟨(some 5), .fadr 0, [.t 2], none⟩,
    ⟨(some 6), .load true 3, [.t 5], none⟩,
    ⟨(some 7), .mv, [.t 1], none⟩,
    ⟨(some 8), .call 27 [], [.t 6, .t 7], none⟩,
    ⟨(some 1), .mv, [.t 8], none⟩]) <|
  .seq (.reg [⟨(some 9), .fadr 3, [.t 2], none⟩,
    ⟨(some 10), .load false 1, [.t 9], none⟩,
    ⟨(some 11), .mv, [.t 1], none⟩,
    ⟨(some 12), .call 28 [], [.t 10, .t 11], none⟩,
    ⟨(some 1), .mv, [.t 12], none⟩]) <|
  .seq (.reg [⟨(some 13), .fadr 4, [.t 2], none⟩,
    ⟨(some 14), .load false 1, [.t 13], none⟩,
    ⟨(some 15), .mv, [.t 1], none⟩,
    ⟨(some 16), .call 28 [], [.t 14, .t 15], none⟩,
    ⟨(some 1), .mv, [.t 16], none⟩]) <|
  .seq (.reg [⟨(some 17), .fadr 5, [.t 2], none⟩,
    ⟨(some 18), .load false 1, [.t 17], none⟩,
    ⟨(some 19), .mv, [.t 1], none⟩,
    ⟨(some 20), .call 64 [], [.t 18, .t 19], none⟩,
    ⟨(some 1), .mv, [.t 20], none⟩]) <|
  .seq (.reg [⟨(some 21), .mv, [.t 1], none⟩,
    ⟨(some 4), .mv, [.t 21], none⟩]) <|
  .ret

theorem k_laws_markBook : cFn Try.prog n_laws_markBook 22 [.t 4] c_laws_markBook := ⟨Try.f33, _, Try.func33, rfl, by kernel_rfl, by kernel_rfl, by kernel_rfl, by kernel_rfl⟩

-- 1 parameters, results [.t 2], 9 slots, modes [true]
@[simp] abbrev n_slices_Clip_bool_bool : Nat := 121

def c_slices_Clip_bool_bool : ACode :=
  .seq (.reg [⟨(some 2), .mv, [.c (.os 1 [])], none⟩]) <|
  .seq (.reg [⟨(some 3), .mv, [.t 0], none⟩,
    ⟨(some 4), .mv, [.t 0], none⟩,
    ⟨(some 5), .len false, [.t 4], none⟩,
    ⟨(some 6), .mv, [.t 0], none⟩,
    ⟨(some 7), .len false, [.t 6], none⟩,
    ⟨(some 8), .slice 1 false false true true, [.t 3, .t 5, .t 7], none⟩,
    ⟨(some 2), .mv, [.t 8], none⟩]) <|
  .ret

theorem k_slices_Clip_bool_bool : cFn Try.prog n_slices_Clip_bool_bool 9 [.t 2] c_slices_Clip_bool_bool := ⟨Try.f121, _, Try.func121, rfl, by kernel_rfl, by kernel_rfl, by kernel_rfl, by kernel_rfl⟩

-- 2 parameters, results [.t 4], 90 slots, modes [false, false]
@[simp] abbrev n_laws_FnExactBookNew : Nat := 4
def c_laws_FnExactBookNew_T0 : ACode :=
  .seq (.seq (.reg [⟨(some 43), .mv, [.t 8], none⟩,
    ⟨(some 44), .mv, [.t 1], none⟩,
    ⟨(some 45), .call 23 [], [.t 44], none⟩,
    ⟨(some 46), .call 25 [], [.t 43, .t 45], none⟩,
    ⟨(some 47), .un .not, [.t 46], none⟩]) <|
  .cond (.t 47) (
    .seq (.reg [⟨(some 4), .mv, [.c (.v (.bool false))], none⟩]) <|
    .ret) (
    .skip)) <|
  .seq (.reg [⟨(some 10), .mv, [.c (.v (.int .i64 (1)))], none⟩]) <|
  .seq (.reg [⟨(some 48), .load true 3, [.t 7], none⟩,
    ⟨(some 49), .mv, [.t 10], none⟩,
    ⟨(some 50), .call 27 [], [.t 48, .t 49], none⟩,
    ⟨(some 10), .mv, [.t 50], none⟩]) <|
  .seq (.reg [⟨(some 51), .mv, [.t 8], none⟩,
    ⟨(some 52), .mv, [.t 10], none⟩,
    ⟨(some 53), .call 28 [], [.t 51, .t 52], none⟩,
    ⟨(some 10), .mv, [.t 53], none⟩]) <|
  .seq (.seq (.reg [⟨(some 54), .mv, [.t 10], none⟩,
    ⟨(some 55), .bin .lss 0, [.t 54, .c (.v (.int .i64 (0)))], none⟩,
    ⟨(some 56), .mv, [.t 55], none⟩,
    ⟨(some 57), .load true 6, [.t 9], (some (56, false))⟩,
    ⟨(some 58), .load true 6, [.t 6], (some (56, false))⟩,
    ⟨(some 59), .call 32 [], [.t 57, .t 58], (some (56, false))⟩,
    ⟨(some 60), .un .not, [.t 59], (some (56, false))⟩,
    ⟨(some 61), .pick, [.t 56, .c (.v (.bool true)), .t 60], none⟩]) <|
  .cond (.t 61) (
    .seq (.reg [⟨(some 4), .mv, [.c (.v (.bool false))], none⟩]) <|
    .ret) (
    .skip)) <|
  .seq (.reg [⟨(some 11), .mv, [.c (.v (.int .i64 (1)))], none⟩]) <|
  .seq (.reg [⟨(some 62), .load true 6, [.t 9], none⟩,
    ⟨(some 63), .mv, [.t 11], none⟩,
    ⟨(some 64), .call 33 [], [.t 62, .t 63], none⟩,
    ⟨(some 11), .mv, [.t 64], none⟩]) <|
  .seq (.reg [⟨(some 12), .mv, [.c (.v (.int .i64 (1)))], none⟩]) <|
  .seq (.reg [⟨(some 65), .load true 6, [.t 9], none⟩,
    ⟨(some 66), .mv, [.t 12], none⟩,
    ⟨(some 67), .call 34 [], [.t 65, .t 66], none⟩,
    ⟨(some 12), .mv, [.t 67], none⟩]) <|
  .seq (.seq (.reg [⟨(some 68), .mv, [.t 12], none⟩,
    ⟨(some 69), .bin .lss 0, [.t 68, .c (.v (.int .i64 (0)))], none⟩]) <|
  .cond (.t 69) (
    .seq (.reg [⟨(some 4), .mv, [.c (.v (.bool false))], none⟩]) <|
    .ret) (
    .skip)) <|
  .seq (.seq (.reg [⟨(some 70), .mv, [.t 12], none⟩,
    ⟨(some 71), .mv, [.t 11], none⟩,
    ⟨(some 72), .bin .neq 0, [.t 70, .t 71], none⟩]) <|
  .cond (.t 72) (
    .seq (.reg [⟨(some 4), .mv, [.c (.v (.bool false))], none⟩]) <|
    .ret) (
    .skip)) <|
  .seq (.reg [⟨(some 73), .load true 3, [.t 2], none⟩,
    ⟨(some 74), .call 22 [], [.t 73], none⟩,
    ⟨(some 75), .mv, [.t 1], none⟩,
    ⟨(some 76), .call 23 [], [.t 75], none⟩,
    ⟨(some 77), .call 31 [], [.t 74, .t 76], none⟩,
    ⟨(some 13), .alloc [.v (.int .i64 (0)), .v (.int .i64 (0)), .os 1 [], .os 1 [], .os 1 [], .os 1 []], [], none⟩,
    ⟨none, .store 6, [.t 13, .t 77], none⟩]) <|
  .seq (.seq (.reg [⟨(some 78), .load true 6, [.t 13], none⟩,
    ⟨(some 79), .load true 6, [.t 6], none⟩,
    ⟨(some 80), .call 32 [], [.t 78, .t 79], none⟩,
    ⟨(some 81), .un .not, [.t 80], none⟩]) <|
  .cond (.t 81) (
    .seq (.reg [⟨(some 4), .mv, [.c (.v (.bool false))], none⟩]) <|
    .ret) (
    .skip)) <|
  .seq (.reg [⟨(some 12), .mv, [.c (.v (.int .i64 (1)))], none⟩]) <|
  .seq (.reg [⟨(some 82), .load true 6, [.t 9], none⟩,
    ⟨(some 83), .mv, [.t 12], none⟩,
    ⟨(some 84), .call 34 [], [.t 82, .t 83], none⟩,
    ⟨(some 12), .mv, [.t 84], none⟩]) <|
  .seq (.seq (.reg [⟨(some 85), .mv, [.t 12], none⟩,
    ⟨(some 86), .bin .lss 0, [.t 85, .c (.v (.int .i64 (0)))], none⟩]) <|
  .cond (.t 86) (
    .seq (.reg [⟨(some 4), .mv, [.c (.v (.bool false))], none⟩]) <|
    .ret) (
    .skip)) <|
  .seq (.seq (.reg [⟨(some 87), .mv, [.t 12], none⟩,
    ⟨(some 88), .mv, [.t 11], none⟩,
    ⟨(some 89), .bin .neq 0, [.t 87, .t 88], none⟩]) <|
  .cond (.t 89) (
    .seq (.reg [⟨(some 4), .mv, [.c (.v (.bool false))], none⟩]) <|
    .ret) (
    .skip)) <|
  .seq (.reg [⟨(some 4), .mv, [.c (.v (.bool true))], none⟩]) <|
  .ret

def c_laws_FnExactBookNew : ACode :=
  .seq (.reg [⟨(some 2), .box, [.t 0], none⟩,
    ⟨(some 4), .mv, [.c (.v (.bool false))], none⟩]) <|
  .seq (.seq (.reg [⟨(some 14), .mv, [.t 1], none⟩,
    ⟨(some 15), .len false, [.t 14], none⟩,
    ⟨(some 16), .bin .gtr 0, [.t 15, .c (.v (.int .i64 (1048576)))], none⟩]) <|
  .cond (.t 16) (
    .seq (.reg [⟨(some 4), .mv, [.c (.v (.bool true))], none⟩]) <|
    .ret) (
    .skip)) <|
  .seq (.reg [⟨(some 5), .mv, [.c (.v (.int .i64 (1048576)))], none⟩]) <|
  .seq (.reg [⟨(some 17), .load true 3, [.t 2], none⟩,
    ⟨(some 18), .mv, [.t 5], none⟩,
    ⟨(some 19), .call 20 [], [.t 17, .t 18], none⟩,
    ⟨(some 5), .mv, [.t 19], none⟩]) <|
  .seq (.seq (.reg [⟨(some 20), .mv, [.t 5], none⟩,
    ⟨(some 21), .bin .lss 0, [.t 20, .c (.v (.int .i64 (0)))], none⟩]) <|
  .cond (.t 21) (
    .seq (.reg [⟨(some 4), .mv, [.c (.v (.bool true))], none⟩]) <|
    .ret) (
    .skip)) <|
  .seq (.reg [⟨(some 22), .load true 3, [.t 2], none⟩,
    ⟨(some 23), .call 22 [], [.t 22], none⟩,
    ⟨(some 24), .mv, [.t 1], none⟩,
    ⟨(some 25), .call 23 [], [.t 24], none⟩,
    ⟨(some 26), .call 30 [], [.t 23, .t 25], none⟩,
    ⟨(some 6), .alloc [.v (.int .i64 (0)), .v (.int .i64 (0)), .os 1 [], .os 1 [], .os 1 [], .os 1 []], [], none⟩,
    ⟨none, .store 6, [.t 6, .t 26], none⟩]) <|
  .seq (.reg [⟨(some 27), .load true 3, [.t 2], none⟩,
    ⟨(some 28), .call 22 [], [.t 27], none⟩,
    ⟨(some 7), .alloc [.v (.int .i64 (0)), .v (.int .i64 (0)), .os 1 []], [], none⟩,
    ⟨none, .store 3, [.t 7, .t 28], none⟩]) <|
  .seq (.reg [⟨(some 29), .mv, [.t 1], none⟩,
    ⟨(some 30), .call 23 [], [.t 29], none⟩,
    ⟨(some 8), .mv, [.t 30], none⟩]) <|
  .seq (.reg [⟨(some 31), .load true 3, [.t 7], none⟩,
    ⟨(some 32), .mv, [.t 8], none⟩,
    ⟨(some 33), .call 31 [], [.t 31, .t 32], none⟩,
    ⟨(some 9), .alloc [.v (.int .i64 (0)), .v (.int .i64 (0)), .os 1 [], .os 1 [], .os 1 [], .os 1 []], [], none⟩,
    ⟨none, .store 6, [.t 9, .t 33], none⟩]) <|
  .seq (.seq (.reg [⟨(some 34), .load true 6, [.t 9], none⟩,
    ⟨(some 35), .load true 6, [.t 6], none⟩,
    ⟨(some 36), .call 32 [], [.t 34, .t 35], none⟩,
    ⟨(some 37), .un .not, [.t 36], none⟩]) <|
  .cond (.t 37) (
    .seq (.reg [⟨(some 4), .mv, [.c (.v (.bool false))], none⟩]) <|
    .ret) (
    .skip)) <|
  .seq (.seq (.draw (
    .alt ⟨(some 38), .load true 3, [.t 7], none⟩ (
      .alt ⟨(some 39), .load true 3, [.t 2], none⟩ (
        .alt ⟨(some 40), .call 22 [], [.t 39], none⟩ (
          .alt ⟨(some 41), .call 26 [], [.t 38, .t 40], none⟩ (
            .take ⟨(some 42), .un .not, [.t 41], none⟩ <|
            .done) <|
          .stop) <|
        .stop) <|
      .stop) <|
    .alt ⟨(some 39), .load true 3, [.t 2], none⟩ (
      .alt ⟨(some 38), .load true 3, [.t 7], none⟩ (
        .alt ⟨(some 40), .call 22 [], [.t 39], none⟩ (
          .alt ⟨(some 41), .call 26 [], [.t 38, .t 40], none⟩ (
            .take ⟨(some 42), .un .not, [.t 41], none⟩ <|
            .done) <|
          .stop) <|
        .stop) <|
      .alt ⟨(some 40), .call 22 [], [.t 39], none⟩ (
        .alt ⟨(some 38), .load true 3, [.t 7], none⟩ (
          .alt ⟨(some 41), .call 26 [], [.t 38, .t 40], none⟩ (
            .take ⟨(some 42), .un .not, [.t 41], none⟩ <|
            .done) <|
          .stop) <|
        .stop) <|
      .stop) <|
    .stop)) <|
  .cond (.t 42) (
    .seq (.reg [⟨(some 4), .mv, [.c (.v (.bool false))], none⟩]) <|
    .ret) (
    .skip)) <|
  .gc [] [1, 2, 6, 7, 8, 9] c_laws_FnExactBookNew_T0

theorem k_laws_FnExactBookNew : cFn Try.prog n_laws_FnExactBookNew 90 [.t 4] c_laws_FnExactBookNew := ⟨Try.f4, _, Try.func4, rfl, by kernel_rfl, by kernel_rfl, by kernel_rfl, by kernel_rfl⟩

end Go.Proofs.Dev

namespace Go.Proofs.Dev

-- printed by program: spec_BookNew
@[simp] abbrev n_spec_BookNew : Nat := 30
def c_spec_BookNew_E : BCode :=
(BCode.early [(AOper.mk (some 10) (AK.fadr 0) [(Opd.t 2)] none),
  (AOper.mk (some 11) (AK.load false 1) [(Opd.t 10)] none),
  (AOper.mk (some 12) (AK.fadr 1) [(Opd.t 2)] none),
  (AOper.mk (some 13) (AK.load false 1) [(Opd.t 12)] none),
  (AOper.mk (some 15) (AK.fadr 2) [(Opd.t 2)] none),
  (AOper.mk (some 16) (AK.load false 1) [(Opd.t 15)] none),
  (AOper.mk (some 20) AK.mv [(Opd.t 1)] none),
  (AOper.mk (some 22) (AK.load true 3) [(Opd.t 2)] none)]
 (Plan.alt
  (AOper.mk (some 14) (AK.bsl 1) [] none)
 (Plan.alt
  (AOper.mk (some 17) (AK.app 1 1 true) [(Opd.t 14), (Opd.t 16)] none) (Plan.take
  (AOper.mk (some 18) (AK.build [(AV.v (Go.Value.int Go.IntKind.i64 0)), (AV.v (Go.Value.int Go.IntKind.i64 0)), (AV.os 1 [])] [(0, 1), (1, 1), (2, 1)]) [(Opd.t 11), (Opd.t 13), (Opd.t 17)] none)
 (Plan.alt
  (AOper.mk (some 19) (AK.bsl 1) [] none)
 (Plan.alt
  (AOper.mk (some 21) (AK.app 1 8 true) [(Opd.t 19), (Opd.t 20)] none)
 (Plan.alt
  (AOper.mk (some 23) (AK.call 81 []) [(Opd.t 22)] none)
 (Plan.alt
  (AOper.mk (some 24) (AK.bsl 1) [] none) (Plan.take
  (AOper.mk (some 25) (AK.build [(AV.v (Go.Value.int Go.IntKind.i64 0)), (AV.v (Go.Value.int Go.IntKind.i64 0)), (AV.os 1 []), (AV.os 1 []), (AV.os 1 []), (AV.os 1 [])] [(0, 3), (3, 1), (4, 1), (5, 1)]) [(Opd.t 18), (Opd.t 21), (Opd.t 23), (Opd.t 24)] none)
 (Plan.alt
  (AOper.mk none (AK.store 6) [(Opd.t 4), (Opd.t 25)] none) Plan.done Plan.stop)) Plan.stop)
 (Plan.alt
  (AOper.mk (some 24) (AK.bsl 1) [] none)
 (Plan.alt
  (AOper.mk (some 23) (AK.call 81 []) [(Opd.t 22)] none) (Plan.take
  (AOper.mk (some 25) (AK.build [(AV.v (Go.Value.int Go.IntKind.i64 0)), (AV.v (Go.Value.int Go.IntKind.i64 0)), (AV.os 1 []), (AV.os 1 []), (AV.os 1 []), (AV.os 1 [])] [(0, 3), (3, 1), (4, 1), (5, 1)]) [(Opd.t 18), (Opd.t 21), (Opd.t 23), (Opd.t 24)] none)
 (Plan.alt
  (AOper.mk none (AK.store 6) [(Opd.t 4), (Opd.t 25)] none) Plan.done Plan.stop)) Plan.stop) Plan.stop))
 (Plan.alt
  (AOper.mk (some 24) (AK.bsl 1) [] none)
 (Plan.alt
  (AOper.mk (some 21) (AK.app 1 8 true) [(Opd.t 19), (Opd.t 20)] none)
 (Plan.alt
  (AOper.mk (some 23) (AK.call 81 []) [(Opd.t 22)] none) (Plan.take
  (AOper.mk (some 25) (AK.build [(AV.v (Go.Value.int Go.IntKind.i64 0)), (AV.v (Go.Value.int Go.IntKind.i64 0)), (AV.os 1 []), (AV.os 1 []), (AV.os 1 []), (AV.os 1 [])] [(0, 3), (3, 1), (4, 1), (5, 1)]) [(Opd.t 18), (Opd.t 21), (Opd.t 23), (Opd.t 24)] none)
 (Plan.alt
  (AOper.mk none (AK.store 6) [(Opd.t 4), (Opd.t 25)] none) Plan.done Plan.stop)) Plan.stop) Plan.stop) Plan.stop))
 (Plan.alt
  (AOper.mk (some 24) (AK.bsl 1) [] none)
 (Plan.alt
  (AOper.mk (some 19) (AK.bsl 1) [] none)
 (Plan.alt
  (AOper.mk (some 21) (AK.app 1 8 true) [(Opd.t 19), (Opd.t 20)] none)
 (Plan.alt
  (AOper.mk (some 23) (AK.call 81 []) [(Opd.t 22)] none) (Plan.take
  (AOper.mk (some 25) (AK.build [(AV.v (Go.Value.int Go.IntKind.i64 0)), (AV.v (Go.Value.int Go.IntKind.i64 0)), (AV.os 1 []), (AV.os 1 []), (AV.os 1 []), (AV.os 1 [])] [(0, 3), (3, 1), (4, 1), (5, 1)]) [(Opd.t 18), (Opd.t 21), (Opd.t 23), (Opd.t 24)] none)
 (Plan.alt
  (AOper.mk none (AK.store 6) [(Opd.t 4), (Opd.t 25)] none) Plan.done Plan.stop)) Plan.stop) Plan.stop) Plan.stop) Plan.stop)))
 (Plan.alt
  (AOper.mk (some 19) (AK.bsl 1) [] none)
 (Plan.alt
  (AOper.mk (some 17) (AK.app 1 1 true) [(Opd.t 14), (Opd.t 16)] none) (Plan.take
  (AOper.mk (some 18) (AK.build [(AV.v (Go.Value.int Go.IntKind.i64 0)), (AV.v (Go.Value.int Go.IntKind.i64 0)), (AV.os 1 [])] [(0, 1), (1, 1), (2, 1)]) [(Opd.t 11), (Opd.t 13), (Opd.t 17)] none)
 (Plan.alt
  (AOper.mk (some 21) (AK.app 1 8 true) [(Opd.t 19), (Opd.t 20)] none)
 (Plan.alt
  (AOper.mk (some 23) (AK.call 81 []) [(Opd.t 22)] none)
 (Plan.alt
  (AOper.mk (some 24) (AK.bsl 1) [] none) (Plan.take
  (AOper.mk (some 25) (AK.build [(AV.v (Go.Value.int Go.IntKind.i64 0)), (AV.v (Go.Value.int Go.IntKind.i64 0)), (AV.os 1 []), (AV.os 1 []), (AV.os 1 []), (AV.os 1 [])] [(0, 3), (3, 1), (4, 1), (5, 1)]) [(Opd.t 18), (Opd.t 21), (Opd.t 23), (Opd.t 24)] none)
 (Plan.alt
  (AOper.mk none (AK.store 6) [(Opd.t 4), (Opd.t 25)] none) Plan.done Plan.stop)) Plan.stop)
 (Plan.alt
  (AOper.mk (some 24) (AK.bsl 1) [] none)
 (Plan.alt
  (AOper.mk (some 23) (AK.call 81 []) [(Opd.t 22)] none) (Plan.take
  (AOper.mk (some 25) (AK.build [(AV.v (Go.Value.int Go.IntKind.i64 0)), (AV.v (Go.Value.int Go.IntKind.i64 0)), (AV.os 1 []), (AV.os 1 []), (AV.os 1 []), (AV.os 1 [])] [(0, 3), (3, 1), (4, 1), (5, 1)]) [(Opd.t 18), (Opd.t 21), (Opd.t 23), (Opd.t 24)] none)
 (Plan.alt
  (AOper.mk none (AK.store 6) [(Opd.t 4), (Opd.t 25)] none) Plan.done Plan.stop)) Plan.stop) Plan.stop))
 (Plan.alt
  (AOper.mk (some 24) (AK.bsl 1) [] none)
 (Plan.alt
  (AOper.mk (some 21) (AK.app 1 8 true) [(Opd.t 19), (Opd.t 20)] none)
 (Plan.alt
  (AOper.mk (some 23) (AK.call 81 []) [(Opd.t 22)] none) (Plan.take
  (AOper.mk (some 25) (AK.build [(AV.v (Go.Value.int Go.IntKind.i64 0)), (AV.v (Go.Value.int Go.IntKind.i64 0)), (AV.os 1 []), (AV.os 1 []), (AV.os 1 []), (AV.os 1 [])] [(0, 3), (3, 1), (4, 1), (5, 1)]) [(Opd.t 18), (Opd.t 21), (Opd.t 23), (Opd.t 24)] none)
 (Plan.alt
  (AOper.mk none (AK.store 6) [(Opd.t 4), (Opd.t 25)] none) Plan.done Plan.stop)) Plan.stop) Plan.stop) Plan.stop)))
 (Plan.alt
  (AOper.mk (some 24) (AK.bsl 1) [] none)
 (Plan.alt
  (AOper.mk (some 17) (AK.app 1 1 true) [(Opd.t 14), (Opd.t 16)] none) (Plan.take
  (AOper.mk (some 18) (AK.build [(AV.v (Go.Value.int Go.IntKind.i64 0)), (AV.v (Go.Value.int Go.IntKind.i64 0)), (AV.os 1 [])] [(0, 1), (1, 1), (2, 1)]) [(Opd.t 11), (Opd.t 13), (Opd.t 17)] none)
 (Plan.alt
  (AOper.mk (some 21) (AK.app 1 8 true) [(Opd.t 19), (Opd.t 20)] none)
 (Plan.alt
  (AOper.mk (some 23) (AK.call 81 []) [(Opd.t 22)] none) (Plan.take
  (AOper.mk (some 25) (AK.build [(AV.v (Go.Value.int Go.IntKind.i64 0)), (AV.v (Go.Value.int Go.IntKind.i64 0)), (AV.os 1 []), (AV.os 1 []), (AV.os 1 []), (AV.os 1 [])] [(0, 3), (3, 1), (4, 1), (5, 1)]) [(Opd.t 18), (Opd.t 21), (Opd.t 23), (Opd.t 24)] none)
 (Plan.alt
  (AOper.mk none (AK.store 6) [(Opd.t 4), (Opd.t 25)] none) Plan.done Plan.stop)) Plan.stop) Plan.stop)) Plan.stop) Plan.stop))
 (Plan.alt
  (AOper.mk (some 24) (AK.bsl 1) [] none)
 (Plan.alt
  (AOper.mk (some 17) (AK.app 1 1 true) [(Opd.t 14), (Opd.t 16)] none) (Plan.take
  (AOper.mk (some 18) (AK.build [(AV.v (Go.Value.int Go.IntKind.i64 0)), (AV.v (Go.Value.int Go.IntKind.i64 0)), (AV.os 1 [])] [(0, 1), (1, 1), (2, 1)]) [(Opd.t 11), (Opd.t 13), (Opd.t 17)] none)
 (Plan.alt
  (AOper.mk (some 19) (AK.bsl 1) [] none)
 (Plan.alt
  (AOper.mk (some 21) (AK.app 1 8 true) [(Opd.t 19), (Opd.t 20)] none)
 (Plan.alt
  (AOper.mk (some 23) (AK.call 81 []) [(Opd.t 22)] none) (Plan.take
  (AOper.mk (some 25) (AK.build [(AV.v (Go.Value.int Go.IntKind.i64 0)), (AV.v (Go.Value.int Go.IntKind.i64 0)), (AV.os 1 []), (AV.os 1 []), (AV.os 1 []), (AV.os 1 [])] [(0, 3), (3, 1), (4, 1), (5, 1)]) [(Opd.t 18), (Opd.t 21), (Opd.t 23), (Opd.t 24)] none)
 (Plan.alt
  (AOper.mk none (AK.store 6) [(Opd.t 4), (Opd.t 25)] none) Plan.done Plan.stop)) Plan.stop) Plan.stop) Plan.stop))
 (Plan.alt
  (AOper.mk (some 19) (AK.bsl 1) [] none)
 (Plan.alt
  (AOper.mk (some 17) (AK.app 1 1 true) [(Opd.t 14), (Opd.t 16)] none) (Plan.take
  (AOper.mk (some 18) (AK.build [(AV.v (Go.Value.int Go.IntKind.i64 0)), (AV.v (Go.Value.int Go.IntKind.i64 0)), (AV.os 1 [])] [(0, 1), (1, 1), (2, 1)]) [(Opd.t 11), (Opd.t 13), (Opd.t 17)] none)
 (Plan.alt
  (AOper.mk (some 21) (AK.app 1 8 true) [(Opd.t 19), (Opd.t 20)] none)
 (Plan.alt
  (AOper.mk (some 23) (AK.call 81 []) [(Opd.t 22)] none) (Plan.take
  (AOper.mk (some 25) (AK.build [(AV.v (Go.Value.int Go.IntKind.i64 0)), (AV.v (Go.Value.int Go.IntKind.i64 0)), (AV.os 1 []), (AV.os 1 []), (AV.os 1 []), (AV.os 1 [])] [(0, 3), (3, 1), (4, 1), (5, 1)]) [(Opd.t 18), (Opd.t 21), (Opd.t 23), (Opd.t 24)] none)
 (Plan.alt
  (AOper.mk none (AK.store 6) [(Opd.t 4), (Opd.t 25)] none) Plan.done Plan.stop)) Plan.stop) Plan.stop)) Plan.stop) Plan.stop)) Plan.stop)))
 (Plan.alt
  (AOper.mk (some 19) (AK.bsl 1) [] none)
 (Plan.alt
  (AOper.mk (some 14) (AK.bsl 1) [] none)
 (Plan.alt
  (AOper.mk (some 17) (AK.app 1 1 true) [(Opd.t 14), (Opd.t 16)] none) (Plan.take
  (AOper.mk (some 18) (AK.build [(AV.v (Go.Value.int Go.IntKind.i64 0)), (AV.v (Go.Value.int Go.IntKind.i64 0)), (AV.os 1 [])] [(0, 1), (1, 1), (2, 1)]) [(Opd.t 11), (Opd.t 13), (Opd.t 17)] none)
 (Plan.alt
  (AOper.mk (some 21) (AK.app 1 8 true) [(Opd.t 19), (Opd.t 20)] none)
 (Plan.alt
  (AOper.mk (some 23) (AK.call 81 []) [(Opd.t 22)] none)
 (Plan.alt
  (AOper.mk (some 24) (AK.bsl 1) [] none) (Plan.take
  (AOper.mk (some 25) (AK.build [(AV.v (Go.Value.int Go.IntKind.i64 0)), (AV.v (Go.Value.int Go.IntKind.i64 0)), (AV.os 1 []), (AV.os 1 []), (AV.os 1 []), (AV.os 1 [])] [(0, 3), (3, 1), (4, 1), (5, 1)]) [(Opd.t 18), (Opd.t 21), (Opd.t 23), (Opd.t 24)] none)
 (Plan.alt
  (AOper.mk none (AK.store 6) [(Opd.t 4), (Opd.t 25)] none) Plan.done Plan.stop)) Plan.stop)
 (Plan.alt
  (AOper.mk (some 24) (AK.bsl 1) [] none)
 (Plan.alt
  (AOper.mk (some 23) (AK.call 81 []) [(Opd.t 22)] none) (Plan.take
  (AOper.mk (some 25) (AK.build [(AV.v (Go.Value.int Go.IntKind.i64 0)), (AV.v (Go.Value.int Go.IntKind.i64 0)), (AV.os 1 []), (AV.os 1 []), (AV.os 1 []), (AV.os 1 [])] [(0, 3), (3, 1), (4, 1), (5, 1)]) [(Opd.t 18), (Opd.t 21), (Opd.t 23), (Opd.t 24)] none)
 (Plan.alt
  (AOper.mk none (AK.store 6) [(Opd.t 4), (Opd.t 25)] none) Plan.done Plan.stop)) Plan.stop) Plan.stop))
 (Plan.alt
  (AOper.mk (some 24) (AK.bsl 1) [] none)
 (Plan.alt
  (AOper.mk (some 21) (AK.app 1 8 true) [(Opd.t 19), (Opd.t 20)] none)
 (Plan.alt
  (AOper.mk (some 23) (AK.call 81 []) [(Opd.t 22)] none) (Plan.take
  (AOper.mk (some 25) (AK.build [(AV.v (Go.Value.int Go.IntKind.i64 0)), (AV.v (Go.Value.int Go.IntKind.i64 0)), (AV.os 1 []), (AV.os 1 []), (AV.os 1 []), (AV.os 1 [])] [(0, 3), (3, 1), (4, 1), (5, 1)]) [(Opd.t 18), (Opd.t 21), (Opd.t 23), (Opd.t 24)] none)
 (Plan.alt
  (AOper.mk none (AK.store 6) [(Opd.t 4), (Opd.t 25)] none) Plan.done Plan.stop)) Plan.stop) Plan.stop) Plan.stop)))
 (Plan.alt
  (AOper.mk (some 24) (AK.bsl 1) [] none)
 (Plan.alt
  (AOper.mk (some 17) (AK.app 1 1 true) [(Opd.t 14), (Opd.t 16)] none) (Plan.take
  (AOper.mk (some 18) (AK.build [(AV.v (Go.Value.int Go.IntKind.i64 0)), (AV.v (Go.Value.int Go.IntKind.i64 0)), (AV.os 1 [])] [(0, 1), (1, 1), (2, 1)]) [(Opd.t 11), (Opd.t 13), (Opd.t 17)] none)
 (Plan.alt
  (AOper.mk (some 21) (AK.app 1 8 true) [(Opd.t 19), (Opd.t 20)] none)
 (Plan.alt
  (AOper.mk (some 23) (AK.call 81 []) [(Opd.t 22)] none) (Plan.take
  (AOper.mk (some 25) (AK.build [(AV.v (Go.Value.int Go.IntKind.i64 0)), (AV.v (Go.Value.int Go.IntKind.i64 0)), (AV.os 1 []), (AV.os 1 []), (AV.os 1 []), (AV.os 1 [])] [(0, 3), (3, 1), (4, 1), (5, 1)]) [(Opd.t 18), (Opd.t 21), (Opd.t 23), (Opd.t 24)] none)
 (Plan.alt
  (AOper.mk none (AK.store 6) [(Opd.t 4), (Opd.t 25)] none) Plan.done Plan.stop)) Plan.stop) Plan.stop)) Plan.stop) Plan.stop))
 (Plan.alt
  (AOper.mk (some 24) (AK.bsl 1) [] none)
 (Plan.alt
  (AOper.mk (some 14) (AK.bsl 1) [] none)
 (Plan.alt
  (AOper.mk (some 17) (AK.app 1 1 true) [(Opd.t 14), (Opd.t 16)] none) (Plan.take
  (AOper.mk (some 18) (AK.build [(AV.v (Go.Value.int Go.IntKind.i64 0)), (AV.v (Go.Value.int Go.IntKind.i64 0)), (AV.os 1 [])] [(0, 1), (1, 1), (2, 1)]) [(Opd.t 11), (Opd.t 13), (Opd.t 17)] none)
 (Plan.alt
  (AOper.mk (some 21) (AK.app 1 8 true) [(Opd.t 19), (Opd.t 20)] none)
 (Plan.alt
  (AOper.mk (some 23) (AK.call 81 []) [(Opd.t 22)] none) (Plan.take
  (AOper.mk (some 25) (AK.build [(AV.v (Go.Value.int Go.IntKind.i64 0)), (AV.v (Go.Value.int Go.IntKind.i64 0)), (AV.os 1 []), (AV.os 1 []), (AV.os 1 []), (AV.os 1 [])] [(0, 3), (3, 1), (4, 1), (5, 1)]) [(Opd.t 18), (Opd.t 21), (Opd.t 23), (Opd.t 24)] none)
 (Plan.alt
  (AOper.mk none (AK.store 6) [(Opd.t 4), (Opd.t 25)] none) Plan.done Plan.stop)) Plan.stop) Plan.stop)) Plan.stop) Plan.stop) Plan.stop))
 (Plan.alt
  (AOper.mk (some 24) (AK.bsl 1) [] none)
 (Plan.alt
  (AOper.mk (some 14) (AK.bsl 1) [] none)
 (Plan.alt
  (AOper.mk (some 17) (AK.app 1 1 true) [(Opd.t 14), (Opd.t 16)] none) (Plan.take
  (AOper.mk (some 18) (AK.build [(AV.v (Go.Value.int Go.IntKind.i64 0)), (AV.v (Go.Value.int Go.IntKind.i64 0)), (AV.os 1 [])] [(0, 1), (1, 1), (2, 1)]) [(Opd.t 11), (Opd.t 13), (Opd.t 17)] none)
 (Plan.alt
  (AOper.mk (some 19) (AK.bsl 1) [] none)
 (Plan.alt
  (AOper.mk (some 21) (AK.app 1 8 true) [(Opd.t 19), (Opd.t 20)] none)
 (Plan.alt
  (AOper.mk (some 23) (AK.call 81 []) [(Opd.t 22)] none) (Plan.take
  (AOper.mk (some 25) (AK.build [(AV.v (Go.Value.int Go.IntKind.i64 0)), (AV.v (Go.Value.int Go.IntKind.i64 0)), (AV.os 1 []), (AV.os 1 []), (AV.os 1 []), (AV.os 1 [])] [(0, 3), (3, 1), (4, 1), (5, 1)]) [(Opd.t 18), (Opd.t 21), (Opd.t 23), (Opd.t 24)] none)
 (Plan.alt
  (AOper.mk none (AK.store 6) [(Opd.t 4), (Opd.t 25)] none) Plan.done Plan.stop)) Plan.stop) Plan.stop) Plan.stop))
 (Plan.alt
  (AOper.mk (some 19) (AK.bsl 1) [] none)
 (Plan.alt
  (AOper.mk (some 17) (AK.app 1 1 true) [(Opd.t 14), (Opd.t 16)] none) (Plan.take
  (AOper.mk (some 18) (AK.build [(AV.v (Go.Value.int Go.IntKind.i64 0)), (AV.v (Go.Value.int Go.IntKind.i64 0)), (AV.os 1 [])] [(0, 1), (1, 1), (2, 1)]) [(Opd.t 11), (Opd.t 13), (Opd.t 17)] none)
 (Plan.alt
  (AOper.mk (some 21) (AK.app 1 8 true) [(Opd.t 19), (Opd.t 20)] none)
 (Plan.alt
  (AOper.mk (some 23) (AK.call 81 []) [(Opd.t 22)] none) (Plan.take
  (AOper.mk (some 25) (AK.build [(AV.v (Go.Value.int Go.IntKind.i64 0)), (AV.v (Go.Value.int Go.IntKind.i64 0)), (AV.os 1 []), (AV.os 1 []), (AV.os 1 []), (AV.os 1 [])] [(0, 3), (3, 1), (4, 1), (5, 1)]) [(Opd.t 18), (Opd.t 21), (Opd.t 23), (Opd.t 24)] none)
 (Plan.alt
  (AOper.mk none (AK.store 6) [(Opd.t 4), (Opd.t 25)] none) Plan.done Plan.stop)) Plan.stop) Plan.stop)) Plan.stop) Plan.stop))
 (Plan.alt
  (AOper.mk (some 19) (AK.bsl 1) [] none)
 (Plan.alt
  (AOper.mk (some 14) (AK.bsl 1) [] none)
 (Plan.alt
  (AOper.mk (some 17) (AK.app 1 1 true) [(Opd.t 14), (Opd.t 16)] none) (Plan.take
  (AOper.mk (some 18) (AK.build [(AV.v (Go.Value.int Go.IntKind.i64 0)), (AV.v (Go.Value.int Go.IntKind.i64 0)), (AV.os 1 [])] [(0, 1), (1, 1), (2, 1)]) [(Opd.t 11), (Opd.t 13), (Opd.t 17)] none)
 (Plan.alt
  (AOper.mk (some 21) (AK.app 1 8 true) [(Opd.t 19), (Opd.t 20)] none)
 (Plan.alt
  (AOper.mk (some 23) (AK.call 81 []) [(Opd.t 22)] none) (Plan.take
  (AOper.mk (some 25) (AK.build [(AV.v (Go.Value.int Go.IntKind.i64 0)), (AV.v (Go.Value.int Go.IntKind.i64 0)), (AV.os 1 []), (AV.os 1 []), (AV.os 1 []), (AV.os 1 [])] [(0, 3), (3, 1), (4, 1), (5, 1)]) [(Opd.t 18), (Opd.t 21), (Opd.t 23), (Opd.t 24)] none)
 (Plan.alt
  (AOper.mk none (AK.store 6) [(Opd.t 4), (Opd.t 25)] none) Plan.done Plan.stop)) Plan.stop) Plan.stop)) Plan.stop) Plan.stop) Plan.stop)) Plan.stop))))

def c_spec_BookNew : BCode :=
(BCode.seq
 (BCode.base (ACode.reg [(AOper.mk (some 2) AK.box [(Opd.t 0)] none),
  (AOper.mk (some 4) (AK.alloc [(AV.v (Go.Value.int Go.IntKind.i64 0)), (AV.v (Go.Value.int Go.IntKind.i64 0)), (AV.os 1 []), (AV.os 1 []), (AV.os 1 []), (AV.os 1 [])]) [] none)]))
 (BCode.seq
 (BCode.base (ACode.seq (ACode.reg [(AOper.mk (some 5) (AK.load true 3) [(Opd.t 2)] none),
  (AOper.mk (some 6) AK.mv [(Opd.t 1)] none),
  (AOper.mk (some 7) (AK.call 71 []) [(Opd.t 5), (Opd.t 6)] none),
  (AOper.mk (some 8) (AK.un Go.UnOp.not) [(Opd.t 7)] none)]) (ACode.cond (Opd.t 8) (ACode.seq (ACode.reg [(AOper.mk (some 9) (AK.build [(AV.v (Go.Value.int Go.IntKind.i64 0)), (AV.v (Go.Value.int Go.IntKind.i64 0)), (AV.os 1 []), (AV.os 1 []), (AV.os 1 []), (AV.os 1 [])] []) [] none),
  (AOper.mk none (AK.store 6) [(Opd.t 4), (Opd.t 9)] none)]) ACode.ret) ACode.skip)))
 (BCode.seq
 (BCode.frz 2 c_spec_BookNew_E)
 (BCode.base ACode.ret))))

theorem k_spec_BookNew : cFnB Try.prog n_spec_BookNew 26 [(RV.c 4 true 6)] c_spec_BookNew := ⟨Try.f30, _, Try.func30, rfl, by kernel_rfl, by kernel_rfl, by kernel_rfl, by kernel_rfl⟩

-- printed by program: impl_BookNew
@[simp] abbrev n_impl_BookNew : Nat := 31
def c_impl_BookNew_E : BCode :=
(BCode.early [(AOper.mk (some 10) (AK.fadr 0) [(Opd.t 2)] none),
  (AOper.mk (some 11) (AK.load false 1) [(Opd.t 10)] none),
  (AOper.mk (some 12) (AK.fadr 1) [(Opd.t 2)] none),
  (AOper.mk (some 13) (AK.load false 1) [(Opd.t 12)] none),
  (AOper.mk (some 14) (AK.fadr 2) [(Opd.t 2)] none),
  (AOper.mk (some 15) (AK.load false 1) [(Opd.t 14)] none),
  (AOper.mk (some 18) AK.mv [(Opd.t 1)] none),
  (AOper.mk (some 20) AK.mv [(Opd.t 1)] none),
  (AOper.mk (some 21) (AK.len false) [(Opd.t 20)] none)]
 (Plan.alt
  (AOper.mk (some 16) (AK.call 82 []) [(Opd.t 15)] none) (Plan.take
  (AOper.mk (some 17) (AK.build [(AV.v (Go.Value.int Go.IntKind.i64 0)), (AV.v (Go.Value.int Go.IntKind.i64 0)), (AV.os 1 [])] [(0, 1), (1, 1), (2, 1)]) [(Opd.t 11), (Opd.t 13), (Opd.t 16)] none)
 (Plan.alt
  (AOper.mk (some 19) (AK.call 83 []) [(Opd.t 18)] none)
 (Plan.alt
  (AOper.mk (some 22) (AK.mksl 1 8 (AV.v (Go.Value.int Go.IntKind.i64 0))) [(Opd.t 21), (Opd.t 21)] none) (Plan.take
  (AOper.mk (some 23) (AK.build [(AV.v (Go.Value.int Go.IntKind.i64 0)), (AV.v (Go.Value.int Go.IntKind.i64 0)), (AV.os 1 []), (AV.os 1 []), (AV.os 1 []), (AV.os 1 [])] [(0, 3), (3, 1), (4, 1), (5, 1)]) [(Opd.t 17), (Opd.t 19), (Opd.t 22), (Opd.c (AV.os 1 []))] none)
 (Plan.alt
  (AOper.mk none (AK.store 6) [(Opd.t 4), (Opd.t 23)] none) Plan.done Plan.stop)) Plan.stop)
 (Plan.alt
  (AOper.mk (some 22) (AK.mksl 1 8 (AV.v (Go.Value.int Go.IntKind.i64 0))) [(Opd.t 21), (Opd.t 21)] none)
 (Plan.alt
  (AOper.mk (some 19) (AK.call 83 []) [(Opd.t 18)] none) (Plan.take
  (AOper.mk (some 23) (AK.build [(AV.v (Go.Value.int Go.IntKind.i64 0)), (AV.v (Go.Value.int Go.IntKind.i64 0)), (AV.os 1 []), (AV.os 1 []), (AV.os 1 []), (AV.os 1 [])] [(0, 3), (3, 1), (4, 1), (5, 1)]) [(Opd.t 17), (Opd.t 19), (Opd.t 22), (Opd.c (AV.os 1 []))] none)
 (Plan.alt
  (AOper.mk none (AK.store 6) [(Opd.t 4), (Opd.t 23)] none) Plan.done Plan.stop)) Plan.stop) Plan.stop)))
 (Plan.alt
  (AOper.mk (some 22) (AK.mksl 1 8 (AV.v (Go.Value.int Go.IntKind.i64 0))) [(Opd.t 21), (Opd.t 21)] none)
 (Plan.alt
  (AOper.mk (some 16) (AK.call 82 []) [(Opd.t 15)] none) (Plan.take
  (AOper.mk (some 17) (AK.build [(AV.v (Go.Value.int Go.IntKind.i64 0)), (AV.v (Go.Value.int Go.IntKind.i64 0)), (AV.os 1 [])] [(0, 1), (1, 1), (2, 1)]) [(Opd.t 11), (Opd.t 13), (Opd.t 16)] none)
 (Plan.alt
  (AOper.mk (some 19) (AK.call 83 []) [(Opd.t 18)] none) (Plan.take
  (AOper.mk (some 23) (AK.build [(AV.v (Go.Value.int Go.IntKind.i64 0)), (AV.v (Go.Value.int Go.IntKind.i64 0)), (AV.os 1 []), (AV.os 1 []), (AV.os 1 []), (AV.os 1 [])] [(0, 3), (3, 1), (4, 1), (5, 1)]) [(Opd.t 17), (Opd.t 19), (Opd.t 22), (Opd.c (AV.os 1 []))] none)
 (Plan.alt
  (AOper.mk none (AK.store 6) [(Opd.t 4), (Opd.t 23)] none) Plan.done Plan.stop)) Plan.stop)) Plan.stop) Plan.stop)))

def c_impl_BookNew : BCode :=
(BCode.seq
 (BCode.base (ACode.reg [(AOper.mk (some 2) AK.box [(Opd.t 0)] none),
  (AOper.mk (some 4) (AK.alloc [(AV.v (Go.Value.int Go.IntKind.i64 0)), (AV.v (Go.Value.int Go.IntKind.i64 0)), (AV.os 1 []), (AV.os 1 []), (AV.os 1 []), (AV.os 1 [])]) [] none)]))
 (BCode.seq
 (BCode.base (ACode.seq (ACode.reg [(AOper.mk (some 5) (AK.load true 3) [(Opd.t 2)] none),
  (AOper.mk (some 6) AK.mv [(Opd.t 1)] none),
  (AOper.mk (some 7) (AK.call 76 []) [(Opd.t 5), (Opd.t 6)] none),
  (AOper.mk (some 8) (AK.un Go.UnOp.not) [(Opd.t 7)] none)]) (ACode.cond (Opd.t 8) (ACode.seq (ACode.reg [(AOper.mk (some 9) (AK.build [(AV.v (Go.Value.int Go.IntKind.i64 0)), (AV.v (Go.Value.int Go.IntKind.i64 0)), (AV.os 1 []), (AV.os 1 []), (AV.os 1 []), (AV.os 1 [])] []) [] none),
  (AOper.mk none (AK.store 6) [(Opd.t 4), (Opd.t 9)] none)]) ACode.ret) ACode.skip)))
 (BCode.seq
 (BCode.frz 2 c_impl_BookNew_E)
 (BCode.base ACode.ret))))

theorem k_impl_BookNew : cFnB Try.prog n_impl_BookNew 24 [(RV.c 4 true 6)] c_impl_BookNew := ⟨Try.f31, _, Try.func31, rfl, by kernel_rfl, by kernel_rfl, by kernel_rfl, by kernel_rfl⟩

end Go.Proofs.Dev
