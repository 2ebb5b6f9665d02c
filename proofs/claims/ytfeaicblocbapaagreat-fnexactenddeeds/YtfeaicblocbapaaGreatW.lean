/- Contracts of the functions of the program over slots and rows, each proved against the program itself; no condition beyond those that each theorem names. -/
import Derived.Test.YtfeaicblocbapaaGreatN
import Derived.Test.YtfeaicblocbapaaGreatProg
import Derived.Test.YtfeaicblocbapaaGreatV
import Derived.Test.YtfeaicblocbapaaGreatJ

set_option linter.unusedSimpArgs false
set_option linter.unusedVariables false

namespace Go.Proofs.Dev

-- 2 parameters, results [.t 4], 12 slots, modes [false, false]
@[simp] abbrev n_laws_szIntS : Nat := 24

def c_laws_szIntS : ACode :=
  .seq (.reg [⟨(some 4), .mv, [.c (.v (.int .i64 (0)))], none⟩]) <|
  .seq (.reg [⟨(some 5), .mv, [.t 1], none⟩,
    ⟨(some 6), .mv, [.t 0], none⟩,
    ⟨(some 7), .len false, [.t 6], none⟩,
    ⟨(some 8), .bin .sub 0, [.t 5, .t 7], none⟩,
    ⟨(some 1), .mv, [.t 8], none⟩]) <|
  .seq (.seq (.reg [⟨(some 9), .mv, [.t 1], none⟩,
    ⟨(some 10), .bin .lss 0, [.t 9, .c (.v (.int .i64 (0)))], none⟩]) <|
  .cond (.t 10) (
    .seq (.reg [⟨(some 4), .mv, [.c (.v (.int .i64 (-1)))], none⟩]) <|
    .ret) (
    .skip)) <|
  .seq (.reg [⟨(some 11), .mv, [.t 1], none⟩,
    ⟨(some 4), .mv, [.t 11], none⟩]) <|
  .ret

theorem k_laws_szIntS : cFn Tryz.prog n_laws_szIntS 12 [.t 4] c_laws_szIntS := ⟨Tryz.f24, _, Tryz.func24, rfl, by kernel_rfl, by kernel_rfl, by kernel_rfl, by kernel_rfl⟩

-- 2 parameters, results [.t 4], 27 slots, modes [false, false]
@[simp] abbrev n_laws_szIntSS : Nat := 25
def c_laws_szIntSS_L0 : ACode :=
  .seq (.seq (.reg [⟨(some 12), .mv, [.t 5], none⟩,
    ⟨(some 13), .mv, [.t 0], none⟩,
    ⟨(some 14), .len false, [.t 13], none⟩,
    ⟨(some 15), .bin .lss 0, [.t 12, .t 14], none⟩]) <|
  .cond (.t 15) (
    .skip) (
    .exit 0)) <|
  .seq (.block 1 (
    .seq (.reg [⟨(some 18), .mv, [.t 0], none⟩,
      ⟨(some 19), .mv, [.t 5], none⟩,
      ⟨(some 20), .iadr 1, [.t 18, .t 19], none⟩,
      ⟨(some 21), .load false 1, [.t 20], none⟩,
      ⟨(some 22), .mv, [.t 1], none⟩,
      ⟨(some 23), .call 24 [], [.t 21, .t 22], none⟩,
      ⟨(some 1), .mv, [.t 23], none⟩]) <|
    .seq (.reg [⟨(some 24), .mv, [.t 1], none⟩,
      ⟨(some 25), .bin .lss 0, [.t 24, .c (.v (.int .i64 (0)))], none⟩]) <|
    .cond (.t 25) (
      .seq (.reg [⟨(some 4), .mv, [.c (.v (.int .i64 (-1)))], none⟩]) <|
      .ret) (
      .skip))) <|
  .reg [⟨(some 16), .mv, [.t 5], none⟩,
    ⟨(some 17), .bin .add 0, [.t 16, .c (.v (.int .i64 (1)))], none⟩,
    ⟨(some 5), .mv, [.t 17], none⟩]

def c_laws_szIntSS : ACode :=
  .seq (.reg [⟨(some 4), .mv, [.c (.v (.int .i64 (0)))], none⟩]) <|
  .seq (.reg [⟨(some 6), .mv, [.t 1], none⟩,
    ⟨(some 7), .mv, [.t 0], none⟩,
    ⟨(some 8), .len false, [.t 7], none⟩,
    ⟨(some 9), .bin .sub 0, [.t 6, .t 8], none⟩,
    ⟨(some 1), .mv, [.t 9], none⟩]) <|
  .seq (.seq (.reg [⟨(some 10), .mv, [.t 1], none⟩,
    ⟨(some 11), .bin .lss 0, [.t 10, .c (.v (.int .i64 (0)))], none⟩]) <|
  .cond (.t 11) (
    .seq (.reg [⟨(some 4), .mv, [.c (.v (.int .i64 (-1)))], none⟩]) <|
    .ret) (
    .skip)) <|
  .seq (.seq (.reg [⟨(some 5), .mv, [.c (.v (.int .i64 (0)))], none⟩]) <|
  .block 0 (
    .loop [(0, 1)] [0, 1, 5] c_laws_szIntSS_L0)) <|
  .seq (.reg [⟨(some 26), .mv, [.t 1], none⟩,
    ⟨(some 4), .mv, [.t 26], none⟩]) <|
  .ret

theorem k_laws_szIntSS : cFn Tryz.prog n_laws_szIntSS 27 [.t 4] c_laws_szIntSS := ⟨Tryz.f25, _, Tryz.func25, rfl, by kernel_rfl, by kernel_rfl, by kernel_rfl, by kernel_rfl⟩

-- 1 parameters, results [.t 2], 23 slots, modes [false]
@[simp] abbrev n_laws_toIntSS : Nat := 31
def c_laws_toIntSS_L0 : ACode :=
  .seq (.seq (.reg [⟨(some 8), .mv, [.t 4], none⟩,
    ⟨(some 9), .mv, [.t 0], none⟩,
    ⟨(some 10), .len false, [.t 9], none⟩,
    ⟨(some 11), .bin .lss 0, [.t 8, .t 10], none⟩]) <|
  .cond (.t 11) (
    .skip) (
    .exit 0)) <|
  .seq (.block 1 (
    .reg [⟨(some 14), .mv, [.t 3], none⟩,
      ⟨(some 15), .mv, [.t 4], none⟩,
      ⟨(some 16), .mv, [.t 0], none⟩,
      ⟨(some 17), .mv, [.t 4], none⟩,
      ⟨(some 18), .iadr 1, [.t 16, .t 17], none⟩,
      ⟨(some 19), .load false 1, [.t 18], none⟩,
      ⟨(some 20), .call 30 [], [.t 19], none⟩,
      ⟨(some 21), .iadr 1, [.t 14, .t 15], none⟩,
      ⟨none, .store 1, [.t 21, .t 20], none⟩])) <|
  .reg [⟨(some 12), .mv, [.t 4], none⟩,
    ⟨(some 13), .bin .add 0, [.t 12, .c (.v (.int .i64 (1)))], none⟩,
    ⟨(some 4), .mv, [.t 13], none⟩]

def c_laws_toIntSS : ACode :=
  .seq (.reg [⟨(some 2), .mv, [.c (.os 1 [])], none⟩]) <|
  .seq (.reg [⟨(some 5), .mv, [.t 0], none⟩,
    ⟨(some 6), .len false, [.t 5], none⟩,
    ⟨(some 7), .mksl 1 24 (.os 1 []), [.t 6, .t 6], none⟩,
    ⟨(some 3), .mv, [.t 7], none⟩]) <|
  .seq (.seq (.reg [⟨(some 4), .mv, [.c (.v (.int .i64 (0)))], none⟩]) <|
  .block 0 (
    .loop [(0, 1), (3, 1)] [0, 3, 4] c_laws_toIntSS_L0)) <|
  .seq (.reg [⟨(some 22), .mv, [.t 3], none⟩,
    ⟨(some 2), .mv, [.t 22], none⟩]) <|
  .ret

theorem k_laws_toIntSS : cFn Tryz.prog n_laws_toIntSS 23 [.t 2] c_laws_toIntSS := ⟨Tryz.f31, _, Tryz.func31, rfl, by kernel_rfl, by kernel_rfl, by kernel_rfl, by kernel_rfl⟩

-- 2 parameters, results [.t 4], 30 slots, modes [false, false]
@[simp] abbrev n_laws_szBook : Nat := 6

def c_laws_szBook : ACode :=
  .seq (.reg [⟨(some 2), .box, [.t 0], none⟩,
    ⟨(some 4), .mv, [.c (.v (.int .i64 (0)))], none⟩]) <|
  .seq (.reg [⟨(some 5), .fadr 0, [.t 2], none⟩,
    ⟨(some 6), .load true 3, [.t 5], none⟩,
    ⟨(some 7), .mv, [.t 1], none⟩,
    ⟨(some 8), .call 23 [], [.t 6, .t 7], none⟩,
    ⟨(some 1), .mv, [.t 8], none⟩]) <|
  .seq (.seq (.reg [⟨(some 9), .mv, [.t 1], none⟩,
    ⟨(some 10), .bin .lss 0, [.t 9, .c (.v (.int .i64 (0)))], none⟩]) <|
  .cond (.t 10) (
    .seq (.reg [⟨(some 4), .mv, [.c (.v (.int .i64 (-1)))], none⟩]) <|
    .ret) (
    .skip)) <|
  .seq (.reg [⟨(some 11), .fadr 3, [.t 2], none⟩,
    ⟨(some 12), .load false 1, [.t 11], none⟩,
    ⟨(some 13), .mv, [.t 1], none⟩,
    ⟨(some 14), .call 24 [], [.t 12, .t 13], none⟩,
    ⟨(some 1), .mv, [.t 14], none⟩]) <|
  .seq (.seq (.reg [⟨(some 15), .mv, [.t 1], none⟩,
    ⟨(some 16), .bin .lss 0, [.t 15, .c (.v (.int .i64 (0)))], none⟩]) <|
  .cond (.t 16) (
    .seq (.reg [⟨(some 4), .mv, [.c (.v (.int .i64 (-1)))], none⟩]) <|
    .ret) (
    .skip)) <|
  .seq (.reg [⟨(some 17), .fadr 4, [.t 2], none⟩,
    ⟨(some 18), .load false 1, [.t 17], none⟩,
    ⟨(some 19), .mv, [.t 1], none⟩,
    ⟨(some 20), .call 24 [], [.t 18, .t 19], none⟩,
    ⟨(some 1), .mv, [.t 20], none⟩]) <|
  .seq (.seq (.reg [⟨(some 21), .mv, [.t 1], none⟩,
    ⟨(some 22), .bin .lss 0, [.t 21, .c (.v (.int .i64 (0)))], none⟩]) <|
  .cond (.t 22) (
    .seq (.reg [⟨(some 4), .mv, [.c (.v (.int .i64 (-1)))], none⟩]) <|
    .ret) (
    .skip)) <|
  .seq (.reg [⟨(some 23), .fadr 5, [.t 2], none⟩,
    ⟨(some 24), .load false 1, [.t 23], none⟩,
    ⟨(some 25), .mv, [.t 1], none⟩,
    ⟨(some 26), .call 25 [], [.t 24, .t 25], none⟩,
    ⟨(some 1), .mv, [.t 26], none⟩]) <|
  .seq (.seq (.reg [⟨(some 27), .mv, [.t 1], none⟩,
    ⟨(some 28), .bin .lss 0, [.t 27, .c (.v (.int .i64 (0)))], none⟩]) <|
  .cond (.t 28) (
    .seq (.reg [⟨(some 4), .mv, [.c (.v (.int .i64 (-1)))], none⟩]) <|
    .ret) (
    .skip)) <|
  .seq (.reg [⟨(some 29), .mv, [.t 1], none⟩,
    ⟨(some 4), .mv, [.t 29], none⟩]) <|
  .ret

theorem k_laws_szBook : cFn Tryz.prog n_laws_szBook 30 [.t 4] c_laws_szBook := ⟨Tryz.f6, _, Tryz.func6, rfl, by kernel_rfl, by kernel_rfl, by kernel_rfl, by kernel_rfl⟩

-- 1 parameters, results [.c 2 true 6], 21 slots, modes [false]
@[simp] abbrev n_laws_toBook : Nat := 8

def c_laws_toBook : ACode :=
  .seq (.reg [⟨(some 1), .box, [.t 0], none⟩,
    ⟨(some 2), .alloc [.v (.int .i64 (0)), .v (.int .i64 (0)), .os 1 [], .os 1 [], .os 1 [], .os 1 []], [], none⟩]) <|
  .seq (.reg [⟨(some 3), .alloc [.v (.int .i64 (0)), .v (.int .i64 (0)), .os 1 [], .os 1 [], .os 1 [], .os 1 []], [], none⟩]) <|
  .seq (.reg [⟨(some 4), .fadr 0, [.t 1], none⟩,
    ⟨(some 5), .load true 3, [.t 4], none⟩,
    ⟨(some 6), .call 29 [], [.t 5], none⟩,
    ⟨(some 7), .fadr 0, [.t 3], none⟩,
    ⟨none, .store 3, [.t 7, .t 6], none⟩]) <|
  .seq (.reg [⟨(some 8), .fadr 3, [.t 1], none⟩,
    ⟨(some 9), .load false 1, [.t 8], none⟩,
    ⟨(some 10), .call 30 [], [.t 9], none⟩,
    ⟨(some 11), .fadr 3, [.t 3], none⟩,
    ⟨none, .store 1, [.t 11, .t 10], none⟩]) <|
  .seq (.reg [⟨(some 12), .fadr 4, [.t 1], none⟩,
    ⟨(some 13), .load false 1, [.t 12], none⟩,
    ⟨(some 14), .call 30 [], [.t 13], none⟩,
    ⟨(some 15), .fadr 4, [.t 3], none⟩,
    ⟨none, .store 1, [.t 15, .t 14], none⟩]) <|
  .seq (.reg [⟨(some 16), .fadr 5, [.t 1], none⟩,
    ⟨(some 17), .load false 1, [.t 16], none⟩,
    ⟨(some 18), .call 31 [], [.t 17], none⟩,
    ⟨(some 19), .fadr 5, [.t 3], none⟩,
    ⟨none, .store 1, [.t 19, .t 18], none⟩]) <|
  .seq (.reg [⟨(some 20), .load true 6, [.t 3], none⟩,
    ⟨none, .store 6, [.t 2, .t 20], none⟩]) <|
  .ret

theorem k_laws_toBook : cFn Tryz.prog n_laws_toBook 21 [.c 2 true 6] c_laws_toBook := ⟨Tryz.f8, _, Tryz.func8, rfl, by kernel_rfl, by kernel_rfl, by kernel_rfl, by kernel_rfl⟩

-- 2 parameters, results [.t 4], 27 slots, modes [false, false]
@[simp] abbrev n_laws_eqIntSS : Nat := 37
def c_laws_eqIntSS_L0 : ACode :=
  .seq (.seq (.reg [⟨(some 11), .mv, [.t 5], none⟩,
    ⟨(some 12), .mv, [.t 0], none⟩,
    ⟨(some 13), .len false, [.t 12], none⟩,
    ⟨(some 14), .bin .lss 0, [.t 11, .t 13], none⟩]) <|
  .cond (.t 14) (
    .skip) (
    .exit 0)) <|
  .seq (.block 1 (
    .seq (.draw (
      .take ⟨(some 17), .mv, [.t 0], none⟩ <|
      .take ⟨(some 18), .mv, [.t 5], none⟩ <|
      .take ⟨(some 19), .iadr 1, [.t 17, .t 18], none⟩ <|
      .take ⟨(some 21), .mv, [.t 1], none⟩ <|
      .take ⟨(some 22), .mv, [.t 5], none⟩ <|
      .take ⟨(some 23), .iadr 1, [.t 21, .t 22], none⟩ <|
      .alt ⟨(some 20), .load false 1, [.t 19], none⟩ (
        .alt ⟨(some 24), .load false 1, [.t 23], none⟩ (
          .alt ⟨(some 25), .call 36 [], [.t 20, .t 24], none⟩ (
            .take ⟨(some 26), .un .not, [.t 25], none⟩ <|
            .done) <|
          .stop) <|
        .stop) <|
      .alt ⟨(some 24), .load false 1, [.t 23], none⟩ (
        .alt ⟨(some 20), .load false 1, [.t 19], none⟩ (
          .alt ⟨(some 25), .call 36 [], [.t 20, .t 24], none⟩ (
            .take ⟨(some 26), .un .not, [.t 25], none⟩ <|
            .done) <|
          .stop) <|
        .stop) <|
      .stop)) <|
    .cond (.t 26) (
      .seq (.reg [⟨(some 4), .mv, [.c (.v (.bool false))], none⟩]) <|
      .ret) (
      .skip))) <|
  .reg [⟨(some 15), .mv, [.t 5], none⟩,
    ⟨(some 16), .bin .add 0, [.t 15, .c (.v (.int .i64 (1)))], none⟩,
    ⟨(some 5), .mv, [.t 16], none⟩]

def c_laws_eqIntSS : ACode :=
  .seq (.reg [⟨(some 4), .mv, [.c (.v (.bool false))], none⟩]) <|
  .seq (.seq (.reg [⟨(some 6), .mv, [.t 0], none⟩,
    ⟨(some 7), .len false, [.t 6], none⟩,
    ⟨(some 8), .mv, [.t 1], none⟩,
    ⟨(some 9), .len false, [.t 8], none⟩,
    ⟨(some 10), .bin .neq 0, [.t 7, .t 9], none⟩]) <|
  .cond (.t 10) (
    .seq (.reg [⟨(some 4), .mv, [.c (.v (.bool false))], none⟩]) <|
    .ret) (
    .skip)) <|
  .seq (.seq (.reg [⟨(some 5), .mv, [.c (.v (.int .i64 (0)))], none⟩]) <|
  .block 0 (
    .loop [(0, 1), (1, 1)] [0, 1, 5] c_laws_eqIntSS_L0)) <|
  .seq (.reg [⟨(some 4), .mv, [.c (.v (.bool true))], none⟩]) <|
  .ret

theorem k_laws_eqIntSS : cFn Tryz.prog n_laws_eqIntSS 27 [.t 4] c_laws_eqIntSS := ⟨Tryz.f37, _, Tryz.func37, rfl, by kernel_rfl, by kernel_rfl, by kernel_rfl, by kernel_rfl⟩

-- 2 parameters, results [.t 4], 29 slots, modes [false, false]
@[simp] abbrev n_laws_eqBook : Nat := 11

def c_laws_eqBook : ACode :=
  .seq (.reg [⟨(some 2), .box, [.t 0], none⟩,
    ⟨(some 3), .box, [.t 1], none⟩,
    ⟨(some 4), .mv, [.c (.v (.bool false))], none⟩]) <|
  .seq (.seq (.reg [⟨(some 5), .fadr 0, [.t 2], none⟩,
    ⟨(some 6), .load true 3, [.t 5], none⟩,
    ⟨(some 7), .fadr 0, [.t 3], none⟩,
    ⟨(some 8), .load true 3, [.t 7], none⟩,
    ⟨(some 9), .call 35 [], [.t 6, .t 8], none⟩,
    ⟨(some 10), .un .not, [.t 9], none⟩]) <|
  .cond (.t 10) (
    .seq (.reg [⟨(some 4), .mv, [.c (.v (.bool false))], none⟩]) <|
    .ret) (
    .skip)) <|
  .seq (.seq (.reg [⟨(some 11), .fadr 3, [.t 2], none⟩,
    ⟨(some 12), .load false 1, [.t 11], none⟩,
    ⟨(some 13), .fadr 3, [.t 3], none⟩,
    ⟨(some 14), .load false 1, [.t 13], none⟩,
    ⟨(some 15), .call 36 [], [.t 12, .t 14], none⟩,
    ⟨(some 16), .un .not, [.t 15], none⟩]) <|
  .cond (.t 16) (
    .seq (.reg [⟨(some 4), .mv, [.c (.v (.bool false))], none⟩]) <|
    .ret) (
    .skip)) <|
  .seq (.seq (.reg [⟨(some 17), .fadr 4, [.t 2], none⟩,
    ⟨(some 18), .load false 1, [.t 17], none⟩,
    ⟨(some 19), .fadr 4, [.t 3], none⟩,
    ⟨(some 20), .load false 1, [.t 19], none⟩,
    ⟨(some 21), .call 36 [], [.t 18, .t 20], none⟩,
    ⟨(some 22), .un .not, [.t 21], none⟩]) <|
  .cond (.t 22) (
    .seq (.reg [⟨(some 4), .mv, [.c (.v (.bool false))], none⟩]) <|
    .ret) (
    .skip)) <|
  .seq (.seq (.reg [⟨(some 23), .fadr 5, [.t 2], none⟩,
    ⟨(some 24), .load false 1, [.t 23], none⟩,
    ⟨(some 25), .fadr 5, [.t 3], none⟩,
    ⟨(some 26), .load false 1, [.t 25], none⟩,
    ⟨(some 27), .call 37 [], [.t 24, .t 26], none⟩,
    ⟨(some 28), .un .not, [.t 27], none⟩]) <|
  .cond (.t 28) (
    .seq (.reg [⟨(some 4), .mv, [.c (.v (.bool false))], none⟩]) <|
    .ret) (
    .skip)) <|
  .seq (.reg [⟨(some 4), .mv, [.c (.v (.bool true))], none⟩]) <|
  .ret

theorem k_laws_eqBook : cFn Tryz.prog n_laws_eqBook 29 [.t 4] c_laws_eqBook := ⟨Tryz.f11, _, Tryz.func11, rfl, by kernel_rfl, by kernel_rfl, by kernel_rfl, by kernel_rfl⟩

-- 1 parameters, results [.t 2], 35 slots, modes [false]
@[simp] abbrev n_spec_BookValid : Nat := 28
def c_spec_BookValid_L0 : ACode :=
  .seq (.seq (.reg [⟨(some 4), .mv, [.t 3], none⟩,
    ⟨(some 5), .fadr 5, [.t 1], none⟩,
    ⟨(some 6), .load false 1, [.t 5], none⟩,
    ⟨(some 7), .len false, [.t 6], none⟩,
    ⟨(some 8), .bin .lss 0, [.t 4, .t 7], none⟩]) <|
  .cond (.t 8) (
    .skip) (
    .exit 0)) <|
  .seq (.block 1 (
    .seq (.draw (
      .take ⟨(some 11), .fadr 0, [.t 1], none⟩ <|
      .take ⟨(some 13), .fadr 3, [.t 1], none⟩ <|
      .take ⟨(some 15), .fadr 5, [.t 1], none⟩ <|
      .take ⟨(some 17), .mv, [.t 3], none⟩ <|
      .alt ⟨(some 12), .load true 3, [.t 11], none⟩ (
        .alt ⟨(some 14), .load false 1, [.t 13], none⟩ (
          .alt ⟨(some 16), .load false 1, [.t 15], none⟩ (
            .take ⟨(some 18), .iadr 1, [.t 16, .t 17], none⟩ <|
            .alt ⟨(some 19), .load false 1, [.t 18], none⟩ (
              .alt ⟨(some 20), .call 48 [], [.t 12, .t 14, .t 19], none⟩ (
                .take ⟨(some 21), .un .not, [.t 20], none⟩ <|
                .done) <|
              .stop) <|
            .stop) <|
          .stop) <|
        .alt ⟨(some 16), .load false 1, [.t 15], none⟩ (
          .take ⟨(some 18), .iadr 1, [.t 16, .t 17], none⟩ <|
          .alt ⟨(some 14), .load false 1, [.t 13], none⟩ (
            .alt ⟨(some 19), .load false 1, [.t 18], none⟩ (
              .alt ⟨(some 20), .call 48 [], [.t 12, .t 14, .t 19], none⟩ (
                .take ⟨(some 21), .un .not, [.t 20], none⟩ <|
                .done) <|
              .stop) <|
            .stop) <|
          .alt ⟨(some 19), .load false 1, [.t 18], none⟩ (
            .alt ⟨(some 14), .load false 1, [.t 13], none⟩ (
              .alt ⟨(some 20), .call 48 [], [.t 12, .t 14, .t 19], none⟩ (
                .take ⟨(some 21), .un .not, [.t 20], none⟩ <|
                .done) <|
              .stop) <|
            .stop) <|
          .stop) <|
        .stop) <|
      .alt ⟨(some 14), .load false 1, [.t 13], none⟩ (
        .alt ⟨(some 12), .load true 3, [.t 11], none⟩ (
          .alt ⟨(some 16), .load false 1, [.t 15], none⟩ (
            .take ⟨(some 18), .iadr 1, [.t 16, .t 17], none⟩ <|
            .alt ⟨(some 19), .load false 1, [.t 18], none⟩ (
              .alt ⟨(some 20), .call 48 [], [.t 12, .t 14, .t 19], none⟩ (
                .take ⟨(some 21), .un .not, [.t 20], none⟩ <|
                .done) <|
              .stop) <|
            .stop) <|
          .stop) <|
        .alt ⟨(some 16), .load false 1, [.t 15], none⟩ (
          .take ⟨(some 18), .iadr 1, [.t 16, .t 17], none⟩ <|
          .alt ⟨(some 12), .load true 3, [.t 11], none⟩ (
            .alt ⟨(some 19), .load false 1, [.t 18], none⟩ (
              .alt ⟨(some 20), .call 48 [], [.t 12, .t 14, .t 19], none⟩ (
                .take ⟨(some 21), .un .not, [.t 20], none⟩ <|
                .done) <|
              .stop) <|
            .stop) <|
          .alt ⟨(some 19), .load false 1, [.t 18], none⟩ (
            .alt ⟨(some 12), .load true 3, [.t 11], none⟩ (
              .alt ⟨(some 20), .call 48 [], [.t 12, .t 14, .t 19], none⟩ (
                .take ⟨(some 21), .un .not, [.t 20], none⟩ <|
                .done) <|
              .stop) <|
            .stop) <|
          .stop) <|
        .stop) <|
      .alt ⟨(some 16), .load false 1, [.t 15], none⟩ (
        .take ⟨(some 18), .iadr 1, [.t 16, .t 17], none⟩ <|
        .alt ⟨(some 12), .load true 3, [.t 11], none⟩ (
          .alt ⟨(some 14), .load false 1, [.t 13], none⟩ (
            .alt ⟨(some 19), .load false 1, [.t 18], none⟩ (
              .alt ⟨(some 20), .call 48 [], [.t 12, .t 14, .t 19], none⟩ (
                .take ⟨(some 21), .un .not, [.t 20], none⟩ <|
                .done) <|
              .stop) <|
            .stop) <|
          .alt ⟨(some 19), .load false 1, [.t 18], none⟩ (
            .alt ⟨(some 14), .load false 1, [.t 13], none⟩ (
              .alt ⟨(some 20), .call 48 [], [.t 12, .t 14, .t 19], none⟩ (
                .take ⟨(some 21), .un .not, [.t 20], none⟩ <|
                .done) <|
              .stop) <|
            .stop) <|
          .stop) <|
        .alt ⟨(some 14), .load false 1, [.t 13], none⟩ (
          .alt ⟨(some 12), .load true 3, [.t 11], none⟩ (
            .alt ⟨(some 19), .load false 1, [.t 18], none⟩ (
              .alt ⟨(some 20), .call 48 [], [.t 12, .t 14, .t 19], none⟩ (
                .take ⟨(some 21), .un .not, [.t 20], none⟩ <|
                .done) <|
              .stop) <|
            .stop) <|
          .alt ⟨(some 19), .load false 1, [.t 18], none⟩ (
            .alt ⟨(some 12), .load true 3, [.t 11], none⟩ (
              .alt ⟨(some 20), .call 48 [], [.t 12, .t 14, .t 19], none⟩ (
                .take ⟨(some 21), .un .not, [.t 20], none⟩ <|
                .done) <|
              .stop) <|
            .stop) <|
          .stop) <|
        .alt ⟨(some 19), .load false 1, [.t 18], none⟩ (
          .alt ⟨(some 12), .load true 3, [.t 11], none⟩ (
            .alt ⟨(some 14), .load false 1, [.t 13], none⟩ (
              .alt ⟨(some 20), .call 48 [], [.t 12, .t 14, .t 19], none⟩ (
                .take ⟨(some 21), .un .not, [.t 20], none⟩ <|
                .done) <|
              .stop) <|
            .stop) <|
          .alt ⟨(some 14), .load false 1, [.t 13], none⟩ (
            .alt ⟨(some 12), .load true 3, [.t 11], none⟩ (
              .alt ⟨(some 20), .call 48 [], [.t 12, .t 14, .t 19], none⟩ (
                .take ⟨(some 21), .un .not, [.t 20], none⟩ <|
                .done) <|
              .stop) <|
            .stop) <|
          .stop) <|
        .stop) <|
      .stop)) <|
    .cond (.t 21) (
      .seq (.reg [⟨(some 2), .mv, [.c (.v (.bool false))], none⟩]) <|
      .ret) (
      .skip))) <|
  .reg [⟨(some 9), .mv, [.t 3], none⟩,
    ⟨(some 10), .bin .add 0, [.t 9, .c (.v (.int .i64 (1)))], none⟩,
    ⟨(some 3), .mv, [.t 10], none⟩]

def c_spec_BookValid : ACode :=
  .seq (.reg [⟨(some 1), .box, [.t 0], none⟩,
    ⟨(some 2), .mv, [.c (.v (.bool false))], none⟩]) <|
  .seq (.seq (.reg [⟨(some 3), .mv, [.c (.v (.int .i64 (0)))], none⟩]) <|
  .block 0 (
    .loop [] [1, 3] c_spec_BookValid_L0)) <|
  .seq (.reg [⟨(some 22), .fadr 0, [.t 1], none⟩,
    ⟨(some 23), .load true 3, [.t 22], none⟩,
    ⟨(some 24), .fadr 3, [.t 1], none⟩,
    ⟨(some 25), .load false 1, [.t 24], none⟩,
    ⟨(some 26), .fadr 4, [.t 1], none⟩,
    ⟨(some 27), .load false 1, [.t 26], none⟩,
    ⟨(some 28), .call 48 [], [.t 23, .t 25, .t 27], none⟩,
    ⟨(some 29), .mv, [.t 28], none⟩,
    ⟨(some 30), .fadr 5, [.t 1], (some (29, true))⟩,
    ⟨(some 31), .load false 1, [.t 30], (some (29, true))⟩,
    ⟨(some 32), .len false, [.t 31], (some (29, true))⟩,
    ⟨(some 33), .bin .leq 0, [.t 32, .c (.v (.int .i64 (20)))], (some (29, true))⟩,
    ⟨(some 34), .pick, [.t 29, .t 33, .c (.v (.bool false))], none⟩,
    ⟨(some 2), .mv, [.t 34], none⟩]) <|
  .ret

theorem k_spec_BookValid : cFn Tryz.prog n_spec_BookValid 35 [.t 2] c_spec_BookValid := ⟨Tryz.f28, _, Tryz.func28, rfl, by kernel_rfl, by kernel_rfl, by kernel_rfl, by kernel_rfl⟩

-- 1 parameters, results [.t 3], 11 slots, modes [false]
@[simp] abbrev n_impl_BookValid_1 : Nat := 60

def c_impl_BookValid_1 : ACode :=
  .seq (.reg [⟨(some 3), .mv, [.c (.v (.bool false))], none⟩]) <|
  .seq (.reg [⟨(some 4), .fadr 0, [.t 1], none⟩,
    ⟨(some 5), .load true 3, [.t 4], none⟩,
    ⟨(some 6), .fadr 3, [.t 1], none⟩,
    ⟨(some 7), .load false 1, [.t 6], none⟩,
    ⟨(some 8), .mv, [.t 0], none⟩,
    ⟨(some 9), .call 58 [], [.t 5, .t 7, .t 8], none⟩,
    ⟨(some 10), .un .not, [.t 9], none⟩,
    ⟨(some 3), .mv, [.t 10], none⟩]) <|
  .ret

theorem k_impl_BookValid_1 : cFn Tryz.prog n_impl_BookValid_1 11 [.t 3] c_impl_BookValid_1 := ⟨Tryz.f60, _, Tryz.func60, rfl, by kernel_rfl, by kernel_rfl, by kernel_rfl, by kernel_rfl⟩

-- 2 parameters, results [.t 4], 19 slots, modes [false, false]
@[simp] abbrev n_slices_IndexFunc_int_int : Nat := 90
def c_slices_IndexFunc_int_int_L0 : ACode :=
  .seq (.reg [⟨(some 9), .bin .lss 0, [.t 8, .t 7], none⟩]) <|
  .seq (.cond (.t 9) (
    .skip) (
    .exit 0)) <|
  .seq (.block 1 (
    .seq (.reg [⟨(some 10), .mv, [.t 8], none⟩,
      ⟨(some 5), .mv, [.t 10], none⟩]) <|
    .seq (.reg [⟨(some 11), .mv, [.t 1], none⟩,
      ⟨(some 12), .mv, [.t 0], none⟩,
      ⟨(some 13), .mv, [.t 5], none⟩,
      ⟨(some 14), .iadr 1, [.t 12, .t 13], none⟩,
      ⟨(some 15), .load false 1, [.t 14], none⟩,
      ⟨(some 16), .callv [], [.t 11, .t 15], none⟩]) <|
    .cond (.t 16) (
      .seq (.reg [⟨(some 17), .mv, [.t 5], none⟩,
        ⟨(some 4), .mv, [.t 17], none⟩]) <|
      .ret) (
      .skip))) <|
  .reg [⟨(some 18), .bin .add 0, [.t 8, .c (.v (.int .i64 (1)))], none⟩,
    ⟨(some 8), .mv, [.t 18], none⟩]

def c_slices_IndexFunc_int_int : ACode :=
  .seq (.reg [⟨(some 4), .mv, [.c (.v (.int .i64 (0)))], none⟩]) <|
  .seq (.seq (.reg [⟨(some 6), .mv, [.t 0], none⟩,
    ⟨(some 7), .len false, [.t 6], none⟩,
    ⟨(some 8), .mv, [.c (.v (.int .i64 (0)))], none⟩]) <|
  .block 0 (
    .loop [(0, 1)] [0, 1, 7, 8] c_slices_IndexFunc_int_int_L0)) <|
  .seq (.reg [⟨(some 4), .mv, [.c (.v (.int .i64 (-1)))], none⟩]) <|
  .ret

theorem k_slices_IndexFunc_int_int : cFn Tryz.prog n_slices_IndexFunc_int_int 19 [.t 4] c_slices_IndexFunc_int_int := ⟨Tryz.f90, _, Tryz.func90, rfl, by kernel_rfl, by kernel_rfl, by kernel_rfl, by kernel_rfl⟩

-- 2 parameters, results [.t 4], 9 slots, modes [false, false]
@[simp] abbrev n_slices_ContainsFunc_int_int : Nat := 59

def c_slices_ContainsFunc_int_int : ACode :=
  .seq (.reg [⟨(some 4), .mv, [.c (.v (.bool false))], none⟩]) <|
  .seq (.reg [⟨(some 5), .mv, [.t 0], none⟩,
    ⟨(some 6), .mv, [.t 1], none⟩,
    ⟨(some 7), .call 90 [], [.t 5, .t 6], none⟩,
    ⟨(some 8), .bin .geq 0, [.t 7, .c (.v (.int .i64 (0)))], none⟩,
    ⟨(some 4), .mv, [.t 8], none⟩]) <|
  .ret

theorem k_slices_ContainsFunc_int_int : cFn Tryz.prog n_slices_ContainsFunc_int_int 9 [.t 4] c_slices_ContainsFunc_int_int := ⟨Tryz.f59, _, Tryz.func59, rfl, by kernel_rfl, by kernel_rfl, by kernel_rfl, by kernel_rfl⟩

-- 1 parameters, results [.t 2], 23 slots, modes [false]
@[simp] abbrev n_impl_BookValid : Nat := 32

def c_impl_BookValid : ACode :=
  .seq (.reg [⟨(some 1), .box, [.t 0], none⟩,
    ⟨(some 2), .mv, [.c (.v (.bool false))], none⟩]) <|
  .seq (.reg [⟨(some 3), .fadr 0, [.t 1], none⟩,
    ⟨(some 4), .load true 3, [.t 3], none⟩,
    ⟨(some 5), .fadr 3, [.t 1], none⟩,
    ⟨(some 6), .load false 1, [.t 5], none⟩,
    ⟨(some 7), .fadr 4, [.t 1], none⟩,
    ⟨(some 8), .load false 1, [.t 7], none⟩,
    ⟨(some 9), .call 58 [], [.t 4, .t 6, .t 8], none⟩,
    ⟨(some 10), .mv, [.t 9], none⟩,
    ⟨(some 11), .fadr 5, [.t 1], (some (10, true))⟩,
    ⟨(some 12), .load false 1, [.t 11], (some (10, true))⟩,
    ⟨(some 13), .len false, [.t 12], (some (10, true))⟩,
    ⟨(some 14), .bin .leq 0, [.t 13, .c (.v (.int .i64 (20)))], (some (10, true))⟩,
    ⟨(some 15), .pick, [.t 10, .t 14, .c (.v (.bool false))], none⟩,
    ⟨(some 16), .mv, [.t 15], none⟩,
    ⟨(some 17), .fadr 5, [.t 1], (some (16, true))⟩,
    ⟨(some 18), .load false 1, [.t 17], (some (16, true))⟩,
    ⟨(some 19), .mkfn 60, [.t 1], (some (16, true))⟩,
    ⟨(some 20), .call 59 [], [.t 18, .t 19], (some (16, true))⟩,
    ⟨(some 21), .un .not, [.t 20], (some (16, true))⟩,
    ⟨(some 22), .pick, [.t 16, .t 21, .c (.v (.bool false))], none⟩,
    ⟨(some 2), .mv, [.t 22], none⟩]) <|
  .ret

theorem k_impl_BookValid : cFn Tryz.prog n_impl_BookValid 23 [.t 2] c_impl_BookValid := ⟨Tryz.f32, _, Tryz.func32, rfl, by kernel_rfl, by kernel_rfl, by kernel_rfl, by kernel_rfl⟩

end Go.Proofs.Dev

namespace Go.Proofs.Dev
set_option linter.unusedSimpArgs false
set_option maxRecDepth 100000

/-- Lists of numbers, as elements of a row: read alone, and owned. -/
def sls (c : Nat) (ps : List (List Int)) : List AV := ps.map fun p => .sl c 1 (ints p)
def oss (ps : List (List Int)) : List AV := ps.map fun p => .os 1 (ints p)
def pti (ps : List (List Int)) (i : Int) : List Int := ps.getD i.toNat []

@[simp] theorem sls_length (c : Nat) (ps : List (List Int)) : (sls c ps).length = ps.length := by simp [sls]
@[simp] theorem oss_length (ps : List (List Int)) : (oss ps).length = ps.length := by simp [oss]
@[simp] theorem sls_nil (c : Nat) : sls c [] = [] := (rfl)
@[simp] theorem oss_nil : oss [] = [] := (rfl)
@[simp] theorem sls_eq_nil (c : Nat) (ps : List (List Int)) : (sls c ps = []) = (ps = []) := by cases ps <;> simp [sls]
@[simp] theorem oss_eq_nil (ps : List (List Int)) : (oss ps = []) = (ps = []) := by cases ps <;> simp [oss]
theorem oss_append (a b : List (List Int)) : oss (a ++ b) = oss a ++ oss b := by simp [oss]
theorem oss_one (a : List Int) : oss [a] = [.os 1 (ints a)] := (rfl)
@[simp] theorem iadr_sls_ite {c d : Nat} {k : IntKind} {ps : List (List Int)} {i : Int} : aiadr 1 (.sl c 1 (sls d ps)) (.v (.int k i)) = if 0 ≤ i ∧ i < ps.length then some (.vp c [.sl d 1 (ints (pti ps i))] 0) else none := by
  by_cases h : 0 ≤ i ∧ i < ps.length
  · rw [if_pos h]
    have h1 : i.toNat < ps.length := by omega
    simp [aiadr, h.1, sls, pti, h1]
  · rw [if_neg h]
    by_cases h0 : 0 ≤ i
    · have : ¬ i.toNat < ps.length := by omega
      simp [aiadr, h0, sls, this]
    · simp [aiadr, h0]
@[simp] theorem vwL_sls (c d : Nat) : ∀ ps : List (List Int), vwL c (sls d ps) = sls c ps
  | [] => rfl
  | p :: ps => by
    show vw c (.sl d 1 (ints p)) :: vwL c (sls d ps) = .sl c 1 (ints p) :: sls c ps
    rw [vwL_sls c d ps]; simp
@[simp] theorem vwL_oss (c : Nat) : ∀ ps : List (List Int), vwL c (oss ps) = sls c ps
  | [] => rfl
  | p :: ps => by
    show vw c (.os 1 (ints p)) :: vwL c (oss ps) = .sl c 1 (ints p) :: sls c ps
    rw [vwL_oss c ps]; simp
@[simp] theorem okL_sls (c : Nat) : ∀ ps : List (List Int), okL (sls c ps) = true
  | [] => rfl
  | p :: ps => by show (okE (.sl c 1 (ints p)) && okL (sls c ps)) = true; rw [okL_sls c ps]; simp
@[simp] theorem okL_oss : ∀ ps : List (List Int), okL (oss ps) = true
  | [] => rfl
  | p :: ps => by show (okE (.os 1 (ints p)) && okL (oss ps)) = true; rw [okL_oss ps]; simp
theorem oss_set (ps : List (List Int)) (i : Nat) (p : List Int) : (oss ps).set i (.os 1 (ints p)) = oss (ps.set i p) := by simp [oss, List.map_set]
theorem oss_rep (n : Nat) : List.replicate n (.os 1 []) = oss (List.replicate n []) := by simp [oss]
theorem take_oss (n : Nat) (ps : List (List Int)) : (oss ps).take n = oss (ps.take n) := by simp [oss]
@[simp] theorem take_oss_all (ps : List (List Int)) : (oss ps).take ps.length = oss ps := by rw [take_oss, List.take_length]
theorem pti_nat (ps : List (List Int)) (i : Nat) : pti ps (i : Int) = ps.getD i [] := by simp [pti]

theorem s_laws_szIntS (xs : List Int) (left : Int) (h0 : 0 ≤ left) (h1 : left < 2 ^ 60) (hb : xs.length ≤ 9223372036854775807) :
    SoundAt Tryz.prog n_laws_szIntS [.sl 1 1 (ints xs), .v (.int .i64 left)] (.v (.int .i64 (if left < xs.length then -1 else left - xs.length))) [.bot, .bot] := by
  refine fn_ok (md := md0) (ms := [false, false]) k_laws_szIntS (by simp) ?_
  simp [c_laws_szIntS]
  omega

def sumL (ps : List (List Int)) : Nat := (ps.map List.length).sum
theorem sumL_append (a b : List (List Int)) : sumL (a ++ b) = sumL a + sumL b := by
  unfold sumL; rw [List.map_append, List.sum_append]
theorem pti_get {ps : List (List Int)} {i : Nat} (h : i < ps.length) : pti ps i = ps[i] := by
  unfold pti; rw [Int.toNat_natCast, List.getD_eq_getElem?_getD, List.getElem?_eq_getElem h]; rfl
theorem sumL_succ {ps : List (List Int)} {i : Nat} (h : i < ps.length) : sumL (ps.take (i + 1)) = sumL (ps.take i) + (pti ps i).length := by
  rw [List.take_succ_eq_append_getElem h, sumL_append, pti_get h]
  unfold sumL; rfl
theorem sumL_le {ps : List (List Int)} {i : Nat} : sumL (ps.take i) ≤ sumL ps := by
  have h := sumL_append (ps.take i) (ps.drop i)
  rw [List.take_append_drop] at h
  omega
theorem pti_mem {ps : List (List Int)} {i : Nat} (h : i < ps.length) : pti ps i ∈ ps := by rw [pti_get h]; exact List.getElem_mem h
theorem pti_le {ps : List (List Int)} {i : Nat} (h : i < ps.length) : (pti ps i).length ≤ sumL ps := by
  have h1 := sumL_succ h
  have h2 := sumL_le (ps := ps) (i := i + 1)
  omega

theorem s_laws_szIntSS (ps : List (List Int)) (left : Int) (h0 : 0 ≤ left) (h1 : left < 2 ^ 60) (hb : ps.length ≤ 9223372036854775807) (hp : ∀ p ∈ ps, p.length ≤ 9223372036854775807) :
    SoundAt Tryz.prog n_laws_szIntSS [.sl 1 1 (sls 1 ps), .v (.int .i64 left)] (.v (.int .i64 (if left < ps.length + sumL ps then -1 else left - (ps.length + sumL ps)))) [.bot, .bot] := by
  refine fn_ok (md := md0) (ms := [false, false]) k_laws_szIntSS (by simp) ?_
  simp [c_laws_szIntSS]
  by_cases hn : left < ps.length
  · have h2 : left < ps.length + sumL ps := by omega
    simp [hn, h2]
    omega
  have hn' : ¬ left - ps.length < 0 := by omega
  simp [hn']
  refine ⟨by omega, ?_⟩
  intro _
  refine loop_by (fun m E H => ∃ i : Nat, m = ps.length - i ∧ i ≤ ps.length ∧ ps.length + sumL (ps.take i) ≤ left ∧ H = [] ∧ E = [(0, .sl 1 1 (sls 1 ps)), (1, .v (.int .i64 (left - ps.length - sumL (ps.take i)))), (5, .v (.int .i64 i))]) ps.length ⟨0, by simp [sumL]; omega⟩ ?_
  rintro J hJ m E H ⟨i, rfl, hi, hle, rfl, rfl⟩
  by_cases h : i < ps.length
  case neg =>
    have : i = ps.length := by omega
    subst this
    rw [List.take_length] at hle ⊢
    have h2 : ¬ left < ps.length + sumL ps := by omega
    simp [c_laws_szIntSS_L0, h2]
    omega
  have hs := sumL_succ h
  have hpl := hp _ (pti_mem h)
  have one := s_laws_szIntS (pti ps i) (left - ps.length - sumL (ps.take i)) (by omega) (by omega) hpl
  simp [c_laws_szIntSS_L0, h]
  refine call_on one ?_
  by_cases hx : left - ps.length - sumL (ps.take i) < (pti ps i).length
  · have h2 : left < ps.length + sumL ps := by
      have := sumL_le (ps := ps) (i := i + 1)
      omega
    simp [hx, h2]
  · have h2 : ¬ (left - ps.length - sumL (ps.take i) - (pti ps i).length < 0) := by omega
    have e : left - ps.length - sumL (ps.take i) - (pti ps i).length = left - ps.length - sumL (ps.take (i + 1)) := by omega
    rw [e] at h2
    simp [hx, e, h2]
    exact ⟨by omega, _, by omega, hJ _ _ _ ⟨i + 1, rfl, h, by omega, rfl, rfl⟩⟩

theorem s_laws_toIntSS (ps : List (List Int)) (hb : ps.length < 2 ^ 40) (hp : ∀ p ∈ ps, p.length < 2 ^ 40) :
    SoundAt Tryz.prog n_laws_toIntSS [.sl 1 1 (sls 1 ps)] (.os 1 (oss ps)) [.bot] := by
  refine fn_ok (md := md0) (ms := [false]) k_laws_toIntSS (by simp) ?_
  simp [c_laws_toIntSS]
  refine ⟨by omega, ?_⟩
  refine loop_by (fun m E H => ∃ i : Nat, m = ps.length - i ∧ i ≤ ps.length ∧ H = [some (.arr 1 (oss (ps.take i ++ List.replicate (ps.length - i) [])))] ∧ E = [(0, .sl 1 1 (sls 1 ps)), (3, .ls 1 0 0 ps.length), (4, .v (.int .i64 i))]) ps.length ⟨0, by simp [oss_rep]⟩ ?_
  rintro J hJ m E H ⟨i, rfl, hi, rfl, rfl⟩
  by_cases h : i < ps.length
  case neg =>
    have : i = ps.length := by omega
    subst this
    simp [c_laws_toIntSS_L0]
  simp [c_laws_toIntSS_L0, h]
  refine call_on (s_laws_toIntS (pti ps i) (hp _ (pti_mem h))) ?_
  simp
  refine ⟨h, by omega, by omega, _, by omega, hJ _ _ _ ⟨i + 1, rfl, h, ?_, rfl⟩⟩
  rw [oss_set, pti_nat, set_half ps [] [] i h]

/-- A book's argument, and a book that is owned. -/
@[simp] def bkA (W T : Int) (cs : List Bool) (ds ls : List Int) (ps : List (List Int)) : AV := .agg [.v (.int .i64 W), .v (.int .i64 T), .sl 1 1 (bools cs), .sl 1 1 (ints ds), .sl 1 1 (ints ls), .sl 1 1 (sls 1 ps)]
@[simp] def bkO (W T : Int) (cs : List Bool) (ds ls : List Int) (ps : List (List Int)) : AV := .agg [.v (.int .i64 W), .v (.int .i64 T), .os 1 (bools cs), .os 1 (ints ds), .os 1 (ints ls), .os 1 (oss ps)]

theorem s_laws_toBook (W T : Int) (cs : List Bool) (ds ls : List Int) (ps : List (List Int)) (hc : cs.length < 2 ^ 40) (hd : ds.length < 2 ^ 40) (hl : ls.length < 2 ^ 40) (hb : ps.length < 2 ^ 40) (hp : ∀ p ∈ ps, p.length < 2 ^ 40) :
    SoundAt Tryz.prog n_laws_toBook [bkA W T cs ds ls ps] (bkO W T cs ds ls ps) [.bot] := by
  refine fn_ok (md := md0) (ms := [false]) k_laws_toBook (by simp) ?_
  simp [c_laws_toBook]
  refine call_on (s_laws_toRegion W T cs hc) ?_
  simp
  refine call_on (s_laws_toIntS ds hd) ?_
  simp
  refine call_on (s_laws_toIntS ls hl) ?_
  simp
  refine call_on (s_laws_toIntSS ps hb hp) ?_
  simp

/-- What is left of a measure. -/
def lessI (left : Int) (n : Nat) : Int := if left < n then -1 else left - n
def totB (cs : List Bool) (ds ls : List Int) (ps : List (List Int)) : Nat := cs.length + ds.length + ls.length + (ps.length + sumL ps)

theorem s_laws_szBook (W T : Int) (cs : List Bool) (ds ls : List Int) (ps : List (List Int)) (left : Int) (h0 : 0 ≤ left) (h1 : left < 2 ^ 60) (hc : cs.length ≤ 9223372036854775807) (hd : ds.length ≤ 9223372036854775807) (hl : ls.length ≤ 9223372036854775807) (hb : ps.length ≤ 9223372036854775807) (hp : ∀ p ∈ ps, p.length ≤ 9223372036854775807) :
    SoundAt Tryz.prog n_laws_szBook [bkA W T cs ds ls ps, .v (.int .i64 left)] (.v (.int .i64 (lessI left (totB cs ds ls ps)))) [.bot, .bot] := by
  refine fn_ok (md := md0) (ms := [false, false]) k_laws_szBook (by simp) ?_
  unfold lessI totB
  simp [c_laws_szBook]
  refine call_on (s_laws_szRegion W T cs left h0 h1 hc) ?_
  by_cases g1 : left < cs.length
  · have e : left < cs.length + ds.length + ls.length + (ps.length + sumL ps) := by omega
    simp [g1, e]
  have n1 : ¬ left - cs.length < 0 := by omega
  simp [g1, n1]
  try intro _
  refine call_on (s_laws_szIntS ds (left - cs.length) (by omega) (by omega) hd) ?_
  by_cases g2 : left - cs.length < ds.length
  · have e : left < cs.length + ds.length + ls.length + (ps.length + sumL ps) := by omega
    simp [g2, e]
  have n2 : ¬ left - cs.length - ds.length < 0 := by omega
  simp [g2, n2]
  try intro _
  refine call_on (s_laws_szIntS ls (left - cs.length - ds.length) (by omega) (by omega) hl) ?_
  by_cases g3 : left - cs.length - ds.length < ls.length
  · have e : left < cs.length + ds.length + ls.length + (ps.length + sumL ps) := by omega
    simp [g3, e]
  have n3 : ¬ left - cs.length - ds.length - ls.length < 0 := by omega
  simp [g3, n3]
  try intro _
  refine call_on (s_laws_szIntSS ps (left - cs.length - ds.length - ls.length) (by omega) (by omega) hb hp) ?_
  by_cases g4 : left - cs.length - ds.length - ls.length < ps.length + sumL ps
  · have e : left < cs.length + ds.length + ls.length + (ps.length + sumL ps) := by omega
    simp [g4, e]
  have n4 : ¬ left - cs.length - ds.length - ls.length - (ps.length + sumL ps) < 0 := by omega
  have e : ¬ left < cs.length + ds.length + ls.length + (ps.length + sumL ps) := by omega
  simp [g4, n4, e]
  omega

theorem s_laws_eqIntSS (ps qs : List (List Int)) (ha : ps.length < 2 ^ 40) (hp : ∀ p ∈ ps, p.length < 2 ^ 40) :
    SoundAt Tryz.prog n_laws_eqIntSS [.sl 1 1 (sls 1 ps), .sl 1 1 (sls 1 qs)] (.v (.bool (decide (ps = qs)))) [.bot, .bot] := by
  refine fn_ok (md := md0) (ms := [false, false]) k_laws_eqIntSS (by simp) ?_
  simp [c_laws_eqIntSS]
  refine ⟨fun h => ?_, fun hl => ?_⟩
  · intro e; subst e; exact h rfl
  refine loop_by (fun m E H => ∃ i : Nat, m = ps.length - i ∧ i ≤ ps.length ∧ ps.take i = qs.take i ∧ H = [] ∧ E = [(0, .sl 1 1 (sls 1 ps)), (1, .sl 1 1 (sls 1 qs)), (5, .v (.int .i64 i))]) ps.length ⟨0, by simp⟩ ?_
  rintro J hJ m E H ⟨i, rfl, hi, he, rfl, rfl⟩
  by_cases h : i < ps.length
  case neg =>
    have h1 : i = ps.length := by omega
    subst h1
    have e : ps = qs := by
      rw [List.take_length] at he
      rw [he]; exact List.take_of_length_le (by omega)
    simp [c_laws_eqIntSS_L0, e]
  have h2 : i < qs.length := by omega
  simp [c_laws_eqIntSS_L0, h, h2]
  have one := s_laws_eqIntS (pti ps i) (pti qs i) (hp _ (pti_mem h))
  have key : (pti ps i = pti qs i) → ps.take (i + 1) = qs.take (i + 1) := by
    intro e
    rw [List.take_succ_eq_append_getElem h, List.take_succ_eq_append_getElem h2, he, ← pti_get h, ← pti_get h2, e]
  have key2 : ¬ (pti ps i = pti qs i) → ¬ ps = qs := fun e e2 => e (by rw [e2])
  (repeat' first | assumption | omega | apply And.intro) <;>
  · refine call_on one ?_
    by_cases e : pti ps i = pti qs i
    · simp [e]
      exact ⟨by omega, _, by omega, hJ _ _ _ ⟨i + 1, rfl, h, key e, rfl, rfl⟩⟩
    · simp [e, key2 e]

theorem s_laws_eqBook (W T : Int) (cs : List Bool) (ds ls : List Int) (ps : List (List Int)) (hc : cs.length < 2 ^ 40) (hd : ds.length < 2 ^ 40) (hl : ls.length < 2 ^ 40) (hb : ps.length < 2 ^ 40) (hp : ∀ p ∈ ps, p.length < 2 ^ 40) :
    SoundAt Tryz.prog n_laws_eqBook [bkA W T cs ds ls ps, bkA W T cs ds ls ps] (.v (.bool true)) [.bot, .bot] := by
  refine fn_ok (md := md0) (ms := [false, false]) k_laws_eqBook (by simp) ?_
  simp [c_laws_eqBook]
  refine call_on (s_laws_eqRegion W T W T cs cs hc) ?_
  simp
  refine call_on (s_laws_eqIntS ds ds hd) ?_
  simp
  refine call_on (s_laws_eqIntS ls ls hl) ?_
  simp
  refine call_on (s_laws_eqIntSS ps ps hb hp) ?_
  simp

end Go.Proofs.Dev

namespace Go.Proofs.Dev
open Go.ChangeShapes Go.WideShapes Go.ChangeAt Go.RowKit

theorem flatE_sls (c : Nat) : ∀ ps : List (List Int), flatE (sls c ps) = sls c ps
  | [] => rfl
  | p :: ps => by show cellsE _ ++ flatE (sls c ps) = _ :: sls c ps; rw [flatE_sls c ps]; rfl
theorem sized_sls (c : Nat) (ps : List (List Int)) : Sized 1 (sls c ps) := by
  intro e he
  obtain ⟨n, _, rfl⟩ := List.mem_map.1 he
  rfl
theorem RL_map {C : Ctx} {α : Type} {f : α → AV} {g : α → Value} : ∀ L : List α, (∀ x ∈ L, R C (f x) [] (g x)) → RL C (L.map f) [] (L.map g)
  | [], _ => by show RL C [] [] []; rw [RL]; exact ⟨rfl, rfl⟩
  | x :: xs, h => by
    show RL C (f x :: xs.map f) [] (g x :: xs.map g)
    rw [RL]; exact ⟨[], [], _, _, rfl, rfl, h x (by simp), RL_map xs fun y hy => h y (by simp [hy])⟩

section
variable {H : Type} {enc : TypeId × Value → H} {P : Program} {W : World}

theorem flatV_ints : ∀ xs : List Int, flatV (ints xs) = true
  | [] => rfl
  | x :: xs => by show (Value.oneCell' (.int .i64 x) && flatV (ints xs)) = true; rw [flatV_ints xs]; rfl

theorem R_ints_at {xs : List Int} {v : Value} (h : R (cin W [] fun _ => False) (.sl 1 1 (ints xs)) [] v) : R ((cin W [] fun _ => False).at 1) (.sl 1 1 (ints xs)) [] v := by
  rw [R] at h ⊢
  obtain ⟨h0, a, cap, hu, hle, h⟩ := h
  refine ⟨h0, a, cap, hu, hle, ?_⟩
  rcases h with h | ⟨b, p, us, ha, hb, hbad, hcells, hs, hr⟩
  · exact .inl h
  · refine .inr ⟨b, p, us, ha, hb, fun hx => hbad (hx rfl), hcells, hs, ?_⟩
    rw [flatE_ints] at hr ⊢
    exact (flatV_ok hr (flatV_ints xs)).2.1 _

theorem read_intss' {t e q : TypeId} {v : Value} {x : DataW H × List MemPlace} {fuel : Nat} (ht : P.underlying t = some (.slice e)) (he : P.underlying e = some (.slice q)) (hq : P.underlying q = some (.int .i64)) (ce : P.cellsOf e = 1) (cq : P.cellsOf q = 1)
    (hf : DataW.trod enc P W 0 (fun _ => true) true fuel t [v] = some x) :
    ∃ ps : List (List Int), ps.length ≤ maxLen ∧ (∀ p ∈ ps, p.length ≤ maxLen) ∧ R (cin W [] fun _ => False) (.sl 1 1 (sls 1 ps)) [] v := by
  rcases Go.Deep.open_slice1 ht ce hf with ⟨hcs, hx⟩ | ⟨a, len, cap, m, n, V, D, Pl, hcs, _, hl, hm, hmm, hx, hcell⟩
  · simp at hcs
    subst hcs
    exact ⟨[], by simp, by simp, by rw [R]; exact ⟨rfl, none, 0, rfl, Nat.le_refl _, .inl rfl⟩⟩
  · simp at hcs
    subst hcs
    simp only [if_true] at hmm
    have each : ∀ i, i < len → ∃ xs : List Int, xs.length ≤ maxLen ∧ R (cin W [] fun _ => False) (.sl 1 1 (ints xs)) [] (V i) := by
      intro i hi
      obtain ⟨xs, h1, _, h2⟩ := read_ints' he hq cq (hcell i (by omega)).2
      exact ⟨xs, h1, h2⟩
    obtain ⟨X, hX⟩ := Go.Deep.choose_lt each
    refine ⟨(List.range len).map X, by simp; omega, ?_, ?_⟩
    · intro p hp
      obtain ⟨i, hi, rfl⟩ := List.mem_map.1 hp
      exact (hX i (by simpa using hi)).1
    · refine view_row (xs := (List.range len).map V) hl (by simp) (by simp) ?_ (sized_sls _ _) ?_
      · intro i v hi
        rw [List.getElem?_map] at hi
        simp only [Option.map_eq_some_iff] at hi
        obtain ⟨k, hk, rfl⟩ := hi
        have hlt : i < len := by have := (List.getElem?_eq_some_iff.1 hk).1; simpa using this
        rw [List.getElem?_range hlt] at hk
        cases hk
        exact (hcell i (by omega)).1
      · rw [flatE_sls]
        unfold sls
        rw [List.map_map]
        exact RL_map _ fun i hi => R_ints_at (hX i (by simpa using hi)).2

theorem array6 {α : Type} {cs : Array α} (h : cs.size = 6) : ∃ c0 c1 c2 c3 c4 c5, cs = #[c0, c1, c2, c3, c4, c5] := by
  obtain ⟨l⟩ := cs
  match l, h with
  | [c0, c1, c2, c3, c4, c5], _ => exact ⟨c0, c1, c2, c3, c4, c5, rfl⟩

/-- A book: a struct of a region, two lists of numbers and a list of lists. -/
theorem read_book {t tb ti tn : TypeId} {f0 f1 f2 f3 g0 g1 g2 : Field} {v : Value} {d : DataW H} {p : List MemPlace} {base : Nat} (hs : P.underlying t = some (.struct #[f0, f1, f2, f3])) (hC : P.cellsOf t = 6)
    (hg : P.underlying f0.type = some (.struct #[g0, g1, g2])) (c0 : P.cellsOf f0.type = 3) (c1 : P.cellsOf f1.type = 1) (c2 : P.cellsOf f2.type = 1) (c3 : P.cellsOf f3.type = 1)
    (o : f0.offset = 0 ∧ f1.offset = 3 ∧ f2.offset = 4 ∧ f3.offset = 5) (og : g0.offset = 0 ∧ g1.offset = 1 ∧ g2.offset = 2) (d0 : P.cellsOf g0.type = 1) (d1 : P.cellsOf g1.type = 1) (d2 : P.cellsOf g2.type = 1)
    (h0 : P.underlying g0.type = some (.int .i64)) (h1 : P.underlying g1.type = some (.int .i64)) (h2 : P.underlying g2.type = some (.slice tb)) (hb : P.underlying tb = some .bool) (hcb : P.cellsOf tb = 1)
    (h3 : P.underlying f1.type = some (.slice ti)) (h4 : P.underlying f2.type = some (.slice ti)) (hi : P.underlying ti = some (.int .i64)) (hci : P.cellsOf ti = 1)
    (h5 : P.underlying f3.type = some (.slice tn)) (h6 : P.underlying tn = some (.slice ti)) (hcn : P.cellsOf tn = 1)
    (hv : Value.okWide P W .any base t v) (h : DataW.Trod enc P W 0 (fun _ => true) true t v d p) :
    ∃ (a b : Int) (cs : List Bool) (ds ls : List Int) (ps : List (List Int)), cs.length ≤ maxLen ∧ ds.length ≤ maxLen ∧ ls.length ≤ maxLen ∧ ps.length ≤ maxLen ∧ (∀ p ∈ ps, p.length ≤ maxLen) ∧ R (cin W [] fun _ => False) (bkA a b cs ds ls ps) [] v := by
  obtain ⟨vs, rfl, hsz⟩ := okWide_struct hs hv
  obtain ⟨v0, v1, v2, v3, v4, v5, rfl⟩ := array6 (hsz.trans hC)
  obtain ⟨fuel, hf⟩ := h
  obtain ⟨y0, y1, y2, y3, n, hx, _, t0, t1, t2, t3⟩ := Joins.trod_struct4 hs hf
  obtain ⟨o0, o1, o2, o3⟩ := o
  obtain ⟨q0, q1, q2⟩ := og
  have t0' : DataW.trod enc P W 0 (fun _ => true) true n f0.type [v0, v1, v2] = some y0 := by simpa [Value.cells, o0, c0] using t0
  have t1' : DataW.trod enc P W 0 (fun _ => true) true n f1.type [v3] = some y1 := by simpa [Value.cells, o1, c1] using t1
  have t2' : DataW.trod enc P W 0 (fun _ => true) true n f2.type [v4] = some y2 := by simpa [Value.cells, o2, c2] using t2
  have t3' : DataW.trod enc P W 0 (fun _ => true) true n f3.type [v5] = some y3 := by simpa [Value.cells, o3, c3] using t3
  obtain ⟨z0, z1, z2, k, hz, _, s0, s1, s2⟩ := Go.Deep.trod_struct3 hg t0'
  have s0' : DataW.trod enc P W 0 (fun _ => true) true k g0.type [v0] = some z0 := by simpa [q0, d0] using s0
  have s1' : DataW.trod enc P W 0 (fun _ => true) true k g1.type [v1] = some z1 := by simpa [q1, d1] using s1
  have s2' : DataW.trod enc P W 0 (fun _ => true) true k g2.type [v2] = some z2 := by simpa [q2, d2] using s2
  obtain ⟨a, ha, _, wa⟩ := DataW.trod_int h0 s0'
  obtain ⟨b, hb', _, wb⟩ := DataW.trod_int h1 s1'
  obtain ⟨cs, hl0, r0⟩ := read_bools' h2 hb hcb s2'
  obtain ⟨ds, hl1, _, r1⟩ := read_ints' h3 hi hci t1'
  obtain ⟨ls, hl2, _, r2⟩ := read_ints' h4 hi hci t2'
  obtain ⟨ps, hl3, hl4, r3⟩ := read_intss' h5 h6 hi hcn hci t3'
  simp at ha hb'
  subst ha; subst hb'
  refine ⟨a, b, cs, ds, ls, ps, hl0, hl1, hl2, hl3, hl4, ?_⟩
  unfold bkA
  rw [R]
  refine ⟨[_, _, v2, v3, v4, v5], rfl, ?_⟩
  rw [RL]; refine ⟨[], [], _, _, rfl, rfl, by rw [R]; exact ⟨rfl, rfl⟩, ?_⟩
  rw [RL]; refine ⟨[], [], _, _, rfl, rfl, by rw [R]; exact ⟨rfl, rfl⟩, ?_⟩
  rw [RL]; refine ⟨[], [], _, _, rfl, rfl, r0, ?_⟩
  rw [RL]; refine ⟨[], [], _, _, rfl, rfl, r1, ?_⟩
  rw [RL]; refine ⟨[], [], _, _, rfl, rfl, r2, ?_⟩
  rw [RL]; exact ⟨[], [], _, _, rfl, rfl, r3, by rw [RL]; exact ⟨rfl, rfl⟩⟩

end
end Go.Proofs.Dev
