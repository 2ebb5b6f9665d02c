/- Contracts of the functions of the program over slots and rows, each proved against the program itself; no condition beyond those that each theorem names. -/
import Derived.Test.YtfeaicblocbapaaGreatZ
import Derived.Test.YtfeaicblocbapaaGreatProg
import Derived.Test.YtfeaicblocbapaaGreatAH

set_option linter.unusedSimpArgs false
set_option linter.unusedVariables false

namespace Go.Proofs.Dev

-- 1 parameters, results [.t 2], 6 slots, modes [false]
@[simp] abbrev n_impl_clone_bool : Nat := 78

def c_impl_clone_bool : ACode :=
  .seq (.reg [⟨(some 2), .mv, [.c (.os 1 [])], none⟩]) <|
  .seq (.reg [⟨(some 3), .mv, [.t 0], none⟩,
    ⟨(some 4), .call 98 [], [.t 3], none⟩,
    ⟨(some 5), .call 97 [], [.t 4], none⟩,
    ⟨(some 2), .mv, [.t 5], none⟩]) <|
  .ret

theorem k_impl_clone_bool : cFn Tryz.prog n_impl_clone_bool 6 [.t 2] c_impl_clone_bool := ⟨Tryz.f78, _, Tryz.func78, rfl, by kernel_rfl, by kernel_rfl, by kernel_rfl, by kernel_rfl⟩

-- 1 parameters, results [.t 2], 8 slots, modes [false]
@[simp] abbrev n_slices_Clone_bool_bool : Nat := 98

def c_slices_Clone_bool_bool : ACode :=
  .seq (.reg [⟨(some 2), .mv, [.c (.os 1 [])], none⟩]) <|
  .seq (.seq (.reg [⟨(some 3), .mv, [.t 0], none⟩,
    ⟨(some 4), .nilq false, [.t 3], none⟩]) <|
  .cond (.t 4) (
    .seq (.reg [⟨(some 2), .mv, [.c (.os 1 [])], none⟩]) <|
    .ret) (
    .skip)) <|
  .seq (.reg [⟨(some 5), .bsl 1, [], none⟩,
    ⟨(some 6), .mv, [.t 0], none⟩,
    ⟨(some 7), .app 1 1 true, [.t 5, .t 6], none⟩,
    ⟨(some 2), .mv, [.t 7], none⟩]) <|
  .ret

theorem k_slices_Clone_bool_bool : cFn Tryz.prog n_slices_Clone_bool_bool 8 [.t 2] c_slices_Clone_bool_bool := ⟨Tryz.f98, _, Tryz.func98, rfl, by kernel_rfl, by kernel_rfl, by kernel_rfl, by kernel_rfl⟩

-- 2 parameters, results [.t 4], 23 slots, modes [false, false]
@[simp] abbrev n_laws_heldBoolS : Nat := 84
def c_laws_heldBoolS_L0 : ACode :=
  .seq (.seq (.reg [⟨(some 6), .mv, [.t 5], none⟩,
    ⟨(some 7), .mv, [.t 0], none⟩,
    ⟨(some 8), .len false, [.t 7], none⟩,
    ⟨(some 9), .bin .lss 0, [.t 6, .t 8], none⟩]) <|
  .cond (.t 9) (
    .skip) (
    .exit 0)) <|
  .seq (.block 1 (
    .seq (.seq (.reg [⟨(some 12), .mv, [.t 0], none⟩,
      ⟨(some 13), .mv, [.t 5], none⟩,
      ⟨(some 14), .iadr 1, [.t 12, .t 13], none⟩,
      ⟨(some 15), .load false 1, [.t 14], none⟩,
      ⟨(some 16), .mv, [.t 1], none⟩,
      ⟨(some 17), .bin .rem 0, [.t 16, .c (.v (.int .i64 (3)))], none⟩,
      ⟨(some 18), .bin .eql 0, [.t 17, .c (.v (.int .i64 (0)))], none⟩,
      ⟨(some 19), .bin .neq 2, [.t 15, .t 18], none⟩]) <|
    .cond (.t 19) (
      .seq (.reg [⟨(some 4), .mv, [.c (.v (.int .i64 (-1)))], none⟩]) <|
      .ret) (
      .skip)) <|
    .reg [⟨(some 20), .mv, [.t 1], none⟩,
      ⟨(some 21), .bin .add 0, [.t 20, .c (.v (.int .i64 (1)))], none⟩,
      ⟨(some 1), .mv, [.t 21], none⟩])) <|
  .reg [⟨(some 10), .mv, [.t 5], none⟩,
    ⟨(some 11), .bin .add 0, [.t 10, .c (.v (.int .i64 (1)))], none⟩,
    ⟨(some 5), .mv, [.t 11], none⟩]

def c_laws_heldBoolS : ACode :=
  .seq (.reg [⟨(some 4), .mv, [.c (.v (.int .i64 (0)))], none⟩]) <|
  .seq (.seq (.reg [⟨(some 5), .mv, [.c (.v (.int .i64 (0)))], none⟩]) <|
  .block 0 (
    .loop [(0, 1)] [0, 1, 5] c_laws_heldBoolS_L0)) <|
  .seq (.reg [⟨(some 22), .mv, [.t 1], none⟩,
    ⟨(some 4), .mv, [.t 22], none⟩]) <|
  .ret

theorem k_laws_heldBoolS : cFn Tryz.prog n_laws_heldBoolS 23 [.t 4] c_laws_heldBoolS := ⟨Tryz.f84, _, Tryz.func84, rfl, by kernel_rfl, by kernel_rfl, by kernel_rfl, by kernel_rfl⟩

-- 2 parameters, results [.t 4], 12 slots, modes [false, false]
@[simp] abbrev n_laws_heldRegion : Nat := 51

def c_laws_heldRegion : ACode :=
  .seq (.reg [⟨(some 2), .box, [.t 0], none⟩,
    ⟨(some 4), .mv, [.c (.v (.int .i64 (0)))], none⟩]) <|
  .seq (.reg [⟨(some 5), .fadr 2, [.t 2], none⟩,
    ⟨(some 6), .load false 1, [.t 5], none⟩,
    ⟨(some 7), .mv, [.t 1], none⟩,
    ⟨(some 8), .call 84 [], [.t 6, .t 7], none⟩,
    ⟨(some 1), .mv, [.t 8], none⟩]) <|
  .seq (.seq (.reg [⟨(some 9), .mv, [.t 1], none⟩,
    ⟨(some 10), .bin .lss 0, [.t 9, .c (.v (.int .i64 (0)))], none⟩]) <|
  .cond (.t 10) (
    .seq (.reg [⟨(some 4), .mv, [.c (.v (.int .i64 (-1)))], none⟩]) <|
    .ret) (
    .skip)) <|
  .seq (.reg [⟨(some 11), .mv, [.t 1], none⟩,
    ⟨(some 4), .mv, [.t 11], none⟩]) <|
  .ret

theorem k_laws_heldRegion : cFn Tryz.prog n_laws_heldRegion 12 [.t 4] c_laws_heldRegion := ⟨Tryz.f51, _, Tryz.func51, rfl, by kernel_rfl, by kernel_rfl, by kernel_rfl, by kernel_rfl⟩

-- 2 parameters, results [.t 4], 30 slots, modes [false, false]
@[simp] abbrev n_laws_heldBook : Nat := 18

def c_laws_heldBook : ACode :=
  .seq (.reg [⟨(some 2), .box, [.t 0], none⟩,
    ⟨(some 4), .mv, [.c (.v (.int .i64 (0)))], none⟩]) <|
  .seq (.reg [⟨(some 5), .fadr 0, [.t 2], none⟩,
    ⟨(some 6), .load true 3, [.t 5], none⟩,
    ⟨(some 7), .mv, [.t 1], none⟩,
    ⟨(some 8), .call 51 [], [.t 6, .t 7], none⟩,
    ⟨(some 1), .mv, [.t 8], none⟩]) <|
  .seq (.seq (.reg [⟨(some 9), .mv, [.t 1], none⟩,
    ⟨(some 10), .bin .lss 0, [.t 9, .c (.v (.int .i64 (0)))], none⟩]) <|
  .cond (.t 10) (
    .seq (.reg [⟨(some 4), .mv, [.c (.v (.int .i64 (-1)))], none⟩]) <|
    .ret) (
    .skip)) <|
  .seq (.reg [⟨(some 11), .fadr 3, [.t 2], none⟩,
    ⟨(some 12), .load false 1, [.t 11], none⟩,
    ⟨(some 13), .mv, [.t 1], none⟩,
    ⟨(some 14), .call 52 [], [.t 12, .t 13], none⟩,
    ⟨(some 1), .mv, [.t 14], none⟩]) <|
  .seq (.seq (.reg [⟨(some 15), .mv, [.t 1], none⟩,
    ⟨(some 16), .bin .lss 0, [.t 15, .c (.v (.int .i64 (0)))], none⟩]) <|
  .cond (.t 16) (
    .seq (.reg [⟨(some 4), .mv, [.c (.v (.int .i64 (-1)))], none⟩]) <|
    .ret) (
    .skip)) <|
  .seq (.reg [⟨(some 17), .fadr 4, [.t 2], none⟩,
    ⟨(some 18), .load false 1, [.t 17], none⟩,
    ⟨(some 19), .mv, [.t 1], none⟩,
    ⟨(some 20), .call 52 [], [.t 18, .t 19], none⟩,
    ⟨(some 1), .mv, [.t 20], none⟩]) <|
  .seq (.seq (.reg [⟨(some 21), .mv, [.t 1], none⟩,
    ⟨(some 22), .bin .lss 0, [.t 21, .c (.v (.int .i64 (0)))], none⟩]) <|
  .cond (.t 22) (
    .seq (.reg [⟨(some 4), .mv, [.c (.v (.int .i64 (-1)))], none⟩]) <|
    .ret) (
    .skip)) <|
  .seq (.reg [⟨(some 23), .fadr 5, [.t 2], none⟩,
    ⟨(some 24), .load false 1, [.t 23], none⟩,
    ⟨(some 25), .mv, [.t 1], none⟩,
    ⟨(some 26), .call 53 [], [.t 24, .t 25], none⟩,
    ⟨(some 1), .mv, [.t 26], none⟩]) <|
  .seq (.seq (.reg [⟨(some 27), .mv, [.t 1], none⟩,
    ⟨(some 28), .bin .lss 0, [.t 27, .c (.v (.int .i64 (0)))], none⟩]) <|
  .cond (.t 28) (
    .seq (.reg [⟨(some 4), .mv, [.c (.v (.int .i64 (-1)))], none⟩]) <|
    .ret) (
    .skip)) <|
  .seq (.reg [⟨(some 29), .mv, [.t 1], none⟩,
    ⟨(some 4), .mv, [.t 29], none⟩]) <|
  .ret

theorem k_laws_heldBook : cFn Tryz.prog n_laws_heldBook 30 [.t 4] c_laws_heldBook := ⟨Tryz.f18, _, Tryz.func18, rfl, by kernel_rfl, by kernel_rfl, by kernel_rfl, by kernel_rfl⟩

-- 2 parameters, results [.t 4], 22 slots, modes [true, false]
@[simp] abbrev n_laws_markBook : Nat := 12

def c_laws_markBook : ACode :=
  .seq (.reg [⟨(some 2), .box, [.t 0], none⟩,
    ⟨(some 4), .mv, [.c (.v (.int .i64 (0)))], none⟩]) <|
  .seq (.reg [⟨(some 5), .fadr 0, [.t 2], none⟩,
    ⟨(some 6), .load true 3, [.t 5], none⟩,
    ⟨(some 7), .mv, [.t 1], none⟩,
    ⟨(some 8), .call 38 [], [.t 6, .t 7], none⟩,
    ⟨(some 1), .mv, [.t 8], none⟩]) <|
  .seq (.reg [⟨(some 9), .fadr 3, [.t 2], none⟩,
    ⟨(some 10), .load false 1, [.t 9], none⟩,
    ⟨(some 11), .mv, [.t 1], none⟩,
    ⟨(some 12), .call 39 [], [.t 10, .t 11], none⟩,
    ⟨(some 1), .mv, [.t 12], none⟩]) <|
  .seq (.reg [⟨(some 13), .fadr 4, [.t 2], none⟩,
    ⟨(some 14), .load false 1, [.t 13], none⟩,
    ⟨(some 15), .mv, [.t 1], none⟩,
    ⟨(some 16), .call 39 [], [.t 14, .t 15], none⟩,
    ⟨(some 1), .mv, [.t 16], none⟩]) <|
  .seq (.reg [⟨(some 17), .fadr 5, [.t 2], none⟩,
    ⟨(some 18), .load false 1, [.t 17], none⟩,
    ⟨(some 19), .mv, [.t 1], none⟩,
    ⟨(some 20), .call 40 [], [.t 18, .t 19], none⟩,
    ⟨(some 1), .mv, [.t 20], none⟩]) <|
  .seq (.reg [⟨(some 21), .mv, [.t 1], none⟩,
    ⟨(some 4), .mv, [.t 21], none⟩]) <|
  .ret

theorem k_laws_markBook : cFn Tryz.prog n_laws_markBook 22 [.t 4] c_laws_markBook := ⟨Tryz.f12, _, Tryz.func12, rfl, by kernel_rfl, by kernel_rfl, by kernel_rfl, by kernel_rfl⟩

-- 1 parameters, results [.t 2], 9 slots, modes [true]
@[simp] abbrev n_slices_Clip_bool_bool : Nat := 97

def c_slices_Clip_bool_bool : ACode :=
  .seq (.reg [⟨(some 2), .mv, [.c (.os 1 [])], none⟩]) <|
  .seq (.reg [⟨(some 3), .mv, [.t 0], none⟩,
    ⟨(some 4), .mv, [.t 0], none⟩,
    ⟨(some 5), .len false, [.t 4], none⟩,
    ⟨(some 6), .mv, [.t 0], none⟩,
    ⟨(some 7), .len false, [.t 6], none⟩,
    ⟨(some 8), .slice 1 false false true true, [.t 3, .t 5, .t 7], none⟩,
    ⟨(some 2), .mv, [.t 8], none⟩]) <|
  .ret

theorem k_slices_Clip_bool_bool : cFn Tryz.prog n_slices_Clip_bool_bool 9 [.t 2] c_slices_Clip_bool_bool := ⟨Tryz.f97, _, Tryz.func97, rfl, by kernel_rfl, by kernel_rfl, by kernel_rfl, by kernel_rfl⟩

end Go.Proofs.Dev

namespace Go.Proofs.Dev

-- printed by program: spec_BookNew
@[simp] abbrev n_spec_BookNew : Nat := 66
def c_spec_BookNew_E : BCode :=
(BCode.early [(AOper.mk (some 10) (AK.fadr 0) [(Opd.t 2)] none),
  (AOper.mk (some 11) (AK.load false 1) [(Opd.t 10)] none),
  (AOper.mk (some 12) (AK.fadr 1) [(Opd.t 2)] none),
  (AOper.mk (some 13) (AK.load false 1) [(Opd.t 12)] none),
  (AOper.mk (some 15) (AK.fadr 2) [(Opd.t 2)] none),
  (AOper.mk (some 16) (AK.load false 1) [(Opd.t 15)] none),
  (AOper.mk (some 20) AK.mv [(Opd.t 1)] none),
  (AOper.mk (some 22) (AK.load true 3) [(Opd.t 2)] none)]
 (Plan.alt
  (AOper.mk (some 14) (AK.bsl 1) [] none)
 (Plan.alt
  (AOper.mk (some 17) (AK.app 1 1 true) [(Opd.t 14), (Opd.t 16)] none) (Plan.take
  (AOper.mk (some 18) (AK.build [(AV.v (Go.Value.int Go.IntKind.i64 0)), (AV.v (Go.Value.int Go.IntKind.i64 0)), (AV.os 1 [])] [(0, 1), (1, 1), (2, 1)]) [(Opd.t 11), (Opd.t 13), (Opd.t 17)] none)
 (Plan.alt
  (AOper.mk (some 19) (AK.bsl 1) [] none)
 (Plan.alt
  (AOper.mk (some 21) (AK.app 1 8 true) [(Opd.t 19), (Opd.t 20)] none)
 (Plan.alt
  (AOper.mk (some 23) (AK.call 27 []) [(Opd.t 22)] none)
 (Plan.alt
  (AOper.mk (some 24) (AK.bsl 1) [] none) (Plan.take
  (AOper.mk (some 25) (AK.build [(AV.v (Go.Value.int Go.IntKind.i64 0)), (AV.v (Go.Value.int Go.IntKind.i64 0)), (AV.os 1 []), (AV.os 1 []), (AV.os 1 []), (AV.os 1 [])] [(0, 3), (3, 1), (4, 1), (5, 1)]) [(Opd.t 18), (Opd.t 21), (Opd.t 23), (Opd.t 24)] none)
 (Plan.alt
  (AOper.mk none (AK.store 6) [(Opd.t 4), (Opd.t 25)] none) Plan.done Plan.stop)) Plan.stop)
 (Plan.alt
  (AOper.mk (some 24) (AK.bsl 1) [] none)
 (Plan.alt
  (AOper.mk (some 23) (AK.call 27 []) [(Opd.t 22)] none) (Plan.take
  (AOper.mk (some 25) (AK.build [(AV.v (Go.Value.int Go.IntKind.i64 0)), (AV.v (Go.Value.int Go.IntKind.i64 0)), (AV.os 1 []), (AV.os 1 []), (AV.os 1 []), (AV.os 1 [])] [(0, 3), (3, 1), (4, 1), (5, 1)]) [(Opd.t 18), (Opd.t 21), (Opd.t 23), (Opd.t 24)] none)
 (Plan.alt
  (AOper.mk none (AK.store 6) [(Opd.t 4), (Opd.t 25)] none) Plan.done Plan.stop)) Plan.stop) Plan.stop))
 (Plan.alt
  (AOper.mk (some 24) (AK.bsl 1) [] none)
 (Plan.alt
  (AOper.mk (some 21) (AK.app 1 8 true) [(Opd.t 19), (Opd.t 20)] none)
 (Plan.alt
  (AOper.mk (some 23) (AK.call 27 []) [(Opd.t 22)] none) (Plan.take
  (AOper.mk (some 25) (AK.build [(AV.v (Go.Value.int Go.IntKind.i64 0)), (AV.v (Go.Value.int Go.IntKind.i64 0)), (AV.os 1 []), (AV.os 1 []), (AV.os 1 []), (AV.os 1 [])] [(0, 3), (3, 1), (4, 1), (5, 1)]) [(Opd.t 18), (Opd.t 21), (Opd.t 23), (Opd.t 24)] none)
 (Plan.alt
  (AOper.mk none (AK.store 6) [(Opd.t 4), (Opd.t 25)] none) Plan.done Plan.stop)) Plan.stop) Plan.stop) Plan.stop))
 (Plan.alt
  (AOper.mk (some 24) (AK.bsl 1) [] none)
 (Plan.alt
  (AOper.mk (some 19) (AK.bsl 1) [] none)
 (Plan.alt
  (AOper.mk (some 21) (AK.app 1 8 true) [(Opd.t 19), (Opd.t 20)] none)
 (Plan.alt
  (AOper.mk (some 23) (AK.call 27 []) [(Opd.t 22)] none) (Plan.take
  (AOper.mk (some 25) (AK.build [(AV.v (Go.Value.int Go.IntKind.i64 0)), (AV.v (Go.Value.int Go.IntKind.i64 0)), (AV.os 1 []), (AV.os 1 []), (AV.os 1 []), (AV.os 1 [])] [(0, 3), (3, 1), (4, 1), (5, 1)]) [(Opd.t 18), (Opd.t 21), (Opd.t 23), (Opd.t 24)] none)
 (Plan.alt
  (AOper.mk none (AK.store 6) [(Opd.t 4), (Opd.t 25)] none) Plan.done Plan.stop)) Plan.stop) Plan.stop) Plan.stop) Plan.stop)))
 (Plan.alt
  (AOper.mk (some 19) (AK.bsl 1) [] none)
 (Plan.alt
  (AOper.mk (some 17) (AK.app 1 1 true) [(Opd.t 14), (Opd.t 16)] none) (Plan.take
  (AOper.mk (some 18) (AK.build [(AV.v (Go.Value.int Go.IntKind.i64 0)), (AV.v (Go.Value.int Go.IntKind.i64 0)), (AV.os 1 [])] [(0, 1), (1, 1), (2, 1)]) [(Opd.t 11), (Opd.t 13), (Opd.t 17)] none)
 (Plan.alt
  (AOper.mk (some 21) (AK.app 1 8 true) [(Opd.t 19), (Opd.t 20)] none)
 (Plan.alt
  (AOper.mk (some 23) (AK.call 27 []) [(Opd.t 22)] none)
 (Plan.alt
  (AOper.mk (some 24) (AK.bsl 1) [] none) (Plan.take
  (AOper.mk (some 25) (AK.build [(AV.v (Go.Value.int Go.IntKind.i64 0)), (AV.v (Go.Value.int Go.IntKind.i64 0)), (AV.os 1 []), (AV.os 1 []), (AV.os 1 []), (AV.os 1 [])] [(0, 3), (3, 1), (4, 1), (5, 1)]) [(Opd.t 18), (Opd.t 21), (Opd.t 23), (Opd.t 24)] none)
 (Plan.alt
  (AOper.mk none (AK.store 6) [(Opd.t 4), (Opd.t 25)] none) Plan.done Plan.stop)) Plan.stop)
 (Plan.alt
  (AOper.mk (some 24) (AK.bsl 1) [] none)
 (Plan.alt
  (AOper.mk (some 23) (AK.call 27 []) [(Opd.t 22)] none) (Plan.take
  (AOper.mk (some 25) (AK.build [(AV.v (Go.Value.int Go.IntKind.i64 0)), (AV.v (Go.Value.int Go.IntKind.i64 0)), (AV.os 1 []), (AV.os 1 []), (AV.os 1 []), (AV.os 1 [])] [(0, 3), (3, 1), (4, 1), (5, 1)]) [(Opd.t 18), (Opd.t 21), (Opd.t 23), (Opd.t 24)] none)
 (Plan.alt
  (AOper.mk none (AK.store 6) [(Opd.t 4), (Opd.t 25)] none) Plan.done Plan.stop)) Plan.stop) Plan.stop))
 (Plan.alt
  (AOper.mk (some 24) (AK.bsl 1) [] none)
 (Plan.alt
  (AOper.mk (some 21) (AK.app 1 8 true) [(Opd.t 19), (Opd.t 20)] none)
 (Plan.alt
  (AOper.mk (some 23) (AK.call 27 []) [(Opd.t 22)] none) (Plan.take
  (AOper.mk (some 25) (AK.build [(AV.v (Go.Value.int Go.IntKind.i64 0)), (AV.v (Go.Value.int Go.IntKind.i64 0)), (AV.os 1 []), (AV.os 1 []), (AV.os 1 []), (AV.os 1 [])] [(0, 3), (3, 1), (4, 1), (5, 1)]) [(Opd.t 18), (Opd.t 21), (Opd.t 23), (Opd.t 24)] none)
 (Plan.alt
  (AOper.mk none (AK.store 6) [(Opd.t 4), (Opd.t 25)] none) Plan.done Plan.stop)) Plan.stop) Plan.stop) Plan.stop)))
 (Plan.alt
  (AOper.mk (some 24) (AK.bsl 1) [] none)
 (Plan.alt
  (AOper.mk (some 17) (AK.app 1 1 true) [(Opd.t 14), (Opd.t 16)] none) (Plan.take
  (AOper.mk (some 18) (AK.build [(AV.v (Go.Value.int Go.IntKind.i64 0)), (AV.v (Go.Value.int Go.IntKind.i64 0)), (AV.os 1 [])] [(0, 1), (1, 1), (2, 1)]) [(Opd.t 11), (Opd.t 13), (Opd.t 17)] none)
 (Plan.alt
  (AOper.mk (some 21) (AK.app 1 8 true) [(Opd.t 19), (Opd.t 20)] none)
 (Plan.alt
  (AOper.mk (some 23) (AK.call 27 []) [(Opd.t 22)] none) (Plan.take
  (AOper.mk (some 25) (AK.build [(AV.v (Go.Value.int Go.IntKind.i64 0)), (AV.v (Go.Value.int Go.IntKind.i64 0)), (AV.os 1 []), (AV.os 1 []), (AV.os 1 []), (AV.os 1 [])] [(0, 3), (3, 1), (4, 1), (5, 1)]) [(Opd.t 18), (Opd.t 21), (Opd.t 23), (Opd.t 24)] none)
 (Plan.alt
  (AOper.mk none (AK.store 6) [(Opd.t 4), (Opd.t 25)] none) Plan.done Plan.stop)) Plan.stop) Plan.stop)) Plan.stop) Plan.stop))
 (Plan.alt
  (AOper.mk (some 24) (AK.bsl 1) [] none)
 (Plan.alt
  (AOper.mk (some 17) (AK.app 1 1 true) [(Opd.t 14), (Opd.t 16)] none) (Plan.take
  (AOper.mk (some 18) (AK.build [(AV.v (Go.Value.int Go.IntKind.i64 0)), (AV.v (Go.Value.int Go.IntKind.i64 0)), (AV.os 1 [])] [(0, 1), (1, 1), (2, 1)]) [(Opd.t 11), (Opd.t 13), (Opd.t 17)] none)
 (Plan.alt
  (AOper.mk (some 19) (AK.bsl 1) [] none)
 (Plan.alt
  (AOper.mk (some 21) (AK.app 1 8 true) [(Opd.t 19), (Opd.t 20)] none)
 (Plan.alt
  (AOper.mk (some 23) (AK.call 27 []) [(Opd.t 22)] none) (Plan.take
  (AOper.mk (some 25) (AK.build [(AV.v (Go.Value.int Go.IntKind.i64 0)), (AV.v (Go.Value.int Go.IntKind.i64 0)), (AV.os 1 []), (AV.os 1 []), (AV.os 1 []), (AV.os 1 [])] [(0, 3), (3, 1), (4, 1), (5, 1)]) [(Opd.t 18), (Opd.t 21), (Opd.t 23), (Opd.t 24)] none)
 (Plan.alt
  (AOper.mk none (AK.store 6) [(Opd.t 4), (Opd.t 25)] none) Plan.done Plan.stop)) Plan.stop) Plan.stop) Plan.stop))
 (Plan.alt
  (AOper.mk (some 19) (AK.bsl 1) [] none)
 (Plan.alt
  (AOper.mk (some 17) (AK.app 1 1 true) [(Opd.t 14), (Opd.t 16)] none) (Plan.take
  (AOper.mk (some 18) (AK.build [(AV.v (Go.Value.int Go.IntKind.i64 0)), (AV.v (Go.Value.int Go.IntKind.i64 0)), (AV.os 1 [])] [(0, 1), (1, 1), (2, 1)]) [(Opd.t 11), (Opd.t 13), (Opd.t 17)] none)
 (Plan.alt
  (AOper.mk (some 21) (AK.app 1 8 true) [(Opd.t 19), (Opd.t 20)] none)
 (Plan.alt
  (AOper.mk (some 23) (AK.call 27 []) [(Opd.t 22)] none) (Plan.take
  (AOper.mk (some 25) (AK.build [(AV.v (Go.Value.int Go.IntKind.i64 0)), (AV.v (Go.Value.int Go.IntKind.i64 0)), (AV.os 1 []), (AV.os 1 []), (AV.os 1 []), (AV.os 1 [])] [(0, 3), (3, 1), (4, 1), (5, 1)]) [(Opd.t 18), (Opd.t 21), (Opd.t 23), (Opd.t 24)] none)
 (Plan.alt
  (AOper.mk none (AK.store 6) [(Opd.t 4), (Opd.t 25)] none) Plan.done Plan.stop)) Plan.stop) Plan.stop)) Plan.stop) Plan.stop)) Plan.stop)))
 (Plan.alt
  (AOper.mk (some 19) (AK.bsl 1) [] none)
 (Plan.alt
  (AOper.mk (some 14) (AK.bsl 1) [] none)
 (Plan.alt
  (AOper.mk (some 17) (AK.app 1 1 true) [(Opd.t 14), (Opd.t 16)] none) (Plan.take
  (AOper.mk (some 18) (AK.build [(AV.v (Go.Value.int Go.IntKind.i64 0)), (AV.v (Go.Value.int Go.IntKind.i64 0)), (AV.os 1 [])] [(0, 1), (1, 1), (2, 1)]) [(Opd.t 11), (Opd.t 13), (Opd.t 17)] none)
 (Plan.alt
  (AOper.mk (some 21) (AK.app 1 8 true) [(Opd.t 19), (Opd.t 20)] none)
 (Plan.alt
  (AOper.mk (some 23) (AK.call 27 []) [(Opd.t 22)] none)
 (Plan.alt
  (AOper.mk (some 24) (AK.bsl 1) [] none) (Plan.take
  (AOper.mk (some 25) (AK.build [(AV.v (Go.Value.int Go.IntKind.i64 0)), (AV.v (Go.Value.int Go.IntKind.i64 0)), (AV.os 1 []), (AV.os 1 []), (AV.os 1 []), (AV.os 1 [])] [(0, 3), (3, 1), (4, 1), (5, 1)]) [(Opd.t 18), (Opd.t 21), (Opd.t 23), (Opd.t 24)] none)
 (Plan.alt
  (AOper.mk none (AK.store 6) [(Opd.t 4), (Opd.t 25)] none) Plan.done Plan.stop)) Plan.stop)
 (Plan.alt
  (AOper.mk (some 24) (AK.bsl 1) [] none)
 (Plan.alt
  (AOper.mk (some 23) (AK.call 27 []) [(Opd.t 22)] none) (Plan.take
  (AOper.mk (some 25) (AK.build [(AV.v (Go.Value.int Go.IntKind.i64 0)), (AV.v (Go.Value.int Go.IntKind.i64 0)), (AV.os 1 []), (AV.os 1 []), (AV.os 1 []), (AV.os 1 [])] [(0, 3), (3, 1), (4, 1), (5, 1)]) [(Opd.t 18), (Opd.t 21), (Opd.t 23), (Opd.t 24)] none)
 (Plan.alt
  (AOper.mk none (AK.store 6) [(Opd.t 4), (Opd.t 25)] none) Plan.done Plan.stop)) Plan.stop) Plan.stop))
 (Plan.alt
  (AOper.mk (some 24) (AK.bsl 1) [] none)
 (Plan.alt
  (AOper.mk (some 21) (AK.app 1 8 true) [(Opd.t 19), (Opd.t 20)] none)
 (Plan.alt
  (AOper.mk (some 23) (AK.call 27 []) [(Opd.t 22)] none) (Plan.take
  (AOper.mk (some 25) (AK.build [(AV.v (Go.Value.int Go.IntKind.i64 0)), (AV.v (Go.Value.int Go.IntKind.i64 0)), (AV.os 1 []), (AV.os 1 []), (AV.os 1 []), (AV.os 1 [])] [(0, 3), (3, 1), (4, 1), (5, 1)]) [(Opd.t 18), (Opd.t 21), (Opd.t 23), (Opd.t 24)] none)
 (Plan.alt
  (AOper.mk none (AK.store 6) [(Opd.t 4), (Opd.t 25)] none) Plan.done Plan.stop)) Plan.stop) Plan.stop) Plan.stop)))
 (Plan.alt
  (AOper.mk (some 24) (AK.bsl 1) [] none)
 (Plan.alt
  (AOper.mk (some 17) (AK.app 1 1 true) [(Opd.t 14), (Opd.t 16)] none) (Plan.take
  (AOper.mk (some 18) (AK.build [(AV.v (Go.Value.int Go.IntKind.i64 0)), (AV.v (Go.Value.int Go.IntKind.i64 0)), (AV.os 1 [])] [(0, 1), (1, 1), (2, 1)]) [(Opd.t 11), (Opd.t 13), (Opd.t 17)] none)
 (Plan.alt
  (AOper.mk (some 21) (AK.app 1 8 true) [(Opd.t 19), (Opd.t 20)] none)
 (Plan.alt
  (AOper.mk (some 23) (AK.call 27 []) [(Opd.t 22)] none) (Plan.take
  (AOper.mk (some 25) (AK.build [(AV.v (Go.Value.int Go.IntKind.i64 0)), (AV.v (Go.Value.int Go.IntKind.i64 0)), (AV.os 1 []), (AV.os 1 []), (AV.os 1 []), (AV.os 1 [])] [(0, 3), (3, 1), (4, 1), (5, 1)]) [(Opd.t 18), (Opd.t 21), (Opd.t 23), (Opd.t 24)] none)
 (Plan.alt
  (AOper.mk none (AK.store 6) [(Opd.t 4), (Opd.t 25)] none) Plan.done Plan.stop)) Plan.stop) Plan.stop)) Plan.stop) Plan.stop))
 (Plan.alt
  (AOper.mk (some 24) (AK.bsl 1) [] none)
 (Plan.alt
  (AOper.mk (some 14) (AK.bsl 1) [] none)
 (Plan.alt
  (AOper.mk (some 17) (AK.app 1 1 true) [(Opd.t 14), (Opd.t 16)] none) (Plan.take
  (AOper.mk (some 18) (AK.build [(AV.v (Go.Value.int Go.IntKind.i64 0)), (AV.v (Go.Value.int Go.IntKind.i64 0)), (AV.os 1 [])] [(0, 1), (1, 1), (2, 1)]) [(Opd.t 11), (Opd.t 13), (Opd.t 17)] none)
 (Plan.alt
  (AOper.mk (some 21) (AK.app 1 8 true) [(Opd.t 19), (Opd.t 20)] none)
 (Plan.alt
  (AOper.mk (some 23) (AK.call 27 []) [(Opd.t 22)] none) (Plan.take
  (AOper.mk (some 25) (AK.build [(AV.v (Go.Value.int Go.IntKind.i64 0)), (AV.v (Go.Value.int Go.IntKind.i64 0)), (AV.os 1 []), (AV.os 1 []), (AV.os 1 []), (AV.os 1 [])] [(0, 3), (3, 1), (4, 1), (5, 1)]) [(Opd.t 18), (Opd.t 21), (Opd.t 23), (Opd.t 24)] none)
 (Plan.alt
  (AOper.mk none (AK.store 6) [(Opd.t 4), (Opd.t 25)] none) Plan.done Plan.stop)) Plan.stop) Plan.stop)) Plan.stop) Plan.stop) Plan.stop))
 (Plan.alt
  (AOper.mk (some 24) (AK.bsl 1) [] none)
 (Plan.alt
  (AOper.mk (some 14) (AK.bsl 1) [] none)
 (Plan.alt
  (AOper.mk (some 17) (AK.app 1 1 true) [(Opd.t 14), (Opd.t 16)] none) (Plan.take
  (AOper.mk (some 18) (AK.build [(AV.v (Go.Value.int Go.IntKind.i64 0)), (AV.v (Go.Value.int Go.IntKind.i64 0)), (AV.os 1 [])] [(0, 1), (1, 1), (2, 1)]) [(Opd.t 11), (Opd.t 13), (Opd.t 17)] none)
 (Plan.alt
  (AOper.mk (some 19) (AK.bsl 1) [] none)
 (Plan.alt
  (AOper.mk (some 21) (AK.app 1 8 true) [(Opd.t 19), (Opd.t 20)] none)
 (Plan.alt
  (AOper.mk (some 23) (AK.call 27 []) [(Opd.t 22)] none) (Plan.take
  (AOper.mk (some 25) (AK.build [(AV.v (Go.Value.int Go.IntKind.i64 0)), (AV.v (Go.Value.int Go.IntKind.i64 0)), (AV.os 1 []), (AV.os 1 []), (AV.os 1 []), (AV.os 1 [])] [(0, 3), (3, 1), (4, 1), (5, 1)]) [(Opd.t 18), (Opd.t 21), (Opd.t 23), (Opd.t 24)] none)
 (Plan.alt
  (AOper.mk none (AK.store 6) [(Opd.t 4), (Opd.t 25)] none) Plan.done Plan.stop)) Plan.stop) Plan.stop) Plan.stop))
 (Plan.alt
  (AOper.mk (some 19) (AK.bsl 1) [] none)
 (Plan.alt
  (AOper.mk (some 17) (AK.app 1 1 true) [(Opd.t 14), (Opd.t 16)] none) (Plan.take
  (AOper.mk (some 18) (AK.build [(AV.v (Go.Value.int Go.IntKind.i64 0)), (AV.v (Go.Value.int Go.IntKind.i64 0)), (AV.os 1 [])] [(0, 1), (1, 1), (2, 1)]) [(Opd.t 11), (Opd.t 13), (Opd.t 17)] none)
 (Plan.alt
  (AOper.mk (some 21) (AK.app 1 8 true) [(Opd.t 19), (Opd.t 20)] none)
 (Plan.alt
  (AOper.mk (some 23) (AK.call 27 []) [(Opd.t 22)] none) (Plan.take
  (AOper.mk (some 25) (AK.build [(AV.v (Go.Value.int Go.IntKind.i64 0)), (AV.v (Go.Value.int Go.IntKind.i64 0)), (AV.os 1 []), (AV.os 1 []), (AV.os 1 []), (AV.os 1 [])] [(0, 3), (3, 1), (4, 1), (5, 1)]) [(Opd.t 18), (Opd.t 21), (Opd.t 23), (Opd.t 24)] none)
 (Plan.alt
  (AOper.mk none (AK.store 6) [(Opd.t 4), (Opd.t 25)] none) Plan.done Plan.stop)) Plan.stop) Plan.stop)) Plan.stop) Plan.stop))
 (Plan.alt
  (AOper.mk (some 19) (AK.bsl 1) [] none)
 (Plan.alt
  (AOper.mk (some 14) (AK.bsl 1) [] none)
 (Plan.alt
  (AOper.mk (some 17) (AK.app 1 1 true) [(Opd.t 14), (Opd.t 16)] none) (Plan.take
  (AOper.mk (some 18) (AK.build [(AV.v (Go.Value.int Go.IntKind.i64 0)), (AV.v (Go.Value.int Go.IntKind.i64 0)), (AV.os 1 [])] [(0, 1), (1, 1), (2, 1)]) [(Opd.t 11), (Opd.t 13), (Opd.t 17)] none)
 (Plan.alt
  (AOper.mk (some 21) (AK.app 1 8 true) [(Opd.t 19), (Opd.t 20)] none)
 (Plan.alt
  (AOper.mk (some 23) (AK.call 27 []) [(Opd.t 22)] none) (Plan.take
  (AOper.mk (some 25) (AK.build [(AV.v (Go.Value.int Go.IntKind.i64 0)), (AV.v (Go.Value.int Go.IntKind.i64 0)), (AV.os 1 []), (AV.os 1 []), (AV.os 1 []), (AV.os 1 [])] [(0, 3), (3, 1), (4, 1), (5, 1)]) [(Opd.t 18), (Opd.t 21), (Opd.t 23), (Opd.t 24)] none)
 (Plan.alt
  (AOper.mk none (AK.store 6) [(Opd.t 4), (Opd.t 25)] none) Plan.done Plan.stop)) Plan.stop) Plan.stop)) Plan.stop) Plan.stop) Plan.stop)) Plan.stop))))

def c_spec_BookNew : BCode :=
(BCode.seq
 (BCode.base (ACode.reg [(AOper.mk (some 2) AK.box [(Opd.t 0)] none),
  (AOper.mk (some 4) (AK.alloc [(AV.v (Go.Value.int Go.IntKind.i64 0)), (AV.v (Go.Value.int Go.IntKind.i64 0)), (AV.os 1 []), (AV.os 1 []), (AV.os 1 []), (AV.os 1 [])]) [] none)]))
 (BCode.seq
 (BCode.base (ACode.seq (ACode.reg [(AOper.mk (some 5) (AK.load true 3) [(Opd.t 2)] none),
  (AOper.mk (some 6) AK.mv [(Opd.t 1)] none),
  (AOper.mk (some 7) (AK.call 75 []) [(Opd.t 5), (Opd.t 6)] none),
  (AOper.mk (some 8) (AK.un Go.UnOp.not) [(Opd.t 7)] none)]) (ACode.cond (Opd.t 8) (ACode.seq (ACode.reg [(AOper.mk (some 9) (AK.build [(AV.v (Go.Value.int Go.IntKind.i64 0)), (AV.v (Go.Value.int Go.IntKind.i64 0)), (AV.os 1 []), (AV.os 1 []), (AV.os 1 []), (AV.os 1 [])] []) [] none),
  (AOper.mk none (AK.store 6) [(Opd.t 4), (Opd.t 9)] none)]) ACode.ret) ACode.skip)))
 (BCode.seq
 (BCode.frz 2 c_spec_BookNew_E)
 (BCode.base ACode.ret))))

theorem k_spec_BookNew : cFnB Tryz.prog n_spec_BookNew 26 [(RV.c 4 true 6)] c_spec_BookNew := ⟨Tryz.f66, _, Tryz.func66, rfl, by kernel_rfl, by kernel_rfl, by kernel_rfl, by kernel_rfl⟩

-- printed by program: impl_BookNew
end Go.Proofs.Dev
