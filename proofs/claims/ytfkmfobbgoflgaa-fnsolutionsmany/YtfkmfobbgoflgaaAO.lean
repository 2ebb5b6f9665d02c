/- Contracts of the functions of the program over slots and rows, each proved against the program itself; no condition beyond those that each theorem names. -/
import Derived.Test.YtfkmfobbgoflgaaAN
import Derived.Test.YtfkmfobbgoflgaaAI
import Derived.Test.YtfkmfobbgoflgaaProg
import Derived.Test.YtfkmfobbgoflgaaAM

set_option linter.unusedSimpArgs false
set_option linter.unusedVariables false

namespace Go.Proofs.Dev

-- 0 parameters, results [.t 0], 4 slots, modes []
@[simp] abbrev n_laws_alive : Nat := 7

def c_laws_alive : ACode :=
  .seq (.reg [⟨(some 0), .mv, [.c (.v (.bool false))], none⟩]) <|
  .seq (.reg [⟨(some 1), .call 16 [], [.c (.v (.int .i64 (2))), .c (.v (.int .i64 (3)))], none⟩,
    ⟨(some 2), .call 10 [], [.t 1], none⟩,
    ⟨(some 3), .bin .eql 0, [.t 2, .c (.v (.int .i64 (6)))], none⟩,
    ⟨(some 0), .mv, [.t 3], none⟩]) <|
  .ret

theorem k_laws_alive : cFn Try.prog n_laws_alive 4 [.t 0] c_laws_alive := ⟨Try.f7, _, Try.func7, rfl, by kernel_rfl, by kernel_rfl, by kernel_rfl, by kernel_rfl⟩

-- 1 parameters, results [.t 2], 9 slots, modes [false]
@[simp] abbrev n_impl_CellsMany : Nat := 10

def c_impl_CellsMany : ACode :=
  .seq (.reg [⟨(some 1), .box, [.t 0], none⟩,
    ⟨(some 2), .mv, [.c (.v (.int .i64 (0)))], none⟩]) <|
  .seq (.seq (.reg [⟨(some 3), .load true 3, [.t 1], none⟩,
    ⟨(some 4), .call 18 [], [.t 3], none⟩,
    ⟨(some 5), .un .not, [.t 4], none⟩]) <|
  .cond (.t 5) (
    .seq (.reg [⟨(some 2), .mv, [.c (.v (.int .i64 (-1)))], none⟩]) <|
    .ret) (
    .skip)) <|
  .seq (.reg [⟨(some 6), .fadr 2, [.t 1], none⟩,
    ⟨(some 7), .load false 1, [.t 6], none⟩,
    ⟨(some 8), .call 20 [], [.t 7], none⟩,
    ⟨(some 2), .mv, [.t 8], none⟩]) <|
  .ret

theorem k_impl_CellsMany : cFn Try.prog n_impl_CellsMany 9 [.t 2] c_impl_CellsMany := ⟨Try.f10, _, Try.func10, rfl, by kernel_rfl, by kernel_rfl, by kernel_rfl, by kernel_rfl⟩

-- 2 parameters, results [.c 4 true 3], 37 slots, modes [false, false]
@[simp] abbrev n_impl_RegionBox : Nat := 16
def c_impl_RegionBox_L0 : ACode :=
  .seq (.reg [⟨(some 29), .bin .lss 0, [.t 28, .t 27], none⟩]) <|
  .seq (.cond (.t 29) (
    .skip) (
    .exit 0)) <|
  .seq (.block 1 (
    .seq (.reg [⟨(some 30), .mv, [.t 28], none⟩,
      ⟨(some 6), .mv, [.t 30], none⟩]) <|
    .reg [⟨(some 31), .fadr 2, [.t 5], none⟩,
      ⟨(some 32), .load false 1, [.t 31], none⟩,
      ⟨(some 33), .mv, [.t 6], none⟩,
      ⟨(some 34), .iadr 1, [.t 32, .t 33], none⟩,
      ⟨none, .store 1, [.t 34, .c (.v (.bool true))], none⟩])) <|
  .reg [⟨(some 35), .bin .add 0, [.t 28, .c (.v (.int .i64 (1)))], none⟩,
    ⟨(some 28), .mv, [.t 35], none⟩]

def c_impl_RegionBox : ACode :=
  .seq (.reg [⟨(some 4), .alloc [.v (.int .i64 (0)), .v (.int .i64 (0)), .os 1 []], [], none⟩]) <|
  .seq (.seq (.reg [⟨(some 7), .mv, [.t 0], none⟩,
    ⟨(some 8), .call 32 [], [.t 7, .c (.v (.int .i64 (1))), .c (.v (.int .i64 (6)))], none⟩,
    ⟨(some 9), .un .not, [.t 8], none⟩,
    ⟨(some 10), .mv, [.t 9], none⟩,
    ⟨(some 11), .mv, [.t 1], (some (10, false))⟩,
    ⟨(some 12), .call 32 [], [.t 11, .c (.v (.int .i64 (1))), .c (.v (.int .i64 (6)))], (some (10, false))⟩,
    ⟨(some 13), .un .not, [.t 12], (some (10, false))⟩,
    ⟨(some 14), .pick, [.t 10, .c (.v (.bool true)), .t 13], none⟩,
    ⟨(some 15), .mv, [.t 14], none⟩,
    ⟨(some 16), .mv, [.t 0], (some (15, false))⟩,
    ⟨(some 17), .mv, [.t 1], (some (15, false))⟩,
    ⟨(some 18), .bin .mul 0, [.t 16, .t 17], (some (15, false))⟩,
    ⟨(some 19), .bin .gtr 0, [.t 18, .c (.v (.int .i64 (24)))], (some (15, false))⟩,
    ⟨(some 20), .pick, [.t 15, .c (.v (.bool true)), .t 19], none⟩]) <|
  .cond (.t 20) (
    .seq (.reg [⟨(some 21), .build [.v (.int .i64 (0)), .v (.int .i64 (0)), .os 1 []] [], [], none⟩,
      ⟨none, .store 3, [.t 4, .t 21], none⟩]) <|
    .ret) (
    .skip)) <|
  .seq (.reg [⟨(some 22), .mv, [.t 0], none⟩,
    ⟨(some 23), .mv, [.t 1], none⟩,
    ⟨(some 24), .call 33 [], [.t 22, .t 23], none⟩,
    ⟨(some 5), .alloc [.v (.int .i64 (0)), .v (.int .i64 (0)), .os 1 []], [], none⟩,
    ⟨none, .store 3, [.t 5, .t 24], none⟩]) <|
  .seq (.seq (.reg [⟨(some 25), .fadr 2, [.t 5], none⟩,
    ⟨(some 26), .load false 1, [.t 25], none⟩,
    ⟨(some 27), .len false, [.t 26], none⟩,
    ⟨(some 28), .mv, [.c (.v (.int .i64 (0)))], none⟩]) <|
  .block 0 (
    .loop [] [4, 5, 27, 28] c_impl_RegionBox_L0)) <|
  .seq (.reg [⟨(some 36), .load true 3, [.t 5], none⟩,
    ⟨none, .store 3, [.t 4, .t 36], none⟩]) <|
  .ret

theorem k_impl_RegionBox : cFn Try.prog n_impl_RegionBox 37 [.c 4 true 3] c_impl_RegionBox := ⟨Try.f16, _, Try.func16, rfl, by kernel_rfl, by kernel_rfl, by kernel_rfl, by kernel_rfl⟩

-- 2 parameters, results [.c 4 true 3], 12 slots, modes [false, false]
@[simp] abbrev n_impl_field : Nat := 33

def c_impl_field : ACode :=
  .seq (.reg [⟨(some 4), .alloc [.v (.int .i64 (0)), .v (.int .i64 (0)), .os 1 []], [], none⟩]) <|
  .seq (.reg [⟨(some 5), .mv, [.t 0], none⟩,
    ⟨(some 6), .mv, [.t 1], none⟩,
    ⟨(some 7), .mv, [.t 0], none⟩,
    ⟨(some 8), .mv, [.t 1], none⟩,
    ⟨(some 9), .bin .mul 0, [.t 7, .t 8], none⟩,
    ⟨(some 10), .mksl 1 1 (.v (.bool false)), [.t 9, .t 9], none⟩,
    ⟨(some 11), .build [.v (.int .i64 (0)), .v (.int .i64 (0)), .os 1 []] [(0, 1), (1, 1), (2, 1)], [.t 5, .t 6, .t 10], none⟩,
    ⟨none, .store 3, [.t 4, .t 11], none⟩]) <|
  .ret

theorem k_impl_field : cFn Try.prog n_impl_field 12 [.c 4 true 3] c_impl_field := ⟨Try.f33, _, Try.func33, rfl, by kernel_rfl, by kernel_rfl, by kernel_rfl, by kernel_rfl⟩

-- 1 parameters, results [.t 2], 11 slots, modes [false]
@[simp] abbrev n_spec_l20Open : Nat := 12

def c_spec_l20Open : ACode :=
  .seq (.reg [⟨(some 2), .mv, [.c (.v (.pointer none))], none⟩]) <|
  .seq (.seq (.reg [⟨(some 3), .mv, [.t 0], none⟩,
    ⟨(some 4), .len false, [.t 3], none⟩,
    ⟨(some 5), .bin .gtr 0, [.t 4, .c (.v (.int .i64 (2000)))], none⟩]) <|
  .cond (.t 5) (
    .reg [⟨(some 6), .mv, [.t 0], none⟩,
      ⟨(some 7), .slice 1 false false true false, [.t 6, .c (.v (.int .i64 (2000)))], none⟩,
      ⟨(some 0), .mv, [.t 7], none⟩]) (
    .skip)) <|
  .seq (.reg [⟨(some 8), .mv, [.t 0], none⟩,
    ⟨(some 9), .build [.os 1 [], .v (.int .i64 (0))] [(0, 1)], [.t 8], none⟩,
    ⟨(some 10), .box, [.t 9], none⟩,
    ⟨(some 2), .mv, [.t 10], none⟩]) <|
  .ret

theorem k_spec_l20Open : cFn Try.prog n_spec_l20Open 11 [.t 2] c_spec_l20Open := ⟨Try.f12, _, Try.func12, rfl, by kernel_rfl, by kernel_rfl, by kernel_rfl, by kernel_rfl⟩

-- 2 parameters, 99 slots
@[simp] abbrev n_spec_l20Rd_pick : Nat := 23
def c_spec_l20Rd_pick_E : BCode :=
(BCode.seq (BCode.base (ACode.reg [
  (AOper.mk (some 4) AK.mv [(Opd.c (AV.v (Go.Value.int Go.IntKind.i64 0)))] none)])) (BCode.seq (BCode.base (ACode.reg [
  (AOper.mk (some 7) AK.mv [(Opd.t 0)] none), 
  (AOper.mk (some 8) AK.mv [(Opd.t 0)] none), 
  (AOper.mk (some 9) AK.nilck [(Opd.t 8)] none), 
  (AOper.mk (some 10) (AK.fadr 1) [(Opd.t 9)] none), 
  (AOper.mk (some 11) (AK.load false 1) [(Opd.t 10)] none), 
  (AOper.mk (some 12) (AK.bin Go.BinOp.add 0) [(Opd.t 11), (Opd.c (AV.v (Go.Value.int Go.IntKind.i64 1)))] none), 
  (AOper.mk (some 13) AK.nilck [(Opd.t 7)] none), 
  (AOper.mk (some 14) (AK.fadr 1) [(Opd.t 13)] none), 
  (AOper.mk none (AK.store 1) [(Opd.t 14), (Opd.t 12)] none)])) (BCode.seq (BCode.base (ACode.seq (ACode.reg [
  (AOper.mk (some 15) AK.mv [(Opd.t 1)] none), 
  (AOper.mk (some 16) (AK.bin Go.BinOp.lss 0) [(Opd.t 15), (Opd.c (AV.v (Go.Value.int Go.IntKind.i64 1)))] none), 
  (AOper.mk (some 17) AK.mv [(Opd.t 16)] none), 
  (AOper.mk (some 18) AK.mv [(Opd.t 0)] (some (17, false))), 
  (AOper.mk (some 19) AK.nilck [(Opd.t 18)] (some (17, false))), 
  (AOper.mk (some 20) (AK.fadr 0) [(Opd.t 19)] (some (17, false))), 
  (AOper.mk (some 21) (AK.load false 1) [(Opd.t 20)] (some (17, false))), 
  (AOper.mk (some 22) (AK.len false) [(Opd.t 21)] (some (17, false))), 
  (AOper.mk (some 23) (AK.bin Go.BinOp.eql 0) [(Opd.t 22), (Opd.c (AV.v (Go.Value.int Go.IntKind.i64 0)))] (some (17, false))), 
  (AOper.mk (some 24) AK.pick [(Opd.t 17), (Opd.c (AV.v (Go.Value.bool true))), (Opd.t 23)] none)]) (ACode.cond (Opd.t 24) (ACode.seq (ACode.reg [
  (AOper.mk (some 4) AK.mv [(Opd.c (AV.v (Go.Value.int Go.IntKind.i64 0)))] none)]) ACode.ret) ACode.skip))) (BCode.seq (BCode.base (ACode.reg [
  (AOper.mk (some 25) AK.mv [(Opd.t 0)] none), 
  (AOper.mk (some 26) AK.nilck [(Opd.t 25)] none), 
  (AOper.mk (some 27) (AK.fadr 1) [(Opd.t 26)] none), 
  (AOper.mk (some 28) (AK.load false 1) [(Opd.t 27)] none), 
  (AOper.mk (some 29) (AK.bin Go.BinOp.sub 0) [(Opd.t 28), (Opd.c (AV.v (Go.Value.int Go.IntKind.i64 1)))] none), 
  (AOper.mk (some 5) AK.mv [(Opd.t 29)] none)])) (BCode.seq (BCode.base (ACode.seq (ACode.reg [
  (AOper.mk (some 30) AK.mv [(Opd.t 5)] none), 
  (AOper.mk (some 31) AK.mv [(Opd.t 0)] none), 
  (AOper.mk (some 32) AK.nilck [(Opd.t 31)] none), 
  (AOper.mk (some 33) (AK.fadr 0) [(Opd.t 32)] none), 
  (AOper.mk (some 34) (AK.load false 1) [(Opd.t 33)] none), 
  (AOper.mk (some 35) (AK.len false) [(Opd.t 34)] none), 
  (AOper.mk (some 36) (AK.bin Go.BinOp.lss 0) [(Opd.t 30), (Opd.t 35)] none)]) (ACode.cond (Opd.t 36) (ACode.seq (ACode.reg [
  (AOper.mk (some 37) AK.mv [(Opd.t 0)] none), 
  (AOper.mk (some 38) AK.nilck [(Opd.t 37)] none), 
  (AOper.mk (some 39) (AK.fadr 0) [(Opd.t 38)] none), 
  (AOper.mk (some 40) (AK.load false 1) [(Opd.t 39)] none), 
  (AOper.mk (some 41) AK.mv [(Opd.t 5)] none), 
  (AOper.mk (some 42) (AK.iadr 1) [(Opd.t 40), (Opd.t 41)] none), 
  (AOper.mk (some 43) (AK.load false 1) [(Opd.t 42)] none), 
  (AOper.mk (some 44) (AK.conv Go.IntKind.i64) [(Opd.t 43)] none), 
  (AOper.mk (some 45) AK.mv [(Opd.t 1)] none), 
  (AOper.mk (some 46) (AK.bin Go.BinOp.rem 0) [(Opd.t 44), (Opd.t 45)] none), 
  (AOper.mk (some 4) AK.mv [(Opd.t 46)] none)]) ACode.ret) ACode.skip))) (BCode.seq (BCode.pure [
  (AOper.mk (some 47) AK.mv [(Opd.t 0)] none), 
  (AOper.mk (some 48) AK.nilck [(Opd.t 47)] none), 
  (AOper.mk (some 49) (AK.fadr 0) [(Opd.t 48)] none), 
  (AOper.mk (some 50) (AK.load false 1) [(Opd.t 49)] none), 
  (AOper.mk (some 51) AK.mv [(Opd.t 5)] none), 
  (AOper.mk (some 52) AK.mv [(Opd.t 0)] none), 
  (AOper.mk (some 53) AK.nilck [(Opd.t 52)] none), 
  (AOper.mk (some 54) (AK.fadr 0) [(Opd.t 53)] none), 
  (AOper.mk (some 55) (AK.load false 1) [(Opd.t 54)] none), 
  (AOper.mk (some 56) (AK.len false) [(Opd.t 55)] none), 
  (AOper.mk (some 57) (AK.bin Go.BinOp.rem 0) [(Opd.t 51), (Opd.t 56)] none), 
  (AOper.mk (some 58) (AK.iadr 1) [(Opd.t 50), (Opd.t 57)] none), 
  (AOper.mk (some 59) (AK.load false 1) [(Opd.t 58)] none), 
  (AOper.mk (some 60) (AK.conv Go.IntKind.i64) [(Opd.t 59)] none), 
  (AOper.mk (some 61) (AK.bin Go.BinOp.mul 0) [(Opd.t 60), (Opd.c (AV.v (Go.Value.int Go.IntKind.i64 131)))] none), 
  (AOper.mk (some 62) AK.mv [(Opd.t 0)] none), 
  (AOper.mk (some 63) AK.nilck [(Opd.t 62)] none), 
  (AOper.mk (some 64) (AK.fadr 0) [(Opd.t 63)] none), 
  (AOper.mk (some 65) (AK.load false 1) [(Opd.t 64)] none), 
  (AOper.mk (some 66) AK.mv [(Opd.t 5)] none), 
  (AOper.mk (some 67) (AK.bin Go.BinOp.mul 0) [(Opd.t 66), (Opd.c (AV.v (Go.Value.int Go.IntKind.i64 7)))] none), 
  (AOper.mk (some 68) (AK.bin Go.BinOp.add 0) [(Opd.t 67), (Opd.c (AV.v (Go.Value.int Go.IntKind.i64 3)))] none), 
  (AOper.mk (some 69) AK.mv [(Opd.t 0)] none), 
  (AOper.mk (some 70) AK.nilck [(Opd.t 69)] none), 
  (AOper.mk (some 71) (AK.fadr 0) [(Opd.t 70)] none), 
  (AOper.mk (some 72) (AK.load false 1) [(Opd.t 71)] none), 
  (AOper.mk (some 73) (AK.len false) [(Opd.t 72)] none), 
  (AOper.mk (some 74) (AK.bin Go.BinOp.rem 0) [(Opd.t 68), (Opd.t 73)] none), 
  (AOper.mk (some 75) (AK.iadr 1) [(Opd.t 65), (Opd.t 74)] none), 
  (AOper.mk (some 76) (AK.load false 1) [(Opd.t 75)] none), 
  (AOper.mk (some 77) (AK.conv Go.IntKind.i64) [(Opd.t 76)] none), 
  (AOper.mk (some 78) (AK.bin Go.BinOp.mul 0) [(Opd.t 77), (Opd.c (AV.v (Go.Value.int Go.IntKind.i64 1117)))] none), 
  (AOper.mk (some 79) (AK.bin Go.BinOp.add 0) [(Opd.t 61), (Opd.t 78)] none), 
  (AOper.mk (some 80) AK.mv [(Opd.t 5)] none), 
  (AOper.mk (some 81) (AK.bin Go.BinOp.mul 0) [(Opd.t 80), (Opd.c (AV.v (Go.Value.int Go.IntKind.i64 29)))] none), 
  (AOper.mk (some 82) (AK.bin Go.BinOp.add 0) [(Opd.t 79), (Opd.t 81)] none), 
  (AOper.mk (some 83) AK.mv [(Opd.t 5)] none), 
  (AOper.mk (some 84) AK.mv [(Opd.t 0)] none), 
  (AOper.mk (some 85) AK.nilck [(Opd.t 84)] none), 
  (AOper.mk (some 86) (AK.fadr 0) [(Opd.t 85)] none), 
  (AOper.mk (some 87) (AK.load false 1) [(Opd.t 86)] none), 
  (AOper.mk (some 88) (AK.len false) [(Opd.t 87)] none), 
  (AOper.mk (some 89) (AK.bin Go.BinOp.quo 0) [(Opd.t 83), (Opd.t 88)] none), 
  (AOper.mk (some 90) (AK.bin Go.BinOp.mul 0) [(Opd.t 89), (Opd.c (AV.v (Go.Value.int Go.IntKind.i64 53)))] none), 
  (AOper.mk (some 91) (AK.bin Go.BinOp.add 0) [(Opd.t 82), (Opd.t 90)] none), 
  (AOper.mk (some 6) AK.mv [(Opd.t 91)] none)]) (BCode.base (ACode.seq (ACode.reg [
  (AOper.mk (some 92) AK.mv [(Opd.t 6)] none), 
  (AOper.mk (some 93) AK.mv [(Opd.t 6)] none), 
  (AOper.mk (some 94) (AK.bin Go.BinOp.quo 0) [(Opd.t 93), (Opd.c (AV.v (Go.Value.int Go.IntKind.i64 64)))] none), 
  (AOper.mk (some 95) (AK.bin Go.BinOp.xor 0) [(Opd.t 92), (Opd.t 94)] none), 
  (AOper.mk (some 6) AK.mv [(Opd.t 95)] none)]) (ACode.seq (ACode.reg [
  (AOper.mk (some 96) AK.mv [(Opd.t 6)] none), 
  (AOper.mk (some 97) AK.mv [(Opd.t 1)] none), 
  (AOper.mk (some 98) (AK.bin Go.BinOp.rem 0) [(Opd.t 96), (Opd.t 97)] none), 
  (AOper.mk (some 4) AK.mv [(Opd.t 98)] none)]) ACode.ret)))))))))

theorem k_spec_l20Rd_pick : cFnB Try.prog n_spec_l20Rd_pick 99 [(RV.t 4)] c_spec_l20Rd_pick_E := ⟨Try.f23, _, Try.func23, rfl, by kernel_rfl, by kernel_rfl, by kernel_rfl, by kernel_rfl⟩

-- 2 parameters, results [.t 4], 15 slots, modes [true, false]
@[simp] abbrev n_spec_l20Rd_odd : Nat := 26

def c_spec_l20Rd_odd : ACode :=
  .seq (.reg [⟨(some 4), .mv, [.c (.v (.bool false))], none⟩]) <|
  .seq (.reg [⟨(some 5), .mv, [.t 1], none⟩,
    ⟨(some 6), .bin .gtr 0, [.t 5, .c (.v (.int .i64 (0)))], none⟩,
    ⟨(some 7), .mv, [.t 6], none⟩,
    ⟨(some 8), .mv, [.t 0], (some (7, true))⟩,
    ⟨(some 9), .mv, [.t 1], (some (7, true))⟩,
    ⟨(some 10), .call 23 [], [.t 8, .t 9], (some (7, true))⟩,
    ⟨(some 11), .mv, [.t 1], (some (7, true))⟩,
    ⟨(some 12), .bin .sub 0, [.t 11, .c (.v (.int .i64 (1)))], (some (7, true))⟩,
    ⟨(some 13), .bin .eql 0, [.t 10, .t 12], (some (7, true))⟩,
    ⟨(some 14), .pick, [.t 7, .t 13, .c (.v (.bool false))], none⟩,
    ⟨(some 4), .mv, [.t 14], none⟩]) <|
  .ret

theorem k_spec_l20Rd_odd : cFn Try.prog n_spec_l20Rd_odd 15 [.t 4] c_spec_l20Rd_odd := ⟨Try.f26, _, Try.func26, rfl, by kernel_rfl, by kernel_rfl, by kernel_rfl, by kernel_rfl⟩

-- 2 parameters, results [.c 4 true 3], 38 slots, modes [false, false]
@[simp] abbrev n_spec_RegionBox : Nat := 42
def c_spec_RegionBox_L0 : ACode :=
  .seq (.seq (.reg [⟨(some 25), .mv, [.t 6], none⟩,
    ⟨(some 26), .mv, [.t 0], none⟩,
    ⟨(some 27), .mv, [.t 1], none⟩,
    ⟨(some 28), .bin .mul 0, [.t 26, .t 27], none⟩,
    ⟨(some 29), .bin .lss 0, [.t 25, .t 28], none⟩]) <|
  .cond (.t 29) (
    .skip) (
    .exit 0)) <|
  .seq (.block 1 (
    .reg [⟨(some 32), .fadr 2, [.t 5], none⟩,
      ⟨(some 33), .load false 1, [.t 32], none⟩,
      ⟨(some 34), .bsl 1, [.c (.v (.bool true))], none⟩,
      ⟨(some 35), .app 1 1 true, [.t 33, .t 34], none⟩,
      ⟨(some 36), .fadr 2, [.t 5], none⟩,
      ⟨none, .store 1, [.t 36, .t 35], none⟩])) <|
  .reg [⟨(some 30), .mv, [.t 6], none⟩,
    ⟨(some 31), .bin .add 0, [.t 30, .c (.v (.int .i64 (1)))], none⟩,
    ⟨(some 6), .mv, [.t 31], none⟩]

def c_spec_RegionBox : ACode :=
  .seq (.reg [⟨(some 4), .alloc [.v (.int .i64 (0)), .v (.int .i64 (0)), .os 1 []], [], none⟩]) <|
  .seq (.seq (.reg [⟨(some 7), .mv, [.t 0], none⟩,
    ⟨(some 8), .call 29 [], [.t 7, .c (.v (.int .i64 (1))), .c (.v (.int .i64 (6)))], none⟩,
    ⟨(some 9), .un .not, [.t 8], none⟩,
    ⟨(some 10), .mv, [.t 9], none⟩,
    ⟨(some 11), .mv, [.t 1], (some (10, false))⟩,
    ⟨(some 12), .call 29 [], [.t 11, .c (.v (.int .i64 (1))), .c (.v (.int .i64 (6)))], (some (10, false))⟩,
    ⟨(some 13), .un .not, [.t 12], (some (10, false))⟩,
    ⟨(some 14), .pick, [.t 10, .c (.v (.bool true)), .t 13], none⟩,
    ⟨(some 15), .mv, [.t 14], none⟩,
    ⟨(some 16), .mv, [.t 0], (some (15, false))⟩,
    ⟨(some 17), .mv, [.t 1], (some (15, false))⟩,
    ⟨(some 18), .bin .mul 0, [.t 16, .t 17], (some (15, false))⟩,
    ⟨(some 19), .bin .gtr 0, [.t 18, .c (.v (.int .i64 (24)))], (some (15, false))⟩,
    ⟨(some 20), .pick, [.t 15, .c (.v (.bool true)), .t 19], none⟩]) <|
  .cond (.t 20) (
    .seq (.reg [⟨(some 21), .build [.v (.int .i64 (0)), .v (.int .i64 (0)), .os 1 []] [], [], none⟩,
      ⟨none, .store 3, [.t 4, .t 21], none⟩]) <|
    .ret) (
    .skip)) <|
  .seq (.reg [⟨(some 22), .mv, [.t 0], none⟩,
    ⟨(some 23), .mv, [.t 1], none⟩,
    ⟨(some 24), .build [.v (.int .i64 (0)), .v (.int .i64 (0)), .os 1 []] [(0, 1), (1, 1)], [.t 22, .t 23], none⟩,
    ⟨(some 5), .alloc [.v (.int .i64 (0)), .v (.int .i64 (0)), .os 1 []], [], none⟩,
    ⟨none, .store 3, [.t 5, .t 24], none⟩]) <|
  .seq (.seq (.reg [⟨(some 6), .mv, [.c (.v (.int .i64 (0)))], none⟩]) <|
  .block 0 (
    .loop [] [0, 1, 4, 5, 6] c_spec_RegionBox_L0)) <|
  .seq (.reg [⟨(some 37), .load true 3, [.t 5], none⟩,
    ⟨none, .store 3, [.t 4, .t 37], none⟩]) <|
  .ret

theorem k_spec_RegionBox : cFn Try.prog n_spec_RegionBox 38 [.c 4 true 3] c_spec_RegionBox := ⟨Try.f42, _, Try.func42, rfl, by kernel_rfl, by kernel_rfl, by kernel_rfl, by kernel_rfl⟩

-- 1 parameters, results [.t 2], 184 slots, modes [false]
@[simp] abbrev n_spec_TilingsMany : Nat := 24
def c_spec_TilingsMany_L0 : ACode :=
  .seq (.seq (.draw (
    .take ⟨(some 121), .mv, [.t 15], none⟩ <|
    .take ⟨(some 122), .mv, [.t 6], none⟩ <|
    .take ⟨(some 123), .len false, [.t 122], none⟩ <|
    .take ⟨(some 124), .bin .lss 0, [.t 121, .t 123], none⟩ <|
    .take ⟨(some 125), .mv, [.t 124], none⟩ <|
    .take ⟨(some 126), .mv, [.t 6], (some (125, true))⟩ <|
    .take ⟨(some 127), .mv, [.t 15], (some (125, true))⟩ <|
    .take ⟨(some 128), .iadr 1, [.t 126, .t 127], (some (125, true))⟩ <|
    .take ⟨(some 130), .mv, [.t 11], (some (125, true))⟩ <|
    .take ⟨(some 131), .mv, [.t 14], (some (125, true))⟩ <|
    .take ⟨(some 132), .iadr 1, [.t 130, .t 131], (some (125, true))⟩ <|
    .alt ⟨(some 129), .load false 1, [.t 128], (some (125, true))⟩ (
      .alt ⟨(some 133), .load false 1, [.t 132], (some (125, true))⟩ (
        .take ⟨(some 134), .bin .neq 0, [.t 129, .t 133], (some (125, true))⟩ <|
        .take ⟨(some 135), .pick, [.t 125, .t 134, .c (.v (.bool false))], none⟩ <|
        .done) <|
      .stop) <|
    .alt ⟨(some 133), .load false 1, [.t 132], (some (125, true))⟩ (
      .alt ⟨(some 129), .load false 1, [.t 128], (some (125, true))⟩ (
        .take ⟨(some 134), .bin .neq 0, [.t 129, .t 133], (some (125, true))⟩ <|
        .take ⟨(some 135), .pick, [.t 125, .t 134, .c (.v (.bool false))], none⟩ <|
        .done) <|
      .stop) <|
    .stop)) <|
  .cond (.t 135) (
    .skip) (
    .exit 7)) <|
  .block 8 (
    .reg [⟨(some 136), .mv, [.t 15], none⟩,
      ⟨(some 137), .bin .add 0, [.t 136, .c (.v (.int .i64 (1)))], none⟩,
      ⟨(some 15), .mv, [.t 137], none⟩])

def c_spec_TilingsMany_L1 : ACode :=
  .seq (.seq (.reg [⟨(some 115), .mv, [.t 14], none⟩,
    ⟨(some 116), .mv, [.t 11], none⟩,
    ⟨(some 117), .len false, [.t 116], none⟩,
    ⟨(some 118), .bin .lss 0, [.t 115, .t 117], none⟩]) <|
  .cond (.t 118) (
    .skip) (
    .exit 5)) <|
  .seq (.block 6 (
    .seq (.reg [⟨(some 15), .mv, [.c (.v (.int .i64 (0)))], none⟩]) <|
    .seq (.block 7 (
      .loop [(3, 1), (4, 1), (6, 1), (7, 1), (11, 1)] [1, 3, 4, 5, 6, 7, 8, 11, 14, 15] c_spec_TilingsMany_L0)) <|
    .seq (.seq (.reg [⟨(some 138), .mv, [.t 15], none⟩,
      ⟨(some 139), .mv, [.t 6], none⟩,
      ⟨(some 140), .len false, [.t 139], none⟩,
      ⟨(some 141), .bin .eql 0, [.t 138, .t 140], none⟩]) <|
    .cond (.t 141) (
      .seq (.reg [⟨(some 142), .mv, [.t 6], none⟩,
        ⟨(some 143), .mv, [.t 11], none⟩,
        ⟨(some 144), .mv, [.t 14], none⟩,
        ⟨(some 145), .iadr 1, [.t 143, .t 144], none⟩,
        ⟨(some 146), .load false 1, [.t 145], none⟩,
        ⟨(some 147), .bsl 1, [.t 146], none⟩,
        ⟨(some 148), .app 1 8 true, [.t 142, .t 147], none⟩,
        ⟨(some 6), .mv, [.t 148], none⟩]) <|
      .reg [⟨(some 149), .mv, [.t 7], none⟩,
        ⟨(some 150), .bsl 1, [.c (.v (.int .i64 (0)))], none⟩,
        ⟨(some 151), .app 1 8 true, [.t 149, .t 150], none⟩,
        ⟨(some 7), .mv, [.t 151], none⟩]) (
      .skip)) <|
    .draw (
      .take ⟨(some 152), .mv, [.t 7], none⟩ <|
      .take ⟨(some 153), .mv, [.t 15], none⟩ <|
      .take ⟨(some 154), .mv, [.t 7], none⟩ <|
      .take ⟨(some 155), .mv, [.t 15], none⟩ <|
      .take ⟨(some 156), .iadr 1, [.t 154, .t 155], none⟩ <|
      .take ⟨(some 158), .mv, [.t 4], none⟩ <|
      .take ⟨(some 159), .mv, [.t 8], none⟩ <|
      .take ⟨(some 160), .iadr 1, [.t 158, .t 159], none⟩ <|
      .alt ⟨(some 157), .load false 1, [.t 156], none⟩ (
        .alt ⟨(some 161), .load false 1, [.t 160], none⟩ (
          .take ⟨(some 162), .bin .add 0, [.t 157, .t 161], none⟩ <|
          .take ⟨(some 163), .iadr 1, [.t 152, .t 153], none⟩ <|
          .alt ⟨none, .store 1, [.t 163, .t 162], none⟩ (
            .done) <|
          .stop) <|
        .stop) <|
      .alt ⟨(some 161), .load false 1, [.t 160], none⟩ (
        .alt ⟨(some 157), .load false 1, [.t 156], none⟩ (
          .take ⟨(some 162), .bin .add 0, [.t 157, .t 161], none⟩ <|
          .take ⟨(some 163), .iadr 1, [.t 152, .t 153], none⟩ <|
          .alt ⟨none, .store 1, [.t 163, .t 162], none⟩ (
            .done) <|
          .stop) <|
        .stop) <|
      .stop))) <|
  .reg [⟨(some 119), .mv, [.t 14], none⟩,
    ⟨(some 120), .bin .add 0, [.t 119, .c (.v (.int .i64 (1)))], none⟩,
    ⟨(some 14), .mv, [.t 120], none⟩]

def c_spec_TilingsMany_L2 : ACode :=
  .seq (.seq (.reg [⟨(some 32), .mv, [.t 8], none⟩,
    ⟨(some 33), .mv, [.t 3], none⟩,
    ⟨(some 34), .len false, [.t 33], none⟩,
    ⟨(some 35), .bin .lss 0, [.t 32, .t 34], none⟩]) <|
  .cond (.t 35) (
    .skip) (
    .exit 2)) <|
  .seq (.block 3 (
    .seq (.reg [⟨(some 38), .mv, [.t 3], none⟩,
      ⟨(some 39), .mv, [.t 8], none⟩,
      ⟨(some 40), .iadr 1, [.t 38, .t 39], none⟩,
      ⟨(some 41), .load false 1, [.t 40], none⟩,
      ⟨(some 9), .mv, [.t 41], none⟩]) <|
    .seq (.reg [⟨(some 42), .mv, [.t 9], none⟩,
      ⟨(some 43), .bin .rem 0, [.t 42, .c (.v (.int .i64 (2)))], none⟩,
      ⟨(some 44), .bin .eql 0, [.t 43, .c (.v (.int .i64 (1)))], none⟩,
      ⟨(some 10), .mv, [.t 44], none⟩]) <|
    .seq (.reg [⟨(some 45), .bsl 1, [], none⟩,
      ⟨(some 11), .mv, [.t 45], none⟩]) <|
    .seq (.block 4 (
      .seq (.reg [⟨(some 101), .mv, [.t 10], none⟩,
        ⟨(some 102), .mv, [.t 101], none⟩,
        ⟨(some 103), .fadr 2, [.t 1], (some (102, false))⟩,
        ⟨(some 104), .load false 1, [.t 103], (some (102, false))⟩,
        ⟨(some 105), .mv, [.t 5], (some (102, false))⟩,
        ⟨(some 106), .iadr 1, [.t 104, .t 105], (some (102, false))⟩,
        ⟨(some 107), .load false 1, [.t 106], (some (102, false))⟩,
        ⟨(some 108), .un .not, [.t 107], (some (102, false))⟩,
        ⟨(some 109), .pick, [.t 102, .c (.v (.bool true)), .t 108], none⟩,
        ⟨(some 100), .mv, [.t 109], none⟩]) <|
      .cond (.t 100) (
        .reg [⟨(some 110), .mv, [.t 11], none⟩,
          ⟨(some 111), .mv, [.t 9], none⟩,
          ⟨(some 112), .bin .quo 0, [.t 111, .c (.v (.int .i64 (2)))], none⟩,
          ⟨(some 113), .bsl 1, [.t 112], none⟩,
          ⟨(some 114), .app 1 8 true, [.t 110, .t 113], none⟩,
          ⟨(some 11), .mv, [.t 114], none⟩]) (
        .seq (.reg [⟨(some 46), .load true 3, [.t 1], none⟩,
          ⟨(some 47), .mv, [.t 5], none⟩,
          ⟨(some 48), .call 47 [], [.t 46, .t 47, .c (.v (.int .i64 (1)))], none⟩,
          ⟨(some 12), .mv, [.t 48], none⟩]) <|
        .seq (.reg [⟨(some 49), .load true 3, [.t 1], none⟩,
          ⟨(some 50), .mv, [.t 5], none⟩,
          ⟨(some 51), .call 47 [], [.t 49, .t 50, .c (.v (.int .i64 (2)))], none⟩,
          ⟨(some 13), .mv, [.t 51], none⟩]) <|
        .seq (.seq (.reg [⟨(some 52), .mv, [.t 12], none⟩,
          ⟨(some 53), .bin .geq 0, [.t 52, .c (.v (.int .i64 (0)))], none⟩,
          ⟨(some 54), .mv, [.t 53], none⟩,
          ⟨(some 55), .fadr 2, [.t 1], (some (54, true))⟩,
          ⟨(some 56), .load false 1, [.t 55], (some (54, true))⟩,
          ⟨(some 57), .mv, [.t 12], (some (54, true))⟩,
          ⟨(some 58), .iadr 1, [.t 56, .t 57], (some (54, true))⟩,
          ⟨(some 59), .load false 1, [.t 58], (some (54, true))⟩,
          ⟨(some 60), .pick, [.t 54, .t 59, .c (.v (.bool false))], none⟩,
          ⟨(some 61), .mv, [.t 60], none⟩,
          ⟨(some 62), .mv, [.t 9], (some (61, true))⟩,
          ⟨(some 63), .bin .quo 0, [.t 62, .c (.v (.int .i64 (2)))], (some (61, true))⟩,
          ⟨(some 64), .bin .rem 0, [.t 63, .c (.v (.int .i64 (2)))], (some (61, true))⟩,
          ⟨(some 65), .bin .eql 0, [.t 64, .c (.v (.int .i64 (0)))], (some (61, true))⟩,
          ⟨(some 66), .pick, [.t 61, .t 65, .c (.v (.bool false))], none⟩]) <|
        .cond (.t 66) (
          .reg [⟨(some 67), .mv, [.t 11], none⟩,
            ⟨(some 68), .mv, [.t 9], none⟩,
            ⟨(some 69), .bin .quo 0, [.t 68, .c (.v (.int .i64 (2)))], none⟩,
            ⟨(some 70), .bin .add 0, [.t 69, .c (.v (.int .i64 (1)))], none⟩,
            ⟨(some 71), .bsl 1, [.t 70], none⟩,
            ⟨(some 72), .app 1 8 true, [.t 67, .t 71], none⟩,
            ⟨(some 11), .mv, [.t 72], none⟩]) (
          .skip)) <|
        .seq (.reg [⟨(some 73), .mv, [.t 13], none⟩,
          ⟨(some 74), .bin .geq 0, [.t 73, .c (.v (.int .i64 (0)))], none⟩,
          ⟨(some 75), .mv, [.t 74], none⟩,
          ⟨(some 76), .fadr 2, [.t 1], (some (75, true))⟩,
          ⟨(some 77), .load false 1, [.t 76], (some (75, true))⟩,
          ⟨(some 78), .mv, [.t 13], (some (75, true))⟩,
          ⟨(some 79), .iadr 1, [.t 77, .t 78], (some (75, true))⟩,
          ⟨(some 80), .load false 1, [.t 79], (some (75, true))⟩,
          ⟨(some 81), .pick, [.t 75, .t 80, .c (.v (.bool false))], none⟩,
          ⟨(some 82), .mv, [.t 81], none⟩,
          ⟨(some 83), .mv, [.t 9], (some (82, true))⟩,
          ⟨(some 84), .fadr 0, [.t 1], (some (82, true))⟩,
          ⟨(some 85), .load false 1, [.t 84], (some (82, true))⟩,
          ⟨(some 86), .bin .shr 0, [.t 83, .t 85], (some (82, true))⟩,
          ⟨(some 87), .bin .rem 0, [.t 86, .c (.v (.int .i64 (2)))], (some (82, true))⟩,
          ⟨(some 88), .bin .eql 0, [.t 87, .c (.v (.int .i64 (0)))], (some (82, true))⟩,
          ⟨(some 89), .pick, [.t 82, .t 88, .c (.v (.bool false))], none⟩]) <|
        .cond (.t 89) (
          .reg [⟨(some 90), .mv, [.t 11], none⟩,
            ⟨(some 91), .mv, [.t 9], none⟩,
            ⟨(some 92), .bin .quo 0, [.t 91, .c (.v (.int .i64 (2)))], none⟩,
            ⟨(some 93), .fadr 0, [.t 1], none⟩,
            ⟨(some 94), .load false 1, [.t 93], none⟩,
            ⟨(some 95), .bin .sub 0, [.t 94, .c (.v (.int .i64 (1)))], none⟩,
            ⟨(some 96), .bin .shl 0, [.c (.v (.int .i64 (1))), .t 95], none⟩,
            ⟨(some 97), .bin .add 0, [.t 92, .t 96], none⟩,
            ⟨(some 98), .bsl 1, [.t 97], none⟩,
            ⟨(some 99), .app 1 8 true, [.t 90, .t 98], none⟩,
            ⟨(some 11), .mv, [.t 99], none⟩]) (
          .skip)))) <|
    .seq (.reg [⟨(some 14), .mv, [.c (.v (.int .i64 (0)))], none⟩]) <|
    .block 5 (
      .loop [(3, 1), (4, 1), (6, 1), (7, 1), (11, 1)] [1, 3, 4, 5, 6, 7, 8, 11, 14] c_spec_TilingsMany_L1))) <|
  .reg [⟨(some 36), .mv, [.t 8], none⟩,
    ⟨(some 37), .bin .add 0, [.t 36, .c (.v (.int .i64 (1)))], none⟩,
    ⟨(some 8), .mv, [.t 37], none⟩]

def c_spec_TilingsMany_L3 : ACode :=
  .seq (.seq (.reg [⟨(some 23), .mv, [.t 5], none⟩,
    ⟨(some 24), .fadr 2, [.t 1], none⟩,
    ⟨(some 25), .load false 1, [.t 24], none⟩,
    ⟨(some 26), .len false, [.t 25], none⟩,
    ⟨(some 27), .bin .lss 0, [.t 23, .t 26], none⟩]) <|
  .cond (.t 27) (
    .skip) (
    .exit 0)) <|
  .seq (.block 1 (
    .seq (.reg [⟨(some 30), .bsl 1, [], none⟩,
      ⟨(some 6), .mv, [.t 30], none⟩]) <|
    .seq (.reg [⟨(some 31), .bsl 1, [], none⟩,
      ⟨(some 7), .mv, [.t 31], none⟩]) <|
    .seq (.seq (.reg [⟨(some 8), .mv, [.c (.v (.int .i64 (0)))], none⟩]) <|
    .block 2 (
      .loop [(3, 1), (4, 1), (6, 1), (7, 1)] [1, 3, 4, 5, 6, 7, 8] c_spec_TilingsMany_L2)) <|
    .seq (.reg [⟨(some 164), .mv, [.t 6], none⟩,
      ⟨(some 3), .mv, [.t 164], none⟩]) <|
    .reg [⟨(some 165), .mv, [.t 7], none⟩,
      ⟨(some 4), .mv, [.t 165], none⟩])) <|
  .reg [⟨(some 28), .mv, [.t 5], none⟩,
    ⟨(some 29), .bin .add 0, [.t 28, .c (.v (.int .i64 (1)))], none⟩,
    ⟨(some 5), .mv, [.t 29], none⟩]

def c_spec_TilingsMany_L4 : ACode :=
  .seq (.seq (.reg [⟨(some 166), .mv, [.t 17], none⟩,
    ⟨(some 167), .mv, [.t 3], none⟩,
    ⟨(some 168), .len false, [.t 167], none⟩,
    ⟨(some 169), .bin .lss 0, [.t 166, .t 168], none⟩]) <|
  .cond (.t 169) (
    .skip) (
    .exit 9)) <|
  .seq (.block 10 (
    .seq (.reg [⟨(some 172), .mv, [.t 3], none⟩,
      ⟨(some 173), .mv, [.t 17], none⟩,
      ⟨(some 174), .iadr 1, [.t 172, .t 173], none⟩,
      ⟨(some 175), .load false 1, [.t 174], none⟩,
      ⟨(some 176), .bin .eql 0, [.t 175, .c (.v (.int .i64 (0)))], none⟩]) <|
    .cond (.t 176) (
      .reg [⟨(some 177), .mv, [.t 16], none⟩,
        ⟨(some 178), .mv, [.t 4], none⟩,
        ⟨(some 179), .mv, [.t 17], none⟩,
        ⟨(some 180), .iadr 1, [.t 178, .t 179], none⟩,
        ⟨(some 181), .load false 1, [.t 180], none⟩,
        ⟨(some 182), .bin .add 0, [.t 177, .t 181], none⟩,
        ⟨(some 16), .mv, [.t 182], none⟩]) (
      .skip))) <|
  .reg [⟨(some 170), .mv, [.t 17], none⟩,
    ⟨(some 171), .bin .add 0, [.t 170, .c (.v (.int .i64 (1)))], none⟩,
    ⟨(some 17), .mv, [.t 171], none⟩]

def c_spec_TilingsMany : ACode :=
  .seq (.reg [⟨(some 1), .box, [.t 0], none⟩,
    ⟨(some 2), .mv, [.c (.v (.int .i64 (0)))], none⟩]) <|
  .seq (.seq (.reg [⟨(some 18), .load true 3, [.t 1], none⟩,
    ⟨(some 19), .call 28 [], [.t 18], none⟩,
    ⟨(some 20), .un .not, [.t 19], none⟩]) <|
  .cond (.t 20) (
    .seq (.reg [⟨(some 2), .mv, [.c (.v (.int .i64 (-1)))], none⟩]) <|
    .ret) (
    .skip)) <|
  .seq (.reg [⟨(some 21), .bsl 1, [.c (.v (.int .i64 (0)))], none⟩,
    ⟨(some 3), .mv, [.t 21], none⟩]) <|
  .seq (.reg [⟨(some 22), .bsl 1, [.c (.v (.int .i64 (1)))], none⟩,
    ⟨(some 4), .mv, [.t 22], none⟩]) <|
  .seq (.seq (.reg [⟨(some 5), .mv, [.c (.v (.int .i64 (0)))], none⟩]) <|
  .block 0 (
    .loop [(3, 1), (4, 1)] [1, 3, 4, 5] c_spec_TilingsMany_L3)) <|
  .seq (.reg [⟨(some 16), .mv, [.c (.v (.int .i64 (0)))], none⟩]) <|
  .seq (.seq (.reg [⟨(some 17), .mv, [.c (.v (.int .i64 (0)))], none⟩]) <|
  .block 9 (
    .loop [(3, 1), (4, 1)] [3, 4, 16, 17] c_spec_TilingsMany_L4)) <|
  .seq (.reg [⟨(some 183), .mv, [.t 16], none⟩,
    ⟨(some 2), .mv, [.t 183], none⟩]) <|
  .ret

theorem k_spec_TilingsMany : cFn Try.prog n_spec_TilingsMany 184 [.t 2] c_spec_TilingsMany := ⟨Try.f24, _, Try.func24, rfl, by kernel_rfl, by kernel_rfl, by kernel_rfl, by kernel_rfl⟩

-- 2 parameters, results [.c 4 true 3], 30 slots, modes [false, false]
@[simp] abbrev n_spec_l3Less : Nat := 67
def c_spec_l3Less_L0 : ACode :=
  .seq (.seq (.reg [⟨(some 16), .mv, [.t 6], none⟩,
    ⟨(some 17), .mv, [.t 1], none⟩,
    ⟨(some 18), .len false, [.t 17], none⟩,
    ⟨(some 19), .bin .lss 0, [.t 16, .t 18], none⟩]) <|
  .cond (.t 19) (
    .skip) (
    .exit 0)) <|
  .seq (.block 1 (
    .draw (
      .take ⟨(some 22), .fadr 2, [.t 5], none⟩ <|
      .take ⟨(some 24), .mv, [.t 1], none⟩ <|
      .take ⟨(some 25), .mv, [.t 6], none⟩ <|
      .take ⟨(some 26), .iadr 1, [.t 24, .t 25], none⟩ <|
      .alt ⟨(some 23), .load false 1, [.t 22], none⟩ (
        .alt ⟨(some 27), .load false 1, [.t 26], none⟩ (
          .take ⟨(some 28), .iadr 1, [.t 23, .t 27], none⟩ <|
          .alt ⟨none, .store 1, [.t 28, .c (.v (.bool false))], none⟩ (
            .done) <|
          .stop) <|
        .stop) <|
      .alt ⟨(some 27), .load false 1, [.t 26], none⟩ (
        .alt ⟨(some 23), .load false 1, [.t 22], none⟩ (
          .take ⟨(some 28), .iadr 1, [.t 23, .t 27], none⟩ <|
          .alt ⟨none, .store 1, [.t 28, .c (.v (.bool false))], none⟩ (
            .done) <|
          .stop) <|
        .stop) <|
      .stop))) <|
  .reg [⟨(some 20), .mv, [.t 6], none⟩,
    ⟨(some 21), .bin .add 0, [.t 20, .c (.v (.int .i64 (1)))], none⟩,
    ⟨(some 6), .mv, [.t 21], none⟩]

def c_spec_l3Less_T1 : ACode :=
  .seq (.seq (.reg [⟨(some 6), .mv, [.c (.v (.int .i64 (0)))], none⟩]) <|
  .block 0 (
    .loop [(1, 1)] [1, 4, 5, 6] c_spec_l3Less_L0)) <|
  .seq (.reg [⟨(some 29), .load true 3, [.t 5], none⟩,
    ⟨none, .store 3, [.t 4, .t 29], none⟩]) <|
  .ret

def c_spec_l3Less_E : BCode :=
  .seq (.base (.reg [⟨(some 2), .box, [.t 0], none⟩,
    ⟨(some 4), .alloc [.v (.int .i64 (0)), .v (.int .i64 (0)), .os 1 []], [], none⟩])) <|
  .frz 2 <| .seq (BCode.early [
  (AOper.mk (some 7) (AK.fadr 0) [(Opd.t 2)] none), 
  (AOper.mk (some 8) (AK.load false 1) [(Opd.t 7)] none), 
  (AOper.mk (some 9) (AK.fadr 1) [(Opd.t 2)] none), 
  (AOper.mk (some 10) (AK.load false 1) [(Opd.t 9)] none), 
  (AOper.mk (some 12) (AK.fadr 2) [(Opd.t 2)] none), 
  (AOper.mk (some 13) (AK.load false 1) [(Opd.t 12)] none)] 
 (Plan.alt 
  (AOper.mk (some 11) (AK.bsl 1) [] none) 
 (Plan.alt 
  (AOper.mk (some 14) (AK.app 1 1 true) [(Opd.t 11), (Opd.t 13)] none) (Plan.take 
  (AOper.mk (some 15) (AK.build [(AV.v (Go.Value.int Go.IntKind.i64 0)), (AV.v (Go.Value.int Go.IntKind.i64 0)), (AV.os 1 [])] [(0, 1), (1, 1), (2, 1)]) [(Opd.t 8), (Opd.t 10), (Opd.t 14)] none) 
 (Plan.alt 
  (AOper.mk (some 5) (AK.alloc [(AV.v (Go.Value.int Go.IntKind.i64 0)), (AV.v (Go.Value.int Go.IntKind.i64 0)), (AV.os 1 [])]) [] none) 
 (Plan.alt 
  (AOper.mk none (AK.store 3) [(Opd.t 5), (Opd.t 15)] none) Plan.done Plan.stop) Plan.stop)) 
 (Plan.alt 
  (AOper.mk (some 5) (AK.alloc [(AV.v (Go.Value.int Go.IntKind.i64 0)), (AV.v (Go.Value.int Go.IntKind.i64 0)), (AV.os 1 [])]) [] none) 
 (Plan.alt 
  (AOper.mk (some 14) (AK.app 1 1 true) [(Opd.t 11), (Opd.t 13)] none) (Plan.take 
  (AOper.mk (some 15) (AK.build [(AV.v (Go.Value.int Go.IntKind.i64 0)), (AV.v (Go.Value.int Go.IntKind.i64 0)), (AV.os 1 [])] [(0, 1), (1, 1), (2, 1)]) [(Opd.t 8), (Opd.t 10), (Opd.t 14)] none) 
 (Plan.alt 
  (AOper.mk none (AK.store 3) [(Opd.t 5), (Opd.t 15)] none) Plan.done Plan.stop)) Plan.stop) Plan.stop)) 
 (Plan.alt 
  (AOper.mk (some 5) (AK.alloc [(AV.v (Go.Value.int Go.IntKind.i64 0)), (AV.v (Go.Value.int Go.IntKind.i64 0)), (AV.os 1 [])]) [] none) 
 (Plan.alt 
  (AOper.mk (some 11) (AK.bsl 1) [] none) 
 (Plan.alt 
  (AOper.mk (some 14) (AK.app 1 1 true) [(Opd.t 11), (Opd.t 13)] none) (Plan.take 
  (AOper.mk (some 15) (AK.build [(AV.v (Go.Value.int Go.IntKind.i64 0)), (AV.v (Go.Value.int Go.IntKind.i64 0)), (AV.os 1 [])] [(0, 1), (1, 1), (2, 1)]) [(Opd.t 8), (Opd.t 10), (Opd.t 14)] none) 
 (Plan.alt 
  (AOper.mk none (AK.store 3) [(Opd.t 5), (Opd.t 15)] none) Plan.done Plan.stop)) Plan.stop) Plan.stop) Plan.stop))) <|
  .base (.gc [] [1, 4, 5] c_spec_l3Less_T1)

theorem k_spec_l3Less : cFnB Try.prog n_spec_l3Less 30 [.c 4 true 3] c_spec_l3Less_E := ⟨Try.f67, _, Try.func67, rfl, by kernel_rfl, by kernel_rfl, by kernel_rfl, by kernel_rfl⟩

-- 2 parameters, results [.t 4], 27 slots, modes [false, false]
@[simp] abbrev n_spec_l3With : Nat := 46
def c_spec_l3With_L0 : ACode :=
  .seq (.seq (.reg [⟨(some 8), .mv, [.t 6], none⟩,
    ⟨(some 9), .mv, [.t 1], none⟩,
    ⟨(some 10), .len false, [.t 9], none⟩,
    ⟨(some 11), .bin .lss 0, [.t 8, .t 10], none⟩]) <|
  .cond (.t 11) (
    .skip) (
    .exit 0)) <|
  .seq (.block 1 (
    .seq (.reg [⟨(some 14), .mv, [.t 1], none⟩,
      ⟨(some 15), .mv, [.t 6], none⟩,
      ⟨(some 16), .iadr 1, [.t 14, .t 15], none⟩,
      ⟨(some 17), .load false 1, [.t 16], none⟩,
      ⟨(some 18), .bin .neq 0, [.t 17, .c (.v (.int .i64 (0)))], none⟩]) <|
    .cond (.t 18) (
      .reg [⟨(some 19), .mv, [.t 5], none⟩,
        ⟨(some 20), .mv, [.t 6], none⟩,
        ⟨(some 21), .bsl 1, [.t 20], none⟩,
        ⟨(some 22), .app 1 8 true, [.t 19, .t 21], none⟩,
        ⟨(some 5), .mv, [.t 22], none⟩]) (
      .skip))) <|
  .reg [⟨(some 12), .mv, [.t 6], none⟩,
    ⟨(some 13), .bin .add 0, [.t 12, .c (.v (.int .i64 (1)))], none⟩,
    ⟨(some 6), .mv, [.t 13], none⟩]

def c_spec_l3With : ACode :=
  .seq (.reg [⟨(some 2), .box, [.t 0], none⟩,
    ⟨(some 4), .mv, [.c (.v (.int .i64 (0)))], none⟩]) <|
  .seq (.reg [⟨(some 7), .bsl 1, [], none⟩,
    ⟨(some 5), .mv, [.t 7], none⟩]) <|
  .seq (.seq (.reg [⟨(some 6), .mv, [.c (.v (.int .i64 (0)))], none⟩]) <|
  .block 0 (
    .loop [(1, 1), (5, 1)] [1, 2, 5, 6] c_spec_l3With_L0)) <|
  .seq (.reg [⟨(some 23), .load true 3, [.t 2], none⟩,
    ⟨(some 24), .mv, [.t 5], none⟩,
    ⟨(some 25), .call 67 [], [.t 23, .t 24], none⟩,
    ⟨(some 26), .call 24 [], [.t 25], none⟩,
    ⟨(some 4), .mv, [.t 26], none⟩]) <|
  .ret

theorem k_spec_l3With : cFn Try.prog n_spec_l3With 27 [.t 4] c_spec_l3With := ⟨Try.f46, _, Try.func46, rfl, by kernel_rfl, by kernel_rfl, by kernel_rfl, by kernel_rfl⟩

-- 2 parameters, results [.t 4, .t 5], 62 slots, modes [false, false]
@[simp] abbrev n_spec_TilingOf : Nat := 22
def c_spec_TilingOf_L0 : ACode :=
  .seq (.seq (.reg [⟨(some 30), .mv, [.t 7], none⟩,
    ⟨(some 31), .bin .geq 0, [.t 30, .c (.v (.int .i64 (0)))], none⟩]) <|
  .cond (.t 31) (
    .skip) (
    .exit 0)) <|
  .seq (.block 1 (
    .seq (.reg [⟨(some 36), .load true 3, [.t 2], none⟩,
      ⟨(some 37), .mv, [.t 6], none⟩,
      ⟨(some 38), .mv, [.t 7], none⟩,
      ⟨(some 39), .call 45 [], [.t 36, .t 37, .t 38, .c (.v (.int .i64 (1)))], none⟩,
      ⟨(some 35), .mv, [.t 39], none⟩,
      ⟨(some 40), .extr 0, [.t 35], none⟩,
      ⟨(some 41), .extr 1, [.t 35], none⟩,
      ⟨(some 8), .mv, [.t 40], none⟩,
      ⟨(some 9), .mv, [.t 41], none⟩]) <|
    .seq (.reg [⟨(some 10), .mv, [.c (.v (.int .i64 (0)))], none⟩]) <|
    .seq (.seq (.reg [⟨(some 42), .mv, [.t 9], none⟩]) <|
    .cond (.t 42) (
      .reg [⟨(some 43), .load true 3, [.t 2], none⟩,
        ⟨(some 44), .mv, [.t 8], none⟩,
        ⟨(some 45), .call 46 [], [.t 43, .t 44], none⟩,
        ⟨(some 10), .mv, [.t 45], none⟩]) (
      .skip)) <|
    .seq (.seq (.reg [⟨(some 46), .mv, [.t 1], none⟩,
      ⟨(some 47), .mv, [.t 10], none⟩,
      ⟨(some 48), .bin .geq 0, [.t 46, .t 47], none⟩]) <|
    .cond (.t 48) (
      .seq (.reg [⟨(some 49), .mv, [.t 1], none⟩,
        ⟨(some 50), .mv, [.t 10], none⟩,
        ⟨(some 51), .bin .sub 0, [.t 49, .t 50], none⟩,
        ⟨(some 1), .mv, [.t 51], none⟩]) <|
      .seq (.reg [⟨(some 53), .load true 3, [.t 2], none⟩,
        ⟨(some 54), .mv, [.t 6], none⟩,
        ⟨(some 55), .mv, [.t 7], none⟩,
        ⟨(some 56), .call 45 [], [.t 53, .t 54, .t 55, .c (.v (.int .i64 (2)))], none⟩,
        ⟨(some 52), .mv, [.t 56], none⟩,
        ⟨(some 57), .extr 0, [.t 52], none⟩,
        ⟨(some 58), .extr 1, [.t 52], none⟩,
        ⟨(some 11), .mv, [.t 57], none⟩,
        ⟨(some 12), .mv, [.t 58], none⟩]) <|
      .reg [⟨(some 59), .mv, [.t 11], none⟩,
        ⟨(some 8), .mv, [.t 59], none⟩]) (
      .skip)) <|
    .reg [⟨(some 60), .mv, [.t 8], none⟩,
      ⟨(some 6), .mv, [.t 60], none⟩])) <|
  .reg [⟨(some 32), .load true 3, [.t 2], none⟩,
    ⟨(some 33), .mv, [.t 6], none⟩,
    ⟨(some 34), .call 44 [], [.t 32, .t 33], none⟩,
    ⟨(some 7), .mv, [.t 34], none⟩]

def c_spec_TilingOf : ACode :=
  .seq (.reg [⟨(some 2), .box, [.t 0], none⟩,
    ⟨(some 4), .mv, [.c (.os 1 [])], none⟩,
    ⟨(some 5), .mv, [.c (.v (.bool false))], none⟩]) <|
  .seq (.seq (.reg [⟨(some 13), .load true 3, [.t 2], none⟩,
    ⟨(some 14), .call 28 [], [.t 13], none⟩,
    ⟨(some 15), .un .not, [.t 14], none⟩,
    ⟨(some 16), .mv, [.t 15], none⟩,
    ⟨(some 17), .mv, [.t 1], (some (16, false))⟩,
    ⟨(some 18), .load true 3, [.t 2], (some (16, false))⟩,
    ⟨(some 19), .call 24 [], [.t 18], (some (16, false))⟩,
    ⟨(some 20), .bin .sub 0, [.t 19, .c (.v (.int .i64 (1)))], (some (16, false))⟩,
    ⟨(some 21), .call 29 [], [.t 17, .c (.v (.int .i64 (0))), .t 20], (some (16, false))⟩,
    ⟨(some 22), .un .not, [.t 21], (some (16, false))⟩,
    ⟨(some 23), .pick, [.t 16, .c (.v (.bool true)), .t 22], none⟩]) <|
  .cond (.t 23) (
    .seq (.reg [⟨(some 24), .bsl 1, [], none⟩,
      ⟨(some 4), .mv, [.t 24], none⟩,
      ⟨(some 5), .mv, [.c (.v (.bool false))], none⟩]) <|
    .ret) (
    .skip)) <|
  .seq (.reg [⟨(some 25), .load true 3, [.t 2], none⟩,
    ⟨(some 26), .call 43 [], [.t 25], none⟩,
    ⟨(some 6), .mv, [.t 26], none⟩]) <|
  .seq (.seq (.reg [⟨(some 27), .load true 3, [.t 2], none⟩,
    ⟨(some 28), .mv, [.t 6], none⟩,
    ⟨(some 29), .call 44 [], [.t 27, .t 28], none⟩,
    ⟨(some 7), .mv, [.t 29], none⟩]) <|
  .block 0 (
    .loop [(6, 1)] [1, 2, 6, 7] c_spec_TilingOf_L0)) <|
  .seq (.reg [⟨(some 61), .mv, [.t 6], none⟩,
    ⟨(some 4), .mv, [.t 61], none⟩,
    ⟨(some 5), .mv, [.c (.v (.bool true))], none⟩]) <|
  .ret

theorem k_spec_TilingOf : cFn Try.prog n_spec_TilingOf 62 [.t 4, .t 5] c_spec_TilingOf := ⟨Try.f22, _, Try.func22, rfl, by kernel_rfl, by kernel_rfl, by kernel_rfl, by kernel_rfl⟩

end Go.Proofs.Dev

namespace Go.Proofs.Dev
set_option linter.unusedSimpArgs false
set_option maxRecDepth 100000

theorem s_impl_CellsMany (W T : Int) (cs : List Bool) (hb : cs.length < 2 ^ 40) :
    SoundAt Try.prog n_impl_CellsMany [.agg [.v (.int .i64 W), .v (.int .i64 T), .sl 1 1 (bools cs)]] (.v (.int .i64 (if regB W T cs = true then (manyOf cs : Int) else -1))) [.bot] := by
  refine fn_ok (md := md0) (ms := [false]) k_impl_CellsMany (by simp) ?_
  simp [c_impl_CellsMany]
  refine call_on (s_impl_RegionValid W T cs hb) ?_
  cases hr : regB W T cs with
  | false => simp
  | true =>
  simp
  refine call_on (s_impl_many cs hb) ?_
  simp

theorem s_impl_field (W T : Int) (h1 : 0 ≤ W ∧ W ≤ 6) (h2 : 0 ≤ T ∧ T ≤ 6) :
    SoundAt Try.prog n_impl_field [.v (.int .i64 W), .v (.int .i64 T)] (.agg [.v (.int .i64 W), .v (.int .i64 T), .os 1 (bools (List.replicate (W * T).toNat false))]) [.bot, .bot] := by
  refine fn_ok (md := md0) (ms := [false, false]) k_impl_field (by simp) ?_
  have p0 : 0 ≤ W * T := Int.mul_nonneg h1.1 h2.1
  have p1 : W * T ≤ 6 * 6 := Int.mul_le_mul h1.2 h2.2 h2.1 (by omega)
  simp [c_impl_field, bools_rep, p0]
  have e : (bools (List.replicate (W * T).toNat false)).length = (W * T).toNat := by simp
  exact ⟨by omega, by omega, List.take_of_length_le (Nat.le_of_eq e)⟩

def boxL (W T : Int) : List Bool := List.replicate (W * T).toNat true
def boxB (W T : Int) : Bool := decide (1 ≤ W ∧ W ≤ 6 ∧ 1 ≤ T ∧ T ≤ 6 ∧ W * T ≤ 24)
theorem s_impl_RegionBox23 : SoundAt Try.prog n_impl_RegionBox [.v (.int .i64 2), .v (.int .i64 3)] (.agg [.v (.int .i64 2), .v (.int .i64 3), .os 1 (bools (List.replicate 6 true))]) [.bot, .bot] := by
  refine fn_ok (md := md0) (ms := [false, false]) k_impl_RegionBox (by simp) ?_
  simp [c_impl_RegionBox]
  refine call_on (s_impl_in_t (x := 2) (lo := 1) (hi := 6) (by omega)) ?_
  simp
  refine call_on (s_impl_in_t (x := 3) (lo := 1) (hi := 6) (by omega)) ?_
  simp
  refine call_on (s_impl_field 2 3 (by omega) (by omega)) ?_
  simp
  refine loop_by (fun m E H => ∃ i : Nat, m = 6 - i ∧ i ≤ 6 ∧ H = [some (.box [.v (.int .i64 0), .v (.int .i64 0), .os 1 []]), some (.box [.v (.int .i64 2), .v (.int .i64 3), .ls 1 2 0 6]), some (.arr 1 (bools (List.replicate i true ++ List.replicate (6 - i) false)))] ∧
    E = [(4, .lp 0 0 0 0), (5, .lp 0 1 0 0), (27, .v (.int .i64 6)), (28, .v (.int .i64 i))]) 6 ⟨0, by simp⟩ ?_
  rintro J hJ m E H ⟨i, rfl, hi, rfl, rfl⟩
  by_cases h : i < 6
  · have h' : (i : Int) < 6 := by omega
    have e1 : (List.replicate i true ++ List.replicate (6 - i) false).set i true = List.replicate (i + 1) true ++ List.replicate (6 - (i + 1)) false := by
      have e2 : 6 - i = (6 - (i + 1)) + 1 := by omega
      rw [e2, List.replicate_succ, List.set_append_right _ _ (by simp)]
      simp [List.replicate_succ']
    simp [c_impl_RegionBox_L0, h', bools_set, e1, h]
    exact ⟨by omega, by omega, _, by omega, hJ _ _ _ ⟨i + 1, rfl, h, by rw [show 5 - i = 6 - (i + 1) by omega], by simp⟩⟩
  · have : i = 6 := by omega
    subst this
    simp [c_impl_RegionBox_L0]
    rfl

theorem s_laws_alive : SoundAt Try.prog n_laws_alive [] (.v (.bool true)) [] := by
  refine fn_ok (md := md0) (ms := []) k_laws_alive (by simp) ?_
  simp [c_laws_alive]
  refine call_on s_impl_RegionBox23 ?_
  simp
  refine call_on (s_impl_CellsMany 2 3 (List.replicate 6 true) (by simp)) ?_
  simp
  exact ⟨rfl, by decide⟩

end Go.Proofs.Dev

namespace Go.Proofs.Dev
set_option linter.unusedSimpArgs false
set_option maxRecDepth 100000

/-- The sets, their ways, as rows. -/
def fsL (P : List (Nat × Nat)) : List Int := P.map fun p => (p.1 : Int)
def snL (P : List (Nat × Nat)) : List Int := P.map fun p => (p.2 : Int)
@[simp] theorem fsL_length (P : List (Nat × Nat)) : (fsL P).length = P.length := by simp [fsL]
@[simp] theorem snL_length (P : List (Nat × Nat)) : (snL P).length = P.length := by simp [snL]
theorem fsL_at {P : List (Nat × Nat)} {i : Nat} (h : i < P.length) : ati (fsL P) i = (P[i].1 : Int) := by simp [fsL, ati, h]
theorem snL_at {P : List (Nat × Nat)} {i : Nat} (h : i < P.length) : ati (snL P) i = (P[i].2 : Int) := by simp [snL, ati, h]
def natI (os : List Nat) : List Int := os.map Int.ofNat
@[simp] theorem natI_length (os : List Nat) : (natI os).length = os.length := by simp [natI]
theorem natI_at {os : List Nat} {i : Nat} (h : i < os.length) : ati (natI os) i = ((os[i] : Nat) : Int) := by simp [natI, ati, h]

theorem ways_le {P : List (Nat × Nat)} {i : Nat} (h : i < P.length) : P[i].2 ≤ wsum (fun _ => 1) P := by
  have h1 := wsum_append (fun _ => 1) (P.take i) (P.drop i)
  rw [List.take_append_drop, List.drop_eq_getElem_cons h] at h1
  have h2 : wsum (fun _ => 1) (P[i] :: P.drop (i + 1)) = P[i].2 + wsum (fun _ => 1) (P.drop (i + 1)) := by simp only [wsum, List.map_cons, List.sum_cons, Nat.mul_one]
  omega

theorem addAll_take {P : List (Nat × Nat)} {os : List Nat} {v j : Nat} (h : j < os.length) : addAll P (os.take (j + 1)) v = addP (addAll P (os.take j) v) os[j] v := by
  unfold addAll
  rw [List.take_succ_eq_append_getElem h, List.foldl_append]; rfl

abbrev tmBox (W T : Int) (cs : List Bool) : Option Row := some (.box [.v (.int .i64 W), .v (.int .i64 T), .sl 1 1 (bools cs)])

set_option maxHeartbeats 1000000 in
/-- One set's choices are added. -/
theorem tm_L1 (W T : Int) (cs : List Bool) (P Q : List (Nat × Nat)) (os : List Nat) (c k v : Nat) (hk : k < P.length) (hv : P[k].2 = v) (hP : P.length ≤ 2 ^ 36) (hQ : Q.length + os.length ≤ 2 ^ 38) (hs : wsum (fun _ => 1) Q + v * os.length ≤ 2 ^ 40) {Qc : AExit → ES → Heap → Prop} {E : ES} {H : Heap}
    (hE : E = [(1, .lp 0 0 0 0), (3, .ls 1 1 0 P.length), (4, .ls 1 2 0 P.length), (5, .v (.int .i64 c)), (6, .ls 1 3 0 Q.length), (7, .ls 1 4 0 Q.length), (8, .v (.int .i64 k)), (11, .ls 1 5 0 os.length), (14, .v (.int .i64 0))])
    (hH : H = [tmBox W T cs, some (.arr 1 (ints (fsL P))), some (.arr 1 (ints (snL P))), some (.arr 1 (ints (fsL Q))), some (.arr 1 (ints (snL Q))), some (.arr 1 (ints (natI os)))])
    (hend : Qc (.exit 5) [(118, .v (.bool false)), (117, .v (.int .i64 os.length)), (116, .ls 1 5 0 os.length), (115, .v (.int .i64 os.length)), (1, .lp 0 0 0 0), (3, .ls 1 1 0 P.length), (4, .ls 1 2 0 P.length), (5, .v (.int .i64 c)), (6, .ls 1 3 0 (addAll Q os v).length), (7, .ls 1 4 0 (addAll Q os v).length), (8, .v (.int .i64 k)), (11, .ls 1 5 0 os.length), (14, .v (.int .i64 os.length))]
      [tmBox W T cs, some (.arr 1 (ints (fsL P))), some (.arr 1 (ints (snL P))), some (.arr 1 (ints (fsL (addAll Q os v)))), some (.arr 1 (ints (snL (addAll Q os v)))), some (.arr 1 (ints (natI os)))]) :
    loopNode [(3, 1), (4, 1), (6, 1), (7, 1), (11, 1)] [1, 3, 4, 5, 6, 7, 8, 11, 14] (awp Try.prog md0 c_spec_TilingsMany_L1) Qc E H := by
  subst hE hH
  refine loop_by (fun m E H => ∃ j : Nat, m = os.length - j ∧ j ≤ os.length ∧
    H = [tmBox W T cs, some (.arr 1 (ints (fsL P))), some (.arr 1 (ints (snL P))), some (.arr 1 (ints (fsL (addAll Q (os.take j) v)))), some (.arr 1 (ints (snL (addAll Q (os.take j) v)))), some (.arr 1 (ints (natI os)))] ∧
    E = [(1, .lp 0 0 0 0), (3, .ls 1 1 0 P.length), (4, .ls 1 2 0 P.length), (5, .v (.int .i64 c)), (6, .ls 1 3 0 (addAll Q (os.take j) v).length), (7, .ls 1 4 0 (addAll Q (os.take j) v).length), (8, .v (.int .i64 k)), (11, .ls 1 5 0 os.length), (14, .v (.int .i64 j))]) os.length ⟨0, by simp [addAll]⟩ ?_
  rintro J hJ m E H ⟨j, rfl, hj, rfl, rfl⟩
  by_cases h : j < os.length
  case neg =>
    have : j = os.length := by omega
    subst this
    rw [List.take_length]
    simp [c_spec_TilingsMany_L1]
    exact hend
  have hstep := addAll_take (P := Q) (v := v) h
  have hQl := addAll_length v (os.take j) Q
  have hQs : wsum (fun _ => 1) (addAll Q (os.take j) v) + v ≤ 2 ^ 40 := by
    rw [wsum_addAll, sum_ones, List.length_take]
    have : v * min j os.length + v ≤ v * os.length := by
      rw [← Nat.mul_succ]; exact Nat.mul_le_mul_left _ (by omega)
    omega
  generalize hQj : addAll Q (os.take j) v = Qj at *
  generalize hQn : addAll Q (os.take (j + 1)) v = Qn at *
  have hlen : Qj.length ≤ 2 ^ 38 := by simp at hQl; omega
  obtain ⟨o, ho⟩ : ∃ o, os[j] = o := ⟨_, rfl⟩
  rw [ho] at hstep
  have hoa : ati (natI os) j = (o : Int) := by rw [natI_at h, ho]
  have hva : ati (snL P) k = (v : Int) := by rw [snL_at hk, hv]
  have next : again J (os.length - j) [(1, .lp 0 0 0 0), (3, .ls 1 1 0 P.length), (4, .ls 1 2 0 P.length), (5, .v (.int .i64 c)), (6, .ls 1 3 0 Qn.length), (7, .ls 1 4 0 Qn.length), (8, .v (.int .i64 k)), (11, .ls 1 5 0 os.length), (14, .v (.int .i64 (j + 1)))]
      [tmBox W T cs, some (.arr 1 (ints (fsL P))), some (.arr 1 (ints (snL P))), some (.arr 1 (ints (fsL Qn))), some (.arr 1 (ints (snL Qn))), some (.arr 1 (ints (natI os)))] := by
    refine ⟨_, by omega, hJ _ _ _ ⟨j + 1, rfl, h, ?_, ?_⟩⟩
    · rw [hQn]
    · rw [hQn]; simp
  simp [c_spec_TilingsMany_L1, h]
  refine loop_by (fun m E H => ∃ i : Nat, m = Qj.length - i ∧ i ≤ Qj.length ∧ (∀ i', i' < i → ∀ p, Qj[i']? = some p → p.1 ≠ o) ∧
    H = [tmBox W T cs, some (.arr 1 (ints (fsL P))), some (.arr 1 (ints (snL P))), some (.arr 1 (ints (fsL Qj))), some (.arr 1 (ints (snL Qj))), some (.arr 1 (ints (natI os)))] ∧
    E = [(1, .lp 0 0 0 0), (3, .ls 1 1 0 P.length), (4, .ls 1 2 0 P.length), (5, .v (.int .i64 c)), (6, .ls 1 3 0 Qj.length), (7, .ls 1 4 0 Qj.length), (8, .v (.int .i64 k)), (11, .ls 1 5 0 os.length), (14, .v (.int .i64 j)), (15, .v (.int .i64 i))]) Qj.length ⟨0, by simp⟩ ?_
  rintro J2 hJ2 m2 E2 H2 ⟨i, rfl, hi, hne, rfl, rfl⟩
  by_cases h2 : i < Qj.length
  case neg =>
    have : i = Qj.length := by omega
    subst this
    have e1 : Qn = Qj ++ [(o, v)] := by
      rw [hstep]
      refine addP_new v fun p hp => ?_
      obtain ⟨i', hi', rfl⟩ := List.mem_iff_getElem.1 hp
      exact hne i' hi' _ (by simp [hi'])
    have e2 : ints (fsL Qn) = ints (fsL Qj) ++ [.v (.int .i64 o)] := by rw [e1]; simp [fsL, ints]
    have e3 : ints (snL Qn) = ints (snL Qj) ++ [.v (.int .i64 v)] := by rw [e1]; simp [snL, ints]
    have e4 : Qn.length = Qj.length + 1 := by rw [e1]; simp
    rw [e2, e3, e4] at next
    simp [c_spec_TilingsMany_L0, h, hoa, hva, hk]
    exact ⟨by omega, by omega, by omega, by omega, by omega, next⟩
  obtain ⟨p, hp⟩ : ∃ p, Qj[i] = p := ⟨_, rfl⟩
  have hpa : ati (fsL Qj) i = (p.1 : Int) := by rw [fsL_at h2, hp]
  have hpb : ati (snL Qj) i = (p.2 : Int) := by rw [snL_at h2, hp]
  have hw := ways_le h2
  rw [hp] at hw
  by_cases heq : p.1 = o
  · have e1 : Qn = Qj.set i (o, p.2 + v) := by
      rw [hstep]
      exact addP_at v (by simp [h2, hp, ← heq]) hne
    have e2 : fsL Qn = fsL Qj := by
      rw [e1]; unfold fsL
      rw [List.map_set]
      apply List.ext_getElem (by simp)
      intro a h3 h4
      rw [List.getElem_set]
      split
      · rename_i he; subst he; simp [hp, heq]
      · rfl
    have e3 : snL Qn = (snL Qj).set i ((p.2 : Int) + v) := by rw [e1]; unfold snL; rw [List.map_set]; simp
    have e4 : Qn.length = Qj.length := by rw [e1]; simp
    rw [e2, e3, e4] at next
    have heq' : (p.1 : Int) = o := by omega
    have hne2 : ¬ (i : Int) = Qj.length := by omega
    simp [c_spec_TilingsMany_L0, h, h2, hoa, hva, hk, hpa, hpb, heq', ints_set, hne2]
    exact ⟨by omega, by omega, next⟩
  · have hne' : ¬ (p.1 : Int) = o := by omega
    simp [c_spec_TilingsMany_L0, h, h2, hoa, hpa, hne']
    refine ⟨by omega, _, by omega, hJ2 _ _ _ ⟨i + 1, rfl, h2, ?_, rfl, by simp⟩⟩
    intro i' hi' q hq
    rcases Nat.lt_succ_iff_lt_or_eq.1 hi' with h3 | h3
    · exact hne i' h3 q hq
    · subst h3
      simp [h2, hp] at hq
      rw [← hq]; exact heq

end Go.Proofs.Dev

namespace Go.Proofs.Dev
set_option linter.unusedSimpArgs false
set_option maxRecDepth 100000

def freeF (cs : List Bool) : Nat → Bool := fun i => atb cs i
def tmI (W T : Int) (cs : List Bool) : Int := if regB W T cs = true then ((cntF W T cs.length 0 (freeF cs) : Nat) : Int) else -1

theorem free_out {cs : List Bool} : ∀ i, cs.length ≤ i → freeF cs i = false := by
  intro i hi
  simp [freeF, atb, List.getElem?_eq_none hi]

theorem shr_zero {s : Nat} {W : Int} (h : s < 2 ^ W.toNat) : (s : Int) / 2 ^ W.toNat = 0 := by
  have : ((2 ^ W.toNat : Nat) : Int) = 2 ^ W.toNat := by simp
  rw [← this]
  exact Int.ediv_eq_zero_of_lt (by omega) (by omega)

set_option maxHeartbeats 4000000 in
/-- All sets of a cell are gone through. -/
theorem tm_L2 (W T : Int) (cs : List Bool) (hr : regB W T cs = true) (c tot : Nat) (hc : c < cs.length) (P : List (Nat × Nat)) (hP : OkP W T (freeF cs) cs.length c tot P) {Qc : AExit → ES → Heap → Prop} {E : ES} {H : Heap}
    (hE : E = [(1, .lp 0 0 0 0), (3, .ls 1 1 0 P.length), (4, .ls 1 2 0 P.length), (5, .v (.int .i64 c)), (6, .ls 1 3 0 0), (7, .ls 1 4 0 0), (8, .v (.int .i64 0))])
    (hH : H = [tmBox W T cs, some (.arr 1 (ints (fsL P))), some (.arr 1 (ints (snL P))), some (.arr 1 []), some (.arr 1 [])])
    (hend : ∀ Q, MidP W T (freeF cs) cs.length c P P.length Q → Qc (.exit 2) [(35, .v (.bool false)), (34, .v (.int .i64 P.length)), (33, .ls 1 1 0 P.length), (32, .v (.int .i64 P.length)), (1, .lp 0 0 0 0), (3, .ls 1 1 0 P.length), (4, .ls 1 2 0 P.length), (5, .v (.int .i64 c)), (6, .ls 1 3 0 Q.length), (7, .ls 1 4 0 Q.length), (8, .v (.int .i64 P.length))]
      [tmBox W T cs, some (.arr 1 (ints (fsL P))), some (.arr 1 (ints (snL P))), some (.arr 1 (ints (fsL Q))), some (.arr 1 (ints (snL Q)))]) :
    loopNode [(3, 1), (4, 1), (6, 1), (7, 1)] [1, 3, 4, 5, 6, 7, 8] (awp Try.prog md0 c_spec_TilingsMany_L2) Qc E H := by
  subst hE hH
  obtain ⟨w1, w2, t1, t2, l1, _⟩ := regB_W hr
  have h36 := regB_len hr
  have hpow : 2 ^ c ≤ 2 ^ 36 := Nat.pow_le_pow_right (by omega) (by omega)
  have hPl : P.length ≤ 2 ^ 36 := Nat.le_trans hP.len hpow
  have hPs : wsum (fun _ => 1) P ≤ 2 ^ 36 := Nat.le_trans hP.sum hpow
  refine loop_by (fun m E H => ∃ (k : Nat) (Q : List (Nat × Nat)), m = P.length - k ∧ k ≤ P.length ∧ MidP W T (freeF cs) cs.length c P k Q ∧
    H = [tmBox W T cs, some (.arr 1 (ints (fsL P))), some (.arr 1 (ints (snL P))), some (.arr 1 (ints (fsL Q))), some (.arr 1 (ints (snL Q)))] ∧
    E = [(1, .lp 0 0 0 0), (3, .ls 1 1 0 P.length), (4, .ls 1 2 0 P.length), (5, .v (.int .i64 c)), (6, .ls 1 3 0 Q.length), (7, .ls 1 4 0 Q.length), (8, .v (.int .i64 k))]) P.length ⟨0, [], rfl, by omega, mid_zero, by simp [fsL, snL], by simp⟩ ?_
  rintro J hJ m E H ⟨k, Q, rfl, hk', hQ, rfl, rfl⟩
  by_cases hk : k < P.length
  case neg =>
    have : k = P.length := by omega
    subst this
    simp [c_spec_TilingsMany_L2]
    exact hend Q hQ
  obtain ⟨⟨s, v⟩, hp⟩ : ∃ p, P[k] = p := ⟨_, rfl⟩
  have hpk : P[k]? = some (s, v) := by simp [hk, hp]
  have hsa : ati (fsL P) k = (s : Int) := by rw [fsL_at hk, hp]
  have hv : P[k].2 = v := by rw [hp]
  have hlt := hP.lt _ (List.mem_of_getElem? hpk)
  have hw := ways_le hk
  rw [hv] at hw
  have hQl := hQ.len
  have hQs := hQ.sum
  have hQs2 := wsum_take (fun _ => 1) P k
  have hol := opts_len (W := W) (T := T) (F := freeF cs) (c := c) (s := s)
  have hmul : v * (optsN W T (freeF cs) c s).length ≤ v * 2 := Nat.mul_le_mul_left _ hol
  have hmid := mid_step w1 free_out hc hP hpk hQ
  have next : again J (P.length - k) [(1, .lp 0 0 0 0), (3, .ls 1 1 0 P.length), (4, .ls 1 2 0 P.length), (5, .v (.int .i64 c)), (6, .ls 1 3 0 (addAll Q (optsN W T (freeF cs) c s) v).length), (7, .ls 1 4 0 (addAll Q (optsN W T (freeF cs) c s) v).length), (8, .v (.int .i64 (k + 1)))]
      [tmBox W T cs, some (.arr 1 (ints (fsL P))), some (.arr 1 (ints (snL P))), some (.arr 1 (ints (fsL (addAll Q (optsN W T (freeF cs) c s) v)))), some (.arr 1 (ints (snL (addAll Q (optsN W T (freeF cs) c s) v))))] :=
    ⟨_, by omega, hJ _ _ _ ⟨k + 1, _, rfl, hk, hmid, rfl, by simp⟩⟩
  have hl1 := fun {Qc E H} hE hH hend => tm_L1 W T cs P Q (optsN W T (freeF cs) c s) c k v hk hv hPl (by omega) (by omega) (Qc := Qc) (E := E) (H := H) hE hH hend
  have hW1 : (W - 1).toNat = W.toNat - 1 := by omega
  have hshr := shr_zero hlt.1
  have hcov : (s % 2 = 1 ∨ freeF cs c = false) ∨ (s % 2 = 0 ∧ freeF cs c = true) := by
    rcases Nat.mod_two_eq_zero_or_one s with h | h
    · cases hF : freeF cs c with
      | false => exact .inl (.inr rfl)
      | true => exact .inr ⟨h, rfl⟩
    · exact .inl (.inl h)
  rcases hcov with hcov | ⟨hs0, hF⟩
  · have hopts : optsN W T (freeF cs) c s = [s / 2] := by unfold optsN; rw [if_pos hcov]
    have hcond : (s % 2 = 1) ∨ (s % 2 = 0 ∧ atb cs c = false) := by
      rcases hcov with h | h
      · exact .inl h
      · rcases Nat.mod_two_eq_zero_or_one s with h2 | h2
        · exact .inr ⟨h2, h⟩
        · exact .inl h2
    rcases hcond with h | ⟨h, h3⟩
    · have h' : (s : Int) % 2 = 1 := by omega
      simp [c_spec_TilingsMany_L2, hk, hsa, h', hc]
      have hs64 : s < 2 ^ 6 := Nat.lt_of_lt_of_le hlt.1 (Nat.pow_le_pow_right (by omega) (by omega))
      refine ⟨by omega, hl1 ?_ ?_ ?_⟩
      · simp [hopts]
      · simp [hopts, natI, ints]
      simp
      exact ⟨by omega, next⟩
    · have h' : (s : Int) % 2 = 0 := by omega
      simp [c_spec_TilingsMany_L2, hk, hsa, h', hc, h3]
      have hs64 : s < 2 ^ 6 := Nat.lt_of_lt_of_le hlt.1 (Nat.pow_le_pow_right (by omega) (by omega))
      refine ⟨by omega, hl1 ?_ ?_ ?_⟩
      · simp [hopts]
      · simp [hopts, natI, ints]
      simp
      exact ⟨by omega, next⟩
  have hFc : atb cs c = true := hF
  have h' : (s : Int) % 2 = 0 := by omega
  have hopts : optsN W T (freeF cs) c s = (if 0 ≤ stepI W T c 1 ∧ freeF cs (c + 1) = true ∧ s / 2 % 2 = 0 then [s / 2 + 1] else []) ++ (if 0 ≤ stepI W T c 2 ∧ freeF cs (c + W.toNat) = true then [s / 2 + 2 ^ (W.toNat - 1)] else []) := by
    unfold optsN; rw [if_neg (by simp [hF]; omega)]
  have two1 := s_spec_l2Step W T cs c 1 hr (by omega) (by omega)
  have two2 := s_spec_l2Step W T cs c 2 hr (by omega) (by omega)
  have hst1 := stepI_range (T := T) (k := c) (way := 1) w1 (by omega) (by omega)
  have hst2 := stepI_range (T := T) (k := c) (way := 2) w1 (by omega) (by omega)
  simp [c_spec_TilingsMany_L2, hk, hsa, h', hc, hFc]
  refine call_on two1 ?_
  simp
  refine call_on two2 ?_
  have eE : (stepI W T c 1 = -1 ∧ stepI W T c 1 = -1 ∧ stepI W T c 1 = -1 ∧ stepI W T c 1 = -1 ∧ stepI W T c 1 = -1) ∨ (stepI W T c 1 = (c : Int) + 1 ∧ (c : Int) + 1 < cs.length ∧ atb cs ((c : Int) + 1) = false ∧ atb cs ((c : Int) + 1) = false ∧ atb cs ((c : Int) + 1) = false) ∨
      (stepI W T c 1 = (c : Int) + 1 ∧ (c : Int) + 1 < cs.length ∧ atb cs ((c : Int) + 1) = true ∧ s / 2 % 2 = 1 ∧ (s : Int) / 2 % 2 = 1) ∨ (stepI W T c 1 = (c : Int) + 1 ∧ (c : Int) + 1 < cs.length ∧ atb cs ((c : Int) + 1) = true ∧ s / 2 % 2 = 0 ∧ (s : Int) / 2 % 2 = 0) := by
    rcases hst1 with h | h
    · exact .inl ⟨h, h, h, h, h⟩
    · have h3 := stepE (W := W) (T := T) (c := c) h.1
      have h4 : stepI W T c 1 = (c : Int) + 1 := by omega
      have h5 : (c : Int) + 1 < cs.length := by omega
      cases h6 : atb cs ((c : Int) + 1) with
      | false => exact .inr (.inl ⟨h4, h5, rfl, rfl, rfl⟩)
      | true =>
        rcases Nat.mod_two_eq_zero_or_one (s / 2) with h7 | h7
        · exact .inr (.inr (.inr ⟨h4, h5, rfl, h7, by omega⟩))
        · exact .inr (.inr (.inl ⟨h4, h5, rfl, h7, by omega⟩))
  have eN : (stepI W T c 2 = -1 ∧ stepI W T c 2 = -1 ∧ stepI W T c 2 = -1) ∨ (stepI W T c 2 = (c : Int) + W ∧ (c : Int) + W < cs.length ∧ atb cs ((c : Int) + W) = false) ∨ (stepI W T c 2 = (c : Int) + W ∧ (c : Int) + W < cs.length ∧ atb cs ((c : Int) + W) = true) := by
    rcases hst2 with h | h
    · exact .inl ⟨h, h, h⟩
    · have h3 := stepN (W := W) (T := T) (c := c) w1 h.1
      have h4 : stepI W T c 2 = (c : Int) + W := by omega
      have h5 : (c : Int) + W < cs.length := by omega
      cases h6 : atb cs ((c : Int) + W) with
      | false => exact .inr (.inl ⟨h4, h5, rfl⟩)
      | true => exact .inr (.inr ⟨h4, h5, rfl⟩)
  have fN : freeF cs (c + W.toNat) = atb cs ((c : Int) + W) := by
    unfold freeF; congr 1; omega
  have fE : freeF cs (c + 1) = atb cs ((c : Int) + 1) := rfl
  rw [fE, fN] at hopts
  clear hst1 hst2 two1 two2
  have n1 : 0 ≤ (c : Int) + 1 := by omega
  have n2 : 0 ≤ (c : Int) + W := by omega
  have n3 : W ≤ 63 := by omega
  have n4 : 0 ≤ W - 1 := by omega
  have n5 : W - 1 ≤ 62 := by omega
  have n6 : 0 ≤ W := by omega
  have hpw : (2 : Int) ^ (W.toNat - 1) ≤ 32 ∧ 1 ≤ (2 : Int) ^ (W.toNat - 1) := by
    have h1 : 2 ^ (W.toNat - 1) ≤ 2 ^ 5 := Nat.pow_le_pow_right (by omega) (by omega)
    have h2 : 0 < 2 ^ (W.toNat - 1) := Nat.pow_pos (by omega)
    have h3 : ((2 ^ (W.toNat - 1) : Nat) : Int) = 2 ^ (W.toNat - 1) := by simp
    omega
  have hs64 : s < 64 := by
    have h1 : 2 ^ W.toNat ≤ 2 ^ 6 := Nat.pow_le_pow_right (by omega) (by omega)
    have := hlt.1
    omega
  rcases eE with ⟨a1, a2, a3, a4, a5⟩ | ⟨a1, a2, a3, a4, a5⟩ | ⟨a1, a2, a3, a4, a5⟩ | ⟨a1, a2, a3, a4, a5⟩ <;> rcases eN with ⟨b1, b2, b3⟩ | ⟨b1, b2, b3⟩ | ⟨b1, b2, b3⟩ <;>
  · simp [a1, a2, a3, a5, b1, b2, b3, n1, n2, n3, n4, n5, n6, hshr, hW1]
    (repeat' first | omega | (refine hl1 ?_ ?_ ?_) | apply And.intro)
    · simp [hopts, a1, a2, a3, a4, b1, b2, b3, n1, n2]
    · simp [hopts, a1, a2, a3, a4, b1, b2, b3, n1, n2, natI, ints]
    · simp
      exact ⟨by omega, next⟩

end Go.Proofs.Dev
