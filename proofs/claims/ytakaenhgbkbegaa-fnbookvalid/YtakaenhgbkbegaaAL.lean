/- Contracts of the functions of the program over slots and rows, each proved against the program itself; no condition beyond those that each theorem names. -/
import Derived.Test.YtakaenhgbkbegaaAK
import Derived.Test.YtakaenhgbkbegaaAI
import Derived.Test.YtakaenhgbkbegaaProg

set_option linter.unusedSimpArgs false
set_option linter.unusedVariables false

namespace Go.Proofs.Dev

-- 0 parameters, results [.t 0], 4 slots, modes []
@[simp] abbrev n_laws_alive : Nat := 7

def c_laws_alive : ACode := .seq (.reg [.o 0 .mv [.kb false]]) <| .seq (.reg [.o 1 (.call 15 []) [.k 2, .k 3], .o 2 (.call 14 []) [.t 1],
 .o 3 (.bin .eql 0) [.t 2, .k 6], .m 0 3]) <| .ret

theorem k_laws_alive : cFn Try.prog n_laws_alive 4 [.t 0] c_laws_alive := ⟨Try.f7, _, Try.func7, rfl, by kernel_rfl, by kernel_rfl, by kernel_rfl, by kernel_rfl⟩

-- 1 parameters, results [.t 2], 9 slots, modes [false]
@[simp] abbrev n_impl_CellsMany : Nat := 14

def c_impl_CellsMany : ACode := .seq (.reg [.o 1 .box [.t 0], .o 2 .mv [.k 0]]) <| .seq (.seq (.reg [.la 3 3 1, .o 4 (.call 30 []) [.t 3],
 .o 5 (.un .not) [.t 4]]) <| .cond (.t 5) ( .seq (.reg [.o 2 .mv [.k (-1)]]) <| .ret) ( .skip)) <| .seq (.reg [.f 6 2 1, .l 7 6, .o 8 (.call 31 []) [.t 7],
 .m 2 8]) <| .ret

theorem k_impl_CellsMany : cFn Try.prog n_impl_CellsMany 9 [.t 2] c_impl_CellsMany := ⟨Try.f14, _, Try.func14, rfl, by kernel_rfl, by kernel_rfl, by kernel_rfl, by kernel_rfl⟩

-- 2 parameters, results [.c 4 true 3], 37 slots, modes [false, false]
@[simp] abbrev n_impl_RegionBox : Nat := 15
def c_impl_RegionBox_L0 : ACode := .seq (.reg [.o 29 (.bin .lss 0) [.t 28, .t 27]]) <| .seq (.cond (.t 29) ( .skip) ( .exit 0)) <|
 .seq (.block 1 ( .seq (.reg [.m 30 28, .m 6 30]) <| .reg [.f 31 2 5, .l 32 31, .m 33 6, .o 34 (.iadr 1) [.t 32, .t 33], .s (.store 1) [.t 34, .kb true]])) <|
 .reg [.o 35 (.bin .add 0) [.t 28, .k 1], .m 28 35]

def c_impl_RegionBox : ACode := .seq (.reg [.o 4 (.alloc rz) []]) <| .seq (.seq (.reg [.m 7 0, .o 8 (.call 32 []) [.t 7, .k 1, .k 6], .o 9 (.un .not) [.t 8],
 .m 10 9, .mg 11 1 10 false, .g 12 (.call 32 []) [.t 11, .k 1, .k 6] 10 false, .g 13 (.un .not) [.t 12] 10 false, .o 14 .pick [.t 10, .kb true, .t 13], .m 15 14,
 .mg 16 0 15 false, .mg 17 1 15 false, .g 18 (.bin .mul 0) [.t 16, .t 17] 15 false, .g 19 (.bin .gtr 0) [.t 18, .k 24] 15 false, .o 20 .pick [.t 15, .kb true,
 .t 19]]) <| .cond (.t 20) ( .seq (.reg [.o 21 (.build rz []) [], .s (.store 3) [.t 4, .t 21]]) <| .ret) ( .skip)) <| .seq (.reg [.m 22 0, .m 23 1,
 .o 24 (.call 33 []) [.t 22, .t 23], .o 5 (.alloc rz) [], .s (.store 3) [.t 5, .t 24]]) <| .seq (.seq (.reg [.f 25 2 5, .l 26 25, .n 27 26, .o 28 .mv [.k 0]]) <|
 .block 0 ( .loop [] [4, 5, 27, 28] c_impl_RegionBox_L0)) <| .seq (.reg [.la 36 3 5, .s (.store 3) [.t 4, .t 36]]) <| .ret

theorem k_impl_RegionBox : cFn Try.prog n_impl_RegionBox 37 [.c 4 true 3] c_impl_RegionBox := ⟨Try.f15, _, Try.func15, rfl, by kernel_rfl, by kernel_rfl, by kernel_rfl, by kernel_rfl⟩

-- 2 parameters, results [.c 4 true 3], 12 slots, modes [false, false]
@[simp] abbrev n_impl_field : Nat := 33

def c_impl_field : ACode := .seq (.reg [.o 4 (.alloc rz) []]) <| .seq (.reg [.m 5 0, .m 6 1, .m 7 0, .m 8 1, .o 9 (.bin .mul 0) [.t 7, .t 8],
 .o 10 (.mksl 1 1 (.v (.bool false))) [.t 9, .t 9], .o 11 (.build rz [(0, 1), (1, 1), (2, 1)]) [.t 5, .t 6, .t 10], .s (.store 3) [.t 4, .t 11]]) <| .ret

theorem k_impl_field : cFn Try.prog n_impl_field 12 [.c 4 true 3] c_impl_field := ⟨Try.f33, _, Try.func33, rfl, by kernel_rfl, by kernel_rfl, by kernel_rfl, by kernel_rfl⟩

-- 1 parameters, results [.t 2], 11 slots, modes [false]
@[simp] abbrev n_spec_l20Open : Nat := 9

def c_spec_l20Open : ACode := .seq (.reg [.o 2 .mv [.c (.v (.pointer none))]]) <| .seq (.seq (.reg [.m 3 0, .n 4 3, .o 5 (.bin .gtr 0) [.t 4, .k 2000]]) <|
 .cond (.t 5) ( .reg [.m 6 0, .o 7 (.slice 1 false false true false) [.t 6, .k 2000], .m 0 7]) ( .skip)) <| .seq (.reg [.m 8 0, .o 9 (.build [.os 1 [],
 .v (.int .i64 (0))] [(0, 1)]) [.t 8], .o 10 .box [.t 9], .m 2 10]) <| .ret

theorem k_spec_l20Open : cFn Try.prog n_spec_l20Open 11 [.t 2] c_spec_l20Open := ⟨Try.f9, _, Try.func9, rfl, by kernel_rfl, by kernel_rfl, by kernel_rfl, by kernel_rfl⟩

-- 2 parameters, 99 slots
@[simp] abbrev n_spec_l20Rd_pick : Nat := 18
def c_spec_l20Rd_pick_E : BCode :=
(BCode.seq (BCode.base (ACode.reg [
  (AOper.mk (some 4) AK.mv [(Opd.c (AV.v (Go.Value.int Go.IntKind.i64 0)))] none)])) (BCode.seq (BCode.base (ACode.reg [
  (AOper.mk (some 7) AK.mv [(Opd.t 0)] none), 
  (AOper.mk (some 8) AK.mv [(Opd.t 0)] none), 
  (AOper.mk (some 9) AK.nilck [(Opd.t 8)] none), 
  (AOper.mk (some 10) (AK.fadr 1) [(Opd.t 9)] none), 
  (AOper.mk (some 11) (AK.load false 1) [(Opd.t 10)] none), 
  (AOper.mk (some 12) (AK.bin Go.BinOp.add 0) [(Opd.t 11), (Opd.c (AV.v (Go.Value.int Go.IntKind.i64 1)))] none), 
  (AOper.mk (some 13) AK.nilck [(Opd.t 7)] none), 
  (AOper.mk (some 14) (AK.fadr 1) [(Opd.t 13)] none), 
  (AOper.mk none (AK.store 1) [(Opd.t 14), (Opd.t 12)] none)])) (BCode.seq (BCode.base (ACode.seq (ACode.reg [
  (AOper.mk (some 15) AK.mv [(Opd.t 1)] none), 
  (AOper.mk (some 16) (AK.bin Go.BinOp.lss 0) [(Opd.t 15), (Opd.c (AV.v (Go.Value.int Go.IntKind.i64 1)))] none), 
  (AOper.mk (some 17) AK.mv [(Opd.t 16)] none), 
  (AOper.mk (some 18) AK.mv [(Opd.t 0)] (some (17, false))), 
  (AOper.mk (some 19) AK.nilck [(Opd.t 18)] (some (17, false))), 
  (AOper.mk (some 20) (AK.fadr 0) [(Opd.t 19)] (some (17, false))), 
  (AOper.mk (some 21) (AK.load false 1) [(Opd.t 20)] (some (17, false))), 
  (AOper.mk (some 22) (AK.len false) [(Opd.t 21)] (some (17, false))), 
  (AOper.mk (some 23) (AK.bin Go.BinOp.eql 0) [(Opd.t 22), (Opd.c (AV.v (Go.Value.int Go.IntKind.i64 0)))] (some (17, false))), 
  (AOper.mk (some 24) AK.pick [(Opd.t 17), (Opd.c (AV.v (Go.Value.bool true))), (Opd.t 23)] none)]) (ACode.cond (Opd.t 24) (ACode.seq (ACode.reg [
  (AOper.mk (some 4) AK.mv [(Opd.c (AV.v (Go.Value.int Go.IntKind.i64 0)))] none)]) ACode.ret) ACode.skip))) (BCode.seq (BCode.base (ACode.reg [
  (AOper.mk (some 25) AK.mv [(Opd.t 0)] none), 
  (AOper.mk (some 26) AK.nilck [(Opd.t 25)] none), 
  (AOper.mk (some 27) (AK.fadr 1) [(Opd.t 26)] none), 
  (AOper.mk (some 28) (AK.load false 1) [(Opd.t 27)] none), 
  (AOper.mk (some 29) (AK.bin Go.BinOp.sub 0) [(Opd.t 28), (Opd.c (AV.v (Go.Value.int Go.IntKind.i64 1)))] none), 
  (AOper.mk (some 5) AK.mv [(Opd.t 29)] none)])) (BCode.seq (BCode.base (ACode.seq (ACode.reg [
  (AOper.mk (some 30) AK.mv [(Opd.t 5)] none), 
  (AOper.mk (some 31) AK.mv [(Opd.t 0)] none), 
  (AOper.mk (some 32) AK.nilck [(Opd.t 31)] none), 
  (AOper.mk (some 33) (AK.fadr 0) [(Opd.t 32)] none), 
  (AOper.mk (some 34) (AK.load false 1) [(Opd.t 33)] none), 
  (AOper.mk (some 35) (AK.len false) [(Opd.t 34)] none), 
  (AOper.mk (some 36) (AK.bin Go.BinOp.lss 0) [(Opd.t 30), (Opd.t 35)] none)]) (ACode.cond (Opd.t 36) (ACode.seq (ACode.reg [
  (AOper.mk (some 37) AK.mv [(Opd.t 0)] none), 
  (AOper.mk (some 38) AK.nilck [(Opd.t 37)] none), 
  (AOper.mk (some 39) (AK.fadr 0) [(Opd.t 38)] none), 
  (AOper.mk (some 40) (AK.load false 1) [(Opd.t 39)] none), 
  (AOper.mk (some 41) AK.mv [(Opd.t 5)] none), 
  (AOper.mk (some 42) (AK.iadr 1) [(Opd.t 40), (Opd.t 41)] none), 
  (AOper.mk (some 43) (AK.load false 1) [(Opd.t 42)] none), 
  (AOper.mk (some 44) (AK.conv Go.IntKind.i64) [(Opd.t 43)] none), 
  (AOper.mk (some 45) AK.mv [(Opd.t 1)] none), 
  (AOper.mk (some 46) (AK.bin Go.BinOp.rem 0) [(Opd.t 44), (Opd.t 45)] none), 
  (AOper.mk (some 4) AK.mv [(Opd.t 46)] none)]) ACode.ret) ACode.skip))) (BCode.seq (BCode.pure [
  (AOper.mk (some 47) AK.mv [(Opd.t 0)] none), 
  (AOper.mk (some 48) AK.nilck [(Opd.t 47)] none), 
  (AOper.mk (some 49) (AK.fadr 0) [(Opd.t 48)] none), 
  (AOper.mk (some 50) (AK.load false 1) [(Opd.t 49)] none), 
  (AOper.mk (some 51) AK.mv [(Opd.t 5)] none), 
  (AOper.mk (some 52) AK.mv [(Opd.t 0)] none), 
  (AOper.mk (some 53) AK.nilck [(Opd.t 52)] none), 
  (AOper.mk (some 54) (AK.fadr 0) [(Opd.t 53)] none), 
  (AOper.mk (some 55) (AK.load false 1) [(Opd.t 54)] none), 
  (AOper.mk (some 56) (AK.len false) [(Opd.t 55)] none), 
  (AOper.mk (some 57) (AK.bin Go.BinOp.rem 0) [(Opd.t 51), (Opd.t 56)] none), 
  (AOper.mk (some 58) (AK.iadr 1) [(Opd.t 50), (Opd.t 57)] none), 
  (AOper.mk (some 59) (AK.load false 1) [(Opd.t 58)] none), 
  (AOper.mk (some 60) (AK.conv Go.IntKind.i64) [(Opd.t 59)] none), 
  (AOper.mk (some 61) (AK.bin Go.BinOp.mul 0) [(Opd.t 60), (Opd.c (AV.v (Go.Value.int Go.IntKind.i64 131)))] none), 
  (AOper.mk (some 62) AK.mv [(Opd.t 0)] none), 
  (AOper.mk (some 63) AK.nilck [(Opd.t 62)] none), 
  (AOper.mk (some 64) (AK.fadr 0) [(Opd.t 63)] none), 
  (AOper.mk (some 65) (AK.load false 1) [(Opd.t 64)] none), 
  (AOper.mk (some 66) AK.mv [(Opd.t 5)] none), 
  (AOper.mk (some 67) (AK.bin Go.BinOp.mul 0) [(Opd.t 66), (Opd.c (AV.v (Go.Value.int Go.IntKind.i64 7)))] none), 
  (AOper.mk (some 68) (AK.bin Go.BinOp.add 0) [(Opd.t 67), (Opd.c (AV.v (Go.Value.int Go.IntKind.i64 3)))] none), 
  (AOper.mk (some 69) AK.mv [(Opd.t 0)] none), 
  (AOper.mk (some 70) AK.nilck [(Opd.t 69)] none), 
  (AOper.mk (some 71) (AK.fadr 0) [(Opd.t 70)] none), 
  (AOper.mk (some 72) (AK.load false 1) [(Opd.t 71)] none), 
  (AOper.mk (some 73) (AK.len false) [(Opd.t 72)] none), 
  (AOper.mk (some 74) (AK.bin Go.BinOp.rem 0) [(Opd.t 68), (Opd.t 73)] none), 
  (AOper.mk (some 75) (AK.iadr 1) [(Opd.t 65), (Opd.t 74)] none), 
  (AOper.mk (some 76) (AK.load false 1) [(Opd.t 75)] none), 
  (AOper.mk (some 77) (AK.conv Go.IntKind.i64) [(Opd.t 76)] none), 
  (AOper.mk (some 78) (AK.bin Go.BinOp.mul 0) [(Opd.t 77), (Opd.c (AV.v (Go.Value.int Go.IntKind.i64 1117)))] none), 
  (AOper.mk (some 79) (AK.bin Go.BinOp.add 0) [(Opd.t 61), (Opd.t 78)] none), 
  (AOper.mk (some 80) AK.mv [(Opd.t 5)] none), 
  (AOper.mk (some 81) (AK.bin Go.BinOp.mul 0) [(Opd.t 80), (Opd.c (AV.v (Go.Value.int Go.IntKind.i64 29)))] none), 
  (AOper.mk (some 82) (AK.bin Go.BinOp.add 0) [(Opd.t 79), (Opd.t 81)] none), 
  (AOper.mk (some 83) AK.mv [(Opd.t 5)] none), 
  (AOper.mk (some 84) AK.mv [(Opd.t 0)] none), 
  (AOper.mk (some 85) AK.nilck [(Opd.t 84)] none), 
  (AOper.mk (some 86) (AK.fadr 0) [(Opd.t 85)] none), 
  (AOper.mk (some 87) (AK.load false 1) [(Opd.t 86)] none), 
  (AOper.mk (some 88) (AK.len false) [(Opd.t 87)] none), 
  (AOper.mk (some 89) (AK.bin Go.BinOp.quo 0) [(Opd.t 83), (Opd.t 88)] none), 
  (AOper.mk (some 90) (AK.bin Go.BinOp.mul 0) [(Opd.t 89), (Opd.c (AV.v (Go.Value.int Go.IntKind.i64 53)))] none), 
  (AOper.mk (some 91) (AK.bin Go.BinOp.add 0) [(Opd.t 82), (Opd.t 90)] none), 
  (AOper.mk (some 6) AK.mv [(Opd.t 91)] none)]) (BCode.base (ACode.seq (ACode.reg [
  (AOper.mk (some 92) AK.mv [(Opd.t 6)] none), 
  (AOper.mk (some 93) AK.mv [(Opd.t 6)] none), 
  (AOper.mk (some 94) (AK.bin Go.BinOp.quo 0) [(Opd.t 93), (Opd.c (AV.v (Go.Value.int Go.IntKind.i64 64)))] none), 
  (AOper.mk (some 95) (AK.bin Go.BinOp.xor 0) [(Opd.t 92), (Opd.t 94)] none), 
  (AOper.mk (some 6) AK.mv [(Opd.t 95)] none)]) (ACode.seq (ACode.reg [
  (AOper.mk (some 96) AK.mv [(Opd.t 6)] none), 
  (AOper.mk (some 97) AK.mv [(Opd.t 1)] none), 
  (AOper.mk (some 98) (AK.bin Go.BinOp.rem 0) [(Opd.t 96), (Opd.t 97)] none), 
  (AOper.mk (some 4) AK.mv [(Opd.t 98)] none)]) ACode.ret)))))))))

theorem k_spec_l20Rd_pick : cFnB Try.prog n_spec_l20Rd_pick 99 [(RV.t 4)] c_spec_l20Rd_pick_E := ⟨Try.f18, _, Try.func18, rfl, by kernel_rfl, by kernel_rfl, by kernel_rfl, by kernel_rfl⟩

-- 2 parameters, results [.t 4], 15 slots, modes [true, false]
@[simp] abbrev n_spec_l20Rd_odd : Nat := 21

def c_spec_l20Rd_odd : ACode := .seq (.reg [.o 4 .mv [.kb false]]) <| .seq (.reg [.m 5 1, .o 6 (.bin .gtr 0) [.t 5, .k 0], .m 7 6, .mg 8 0 7 true,
 .mg 9 1 7 true, .g 10 (.call 18 []) [.t 8, .t 9] 7 true, .mg 11 1 7 true, .g 12 (.bin .sub 0) [.t 11, .k 1] 7 true, .g 13 (.bin .eql 0) [.t 10, .t 12] 7 true,
 .o 14 .pick [.t 7, .t 13, .kb false], .m 4 14]) <| .ret

theorem k_spec_l20Rd_odd : cFn Try.prog n_spec_l20Rd_odd 15 [.t 4] c_spec_l20Rd_odd := ⟨Try.f21, _, Try.func21, rfl, by kernel_rfl, by kernel_rfl, by kernel_rfl, by kernel_rfl⟩

-- 3 parameters, results [.t 6, .t 7], 44 slots, modes [false, false, false]
@[simp] abbrev n_spec_LiftOne : Nat := 42
def c_spec_LiftOne_T0 : ACode := .seq (.reg [.m 40 8, .m 41 2, .o 42 (.iadr 1) [.t 40, .t 41], .s (.store 1) [.t 42, .k 0]]) <| .seq (.reg [.m 43 8, .m 6 43,
 .o 7 .mv [.kb true]]) <| .ret

abbrev c_spec_LiftOne_p0 : Plan := .al (.o 38 (.call 56 []) [.t 32, .t 33, .t 37]) ( .take (.o 39 (.iadr 1) [.t 31, .t 38]) <| .al (.s (.store 1) [.t 39, .k 0]) ( .done))
def c_spec_LiftOne : ACode := .seq (.reg [.o 3 .box [.t 0], .o 6 .mv [.c (.os 1 [])], .o 7 .mv [.kb false]]) <| .seq (.seq (.reg [.la 9 3 3, .m 10 1,
 .o 11 (.call 27 []) [.t 9, .t 10], .o 12 (.un .not) [.t 11]]) <| .cond (.t 12) ( .seq (.reg [.o 13 (.bsl 1) [], .m 6 13, .o 7 .mv [.kb false]]) <|
 .ret) ( .skip)) <| .seq (.reg [.o 14 (.bsl 1) [], .m 15 1, .o 16 (.app 1 8 true) [.t 14, .t 15], .m 8 16]) <| .seq (.seq (.reg [.m 17 2, .m 18 1, .n 19 18,
 .o 20 (.bin .sub 0) [.t 19, .k 1], .o 21 (.call 55 []) [.t 17, .k 0, .t 20], .o 22 (.un .not) [.t 21], .m 23 22, .mg 24 1 23 false, .mg 25 2 23 false,
 .g 26 (.iadr 1) [.t 24, .t 25] 23 false, .lg 27 26 23 false, .g 28 (.bin .eql 0) [.t 27, .k 0] 23 false, .o 29 .pick [.t 23, .kb true, .t 28]]) <|
 .cond (.t 29) ( .seq (.reg [.m 30 8, .m 6 30, .o 7 .mv [.kb false]]) <| .ret) ( .skip)) <| .seq (.draw ( .take (.m 31 8) <| .take (.m 33 2) <|
 .take (.m 34 1) <| .take (.m 35 2) <| .take (.o 36 (.iadr 1) [.t 34, .t 35]) <| .alt (.la 32 3 3) ( .al (.l 37 36) c_spec_LiftOne_p0) <|
 .al (.l 37 36) ( .al (.la 32 3 3) c_spec_LiftOne_p0))) <| .gc [] [2, 8] c_spec_LiftOne_T0

theorem k_spec_LiftOne : cFn Try.prog n_spec_LiftOne 44 [.t 6, .t 7] c_spec_LiftOne := ⟨Try.f42, _, Try.func42, rfl, by kernel_rfl, by kernel_rfl, by kernel_rfl, by kernel_rfl⟩

-- 2 parameters, results [.c 4 true 3], 38 slots, modes [false, false]
@[simp] abbrev n_spec_RegionBox : Nat := 62
def c_spec_RegionBox_L0 : ACode := .seq (.seq (.reg [.m 25 6, .m 26 0, .m 27 1, .o 28 (.bin .mul 0) [.t 26, .t 27], .o 29 (.bin .lss 0) [.t 25, .t 28]]) <|
 .cond (.t 29) ( .skip) ( .exit 0)) <| .seq (.block 1 ( .reg [.f 32 2 5, .l 33 32, .o 34 (.bsl 1) [.kb true], .o 35 (.app 1 1 true) [.t 33, .t 34], .f 36 2 5,
 .s (.store 1) [.t 36, .t 35]])) <| .reg [.m 30 6, .o 31 (.bin .add 0) [.t 30, .k 1], .m 6 31]

def c_spec_RegionBox : ACode := .seq (.reg [.o 4 (.alloc rz) []]) <| .seq (.seq (.reg [.m 7 0, .o 8 (.call 55 []) [.t 7, .k 1, .k 6], .o 9 (.un .not) [.t 8],
 .m 10 9, .mg 11 1 10 false, .g 12 (.call 55 []) [.t 11, .k 1, .k 6] 10 false, .g 13 (.un .not) [.t 12] 10 false, .o 14 .pick [.t 10, .kb true, .t 13], .m 15 14,
 .mg 16 0 15 false, .mg 17 1 15 false, .g 18 (.bin .mul 0) [.t 16, .t 17] 15 false, .g 19 (.bin .gtr 0) [.t 18, .k 24] 15 false, .o 20 .pick [.t 15, .kb true,
 .t 19]]) <| .cond (.t 20) ( .seq (.reg [.o 21 (.build rz []) [], .s (.store 3) [.t 4, .t 21]]) <| .ret) ( .skip)) <| .seq (.reg [.m 22 0, .m 23 1,
 .o 24 (.build rz [(0, 1), (1, 1)]) [.t 22, .t 23], .o 5 (.alloc rz) [], .s (.store 3) [.t 5, .t 24]]) <| .seq (.seq (.reg [.o 6 .mv [.k 0]]) <|
 .block 0 ( .loop [] [0, 1, 4, 5, 6] c_spec_RegionBox_L0)) <| .seq (.reg [.la 37 3 5, .s (.store 3) [.t 4, .t 37]]) <| .ret

theorem k_spec_RegionBox : cFn Try.prog n_spec_RegionBox 38 [.c 4 true 3] c_spec_RegionBox := ⟨Try.f62, _, Try.func62, rfl, by kernel_rfl, by kernel_rfl, by kernel_rfl, by kernel_rfl⟩

-- 1 parameters, results [.t 2], 184 slots, modes [false]
@[simp] abbrev n_spec_TilingsMany : Nat := 36
abbrev c_spec_TilingsMany_L0_p0 : Plan := .take (.g 134 (.bin .neq 0) [.t 129, .t 133] 125 true) <| .take (.o 135 .pick [.t 125, .t 134, .kb false]) <| .done
def c_spec_TilingsMany_L0 : ACode := .seq (.seq (.draw ( .take (.m 121 15) <| .take (.m 122 6) <| .take (.n 123 122) <| .take (.o 124 (.bin .lss 0) [.t 121,
 .t 123]) <| .take (.m 125 124) <| .take (.mg 126 6 125 true) <| .take (.mg 127 15 125 true) <| .take (.g 128 (.iadr 1) [.t 126, .t 127] 125 true) <|
 .take (.mg 130 11 125 true) <| .take (.mg 131 14 125 true) <| .take (.g 132 (.iadr 1) [.t 130, .t 131] 125 true) <|
 .alt (.lg 129 128 125 true) ( .al (.lg 133 132 125 true) c_spec_TilingsMany_L0_p0) <| .al (.lg 133 132 125 true) ( .al (.lg 129 128 125 true) c_spec_TilingsMany_L0_p0))) <| .cond (.t 135) ( .skip) ( .exit 7)) <| .block 8 ( .reg [.m 136 15,
 .o 137 (.bin .add 0) [.t 136, .k 1], .m 15 137])

abbrev c_spec_TilingsMany_L1_p0 : Plan := .take (.o 162 (.bin .add 0) [.t 157, .t 161]) <| .take (.o 163 (.iadr 1) [.t 152, .t 153]) <| .al (.s (.store 1) [.t 163, .t 162]) ( .done)
def c_spec_TilingsMany_L1 : ACode := .seq (.seq (.reg [.m 115 14, .m 116 11, .n 117 116, .o 118 (.bin .lss 0) [.t 115, .t 117]]) <|
 .cond (.t 118) ( .skip) ( .exit 5)) <| .seq (.block 6 ( .seq (.reg [.o 15 .mv [.k 0]]) <| .seq (.block 7 ( .loop [(3, 1), (4, 1), (6, 1), (7, 1), (11, 1)] [1,
 3, 4, 5, 6, 7, 8, 11, 14, 15] c_spec_TilingsMany_L0)) <| .seq (.seq (.reg [.m 138 15, .m 139 6, .n 140 139, .o 141 (.bin .eql 0) [.t 138, .t 140]]) <|
 .cond (.t 141) ( .seq (.reg [.m 142 6, .m 143 11, .m 144 14, .o 145 (.iadr 1) [.t 143, .t 144], .l 146 145, .o 147 (.bsl 1) [.t 146],
 .o 148 (.app 1 8 true) [.t 142, .t 147], .m 6 148]) <| .reg [.m 149 7, .o 150 (.bsl 1) [.k 0], .o 151 (.app 1 8 true) [.t 149, .t 150], .m 7 151]) ( .skip)) <|
 .draw ( .take (.m 152 7) <| .take (.m 153 15) <| .take (.m 154 7) <| .take (.m 155 15) <| .take (.o 156 (.iadr 1) [.t 154, .t 155]) <| .take (.m 158 4) <|
 .take (.m 159 8) <| .take (.o 160 (.iadr 1) [.t 158, .t 159]) <| .alt (.l 157 156) ( .al (.l 161 160) c_spec_TilingsMany_L1_p0) <|
 .al (.l 161 160) ( .al (.l 157 156) c_spec_TilingsMany_L1_p0)))) <| .reg [.m 119 14, .o 120 (.bin .add 0) [.t 119, .k 1], .m 14 120]

def c_spec_TilingsMany_L2 : ACode := .seq (.seq (.reg [.m 32 8, .m 33 3, .n 34 33, .o 35 (.bin .lss 0) [.t 32, .t 34]]) <| .cond (.t 35) ( .skip) ( .exit 2)) <|
 .seq (.block 3 ( .seq (.reg [.m 38 3, .m 39 8, .o 40 (.iadr 1) [.t 38, .t 39], .l 41 40, .m 9 41]) <| .seq (.reg [.m 42 9, .o 43 (.bin .rem 0) [.t 42, .k 2],
 .o 44 (.bin .eql 0) [.t 43, .k 1], .m 10 44]) <| .seq (.reg [.o 45 (.bsl 1) [], .m 11 45]) <| .seq (.block 4 ( .seq (.reg [.m 101 10, .m 102 101,
 .fg 103 2 1 102 false, .lg 104 103 102 false, .mg 105 5 102 false, .g 106 (.iadr 1) [.t 104, .t 105] 102 false, .lg 107 106 102 false,
 .g 108 (.un .not) [.t 107] 102 false, .o 109 .pick [.t 102, .kb true, .t 108], .m 100 109]) <| .cond (.t 100) ( .reg [.m 110 11, .m 111 9,
 .o 112 (.bin .quo 0) [.t 111, .k 2], .o 113 (.bsl 1) [.t 112], .o 114 (.app 1 8 true) [.t 110, .t 113], .m 11 114]) ( .seq (.reg [.la 46 3 1, .m 47 5,
 .o 48 (.call 56 []) [.t 46, .t 47, .k 1], .m 12 48]) <| .seq (.reg [.la 49 3 1, .m 50 5, .o 51 (.call 56 []) [.t 49, .t 50, .k 2], .m 13 51]) <|
 .seq (.seq (.reg [.m 52 12, .o 53 (.bin .geq 0) [.t 52, .k 0], .m 54 53, .fg 55 2 1 54 true, .lg 56 55 54 true, .mg 57 12 54 true, .g 58 (.iadr 1) [.t 56,
 .t 57] 54 true, .lg 59 58 54 true, .o 60 .pick [.t 54, .t 59, .kb false], .m 61 60, .mg 62 9 61 true, .g 63 (.bin .quo 0) [.t 62, .k 2] 61 true,
 .g 64 (.bin .rem 0) [.t 63, .k 2] 61 true, .g 65 (.bin .eql 0) [.t 64, .k 0] 61 true, .o 66 .pick [.t 61, .t 65, .kb false]]) <| .cond (.t 66) ( .reg [.m 67 11,
 .m 68 9, .o 69 (.bin .quo 0) [.t 68, .k 2], .o 70 (.bin .add 0) [.t 69, .k 1], .o 71 (.bsl 1) [.t 70], .o 72 (.app 1 8 true) [.t 67, .t 71],
 .m 11 72]) ( .skip)) <| .seq (.reg [.m 73 13, .o 74 (.bin .geq 0) [.t 73, .k 0], .m 75 74, .fg 76 2 1 75 true, .lg 77 76 75 true, .mg 78 13 75 true,
 .g 79 (.iadr 1) [.t 77, .t 78] 75 true, .lg 80 79 75 true, .o 81 .pick [.t 75, .t 80, .kb false], .m 82 81, .mg 83 9 82 true, .fg 84 0 1 82 true,
 .lg 85 84 82 true, .g 86 (.bin .shr 0) [.t 83, .t 85] 82 true, .g 87 (.bin .rem 0) [.t 86, .k 2] 82 true, .g 88 (.bin .eql 0) [.t 87, .k 0] 82 true,
 .o 89 .pick [.t 82, .t 88, .kb false]]) <| .cond (.t 89) ( .reg [.m 90 11, .m 91 9, .o 92 (.bin .quo 0) [.t 91, .k 2], .f 93 0 1, .l 94 93,
 .o 95 (.bin .sub 0) [.t 94, .k 1], .o 96 (.bin .shl 0) [.k 1, .t 95], .o 97 (.bin .add 0) [.t 92, .t 96], .o 98 (.bsl 1) [.t 97], .o 99 (.app 1 8 true) [.t 90,
 .t 98], .m 11 99]) ( .skip)))) <| .seq (.reg [.o 14 .mv [.k 0]]) <| .block 5 ( .loop [(3, 1), (4, 1), (6, 1), (7, 1), (11, 1)] [1, 3, 4, 5, 6, 7, 8, 11,
 14] c_spec_TilingsMany_L1))) <| .reg [.m 36 8, .o 37 (.bin .add 0) [.t 36, .k 1], .m 8 37]

def c_spec_TilingsMany_L3 : ACode := .seq (.seq (.reg [.m 23 5, .f 24 2 1, .l 25 24, .n 26 25, .o 27 (.bin .lss 0) [.t 23, .t 26]]) <|
 .cond (.t 27) ( .skip) ( .exit 0)) <| .seq (.block 1 ( .seq (.reg [.o 30 (.bsl 1) [], .m 6 30]) <| .seq (.reg [.o 31 (.bsl 1) [], .m 7 31]) <|
 .seq (.seq (.reg [.o 8 .mv [.k 0]]) <| .block 2 ( .loop [(3, 1), (4, 1), (6, 1), (7, 1)] [1, 3, 4, 5, 6, 7, 8] c_spec_TilingsMany_L2)) <| .seq (.reg [.m 164 6,
 .m 3 164]) <| .reg [.m 165 7, .m 4 165])) <| .reg [.m 28 5, .o 29 (.bin .add 0) [.t 28, .k 1], .m 5 29]

def c_spec_TilingsMany_L4 : ACode := .seq (.seq (.reg [.m 166 17, .m 167 3, .n 168 167, .o 169 (.bin .lss 0) [.t 166, .t 168]]) <|
 .cond (.t 169) ( .skip) ( .exit 9)) <| .seq (.block 10 ( .seq (.reg [.m 172 3, .m 173 17, .o 174 (.iadr 1) [.t 172, .t 173], .l 175 174,
 .o 176 (.bin .eql 0) [.t 175, .k 0]]) <| .cond (.t 176) ( .reg [.m 177 16, .m 178 4, .m 179 17, .o 180 (.iadr 1) [.t 178, .t 179], .l 181 180,
 .o 182 (.bin .add 0) [.t 177, .t 181], .m 16 182]) ( .skip))) <| .reg [.m 170 17, .o 171 (.bin .add 0) [.t 170, .k 1], .m 17 171]

def c_spec_TilingsMany : ACode := .seq (.reg [.o 1 .box [.t 0], .o 2 .mv [.k 0]]) <| .seq (.seq (.reg [.la 18 3 1, .o 19 (.call 54 []) [.t 18],
 .o 20 (.un .not) [.t 19]]) <| .cond (.t 20) ( .seq (.reg [.o 2 .mv [.k (-1)]]) <| .ret) ( .skip)) <| .seq (.reg [.o 21 (.bsl 1) [.k 0], .m 3 21]) <|
 .seq (.reg [.o 22 (.bsl 1) [.k 1], .m 4 22]) <| .seq (.seq (.reg [.o 5 .mv [.k 0]]) <| .block 0 ( .loop [(3, 1), (4, 1)] [1, 3, 4, 5] c_spec_TilingsMany_L3)) <|
 .seq (.reg [.o 16 .mv [.k 0]]) <| .seq (.seq (.reg [.o 17 .mv [.k 0]]) <| .block 9 ( .loop [(3, 1), (4, 1)] [3, 4, 16, 17] c_spec_TilingsMany_L4)) <|
 .seq (.reg [.m 183 16, .m 2 183]) <| .ret

theorem k_spec_TilingsMany : cFn Try.prog n_spec_TilingsMany 184 [.t 2] c_spec_TilingsMany := ⟨Try.f36, _, Try.func36, rfl, by kernel_rfl, by kernel_rfl, by kernel_rfl, by kernel_rfl⟩

-- 2 parameters, results [.c 4 true 3], 30 slots, modes [false, false]
@[simp] abbrev n_spec_l3Less : Nat := 80
abbrev c_spec_l3Less_L0_p0 : Plan := .take (.o 28 (.iadr 1) [.t 23, .t 27]) <| .al (.s (.store 1) [.t 28, .kb false]) ( .done)
def c_spec_l3Less_L0 : ACode := .seq (.seq (.reg [.m 16 6, .m 17 1, .n 18 17, .o 19 (.bin .lss 0) [.t 16, .t 18]]) <| .cond (.t 19) ( .skip) ( .exit 0)) <|
 .seq (.block 1 ( .draw ( .take (.f 22 2 5) <| .take (.m 24 1) <| .take (.m 25 6) <| .take (.o 26 (.iadr 1) [.t 24, .t 25]) <|
 .alt (.l 23 22) ( .al (.l 27 26) c_spec_l3Less_L0_p0) <|
 .al (.l 27 26) ( .al (.l 23 22) c_spec_l3Less_L0_p0)))) <| .reg [.m 20 6,
 .o 21 (.bin .add 0) [.t 20, .k 1], .m 6 21]

def c_spec_l3Less_T1 : ACode := .seq (.seq (.reg [.o 6 .mv [.k 0]]) <| .block 0 ( .loop [(1, 1)] [1, 4, 5, 6] c_spec_l3Less_L0)) <| .seq (.reg [.la 29 3 5,
 .s (.store 3) [.t 4, .t 29]]) <| .ret

def c_spec_l3Less_E : BCode := .seq (.base (.reg [.o 2 .box [.t 0], .o 4 (.alloc rz) []])) <| .frz 2 <|
 .seq (BCode.early [ (AOper.mk (some 7) (AK.fadr 0) [(Opd.t 2)] none),  (AOper.mk (some 8) (AK.load false 1) [(Opd.t 7)] none),
  (AOper.mk (some 9) (AK.fadr 1) [(Opd.t 2)] none),  (AOper.mk (some 10) (AK.load false 1) [(Opd.t 9)] none),  (AOper.mk (some 12) (AK.fadr 2) [(Opd.t 2)] none),
  (AOper.mk (some 13) (AK.load false 1) [(Opd.t 12)] none)]  (Plan.alt  (AOper.mk (some 11) (AK.bsl 1) [] none)  (Plan.alt  (AOper.mk (some 14) (AK.app 1 1 true) [(Opd.t 11),
 (Opd.t 13)] none) (Plan.take  (AOper.mk (some 15) (AK.build [(AV.v (Go.Value.int Go.IntKind.i64 0)), (AV.v (Go.Value.int Go.IntKind.i64 0)), (AV.os 1 [])] [(0,
 1), (1, 1), (2, 1)]) [(Opd.t 8), (Opd.t 10), (Opd.t 14)] none)  (Plan.alt  (AOper.mk (some 5) (AK.alloc [(AV.v (Go.Value.int Go.IntKind.i64 0)),
 (AV.v (Go.Value.int Go.IntKind.i64 0)), (AV.os 1 [])]) [] none)  (Plan.alt  (AOper.mk none (AK.store 3) [(Opd.t 5),
 (Opd.t 15)] none) Plan.done Plan.stop) Plan.stop))  (Plan.alt  (AOper.mk (some 5) (AK.alloc [(AV.v (Go.Value.int Go.IntKind.i64 0)),
 (AV.v (Go.Value.int Go.IntKind.i64 0)), (AV.os 1 [])]) [] none)  (Plan.alt  (AOper.mk (some 14) (AK.app 1 1 true) [(Opd.t 11),
 (Opd.t 13)] none) (Plan.take  (AOper.mk (some 15) (AK.build [(AV.v (Go.Value.int Go.IntKind.i64 0)), (AV.v (Go.Value.int Go.IntKind.i64 0)), (AV.os 1 [])] [(0,
 1), (1, 1), (2, 1)]) [(Opd.t 8), (Opd.t 10), (Opd.t 14)] none)  (Plan.alt  (AOper.mk none (AK.store 3) [(Opd.t 5),
 (Opd.t 15)] none) Plan.done Plan.stop)) Plan.stop) Plan.stop))  (Plan.alt  (AOper.mk (some 5) (AK.alloc [(AV.v (Go.Value.int Go.IntKind.i64 0)),
 (AV.v (Go.Value.int Go.IntKind.i64 0)),
 (AV.os 1 [])]) [] none)  (Plan.alt  (AOper.mk (some 11) (AK.bsl 1) [] none)  (Plan.alt  (AOper.mk (some 14) (AK.app 1 1 true) [(Opd.t 11),
 (Opd.t 13)] none) (Plan.take  (AOper.mk (some 15) (AK.build [(AV.v (Go.Value.int Go.IntKind.i64 0)), (AV.v (Go.Value.int Go.IntKind.i64 0)), (AV.os 1 [])] [(0,
 1), (1, 1), (2, 1)]) [(Opd.t 8), (Opd.t 10), (Opd.t 14)] none)  (Plan.alt  (AOper.mk none (AK.store 3) [(Opd.t 5),
 (Opd.t 15)] none) Plan.done Plan.stop)) Plan.stop) Plan.stop) Plan.stop))) <| .base (.gc [] [1, 4, 5] c_spec_l3Less_T1)

theorem k_spec_l3Less : cFnB Try.prog n_spec_l3Less 30 [.c 4 true 3] c_spec_l3Less_E := ⟨Try.f80, _, Try.func80, rfl, by kernel_rfl, by kernel_rfl, by kernel_rfl, by kernel_rfl⟩

-- 2 parameters, results [.t 4], 27 slots, modes [false, false]
@[simp] abbrev n_spec_l3With : Nat := 64
def c_spec_l3With_L0 : ACode := .seq (.seq (.reg [.m 8 6, .m 9 1, .n 10 9, .o 11 (.bin .lss 0) [.t 8, .t 10]]) <| .cond (.t 11) ( .skip) ( .exit 0)) <|
 .seq (.block 1 ( .seq (.reg [.m 14 1, .m 15 6, .o 16 (.iadr 1) [.t 14, .t 15], .l 17 16, .o 18 (.bin .neq 0) [.t 17, .k 0]]) <| .cond (.t 18) ( .reg [.m 19 5,
 .m 20 6, .o 21 (.bsl 1) [.t 20], .o 22 (.app 1 8 true) [.t 19, .t 21], .m 5 22]) ( .skip))) <| .reg [.m 12 6, .o 13 (.bin .add 0) [.t 12, .k 1], .m 6 13]

def c_spec_l3With : ACode := .seq (.reg [.o 2 .box [.t 0], .o 4 .mv [.k 0]]) <| .seq (.reg [.o 7 (.bsl 1) [], .m 5 7]) <| .seq (.seq (.reg [.o 6 .mv [.k 0]]) <|
 .block 0 ( .loop [(1, 1), (5, 1)] [1, 2, 5, 6] c_spec_l3With_L0)) <| .seq (.reg [.la 23 3 2, .m 24 5, .o 25 (.call 80 []) [.t 23, .t 24],
 .o 26 (.call 36 []) [.t 25], .m 4 26]) <| .ret

theorem k_spec_l3With : cFn Try.prog n_spec_l3With 27 [.t 4] c_spec_l3With := ⟨Try.f64, _, Try.func64, rfl, by kernel_rfl, by kernel_rfl, by kernel_rfl, by kernel_rfl⟩

-- 2 parameters, results [.t 4, .t 5], 62 slots, modes [false, false]
@[simp] abbrev n_spec_TilingOf : Nat := 35
def c_spec_TilingOf_L0 : ACode := .seq (.seq (.reg [.m 30 7, .o 31 (.bin .geq 0) [.t 30, .k 0]]) <| .cond (.t 31) ( .skip) ( .exit 0)) <|
 .seq (.block 1 ( .seq (.reg [.la 36 3 2, .m 37 6, .m 38 7, .o 39 (.call 41 []) [.t 36, .t 37, .t 38, .k 1], .m 35 39, .e 40 0 35, .e 41 1 35, .m 8 40,
 .m 9 41]) <| .seq (.reg [.o 10 .mv [.k 0]]) <| .seq (.seq (.reg [.m 42 9]) <| .cond (.t 42) ( .reg [.la 43 3 2, .m 44 8, .o 45 (.call 64 []) [.t 43, .t 44],
 .m 10 45]) ( .skip)) <| .seq (.seq (.reg [.m 46 1, .m 47 10, .o 48 (.bin .geq 0) [.t 46, .t 47]]) <| .cond (.t 48) ( .seq (.reg [.m 49 1, .m 50 10,
 .o 51 (.bin .sub 0) [.t 49, .t 50], .m 1 51]) <| .seq (.reg [.la 53 3 2, .m 54 6, .m 55 7, .o 56 (.call 41 []) [.t 53, .t 54, .t 55, .k 2], .m 52 56,
 .e 57 0 52, .e 58 1 52, .m 11 57, .m 12 58]) <| .reg [.m 59 11, .m 8 59]) ( .skip)) <| .reg [.m 60 8, .m 6 60])) <| .reg [.la 32 3 2, .m 33 6,
 .o 34 (.call 63 []) [.t 32, .t 33], .m 7 34]

def c_spec_TilingOf : ACode := .seq (.reg [.o 2 .box [.t 0], .o 4 .mv [.c (.os 1 [])], .o 5 .mv [.kb false]]) <| .seq (.seq (.reg [.la 13 3 2,
 .o 14 (.call 54 []) [.t 13], .o 15 (.un .not) [.t 14], .m 16 15, .mg 17 1 16 false, .g 18 (.load true 3) [.t 2] 16 false, .g 19 (.call 36 []) [.t 18] 16 false,
 .g 20 (.bin .sub 0) [.t 19, .k 1] 16 false, .g 21 (.call 55 []) [.t 17, .k 0, .t 20] 16 false, .g 22 (.un .not) [.t 21] 16 false, .o 23 .pick [.t 16, .kb true,
 .t 22]]) <| .cond (.t 23) ( .seq (.reg [.o 24 (.bsl 1) [], .m 4 24, .o 5 .mv [.kb false]]) <| .ret) ( .skip)) <| .seq (.reg [.la 25 3 2,
 .o 26 (.call 38 []) [.t 25], .m 6 26]) <| .seq (.seq (.reg [.la 27 3 2, .m 28 6, .o 29 (.call 63 []) [.t 27, .t 28], .m 7 29]) <| .block 0 ( .loop [(6, 1)] [1,
 2, 6, 7] c_spec_TilingOf_L0)) <| .seq (.reg [.m 61 6, .m 4 61, .o 5 .mv [.kb true]]) <| .ret

theorem k_spec_TilingOf : cFn Try.prog n_spec_TilingOf 62 [.t 4, .t 5] c_spec_TilingOf := ⟨Try.f35, _, Try.func35, rfl, by kernel_rfl, by kernel_rfl, by kernel_rfl, by kernel_rfl⟩

end Go.Proofs.Dev

namespace Go.Proofs.Dev

-- 2 parameters, results [.c 4 true 3], 73 slots, modes [true, false]
@[simp] abbrev n_spec_l20Region : Nat := 78
abbrev c_spec_l20Region_L0_p0 : Plan := .al (.o 45 (.app 1 1 true) [.t 39, .t 44]) ( .take (.f 46 2 5) <| .al (.s (.store 1) [.t 46, .t 45]) ( .done))
def c_spec_l20Region_L0 : ACode := .seq (.seq (.reg [.m 29 7, .f 30 0 5, .l 31 30, .f 32 1 5, .l 33 32, .o 34 (.bin .mul 0) [.t 31, .t 33],
 .o 35 (.bin .lss 0) [.t 29, .t 34]]) <| .cond (.t 35) ( .skip) ( .exit 0)) <| .seq (.block 1 ( .draw ( .take (.f 38 2 5) <| .take (.m 40 0) <|
 .take (.m 42 6) <| .alt (.l 39 38) ( .al (.o 41 (.call 18 []) [.t 40, .k 10]) ( .take (.o 43 (.bin .leq 0) [.t 41, .t 42]) <|
 .al (.o 44 (.bsl 1) [.t 43]) c_spec_l20Region_L0_p0)) <|
 .al (.o 41 (.call 18 []) [.t 40, .k 10]) ( .take (.o 43 (.bin .leq 0) [.t 41, .t 42]) <|
 .alt (.l 39 38) ( .al (.o 44 (.bsl 1) [.t 43]) c_spec_l20Region_L0_p0) <| .al (.o 44 (.bsl 1) [.t 43]) ( .al (.l 39 38) c_spec_l20Region_L0_p0))))) <| .reg [.m 36 7, .o 37 (.bin .add 0) [.t 36, .k 1], .m 7 37]

def c_spec_l20Region_L1 : ACode := .seq (.seq (.reg [.m 53 8, .o 54 (.bin .lss 0) [.t 53, .k 36]]) <| .cond (.t 54) ( .skip) ( .exit 3)) <|
 .seq (.block 4 ( .reg [.f 57 2 5, .l 58 57, .o 59 (.bsl 1) [.kb true], .o 60 (.app 1 1 true) [.t 58, .t 59], .f 61 2 5, .s (.store 1) [.t 61, .t 60]])) <|
 .reg [.m 55 8, .o 56 (.bin .add 0) [.t 55, .k 1], .m 8 56]

def c_spec_l20Region : ACode := .seq (.reg [.o 4 (.alloc rz) []]) <| .seq (.reg [.m 9 0, .o 10 (.call 18 []) [.t 9, .k 6], .o 11 (.bin .add 0) [.k 1, .t 10],
 .m 12 0, .o 13 (.call 18 []) [.t 12, .k 6], .o 14 (.bin .add 0) [.k 1, .t 13], .o 15 (.build rz [(0, 1), (1, 1)]) [.t 11, .t 14], .o 5 (.alloc rz) [],
 .s (.store 3) [.t 5, .t 15]]) <| .seq (.seq (.reg [.f 16 0 5, .l 17 16, .f 18 1 5, .l 19 18, .o 20 (.bin .mul 0) [.t 17, .t 19], .o 21 (.bin .gtr 0) [.t 20,
 .k 24]]) <| .cond (.t 21) ( .reg [.f 22 0 5, .l 23 22, .o 24 (.bin .quo 0) [.k 24, .t 23], .f 25 1 5, .s (.store 1) [.t 25, .t 24]]) ( .skip)) <|
 .seq (.reg [.m 26 0, .o 27 (.call 18 []) [.t 26, .k 8], .o 28 (.bin .add 0) [.k 2, .t 27], .m 6 28]) <| .seq (.seq (.reg [.o 7 .mv [.k 0]]) <|
 .block 0 ( .loop [] [0, 1, 4, 5, 6, 7, 73] c_spec_l20Region_L0)) <| .seq (.seq (.reg [.m 47 0, .m 48 1, .o 49 (.call 21 []) [.t 47, .t 48]]) <|
 .cond (.t 49) ( .seq (.reg [.m 50 0, .o 51 (.call 18 []) [.t 50, .k 3]]) <| .block 2 ( .seq (.reg [.o 63 (.bin .eql 0) [.t 51, .k 0], .m 62 63]) <|
 .cond (.t 62) ( .reg [.f 64 2 5, .l 65 64, .o 66 (.bsl 1) [.kb true], .o 67 (.app 1 1 true) [.t 65, .t 66], .f 68 2 5, .s (.store 1) [.t 68,
 .t 67]]) ( .seq (.reg [.o 70 (.bin .eql 0) [.t 51, .k 1], .m 69 70]) <| .cond (.t 69) ( .seq (.reg [.o 71 (.build rz []) [], .s (.store 3) [.t 4, .t 71]]) <|
 .ret) ( .seq (.reg [.o 52 (.build rz [(0, 1), (1, 1)]) [.k 6, .k 6], .s (.store 3) [.t 5, .t 52]]) <| .seq (.reg [.o 8 .mv [.k 0]]) <| .block 3 ( .loop [] [4,
 5, 8, 73] c_spec_l20Region_L1))))) ( .skip)) <| .seq (.reg [.la 72 3 5, .s (.store 3) [.t 4, .t 72]]) <| .ret

theorem k_spec_l20Region : cFn Try.prog n_spec_l20Region 73 [.c 4 true 3] c_spec_l20Region := ⟨Try.f78, _, Try.func78, rfl, by kernel_rfl, by kernel_rfl, by kernel_rfl, by kernel_rfl⟩

-- 2 parameters, results [.c 4 true 3], 87 slots, modes [true, false]
@[simp] abbrev n_spec_l20Tiled : Nat := 79
abbrev c_spec_l20Tiled_L0_p0 : Plan := .al (.o 40 (.call 41 []) [.t 32, .t 33, .t 34, .t 39]) ( .take (.m 31 40) <| .take (.e 41 0 31) <| .take (.e 42 1 31) <| .take (.m 8 41) <| .take (.m 9 42) <| .done)
abbrev c_spec_l20Tiled_L0_p1 : Plan := .take (.o 38 (.iadr 1) [.t 35, .t 37]) <| .al (.l 39 38) c_spec_l20Tiled_L0_p0
abbrev c_spec_l20Tiled_L0_p2 : Plan := .take (.o 38 (.iadr 1) [.t 35, .t 37]) <| .alt (.la 32 3 5) ( .al (.l 39 38) c_spec_l20Tiled_L0_p0) <| .al (.l 39 38) ( .al (.la 32 3 5) c_spec_l20Tiled_L0_p0)
abbrev c_spec_l20Tiled_L0_p3 : Plan := .al (.o 35 (.bsl 1) [.k 1, .k 2, .k 3, .k 4]) c_spec_l20Tiled_L0_p1
abbrev c_spec_l20Tiled_L0_p4 : Plan := .al (.o 37 (.call 18 []) [.t 36, .k 4]) c_spec_l20Tiled_L0_p1
def c_spec_l20Tiled_L0 : ACode := .seq (.seq (.reg [.m 25 7, .m 26 6, .n 27 26, .o 28 (.bin .lss 0) [.t 25, .t 27]]) <| .cond (.t 28) ( .skip) ( .exit 0)) <|
 .seq (.block 1 ( .seq (.draw ( .take (.m 33 6) <| .take (.m 34 7) <| .take (.m 36 0) <| .alt (.la 32 3 5) ( .alt (.o 35 (.bsl 1) [.k 1, .k 2, .k 3,
 .k 4]) c_spec_l20Tiled_L0_p4 <| .al (.o 37 (.call 18 []) [.t 36,
 .k 4]) c_spec_l20Tiled_L0_p3) <| .alt (.o 35 (.bsl 1) [.k 1,
 .k 2, .k 3, .k 4]) ( .alt (.la 32 3 5) c_spec_l20Tiled_L0_p4 <| .al (.o 37 (.call 18 []) [.t 36, .k 4]) c_spec_l20Tiled_L0_p2) <| .al (.o 37 (.call 18 []) [.t 36,
 .k 4]) ( .alt (.la 32 3 5) c_spec_l20Tiled_L0_p3 <| .al (.o 35 (.bsl 1) [.k 1, .k 2, .k 3, .k 4]) c_spec_l20Tiled_L0_p2))) <| .seq (.reg [.m 43 9]) <|
 .cond (.t 43) ( .reg [.m 44 8, .m 6 44]) ( .skip))) <| .reg [.m 29 7, .o 30 (.bin .add 0) [.t 29, .k 1], .m 7 30]

def c_spec_l20Tiled_L1 : ACode := .seq (.seq (.reg [.m 51 11, .o 52 (.bin .leq 0) [.t 51, .k 2]]) <| .cond (.t 52) ( .skip) ( .exit 4)) <|
 .seq (.block 5 ( .seq (.reg [.la 56 3 5, .m 57 6, .m 58 10, .m 59 11, .o 60 (.call 41 []) [.t 56, .t 57, .t 58, .t 59], .m 55 60, .e 61 0 55, .e 62 1 55,
 .m 12 61, .m 13 62]) <| .seq (.reg [.m 63 13]) <| .cond (.t 63) ( .reg [.m 64 12, .m 6 64]) ( .skip))) <| .reg [.m 53 11, .o 54 (.bin .add 0) [.t 53, .k 1],
 .m 11 54]

def c_spec_l20Tiled_L2 : ACode := .seq (.seq (.reg [.m 45 10, .m 46 6, .n 47 46, .o 48 (.bin .lss 0) [.t 45, .t 47]]) <| .cond (.t 48) ( .skip) ( .exit 2)) <|
 .seq (.block 3 ( .seq (.reg [.o 11 .mv [.k 1]]) <| .block 4 ( .loop [(6, 1)] [4, 5, 6, 10, 11, 87] c_spec_l20Tiled_L1))) <| .reg [.m 49 10,
 .o 50 (.bin .add 0) [.t 49, .k 1], .m 10 50]

abbrev c_spec_l20Tiled_L3_p0 : Plan := .al (.o 84 (.app 1 1 true) [.t 77, .t 83]) ( .take (.f 85 2 14) <| .al (.s (.store 1) [.t 85, .t 84]) ( .done))
def c_spec_l20Tiled_L3 : ACode := .seq (.seq (.reg [.m 70 15, .m 71 6, .n 72 71, .o 73 (.bin .lss 0) [.t 70, .t 72]]) <| .cond (.t 73) ( .skip) ( .exit 6)) <|
 .seq (.block 7 ( .draw ( .take (.f 76 2 14) <| .take (.m 78 6) <| .take (.m 79 15) <| .take (.o 80 (.iadr 1) [.t 78, .t 79]) <|
 .alt (.l 77 76) ( .al (.l 81 80) ( .take (.o 82 (.bin .neq 0) [.t 81, .k 0]) <| .al (.o 83 (.bsl 1) [.t 82]) c_spec_l20Tiled_L3_p0)) <| .al (.l 81 80) ( .take (.o 82 (.bin .neq 0) [.t 81, .k 0]) <|
 .alt (.l 77 76) ( .al (.o 83 (.bsl 1) [.t 82]) c_spec_l20Tiled_L3_p0) <| .al (.o 83 (.bsl 1) [.t 82]) ( .al (.l 77 76) c_spec_l20Tiled_L3_p0))))) <| .reg [.m 74 15, .o 75 (.bin .add 0) [.t 74, .k 1], .m 15 75]

def c_spec_l20Tiled : ACode := .seq (.reg [.o 4 (.alloc rz) []]) <| .seq (.reg [.m 16 0, .m 17 1, .o 18 (.call 78 []) [.t 16, .t 17], .o 5 (.alloc rz) [],
 .s (.store 3) [.t 5, .t 18]]) <| .seq (.seq (.reg [.la 19 3 5, .o 20 (.call 54 []) [.t 19], .o 21 (.un .not) [.t 20]]) <|
 .cond (.t 21) ( .seq (.reg [.la 22 3 5, .s (.store 3) [.t 4, .t 22]]) <| .ret) ( .skip)) <| .seq (.reg [.la 23 3 5, .o 24 (.call 38 []) [.t 23], .m 6 24]) <|
 .seq (.seq (.reg [.o 7 .mv [.k 0]]) <| .block 0 ( .loop [(6, 1)] [0, 4, 5, 6, 7, 87] c_spec_l20Tiled_L0)) <| .seq (.seq (.reg [.o 10 .mv [.k 0]]) <|
 .block 2 ( .loop [(6, 1)] [4, 5, 6, 10, 87] c_spec_l20Tiled_L2)) <| .seq (.reg [.f 65 0 5, .l 66 65, .f 67 1 5, .l 68 67, .o 69 (.build rz [(0, 1), (1,
 1)]) [.t 66, .t 68], .o 14 (.alloc rz) [], .s (.store 3) [.t 14, .t 69]]) <| .seq (.seq (.reg [.o 15 .mv [.k 0]]) <| .block 6 ( .loop [(6, 1)] [4, 6, 14, 15,
 87] c_spec_l20Tiled_L3)) <| .seq (.reg [.la 86 3 14, .s (.store 3) [.t 4, .t 86]]) <| .ret

theorem k_spec_l20Tiled : cFn Try.prog n_spec_l20Tiled 87 [.c 4 true 3] c_spec_l20Tiled := ⟨Try.f79, _, Try.func79, rfl, by kernel_rfl, by kernel_rfl, by kernel_rfl, by kernel_rfl⟩

-- 2 parameters, results [.c 4 true 3], 28 slots, modes [true, false]
@[simp] abbrev n_spec_l20Some : Nat := 60

abbrev c_spec_l20Some_p0 : Plan := .al (.o 19 (.call 62 []) [.t 13, .t 18]) ( .al (.s (.store 3) [.t 4, .t 19]) ( .done))
abbrev c_spec_l20Some_p1 : Plan := .take (.o 17 (.iadr 1) [.t 14, .t 16]) <| .alt (.l 13 12) ( .al (.l 18 17) c_spec_l20Some_p0) <| .al (.l 18 17) ( .al (.l 13 12) c_spec_l20Some_p0)
abbrev c_spec_l20Some_p2 : Plan := .take (.o 17 (.iadr 1) [.t 14, .t 16]) <| .al (.l 18 17) c_spec_l20Some_p0
abbrev c_spec_l20Some_p3 : Plan := .take (.o 17 (.iadr 1) [.t 14, .t 16]) <| .alt (.o 9 (.bsl 1) [.k 2, .k 3, .k 4, .k 4, .k 6]) ( .take (.o 12 (.iadr 1) [.t 9, .t 11]) <| .alt (.l 13 12) ( .al (.l 18 17) c_spec_l20Some_p0) <| .al (.l 18 17) ( .al (.l 13 12) c_spec_l20Some_p0)) <| .al (.l 18 17) ( .al (.o 9 (.bsl 1) [.k 2, .k 3, .k 4, .k 4, .k 6]) ( .take (.o 12 (.iadr 1) [.t 9, .t 11]) <| .al (.l 13 12) c_spec_l20Some_p0))
abbrev c_spec_l20Some_p4 : Plan := .take (.o 12 (.iadr 1) [.t 9, .t 11]) <| .alt (.l 13 12) ( .alt (.o 14 (.bsl 1) [.k 2, .k 3, .k 4]) ( .al (.o 16 (.call 18 []) [.t 15, .k 3]) c_spec_l20Some_p2) <| .al (.o 16 (.call 18 []) [.t 15, .k 3]) ( .al (.o 14 (.bsl 1) [.k 2, .k 3, .k 4]) c_spec_l20Some_p2)) <| .alt (.o 14 (.bsl 1) [.k 2, .k 3, .k 4]) ( .alt (.l 13 12) ( .al (.o 16 (.call 18 []) [.t 15, .k 3]) c_spec_l20Some_p2) <| .al (.o 16 (.call 18 []) [.t 15, .k 3]) c_spec_l20Some_p1) <| .al (.o 16 (.call 18 []) [.t 15, .k 3]) ( .alt (.l 13 12) ( .al (.o 14 (.bsl 1) [.k 2, .k 3, .k 4]) c_spec_l20Some_p2) <| .al (.o 14 (.bsl 1) [.k 2, .k 3, .k 4]) c_spec_l20Some_p1)
abbrev c_spec_l20Some_p5 : Plan := .take (.o 12 (.iadr 1) [.t 9, .t 11]) <| .alt (.l 13 12) ( .al (.o 16 (.call 18 []) [.t 15, .k 3]) c_spec_l20Some_p2) <| .al (.o 16 (.call 18 []) [.t 15, .k 3]) c_spec_l20Some_p1
abbrev c_spec_l20Some_p6 : Plan := .alt (.o 9 (.bsl 1) [.k 2, .k 3, .k 4, .k 4, .k 6]) c_spec_l20Some_p5 <| .al (.o 16 (.call 18 []) [.t 15, .k 3]) c_spec_l20Some_p3
def c_spec_l20Some : ACode := .seq (.reg [.o 4 (.alloc rz) []]) <| .seq (.seq (.reg [.m 5 0, .o 6 (.call 18 []) [.t 5, .k 4]]) <|
 .block 0 ( .seq (.reg [.o 8 (.bin .eql 0) [.t 6, .k 0], .m 7 8]) <| .cond (.t 7) ( .seq (.draw ( .take (.m 10 0) <| .take (.m 15 0) <|
 .alt (.o 9 (.bsl 1) [.k 2, .k 3, .k 4, .k 4, .k 6]) ( .alt (.o 11 (.call 18 []) [.t 10, .k 5]) c_spec_l20Some_p4 <| .al (.o 14 (.bsl 1) [.k 2, .k 3, .k 4]) ( .al (.o 11 (.call 18 []) [.t 10,
 .k 5]) c_spec_l20Some_p5)) <|
 .alt (.o 11 (.call 18 []) [.t 10, .k 5]) ( .alt (.o 9 (.bsl 1) [.k 2, .k 3, .k 4, .k 4, .k 6]) c_spec_l20Some_p4 <| .alt (.o 14 (.bsl 1) [.k 2, .k 3, .k 4]) c_spec_l20Some_p6 <| .al (.o 16 (.call 18 []) [.t 15, .k 3]) ( .alt (.o 9 (.bsl 1) [.k 2, .k 3, .k 4, .k 4,
 .k 6]) ( .take (.o 12 (.iadr 1) [.t 9, .t 11]) <| .alt (.l 13 12) ( .al (.o 14 (.bsl 1) [.k 2, .k 3, .k 4]) c_spec_l20Some_p2) <| .al (.o 14 (.bsl 1) [.k 2, .k 3,
 .k 4]) c_spec_l20Some_p1) <|
 .al (.o 14 (.bsl 1) [.k 2, .k 3, .k 4]) c_spec_l20Some_p3)) <| .al (.o 14 (.bsl 1) [.k 2, .k 3, .k 4]) ( .alt (.o 9 (.bsl 1) [.k 2, .k 3, .k 4, .k 4,
 .k 6]) ( .al (.o 11 (.call 18 []) [.t 10, .k 5]) c_spec_l20Some_p5) <| .al (.o 11 (.call 18 []) [.t 10, .k 5]) c_spec_l20Some_p6))) <| .ret) ( .seq (.reg [.o 21 (.bin .eql 0) [.t 6, .k 1], .m 20 21]) <|
 .cond (.t 20) ( .seq (.reg [.m 22 0, .m 23 1, .o 24 (.call 78 []) [.t 22, .t 23], .s (.store 3) [.t 4, .t 24]]) <| .ret) ( .skip)))) <| .seq (.reg [.m 25 0,
 .m 26 1, .o 27 (.call 79 []) [.t 25, .t 26], .s (.store 3) [.t 4, .t 27]]) <| .ret

theorem k_spec_l20Some : cFn Try.prog n_spec_l20Some 28 [.c 4 true 3] c_spec_l20Some := ⟨Try.f60, _, Try.func60, rfl, by kernel_rfl, by kernel_rfl, by kernel_rfl, by kernel_rfl⟩

-- 2 parameters, results [.c 4 true 3], 29 slots, modes [true, false]
@[simp] abbrev n_spec_l20Small : Nat := 34
def c_spec_l20Small_T0 : ACode := .seq (.reg [.la 28 3 5, .s (.store 3) [.t 4, .t 28]]) <| .ret

abbrev c_spec_l20Small_p0 : Plan := .al (.o 27 (.call 62 []) [.t 21, .t 26]) ( .al (.s (.store 3) [.t 4, .t 27]) ( .done))
abbrev c_spec_l20Small_p1 : Plan := .take (.o 25 (.iadr 1) [.t 22, .t 24]) <| .alt (.l 21 20) ( .al (.l 26 25) c_spec_l20Small_p0) <| .al (.l 26 25) ( .al (.l 21 20) c_spec_l20Small_p0)
abbrev c_spec_l20Small_p2 : Plan := .take (.o 25 (.iadr 1) [.t 22, .t 24]) <| .al (.l 26 25) c_spec_l20Small_p0
abbrev c_spec_l20Small_p3 : Plan := .take (.o 25 (.iadr 1) [.t 22, .t 24]) <| .alt (.o 17 (.bsl 1) [.k 2, .k 4, .k 4, .k 5]) ( .take (.o 20 (.iadr 1) [.t 17, .t 19]) <| .alt (.l 21 20) ( .al (.l 26 25) c_spec_l20Small_p0) <| .al (.l 26 25) ( .al (.l 21 20) c_spec_l20Small_p0)) <| .al (.l 26 25) ( .al (.o 17 (.bsl 1) [.k 2, .k 4, .k 4, .k 5]) ( .take (.o 20 (.iadr 1) [.t 17, .t 19]) <| .al (.l 21 20) c_spec_l20Small_p0))
abbrev c_spec_l20Small_p4 : Plan := .take (.o 20 (.iadr 1) [.t 17, .t 19]) <| .alt (.l 21 20) ( .alt (.o 22 (.bsl 1) [.k 2, .k 3]) ( .al (.o 24 (.call 18 []) [.t 23, .k 2]) c_spec_l20Small_p2) <| .al (.o 24 (.call 18 []) [.t 23, .k 2]) ( .al (.o 22 (.bsl 1) [.k 2, .k 3]) c_spec_l20Small_p2)) <| .alt (.o 22 (.bsl 1) [.k 2, .k 3]) ( .alt (.l 21 20) ( .al (.o 24 (.call 18 []) [.t 23, .k 2]) c_spec_l20Small_p2) <| .al (.o 24 (.call 18 []) [.t 23, .k 2]) c_spec_l20Small_p1) <| .al (.o 24 (.call 18 []) [.t 23, .k 2]) ( .alt (.l 21 20) ( .al (.o 22 (.bsl 1) [.k 2, .k 3]) c_spec_l20Small_p2) <| .al (.o 22 (.bsl 1) [.k 2, .k 3]) c_spec_l20Small_p1)
abbrev c_spec_l20Small_p5 : Plan := .take (.o 20 (.iadr 1) [.t 17, .t 19]) <| .alt (.l 21 20) ( .al (.o 24 (.call 18 []) [.t 23, .k 2]) c_spec_l20Small_p2) <| .al (.o 24 (.call 18 []) [.t 23, .k 2]) c_spec_l20Small_p1
abbrev c_spec_l20Small_p6 : Plan := .alt (.o 17 (.bsl 1) [.k 2, .k 4, .k 4, .k 5]) c_spec_l20Small_p5 <| .al (.o 24 (.call 18 []) [.t 23, .k 2]) c_spec_l20Small_p3
def c_spec_l20Small : ACode := .seq (.reg [.o 4 (.alloc rz) []]) <| .seq (.reg [.m 6 0, .m 7 1, .o 8 (.call 60 []) [.t 6, .t 7], .o 5 (.alloc rz) [],
 .s (.store 3) [.t 5, .t 8]]) <| .seq (.seq (.reg [.la 9 3 5, .o 10 (.call 61 []) [.t 9], .o 11 (.bin .gtr 0) [.t 10, .k 16], .m 12 11, .mg 13 0 12 true,
 .g 14 (.call 18 []) [.t 13, .k 12] 12 true, .g 15 (.bin .gtr 0) [.t 14, .k 0] 12 true, .o 16 .pick [.t 12, .t 15, .kb false]]) <|
 .cond (.t 16) ( .seq (.draw ( .take (.m 18 0) <| .take (.m 23 0) <| .alt (.o 17 (.bsl 1) [.k 2, .k 4, .k 4, .k 5]) ( .alt (.o 19 (.call 18 []) [.t 18,
 .k 4]) c_spec_l20Small_p4 <| .al (.o 22 (.bsl 1) [.k 2,
 .k 3]) ( .al (.o 19 (.call 18 []) [.t 18, .k 4]) c_spec_l20Small_p5)) <| .alt (.o 19 (.call 18 []) [.t 18, .k 4]) ( .alt (.o 17 (.bsl 1) [.k 2, .k 4, .k 4,
 .k 5]) c_spec_l20Small_p4 <| .alt (.o 22 (.bsl 1) [.k 2,
 .k 3]) c_spec_l20Small_p6 <| .al (.o 24 (.call 18 []) [.t 23,
 .k 2]) ( .alt (.o 17 (.bsl 1) [.k 2, .k 4, .k 4, .k 5]) ( .take (.o 20 (.iadr 1) [.t 17, .t 19]) <| .alt (.l 21 20) ( .al (.o 22 (.bsl 1) [.k 2,
 .k 3]) c_spec_l20Small_p2) <|
 .al (.o 22 (.bsl 1) [.k 2, .k 3]) c_spec_l20Small_p1) <| .al (.o 22 (.bsl 1) [.k 2, .k 3]) c_spec_l20Small_p3)) <| .al (.o 22 (.bsl 1) [.k 2,
 .k 3]) ( .alt (.o 17 (.bsl 1) [.k 2, .k 4, .k 4, .k 5]) ( .al (.o 19 (.call 18 []) [.t 18, .k 4]) c_spec_l20Small_p5) <|
 .al (.o 19 (.call 18 []) [.t 18, .k 4]) c_spec_l20Small_p6))) <| .ret) ( .skip)) <| .gc [] [4, 5, 29] c_spec_l20Small_T0

theorem k_spec_l20Small : cFn Try.prog n_spec_l20Small 29 [.c 4 true 3] c_spec_l20Small := ⟨Try.f34, _, Try.func34, rfl, by kernel_rfl, by kernel_rfl, by kernel_rfl, by kernel_rfl⟩

-- 2 parameters, results [.c 4 true 3, .t 5], 87 slots, modes [true, false]
@[simp] abbrev n_spec_l20Puzzle : Nat := 16
def c_spec_l20Puzzle_L0 : ACode := .seq (.seq (.reg [.m 43 11, .f 44 2 6, .l 45 44, .n 46 45, .o 47 (.bin .lss 0) [.t 43, .t 46]]) <|
 .cond (.t 47) ( .skip) ( .exit 0)) <| .seq (.block 1 ( .seq (.reg [.f 50 2 6, .l 51 50, .m 52 11, .o 53 (.iadr 1) [.t 51, .t 52], .l 54 53]) <|
 .cond (.t 54) ( .reg [.m 55 9, .m 56 0, .m 57 10, .o 58 (.mnx true) [.t 57, .k 7], .o 59 (.call 18 []) [.t 56, .t 58], .o 60 (.bsl 1) [.t 59],
 .o 61 (.app 1 8 true) [.t 55, .t 60], .m 9 61]) ( .reg [.m 62 9, .o 63 (.bsl 1) [.k (-1)], .o 64 (.app 1 8 true) [.t 62, .t 63], .m 9 64]))) <| .reg [.m 48 11,
 .o 49 (.bin .add 0) [.t 48, .k 1], .m 11 49]

def c_spec_l20Puzzle_T1 : ACode := .seq (.seq (.reg [.m 32 8, .o 33 (.un .not) [.t 32], .m 34 33, .mg 35 0 34 false, .g 36 (.call 18 []) [.t 35, .k 3] 34 false,
 .g 37 (.bin .eql 0) [.t 36, .k 0] 34 false, .o 38 .pick [.t 34, .kb true, .t 37]]) <| .cond (.t 38) ( .seq (.reg [.o 39 (.bsl 1) [], .m 9 39]) <|
 .seq (.reg [.m 40 0, .o 41 (.call 18 []) [.t 40, .k 6], .o 42 (.bin .add 0) [.k 2, .t 41], .m 10 42]) <| .seq (.reg [.o 11 .mv [.k 0]]) <| .block 0 ( .loop [(9,
 1)] [0, 1, 4, 6, 9, 10, 11, 87] c_spec_l20Puzzle_L0)) ( .skip)) <| .seq (.seq (.reg [.m 65 0, .m 66 1, .o 67 (.bin .mul 0) [.k 2, .t 66],
 .o 68 (.call 21 []) [.t 65, .t 67], .m 69 68, .mg 70 9 69 true, .g 71 (.len false) [.t 70] 69 true, .g 72 (.bin .gtr 0) [.t 71, .k 0] 69 true,
 .o 73 .pick [.t 69, .t 72, .kb false]]) <| .cond (.t 73) ( .reg [.m 74 9, .m 75 0, .m 76 9, .n 77 76, .o 78 (.call 18 []) [.t 75, .t 77],
 .o 79 (.bsl 1) [.k (-1), .k 7, .k 0], .m 80 0, .o 81 (.call 18 []) [.t 80, .k 3], .o 82 (.iadr 1) [.t 79, .t 81], .l 83 82, .o 84 (.iadr 1) [.t 74, .t 78],
 .s (.store 1) [.t 84, .t 83]]) ( .skip)) <| .seq (.reg [.la 85 3 6, .m 86 9, .s (.store 3) [.t 4, .t 85], .m 5 86]) <| .ret

abbrev c_spec_l20Puzzle_T2_p0 : Plan := .al (.o 31 (.call 37 []) [.t 27, .t 28, .t 30]) ( .take (.m 9 31) <| .done)
def c_spec_l20Puzzle_T2 : ACode := .seq (.draw ( .take (.m 28 7) <| .take (.m 29 0) <| .alt (.la 27 3 6) ( .al (.o 30 (.call 18 []) [.t 29,
 .k 28]) c_spec_l20Puzzle_T2_p0) <| .al (.o 30 (.call 18 []) [.t 29,
 .k 28]) ( .al (.la 27 3 6) c_spec_l20Puzzle_T2_p0))) <| .gc [] [0, 1, 4, 6, 8, 9,
 87] c_spec_l20Puzzle_T1

abbrev c_spec_l20Puzzle_p0 : Plan := .al (.o 21 (.call 36 []) [.t 20]) ( .take (.o 22 (.mnx false) [.t 21, .k 1]) <| .take (.o 23 (.bin .rem 0) [.t 19, .t 22]) <| .al (.o 24 (.call 35 []) [.t 17, .t 23]) ( .take (.m 16 24) <| .take (.e 25 0 16) <| .take (.e 26 1 16) <| .take (.m 7 25) <| .take (.m 8 26) <| .done))
abbrev c_spec_l20Puzzle_p1 : Plan := .alt (.la 17 3 6) c_spec_l20Puzzle_p0 <| .al (.o 21 (.call 36 []) [.t 20]) ( .take (.o 22 (.mnx false) [.t 21, .k 1]) <| .take (.o 23 (.bin .rem 0) [.t 19, .t 22]) <| .al (.la 17 3 6) ( .al (.o 24 (.call 35 []) [.t 17, .t 23]) ( .take (.m 16 24) <| .take (.e 25 0 16) <| .take (.e 26 1 16) <| .take (.m 7 25) <| .take (.m 8 26) <| .done)))
abbrev c_spec_l20Puzzle_p2 : Plan := .al (.o 19 (.call 18 []) [.t 18, .k 256]) c_spec_l20Puzzle_p0
def c_spec_l20Puzzle : ACode := .seq (.reg [.o 4 (.alloc rz) [], .o 5 .mv [.c (.os 1 [])]]) <| .seq (.reg [.m 12 0, .m 13 1, .o 14 (.bin .mul 0) [.k 2, .t 13],
 .o 15 (.call 34 []) [.t 12, .t 14], .o 6 (.alloc rz) [], .s (.store 3) [.t 6, .t 15]]) <| .seq (.draw ( .take (.m 18 0) <|
 .alt (.la 17 3 6) ( .alt (.o 19 (.call 18 []) [.t 18, .k 256]) ( .al (.la 20 3 6) c_spec_l20Puzzle_p0) <| .al (.la 20 3 6) c_spec_l20Puzzle_p2) <|
 .alt (.o 19 (.call 18 []) [.t 18, .k 256]) ( .alt (.la 17 3 6) ( .al (.la 20 3 6) c_spec_l20Puzzle_p0) <|
 .al (.la 20 3 6) c_spec_l20Puzzle_p1) <| .al (.la 20 3 6) ( .alt (.la 17 3 6) c_spec_l20Puzzle_p2 <|
 .al (.o 19 (.call 18 []) [.t 18, .k 256]) c_spec_l20Puzzle_p1))) <| .gc [] [0, 1, 4, 6, 7, 8, 87] c_spec_l20Puzzle_T2

theorem k_spec_l20Puzzle : cFn Try.prog n_spec_l20Puzzle 87 [.c 4 true 3, .t 5] c_spec_l20Puzzle := ⟨Try.f16, _, Try.func16, rfl, by kernel_rfl, by kernel_rfl, by kernel_rfl, by kernel_rfl⟩

end Go.Proofs.Dev

namespace Go.Proofs.Dev

end Go.Proofs.Dev

namespace Go.Proofs.Dev

-- 1 parameters, results [.c 2 true 6], 6 slots, modes [false]
@[simp] abbrev n_spec_DrawBookValid : Nat := 4

def c_spec_DrawBookValid : ACode := .seq (.reg [.o 2 (.alloc bz) []]) <| .seq (.reg [.m 3 0, .o 4 (.call 9 []) [.t 3], .o 5 (.call 8 []) [.t 4, .k 2],
 .s (.store 6) [.t 2, .t 5]]) <| .ret

theorem k_spec_DrawBookValid : cFn Try.prog n_spec_DrawBookValid 6 [.c 2 true 6] c_spec_DrawBookValid := ⟨Try.f4, _, Try.func4, rfl, by kernel_rfl, by kernel_rfl, by kernel_rfl, by kernel_rfl⟩

-- 1 parameters, results [.t 2], 43 slots, modes [false]
@[simp] abbrev n_laws_FnBookValid : Nat := 3

def c_laws_FnBookValid : ACode := .seq (.reg [.o 2 .mv [.kb false]]) <| .seq (.seq (.reg [.m 7 0, .n 8 7, .o 9 (.bin .gtr 0) [.t 8, .k 1048576]]) <|
 .cond (.t 9) ( .seq (.reg [.o 2 .mv [.kb true]]) <| .ret) ( .skip)) <| .seq (.reg [.m 10 0, .o 11 (.call 4 []) [.t 10], .o 3 (.alloc bz) [],
 .s (.store 6) [.t 3, .t 11]]) <| .seq (.reg [.la 12 6 3, .o 13 (.call 5 []) [.t 12], .m 4 13]) <| .seq (.seq (.reg [.m 14 4, .la 15 6 3,
 .o 16 (.call 6 []) [.t 15], .o 17 (.bin .neq 2) [.t 14, .t 16]]) <| .cond (.t 17) ( .seq (.reg [.o 2 .mv [.kb false]]) <| .ret) ( .skip)) <|
 .seq (.reg [.la 18 6 3, .o 5 (.alloc bz) [], .s (.store 6) [.t 5, .t 18]]) <| .seq (.reg [.f 19 5 5, .s (.store 1) [.t 19, .c (.os 1 [])]]) <|
 .seq (.reg [.la 20 6 3, .o 6 (.alloc bz) [], .s (.store 6) [.t 6, .t 20]]) <| .seq (.reg [.o 21 (.bsl 1) [], .f 22 5 3, .l 23 22,
 .o 24 (.app 1 24 false) [.t 21, .t 23], .o 25 (.bsl 1) [.k 7], .o 26 (.bsl 1) [.t 25], .o 27 (.app 1 24 false) [.t 24, .t 26], .f 28 5 6, .s (.store 1) [.t 28,
 .t 27]]) <| .seq (.reg [.m 29 4, .o 30 (.un .not) [.t 29], .m 31 30, .g 32 (.load true 6) [.t 5] 31 false, .g 33 (.call 5 []) [.t 32] 31 false,
 .o 34 .pick [.t 31, .kb true, .t 33], .m 35 34, .g 36 (.load true 6) [.t 6] 35 true, .g 37 (.call 5 []) [.t 36] 35 true, .g 38 (.un .not) [.t 37] 35 true,
 .o 39 .pick [.t 35, .t 38, .kb false], .m 40 39, .g 41 (.call 7 []) [] 40 true, .o 42 .pick [.t 40, .t 41, .kb false], .m 2 42]) <| .ret

theorem k_laws_FnBookValid : cFn Try.prog n_laws_FnBookValid 43 [.t 2] c_laws_FnBookValid := ⟨Try.f3, _, Try.func3, rfl, by kernel_rfl, by kernel_rfl, by kernel_rfl, by kernel_rfl⟩

end Go.Proofs.Dev

namespace Go.Proofs.Dev
set_option linter.unusedSimpArgs false
set_option maxRecDepth 100000

@[simp] def md0 (f : Nat) : List Bool := if f = 999999 ∨ f = 999999 ∨ f = 999999 ∨ f = 999999 ∨ f = 999999 then [true, false] else if f = 74 ∨ f = 999999 ∨ f = 999999 ∨ f = 51 ∨ f = 52 then [true] else []

theorem s_slices_Clip_int_int (xs : List Int) : SoundAt Try.prog n_slices_Clip_int_int [.os 1 (ints xs)] (.os 1 (ints xs)) [.bot] := by
  refine fn_ok (md := md0) (ms := [false]) k_slices_Clip_int_int (by simp) ?_
  simp [c_slices_Clip_int_int]

def marksB (n : Nat) (k : Int) : List Bool := (List.range n).map fun (j : Nat) => (k + j) % 3 == 0
def marksI (n : Nat) (k : Int) : List Int := (List.range n).map fun (j : Nat) => k + j

@[simp] theorem marksI_length (n : Nat) (k : Int) : (marksI n k).length = n := by simp [marksI]
@[simp] theorem marksB_length (n : Nat) (k : Int) : (marksB n k).length = n := by simp [marksB]

@[simp] theorem take_marksI (n : Nat) (k : Int) : (ints (marksI n k)).take n = ints (marksI n k) := by
  have := take_ints_all (marksI n k)
  rwa [marksI_length] at this
@[simp] theorem take_marksB (n : Nat) (k : Int) : (bools (marksB n k)).take n = bools (marksB n k) := by
  have := take_bools_all (marksB n k)
  rwa [marksB_length] at this

end Go.Proofs.Dev

namespace Go.Proofs.Dev
set_option linter.unusedSimpArgs false
set_option maxRecDepth 100000

theorem s_spec_l1In (x lo hi : Int) : SoundAt Try.prog n_spec_l1In [.v (.int .i64 x), .v (.int .i64 lo), .v (.int .i64 hi)] (.v (.bool (decide (lo ≤ x ∧ x ≤ hi)))) [.bot, .bot, .bot] := by
  refine fn_ok (md := md0) (ms := [false, false, false]) k_spec_l1In (by simp) ?_
  simp [c_spec_l1In]
  constructor
  · intro h; simp [h]
  · intro h; omega

theorem s_spec_l1Count (bs : List Bool) (hb : bs.length < 2 ^ 40) : SoundAt Try.prog n_spec_l1Count [.sl 1 1 (bools bs)] (.v (.int .i64 (manyOf bs))) [.bot] := by
  refine fn_ok (md := md0) (ms := [false]) k_spec_l1Count (by simp) ?_
  simp [c_spec_l1Count]
  refine loop_by (fun m E H => ∃ i : Nat, m = bs.length - i ∧ i ≤ bs.length ∧ H = [] ∧ E = [(0, .sl 1 1 (bools bs)), (3, .v (.int .i64 (manyOf (bs.take i)))), (4, .v (.int .i64 i))]) bs.length ⟨0, by simp [manyOf]⟩ ?_
  rintro J hJ m E H ⟨i, rfl, hi, rfl, rfl⟩
  simp [c_spec_l1Count_L0]
  refine ⟨fun h => ?_, fun h => ?_⟩
  · have e := manyOf_take bs i h
    have e3 := manyOf_le (bs.take i)
    rw [List.length_take] at e3
    simp [h]
    refine ⟨fun hb => ⟨by omega, by omega, _, by omega, hJ _ _ _ ⟨i + 1, rfl, h, rfl, ?_⟩⟩, fun hb => ⟨by omega, _, by omega, hJ _ _ _ ⟨i + 1, rfl, h, rfl, ?_⟩⟩⟩ <;> simp [e, hb]
  · have : i = bs.length := by omega
    subst this
    simp

theorem s_spec_RegionValid (W T : Int) (cs : List Bool) (hb : cs.length < 2 ^ 40) : SoundAt Try.prog n_spec_RegionValid [.agg [.v (.int .i64 W), .v (.int .i64 T), .sl 1 1 (bools cs)]] (.v (.bool (regB W T cs))) [.bot] := by
  refine fn_ok (md := md0) (ms := [false]) k_spec_RegionValid (by simp) ?_
  simp [c_spec_RegionValid]
  refine call_on (s_spec_l1In W 1 6) ?_
  simp
  refine ⟨fun h h' => ?_, fun h => ?_⟩
  · refine call_on (s_spec_l1In T 1 6) ?_
    have hx : T ≤ 6 → W * T ≤ 36 ∧ (1 ≤ T → 1 ≤ W * T) := fun ht => ⟨(by
      by_cases h0 : 0 ≤ T
      · exact Int.mul_le_mul h' ht h0 (by omega)
      · have : W * T ≤ 0 := Int.mul_nonpos_of_nonneg_of_nonpos (by omega) (by omega)
        omega), fun h1 => Int.mul_pos (by omega) (by omega)⟩
    simp
    refine ⟨fun h1 h2 => ⟨by have := hx h2; omega, fun h3 => ?_, fun h3 => ?_⟩, fun h1 => ?_⟩
    · refine call_on (s_spec_l1Count cs hb) ?_
      simp [regB, h, h', h1, h2, h3]
      omega
    · simp [regB]; omega
    · simp [regB]; omega
  · simp [regB]; omega

theorem s_spec_l2Back (n : Int) (h : 0 ≤ n) (h2 : n < 2 ^ 60) : SoundAt Try.prog n_spec_l2Back [.v (.int .i64 n)] (.v (.int .i64 (backI n))) [.bot] := by
  refine fn_ok (md := md0) (ms := [false]) k_spec_l2Back (by simp) ?_
  simp [c_spec_l2Back, backI]
  omega

theorem s_spec_PairOf (a b : Int) (h1 : 0 ≤ a ∧ a ≤ 6) (h2 : 0 ≤ b ∧ b ≤ 6) : SoundAt Try.prog n_spec_PairOf [.v (.int .i64 a), .v (.int .i64 b)] (.v (.int .i64 (pairI a b))) [.bot, .bot] := by
  refine fn_ok (md := md0) (ms := [false, false]) k_spec_PairOf (by simp) ?_
  simp [c_spec_PairOf]
  refine call_on (s_spec_l1In a 0 6) ?_
  simp [h1]
  refine call_on (s_spec_l1In b 0 6) ?_
  simp [h2, pairI]
  rw [Int.min_def, Int.max_def]
  (repeat' split) <;> omega

theorem s_spec_l2Step (W T : Int) (cs : List Bool) (k way : Int) (hr : regB W T cs = true) (h0 : 0 ≤ k) (h1 : k < cs.length) :
    SoundAt Try.prog n_spec_l2Step [.agg [.v (.int .i64 W), .v (.int .i64 T), .sl 1 1 (bools cs)], .v (.int .i64 k), .v (.int .i64 way)] (.v (.int .i64 (stepI W T k way))) [.bot, .bot, .bot] := by
  refine fn_ok (md := md0) (ms := [false, false, false]) k_spec_l2Step (by simp) ?_
  obtain ⟨w1, w2, t1, t2, l1, _⟩ := regB_W hr
  have hl := regB_len hr
  have hxy := cell_xy (T := T) (k := k) w1 h0 (by omega)
  have e1 : stepI W T k way = if way = 1 ∧ k % W < W - 1 then k + 1 else if way = 2 ∧ k / W < T - 1 then k + W else if way = 3 ∧ 0 < k % W then k - 1 else if way = 4 ∧ 0 < k / W then k - W else -1 := rfl
  rw [e1]
  clear e1 hr
  generalize hA : k % W = A at *
  generalize hB : k / W = B at *
  by_cases c1 : way = 1
  · subst c1; simp [c_spec_l2Step, hA, hB]; omega
  by_cases c2 : way = 2
  · subst c2; simp [c_spec_l2Step, hA, hB]; omega
  by_cases c3 : way = 3
  · subst c3; simp [c_spec_l2Step, hA, hB]; omega
  by_cases c4 : way = 4
  · subst c4; simp [c_spec_l2Step, hA, hB]; omega
  simp [c_spec_l2Step, c1, c2, c3, c4]

end Go.Proofs.Dev

namespace Go.Proofs.Dev
set_option linter.unusedSimpArgs false
set_option maxRecDepth 100000

theorem s_spec_PuzzleValid (W T : Int) (cs : List Bool) (ds : List Int) (hb : cs.length < 2 ^ 40) (hd : ds.length < 2 ^ 40) :
    SoundAt Try.prog n_spec_PuzzleValid [.agg [.v (.int .i64 W), .v (.int .i64 T), .sl 1 1 (bools cs)], .sl 1 1 (ints ds)] (.v (.bool (regB W T cs && digsB cs ds))) [.bot, .bot] := by
  refine fn_ok (md := md0) (ms := [false, false]) k_spec_PuzzleValid (by simp) ?_
  simp [c_spec_PuzzleValid]
  refine call_on (s_spec_RegionValid W T cs hb) ?_
  simp
  refine ⟨fun hr => ⟨fun hl => ?_, fun hl => ?_⟩, fun hr => ?_⟩
  · intro _
    simp [digsB]; omega
  · have hl' : ds.length = cs.length := by omega
    refine loop_by (fun m E H => ∃ i : Nat, m = ds.length - i ∧ i ≤ ds.length ∧ allB i (fun k => digAt cs ds k) = true ∧ H = [some (.box [.v (.int .i64 W), .v (.int .i64 T), .sl 1 1 (bools cs)])] ∧ E = [(1, .sl 1 1 (ints ds)), (2, .lp 0 0 0 0), (5, .v (.int .i64 i))]) ds.length ⟨0, by simp [allB_zero]⟩ ?_
    rintro J hJ m E H ⟨i, rfl, hi, ha, rfl, rfl⟩
    by_cases h : i < ds.length
    · have h2 : i < cs.length := by omega
      have next : digAt cs ds i = true → again J (ds.length - i) [(1, .sl 1 1 (ints ds)), (2, .lp 0 0 0 0), (5, .v (.int .i64 (i + 1)))] [some (.box [.v (.int .i64 W), .v (.int .i64 T), .sl 1 1 (bools cs)])] :=
        fun hd => ⟨_, by omega, hJ _ _ _ ⟨i + 1, rfl, h, by rw [allB_succ, ha, hd]; rfl, rfl, rfl⟩⟩
      have stop : digAt cs ds i = false → digsB cs ds = false := fun hd => by simp only [digsB, hl', decide_true, Bool.true_and]; exact allB_false h2 hd
      cases hc : atb cs i with
      | true =>
        simp [c_spec_PuzzleValid_L0, h, h2, hc]
        refine call_on (s_spec_l1In (ati ds i) 0 6) ?_
        simp [digAt, hc] at next stop ⊢
        (repeat' first | assumption | omega | apply And.intro | intro _) <;> first | omega | exact stop (by omega) | exact next (by omega) (by omega)
      | false =>
        simp [c_spec_PuzzleValid_L0, h, h2, hc]
        simp [digAt, hc] at next stop ⊢
        exact ⟨fun hx => fun _ => stop hx, fun hx => ⟨by omega, next hx⟩⟩
    · have : i = ds.length := by omega
      subst this
      simp [c_spec_PuzzleValid_L0]
      simp [digsB, hr, hl'] at ha ⊢
      exact ha
  · simp [hr]

end Go.Proofs.Dev

namespace Go.Proofs.Dev
set_option linter.unusedSimpArgs false
set_option maxRecDepth 100000

theorem s_spec_LaidOk (W T : Int) (cs : List Bool) (ls : List Int) (hb : cs.length < 2 ^ 40) (hd : ls.length < 2 ^ 40) :
    SoundAt Try.prog n_spec_LaidOk [.agg [.v (.int .i64 W), .v (.int .i64 T), .sl 1 1 (bools cs)], .sl 1 1 (ints ls)] (.v (.bool (regB W T cs && laysB W T cs ls))) [.bot, .bot] := by
  refine fn_ok (md := md0) (ms := [false, false]) k_spec_LaidOk (by simp) ?_
  simp [c_spec_LaidOk]
  refine call_on (s_spec_RegionValid W T cs hb) ?_
  simp
  refine ⟨fun hr => ⟨fun hl => ?_, fun hl => ?_⟩, fun hr => ?_⟩
  · intro _
    simp [laysB]; omega
  · have hl' : ls.length = cs.length := by omega
    obtain ⟨w1, w2, t1, t2, l1, _⟩ := regB_W hr
    refine loop_by (fun m E H => ∃ i : Nat, m = ls.length - i ∧ i ≤ ls.length ∧ allB i (fun k => layAt W T cs ls k) = true ∧ H = [some (.box [.v (.int .i64 W), .v (.int .i64 T), .sl 1 1 (bools cs)])] ∧ E = [(1, .sl 1 1 (ints ls)), (2, .lp 0 0 0 0), (5, .v (.int .i64 i))]) ls.length ⟨0, by simp [allB_zero]⟩ ?_
    rintro J hJ m E H ⟨i, rfl, hi, ha, rfl, rfl⟩
    by_cases h : i < ls.length
    · have h2 : i < cs.length := by omega
      have next : layAt W T cs ls i = true → again J (ls.length - i) [(1, .sl 1 1 (ints ls)), (2, .lp 0 0 0 0), (5, .v (.int .i64 (i + 1)))] [some (.box [.v (.int .i64 W), .v (.int .i64 T), .sl 1 1 (bools cs)])] :=
        fun hd => ⟨_, by omega, hJ _ _ _ ⟨i + 1, rfl, h, by rw [allB_succ, ha, hd]; rfl, rfl, rfl⟩⟩
      have stop : layAt W T cs ls i = false → (regB W T cs && laysB W T cs ls) = false := fun hd => by rw [hr, Bool.true_and]; simp only [laysB, hl', decide_true, Bool.true_and]; exact allB_false h2 hd
      by_cases z : ati ls i = 0
      · simp [c_spec_LaidOk_L0, h, h2, z]
        exact ⟨by omega, next (by simp [layAt, z])⟩
      by_cases rg : 1 ≤ ati ls i ∧ ati ls i ≤ 4
      case neg =>
        simp [c_spec_LaidOk_L0, h, h2, z]
        refine call_on (s_spec_l1In (ati ls i) 1 4) ?_
        have hs := stop (by simp [layAt, z]; omega)
        have hx : (decide (1 ≤ ati ls i) && decide (ati ls i ≤ 4)) = false := by simp; omega
        simp [hx, hs]
      cases hc : atb cs i with
      | false =>
        simp [c_spec_LaidOk_L0, h, h2, z]
        refine call_on (s_spec_l1In (ati ls i) 1 4) ?_
        have hs := stop (by simp [layAt, z, hc])
        simp [rg, hs, hc, h2]
      | true =>
        have hst := stepI_range (T := T) (k := i) (way := ati ls i) w1 (by omega) (by omega)
        have one : SoundAt Try.prog n_spec_l2Step [.agg [.v (.int .i64 W), .v (.int .i64 T), .sl 1 1 (bools cs)], .v (.int .i64 i), .v (.int .i64 (ati ls i))] (.v (.int .i64 (stepI W T i (ati ls i)))) [.bot, .bot, .bot] := s_spec_l2Step W T cs i (ati ls i) hr (by omega) (by omega)
        have two := s_spec_l2Back (ati ls i) (by omega) (by omega)
        simp [layAt, z, rg, hc] at next stop
        generalize hto : stepI W T i (ati ls i) = to at *
        simp [c_spec_LaidOk_L0, h, h2, z]
        refine call_on (s_spec_l1In (ati ls i) 1 4) ?_
        simp [rg, hc, h2]
        rcases hst with hst | ⟨hst, hst2, -, -⟩
        · subst hst
          have hs := stop (by omega) hr
          (repeat' first | assumption | omega | apply And.intro | intro _) <;> first
            | assumption
            | (refine call_on one ?_; simp [hs])
        · have e1 : ¬ to < 0 := by omega
          have e2 : to < cs.length := by omega
          have e3 : to < ls.length := by omega
          cases hct : atb cs to with
          | false =>
            have hs := stop (by simp [hct]) hr
            (repeat' first | assumption | omega | apply And.intro | intro _) <;> first
              | assumption
              | (refine call_on one ?_; simp [hs, e1, e2, e3, hst, hct])
          | true =>
            simp [hst, hct] at next stop
            (repeat' first | assumption | omega | apply And.intro | intro _) <;> first
              | assumption
              | (refine call_on one ?_
                 simp [e1, e2, e3, hst, hct, h]
                 (repeat' first | assumption | omega | apply And.intro | intro _) <;> first
                  | assumption
                  | (refine call_on two ?_
                     simp [e1, e2, e3, hst, hct, h]
                     (repeat' first | assumption | omega | apply And.intro | intro _) <;> first
                      | assumption
                      | omega
                      | exact next (by assumption)
                      | exact stop (by assumption) (by assumption)))
    · have : i = ls.length := by omega
      subst this
      simp [c_spec_LaidOk_L0]
      simp [laysB, hr, hl'] at ha ⊢
      exact ha
  · simp [hr]

end Go.Proofs.Dev

namespace Go.Proofs.Dev
set_option linter.unusedSimpArgs false
set_option maxRecDepth 100000

/-- A puzzle and its dominoes are in order. -/
def okB (W T : Int) (cs : List Bool) (ds ls : List Int) : Bool := regB W T cs && (digsB cs ds && laysB W T cs ls)

theorem okB_W {W T : Int} {cs : List Bool} {ds ls : List Int} (h : okB W T cs ds ls = true) : regB W T cs = true ∧ ds.length = cs.length ∧ ls.length = cs.length ∧
    ∀ k : Nat, k < cs.length → digAt cs ds k = true ∧ layAt W T cs ls k = true := by
  simp only [okB, digsB, laysB, Bool.and_eq_true, decide_eq_true_eq, allB_iff] at h
  obtain ⟨h1, ⟨h2, h3⟩, h4, h5⟩ := h
  exact ⟨h1, h2, h4, fun k hk => ⟨h3 k (by omega), h5 k (by omega)⟩⟩

/-- What a first cell of a domino knows. -/
theorem okB_first {W T : Int} {cs : List Bool} {ds ls : List Int} (h : okB W T cs ds ls = true) {k : Nat} (hk : k < cs.length) (hw : ati ls k = 1 ∨ ati ls k = 2) :
    0 ≤ stepI W T k (ati ls k) ∧ stepI W T k (ati ls k) < cs.length ∧ (0 ≤ ati ds k ∧ ati ds k ≤ 6) ∧ (0 ≤ ati ds (stepI W T k (ati ls k)) ∧ ati ds (stepI W T k (ati ls k)) ≤ 6) := by
  obtain ⟨hr, h1, h2, h3⟩ := okB_W h
  obtain ⟨w1, w2, t1, t2, l1, _⟩ := regB_W hr
  obtain ⟨d1, p1⟩ := h3 k hk
  have hst := stepI_range (T := T) (k := k) (way := ati ls k) w1 (by omega) (by omega)
  simp only [layAt, decide_eq_true_eq] at p1
  rcases p1 with p1 | ⟨_, _, pc, p0, pt, _⟩
  · omega
  generalize hto : stepI W T k (ati ls k) = to at *
  have d2 := (h3 to.toNat (by omega)).1
  rw [show ((to.toNat : Nat) : Int) = to by omega] at d2
  simp only [digAt, pc, pt, if_true, decide_eq_true_eq] at d1 d2
  exact ⟨p0, by omega, d1, d2⟩

theorem s_spec_PairsOf (W T : Int) (cs : List Bool) (ds ls : List Int) (hb : cs.length < 2 ^ 40) (hd : ds.length < 2 ^ 40) (hl : ls.length < 2 ^ 40) :
    SoundAt Try.prog n_spec_PairsOf [.agg [.v (.int .i64 W), .v (.int .i64 T), .sl 1 1 (bools cs)], .sl 1 1 (ints ds), .sl 1 1 (ints ls)] (.os 1 (ints (if okB W T cs ds ls then pairsI W T ds ls else []))) [.bot, .bot, .bot] := by
  refine fn_ok (md := md0) (ms := [false, false, false]) k_spec_PairsOf (by simp) ?_
  simp [c_spec_PairsOf]
  refine loop_by (fun m E H => ∃ i : Nat, m = ls.length - i ∧ i ≤ ls.length ∧ (i = 0 ∨ okB W T cs ds ls = true) ∧ H = [some (.box [.v (.int .i64 W), .v (.int .i64 T), .sl 1 1 (bools cs)]), some (.arr 1 (ints (pairsTo W T ds ls i)))] ∧
    E = [(1, .sl 1 1 (ints ds)), (2, .sl 1 1 (ints ls)), (3, .lp 0 0 0 0), (7, .ls 1 1 0 (pairsTo W T ds ls i).length), (8, .v (.int .i64 i))]) ls.length ⟨0, by simp [pairsTo]⟩ ?_
  rintro J hJ m E H ⟨i, rfl, hi, hz, rfl, rfl⟩
  by_cases h : i < ls.length
  case neg =>
    have : i = ls.length := by omega
    subst this
    simp [c_spec_PairsOf_L0]
    rcases hz with hz | hz
    · have : ls = [] := List.eq_nil_of_length_eq_zero hz
      subst this
      simp [pairsI, pairsTo]
    · simp [hz, pairsI]
  simp [c_spec_PairsOf_L0, h]
  refine call_on (s_spec_PuzzleValid W T cs ds hb hd) ?_
  have ok0 : okB W T cs ds ls = false → i = 0 := fun h => by rcases hz with hz | hz; exact hz; rw [h] at hz; cases hz
  cases hp : (regB W T cs && digsB cs ds) with
  | false =>
    have hn : okB W T cs ds ls = false := by simp only [okB, ← Bool.and_assoc, hp, Bool.false_and]
    have := ok0 hn; subst this
    simp [hn, pairsTo]
  | true =>
  simp
  refine call_on (s_spec_LaidOk W T cs ls hb hl) ?_
  cases hp2 : (regB W T cs && laysB W T cs ls) with
  | false =>
    have hn : okB W T cs ds ls = false := by
      simp only [Bool.and_eq_true] at hp
      rw [hp.1, Bool.true_and] at hp2
      simp [okB, hp2]
    have := ok0 hn; subst this
    simp [hn, pairsTo]
  | true =>
  have hok : okB W T cs ds ls = true := by
    simp only [Bool.and_eq_true] at hp hp2
    simp [okB, hp, hp2]
  obtain ⟨hr, e1, e2, _⟩ := okB_W hok
  have hlen := pairsTo_length W T ds ls i
  have hl36 := regB_len hr
  have hsuc := pairsTo_succ W T ds ls i
  have next : ∀ (x : List Int), pairsTo W T ds ls (i + 1) = pairsTo W T ds ls i ++ x → again J (ls.length - i) [(1, .sl 1 1 (ints ds)), (2, .sl 1 1 (ints ls)), (3, .lp 0 0 0 0), (7, .ls 1 1 0 ((pairsTo W T ds ls i).length + x.length)), (8, .v (.int .i64 (i + 1)))]
      [some (.box [.v (.int .i64 W), .v (.int .i64 T), .sl 1 1 (bools cs)]), some (.arr 1 (ints (pairsTo W T ds ls i) ++ ints x))] := by
    intro x hx
    refine ⟨_, by omega, hJ _ _ _ ⟨i + 1, rfl, h, .inr hok, ?_, ?_⟩⟩
    · rw [hx, ints_append]
    · rw [hx, List.length_append]; rfl
  have hds : i < ds.length := by omega
  by_cases hw : ati ls i = 1 ∨ ati ls i = 2
  · obtain ⟨o1, o2, o3, o4⟩ := okB_first hok (k := i) (by omega) hw
    have one : SoundAt Try.prog n_spec_l2Step [.agg [.v (.int .i64 W), .v (.int .i64 T), .sl 1 1 (bools cs)], .v (.int .i64 i), .v (.int .i64 (ati ls i))] (.v (.int .i64 (stepI W T i (ati ls i)))) [.bot, .bot, .bot] := s_spec_l2Step W T cs i (ati ls i) hr (by omega) (by omega)
    have two := s_spec_PairOf (ati ds i) (ati ds (stepI W T i (ati ls i))) o3 o4
    have next1 := next _ (by rw [hsuc, if_pos hw])
    clear hsuc next
    simp at next1
    generalize hto : stepI W T i (ati ls i) = to at *
    have o5 : to < ds.length := by omega
    have hb : (pairsTo W T ds ls i).length ≤ 36 := by omega
    rcases hw with hw | hw <;> rw [hw] at one <;>
    · simp [h, hw, hds]
      (repeat' first | assumption | apply And.intro) <;>
      · refine call_on one ?_
        simp [o1, o5, hds]
        (repeat' first | assumption | apply And.intro) <;>
        · refine call_on two ?_
          simp
          exact ⟨by omega, by omega, next1⟩
  · have hw1 : ¬ ati ls i = 1 := fun e => hw (.inl e)
    have hw2 : ¬ ati ls i = 2 := fun e => hw (.inr e)
    simp [h, hw1, hw2]
    rw [if_neg hw, List.append_nil] at hsuc
    refine ⟨by omega, _, by omega, hJ _ _ _ ⟨i + 1, rfl, h, .inr hok, ?_, ?_⟩⟩ <;> rw [hsuc]
    rfl

end Go.Proofs.Dev
