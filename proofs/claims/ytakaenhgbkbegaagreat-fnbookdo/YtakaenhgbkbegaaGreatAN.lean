/- Contracts of the functions of the program over slots and rows, each proved against the program itself; no condition beyond those that each theorem names. -/
import Derived.Test.YtakaenhgbkbegaaGreatAK
import Derived.Test.YtakaenhgbkbegaaGreatProg
import Derived.Test.YtakaenhgbkbegaaGreatAJ
import Derived.Test.YtakaenhgbkbegaaGreatAM

set_option linter.unusedSimpArgs false
set_option linter.unusedVariables false

namespace Go.Proofs.Dev

-- 3 parameters, results [.t 6], 82 slots, modes [false, false, false]
@[simp] abbrev n_spec_MakePuzzle : Nat := 114
def c_spec_MakePuzzle_L0 : ACode := .seq (.seq (.reg [.m 23 8, .m 24 1, .o 25 (.len false) [.t 24], .o 26 (.bin .lss 0) [.t 23, .t 25]]) <|
 .cond (.t 26) ( .skip) ( .exit 0)) <| .seq (.block 1 ( .reg [.m 29 7, .o 30 (.bsl 1) [.k (-1)], .o 31 (.app 1 8 true) [.t 29, .t 30], .m 7 31])) <|
 .reg [.m 27 8, .o 28 (.bin .add 0) [.t 27, .k 1], .m 8 28]

def c_spec_MakePuzzle_L1 : ACode := .seq (.seq (.reg [.m 52 10, .m 53 11, .o 54 (.bin .sub 0) [.k 6, .t 53], .o 55 (.bin .gtr 0) [.t 52, .t 54]]) <|
 .cond (.t 55) ( .skip) ( .exit 4)) <| .block 5 ( .seq (.reg [.m 56 10, .m 57 11, .o 58 (.bin .sub 0) [.k 6, .t 57], .o 59 (.bin .add 0) [.t 58, .k 1],
 .o 60 (.bin .sub 0) [.t 56, .t 59], .m 10 60]) <| .reg [.m 61 11, .o 62 (.bin .add 0) [.t 61, .k 1], .m 11 62])

def c_spec_MakePuzzle_D : ACode := .draw ( .take (.m 67 7) <| .take (.m 69 9) <| .take (.m 70 1) <| .take (.m 71 9) <| .take (.o 72 (.iadr 1) [.t 70, .t 71]) <|
 .take (.m 75 11) <| .take (.m 76 10) <| .take (.o 77 (.bin .add 0) [.t 75, .t 76]) <|
 .alt (.o 68 (.load true 3) [.t 3]) ( .al (.l 73 72) ( .al (.o 74 (.call 132 []) [.t 68, .t 69, .t 73]) ( .take (.o 78 (.iadr 1) [.t 67, .t 74]) <|
 .al (.s (.store 1) [.t 78, .t 77]) ( .done)))) <| .al (.l 73 72) ( .al (.o 68 (.load true 3) [.t 3]) ( .al (.o 74 (.call 132 []) [.t 68, .t 69,
 .t 73]) ( .take (.o 78 (.iadr 1) [.t 67, .t 74]) <| .al (.s (.store 1) [.t 78, .t 77]) ( .done)))))

def c_spec_MakePuzzle_L2 : ACode := .seq (.seq (.reg [.m 32 9, .m 33 1, .o 34 (.len false) [.t 33], .o 35 (.bin .lss 0) [.t 32, .t 34]]) <|
 .cond (.t 35) ( .skip) ( .exit 2)) <| .seq (.block 3 ( .seq (.reg [.m 38 1, .m 39 9, .o 40 (.iadr 1) [.t 38, .t 39], .l 41 40, .o 42 (.bin .eql 0) [.t 41,
 .k 1], .m 43 42, .mg 44 1 43 false, .mg 45 9 43 false, .g 46 (.iadr 1) [.t 44, .t 45] 43 false, .g 47 (.load false 1) [.t 46] 43 false,
 .g 48 (.bin .eql 0) [.t 47, .k 2] 43 false, .o 49 .pick [.t 43, .c (.v (.bool true)), .t 48]]) <| .cond (.t 49) ( .seq (.reg [.m 50 2,
 .o 51 (.bin .rem 0) [.t 50, .k 28], .m 10 51]) <| .seq (.reg [.o 11 .mv [.k 0]]) <| .seq (.block 4 ( .loop [(1, 1), (7, 1)] [1, 2, 3, 7, 9, 10,
 11] c_spec_MakePuzzle_L1)) <| .seq (.reg [.m 63 7, .m 64 9, .m 65 11, .o 66 (.iadr 1) [.t 63, .t 64], .s (.store 1) [.t 66, .t 65]]) <|
 .seq c_spec_MakePuzzle_D <| .reg [.m 79 2, .o 80 (.bin .add 0) [.t 79, .k 1], .m 2 80]) ( .skip))) <| .reg [.m 36 9, .o 37 (.bin .add 0) [.t 36, .k 1],
 .m 9 37]

def c_spec_MakePuzzle : ACode := .seq (.reg [.o 3 .box [.t 0], .o 6 .mv [.c (.os 1 [])]]) <| .seq (.seq (.reg [.o 12 (.load true 3) [.t 3], .m 13 1,
 .o 14 (.call 142 []) [.t 12, .t 13], .o 15 (.un .not) [.t 14], .m 16 15, .mg 17 2 16 false, .g 18 (.call 62 []) [.t 17, .k 0, .k 27] 16 false,
 .g 19 (.un .not) [.t 18] 16 false, .o 20 .pick [.t 16, .c (.v (.bool true)), .t 19]]) <| .cond (.t 20) ( .seq (.reg [.o 21 (.bsl 1) [], .m 6 21]) <|
 .ret) ( .skip)) <| .seq (.reg [.o 22 (.bsl 1) [], .m 7 22]) <| .seq (.seq (.reg [.o 8 .mv [.k 0]]) <| .block 0 ( .loop [(1, 1), (7, 1)] [1, 2, 3, 7,
 8] c_spec_MakePuzzle_L0)) <| .seq (.seq (.reg [.o 9 .mv [.k 0]]) <| .block 2 ( .loop [(1, 1), (7, 1)] [1, 2, 3, 7, 9] c_spec_MakePuzzle_L2)) <|
 .seq (.reg [.m 81 7, .m 6 81]) <| .ret

theorem k_spec_MakePuzzle : cFn Tryz.prog n_spec_MakePuzzle 82 [.t 6] c_spec_MakePuzzle := ⟨Tryz.f114, _, Tryz.func114, rfl, by kernel_rfl, by kernel_rfl, by kernel_rfl, by kernel_rfl⟩

-- 2 parameters, results [.t 4], 12 slots, modes [false, false]
@[simp] abbrev n_impl_LaidOk : Nat := 75

def c_impl_LaidOk : ACode := .seq (.reg [.o 2 .box [.t 0], .o 4 .mv [.c (.v (.bool false))]]) <| .seq (.reg [.o 5 (.load true 3) [.t 2],
 .o 6 (.call 69 []) [.t 5], .m 7 6, .g 8 (.load true 3) [.t 2] 7 true, .mg 9 1 7 true, .g 10 (.call 106 []) [.t 8, .t 9] 7 true, .o 11 .pick [.t 7, .t 10,
 .c (.v (.bool false))], .m 4 11]) <| .ret

theorem k_impl_LaidOk : cFn Tryz.prog n_impl_LaidOk 12 [.t 4] c_impl_LaidOk := ⟨Tryz.f75, _, Tryz.func75, rfl, by kernel_rfl, by kernel_rfl, by kernel_rfl, by kernel_rfl⟩

-- 2 parameters, results [.t 4], 13 slots, modes [false, false]
@[simp] abbrev n_impl_TilingOk : Nat := 25

def c_impl_TilingOk : ACode := .seq (.reg [.o 2 .box [.t 0], .o 4 .mv [.c (.v (.bool false))]]) <| .seq (.reg [.o 5 (.load true 3) [.t 2], .m 6 1,
 .o 7 (.call 75 []) [.t 5, .t 6], .m 8 7, .g 9 (.load true 3) [.t 2] 8 true, .mg 10 1 8 true, .g 11 (.call 74 []) [.t 9, .t 10] 8 true, .o 12 .pick [.t 8, .t 11,
 .c (.v (.bool false))], .m 4 12]) <| .ret

theorem k_impl_TilingOk : cFn Tryz.prog n_impl_TilingOk 13 [.t 4] c_impl_TilingOk := ⟨Tryz.f25, _, Tryz.func25, rfl, by kernel_rfl, by kernel_rfl, by kernel_rfl, by kernel_rfl⟩

end Go.Proofs.Dev

namespace Go.Proofs.Dev

-- 2 parameters, results [.t 4], 34 slots, modes [true, false]
@[simp] abbrev n_laws_markDeedS : Nat := 42
-- 1 parameters, results [.t 2], 9 slots, modes [true]
@[simp] abbrev n_slices_Clip_impl_Deed_impl_Deed : Nat := 153

-- 1 parameters, results [.t 2], 105 slots, modes [false]
@[simp] abbrev n_spec_EndDeeds : Nat := 51
def c_spec_EndDeeds_L0 : ACode := .seq (.seq (.reg [.m 28 6, .m 29 4, .o 30 (.len false) [.t 29], .o 31 (.bin .lss 0) [.t 28, .t 30]]) <|
 .cond (.t 31) ( .skip) ( .exit 0)) <| .seq (.block 1 ( .seq (.draw ( .take (.f 34 4 1) <| .take (.m 36 6) <| .al (.l 35 34) ( .take (.o 37 (.iadr 1) [.t 35,
 .t 36]) <| .al (.l 38 37) ( .take (.o 39 (.bin .eql 0) [.t 38, .k 1]) <| .take (.m 40 39) <| .take (.g 41 (.fadr 4) [.t 1] 40 false) <|
 .take (.mg 43 6 40 false) <| .al (.g 42 (.load false 1) [.t 41] 40 false) ( .take (.g 44 (.iadr 1) [.t 42, .t 43] 40 false) <|
 .al (.g 45 (.load false 1) [.t 44] 40 false) ( .take (.g 46 (.bin .eql 0) [.t 45, .k 2] 40 false) <| .take (.o 47 .pick [.t 40, .c (.v (.bool true)), .t 46]) <|
 .take (.m 48 47) <| .take (.mg 49 4 48 true) <| .take (.mg 50 6 48 true) <| .take (.g 51 (.iadr 1) [.t 49, .t 50] 48 true) <|
 .take (.g 53 (.fadr 4) [.t 1] 48 true) <| .take (.mg 55 6 48 true) <|
 .alt (.g 52 (.load false 1) [.t 51] 48 true) ( .al (.g 54 (.load false 1) [.t 53] 48 true) ( .take (.g 56 (.iadr 1) [.t 54, .t 55] 48 true) <|
 .al (.g 57 (.load false 1) [.t 56] 48 true) ( .take (.g 58 (.bin .neq 0) [.t 52, .t 57] 48 true) <| .take (.o 59 .pick [.t 48, .t 58, .c (.v (.bool false))]) <|
 .done))) <| .al (.g 54 (.load false 1) [.t 53] 48 true) ( .take (.g 56 (.iadr 1) [.t 54, .t 55] 48 true) <|
 .alt (.g 52 (.load false 1) [.t 51] 48 true) ( .al (.g 57 (.load false 1) [.t 56] 48 true) ( .take (.g 58 (.bin .neq 0) [.t 52, .t 57] 48 true) <|
 .take (.o 59 .pick [.t 48, .t 58, .c (.v (.bool false))]) <| .done)) <|
 .al (.g 57 (.load false 1) [.t 56] 48 true) ( .al (.g 52 (.load false 1) [.t 51] 48 true) ( .take (.g 58 (.bin .neq 0) [.t 52, .t 57] 48 true) <|
 .take (.o 59 .pick [.t 48, .t 58, .c (.v (.bool false))]) <| .done))))))))) <| .cond (.t 59) ( .reg [.m 60 3, .m 61 6, .o 62 (.build [.v (.int .i64 (0)),
 .v (.int .i64 (0)), .v (.int .i64 (0))] [(0, 1), (1, 1)]) [.k 1, .t 61], .o 63 (.bsl 3) [.t 62], .o 64 (.app 3 24 true) [.t 60, .t 63], .m 3 64]) ( .skip))) <|
 .reg [.m 32 6, .o 33 (.bin .add 0) [.t 32, .k 1], .m 6 33]

def c_spec_EndDeeds_L1 : ACode := .seq (.seq (.reg [.m 65 7, .m 66 4, .o 67 (.len false) [.t 66], .o 68 (.bin .lss 0) [.t 65, .t 67]]) <|
 .cond (.t 68) ( .skip) ( .exit 2)) <| .seq (.block 3 ( .seq (.draw ( .take (.m 71 4) <| .take (.m 72 7) <| .take (.o 73 (.iadr 1) [.t 71, .t 72]) <|
 .al (.l 74 73) ( .take (.o 75 (.bin .eql 0) [.t 74, .k 1]) <| .take (.m 76 75) <| .take (.mg 77 4 76 false) <| .take (.mg 78 7 76 false) <|
 .take (.g 79 (.iadr 1) [.t 77, .t 78] 76 false) <| .al (.g 80 (.load false 1) [.t 79] 76 false) ( .take (.g 81 (.bin .eql 0) [.t 80, .k 2] 76 false) <|
 .take (.o 82 .pick [.t 76, .c (.v (.bool true)), .t 81]) <| .take (.m 83 82) <| .take (.mg 84 4 83 true) <| .take (.mg 85 7 83 true) <|
 .take (.g 86 (.iadr 1) [.t 84, .t 85] 83 true) <| .take (.g 88 (.fadr 4) [.t 1] 83 true) <| .take (.mg 90 7 83 true) <|
 .alt (.g 87 (.load false 1) [.t 86] 83 true) ( .al (.g 89 (.load false 1) [.t 88] 83 true) ( .take (.g 91 (.iadr 1) [.t 89, .t 90] 83 true) <|
 .al (.g 92 (.load false 1) [.t 91] 83 true) ( .take (.g 93 (.bin .neq 0) [.t 87, .t 92] 83 true) <| .take (.o 94 .pick [.t 83, .t 93, .c (.v (.bool false))]) <|
 .done))) <| .al (.g 89 (.load false 1) [.t 88] 83 true) ( .take (.g 91 (.iadr 1) [.t 89, .t 90] 83 true) <|
 .alt (.g 87 (.load false 1) [.t 86] 83 true) ( .al (.g 92 (.load false 1) [.t 91] 83 true) ( .take (.g 93 (.bin .neq 0) [.t 87, .t 92] 83 true) <|
 .take (.o 94 .pick [.t 83, .t 93, .c (.v (.bool false))]) <| .done)) <|
 .al (.g 92 (.load false 1) [.t 91] 83 true) ( .al (.g 87 (.load false 1) [.t 86] 83 true) ( .take (.g 93 (.bin .neq 0) [.t 87, .t 92] 83 true) <|
 .take (.o 94 .pick [.t 83, .t 93, .c (.v (.bool false))]) <| .done))))))) <| .cond (.t 94) ( .reg [.m 95 3, .m 96 7, .m 97 4, .m 98 7, .o 99 (.iadr 1) [.t 97,
 .t 98], .l 100 99, .o 101 (.build [.v (.int .i64 (0)), .v (.int .i64 (0)), .v (.int .i64 (0))] [(0, 1), (1, 1), (2, 1)]) [.k 0, .t 96, .t 100],
 .o 102 (.bsl 3) [.t 101], .o 103 (.app 3 24 true) [.t 95, .t 102], .m 3 103]) ( .skip))) <| .reg [.m 69 7, .o 70 (.bin .add 0) [.t 69, .k 1], .m 7 70]

def c_spec_EndDeeds_T2 : ACode := .seq (.seq (.reg [.m 20 5, .o 21 (.un .not) [.t 20], .m 22 21, .g 23 (.load true 6) [.t 1] 22 false,
 .g 24 (.call 46 []) [.t 23] 22 false, .g 25 (.un .not) [.t 24] 22 false, .o 26 .pick [.t 22, .c (.v (.bool true)), .t 25]]) <|
 .cond (.t 26) ( .seq (.reg [.m 27 3, .m 2 27]) <| .ret) ( .skip)) <| .seq (.seq (.reg [.o 6 .mv [.k 0]]) <| .block 0 ( .loop [(3, 3), (4, 1)] [1, 3, 4,
 6] c_spec_EndDeeds_L0)) <| .seq (.seq (.reg [.o 7 .mv [.k 0]]) <| .block 2 ( .loop [(3, 3), (4, 1)] [1, 3, 4, 7] c_spec_EndDeeds_L1)) <| .seq (.reg [.m 104 3,
 .m 2 104]) <| .ret

def c_spec_EndDeeds : ACode := .seq (.reg [.o 1 .box [.t 0], .o 2 .mv [.c (.os 3 [])]]) <| .seq (.reg [.o 8 (.bsl 3) [], .m 3 8]) <|
 .seq (.draw ( .take (.f 10 0 1) <| .take (.f 12 3 1) <| .take (.f 14 0 1) <|
 .alt (.o 11 (.load true 3) [.t 10]) ( .alt (.l 13 12) ( .al (.o 15 (.load true 3) [.t 14]) ( .al (.o 16 (.call 60 []) [.t 15]) ( .al (.o 17 (.call 109 []) [.t 11,
 .t 13, .t 16]) ( .take (.m 9 17) <| .take (.e 18 0 9) <| .take (.e 19 1 9) <| .take (.m 4 18) <| .take (.m 5 19) <| .done)))) <|
 .al (.o 15 (.load true 3) [.t 14]) ( .alt (.l 13 12) ( .al (.o 16 (.call 60 []) [.t 15]) ( .al (.o 17 (.call 109 []) [.t 11, .t 13, .t 16]) ( .take (.m 9 17) <|
 .take (.e 18 0 9) <| .take (.e 19 1 9) <| .take (.m 4 18) <| .take (.m 5 19) <| .done))) <|
 .al (.o 16 (.call 60 []) [.t 15]) ( .al (.l 13 12) ( .al (.o 17 (.call 109 []) [.t 11, .t 13, .t 16]) ( .take (.m 9 17) <| .take (.e 18 0 9) <|
 .take (.e 19 1 9) <| .take (.m 4 18) <| .take (.m 5 19) <| .done))))) <|
 .alt (.l 13 12) ( .alt (.o 11 (.load true 3) [.t 10]) ( .al (.o 15 (.load true 3) [.t 14]) ( .al (.o 16 (.call 60 []) [.t 15]) ( .al (.o 17 (.call 109 []) [.t 11,
 .t 13, .t 16]) ( .take (.m 9 17) <| .take (.e 18 0 9) <| .take (.e 19 1 9) <| .take (.m 4 18) <| .take (.m 5 19) <| .done)))) <|
 .al (.o 15 (.load true 3) [.t 14]) ( .alt (.o 11 (.load true 3) [.t 10]) ( .al (.o 16 (.call 60 []) [.t 15]) ( .al (.o 17 (.call 109 []) [.t 11, .t 13,
 .t 16]) ( .take (.m 9 17) <| .take (.e 18 0 9) <| .take (.e 19 1 9) <| .take (.m 4 18) <| .take (.m 5 19) <| .done))) <|
 .al (.o 16 (.call 60 []) [.t 15]) ( .al (.o 11 (.load true 3) [.t 10]) ( .al (.o 17 (.call 109 []) [.t 11, .t 13, .t 16]) ( .take (.m 9 17) <|
 .take (.e 18 0 9) <| .take (.e 19 1 9) <| .take (.m 4 18) <| .take (.m 5 19) <| .done))))) <|
 .al (.o 15 (.load true 3) [.t 14]) ( .alt (.o 11 (.load true 3) [.t 10]) ( .alt (.l 13 12) ( .al (.o 16 (.call 60 []) [.t 15]) ( .al (.o 17 (.call 109 []) [.t 11,
 .t 13, .t 16]) ( .take (.m 9 17) <| .take (.e 18 0 9) <| .take (.e 19 1 9) <| .take (.m 4 18) <| .take (.m 5 19) <| .done))) <|
 .al (.o 16 (.call 60 []) [.t 15]) ( .al (.l 13 12) ( .al (.o 17 (.call 109 []) [.t 11, .t 13, .t 16]) ( .take (.m 9 17) <| .take (.e 18 0 9) <|
 .take (.e 19 1 9) <| .take (.m 4 18) <| .take (.m 5 19) <| .done)))) <|
 .alt (.l 13 12) ( .alt (.o 11 (.load true 3) [.t 10]) ( .al (.o 16 (.call 60 []) [.t 15]) ( .al (.o 17 (.call 109 []) [.t 11, .t 13,
 .t 16]) ( .take (.m 9 17) <| .take (.e 18 0 9) <| .take (.e 19 1 9) <| .take (.m 4 18) <| .take (.m 5 19) <| .done))) <|
 .al (.o 16 (.call 60 []) [.t 15]) ( .al (.o 11 (.load true 3) [.t 10]) ( .al (.o 17 (.call 109 []) [.t 11, .t 13, .t 16]) ( .take (.m 9 17) <|
 .take (.e 18 0 9) <| .take (.e 19 1 9) <| .take (.m 4 18) <| .take (.m 5 19) <| .done)))) <|
 .al (.o 16 (.call 60 []) [.t 15]) ( .alt (.o 11 (.load true 3) [.t 10]) ( .al (.l 13 12) ( .al (.o 17 (.call 109 []) [.t 11, .t 13, .t 16]) ( .take (.m 9 17) <|
 .take (.e 18 0 9) <| .take (.e 19 1 9) <| .take (.m 4 18) <| .take (.m 5 19) <| .done))) <|
 .al (.l 13 12) ( .al (.o 11 (.load true 3) [.t 10]) ( .al (.o 17 (.call 109 []) [.t 11, .t 13, .t 16]) ( .take (.m 9 17) <| .take (.e 18 0 9) <|
 .take (.e 19 1 9) <| .take (.m 4 18) <| .take (.m 5 19) <| .done))))))) <| .gc [] [1, 3, 4, 5] c_spec_EndDeeds_T2

theorem k_spec_EndDeeds : cFn Tryz.prog n_spec_EndDeeds 105 [.t 2] c_spec_EndDeeds := ⟨Tryz.f51, _, Tryz.func51, rfl, by kernel_rfl, by kernel_rfl, by kernel_rfl, by kernel_rfl⟩

end Go.Proofs.Dev

namespace Go.Proofs.Dev
set_option linter.unusedSimpArgs false
set_option maxRecDepth 100000

@[simp] def md3 (f : Nat) : List Bool := if f = n_laws_markDeedS then [true, false] else if f = n_slices_Clip_impl_Deed_impl_Deed then [true] else md0 f

def deedA (d : Int × Int × Int) : AV := .agg [.v (.int .i64 d.1), .v (.int .i64 d.2.1), .v (.int .i64 d.2.2)]
def dsA (xs : List (Int × Int × Int)) : List AV := xs.map deedA
@[simp] theorem dsA_length (xs : List (Int × Int × Int)) : (dsA xs).length = xs.length := by simp [dsA]
@[simp] theorem dsA_nil : dsA [] = [] := rfl
theorem dsA_append (a b : List (Int × Int × Int)) : dsA (a ++ b) = dsA a ++ dsA b := by simp [dsA]
theorem dsA_get {xs : List (Int × Int × Int)} {i : Nat} (h : i < xs.length) : (dsA xs)[i]? = some (deedA xs[i]) := by simp [dsA, h]
@[simp] theorem dsA_getE {xs : List (Int × Int × Int)} {i : Nat} (h : i < (dsA xs).length) : (dsA xs)[i] = deedA (xs[i]'(by simpa using h)) := by simp [dsA]

def marks3 (n : Nat) (k : Int) : List (Int × Int × Int) := (List.range n).map fun j : Nat => (k + 3 * j, k + 3 * j + 1, k + 3 * j + 2)
@[simp] theorem marks3_length (n : Nat) (k : Int) : (marks3 n k).length = n := by simp [marks3]
end Go.Proofs.Dev

namespace Go.Proofs.Dev
set_option linter.unusedSimpArgs false
set_option maxRecDepth 100000

end Go.Proofs.Dev

namespace Go.Proofs.Dev
end Go.Proofs.Dev

namespace Go.Proofs.Dev
set_option linter.unusedSimpArgs false
set_option maxRecDepth 100000

end Go.Proofs.Dev

namespace Go.Proofs.Dev
set_option linter.unusedSimpArgs false
set_option maxRecDepth 100000

def pastB (W T : Int) (cs : List Bool) (ds : List Int) (ps : List (List Int)) : Bool := allB ps.length (fun k => fairB W T cs ds (pti ps k))
def bookB (W T : Int) (cs : List Bool) (ds ls : List Int) (ps : List (List Int)) : Bool := (fairB W T cs ds ls && decide (ps.length ≤ 20)) && pastB W T cs ds ps

theorem s_spec_BookValid (W T : Int) (cs : List Bool) (ds ls : List Int) (ps : List (List Int)) (hc : cs.length < 2 ^ 40) (hd : ds.length < 2 ^ 40) (hl : ls.length < 2 ^ 40) (hb : ps.length < 2 ^ 40) (hp : ∀ p ∈ ps, p.length < 2 ^ 40) :
    SoundAt Tryz.prog n_spec_BookValid [bkA W T cs ds ls ps] (.v (.bool (bookB W T cs ds ls ps))) [.bot] := by
  refine fn_ok (md := md0) (ms := [false]) k_spec_BookValid (by simp) ?_
  simp [c_spec_BookValid]
  refine loop_by (fun m E H => ∃ i : Nat, m = ps.length - i ∧ i ≤ ps.length ∧ allB i (fun k => fairB W T cs ds (pti ps k)) = true ∧ H = [some (.box [.v (.int .i64 W), .v (.int .i64 T), .sl 1 1 (bools cs), .sl 1 1 (ints ds), .sl 1 1 (ints ls), .sl 1 1 (sls 1 ps)])] ∧ E = [(1, .lp 0 0 0 0), (3, .v (.int .i64 i))]) ps.length ⟨0, by simp [allB_zero]⟩ ?_
  rintro J hJ m E H ⟨i, rfl, hi, ha, rfl, rfl⟩
  by_cases h : i < ps.length
  case neg =>
    have : i = ps.length := by omega
    subst this
    simp [c_spec_BookValid_L0]
    refine call_on (s_spec_FairOk W T cs ds ls hc hd hl) ?_
    simp [bookB, pastB, ha]
    cases fairB W T cs ds ls <;> simp
    omega
  have one := s_spec_FairOk W T cs ds (pti ps i) hc hd (hp _ (pti_mem h))
  have hno : fairB W T cs ds (pti ps i) = false → bookB W T cs ds ls ps = false := by
    intro hf
    have : pastB W T cs ds ps = false := allB_false h hf
    simp [bookB, this]
  simp [c_spec_BookValid_L0, h]
  (repeat' first | assumption | omega | apply And.intro) <;>
  · refine call_on one ?_
    cases hf : fairB W T cs ds (pti ps i) with
    | false => simp [hno hf]
    | true =>
      simp
      exact ⟨by omega, _, by omega, hJ _ _ _ ⟨i + 1, rfl, h, by rw [allB_succ, ha, hf]; rfl, rfl, rfl⟩⟩

theorem s_impl_BookValid_1 (W T : Int) (cs : List Bool) (ds ls : List Int) (ps : List (List Int)) (p : List Int) (hc : cs.length < 2 ^ 40) (hd : ds.length < 2 ^ 40) (hp : p.length < 2 ^ 40) :
    SoundAt Tryz.prog n_impl_BookValid_1 [.sl 1 1 (ints p), .vp 1 [.v (.int .i64 W), .v (.int .i64 T), .sl 1 1 (bools cs), .sl 1 1 (ints ds), .sl 1 1 (ints ls), .sl 1 1 (sls 1 ps)] 0] (.v (.bool (!fairB W T cs ds p))) [.bot, .bot] := by
  refine fn_ok (md := md0) (ms := [false, false]) k_impl_BookValid_1 (by simp) ?_
  simp [c_impl_BookValid_1]
  refine call_on (s_impl_FairOk W T cs ds p hc hd hp) ?_
  simp

/-- A book that a closure reads. -/
@[simp] def bkP (W T : Int) (cs : List Bool) (ds ls : List Int) (ps : List (List Int)) : AV := .vp 1 [.v (.int .i64 W), .v (.int .i64 T), .sl 1 1 (bools cs), .sl 1 1 (ints ds), .sl 1 1 (ints ls), .sl 1 1 (sls 1 ps)] 0
def unfairI (W T : Int) (cs : List Bool) (ds : List Int) (ps : List (List Int)) : Int := firstI (fun k => !fairB W T cs ds (pti ps k)) ps.length

theorem s_slices_IndexFunc (W T : Int) (cs : List Bool) (ds ls : List Int) (ps qs : List (List Int)) (hc : cs.length < 2 ^ 40) (hd : ds.length < 2 ^ 40) (hb : ps.length < 2 ^ 40) (hp : ∀ p ∈ ps, p.length < 2 ^ 40) :
    SoundAt Tryz.prog n_slices_IndexFunc_int_int [.sl 1 1 (sls 1 ps), .fn 67 [bkP W T cs ds ls qs]] (.v (.int .i64 (unfairI W T cs ds ps))) [.bot, .bot] := by
  refine fn_ok (md := md0) (ms := [false, false]) k_slices_IndexFunc_int_int (by simp) ?_
  simp [c_slices_IndexFunc_int_int]
  refine loop_by (fun m E H => ∃ i : Nat, m = ps.length - i ∧ i ≤ ps.length ∧ (∀ k : Nat, k < i → (!fairB W T cs ds (pti ps k)) = false) ∧ H = [] ∧ E = [(0, .sl 1 1 (sls 1 ps)), (1, .fn 67 [bkP W T cs ds ls qs]), (7, .v (.int .i64 ps.length)), (8, .v (.int .i64 i))]) ps.length ⟨0, by simp⟩ ?_
  rintro J hJ m E H ⟨i, rfl, hi, ha, rfl, rfl⟩
  by_cases h : i < ps.length
  case neg =>
    have : i = ps.length := by omega
    subst this
    have e : unfairI W T cs ds ps = -1 := firstI_none ha
    simp [c_slices_IndexFunc_int_int_L0, e]
  have one := s_impl_BookValid_1 W T cs ds ls qs (pti ps i) hc hd (hp _ (pti_mem h))
  simp [c_slices_IndexFunc_int_int_L0, h]
  refine ⟨by kernel_rfl, ?_⟩
  refine call_on one ?_
  cases hf : fairB W T cs ds (pti ps i) with
  | false =>
    have e : unfairI W T cs ds ps = i := firstI_hit h (by simp [hf]) ha
    simp [e]
  | true =>
    simp
    refine ⟨by omega, _, by omega, hJ _ _ _ ⟨i + 1, rfl, h, ?_, rfl, rfl⟩⟩
    intro k hk
    rcases Nat.lt_or_ge k i with h1 | h1
    · exact ha k h1
    · have : k = i := by omega
      subst this; simp [hf]

theorem s_slices_ContainsFunc (W T : Int) (cs : List Bool) (ds ls : List Int) (ps qs : List (List Int)) (hc : cs.length < 2 ^ 40) (hd : ds.length < 2 ^ 40) (hb : ps.length < 2 ^ 40) (hp : ∀ p ∈ ps, p.length < 2 ^ 40) :
    SoundAt Tryz.prog n_slices_ContainsFunc_int_int [.sl 1 1 (sls 1 ps), .fn 67 [bkP W T cs ds ls qs]] (.v (.bool (!pastB W T cs ds ps))) [.bot, .bot] := by
  refine fn_ok (md := md0) (ms := [false, false]) k_slices_ContainsFunc_int_int (by simp) ?_
  simp [c_slices_ContainsFunc_int_int]
  refine call_on (s_slices_IndexFunc W T cs ds ls ps qs hc hd hb hp) ?_
  have e : decide (0 ≤ unfairI W T cs ds ps) = !pastB W T cs ds ps := by
    cases hpb : pastB W T cs ds ps with
    | true =>
      have h2 : unfairI W T cs ds ps = -1 := firstI_none fun k hk => by
        have := (allB_iff _ _).1 hpb k hk
        simp [this]
      rw [h2]; rfl
    | false =>
      rcases firstI_cases (fun k => !fairB W T cs ds (pti ps k)) ps.length with h2 | ⟨k, hk, hx, h2⟩
      · exfalso
        have : pastB W T cs ds ps = true := by
          rw [pastB, allB_iff]
          intro k hk
          cases hx : fairB W T cs ds (pti ps k) with
          | true => rfl
          | false =>
            exfalso
            have hm : ∃ x ∈ List.range ps.length, (!fairB W T cs ds (pti ps x)) = true := ⟨k, by simpa using hk, by simp [hx]⟩
            have hs := List.find?_isSome.2 hm
            unfold firstI at h2
            split at h2
            · omega
            · rename_i h9; rw [h9] at hs; cases hs
        rw [this] at hpb; cases hpb
      · have h3 : unfairI W T cs ds ps = k := h2
        rw [h3]; simp
  simp [e]

theorem s_impl_BookValid (W T : Int) (cs : List Bool) (ds ls : List Int) (ps : List (List Int)) (hc : cs.length < 2 ^ 40) (hd : ds.length < 2 ^ 40) (hl : ls.length < 2 ^ 40) (hb : ps.length < 2 ^ 40) (hp : ∀ p ∈ ps, p.length < 2 ^ 40) :
    SoundAt Tryz.prog n_impl_BookValid [bkA W T cs ds ls ps] (.v (.bool (bookB W T cs ds ls ps))) [.bot] := by
  refine fn_ok (md := md0) (ms := [false]) k_impl_BookValid (by simp) ?_
  simp [c_impl_BookValid]
  refine call_on (s_impl_FairOk W T cs ds ls hc hd hl) ?_
  cases hf : fairB W T cs ds ls with
  | false => simp [bookB, hf]
  | true =>
  by_cases h20 : ps.length ≤ 20
  case neg =>
    have h20' : ¬ (ps.length : Int) ≤ 20 := by omega
    simp [bookB, hf, h20, h20']
  have h20' : (ps.length : Int) ≤ 20 := by omega
  simp [h20']
  refine call_on (s_slices_ContainsFunc W T cs ds ls ps ps hc hd hb hp) ?_
  simp [bookB, hf, h20]

end Go.Proofs.Dev

namespace Go.Proofs.Dev
set_option linter.unusedSimpArgs false
set_option maxRecDepth 100000

theorem bookB_fair {W T : Int} {cs : List Bool} {ds ls : List Int} {ps : List (List Int)} (h : bookB W T cs ds ls ps = true) : fairB W T cs ds ls = true := by
  simp only [bookB, Bool.and_eq_true] at h; exact h.1.1

def bsolB (W T : Int) (cs : List Bool) (ds ls : List Int) (ps : List (List Int)) : Bool := bookB W T cs ds ls ps && fullB cs ls

theorem s_spec_BookSolved (W T : Int) (cs : List Bool) (ds ls : List Int) (ps : List (List Int)) (hc : cs.length < 2 ^ 40) (hd : ds.length < 2 ^ 40) (hl : ls.length < 2 ^ 40) (hb : ps.length < 2 ^ 40) (hp : ∀ p ∈ ps, p.length < 2 ^ 40) :
    SoundAt Tryz.prog n_spec_BookSolved [bkA W T cs ds ls ps] (.v (.bool (bsolB W T cs ds ls ps))) [.bot] := by
  refine fn_ok (md := md0) (ms := [false]) k_spec_BookSolved (by simp) ?_
  simp [c_spec_BookSolved]
  refine call_on (s_spec_BookValid W T cs ds ls ps hc hd hl hb hp) ?_
  cases hv : bookB W T cs ds ls ps with
  | false => simp [bsolB, hv]
  | true =>
  simp
  refine call_on (s_spec_SolvedOk W T cs ds ls hc hd hl) ?_
  simp [bsolB, hv, solvedB, bookB_fair hv]

theorem s_impl_BookSolved (W T : Int) (cs : List Bool) (ds ls : List Int) (ps : List (List Int)) (hc : cs.length < 2 ^ 40) (hd : ds.length < 2 ^ 40) (hl : ls.length < 2 ^ 40) (hb : ps.length < 2 ^ 40) (hp : ∀ p ∈ ps, p.length < 2 ^ 40) :
    SoundAt Tryz.prog n_impl_BookSolved [bkA W T cs ds ls ps] (.v (.bool (bsolB W T cs ds ls ps))) [.bot] := by
  refine fn_ok (md := md0) (ms := [false]) k_impl_BookSolved (by simp) ?_
  simp [c_impl_BookSolved]
  refine call_on (s_impl_BookValid W T cs ds ls ps hc hd hl hb hp) ?_
  cases hv : bookB W T cs ds ls ps with
  | false => simp [bsolB, hv]
  | true =>
  simp
  refine call_on (s_impl_Region_full W T cs ls hc (okB_W (fairB_ok (bookB_fair hv))).2.2.1) ?_
  simp [bsolB, hv]

end Go.Proofs.Dev

namespace Go.Proofs.Dev

-- 1 parameters, results [.t 2], 9 slots, modes [false]
@[simp] abbrev n_spec_CellsMany : Nat := 72

def c_spec_CellsMany : ACode := .seq (.reg [.o 1 .box [.t 0], .o 2 .mv [.k 0]]) <| .seq (.seq (.reg [.o 3 (.load true 3) [.t 1], .o 4 (.call 61 []) [.t 3],
 .o 5 (.un .not) [.t 4]]) <| .cond (.t 5) ( .seq (.reg [.o 2 .mv [.k (-1)]]) <| .ret) ( .skip)) <| .seq (.reg [.f 6 2 1, .l 7 6, .o 8 (.call 120 []) [.t 7],
 .m 2 8]) <| .ret

theorem k_spec_CellsMany : cFn Tryz.prog n_spec_CellsMany 9 [.t 2] c_spec_CellsMany := ⟨Tryz.f72, _, Tryz.func72, rfl, by kernel_rfl, by kernel_rfl, by kernel_rfl, by kernel_rfl⟩

-- 2 parameters, results [.t 4], 32 slots, modes [false, false]
@[simp] abbrev n_spec_LaidMany : Nat := 73
def c_spec_LaidMany_L0 : ACode := .seq (.seq (.reg [.m 11 6, .m 12 1, .o 13 (.len false) [.t 12], .o 14 (.bin .lss 0) [.t 11, .t 13]]) <|
 .cond (.t 14) ( .skip) ( .exit 0)) <| .seq (.block 1 ( .seq (.reg [.m 17 1, .m 18 6, .o 19 (.iadr 1) [.t 17, .t 18], .l 20 19, .o 21 (.bin .eql 0) [.t 20,
 .k 1], .m 22 21, .mg 23 1 22 false, .mg 24 6 22 false, .g 25 (.iadr 1) [.t 23, .t 24] 22 false, .g 26 (.load false 1) [.t 25] 22 false,
 .g 27 (.bin .eql 0) [.t 26, .k 2] 22 false, .o 28 .pick [.t 22, .c (.v (.bool true)), .t 27]]) <| .cond (.t 28) ( .reg [.m 29 5, .o 30 (.bin .add 0) [.t 29,
 .k 1], .m 5 30]) ( .skip))) <| .reg [.m 15 6, .o 16 (.bin .add 0) [.t 15, .k 1], .m 6 16]

def c_spec_LaidMany : ACode := .seq (.reg [.o 2 .box [.t 0], .o 4 .mv [.k 0]]) <| .seq (.seq (.reg [.o 7 (.load true 3) [.t 2], .m 8 1,
 .o 9 (.call 128 []) [.t 7, .t 8], .o 10 (.un .not) [.t 9]]) <| .cond (.t 10) ( .seq (.reg [.o 4 .mv [.k (-1)]]) <| .ret) ( .skip)) <|
 .seq (.reg [.o 5 .mv [.k 0]]) <| .seq (.seq (.reg [.o 6 .mv [.k 0]]) <| .block 0 ( .loop [(1, 1)] [1, 5, 6] c_spec_LaidMany_L0)) <| .seq (.reg [.m 31 5,
 .m 4 31]) <| .ret

theorem k_spec_LaidMany : cFn Tryz.prog n_spec_LaidMany 32 [.t 4] c_spec_LaidMany := ⟨Tryz.f73, _, Tryz.func73, rfl, by kernel_rfl, by kernel_rfl, by kernel_rfl, by kernel_rfl⟩

-- 2 parameters, results [.t 4], 21 slots, modes [false, false]
@[simp] abbrev n_impl_ways : Nat := 127
def c_impl_ways_L0 : ACode := .seq (.reg [.o 11 (.bin .lss 0) [.t 10, .t 9]]) <| .seq (.cond (.t 11) ( .skip) ( .exit 0)) <|
 .seq (.block 1 ( .seq (.reg [.o 12 (.iadr 1) [.t 8, .t 10], .l 13 12, .m 7 13]) <| .seq (.reg [.m 14 1, .m 15 7, .o 16 (.call 165 []) [.t 14, .t 15]]) <|
 .cond (.t 16) ( .reg [.m 17 5, .o 18 (.bin .add 0) [.t 17, .k 1], .m 5 18]) ( .skip))) <| .reg [.o 19 (.bin .add 0) [.t 10, .k 1], .m 10 19]

def c_impl_ways : ACode := .seq (.reg [.o 4 .mv [.k 0]]) <| .seq (.reg [.o 5 .mv [.k 0]]) <| .seq (.seq (.reg [.m 8 0, .o 9 (.len false) [.t 8],
 .o 10 .mv [.k 0]]) <| .block 0 ( .loop [(1, 1), (8, 1)] [1, 5, 8, 9, 10] c_impl_ways_L0)) <| .seq (.reg [.m 20 5, .m 4 20]) <| .ret

theorem k_impl_ways : cFn Tryz.prog n_impl_ways 21 [.t 4] c_impl_ways := ⟨Tryz.f127, _, Tryz.func127, rfl, by kernel_rfl, by kernel_rfl, by kernel_rfl, by kernel_rfl⟩

-- 2 parameters, results [.t 4], 9 slots, modes [false, false]
@[simp] abbrev n_slices_Contains_int_int : Nat := 165

def c_slices_Contains_int_int : ACode := .seq (.reg [.o 4 .mv [.c (.v (.bool false))]]) <| .seq (.reg [.m 5 0, .m 6 1, .o 7 (.call 187 []) [.t 5, .t 6],
 .o 8 (.bin .geq 0) [.t 7, .k 0], .m 4 8]) <| .ret

theorem k_slices_Contains_int_int : cFn Tryz.prog n_slices_Contains_int_int 9 [.t 4] c_slices_Contains_int_int := ⟨Tryz.f165, _, Tryz.func165, rfl, by kernel_rfl, by kernel_rfl, by kernel_rfl, by kernel_rfl⟩

-- 2 parameters, results [.t 4], 19 slots, modes [false, false]
@[simp] abbrev n_slices_Index_int_int : Nat := 187
def c_slices_Index_int_int_L0 : ACode := .seq (.reg [.o 9 (.bin .lss 0) [.t 8, .t 7]]) <| .seq (.cond (.t 9) ( .skip) ( .exit 0)) <|
 .seq (.block 1 ( .seq (.reg [.m 10 8, .m 5 10]) <| .seq (.reg [.m 11 1, .m 12 0, .m 13 5, .o 14 (.iadr 1) [.t 12, .t 13], .l 15 14, .o 16 (.bin .eql 0) [.t 11,
 .t 15]]) <| .cond (.t 16) ( .seq (.reg [.m 17 5, .m 4 17]) <| .ret) ( .skip))) <| .reg [.o 18 (.bin .add 0) [.t 8, .k 1], .m 8 18]

def c_slices_Index_int_int : ACode := .seq (.reg [.o 4 .mv [.k 0]]) <| .seq (.seq (.reg [.m 6 0, .o 7 (.len false) [.t 6], .o 8 .mv [.k 0]]) <|
 .block 0 ( .loop [(0, 1)] [0, 1, 7, 8] c_slices_Index_int_int_L0)) <| .seq (.reg [.o 4 .mv [.k (-1)]]) <| .ret

theorem k_slices_Index_int_int : cFn Tryz.prog n_slices_Index_int_int 19 [.t 4] c_slices_Index_int_int := ⟨Tryz.f187, _, Tryz.func187, rfl, by kernel_rfl, by kernel_rfl, by kernel_rfl, by kernel_rfl⟩

-- 1 parameters, results [.t 2], 17 slots, modes [false]
@[simp] abbrev n_impl_Book_left : Nat := 68

def c_impl_Book_left : ACode := .seq (.reg [.o 2 .mv [.k 0]]) <| .seq (.draw ( .take (.m 3 0) <| .take (.o 4 .nilck [.t 3]) <| .take (.f 5 0 4) <|
 .take (.f 6 2 5) <| .take (.m 9 0) <| .take (.o 10 .nilck [.t 9]) <| .take (.f 11 4 10) <|
 .alt (.l 7 6) ( .alt (.o 8 (.call 70 []) [.t 7]) ( .alt (.l 12 11) ( .al (.o 13 (.bsl 1) [.k 1, .k 2]) ( .al (.o 14 (.call 127 []) [.t 12,
 .t 13]) ( .take (.o 15 (.bin .mul 0) [.k 2, .t 14]) <| .take (.o 16 (.bin .sub 0) [.t 8, .t 15]) <| .take (.m 2 16) <| .done))) <| .al (.o 13 (.bsl 1) [.k 1,
 .k 2]) ( .al (.l 12 11) ( .al (.o 14 (.call 127 []) [.t 12, .t 13]) ( .take (.o 15 (.bin .mul 0) [.k 2, .t 14]) <| .take (.o 16 (.bin .sub 0) [.t 8, .t 15]) <|
 .take (.m 2 16) <| .done)))) <| .alt (.l 12 11) ( .alt (.o 8 (.call 70 []) [.t 7]) ( .al (.o 13 (.bsl 1) [.k 1, .k 2]) ( .al (.o 14 (.call 127 []) [.t 12,
 .t 13]) ( .take (.o 15 (.bin .mul 0) [.k 2, .t 14]) <| .take (.o 16 (.bin .sub 0) [.t 8, .t 15]) <| .take (.m 2 16) <| .done))) <| .al (.o 13 (.bsl 1) [.k 1,
 .k 2]) ( .al (.o 8 (.call 70 []) [.t 7]) ( .al (.o 14 (.call 127 []) [.t 12, .t 13]) ( .take (.o 15 (.bin .mul 0) [.k 2, .t 14]) <|
 .take (.o 16 (.bin .sub 0) [.t 8, .t 15]) <| .take (.m 2 16) <| .done)))) <| .al (.o 13 (.bsl 1) [.k 1,
 .k 2]) ( .alt (.o 8 (.call 70 []) [.t 7]) ( .al (.l 12 11) ( .al (.o 14 (.call 127 []) [.t 12, .t 13]) ( .take (.o 15 (.bin .mul 0) [.k 2, .t 14]) <|
 .take (.o 16 (.bin .sub 0) [.t 8, .t 15]) <| .take (.m 2 16) <| .done))) <| .al (.l 12 11) ( .al (.o 8 (.call 70 []) [.t 7]) ( .al (.o 14 (.call 127 []) [.t 12,
 .t 13]) ( .take (.o 15 (.bin .mul 0) [.k 2, .t 14]) <| .take (.o 16 (.bin .sub 0) [.t 8, .t 15]) <| .take (.m 2 16) <| .done))))) <|
 .alt (.l 12 11) ( .alt (.l 7 6) ( .alt (.o 8 (.call 70 []) [.t 7]) ( .al (.o 13 (.bsl 1) [.k 1, .k 2]) ( .al (.o 14 (.call 127 []) [.t 12,
 .t 13]) ( .take (.o 15 (.bin .mul 0) [.k 2, .t 14]) <| .take (.o 16 (.bin .sub 0) [.t 8, .t 15]) <| .take (.m 2 16) <| .done))) <| .al (.o 13 (.bsl 1) [.k 1,
 .k 2]) ( .al (.o 8 (.call 70 []) [.t 7]) ( .al (.o 14 (.call 127 []) [.t 12, .t 13]) ( .take (.o 15 (.bin .mul 0) [.k 2, .t 14]) <|
 .take (.o 16 (.bin .sub 0) [.t 8, .t 15]) <| .take (.m 2 16) <| .done)))) <| .al (.o 13 (.bsl 1) [.k 1,
 .k 2]) ( .al (.l 7 6) ( .al (.o 8 (.call 70 []) [.t 7]) ( .al (.o 14 (.call 127 []) [.t 12, .t 13]) ( .take (.o 15 (.bin .mul 0) [.k 2, .t 14]) <|
 .take (.o 16 (.bin .sub 0) [.t 8, .t 15]) <| .take (.m 2 16) <| .done))))) <| .al (.o 13 (.bsl 1) [.k 1,
 .k 2]) ( .alt (.l 7 6) ( .alt (.o 8 (.call 70 []) [.t 7]) ( .al (.l 12 11) ( .al (.o 14 (.call 127 []) [.t 12, .t 13]) ( .take (.o 15 (.bin .mul 0) [.k 2,
 .t 14]) <| .take (.o 16 (.bin .sub 0) [.t 8, .t 15]) <| .take (.m 2 16) <| .done))) <|
 .al (.l 12 11) ( .al (.o 8 (.call 70 []) [.t 7]) ( .al (.o 14 (.call 127 []) [.t 12, .t 13]) ( .take (.o 15 (.bin .mul 0) [.k 2, .t 14]) <|
 .take (.o 16 (.bin .sub 0) [.t 8, .t 15]) <| .take (.m 2 16) <| .done)))) <|
 .al (.l 12 11) ( .al (.l 7 6) ( .al (.o 8 (.call 70 []) [.t 7]) ( .al (.o 14 (.call 127 []) [.t 12, .t 13]) ( .take (.o 15 (.bin .mul 0) [.k 2, .t 14]) <|
 .take (.o 16 (.bin .sub 0) [.t 8, .t 15]) <| .take (.m 2 16) <| .done))))))) <| .ret

theorem k_impl_Book_left : cFn Tryz.prog n_impl_Book_left 17 [.t 2] c_impl_Book_left := ⟨Tryz.f68, _, Tryz.func68, rfl, by kernel_rfl, by kernel_rfl, by kernel_rfl, by kernel_rfl⟩

-- 1 parameters, results [.t 2], 16 slots, modes [false]
@[simp] abbrev n_spec_CellsLeft : Nat := 23

def c_spec_CellsLeft : ACode := .seq (.reg [.o 1 .box [.t 0], .o 2 .mv [.k 0]]) <| .seq (.seq (.reg [.o 3 (.load true 6) [.t 1], .o 4 (.call 46 []) [.t 3],
 .o 5 (.un .not) [.t 4]]) <| .cond (.t 5) ( .seq (.reg [.o 2 .mv [.k (-1)]]) <| .ret) ( .skip)) <| .seq (.draw ( .take (.f 6 0 1) <| .take (.f 9 0 1) <|
 .take (.f 11 4 1) <|
 .alt (.o 7 (.load true 3) [.t 6]) ( .alt (.o 8 (.call 72 []) [.t 7]) ( .alt (.o 10 (.load true 3) [.t 9]) ( .al (.l 12 11) ( .al (.o 13 (.call 73 []) [.t 10,
 .t 12]) ( .take (.o 14 (.bin .mul 0) [.k 2, .t 13]) <| .take (.o 15 (.bin .sub 0) [.t 8, .t 14]) <| .take (.m 2 15) <| .done))) <|
 .al (.l 12 11) ( .al (.o 10 (.load true 3) [.t 9]) ( .al (.o 13 (.call 73 []) [.t 10, .t 12]) ( .take (.o 14 (.bin .mul 0) [.k 2, .t 13]) <|
 .take (.o 15 (.bin .sub 0) [.t 8, .t 14]) <| .take (.m 2 15) <| .done)))) <|
 .alt (.o 10 (.load true 3) [.t 9]) ( .alt (.o 8 (.call 72 []) [.t 7]) ( .al (.l 12 11) ( .al (.o 13 (.call 73 []) [.t 10,
 .t 12]) ( .take (.o 14 (.bin .mul 0) [.k 2, .t 13]) <| .take (.o 15 (.bin .sub 0) [.t 8, .t 14]) <| .take (.m 2 15) <| .done))) <|
 .al (.l 12 11) ( .al (.o 8 (.call 72 []) [.t 7]) ( .al (.o 13 (.call 73 []) [.t 10, .t 12]) ( .take (.o 14 (.bin .mul 0) [.k 2, .t 13]) <|
 .take (.o 15 (.bin .sub 0) [.t 8, .t 14]) <| .take (.m 2 15) <| .done)))) <|
 .al (.l 12 11) ( .alt (.o 8 (.call 72 []) [.t 7]) ( .al (.o 10 (.load true 3) [.t 9]) ( .al (.o 13 (.call 73 []) [.t 10,
 .t 12]) ( .take (.o 14 (.bin .mul 0) [.k 2, .t 13]) <| .take (.o 15 (.bin .sub 0) [.t 8, .t 14]) <| .take (.m 2 15) <| .done))) <|
 .al (.o 10 (.load true 3) [.t 9]) ( .al (.o 8 (.call 72 []) [.t 7]) ( .al (.o 13 (.call 73 []) [.t 10, .t 12]) ( .take (.o 14 (.bin .mul 0) [.k 2, .t 13]) <|
 .take (.o 15 (.bin .sub 0) [.t 8, .t 14]) <| .take (.m 2 15) <| .done))))) <|
 .alt (.o 10 (.load true 3) [.t 9]) ( .alt (.o 7 (.load true 3) [.t 6]) ( .alt (.o 8 (.call 72 []) [.t 7]) ( .al (.l 12 11) ( .al (.o 13 (.call 73 []) [.t 10,
 .t 12]) ( .take (.o 14 (.bin .mul 0) [.k 2, .t 13]) <| .take (.o 15 (.bin .sub 0) [.t 8, .t 14]) <| .take (.m 2 15) <| .done))) <|
 .al (.l 12 11) ( .al (.o 8 (.call 72 []) [.t 7]) ( .al (.o 13 (.call 73 []) [.t 10, .t 12]) ( .take (.o 14 (.bin .mul 0) [.k 2, .t 13]) <|
 .take (.o 15 (.bin .sub 0) [.t 8, .t 14]) <| .take (.m 2 15) <| .done)))) <|
 .al (.l 12 11) ( .al (.o 7 (.load true 3) [.t 6]) ( .al (.o 8 (.call 72 []) [.t 7]) ( .al (.o 13 (.call 73 []) [.t 10,
 .t 12]) ( .take (.o 14 (.bin .mul 0) [.k 2, .t 13]) <| .take (.o 15 (.bin .sub 0) [.t 8, .t 14]) <| .take (.m 2 15) <| .done))))) <|
 .al (.l 12 11) ( .alt (.o 7 (.load true 3) [.t 6]) ( .alt (.o 8 (.call 72 []) [.t 7]) ( .al (.o 10 (.load true 3) [.t 9]) ( .al (.o 13 (.call 73 []) [.t 10,
 .t 12]) ( .take (.o 14 (.bin .mul 0) [.k 2, .t 13]) <| .take (.o 15 (.bin .sub 0) [.t 8, .t 14]) <| .take (.m 2 15) <| .done))) <|
 .al (.o 10 (.load true 3) [.t 9]) ( .al (.o 8 (.call 72 []) [.t 7]) ( .al (.o 13 (.call 73 []) [.t 10, .t 12]) ( .take (.o 14 (.bin .mul 0) [.k 2, .t 13]) <|
 .take (.o 15 (.bin .sub 0) [.t 8, .t 14]) <| .take (.m 2 15) <| .done)))) <|
 .al (.o 10 (.load true 3) [.t 9]) ( .al (.o 7 (.load true 3) [.t 6]) ( .al (.o 8 (.call 72 []) [.t 7]) ( .al (.o 13 (.call 73 []) [.t 10,
 .t 12]) ( .take (.o 14 (.bin .mul 0) [.k 2, .t 13]) <| .take (.o 15 (.bin .sub 0) [.t 8, .t 14]) <| .take (.m 2 15) <| .done))))))) <| .ret

theorem k_spec_CellsLeft : cFn Tryz.prog n_spec_CellsLeft 16 [.t 2] c_spec_CellsLeft := ⟨Tryz.f23, _, Tryz.func23, rfl, by kernel_rfl, by kernel_rfl, by kernel_rfl, by kernel_rfl⟩

-- 1 parameters, results [.t 2], 7 slots, modes [false]
@[simp] abbrev n_impl_CellsLeft : Nat := 20

def c_impl_CellsLeft : ACode := .seq (.reg [.o 1 .box [.t 0], .o 2 .mv [.k 0]]) <| .seq (.seq (.reg [.o 3 (.load true 6) [.t 1], .o 4 (.call 19 []) [.t 3],
 .o 5 (.un .not) [.t 4]]) <| .cond (.t 5) ( .seq (.reg [.o 2 .mv [.k (-1)]]) <| .ret) ( .skip)) <| .seq (.reg [.o 6 (.call 68 []) [.t 1], .m 2 6]) <| .ret

theorem k_impl_CellsLeft : cFn Tryz.prog n_impl_CellsLeft 7 [.t 2] c_impl_CellsLeft := ⟨Tryz.f20, _, Tryz.func20, rfl, by kernel_rfl, by kernel_rfl, by kernel_rfl, by kernel_rfl⟩

end Go.Proofs.Dev
