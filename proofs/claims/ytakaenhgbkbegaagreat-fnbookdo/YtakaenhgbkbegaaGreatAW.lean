/- Contracts of the functions of the program over slots and rows, each proved against the program itself; no condition beyond those that each theorem names. -/
import Derived.Test.YtakaenhgbkbegaaGreatAV
import Derived.Test.YtakaenhgbkbegaaGreatProg
import Derived.Test.YtakaenhgbkbegaaGreatAQ
import Derived.Test.YtakaenhgbkbegaaGreatAP
import Derived.Test.YtakaenhgbkbegaaGreatAO
import Derived.Test.YtakaenhgbkbegaaGreatAN
import Derived.Test.YtakaenhgbkbegaaGreatAU
import Derived.Test.YtakaenhgbkbegaaGreatAH

set_option linter.unusedSimpArgs false
set_option linter.unusedVariables false

namespace Go.Proofs.Dev

-- 2 parameters, results [.t 4], 26 slots, modes [false, false]
@[simp] abbrev n_laws_sameBools : Nat := 103
def c_laws_sameBools_L0 : ACode := .seq (.seq (.reg [.m 11 5, .m 12 0, .o 13 (.len false) [.t 12], .o 14 (.bin .lss 0) [.t 11, .t 13]]) <|
 .cond (.t 14) ( .skip) ( .exit 0)) <| .seq (.block 1 ( .seq (.draw ( .take (.m 17 0) <| .take (.m 18 5) <| .take (.o 19 (.iadr 1) [.t 17, .t 18]) <|
 .take (.m 21 1) <| .take (.m 22 5) <| .take (.o 23 (.iadr 1) [.t 21, .t 22]) <| .alt (.l 20 19) ( .al (.l 24 23) ( .take (.o 25 (.bin .neq 2) [.t 20, .t 24]) <|
 .done)) <| .al (.l 24 23) ( .al (.l 20 19) ( .take (.o 25 (.bin .neq 2) [.t 20, .t 24]) <| .done)))) <|
 .cond (.t 25) ( .seq (.reg [.o 4 .mv [.c (.v (.bool false))]]) <| .ret) ( .skip))) <| .reg [.m 15 5, .o 16 (.bin .add 0) [.t 15, .k 1], .m 5 16]

def c_laws_sameBools : ACode := .seq (.reg [.o 4 .mv [.c (.v (.bool false))]]) <| .seq (.seq (.reg [.m 6 0, .o 7 (.len false) [.t 6], .m 8 1,
 .o 9 (.len false) [.t 8], .o 10 (.bin .neq 0) [.t 7, .t 9]]) <| .cond (.t 10) ( .seq (.reg [.o 4 .mv [.c (.v (.bool false))]]) <| .ret) ( .skip)) <|
 .seq (.seq (.reg [.o 5 .mv [.k 0]]) <| .block 0 ( .loop [(0, 1), (1, 1)] [0, 1, 5] c_laws_sameBools_L0)) <| .seq (.reg [.o 4 .mv [.c (.v (.bool true))]]) <|
 .ret

theorem k_laws_sameBools : cFn Tryz.prog n_laws_sameBools 26 [.t 4] c_laws_sameBools := ⟨Tryz.f103, _, Tryz.func103, rfl, by kernel_rfl, by kernel_rfl, by kernel_rfl, by kernel_rfl⟩

-- 2 parameters, results [.t 4], 24 slots, modes [false, false]
@[simp] abbrev n_laws_sameRegion : Nat := 44

def c_laws_sameRegion : ACode := .seq (.reg [.o 2 .box [.t 0], .o 3 .box [.t 1], .o 4 .mv [.c (.v (.bool false))]]) <| .seq (.reg [.f 5 0 2, .l 6 5, .f 7 0 3,
 .l 8 7, .o 9 (.bin .eql 0) [.t 6, .t 8], .m 10 9, .g 11 (.fadr 1) [.t 2] 10 true, .g 12 (.load false 1) [.t 11] 10 true, .g 13 (.fadr 1) [.t 3] 10 true,
 .g 14 (.load false 1) [.t 13] 10 true, .g 15 (.bin .eql 0) [.t 12, .t 14] 10 true, .o 16 .pick [.t 10, .t 15, .c (.v (.bool false))], .m 17 16,
 .g 18 (.fadr 2) [.t 2] 17 true, .g 19 (.load false 1) [.t 18] 17 true, .g 20 (.fadr 2) [.t 3] 17 true, .g 21 (.load false 1) [.t 20] 17 true,
 .g 22 (.call 103 []) [.t 19, .t 21] 17 true, .o 23 .pick [.t 17, .t 22, .c (.v (.bool false))], .m 4 23]) <| .ret

theorem k_laws_sameRegion : cFn Tryz.prog n_laws_sameRegion 24 [.t 4] c_laws_sameRegion := ⟨Tryz.f44, _, Tryz.func44, rfl, by kernel_rfl, by kernel_rfl, by kernel_rfl, by kernel_rfl⟩

-- 2 parameters, results [.t 4], 31 slots, modes [false, false]
@[simp] abbrev n_laws_sameBook : Nat := 13

def c_laws_sameBook : ACode := .seq (.reg [.o 2 .box [.t 0], .o 3 .box [.t 1], .o 4 .mv [.c (.v (.bool false))]]) <| .seq (.reg [.f 5 0 2,
 .o 6 (.load true 3) [.t 5], .f 7 0 3, .o 8 (.load true 3) [.t 7], .o 9 (.call 44 []) [.t 6, .t 8], .m 10 9, .g 11 (.fadr 3) [.t 2] 10 true,
 .g 12 (.load false 1) [.t 11] 10 true, .g 13 (.fadr 3) [.t 3] 10 true, .g 14 (.load false 1) [.t 13] 10 true, .g 15 (.call 36 []) [.t 12, .t 14] 10 true,
 .o 16 .pick [.t 10, .t 15, .c (.v (.bool false))], .m 17 16, .g 18 (.fadr 4) [.t 2] 17 true, .g 19 (.load false 1) [.t 18] 17 true,
 .g 20 (.fadr 4) [.t 3] 17 true, .g 21 (.load false 1) [.t 20] 17 true, .g 22 (.call 36 []) [.t 19, .t 21] 17 true, .o 23 .pick [.t 17, .t 22,
 .c (.v (.bool false))], .m 24 23, .g 25 (.fadr 5) [.t 2] 24 true, .g 26 (.load false 1) [.t 25] 24 true, .g 27 (.fadr 5) [.t 3] 24 true,
 .g 28 (.load false 1) [.t 27] 24 true, .g 29 (.call 59 []) [.t 26, .t 28] 24 true, .o 30 .pick [.t 24, .t 29, .c (.v (.bool false))], .m 4 30]) <| .ret

theorem k_laws_sameBook : cFn Tryz.prog n_laws_sameBook 31 [.t 4] c_laws_sameBook := ⟨Tryz.f13, _, Tryz.func13, rfl, by kernel_rfl, by kernel_rfl, by kernel_rfl, by kernel_rfl⟩

-- 1 parameters, results [.t 2], 6 slots, modes [false]
@[simp] abbrev n_laws_noBook : Nat := 16

def c_laws_noBook : ACode := .seq (.reg [.o 1 .box [.t 0], .o 2 .mv [.c (.v (.bool false))]]) <| .seq (.reg [.o 3 (.load true 6) [.t 1],
 .o 4 (.build [.v (.int .i64 (0)), .v (.int .i64 (0)), .os 1 [], .os 1 [], .os 1 [], .os 1 []] []) [], .o 5 (.call 13 []) [.t 3, .t 4], .m 2 5]) <| .ret

theorem k_laws_noBook : cFn Tryz.prog n_laws_noBook 6 [.t 2] c_laws_noBook := ⟨Tryz.f16, _, Tryz.func16, rfl, by kernel_rfl, by kernel_rfl, by kernel_rfl, by kernel_rfl⟩

-- 1 parameters, results [.t 2], 49 slots, modes [false]
@[simp] abbrev n_laws_FnCellsLeft : Nat := 4

def c_laws_FnCellsLeft : ACode := .seq (.reg [.o 2 .mv [.c (.v (.bool false))]]) <| .seq (.seq (.reg [.m 5 0, .o 6 (.len false) [.t 5],
 .o 7 (.bin .gtr 0) [.t 6, .k 1048576]]) <| .cond (.t 7) ( .seq (.reg [.o 2 .mv [.c (.v (.bool true))]]) <| .ret) ( .skip)) <| .seq (.reg [.m 8 0,
 .o 9 (.call 22 []) [.t 8], .o 3 (.alloc [.v (.int .i64 (0)), .v (.int .i64 (0)), .os 1 [], .os 1 [], .os 1 [], .os 1 []]) [], .s (.store 6) [.t 3, .t 9]]) <|
 .seq (.reg [.o 10 (.load true 6) [.t 3], .o 11 (.call 20 []) [.t 10], .m 4 11]) <| .seq (.seq (.reg [.m 12 4, .o 13 (.load true 6) [.t 3],
 .o 14 (.call 23 []) [.t 13], .o 15 (.bin .neq 0) [.t 12, .t 14]]) <| .cond (.t 15) ( .seq (.reg [.o 2 .mv [.c (.v (.bool false))]]) <| .ret) ( .skip)) <|
 .seq (.seq (.reg [.m 16 4, .o 17 (.bin .lss 0) [.t 16, .k 0]]) <| .cond (.t 17) ( .seq (.reg [.m 18 4, .o 19 (.bin .eql 0) [.t 18, .k (-1)], .m 20 19,
 .g 21 (.call 17 []) [] 20 true, .o 22 .pick [.t 20, .t 21, .c (.v (.bool false))], .m 2 22]) <| .ret) ( .skip)) <| .seq (.reg [.m 23 4,
 .o 24 (.bin .rem 0) [.t 23, .k 2], .f 25 0 3, .o 26 (.load true 3) [.t 25], .o 27 (.call 21 []) [.t 26], .o 28 (.bin .rem 0) [.t 27, .k 2],
 .o 29 (.bin .eql 0) [.t 24, .t 28], .m 30 29, .g 31 (.load true 6) [.t 3] 30 true, .g 32 (.call 24 []) [.t 31] 30 true, .g 33 (.un .not) [.t 32] 30 true,
 .mg 34 33 30 true, .mg 35 4 34 false, .g 36 (.bin .eql 0) [.t 35, .k 0] 34 false, .g 37 .pick [.t 34, .c (.v (.bool true)), .t 36] 30 true, .o 38 .pick [.t 30,
 .t 37, .c (.v (.bool false))], .m 39 38, .mg 40 4 39 true, .g 41 (.bin .eql 0) [.t 40, .k 0] 39 true, .g 42 (.fadr 0) [.t 3] 39 true,
 .g 43 (.load true 3) [.t 42] 39 true, .g 44 (.fadr 4) [.t 3] 39 true, .g 45 (.load false 1) [.t 44] 39 true, .g 46 (.call 25 []) [.t 43, .t 45] 39 true,
 .g 47 (.bin .eql 2) [.t 41, .t 46] 39 true, .o 48 .pick [.t 39, .t 47, .c (.v (.bool false))], .m 2 48]) <| .ret

theorem k_laws_FnCellsLeft : cFn Tryz.prog n_laws_FnCellsLeft 49 [.t 2] c_laws_FnCellsLeft := ⟨Tryz.f4, _, Tryz.func4, rfl, by kernel_rfl, by kernel_rfl, by kernel_rfl, by kernel_rfl⟩

-- 1 parameters, results [.t 2], 50 slots, modes [false]
@[simp] abbrev n_laws_FnBookSolved : Nat := 6
def c_laws_FnBookSolved_L0 : ACode := .seq (.seq (.reg [.m 24 7, .m 25 5, .o 26 (.len false) [.t 25], .o 27 (.bin .lss 0) [.t 24, .t 26]]) <|
 .cond (.t 27) ( .skip) ( .exit 0)) <| .seq (.block 1 ( .draw ( .take (.m 30 6) <| .take (.m 31 30) <| .take (.mg 32 5 31 false) <| .take (.mg 33 7 31 false) <|
 .take (.g 34 (.iadr 1) [.t 32, .t 33] 31 false) <| .take (.g 36 (.fadr 4) [.t 3] 31 false) <|
 .alt (.g 35 (.load false 1) [.t 34] 31 false) ( .al (.g 37 (.load false 1) [.t 36] 31 false) ( .al (.g 38 (.call 36 []) [.t 35,
 .t 37] 31 false) ( .take (.o 39 .pick [.t 31, .c (.v (.bool true)), .t 38]) <| .take (.m 6 39) <| .done))) <|
 .al (.g 37 (.load false 1) [.t 36] 31 false) ( .al (.g 35 (.load false 1) [.t 34] 31 false) ( .al (.g 38 (.call 36 []) [.t 35,
 .t 37] 31 false) ( .take (.o 39 .pick [.t 31, .c (.v (.bool true)), .t 38]) <| .take (.m 6 39) <| .done)))))) <| .reg [.m 28 7, .o 29 (.bin .add 0) [.t 28,
 .k 1], .m 7 29]

def c_laws_FnBookSolved : ACode := .seq (.reg [.o 2 .mv [.c (.v (.bool false))]]) <| .seq (.seq (.reg [.m 8 0, .o 9 (.len false) [.t 8],
 .o 10 (.bin .gtr 0) [.t 9, .k 1048576]]) <| .cond (.t 10) ( .seq (.reg [.o 2 .mv [.c (.v (.bool true))]]) <| .ret) ( .skip)) <| .seq (.reg [.m 11 0,
 .o 12 (.call 33 []) [.t 11], .o 3 (.alloc [.v (.int .i64 (0)), .v (.int .i64 (0)), .os 1 [], .os 1 [], .os 1 [], .os 1 []]) [], .s (.store 6) [.t 3, .t 12]]) <|
 .seq (.reg [.o 13 (.load true 6) [.t 3], .o 14 (.call 24 []) [.t 13], .m 4 14]) <| .seq (.seq (.reg [.m 15 4, .o 16 (.load true 6) [.t 3],
 .o 17 (.call 34 []) [.t 16], .o 18 (.bin .neq 2) [.t 15, .t 17]]) <| .cond (.t 18) ( .seq (.reg [.o 2 .mv [.c (.v (.bool false))]]) <| .ret) ( .skip)) <|
 .seq (.reg [.f 19 0 3, .o 20 (.load true 3) [.t 19], .f 21 3 3, .l 22 21, .o 23 (.call 35 []) [.t 20, .t 22], .m 5 23]) <|
 .seq (.reg [.o 6 .mv [.c (.v (.bool false))]]) <| .seq (.seq (.reg [.o 7 .mv [.k 0]]) <| .block 0 ( .loop [(5, 1)] [3, 4, 5, 6, 7] c_laws_FnBookSolved_L0)) <|
 .seq (.reg [.m 40 4, .m 41 6, .m 42 41, .g 43 (.load true 6) [.t 3] 42 true, .g 44 (.call 19 []) [.t 43] 42 true, .o 45 .pick [.t 42, .t 44,
 .c (.v (.bool false))], .o 46 (.bin .eql 2) [.t 40, .t 45], .m 47 46, .g 48 (.call 17 []) [] 47 true, .o 49 .pick [.t 47, .t 48, .c (.v (.bool false))],
 .m 2 49]) <| .ret

theorem k_laws_FnBookSolved : cFn Tryz.prog n_laws_FnBookSolved 50 [.t 2] c_laws_FnBookSolved := ⟨Tryz.f6, _, Tryz.func6, rfl, by kernel_rfl, by kernel_rfl, by kernel_rfl, by kernel_rfl⟩

-- 1 parameters, results [.t 2], 59 slots, modes [false]
@[simp] abbrev n_laws_FnBookNew : Nat := 3
def c_laws_FnBookNew_T0 : ACode := .seq (.seq (.reg [.o 25 (.load true 3) [.t 3], .m 26 4, .o 27 (.call 15 []) [.t 25, .t 26], .o 28 (.un .not) [.t 27]]) <|
 .cond (.t 28) ( .seq (.reg [.o 29 (.load true 6) [.t 5], .o 30 (.call 16 []) [.t 29], .m 31 30, .g 32 (.call 17 []) [] 31 true, .o 33 .pick [.t 31, .t 32,
 .c (.v (.bool false))], .m 2 33]) <| .ret) ( .skip)) <| .seq (.reg [.o 35 (.load true 6) [.t 5], .o 36 (.build [.v (.int .i64 (0)), .v (.int .i64 (0)),
 .v (.int .i64 (0))] [(0, 1)]) [.k 4], .o 37 (.call 18 []) [.t 35, .t 36], .m 34 37, .e 38 0 34, .e 39 1 34, .o 6 (.alloc [.v (.int .i64 (0)),
 .v (.int .i64 (0)), .os 1 [], .os 1 [], .os 1 [], .os 1 []]) [], .s (.store 6) [.t 6, .t 38], .m 7 39]) <|
 .seq (.draw ( .al (.o 40 (.load true 6) [.t 5]) ( .al (.o 41 (.call 19 []) [.t 40]) ( .take (.m 42 41) <|
 .alt (.g 43 (.load true 6) [.t 5] 42 true) ( .alt (.g 44 (.call 20 []) [.t 43] 42 true) ( .al (.g 45 (.load true 3) [.t 3] 42 true) ( .al (.g 46 (.call 21 []) [.t 45] 42 true) ( .take (.g 47 (.bin .eql 0) [.t 44,
 .t 46] 42 true) <| .take (.o 48 .pick [.t 42, .t 47, .c (.v (.bool false))]) <| .take (.m 49 48) <| .take (.g 50 (.fadr 5) [.t 5] 49 true) <|
 .al (.g 51 (.load false 1) [.t 50] 49 true) ( .take (.g 52 (.len false) [.t 51] 49 true) <| .take (.g 53 (.bin .eql 0) [.t 52, .k 0] 49 true) <|
 .take (.o 54 .pick [.t 49, .t 53, .c (.v (.bool false))]) <| .take (.m 55 54) <| .take (.mg 56 7 55 true) <| .take (.g 57 (.un .not) [.t 56] 55 true) <|
 .take (.o 58 .pick [.t 55, .t 57, .c (.v (.bool false))]) <| .take (.m 2 58) <| .done)))) <|
 .al (.g 45 (.load true 3) [.t 3] 42 true) ( .al (.g 44 (.call 20 []) [.t 43] 42 true) ( .al (.g 46 (.call 21 []) [.t 45] 42 true) ( .take (.g 47 (.bin .eql 0) [.t 44,
 .t 46] 42 true) <| .take (.o 48 .pick [.t 42, .t 47, .c (.v (.bool false))]) <| .take (.m 49 48) <| .take (.g 50 (.fadr 5) [.t 5] 49 true) <|
 .al (.g 51 (.load false 1) [.t 50] 49 true) ( .take (.g 52 (.len false) [.t 51] 49 true) <| .take (.g 53 (.bin .eql 0) [.t 52, .k 0] 49 true) <|
 .take (.o 54 .pick [.t 49, .t 53, .c (.v (.bool false))]) <| .take (.m 55 54) <| .take (.mg 56 7 55 true) <| .take (.g 57 (.un .not) [.t 56] 55 true) <|
 .take (.o 58 .pick [.t 55, .t 57, .c (.v (.bool false))]) <| .take (.m 2 58) <| .done))))) <|
 .al (.g 45 (.load true 3) [.t 3] 42 true) ( .al (.g 43 (.load true 6) [.t 5] 42 true) ( .al (.g 44 (.call 20 []) [.t 43] 42 true) ( .al (.g 46 (.call 21 []) [.t 45] 42 true) ( .take (.g 47 (.bin .eql 0) [.t 44,
 .t 46] 42 true) <| .take (.o 48 .pick [.t 42, .t 47, .c (.v (.bool false))]) <| .take (.m 49 48) <| .take (.g 50 (.fadr 5) [.t 5] 49 true) <|
 .al (.g 51 (.load false 1) [.t 50] 49 true) ( .take (.g 52 (.len false) [.t 51] 49 true) <| .take (.g 53 (.bin .eql 0) [.t 52, .k 0] 49 true) <|
 .take (.o 54 .pick [.t 49, .t 53, .c (.v (.bool false))]) <| .take (.m 55 54) <| .take (.mg 56 7 55 true) <| .take (.g 57 (.un .not) [.t 56] 55 true) <|
 .take (.o 58 .pick [.t 55, .t 57, .c (.v (.bool false))]) <| .take (.m 2 58) <| .done))))))))) <| .ret

def c_laws_FnBookNew : ACode := .seq (.reg [.o 2 .mv [.c (.v (.bool false))]]) <| .seq (.seq (.reg [.m 8 0, .o 9 (.len false) [.t 8], .o 10 (.bin .gtr 0) [.t 9,
 .k 1048576]]) <| .cond (.t 10) ( .seq (.reg [.o 2 .mv [.c (.v (.bool true))]]) <| .ret) ( .skip)) <| .seq (.reg [.m 12 0, .o 13 (.call 11 []) [.t 12], .m 11 13,
 .e 14 0 11, .e 15 1 11, .o 3 (.alloc [.v (.int .i64 (0)), .v (.int .i64 (0)), .os 1 []]) [], .s (.store 3) [.t 3, .t 14], .m 4 15]) <|
 .seq (.reg [.o 16 (.load true 3) [.t 3], .m 17 4, .o 18 (.call 12 []) [.t 16, .t 17], .o 5 (.alloc [.v (.int .i64 (0)), .v (.int .i64 (0)), .os 1 [], .os 1 [],
 .os 1 [], .os 1 []]) [], .s (.store 6) [.t 5, .t 18]]) <| .seq (.seq (.draw ( .take (.m 21 4) <|
 .alt (.o 19 (.load true 6) [.t 5]) ( .al (.o 20 (.load true 3) [.t 3]) ( .al (.o 22 (.call 14 []) [.t 20, .t 21]) ( .al (.o 23 (.call 13 []) [.t 19,
 .t 22]) ( .take (.o 24 (.un .not) [.t 23]) <| .done)))) <|
 .al (.o 20 (.load true 3) [.t 3]) ( .alt (.o 19 (.load true 6) [.t 5]) ( .al (.o 22 (.call 14 []) [.t 20, .t 21]) ( .al (.o 23 (.call 13 []) [.t 19,
 .t 22]) ( .take (.o 24 (.un .not) [.t 23]) <| .done))) <| .al (.o 22 (.call 14 []) [.t 20,
 .t 21]) ( .al (.o 19 (.load true 6) [.t 5]) ( .al (.o 23 (.call 13 []) [.t 19, .t 22]) ( .take (.o 24 (.un .not) [.t 23]) <| .done)))))) <|
 .cond (.t 24) ( .seq (.reg [.o 2 .mv [.c (.v (.bool false))]]) <| .ret) ( .skip)) <| .gc [] [3, 4, 5] c_laws_FnBookNew_T0

theorem k_laws_FnBookNew : cFn Tryz.prog n_laws_FnBookNew 59 [.t 2] c_laws_FnBookNew := ⟨Tryz.f3, _, Tryz.func3, rfl, by kernel_rfl, by kernel_rfl, by kernel_rfl, by kernel_rfl⟩

-- 1 parameters, results [.t 2], 106 slots, modes [false]
@[simp] abbrev n_laws_FnBookDo : Nat := 8

def c_laws_FnBookDo : ACode := .seq (.reg [.o 2 .mv [.c (.v (.bool false))]]) <| .seq (.seq (.reg [.m 11 0, .o 12 (.len false) [.t 11],
 .o 13 (.bin .gtr 0) [.t 12, .k 1048576]]) <| .cond (.t 13) ( .seq (.reg [.o 2 .mv [.c (.v (.bool true))]]) <| .ret) ( .skip)) <| .seq (.reg [.m 15 0,
 .o 16 (.call 43 []) [.t 15], .m 14 16, .e 17 0 14, .e 18 1 14, .o 3 (.alloc [.v (.int .i64 (0)), .v (.int .i64 (0)), .os 1 [], .os 1 [], .os 1 [],
 .os 1 []]) [], .o 4 (.alloc [.v (.int .i64 (0)), .v (.int .i64 (0)), .v (.int .i64 (0))]) [], .s (.store 6) [.t 3, .t 17], .s (.store 3) [.t 4, .t 18]]) <|
 .seq (.reg [.o 20 (.load true 6) [.t 3], .o 21 (.load true 3) [.t 4], .o 22 (.call 18 []) [.t 20, .t 21], .m 19 22, .e 23 0 19, .e 24 1 19,
 .o 5 (.alloc [.v (.int .i64 (0)), .v (.int .i64 (0)), .os 1 [], .os 1 [], .os 1 [], .os 1 []]) [], .s (.store 6) [.t 5, .t 23], .m 6 24]) <|
 .seq (.reg [.o 26 (.load true 6) [.t 3], .o 27 (.load true 3) [.t 4], .o 28 (.call 27 []) [.t 26, .t 27], .m 25 28, .e 29 0 25, .e 30 1 25,
 .o 7 (.alloc [.v (.int .i64 (0)), .v (.int .i64 (0)), .os 1 [], .os 1 [], .os 1 [], .os 1 []]) [], .s (.store 6) [.t 7, .t 29], .m 8 30]) <|
 .seq (.seq (.reg [.o 31 (.load true 6) [.t 5], .o 32 (.load true 6) [.t 7], .o 33 (.call 13 []) [.t 31, .t 32], .o 34 (.un .not) [.t 33], .m 35 34,
 .mg 36 6 35 false, .mg 37 8 35 false, .g 38 (.bin .neq 2) [.t 36, .t 37] 35 false, .o 39 .pick [.t 35, .c (.v (.bool true)), .t 38]]) <|
 .cond (.t 39) ( .seq (.reg [.o 2 .mv [.c (.v (.bool false))]]) <| .ret) ( .skip)) <| .seq (.seq (.reg [.m 40 6, .o 41 (.un .not) [.t 40]]) <|
 .cond (.t 41) ( .seq (.reg [.o 42 (.load true 6) [.t 5], .o 43 (.load true 6) [.t 3], .o 44 (.call 13 []) [.t 42, .t 43], .m 45 44,
 .g 46 (.load true 6) [.t 3] 45 false, .g 47 (.call 19 []) [.t 46] 45 false, .g 48 (.un .not) [.t 47] 45 false, .o 49 .pick [.t 45, .c (.v (.bool true)), .t 48],
 .m 50 49, .g 51 (.call 17 []) [] 50 true, .o 52 .pick [.t 50, .t 51, .c (.v (.bool false))], .m 2 52]) <| .ret) ( .skip)) <| .seq (.seq (.reg [.f 53 0 4,
 .l 54 53, .o 55 (.bin .neq 0) [.t 54, .k 4]]) <| .cond (.t 55) ( .seq (.reg [.o 57 (.load true 6) [.t 5], .o 58 (.build [.v (.int .i64 (0)), .v (.int .i64 (0)),
 .v (.int .i64 (0))] [(0, 1)]) [.k 4], .o 59 (.call 18 []) [.t 57, .t 58], .m 56 59, .e 60 0 56, .e 61 1 56, .o 9 (.alloc [.v (.int .i64 (0)),
 .v (.int .i64 (0)), .os 1 [], .os 1 [], .os 1 [], .os 1 []]) [], .s (.store 6) [.t 9, .t 60], .m 10 61]) <| .seq (.reg [.m 62 10, .o 63 (.un .not) [.t 62],
 .m 64 63, .g 65 (.fadr 4) [.t 9] 64 false, .g 66 (.load false 1) [.t 65] 64 false, .g 67 (.fadr 4) [.t 3] 64 false, .g 68 (.load false 1) [.t 67] 64 false,
 .g 69 (.call 36 []) [.t 66, .t 68] 64 false, .g 70 (.un .not) [.t 69] 64 false, .o 71 .pick [.t 64, .c (.v (.bool true)), .t 70], .m 72 71,
 .g 73 (.fadr 5) [.t 3] 72 false, .g 74 (.load false 1) [.t 73] 72 false, .g 75 (.len false) [.t 74] 72 false, .g 76 (.bin .lss 0) [.t 75, .k 20] 72 false,
 .mg 77 76 72 false, .g 78 (.load true 6) [.t 9] 77 true, .g 79 (.load true 6) [.t 3] 77 true, .g 80 (.call 13 []) [.t 78, .t 79] 77 true,
 .g 81 (.un .not) [.t 80] 77 true, .g 82 .pick [.t 77, .t 81, .c (.v (.bool false))] 72 false, .o 83 .pick [.t 72, .c (.v (.bool true)), .t 82]]) <|
 .cond (.t 83) ( .seq (.reg [.o 2 .mv [.c (.v (.bool false))]]) <| .ret) ( .skip)) ( .skip)) <| .seq (.reg [.o 84 (.load true 6) [.t 5],
 .o 85 (.call 19 []) [.t 84], .m 86 85, .g 87 (.load true 6) [.t 5] 86 true, .g 88 (.load true 6) [.t 3] 86 true, .g 89 (.call 13 []) [.t 87, .t 88] 86 true,
 .g 90 (.un .not) [.t 89] 86 true, .o 91 .pick [.t 86, .t 90, .c (.v (.bool false))], .m 92 91, .g 93 (.fadr 0) [.t 5] 92 true,
 .g 94 (.load true 3) [.t 93] 92 true, .g 95 (.fadr 0) [.t 3] 92 true, .g 96 (.load true 3) [.t 95] 92 true, .g 97 (.call 44 []) [.t 94, .t 96] 92 true,
 .o 98 .pick [.t 92, .t 97, .c (.v (.bool false))], .m 99 98, .g 100 (.fadr 3) [.t 5] 99 true, .g 101 (.load false 1) [.t 100] 99 true,
 .g 102 (.fadr 3) [.t 3] 99 true, .g 103 (.load false 1) [.t 102] 99 true, .g 104 (.call 36 []) [.t 101, .t 103] 99 true, .o 105 .pick [.t 99, .t 104,
 .c (.v (.bool false))], .m 2 105]) <| .ret

theorem k_laws_FnBookDo : cFn Tryz.prog n_laws_FnBookDo 106 [.t 2] c_laws_FnBookDo := ⟨Tryz.f8, _, Tryz.func8, rfl, by kernel_rfl, by kernel_rfl, by kernel_rfl, by kernel_rfl⟩

end Go.Proofs.Dev

namespace Go.Proofs.Dev
set_option linter.unusedSimpArgs false
set_option maxRecDepth 100000

end Go.Proofs.Dev

namespace Go.Proofs.Dev
set_option linter.unusedSimpArgs false

theorem flatMap_if {α β : Type} (c : α → Bool) (g : α → β) : ∀ l : List α, (l.flatMap fun k => if c k = true then [g k] else []) = (l.filter c).map g
  | [] => rfl
  | a :: l => by
    rw [List.flatMap_cons, flatMap_if c g l, List.filter_cons]
    cases c a <;> simp

def domK (ls : List Int) : List Nat := (List.range ls.length).filter fun k => decide (ati ls k = 1 ∨ ati ls k = 2)
theorem domK_mem {ls : List Int} {k : Nat} : k ∈ domK ls ↔ k < ls.length ∧ (ati ls k = 1 ∨ ati ls k = 2) := by simp [domK]
theorem pairs_map (W T : Int) (ds ls : List Int) : pairsI W T ds ls = (domK ls).map fun k : Nat => pairI (ati ds k) (ati ds (stepI W T k (ati ls k))) := by
  have := flatMap_if (fun k : Nat => decide (ati ls k = 1 ∨ ati ls k = 2)) (fun k : Nat => pairI (ati ds k) (ati ds (stepI W T k (ati ls k)))) (List.range ls.length)
  simp only [decide_eq_true_eq] at this
  exact this

/-- The two cells of a domino. -/
theorem dom_cells {W T : Int} {cs : List Bool} {ls : List Int} {k : Nat} (hr : regB W T cs = true) (hy : laysB W T cs ls = true) (hk : k ∈ domK ls) :
    ∃ t : Nat, stepI W T k (ati ls k) = t ∧ t < cs.length ∧ k < cs.length ∧ k < t ∧ atb cs k = true ∧ atb cs t = true ∧ ati ls t = backI (ati ls k) ∧ stepI W T t (ati ls t) = k := by
  obtain ⟨w1, w2, t1, t2, l1, _⟩ := regB_W hr
  obtain ⟨hk1, hw⟩ := domK_mem.1 hk
  have hl := lays_len hy
  obtain ⟨v1, v4, g3, g4, g5, g6⟩ := lays_at hy hk1 (by omega)
  have sb := step_back (W := W) (T := T) (k := k) (way := ati ls k) w1 (by omega) (by omega) g4
  obtain ⟨t, ht⟩ : ∃ t : Nat, stepI W T k (ati ls k) = t := ⟨(stepI W T k (ati ls k)).toNat, by omega⟩
  have hlt : (k : Int) < stepI W T k (ati ls k) := by
    unfold stepI at g4 ⊢
    rcases hw with h | h <;> rw [h] at g4 ⊢ <;> simp at g4 ⊢ <;> split at g4 <;> first | omega | (rename_i hc; rw [if_pos hc]; omega)
  rw [ht] at g5 g6 sb hlt
  exact ⟨t, ht, by omega, by omega, by omega, g3, g5, g6, by rw [g6]; exact sb.1⟩

/-! Made puzzles. -/
/-- The domino of a cell, seen from behind. -/
theorem back_cells {W T : Int} {cs : List Bool} {ls : List Int} {j : Nat} (hr : regB W T cs = true) (hy : laysB W T cs ls = true) (hj : j < ls.length) (hw : 3 ≤ ati ls j) :
    ∃ k : Nat, stepI W T j (ati ls j) = k ∧ k ∈ domK ls ∧ stepI W T k (ati ls k) = j := by
  obtain ⟨w1, w2, t1, t2, l1, _⟩ := regB_W hr
  have hl := lays_len hy
  obtain ⟨v1, v4, g3, g4, g5, g6⟩ := lays_at hy hj (by omega)
  have sb := step_back (W := W) (T := T) (k := j) (way := ati ls j) w1 (by omega) (by omega) g4
  obtain ⟨k, hk⟩ : ∃ k : Nat, stepI W T j (ati ls j) = k := ⟨(stepI W T j (ati ls j)).toNat, by omega⟩
  rw [hk] at g6 sb
  have hb : backI (ati ls j) = 1 ∨ backI (ati ls j) = 2 := by unfold backI; omega
  refine ⟨k, hk, domK_mem.2 ⟨by omega, by omega⟩, by rw [g6]; exact sb.1⟩

end Go.Proofs.Dev

namespace Go.Proofs.Dev
set_option linter.unusedSimpArgs false

def cellK (cs : List Bool) : List Nat := (List.range cs.length).filter fun k : Nat => atb cs k
def bareK (cs : List Bool) (ls : List Int) : List Nat := (List.range cs.length).filter fun k : Nat => atb cs k && decide (ati ls k = 0)
def toK (W T : Int) (ls : List Int) : List Nat := (domK ls).map fun k : Nat => (stepI W T k (ati ls k)).toNat

theorem manyOf_filter (cs : List Bool) : ∀ n, n ≤ cs.length → manyOf (cs.take n) = ((List.range n).filter fun k : Nat => atb cs k).length
  | 0, _ => by simp [manyOf]
  | n + 1, h => by
    rw [manyOf_take cs n (by omega), manyOf_filter cs n (by omega), List.range_succ, List.filter_append, List.length_append]
    congr 1
    by_cases hc : atb cs n = true <;> simp [hc]
theorem cellK_length (cs : List Bool) : (cellK cs).length = manyOf cs := by
  have := manyOf_filter cs cs.length (Nat.le_refl _)
  rw [List.take_length] at this
  exact this.symm

theorem range_nodup (n : Nat) : (List.range n).Nodup := List.nodup_range
theorem domK_nodup (ls : List Int) : (domK ls).Nodup := (range_nodup _).filter _

theorem nodup_map_on {α β : Type} {f : α → β} : ∀ {l : List α}, l.Nodup → (∀ x ∈ l, ∀ y ∈ l, f x = f y → x = y) → (l.map f).Nodup
  | [], _, _ => by simp
  | a :: l, hn, h => by
    rw [List.nodup_cons] at hn
    rw [List.map_cons, List.nodup_cons]
    refine ⟨?_, nodup_map_on hn.2 fun x hx y hy => h x (by simp [hx]) y (by simp [hy])⟩
    intro hm
    obtain ⟨y, hy, e⟩ := List.mem_map.1 hm
    have := h y (by simp [hy]) a (by simp) e
    subst this
    exact hn.1 hy

theorem nodup_append_of {α : Type} : ∀ {l m : List α}, l.Nodup → m.Nodup → (∀ x ∈ l, x ∉ m) → (l ++ m).Nodup
  | [], m, _, hm, _ => hm
  | a :: l, m, hl, hm, h => by
    rw [List.nodup_cons] at hl
    rw [List.cons_append, List.nodup_cons]
    refine ⟨?_, nodup_append_of hl.2 hm fun x hx => h x (by simp [hx])⟩
    intro hx
    rcases List.mem_append.1 hx with h1 | h1
    · exact hl.1 h1
    · exact h a (by simp) h1

theorem nodup_le' {l m : List Nat} (hn : l.Nodup) (h : ∀ x ∈ l, x ∈ m) : l.length ≤ m.length := by
  have h1 : (l.map Int.ofNat).Nodup := nodup_map_on hn fun x _ y _ e => by simp at e; omega
  have := nodup_le (m := m.map Int.ofNat) h1 (by
    intro x hx
    obtain ⟨y, hy, rfl⟩ := List.mem_map.1 hx
    exact List.mem_map.2 ⟨y, h y hy, rfl⟩)
  simpa using this

theorem domK_length (ls : List Int) : (domK ls).length = domN ls := by
  have h1 := pairs_domN 1 1 [] ls
  rw [pairs_map, List.length_map] at h1
  exact h1

/-- Every cell of the region is one of a domino or bare. -/
theorem cells_count {W T : Int} {cs : List Bool} {ls : List Int} (hr : regB W T cs = true) (hy : laysB W T cs ls = true) : manyOf cs = 2 * domN ls + (bareK cs ls).length := by
  have hl := lays_len hy
  have to_mem : ∀ t, t ∈ toK W T ls ↔ ∃ k, k ∈ domK ls ∧ (stepI W T k (ati ls k)).toNat = t := by intro t; simp [toK]
  have hto : (toK W T ls).Nodup := by
    refine nodup_map_on (domK_nodup ls) ?_
    intro x hx y hy2 e
    obtain ⟨t, e1, _, _, _, _, _, _, b1⟩ := dom_cells hr hy hx
    obtain ⟨s, e2, _, _, _, _, _, _, b2⟩ := dom_cells hr hy hy2
    rw [e1, e2] at e
    have : t = s := by simpa using e
    subst this
    omega
  have hback : ∀ t, t ∈ toK W T ls → t < cs.length ∧ atb cs t = true ∧ 3 ≤ ati ls t := by
    intro t ht
    obtain ⟨k, hk, e⟩ := (to_mem t).1 ht
    obtain ⟨s, e1, h1, _, _, _, h5, h6, _⟩ := dom_cells hr hy hk
    rw [e1] at e
    have : s = t := by simpa using e
    subst this
    refine ⟨h1, h5, ?_⟩
    rw [h6]
    have := (domK_mem.1 hk).2
    unfold backI; omega
  have hbare : ∀ k, k ∈ bareK cs ls ↔ k < cs.length ∧ atb cs k = true ∧ ati ls k = 0 := by intro k; simp [bareK, and_assoc]
  have hcell : ∀ k, k ∈ cellK cs ↔ k < cs.length ∧ atb cs k = true := by intro k; simp [cellK]
  have hnd : (domK ls ++ (toK W T ls ++ bareK cs ls)).Nodup := by
    refine nodup_append_of (domK_nodup ls) (nodup_append_of hto ((range_nodup _).filter _) ?_) ?_
    · intro x hx hb
      have h1 := (hback x hx).2.2
      have h2 := ((hbare x).1 hb).2.2
      omega
    · intro x hx hm
      have h0 := (domK_mem.1 hx).2
      rcases List.mem_append.1 hm with h1 | h1
      · have := (hback x h1).2.2; omega
      · have := ((hbare x).1 h1).2.2; omega
  have hle := nodup_le' (m := cellK cs) hnd (by
    intro x hx
    rw [hcell]
    rcases List.mem_append.1 hx with h1 | h1
    · obtain ⟨t, _, _, h2, _, h3, _⟩ := dom_cells hr hy h1
      exact ⟨h2, h3⟩
    · rcases List.mem_append.1 h1 with h2 | h2
      · exact ⟨(hback x h2).1, (hback x h2).2.1⟩
      · exact ⟨((hbare x).1 h2).1, ((hbare x).1 h2).2.1⟩)
  have hge := nodup_le' (l := cellK cs) (m := domK ls ++ (toK W T ls ++ bareK cs ls)) ((range_nodup _).filter _) (by
    intro x hx
    obtain ⟨h1, h2⟩ := (hcell x).1 hx
    rw [List.mem_append, List.mem_append]
    by_cases hz : ati ls x = 0
    · exact .inr (.inr ((hbare x).2 ⟨h1, h2, hz⟩))
    obtain ⟨v1, v4, _⟩ := lays_at hy (show x < ls.length by omega) hz
    by_cases hd : ati ls x = 1 ∨ ati ls x = 2
    · exact .inl (domK_mem.2 ⟨by omega, hd⟩)
    obtain ⟨k, _, hk, e⟩ := back_cells hr hy (show x < ls.length by omega) (by omega)
    exact .inr (.inl ((to_mem x).2 ⟨k, hk, by rw [e]; simp⟩)))
  simp only [List.length_append, cellK_length, domK_length, toK, List.length_map] at hle hge
  omega

theorem bareK_full {cs : List Bool} {ls : List Int} : (bareK cs ls).length = 0 ↔ fullB cs ls = true := by
  rw [List.length_eq_zero_iff]
  simp only [bareK, List.filter_eq_nil_iff, List.mem_range, fullB, allB_iff, fullAt]
  constructor
  · intro h k hk
    have := h k hk
    cases hc : atb cs k <;> simp [hc] at this ⊢
    exact this
  · intro h k hk
    have := h k hk
    cases hc : atb cs k <;> simp [hc] at this ⊢
    exact this

end Go.Proofs.Dev

namespace Go.Proofs.Dev
set_option linter.unusedSimpArgs false
set_option maxRecDepth 100000

def drawB (r : AV) (ups : List AV) : Prop := ∃ (W T : Int) (cs : List Bool) (ds ls : List Int) (ps : List (List Int)), cs.length ≤ 37 ∧ ds.length ≤ 38 ∧ ls.length ≤ 38 ∧ ps.length ≤ 21 ∧ (∀ x ∈ ps, x.length ≤ 37) ∧ r = bkO W T cs ds ls ps ∧ ups = [.bot]

theorem s_spec_DrawCellsLeft (bs : List Int) (hb : bs.length ≤ 2 ^ 60) (hB : Byt bs) : SoundSet Tryz.prog n_spec_DrawCellsLeft [.sl 0 1 (u8s bs)] drawB := by
  refine fn_okS (md := md8) (ms := [false]) k_spec_DrawCellsLeft (by simp) ?_
  simp [c_spec_DrawCellsLeft]
  refine call_on (s_spec_l20Open bs hb) ?_
  simp
  refine call_onK (s_spec_l20Book (bs.take 2000) 0 9 (by simp; omega) (byt_take hB 2000) (by omega) (by omega) (by omega)) [1] (by simp) (by simp) (by simp) ?_
  rintro _ _ ⟨W, T, cs, ds, ls, ps, q, h1, h2, h3, h4, h5, _, rfl, rfl⟩
  have t1 : (oss ps).take ps.length = oss ps := List.take_of_length_le (by simp [oss])
  simp
  refine ⟨_, _, ⟨W, T, cs, ds, ls, ps, h1, h2, h3, h4, h5, rfl, rfl⟩, ?_⟩
  simp [t1]

theorem left_facts (W T : Int) (cs : List Bool) (ds ls : List Int) (ps : List (List Int)) :
    (bookB W T cs ds ls ps = false ∧ leftI W T cs ds ls ps = -1) ∨ (bookB W T cs ds ls ps = true ∧ regB W T cs = true ∧ laysB W T cs ls = true ∧ manyOf cs ≤ 24 ∧ ∃ n : Nat, leftI W T cs ds ls ps = n ∧ manyOf cs = 2 * domN ls + n ∧ (n = 0 ↔ fullB cs ls = true)) := by
  unfold leftI
  cases h : bookB W T cs ds ls ps with
  | false => exact .inl ⟨rfl, rfl⟩
  | true =>
    obtain ⟨hr, hd, hy, ho⟩ := fair_parts (book_parts h).1
    have hc := cells_count hr hy
    obtain ⟨_, _, _, _, _, h24⟩ := regB_W hr
    exact .inr ⟨rfl, hr, hy, h24, (bareK cs ls).length, by rw [if_pos rfl]; omega, hc, bareK_full⟩

theorem l_FnCellsLeft (bs : List Int) (hB : Byt bs) : SoundAt Tryz.prog n_laws_FnCellsLeft [.sl 0 1 (u8s bs)] (.v (.bool true)) [.bot] := by
  refine fn_ok (md := md8) (ms := [false]) k_laws_FnCellsLeft (by simp) ?_
  simp [c_laws_FnCellsLeft]
  refine fun hsz => ?_
  have hb : bs.length ≤ 2 ^ 60 := by omega
  refine call_onK (s_spec_DrawCellsLeft bs hb hB) [] (by simp) (by simp) (by simp) ?_
  rintro _ _ ⟨W, T, cs, ds, ls, ps, h1, h2, h3, h4, h5, rfl, rfl⟩
  have hp : ∀ p ∈ ps, p.length < 2 ^ 40 := fun p hp => by have := h5 p hp; omega
  have one := s_impl_CellsLeft W T cs ds ls ps (by omega) (by omega) (by omega) (by omega) hp
  have two := s_spec_CellsLeft W T cs ds ls ps (by omega) (by omega) (by omega) (by omega) hp
  have three := s_impl_CellsMany W T cs (by omega)
  have four := s_impl_BookSolved W T cs ds ls ps (by omega) (by omega) (by omega) (by omega) hp
  have five := s_impl_TilingOk W T cs ls (by omega) (by omega)
  have lf := left_facts W T cs ds ls ps
  unfold bsolB at four
  generalize leftI W T cs ds ls ps = n at *
  simp
  refine call_on one ?_
  simp
  refine call_on two ?_
  simp
  rcases lf with ⟨hv, rfl⟩ | ⟨hv, hr, hy, h24, m, rfl, hm, hz⟩
  · simp
    refine call_on s_laws_alive ?_
    simp
  · rw [hr] at three
    rw [hv] at four
    rw [hr, hy] at five
    simp
    refine call_on three ?_
    have e2 : ((m : Int) % 2 == (manyOf cs : Int) % 2) = true := by
      simp; omega
    simp [e2]
    refine call_on four ?_
    cases hf : fullB cs ls with
    | true =>
      have : m = 0 := hz.2 hf
      subst this
      rw [hf] at five
      simp
      refine call_on five ?_
      simp
    | false =>
      have hm0 : m ≠ 0 := fun h => by rw [hz.1 h] at hf; cases hf
      rw [hf] at five
      simp [hm0]
      refine call_on five ?_
      simp
      exact hm0
end Go.Proofs.Dev

namespace Go.Proofs.Dev
set_option linter.unusedSimpArgs false
set_option maxRecDepth 100000

def liftD (ls ws : List Int) (k : Nat) : List (Int × Int × Int) := if (ati ls k = 1 ∨ ati ls k = 2) ∧ ati ws k ≠ ati ls k then [(1, (k : Int), 0)] else []
def layD (ls ws : List Int) (k : Nat) : List (Int × Int × Int) := if (ati ws k = 1 ∨ ati ws k = 2) ∧ ati ws k ≠ ati ls k then [(0, (k : Int), ati ws k)] else []
def liftsTo (ls ws : List Int) (n : Nat) : List (Int × Int × Int) := (List.range n).flatMap (liftD ls ws)
def laysTo (ls ws : List Int) (n : Nat) : List (Int × Int × Int) := (List.range n).flatMap (layD ls ws)
theorem liftsTo_succ (ls ws : List Int) (n : Nat) : liftsTo ls ws (n + 1) = liftsTo ls ws n ++ liftD ls ws n := by simp [liftsTo, List.range_succ]
theorem laysTo_succ (ls ws : List Int) (n : Nat) : laysTo ls ws (n + 1) = laysTo ls ws n ++ layD ls ws n := by simp [laysTo, List.range_succ]
theorem liftsTo_length (ls ws : List Int) : ∀ n, (liftsTo ls ws n).length ≤ n
  | 0 => by simp [liftsTo]
  | n + 1 => by
    have := liftsTo_length ls ws n
    rw [liftsTo_succ, List.length_append]
    have : (liftD ls ws n).length ≤ 1 := by unfold liftD; split <;> simp
    omega
theorem laysTo_length (ls ws : List Int) : ∀ n, (laysTo ls ws n).length ≤ n
  | 0 => by simp [laysTo]
  | n + 1 => by
    have := laysTo_length ls ws n
    rw [laysTo_succ, List.length_append]
    have : (layD ls ws n).length ≤ 1 := by unfold layD; split <;> simp
    omega
def endT (ls ws : List Int) : List (Int × Int × Int) := liftsTo ls ws ws.length ++ laysTo ls ws ws.length
def bareL (W T : Int) (cs : List Bool) : List Int := if regB W T cs then noneL cs else []
def endI (W T : Int) (cs : List Bool) (ds ls : List Int) (ps : List (List Int)) : List (Int × Int × Int) :=
  if (bookB W T cs ds ls ps && solB W T cs ds (bareL W T cs)) = true then endT ls (solL W T cs ds (bareL W T cs)) else []

theorem t_spec_EndDeeds (W T : Int) (cs : List Bool) (ds ls : List Int) (ps : List (List Int)) (ws : List Int) (sb : Bool) (hc : cs.length < 2 ^ 40) (hd : ds.length < 2 ^ 40) (hl : ls.length < 2 ^ 40) (hb : ps.length < 2 ^ 40) (hp : ∀ p ∈ ps, p.length < 2 ^ 40)
    (hws : bookB W T cs ds ls ps = true → sb = true → ls.length = ws.length ∧ ws.length ≤ 36) :
    awp Tryz.prog md3 c_spec_EndDeeds_T2 (Fin [RV.t 2] 105 1 [false] (AV.os 3 (dsA (if (bookB W T cs ds ls ps && sb) = true then endT ls ws else []))) [AV.bot])
      [(1, .lp 0 0 0 0), (3, .ls 3 1 0 0), (4, .sl 0 1 (ints ws)), (5, .v (.bool sb))]
      [some (.box [.v (.int .i64 W), .v (.int .i64 T), .sl 1 1 (bools cs), .sl 1 1 (ints ds), .sl 1 1 (ints ls), .sl 1 1 (sls 1 ps)]), some (.arr 3 [])] := by
  cases sb with
  | false => simp [c_spec_EndDeeds_T2]
  | true =>
  simp [c_spec_EndDeeds_T2]
  refine call_on (s_spec_BookValid W T cs ds ls ps hc hd hl hb hp) ?_
  cases hbk : bookB W T cs ds ls ps with
  | false => simp
  | true =>
  obtain ⟨e1, e2⟩ := hws hbk rfl
  simp
  refine loop_by (fun m E H => ∃ i : Nat, m = ws.length - i ∧ i ≤ ws.length ∧ H = [some (.box [.v (.int .i64 W), .v (.int .i64 T), .sl 1 1 (bools cs), .sl 1 1 (ints ds), .sl 1 1 (ints ls), .sl 1 1 (sls 1 ps)]), some (.arr 3 (dsA (liftsTo ls ws i)))] ∧
    E = [(1, .lp 0 0 0 0), (3, .ls 3 1 0 (liftsTo ls ws i).length), (4, .sl 0 1 (ints ws)), (6, .v (.int .i64 i))]) ws.length ⟨0, by simp [liftsTo]⟩ ?_
  rintro J hJ m E H ⟨i, rfl, hi, rfl, rfl⟩
  have hlen := liftsTo_length ls ws i
  have hsuc := liftsTo_succ ls ws i
  by_cases h : i < ws.length
  · have h2 : i < ls.length := by omega
    have nx1 : liftD ls ws i = [] → again J (ws.length - i) [(1, .lp 0 0 0 0), (3, .ls 3 1 0 (liftsTo ls ws i).length), (4, .sl 0 1 (ints ws)), (6, .v (.int .i64 (i + 1)))]
        [some (.box [.v (.int .i64 W), .v (.int .i64 T), .sl 1 1 (bools cs), .sl 1 1 (ints ds), .sl 1 1 (ints ls), .sl 1 1 (sls 1 ps)]), some (.arr 3 (dsA (liftsTo ls ws i)))] :=
      fun e => ⟨_, by omega, hJ _ _ _ ⟨i + 1, rfl, h, by rw [hsuc, e, List.append_nil], by rw [hsuc, e, List.append_nil]; rfl⟩⟩
    have nx2 : liftD ls ws i = [(1, (i : Int), 0)] → again J (ws.length - i) [(1, .lp 0 0 0 0), (3, .ls 3 1 0 ((liftsTo ls ws i).length + 1)), (4, .sl 0 1 (ints ws)), (6, .v (.int .i64 (i + 1)))]
        [some (.box [.v (.int .i64 W), .v (.int .i64 T), .sl 1 1 (bools cs), .sl 1 1 (ints ds), .sl 1 1 (ints ls), .sl 1 1 (sls 1 ps)]), some (.arr 3 (dsA (liftsTo ls ws i) ++ [.agg [.v (.int .i64 1), .v (.int .i64 i), .v (.int .i64 0)]]))] :=
      fun e => ⟨_, by omega, hJ _ _ _ ⟨i + 1, rfl, h, by rw [hsuc, e, dsA_append]; rfl, by rw [hsuc, e, List.length_append]; rfl⟩⟩
    have hio : i < 36 := by omega
    by_cases hw1 : ati ls i = 1
    · by_cases hw3 : ati ws i = 1
      · have nx := nx1 (by simp [liftD, hw1, hw3])
        simp [c_spec_EndDeeds_L0, h, h2, hw1, hw3]
        exact ⟨by omega, nx⟩
      · have nx := nx2 (by simp [liftD, hw1, hw3])
        simp [c_spec_EndDeeds_L0, h, h2, hw1, hw3]
        exact ⟨by omega, by omega, nx⟩
    · by_cases hw2 : ati ls i = 2
      · by_cases hw3 : ati ws i = 2
        · have nx := nx1 (by simp [liftD, hw2, hw3])
          simp [c_spec_EndDeeds_L0, h, h2, hw2, hw3]
          exact ⟨by omega, nx⟩
        · have nx := nx2 (by simp [liftD, hw2, hw3])
          simp [c_spec_EndDeeds_L0, h, h2, hw2, hw3]
          exact ⟨by omega, by omega, nx⟩
      · have nx := nx1 (by simp [liftD, hw1, hw2])
        simp [c_spec_EndDeeds_L0, h, h2, hw1, hw2]
        exact ⟨by omega, nx⟩
  · have : i = ws.length := by omega
    subst this
    simp [c_spec_EndDeeds_L0]
    clear hJ J
    have hL : (liftsTo ls ws ws.length).length ≤ 36 := by omega
    have hE : endT ls ws = liftsTo ls ws ws.length ++ laysTo ls ws ws.length := rfl
    rw [hE]
    generalize liftsTo ls ws ws.length = L at *
    refine loop_by (fun m E H => ∃ i : Nat, m = ws.length - i ∧ i ≤ ws.length ∧ H = [some (.box [.v (.int .i64 W), .v (.int .i64 T), .sl 1 1 (bools cs), .sl 1 1 (ints ds), .sl 1 1 (ints ls), .sl 1 1 (sls 1 ps)]), some (.arr 3 (dsA (L ++ laysTo ls ws i)))] ∧
      E = [(1, .lp 0 0 0 0), (3, .ls 3 1 0 (L ++ laysTo ls ws i).length), (4, .sl 0 1 (ints ws)), (7, .v (.int .i64 i))]) ws.length ⟨0, by simp [laysTo]⟩ ?_
    rintro J hJ m E H ⟨i, rfl, hi, rfl, rfl⟩
    have hlen : (L ++ laysTo ls ws i).length ≤ 36 + i := by
      have := laysTo_length ls ws i
      rw [List.length_append]; omega
    have hsuc : L ++ laysTo ls ws (i + 1) = (L ++ laysTo ls ws i) ++ layD ls ws i := by rw [laysTo_succ, List.append_assoc]
    by_cases h : i < ws.length
    case neg =>
      have : i = ws.length := by omega
      subst this
      simp only [c_spec_EndDeeds_L1]
      generalize L ++ laysTo ls ws ws.length = M at *
      simp
      exact List.take_of_length_le (by simp)
    have h2 : i < ls.length := by omega
    generalize L ++ laysTo ls ws i = M at *
    have nx1 : layD ls ws i = [] → again J (ws.length - i) [(1, .lp 0 0 0 0), (3, .ls 3 1 0 M.length), (4, .sl 0 1 (ints ws)), (7, .v (.int .i64 (i + 1)))]
        [some (.box [.v (.int .i64 W), .v (.int .i64 T), .sl 1 1 (bools cs), .sl 1 1 (ints ds), .sl 1 1 (ints ls), .sl 1 1 (sls 1 ps)]), some (.arr 3 (dsA (M)))] :=
      fun e => ⟨_, by omega, hJ _ _ _ ⟨i + 1, rfl, h, by rw [hsuc, e, List.append_nil], by rw [hsuc, e, List.append_nil]; rfl⟩⟩
    have nx2 : layD ls ws i = [(0, (i : Int), ati ws i)] → again J (ws.length - i) [(1, .lp 0 0 0 0), (3, .ls 3 1 0 (M.length + 1)), (4, .sl 0 1 (ints ws)), (7, .v (.int .i64 (i + 1)))]
        [some (.box [.v (.int .i64 W), .v (.int .i64 T), .sl 1 1 (bools cs), .sl 1 1 (ints ds), .sl 1 1 (ints ls), .sl 1 1 (sls 1 ps)]), some (.arr 3 (dsA (M) ++ [.agg [.v (.int .i64 0), .v (.int .i64 i), .v (.int .i64 (ati ws i))]]))] :=
      fun e => ⟨_, by omega, hJ _ _ _ ⟨i + 1, rfl, h, by rw [hsuc, e, dsA_append]; rfl, by rw [hsuc, e, List.length_append]; rfl⟩⟩
    have hio : i < 36 := by omega
    by_cases hw1 : ati ws i = 1
    · by_cases hw3 : ati ls i = 1
      · have nx := nx1 (by simp [layD, hw1, hw3])
        simp [c_spec_EndDeeds_L1, h, h2, hw1, hw3]
        exact ⟨by omega, nx⟩
      · have hw3' : ¬ (1 : Int) = ati ls i := fun e => hw3 e.symm
        have nx := nx2 (by simp [layD, hw1, hw3'])
        rw [hw1] at nx
        simp [c_spec_EndDeeds_L1, h, h2, hw1, hw3, hw3']
        exact ⟨by omega, by omega, nx⟩
    · by_cases hw2 : ati ws i = 2
      · by_cases hw3 : ati ls i = 2
        · have nx := nx1 (by simp [layD, hw2, hw3])
          simp [c_spec_EndDeeds_L1, h, h2, hw2, hw3]
          exact ⟨by omega, nx⟩
        · have hw3' : ¬ (2 : Int) = ati ls i := fun e => hw3 e.symm
          have nx := nx2 (by simp [layD, hw2, hw3'])
          rw [hw2] at nx
          simp [c_spec_EndDeeds_L1, h, h2, hw2, hw3, hw3']
          exact ⟨by omega, by omega, nx⟩
      · have nx := nx1 (by simp [layD, hw1, hw2])
        simp [c_spec_EndDeeds_L1, h, h2, hw1, hw2]
        exact ⟨by omega, nx⟩

theorem end_len {W T : Int} {cs : List Bool} {ds ls : List Int} {ps : List (List Int)} {b : List Int} (h1 : bookB W T cs ds ls ps = true) (h2 : solB W T cs ds b = true) :
    ls.length = (solL W T cs ds b).length ∧ (solL W T cs ds b).length ≤ 36 ∧ ds.length = cs.length := by
  have hok := okB_W (fairB_ok (bookB_fair h1))
  unfold solB at h2
  unfold solL
  cases hf : firstHas W T cs ds b with
  | none => rw [hf] at h2; cases h2
  | some x =>
    have e := (firstHas_some hf).2
    have := regB_len hok.1
    simp only [Option.getD_some]
    exact ⟨by omega, by omega, hok.2.1⟩

theorem s_spec_EndDeeds (W T : Int) (cs : List Bool) (ds ls : List Int) (ps : List (List Int)) (hc : cs.length < 2 ^ 40) (hd : ds.length < 2 ^ 40) (hl : ls.length < 2 ^ 40) (hb : ps.length < 2 ^ 40) (hp : ∀ p ∈ ps, p.length < 2 ^ 40) :
    SoundAt Tryz.prog n_spec_EndDeeds [bkA W T cs ds ls ps] (.os 3 (dsA (endI W T cs ds ls ps))) [.bot] := by
  have tl := t_spec_EndDeeds W T cs ds ls ps (solL W T cs ds (bareL W T cs)) (solB W T cs ds (bareL W T cs)) hc hd hl hb hp (fun h1 h2 => ⟨(end_len h1 h2).1, (end_len h1 h2).2.1⟩)
  refine fn_ok (md := md3) (ms := [false]) k_spec_EndDeeds (by simp) ?_
  simp [c_spec_EndDeeds]
  (repeat' first | apply And.intro) <;>
  · refine call_on (s_spec_LaidBare W T cs hc) ?_
    simp
    have hbl : (if regB W T cs = true then noneL cs else []).length < 2 ^ 40 := by split <;> simp [noneL] <;> omega
    (repeat' first | apply And.intro) <;>
    · refine call_on (s_spec_SolveFirstU W T cs ds _ hc hd hbl) ?_
      simp
      exact tl

end Go.Proofs.Dev

namespace Go.Proofs.Dev
set_option linter.unusedSimpArgs false
set_option maxRecDepth 100000

theorem end_le (W T : Int) (cs : List Bool) (ds ls : List Int) (ps : List (List Int)) : (endI W T cs ds ls ps).length ≤ 100 := by
  unfold endI
  split
  · rename_i h
    simp only [Bool.and_eq_true] at h
    have e := end_len h.1 h.2
    have h1 := liftsTo_length ls (solL W T cs ds (bareL W T cs)) (solL W T cs ds (bareL W T cs)).length
    have h2 := laysTo_length ls (solL W T cs ds (bareL W T cs)) (solL W T cs ds (bareL W T cs)).length
    unfold endT
    simp
    omega
  · simp
theorem end_none {W T : Int} {cs : List Bool} {ds ls : List Int} {ps : List (List Int)} (h : bookB W T cs ds ls ps = false) : endI W T cs ds ls ps = [] := by simp [endI, h]

abbrev dbsH (bs : List Int) (q : Nat) (W T : Int) (cs : List Bool) (ds ls : List Int) (ps : List (List Int)) (xs : List (Int × Int × Int)) : Heap :=
  [some (.box [.v (.int .i64 0), .v (.int .i64 0), .os 1 [], .os 1 [], .os 1 [], .os 1 []]), some (.box [.sl 0 1 (u8s bs), .v (.int .i64 q)]), some (.box (bkcs 4 W T cs ds ls ps)), some (.arr 3 (dsA xs)),
    some (.arr 1 (bools cs)), some (.arr 1 (ints ds)), some (.arr 1 (ints ls)), some (.arr 1 (oss ps))]
abbrev dbsE (n : Nat) (i : Int) : ES := [(2, .lp 0 0 0 0), (3, .lp 0 1 0 0), (4, .lp 0 2 0 0), (5, .ls 3 3 0 n), (6, .v (.int .i64 i))]

set_option maxHeartbeats 20000000 in
theorem dbs_L0 (bs : List Int) (q : Nat) (W T : Int) (cs : List Bool) (ds ls : List Int) (ps : List (List Int)) (xs : List (Int × Int × Int)) (hb : bs.length ≤ 2000) (hB : Byt bs) (hq : q ≤ 2000) (hx : xs.length ≤ 100) (hk : xs = [] ∨ bookB W T cs ds ls ps = true) (Qc : AExit → ES → Heap → Prop)
    (hend : ∀ (q2 : Nat) (W2 T2 : Int) (cs2 : List Bool) (ds2 ls2 : List Int) (ps2 : List (List Int)) (E : ES), bookB W2 T2 cs2 ds2 ls2 ps2 = true ∨ (W2 = W ∧ T2 = T ∧ cs2 = cs ∧ ds2 = ds ∧ ls2 = ls ∧ ps2 = ps) → get E 2 = .lp 0 0 0 0 → get E 4 = .lp 0 2 0 0 → Qc (.exit 0) E (dbsH bs q2 W2 T2 cs2 ds2 ls2 ps2 xs)) :
    loopNode [(5, 3)] [2, 3, 4, 5, 6] (awp Tryz.prog md8 c_spec_DrawBookSolved_L0) Qc (dbsE xs.length 0) (dbsH bs q W T cs ds ls ps xs) := by
  refine loop_by (fun m E H => ∃ (i q2 : Nat) (W2 T2 : Int) (cs2 : List Bool) (ds2 ls2 : List Int) (ps2 : List (List Int)), m = xs.length - i ∧ i ≤ xs.length ∧ q2 ≤ q + i ∧ (xs ≠ [] → bookB W2 T2 cs2 ds2 ls2 ps2 = true) ∧
    (bookB W2 T2 cs2 ds2 ls2 ps2 = true ∨ (W2 = W ∧ T2 = T ∧ cs2 = cs ∧ ds2 = ds ∧ ls2 = ls ∧ ps2 = ps)) ∧ E = dbsE xs.length i ∧ H = dbsH bs q2 W2 T2 cs2 ds2 ls2 ps2 xs) xs.length
    ⟨0, q, W, T, cs, ds, ls, ps, rfl, by omega, by omega, fun h => hk.resolve_left h, .inr ⟨rfl, rfl, rfl, rfl, rfl, rfl⟩, rfl, rfl⟩ ?_
  rintro J hJ m E H ⟨i, q2, W2, T2, cs2, ds2, ls2, ps2, rfl, hi, hq2, hv, hs, rfl, rfl⟩
  by_cases h : i < xs.length
  case neg =>
    have : i = xs.length := by omega
    subst this
    simp [c_spec_DrawBookSolved_L0]
    exact hend q2 W2 T2 cs2 ds2 ls2 ps2 _ hs rfl rfl
  have hv := hv (by intro e; subst e; simp at h)
  obtain ⟨hf, h20, hpf⟩ := book_parts hv
  have fl := fair_len hf
  simp [c_spec_DrawBookSolved_L0, h]
  refine call_onK (s_spec_l20Rd_pick bs q2 9 hb hB (by omega)) [1] (by simp) (by simp) (by simp) ?_
  rintro _ _ ⟨x, x0, x1, rfl, rfl⟩
  by_cases hx0 : 0 < x
  case neg =>
    simp [hx0]
    exact hend (q2 + 1) W2 T2 cs2 ds2 ls2 ps2 _ hs rfl rfl
  have hg : (dsA xs)[i]? = some (deedA xs[i]) := dsA_get h
  obtain ⟨⟨k, s, w⟩, hd⟩ : ∃ d : Int × Int × Int, xs[i] = d := ⟨_, rfl⟩
  rw [hd] at hg
  have bd := s_spec_BookDo W2 T2 cs2 ds2 ls2 ps2 k s w (by omega) (by omega) (by omega) (by omega) (fun p hp => by have := fair_len (hpf p hp); omega)
  rw [hv] at bd
  simp only [if_true] at bd
  have hv2 := do_ok k s w hv
  generalize doI W2 T2 cs2 ds2 ls2 ps2 k s w = r at *
  obtain ⟨d, l3, p3⟩ := r
  simp only at bd hv2
  have nx := hJ (xs.length - (i + 1)) (dbsE xs.length (i + 1)) (dbsH bs (q2 + 1) W2 T2 cs2 ds2 l3 p3 xs) ⟨i + 1, q2 + 1, W2, T2, cs2, ds2, l3, p3, rfl, by omega, by omega, fun _ => hv2, .inl hv2, by simp, rfl⟩
  simp [hx0, h, hg, deedA, hd]
  (repeat' first | omega | apply And.intro) <;>
  · refine call_on bd ?_
    simp
    first
    | exact ⟨by omega, _, by omega, nx⟩
    | exact ⟨_, by omega, nx⟩

theorem s_spec_DrawBookSolved (bs : List Int) (hb : bs.length ≤ 2 ^ 60) (hB : Byt bs) : SoundSet Tryz.prog n_spec_DrawBookSolved [.sl 0 1 (u8s bs)] drawB := by
  refine fn_okS (md := md8) (ms := [false]) k_spec_DrawBookSolved (by simp) ?_
  simp [c_spec_DrawBookSolved]
  refine call_on (s_spec_l20Open bs hb) ?_
  simp
  refine call_onK (s_spec_l20Book (bs.take 2000) 0 9 (by simp; omega) (byt_take hB 2000) (by omega) (by omega) (by omega)) [1] (by simp) (by simp) (by simp) ?_
  rintro _ _ ⟨W, T, cs, ds, ls, ps, q, h1, h2, h3, h4, h5, hq, rfl, rfl⟩
  have hp : ∀ p ∈ ps, p.length < 2 ^ 40 := fun p hp => by have := h5 p hp; omega
  have ed := s_spec_EndDeeds W T cs ds ls ps (by omega) (by omega) (by omega) (by omega) hp
  have hle := end_le W T cs ds ls ps
  have hk : endI W T cs ds ls ps = [] ∨ bookB W T cs ds ls ps = true := by
    cases hb : bookB W T cs ds ls ps with
    | true => exact .inr rfl
    | false => exact .inl (end_none hb)
  generalize endI W T cs ds ls ps = xs at *
  simp
  refine call_on ed ?_
  simp
  refine dbs_L0 (bs.take 2000) q W T cs ds ls ps xs (by simp; omega) (byt_take hB 2000) (by omega) hle hk _ ?_
  intro q2 W2 T2 cs2 ds2 ls2 ps2 E hv e2 e4
  have hl2 : cs2.length ≤ 37 ∧ ds2.length ≤ 38 ∧ ls2.length ≤ 38 ∧ ps2.length ≤ 21 ∧ ∀ x ∈ ps2, x.length ≤ 37 := by
    rcases hv with hv | ⟨rfl, rfl, rfl, rfl, rfl, rfl⟩
    · obtain ⟨hf, h20, hpf⟩ := book_parts hv
      have fl := fair_len hf
      exact ⟨by omega, by omega, by omega, by omega, fun x hx => by have := fair_len (hpf x hx); omega⟩
    · exact ⟨h1, h2, h3, h4, h5⟩
  have t1 : (oss ps2).take ps2.length = oss ps2 := List.take_of_length_le (by simp [oss])
  simp [e2, e4]
  refine ⟨_, _, ⟨W2, T2, cs2, ds2, ls2, ps2, hl2.1, hl2.2.1, hl2.2.2.1, hl2.2.2.2.1, hl2.2.2.2.2, rfl, rfl⟩, ?_⟩
  simp [e2, e4, t1]

theorem s_impl_SolutionsAllZ (W T : Int) (cs : List Bool) (ds : List Int) (hb : cs.length < 2 ^ 40) (hd : ds.length < 2 ^ 40) :
    SoundAt Tryz.prog n_impl_SolutionsAll [.agg [.v (.int .i64 W), .v (.int .i64 T), .sl 1 1 (bools cs)], .sl 1 1 (ints ds)] (.sl 0 1 (sls 0 (solsI W T cs ds))) [.bot, .bot] := by
  have h := SoundAt.frozen (n := 2) (fun C S us hr => noOL_ok _ S us rfl hr) (s_impl_SolutionsAll W T cs ds hb hd)
  simpa [vw] using h

def memB (ss : List (List Int)) (ls : List Int) (n : Nat) : Bool := decide (ls ∈ ss.take n)
theorem memB_succ (ss : List (List Int)) (ls : List Int) {n : Nat} (h : n < ss.length) : memB ss ls (n + 1) = (memB ss ls n || decide (pti ss n = ls)) := by
  unfold memB
  have e : (ls ∈ ss.take (n + 1)) ↔ (ls ∈ ss.take n ∨ pti ss n = ls) := by
    rw [List.take_succ_eq_append_getElem h, pti_get h, List.mem_append, List.mem_singleton]
    exact ⟨fun h => h.imp id Eq.symm, fun h => h.imp id Eq.symm⟩
  rw [decide_eq_decide.2 e, Bool.decide_or]
theorem memB_all (ss : List (List Int)) (ls : List Int) : memB ss ls ss.length = decide (ls ∈ ss) := by unfold memB; rw [List.take_length]

theorem l_FnBookSolved (bs : List Int) (hB : Byt bs) : SoundAt Tryz.prog n_laws_FnBookSolved [.sl 0 1 (u8s bs)] (.v (.bool true)) [.bot] := by
  refine fn_ok (md := md8) (ms := [false]) k_laws_FnBookSolved (by simp) ?_
  simp [c_laws_FnBookSolved]
  refine fun hsz => ?_
  have hb : bs.length ≤ 2 ^ 60 := by omega
  refine call_onK (s_spec_DrawBookSolved bs hb hB) [] (by simp) (by simp) (by simp) ?_
  rintro _ _ ⟨W, T, cs, ds, ls, ps, h1, h2, h3, h4, h5, rfl, rfl⟩
  have hp : ∀ p ∈ ps, p.length < 2 ^ 40 := fun p hp => by have := h5 p hp; omega
  have one := s_impl_BookSolved W T cs ds ls ps (by omega) (by omega) (by omega) (by omega) hp
  have two := s_spec_BookSolved W T cs ds ls ps (by omega) (by omega) (by omega) (by omega) hp
  have three := s_impl_SolutionsAllZ W T cs ds (by omega) (by omega)
  have five := s_impl_BookValid W T cs ds ls ps (by omega) (by omega) (by omega) (by omega) hp
  have hmem : bsolB W T cs ds ls ps = (decide (ls ∈ solsI W T cs ds) && bookB W T cs ds ls ps) := by
    have e : decide (ls ∈ solsI W T cs ds) = solvedB W T cs ds ls := by
      cases h : solvedB W T cs ds ls with
      | true => exact decide_eq_true (mem_sols.2 h)
      | false => exact decide_eq_false fun h2 => by rw [mem_sols.1 h2] at h; cases h
    rw [e]
    unfold bsolB solvedB
    cases hv : bookB W T cs ds ls ps with
    | false => simp
    | true => simp [(book_parts hv).1]
  have hlen : ∀ p ∈ solsI W T cs ds, p.length = cs.length := fun p hp => lays_len (fair_parts (solved_parts (mem_sols.1 hp)).1).2.2.1
  have hsl := sols_length (W := W) (T := T) (cs := cs) (ds := ds)
  generalize solsI W T cs ds = ss at *
  generalize bsolB W T cs ds ls ps = ok at *
  simp
  refine call_on one ?_
  simp
  refine call_on two ?_
  simp
  refine call_on three ?_
  simp
  refine loop_by (fun m E H => ∃ i : Nat, m = ss.length - i ∧ i ≤ ss.length ∧ E = [(3, .lp 0 0 0 0), (4, .v (.bool ok)), (5, .sl 0 1 (sls 0 ss)), (6, .v (.bool (memB ss ls i))), (7, .v (.int .i64 i))] ∧
    H = [some (.box (bkcs 1 W T cs ds ls ps)), some (.arr 1 (bools cs)), some (.arr 1 (ints ds)), some (.arr 1 (ints ls)), some (.arr 1 (oss ps))]) ss.length ⟨0, by simp [memB]⟩ ?_
  rintro J hJ m E H ⟨i, rfl, hi, rfl, rfl⟩
  by_cases h : i < ss.length
  · have four := s_laws_sameInts (pti ss i) ls (by rw [pti_get h, hlen _ (List.getElem_mem h)]; omega)
    have st := memB_succ ss ls h
    cases ho : memB ss ls i with
    | true =>
      simp [c_laws_FnBookSolved_L0, h]
      exact ⟨by omega, _, by omega, hJ _ _ _ ⟨i + 1, rfl, h, by simp [st, ho], rfl⟩⟩
    | false =>
      simp [c_laws_FnBookSolved_L0, h]
      (repeat' first | omega | apply And.intro) <;>
      · refine call_on four ?_
        simp
        exact ⟨by omega, _, by omega, hJ _ _ _ ⟨i + 1, rfl, h, by simp [st, ho], rfl⟩⟩
  · have : i = ss.length := by omega
    subst this
    rw [hmem]
    simp [c_laws_FnBookSolved_L0, memB_all]
    cases hin : decide (ls ∈ ss) with
    | false =>
      simp at hin
      simp [hin]
      refine call_on s_laws_alive ?_
      simp
    | true =>
      simp at hin
      simp [hin]
      refine call_on five ?_
      simp
      refine call_on s_laws_alive ?_
      simp
end Go.Proofs.Dev
