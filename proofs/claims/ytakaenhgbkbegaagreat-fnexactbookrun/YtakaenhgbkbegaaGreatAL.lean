/- Contracts of the functions of the program over slots and rows, each proved against the program itself; no condition beyond those that each theorem names. -/
import Derived.Test.YtakaenhgbkbegaaGreatAK
import Derived.Test.YtakaenhgbkbegaaGreatProg
import Derived.Test.YtakaenhgbkbegaaGreatAH

set_option linter.unusedSimpArgs false
set_option linter.unusedVariables false

namespace Go.Proofs.Dev

-- 3 parameters, results [.t 6], 28 slots, modes [false, false, false]
@[simp] abbrev n_spec_StepTo : Nat := 130

def c_spec_StepTo : ACode := .seq (.reg [.o 3 .box [.t 0], .o 6 .mv [.k 0]]) <| .seq (.seq (.reg [.la 7 3 3, .o 8 (.call 61 []) [.t 7], .o 9 (.un .not) [.t 8],
 .m 10 9, .mg 11 1 10 false, .fg 12 2 3 10 false, .lg 13 12 10 false, .g 14 (.len false) [.t 13] 10 false, .g 15 (.bin .sub 0) [.t 14, .k 1] 10 false,
 .g 16 (.call 62 []) [.t 11, .k 0, .t 15] 10 false, .g 17 (.un .not) [.t 16] 10 false, .o 18 .pick [.t 10, .kb true, .t 17], .m 19 18, .mg 20 2 19 false,
 .g 21 (.call 62 []) [.t 20, .k 1, .k 4] 19 false, .g 22 (.un .not) [.t 21] 19 false, .o 23 .pick [.t 19, .kb true, .t 22]]) <|
 .cond (.t 23) ( .seq (.reg [.o 6 .mv [.k (-1)]]) <| .ret) ( .skip)) <| .seq (.reg [.la 24 3 3, .m 25 1, .m 26 2, .o 27 (.call 132 []) [.t 24, .t 25, .t 26],
 .m 6 27]) <| .ret

theorem k_spec_StepTo : cFn Tryz.prog n_spec_StepTo 28 [.t 6] c_spec_StepTo := ⟨Tryz.f130, _, Tryz.func130, rfl, by kernel_rfl, by kernel_rfl, by kernel_rfl, by kernel_rfl⟩

-- 4 parameters, results [.t 8, .t 9], 67 slots, modes [false, false, false, false]
@[simp] abbrev n_spec_LayOne : Nat := 81

def c_spec_LayOne : ACode := .seq (.reg [.o 4 .box [.t 0], .o 8 .mv [.c (.os 1 [])], .o 9 .mv [.kb false]]) <| .seq (.seq (.reg [.la 12 3 4, .m 13 1,
 .o 14 (.call 128 []) [.t 12, .t 13], .o 15 (.un .not) [.t 14]]) <| .cond (.t 15) ( .seq (.reg [.o 16 (.bsl 1) [], .m 8 16, .o 9 .mv [.kb false]]) <|
 .ret) ( .skip)) <| .seq (.reg [.o 17 (.bsl 1) [], .m 18 1, .o 19 (.app 1 8 true) [.t 17, .t 18], .m 10 19]) <| .seq (.reg [.la 20 3 4, .m 21 2, .m 22 3,
 .o 23 (.call 130 []) [.t 20, .t 21, .t 22], .m 11 23]) <| .seq (.seq (.reg [.m 24 11, .o 25 (.bin .lss 0) [.t 24, .k 0], .m 26 25, .fg 27 2 4 26 false,
 .lg 28 27 26 false, .mg 29 2 26 false, .g 30 (.iadr 1) [.t 28, .t 29] 26 false, .lg 31 30 26 false, .g 32 (.un .not) [.t 31] 26 false, .o 33 .pick [.t 26,
 .kb true, .t 32], .m 34 33, .fg 35 2 4 34 false, .lg 36 35 34 false, .mg 37 11 34 false, .g 38 (.iadr 1) [.t 36, .t 37] 34 false, .lg 39 38 34 false,
 .g 40 (.un .not) [.t 39] 34 false, .o 41 .pick [.t 34, .kb true, .t 40], .m 42 41, .mg 43 1 42 false, .mg 44 2 42 false, .g 45 (.iadr 1) [.t 43,
 .t 44] 42 false, .lg 46 45 42 false, .g 47 (.bin .neq 0) [.t 46, .k 0] 42 false, .o 48 .pick [.t 42, .kb true, .t 47], .m 49 48, .mg 50 1 49 false,
 .mg 51 11 49 false, .g 52 (.iadr 1) [.t 50, .t 51] 49 false, .lg 53 52 49 false, .g 54 (.bin .neq 0) [.t 53, .k 0] 49 false, .o 55 .pick [.t 49, .kb true,
 .t 54]]) <| .cond (.t 55) ( .seq (.reg [.m 56 10, .m 8 56, .o 9 .mv [.kb false]]) <| .ret) ( .skip)) <| .seq (.reg [.m 57 10, .m 58 2, .m 59 3,
 .o 60 (.iadr 1) [.t 57, .t 58], .s (.store 1) [.t 60, .t 59]]) <| .seq (.reg [.m 61 10, .m 62 11, .m 63 3, .o 64 (.call 131 []) [.t 63], .o 65 (.iadr 1) [.t 61,
 .t 62], .s (.store 1) [.t 65, .t 64]]) <| .seq (.reg [.m 66 10, .m 8 66, .o 9 .mv [.kb true]]) <| .ret

theorem k_spec_LayOne : cFn Tryz.prog n_spec_LayOne 67 [.t 8, .t 9] c_spec_LayOne := ⟨Tryz.f81, _, Tryz.func81, rfl, by kernel_rfl, by kernel_rfl, by kernel_rfl, by kernel_rfl⟩

-- 2 parameters, results [.t 4], 11 slots, modes [false, false]
@[simp] abbrev n_impl_Region_has : Nat := 182

def c_impl_Region_has : ACode := .seq (.reg [.o 2 .box [.t 0], .o 4 .mv [.kb false]]) <| .seq (.reg [.m 5 1, .f 6 2 2, .l 7 6, .n 8 7, .o 9 (.bin .sub 0) [.t 8,
 .k 1], .o 10 (.call 121 []) [.t 5, .k 0, .t 9], .m 4 10]) <| .ret

theorem k_impl_Region_has : cFn Tryz.prog n_impl_Region_has 11 [.t 4] c_impl_Region_has := ⟨Tryz.f182, _, Tryz.func182, rfl, by kernel_rfl, by kernel_rfl, by kernel_rfl, by kernel_rfl⟩

-- 4 parameters, results [.t 8], 48 slots, modes [false, false, false, false]
@[simp] abbrev n_impl_Region_free : Nat := 171

def c_impl_Region_free : ACode := .seq (.reg [.o 4 .box [.t 0], .o 8 .mv [.kb false]]) <| .seq (.seq (.reg [.la 10 3 4, .m 11 2, .o 12 (.call 182 []) [.t 10,
 .t 11], .o 13 (.un .not) [.t 12]]) <| .cond (.t 13) ( .seq (.reg [.o 8 .mv [.kb false]]) <| .ret) ( .skip)) <| .seq (.reg [.la 14 3 4, .m 15 2, .m 16 3,
 .o 17 (.call 147 []) [.t 14, .t 15, .t 16], .m 9 17]) <| .seq (.reg [.m 18 9, .o 19 (.bin .geq 0) [.t 18, .k 0], .m 20 19, .fg 21 2 4 20 true,
 .lg 22 21 20 true, .mg 23 2 20 true, .g 24 (.iadr 1) [.t 22, .t 23] 20 true, .lg 25 24 20 true, .o 26 .pick [.t 20, .t 25, .kb false], .m 27 26,
 .fg 28 2 4 27 true, .lg 29 28 27 true, .mg 30 9 27 true, .g 31 (.iadr 1) [.t 29, .t 30] 27 true, .lg 32 31 27 true, .o 33 .pick [.t 27, .t 32, .kb false],
 .m 34 33, .mg 35 1 34 true, .mg 36 2 34 true, .g 37 (.iadr 1) [.t 35, .t 36] 34 true, .lg 38 37 34 true, .g 39 (.bin .eql 0) [.t 38, .k 0] 34 true,
 .o 40 .pick [.t 34, .t 39, .kb false], .m 41 40, .mg 42 1 41 true, .mg 43 9 41 true, .g 44 (.iadr 1) [.t 42, .t 43] 41 true, .lg 45 44 41 true,
 .g 46 (.bin .eql 0) [.t 45, .k 0] 41 true, .o 47 .pick [.t 41, .t 46, .kb false], .m 8 47]) <| .ret

theorem k_impl_Region_free : cFn Tryz.prog n_impl_Region_free 48 [.t 8] c_impl_Region_free := ⟨Tryz.f171, _, Tryz.func171, rfl, by kernel_rfl, by kernel_rfl, by kernel_rfl, by kernel_rfl⟩

-- 4 parameters, results [.t 8], 25 slots, modes [false, false, false, false]
@[simp] abbrev n_impl_Region_lay : Nat := 172

def c_impl_Region_lay : ACode := .seq (.reg [.o 4 .box [.t 0], .o 8 .mv [.c (.os 1 [])]]) <| .seq (.reg [.m 10 1, .o 11 (.call 58 []) [.t 10], .m 9 11]) <|
 .seq (.reg [.m 12 9, .m 13 2, .m 14 9, .la 15 3 4, .m 16 2, .m 17 3, .o 18 (.call 147 []) [.t 15, .t 16, .t 17], .m 19 3, .m 20 3, .o 21 (.call 148 []) [.t 20],
 .o 22 (.iadr 1) [.t 12, .t 13], .s (.store 1) [.t 22, .t 19], .o 23 (.iadr 1) [.t 14, .t 18], .s (.store 1) [.t 23, .t 21]]) <| .seq (.reg [.m 24 9,
 .m 8 24]) <| .ret

theorem k_impl_Region_lay : cFn Tryz.prog n_impl_Region_lay 25 [.t 8] c_impl_Region_lay := ⟨Tryz.f172, _, Tryz.func172, rfl, by kernel_rfl, by kernel_rfl, by kernel_rfl, by kernel_rfl⟩

-- 3 parameters, results [.t 6], 24 slots, modes [false, false, false]
@[simp] abbrev n_impl_Region_bare : Nat := 208

def c_impl_Region_bare : ACode := .seq (.reg [.o 3 .box [.t 0], .o 6 .mv [.kb false]]) <| .seq (.reg [.la 7 3 3, .m 8 2, .o 9 (.call 182 []) [.t 7, .t 8],
 .m 10 9, .fg 11 2 3 10 true, .lg 12 11 10 true, .mg 13 2 10 true, .g 14 (.iadr 1) [.t 12, .t 13] 10 true, .lg 15 14 10 true, .o 16 .pick [.t 10, .t 15,
 .kb false], .m 17 16, .mg 18 1 17 true, .mg 19 2 17 true, .g 20 (.iadr 1) [.t 18, .t 19] 17 true, .lg 21 20 17 true, .g 22 (.bin .eql 0) [.t 21, .k 0] 17 true,
 .o 23 .pick [.t 17, .t 22, .kb false], .m 6 23]) <| .ret

theorem k_impl_Region_bare : cFn Tryz.prog n_impl_Region_bare 24 [.t 6] c_impl_Region_bare := ⟨Tryz.f208, _, Tryz.func208, rfl, by kernel_rfl, by kernel_rfl, by kernel_rfl, by kernel_rfl⟩

-- 4 parameters, results [.t 8], 36 slots, modes [false, false, false, false]
@[simp] abbrev n_impl_Region_options : Nat := 201
abbrev c_impl_Region_options_L0_p0 : Plan := .al (.g 28 (.call 107 []) [.t 21, .t 22, .t 27] 20 true) ( .take (.o 29 .pick [.t 20, .t 28, .kb false]) <| .done)
abbrev c_impl_Region_options_L0_p1 : Plan := .al (.g 27 (.call 172 []) [.t 23, .t 24, .t 25, .t 26] 20 true) c_impl_Region_options_L0_p0
def c_impl_Region_options_L0 : ACode := .seq (.seq (.reg [.m 11 10, .o 12 (.bin .leq 0) [.t 11, .k 4]]) <| .cond (.t 12) ( .skip) ( .exit 0)) <|
 .seq (.block 1 ( .seq (.draw ( .take (.m 16 2) <| .take (.m 17 3) <| .take (.m 18 10) <| .al (.la 15 3 4) ( .al (.o 19 (.call 171 []) [.t 15, .t 16, .t 17,
 .t 18]) ( .take (.m 20 19) <| .take (.mg 22 1 20 true) <| .take (.mg 24 2 20 true) <| .take (.mg 25 3 20 true) <| .take (.mg 26 10 20 true) <|
 .alt (.g 21 (.load true 3) [.t 4] 20 true) ( .al (.g 23 (.load true 3) [.t 4] 20 true) c_impl_Region_options_L0_p1) <|
 .al (.g 23 (.load true 3) [.t 4] 20 true) ( .alt (.g 21 (.load true 3) [.t 4] 20 true) c_impl_Region_options_L0_p1 <|
 .al (.g 27 (.call 172 []) [.t 23, .t 24, .t 25, .t 26] 20 true) ( .al (.g 21 (.load true 3) [.t 4] 20 true) c_impl_Region_options_L0_p0)))))) <| .cond (.t 29) ( .reg [.m 30 9, .m 31 10, .o 32 (.bsl 1) [.t 31],
 .o 33 (.app 1 8 true) [.t 30, .t 32], .m 9 33]) ( .skip))) <| .reg [.m 13 10, .o 14 (.bin .add 0) [.t 13, .k 1], .m 10 14]

def c_impl_Region_options : ACode := .seq (.reg [.o 4 .box [.t 0], .o 8 .mv [.c (.os 1 [])]]) <| .seq (.reg [.o 9 .mv [.c (.os 1 [])]]) <|
 .seq (.seq (.reg [.o 10 .mv [.k 1]]) <| .block 0 ( .loop [(1, 1), (2, 1), (9, 1)] [1, 2, 3, 4, 9, 10] c_impl_Region_options_L0)) <| .seq (.reg [.m 34 9,
 .o 35 (.call 118 []) [.t 34], .m 8 35]) <| .ret

theorem k_impl_Region_options : cFn Tryz.prog n_impl_Region_options 36 [.t 8] c_impl_Region_options := ⟨Tryz.f201, _, Tryz.func201, rfl, by kernel_rfl, by kernel_rfl, by kernel_rfl, by kernel_rfl⟩

-- 4 parameters, results [.t 8], 44 slots, modes [false, false, false, false]
@[simp] abbrev n_spec_OptionsOf : Nat := 168
def c_spec_OptionsOf_L0 : ACode := .seq (.seq (.reg [.m 14 10, .o 15 (.bin .leq 0) [.t 14, .k 4], .m 16 15, .g 17 (.load true 3) [.t 4] 16 true,
 .mg 18 1 16 true, .mg 19 2 16 true, .g 20 (.call 85 []) [.t 17, .t 18, .t 19] 16 true, .o 21 .pick [.t 16, .t 20, .kb false]]) <|
 .cond (.t 21) ( .skip) ( .exit 0)) <| .seq (.block 1 ( .seq (.reg [.la 25 3 4, .m 26 2, .m 27 3, .m 28 10, .o 29 (.call 81 []) [.t 25, .t 26, .t 27, .t 28],
 .m 24 29, .e 30 0 24, .e 31 1 24, .m 11 30, .m 12 31]) <| .seq (.reg [.m 32 12, .m 33 32, .g 34 (.load true 3) [.t 4] 33 true, .mg 35 1 33 true,
 .mg 36 11 33 true, .g 37 (.call 85 []) [.t 34, .t 35, .t 36] 33 true, .o 38 .pick [.t 33, .t 37, .kb false]]) <| .cond (.t 38) ( .reg [.m 39 9, .m 40 10,
 .o 41 (.bsl 1) [.t 40], .o 42 (.app 1 8 true) [.t 39, .t 41], .m 9 42]) ( .skip))) <| .reg [.m 22 10, .o 23 (.bin .add 0) [.t 22, .k 1], .m 10 23]

def c_spec_OptionsOf : ACode := .seq (.reg [.o 4 .box [.t 0], .o 8 .mv [.c (.os 1 [])]]) <| .seq (.reg [.o 13 (.bsl 1) [], .m 9 13]) <|
 .seq (.seq (.reg [.o 10 .mv [.k 1]]) <| .block 0 ( .loop [(1, 1), (2, 1), (9, 1)] [1, 2, 3, 4, 9, 10] c_spec_OptionsOf_L0)) <| .seq (.reg [.m 43 9, .m 8 43]) <|
 .ret

theorem k_spec_OptionsOf : cFn Tryz.prog n_spec_OptionsOf 44 [.t 8] c_spec_OptionsOf := ⟨Tryz.f168, _, Tryz.func168, rfl, by kernel_rfl, by kernel_rfl, by kernel_rfl, by kernel_rfl⟩

-- 4 parameters, results [.t 8], 31 slots, modes [false, false, false, false]
@[simp] abbrev n_impl_Region_first : Nat := 200
def c_impl_Region_first_L0 : ACode := .seq (.reg [.o 13 (.bin .lss 0) [.t 12, .t 11]]) <| .seq (.cond (.t 13) ( .skip) ( .exit 0)) <|
 .seq (.block 1 ( .seq (.reg [.m 14 12, .m 9 14]) <| .seq (.reg [.la 15 3 4, .m 16 2, .m 17 9, .o 18 (.call 208 []) [.t 15, .t 16, .t 17], .m 19 18,
 .g 20 (.load true 3) [.t 4] 19 true, .mg 21 1 19 true, .mg 22 2 19 true, .mg 23 9 19 true, .g 24 (.call 201 []) [.t 20, .t 21, .t 22, .t 23] 19 true,
 .g 25 (.len false) [.t 24] 19 true, .mg 26 3 19 true, .g 27 (.bin .eql 0) [.t 25, .t 26] 19 true, .o 28 .pick [.t 19, .t 27, .kb false]]) <|
 .cond (.t 28) ( .seq (.reg [.m 29 9, .m 8 29]) <| .ret) ( .skip))) <| .reg [.o 30 (.bin .add 0) [.t 12, .k 1], .m 12 30]

def c_impl_Region_first : ACode := .seq (.reg [.o 4 .box [.t 0], .o 8 .mv [.k 0]]) <| .seq (.seq (.reg [.m 10 2, .n 11 10, .o 12 .mv [.k 0]]) <|
 .block 0 ( .loop [(1, 1), (2, 1)] [1, 2, 3, 4, 11, 12] c_impl_Region_first_L0)) <| .seq (.reg [.o 8 .mv [.k (-1)]]) <| .ret

theorem k_impl_Region_first : cFn Tryz.prog n_impl_Region_first 31 [.t 8] c_impl_Region_first := ⟨Tryz.f200, _, Tryz.func200, rfl, by kernel_rfl, by kernel_rfl, by kernel_rfl, by kernel_rfl⟩

-- 3 parameters, results [.t 6, .t 7], 28 slots, modes [false, false, false]
@[simp] abbrev n_impl_Region_force : Nat := 186

abbrev c_impl_Region_force_p0 : Plan := .al (.o 27 (.call 172 []) [.t 17, .t 18, .t 19, .t 26]) ( .take (.m 6 27) <| .take (.o 7 .mv [.kb true]) <| .done)
abbrev c_impl_Region_force_p1 : Plan := .al (.o 24 (.call 201 []) [.t 20, .t 21, .t 22, .t 23]) ( .take (.o 25 (.iadr 1) [.t 24, .k 0]) <| .al (.l 26 25) c_impl_Region_force_p0)
def c_impl_Region_force : ACode := .seq (.reg [.o 3 .box [.t 0], .o 6 .mv [.c (.os 1 [])], .o 7 .mv [.kb false]]) <| .seq (.reg [.la 9 3 3, .m 10 1, .m 11 2,
 .o 12 (.call 200 []) [.t 9, .t 10, .t 11, .k 1], .m 8 12]) <| .seq (.seq (.reg [.m 13 8, .o 14 (.bin .lss 0) [.t 13, .k 0]]) <|
 .cond (.t 14) ( .seq (.reg [.m 15 2, .o 16 (.call 58 []) [.t 15], .m 6 16, .o 7 .mv [.kb false]]) <| .ret) ( .skip)) <| .seq (.draw ( .take (.m 18 2) <|
 .take (.m 19 8) <| .take (.m 21 1) <| .take (.m 22 2) <| .take (.m 23 8) <| .alt (.la 17 3 3) ( .al (.la 20 3 3) c_impl_Region_force_p1) <| .al (.la 20 3 3) ( .alt (.la 17 3 3) c_impl_Region_force_p1 <| .al (.o 24 (.call 201 []) [.t 20, .t 21, .t 22, .t 23]) ( .take (.o 25 (.iadr 1) [.t 24, .k 0]) <|
 .alt (.la 17 3 3) ( .al (.l 26 25) c_impl_Region_force_p0) <|
 .al (.l 26 25) ( .al (.la 17 3 3) c_impl_Region_force_p0))))) <|
 .ret

theorem k_impl_Region_force : cFn Tryz.prog n_impl_Region_force 28 [.t 6, .t 7] c_impl_Region_force := ⟨Tryz.f186, _, Tryz.func186, rfl, by kernel_rfl, by kernel_rfl, by kernel_rfl, by kernel_rfl⟩

-- 3 parameters, results [.t 6, .t 7], 42 slots, modes [false, false, false]
@[simp] abbrev n_spec_ForceOne : Nat := 135
abbrev c_spec_ForceOne_L0_p0 : Plan := .al (.o 36 (.call 81 []) [.t 30, .t 31, .t 32, .t 35]) ( .take (.e 37 0 36) <| .take (.e 38 1 36) <| .take (.m 6 37) <| .take (.m 7 38) <| .done)
def c_spec_ForceOne_L0 : ACode := .seq (.seq (.reg [.m 16 8, .m 17 2, .n 18 17, .o 19 (.bin .lss 0) [.t 16, .t 18]]) <| .cond (.t 19) ( .skip) ( .exit 0)) <|
 .seq (.block 1 ( .seq (.reg [.la 22 3 3, .m 23 1, .m 24 2, .m 25 8, .o 26 (.call 168 []) [.t 22, .t 23, .t 24, .t 25], .m 9 26]) <| .seq (.reg [.m 27 9,
 .n 28 27, .o 29 (.bin .eql 0) [.t 28, .k 1]]) <| .cond (.t 29) ( .seq (.draw ( .take (.m 31 2) <| .take (.m 32 8) <| .take (.m 33 9) <|
 .take (.o 34 (.iadr 1) [.t 33, .k 0]) <| .alt (.la 30 3 3) ( .al (.l 35 34) c_spec_ForceOne_L0_p0) <| .al (.l 35 34) ( .al (.la 30 3 3) c_spec_ForceOne_L0_p0))) <| .ret) ( .skip))) <| .reg [.m 20 8,
 .o 21 (.bin .add 0) [.t 20, .k 1], .m 8 21]

def c_spec_ForceOne : ACode := .seq (.reg [.o 3 .box [.t 0], .o 6 .mv [.c (.os 1 [])], .o 7 .mv [.kb false]]) <| .seq (.seq (.reg [.la 10 3 3, .m 11 1, .m 12 2,
 .o 13 (.call 85 []) [.t 10, .t 11, .t 12], .o 14 (.un .not) [.t 13]]) <| .cond (.t 14) ( .seq (.reg [.o 15 (.bsl 1) [], .m 6 15, .o 7 .mv [.kb false]]) <|
 .ret) ( .skip)) <| .seq (.seq (.reg [.o 8 .mv [.k 0]]) <| .block 0 ( .loop [(1, 1), (2, 1)] [1, 2, 3, 8] c_spec_ForceOne_L0)) <| .seq (.reg [.o 39 (.bsl 1) [],
 .m 40 2, .o 41 (.app 1 8 true) [.t 39, .t 40], .m 6 41, .o 7 .mv [.kb false]]) <| .ret

theorem k_spec_ForceOne : cFn Tryz.prog n_spec_ForceOne 42 [.t 6, .t 7] c_spec_ForceOne := ⟨Tryz.f135, _, Tryz.func135, rfl, by kernel_rfl, by kernel_rfl, by kernel_rfl, by kernel_rfl⟩

-- 3 parameters, results [.t 6], 20 slots, modes [false, false, false]
@[simp] abbrev n_impl_Region_forceAll : Nat := 163
def c_impl_Region_forceAll_L0 : ACode := .block 1 ( .seq (.reg [.la 10 3 3, .m 11 1, .m 12 2, .o 13 (.call 186 []) [.t 10, .t 11, .t 12], .m 9 13, .e 14 0 9,
 .e 15 1 9, .m 7 14, .m 8 15]) <| .seq (.seq (.reg [.m 16 8, .o 17 (.un .not) [.t 16]]) <| .cond (.t 17) ( .seq (.reg [.m 18 7, .m 6 18]) <| .ret) ( .skip)) <|
 .reg [.m 19 7, .m 2 19])

def c_impl_Region_forceAll : ACode := .seq (.reg [.o 3 .box [.t 0], .o 6 .mv [.c (.os 1 [])]]) <| .block 0 ( .loop [(1, 1), (2, 1)] [1, 2,
 3] c_impl_Region_forceAll_L0)

theorem k_impl_Region_forceAll : cFn Tryz.prog n_impl_Region_forceAll 20 [.t 6] c_impl_Region_forceAll := ⟨Tryz.f163, _, Tryz.func163, rfl, by kernel_rfl, by kernel_rfl, by kernel_rfl, by kernel_rfl⟩

-- 3 parameters, results [.t 6], 30 slots, modes [false, false, false]
@[simp] abbrev n_spec_ForceAll : Nat := 84
def c_spec_ForceAll_L0 : ACode := .block 1 ( .seq (.reg [.la 20 3 3, .m 21 1, .m 22 7, .o 23 (.call 135 []) [.t 20, .t 21, .t 22], .m 19 23, .e 24 0 19,
 .e 25 1 19, .m 8 24, .m 9 25]) <| .seq (.seq (.reg [.m 26 9, .o 27 (.un .not) [.t 26]]) <| .cond (.t 27) ( .seq (.reg [.m 28 7, .m 6 28]) <| .ret) ( .skip)) <|
 .reg [.m 29 8, .m 7 29])

def c_spec_ForceAll : ACode := .seq (.reg [.o 3 .box [.t 0], .o 6 .mv [.c (.os 1 [])]]) <| .seq (.seq (.reg [.la 10 3 3, .m 11 1, .m 12 2,
 .o 13 (.call 85 []) [.t 10, .t 11, .t 12], .o 14 (.un .not) [.t 13]]) <| .cond (.t 14) ( .seq (.reg [.o 15 (.bsl 1) [], .m 6 15]) <| .ret) ( .skip)) <|
 .seq (.reg [.o 16 (.bsl 1) [], .m 17 2, .o 18 (.app 1 8 true) [.t 16, .t 17], .m 7 18]) <| .block 0 ( .loop [(1, 1), (7, 1)] [1, 3, 7] c_spec_ForceAll_L0)

theorem k_spec_ForceAll : cFn Tryz.prog n_spec_ForceAll 30 [.t 6] c_spec_ForceAll := ⟨Tryz.f84, _, Tryz.func84, rfl, by kernel_rfl, by kernel_rfl, by kernel_rfl, by kernel_rfl⟩

end Go.Proofs.Dev

namespace Go.Proofs.Dev
set_option linter.unusedSimpArgs false
set_option maxRecDepth 100000

theorem s_spec_l1In_t {x lo hi : Int} (h : lo ≤ x ∧ x ≤ hi) : SoundAt Tryz.prog n_spec_l1In [.v (.int .i64 x), .v (.int .i64 lo), .v (.int .i64 hi)] (.v (.bool true)) [.bot, .bot, .bot] := by
  have := s_spec_l1In x lo hi
  rwa [decide_eq_true h] at this
theorem s_spec_l1In_f {x lo hi : Int} (h : ¬ (lo ≤ x ∧ x ≤ hi)) : SoundAt Tryz.prog n_spec_l1In [.v (.int .i64 x), .v (.int .i64 lo), .v (.int .i64 hi)] (.v (.bool false)) [.bot, .bot, .bot] := by
  have := s_spec_l1In x lo hi
  rwa [decide_eq_false h] at this

theorem s_impl_Region_has (W T : Int) (cs : List Bool) (cell : Int) (hb : cs.length < 2 ^ 40) :
    SoundAt Tryz.prog n_impl_Region_has [.agg [.v (.int .i64 W), .v (.int .i64 T), .sl 1 1 (bools cs)], .v (.int .i64 cell)] (.v (.bool (decide (0 ≤ cell ∧ cell < cs.length)))) [.bot, .bot] := by
  refine fn_ok (md := md0) (ms := [false, false]) k_impl_Region_has (by simp) ?_
  simp [c_impl_Region_has]
  refine ⟨by omega, ?_⟩
  by_cases h : 0 ≤ cell ∧ cell < cs.length
  · refine call_on (s_impl_in_t (x := cell) (lo := 0) (hi := cs.length - 1) (by omega)) ?_
    simp [h]
  · refine call_on (s_impl_in_f (x := cell) (lo := 0) (hi := cs.length - 1) (by omega)) ?_
    simp; omega

theorem s_impl_Region_bare (W T : Int) (cs : List Bool) (ls : List Int) (cell : Int) (hb : cs.length < 2 ^ 40) (hl : ls.length = cs.length) :
    SoundAt Tryz.prog n_impl_Region_bare [.agg [.v (.int .i64 W), .v (.int .i64 T), .sl 1 1 (bools cs)], .sl 1 1 (ints ls), .v (.int .i64 cell)] (.v (.bool (decide (0 ≤ cell ∧ cell < cs.length ∧ atb cs cell = true ∧ ati ls cell = 0)))) [.bot, .bot, .bot] := by
  refine fn_ok (md := md0) (ms := [false, false, false]) k_impl_Region_bare (by simp) ?_
  simp [c_impl_Region_bare]
  refine call_on (s_impl_Region_has W T cs cell hb) ?_
  by_cases h : 0 ≤ cell ∧ cell < cs.length
  · cases hc : atb cs cell with
    | false => simp [h, hc]
    | true =>
      simp [h, hc, hl]
      by_cases z : ati ls cell = 0 <;> simp [z]
  · have h' : ¬ (0 ≤ cell ∧ cell < cs.length ∧ atb cs cell = true ∧ ati ls cell = 0) := fun x => h ⟨x.1, x.2.1⟩
    have hx : (decide (0 ≤ cell) && decide (cell < cs.length)) = false := by simp; omega
    simp [hx]
    omega

theorem s_impl_Region_free (W T : Int) (cs : List Bool) (ls : List Int) (cell way : Int) (hr : regB W T cs = true) (hl : ls.length = cs.length) :
    SoundAt Tryz.prog n_impl_Region_free [.agg [.v (.int .i64 W), .v (.int .i64 T), .sl 1 1 (bools cs)], .sl 1 1 (ints ls), .v (.int .i64 cell), .v (.int .i64 way)] (.v (.bool (freeB W T cs ls cell way))) [.bot, .bot, .bot, .bot] := by
  refine fn_ok (md := md0) (ms := [false, false, false, false]) k_impl_Region_free (by simp) ?_
  have h36 := regB_len hr
  obtain ⟨w1, w2, t1, t2, l1, _⟩ := regB_W hr
  simp [c_impl_Region_free]
  refine call_on (s_impl_Region_has W T cs cell (by omega)) ?_
  by_cases h : 0 ≤ cell ∧ cell < cs.length
  case neg =>
    have hx : (decide (0 ≤ cell) && decide (cell < cs.length)) = false := by simp; omega
    have hf : freeB W T cs ls cell way = false := decide_eq_false (fun x => h ⟨x.1, x.2.1⟩)
    simp [hx, hf]
  simp [h]
  refine call_on (s_impl_Region_step W T cs cell way hr h.1 h.2) ?_
  have hst := stepI_range (T := T) (way := way) w1 h.1 (by omega)
  unfold freeB
  generalize stepI W T cell way = to at *
  rcases hst with rfl | ⟨h3, h4, h5, h6⟩
  · simp
  have h7 : to < cs.length := by omega
  cases hc : atb cs cell with
  | false => simp [h, h3, hc]
  | true =>
  cases ht : atb cs to with
  | false => simp [h, h3, h7, hc, ht]
  | true =>
  simp [h, h3, h7, hc, ht, hl]
  by_cases z : ati ls cell = 0
  · by_cases z2 : ati ls to = 0 <;> simp [z, z2, h3, h7, hl]
  · simp [z]

theorem s_impl_Region_lay (W T : Int) (cs : List Bool) (ls : List Int) (cell way : Int) (hr : regB W T cs = true) (hl : ls.length = cs.length) (hf : freeB W T cs ls cell way = true) :
    SoundAt Tryz.prog n_impl_Region_lay [.agg [.v (.int .i64 W), .v (.int .i64 T), .sl 1 1 (bools cs)], .sl 1 1 (ints ls), .v (.int .i64 cell), .v (.int .i64 way)] (.os 1 (ints (layI W T ls cell way))) [.bot, .bot, .bot, .bot] := by
  refine fn_ok (md := md0) (ms := [false, false, false, false]) k_impl_Region_lay (by simp) ?_
  have h36 := regB_len hr
  obtain ⟨w1, w2, t1, t2, l1, _⟩ := regB_W hr
  simp only [freeB, decide_eq_true_eq] at hf
  obtain ⟨f0, f1, f2, _⟩ := hf
  obtain ⟨b1, b2, b3, b4, b5⟩ := step_back (T := T) w1 f0 (by omega) f2
  simp [c_impl_Region_lay]
  refine call_on (s_impl_clone_int ls (by omega)) ?_
  simp
  refine call_on (s_impl_Region_step W T cs cell way hr f0 f1) ?_
  simp
  refine call_on (s_impl_back way (by omega) (by omega)) ?_
  have e1 : (ints ls).set cell.toNat (.v (.int .i64 way)) = ints (ls.set cell.toNat way) := ints_set _ _ _
  have e2 : (ints (ls.set cell.toNat way)).set (stepI W T cell way).toNat (.v (.int .i64 (backI way))) = ints (layI W T ls cell way) := by rw [ints_set]; rfl
  have g1 : cell < ls.length := by omega
  have g2 : stepI W T cell way < ls.length := by omega
  have g3 : cell.toNat < ls.length := by omega
  have g4 : (stepI W T cell way).toNat < ls.length := by omega
  have ht : (layI W T ls cell way).length = ls.length := layI_length W T ls cell way
  have hk : (ints (layI W T ls cell way)).take ls.length = ints (layI W T ls cell way) := List.take_of_length_le (by simp [ht])
  simp [f0, f2, g1, g2, g3, g4, e1, e2, ht, hk]

end Go.Proofs.Dev

namespace Go.Proofs.Dev
set_option linter.unusedSimpArgs false
set_option maxRecDepth 100000

/-- A domino may be laid, and what is laid then is fair. -/
def optB (W T : Int) (cs : List Bool) (ds ls : List Int) (cell way : Int) : Bool := freeB W T cs ls cell way && onceB (pairsI W T ds (layI W T ls cell way))
def optTo (W T : Int) (cs : List Bool) (ds ls : List Int) (cell : Int) (n : Nat) : List Int := (List.range n).flatMap fun k : Nat => if optB W T cs ds ls cell (k + 1) then [(k : Int) + 1] else []
def optsI (W T : Int) (cs : List Bool) (ds ls : List Int) (cell : Int) : List Int := optTo W T cs ds ls cell 4

theorem optTo_succ (W T : Int) (cs : List Bool) (ds ls : List Int) (cell : Int) (n : Nat) : optTo W T cs ds ls cell (n + 1) = optTo W T cs ds ls cell n ++ if optB W T cs ds ls cell (n + 1) then [(n : Int) + 1] else [] := by
  simp [optTo, List.range_succ]
theorem optTo_length (W T : Int) (cs : List Bool) (ds ls : List Int) (cell : Int) : ∀ n, (optTo W T cs ds ls cell n).length ≤ n
  | 0 => by simp [optTo]
  | n + 1 => by
    have := optTo_length W T cs ds ls cell n
    rw [optTo_succ]; split <;> simp <;> omega

theorem okB_lay {W T : Int} {cs : List Bool} {ds ls : List Int} {cell way : Int} (h : okB W T cs ds ls = true) (hf : freeB W T cs ls cell way = true) : okB W T cs ds (layI W T ls cell way) = true := by
  have h' := h
  simp only [okB, Bool.and_eq_true] at h' ⊢
  exact ⟨h'.1, h'.2.1, lay_ok h'.1 h'.2.2 hf⟩

theorem s_impl_Region_options (W T : Int) (cs : List Bool) (ds ls : List Int) (cell : Int) (hok : okB W T cs ds ls = true) :
    SoundAt Tryz.prog n_impl_Region_options [.agg [.v (.int .i64 W), .v (.int .i64 T), .sl 1 1 (bools cs)], .sl 1 1 (ints ds), .sl 1 1 (ints ls), .v (.int .i64 cell)] (.os 1 (ints (optsI W T cs ds ls cell))) [.bot, .bot, .bot, .bot] := by
  refine fn_ok (md := md0) (ms := [false, false, false, false]) k_impl_Region_options (by simp) ?_
  obtain ⟨hr, e1, e2, _⟩ := okB_W hok
  have h36 := regB_len hr
  simp [c_impl_Region_options]
  refine loop_by (fun m E H => ∃ i : Nat, m = 4 - i ∧ i ≤ 4 ∧ H = [some (.box [.v (.int .i64 W), .v (.int .i64 T), .sl 1 1 (bools cs)]), some (.arr 1 (ints (optTo W T cs ds ls cell i)))] ∧
    E = [(1, .sl 1 1 (ints ds)), (2, .sl 1 1 (ints ls)), (3, .v (.int .i64 cell)), (4, .lp 0 0 0 0), (9, .ls 1 1 0 (optTo W T cs ds ls cell i).length), (10, .v (.int .i64 (i + 1)))]) 4 ⟨0, by simp [optTo]⟩ ?_
  rintro J hJ m E H ⟨i, rfl, hi, rfl, rfl⟩
  have hlen := optTo_length W T cs ds ls cell i
  have hsuc := optTo_succ W T cs ds ls cell i
  by_cases h : i < 4
  case neg =>
    have : i = 4 := by omega
    subst this
    simp [c_impl_Region_options_L0]
    refine call_on (s_slices_Clip_int_int (optTo W T cs ds ls cell 4)) ?_
    simp [optsI]
  have h' : (i : Int) + 1 ≤ 4 := by omega
  have one := s_impl_Region_free W T cs ls cell (i + 1) hr e2
  have next : ∀ (x : List Int), optTo W T cs ds ls cell (i + 1) = optTo W T cs ds ls cell i ++ x → again J (4 - i) [(1, .sl 1 1 (ints ds)), (2, .sl 1 1 (ints ls)), (3, .v (.int .i64 cell)), (4, .lp 0 0 0 0), (9, .ls 1 1 0 ((optTo W T cs ds ls cell i).length + x.length)), (10, .v (.int .i64 (i + 1 + 1)))]
      [some (.box [.v (.int .i64 W), .v (.int .i64 T), .sl 1 1 (bools cs)]), some (.arr 1 (ints (optTo W T cs ds ls cell i) ++ ints x))] := by
    intro x hx
    refine ⟨_, by omega, hJ _ _ _ ⟨i + 1, rfl, h, ?_, ?_⟩⟩
    · rw [hx, ints_append]
    · rw [hx, List.length_append]; rfl
  simp [c_impl_Region_options_L0, h']
  refine call_on one ?_
  cases hf : freeB W T cs ls cell (i + 1) with
  | false =>
    have ho : optB W T cs ds ls cell (i + 1) = false := by simp [optB, hf]
    rw [if_neg (by simp [ho])] at hsuc
    have n := next [] hsuc
    simp at n
    simp
    exact ⟨by omega, n⟩
  | true =>
  have two := s_impl_Region_lay W T cs ls cell (i + 1) hr e2 hf
  have three := s_impl_Region_fair W T cs ds (layI W T ls cell (i + 1)) (okB_lay hok hf)
  have hl := layI_length W T ls cell (i + 1)
  have ht : (layI W T ls cell (i + 1)).take ls.length = layI W T ls cell (i + 1) := List.take_of_length_le (by omega)
  simp
  (repeat' first | assumption | apply And.intro) <;>
  · refine call_on two ?_
    simp [hl, take_ints, ht]
    (repeat' first | assumption | apply And.intro) <;>
    · refine call_on three ?_
      cases ho : onceB (pairsI W T ds (layI W T ls cell (i + 1))) with
      | false =>
        have ho : optB W T cs ds ls cell (i + 1) = false := by simp [optB, ho]
        rw [if_neg (by simp [ho])] at hsuc
        have n := next [] hsuc
        simp at n
        simp [hl, take_ints, ht]
        exact ⟨by omega, n⟩
      | true =>
        have ho : optB W T cs ds ls cell (i + 1) = true := by simp [optB, ho, hf]
        rw [if_pos ho] at hsuc
        have n := next _ hsuc
        simp at n
        simp [hl, take_ints, ht]
        exact ⟨by omega, by omega, n⟩

theorem s_spec_StepTo (W T : Int) (cs : List Bool) (cell way : Int) (hr : regB W T cs = true) :
    SoundAt Tryz.prog n_spec_StepTo [.agg [.v (.int .i64 W), .v (.int .i64 T), .sl 1 1 (bools cs)], .v (.int .i64 cell), .v (.int .i64 way)] (.v (.int .i64 (if 0 ≤ cell ∧ cell < cs.length ∧ 1 ≤ way ∧ way ≤ 4 then stepI W T cell way else -1))) [.bot, .bot, .bot] := by
  refine fn_ok (md := md0) (ms := [false, false, false]) k_spec_StepTo (by simp) ?_
  have h36 := regB_len hr
  simp [c_spec_StepTo]
  refine call_on (s_spec_RegionValid W T cs (by omega)) ?_
  simp [hr]
  refine ⟨by omega, ?_⟩
  by_cases h : 0 ≤ cell ∧ cell < cs.length
  case neg =>
    refine call_on (s_spec_l1In_f (x := cell) (lo := 0) (hi := cs.length - 1) (by omega)) ?_
    rw [if_neg (fun x => h ⟨x.1, x.2.1⟩)]
    simp
  refine call_on (s_spec_l1In_t (x := cell) (lo := 0) (hi := cs.length - 1) (by omega)) ?_
  simp
  by_cases hw : 1 ≤ way ∧ way ≤ 4
  case neg =>
    refine call_on (s_spec_l1In_f hw) ?_
    rw [if_neg (fun x => hw x.2.2)]
    simp
  refine call_on (s_spec_l1In_t hw) ?_
  simp
  refine call_on (s_spec_l2Step W T cs cell way hr h.1 h.2) ?_
  simp [h, hw]

/-- What LayOne gives. -/
def layOneL (W T : Int) (cs : List Bool) (ls : List Int) (cell way : Int) : List Int := if freeB W T cs ls cell way then layI W T ls cell way else ls

theorem s_spec_LayOne (W T : Int) (cs : List Bool) (ls : List Int) (cell way : Int) (hr : regB W T cs = true) (hy : laysB W T cs ls = true) :
    SoundAt Tryz.prog n_spec_LayOne [.agg [.v (.int .i64 W), .v (.int .i64 T), .sl 1 1 (bools cs)], .sl 1 1 (ints ls), .v (.int .i64 cell), .v (.int .i64 way)]
      (.tup [.os 1 (ints (layOneL W T cs ls cell way)), .v (.bool (freeB W T cs ls cell way))]) [.bot, .bot, .bot, .bot] := by
  refine fn_ok (md := md0) (ms := [false, false, false, false]) k_spec_LayOne (by simp) ?_
  have h36 := regB_len hr
  obtain ⟨w1, w2, t1, t2, l1, _⟩ := regB_W hr
  have hl : ls.length = cs.length := by simp only [laysB, Bool.and_eq_true, decide_eq_true_eq] at hy; exact hy.1
  simp [c_spec_LayOne]
  refine call_on (s_spec_LaidOk W T cs ls (by omega) (by omega)) ?_
  simp [hr, hy]
  refine ⟨by omega, ?_⟩
  refine call_on (s_spec_StepTo W T cs cell way hr) ?_
  by_cases h : 0 ≤ cell ∧ cell < cs.length
  case neg =>
    have hf : freeB W T cs ls cell way = false := decide_eq_false (fun x => h ⟨x.1, x.2.1⟩)
    rw [if_neg (fun x => h ⟨x.1, x.2.1⟩)]
    simp [hf, layOneL]
  have hst := stepI_range (T := T) (way := way) w1 h.1 (by omega)
  have e0 : (if 0 ≤ cell ∧ cell < cs.length ∧ 1 ≤ way ∧ way ≤ 4 then stepI W T cell way else -1) = stepI W T cell way := by
    rcases hst with hst | hst
    · split
      · rfl
      · exact hst.symm
    · rw [if_pos ⟨h.1, h.2, hst.2.2.1, hst.2.2.2⟩]
  rw [e0]
  by_cases hneg : stepI W T cell way < 0
  · have hf : freeB W T cs ls cell way = false := decide_eq_false (fun x => by omega)
    simp [hneg, hf, layOneL]
  obtain ⟨h3, h4, h5, h6⟩ : 0 ≤ stepI W T cell way ∧ stepI W T cell way < W * T ∧ 1 ≤ way ∧ way ≤ 4 := by
    rcases hst with hst | hst
    · omega
    · exact hst
  have hfree : freeB W T cs ls cell way = decide (atb cs cell = true ∧ atb cs (stepI W T cell way) = true ∧ ati ls cell = 0 ∧ ati ls (stepI W T cell way) = 0) := by
    simp [freeB, h, h3]
  have e2 : ((ints ls).set cell.toNat (.v (.int .i64 way))).set (stepI W T cell way).toNat (.v (.int .i64 (backI way))) = ints (layI W T ls cell way) := by rw [ints_set, ints_set]; rfl
  have ht : (layI W T ls cell way).length = ls.length := layI_length W T ls cell way
  have hk : (ints (layI W T ls cell way)).take ls.length = ints (layI W T ls cell way) := List.take_of_length_le (by simp [ht])
  have hk0 : (ints ls).take cs.length = ints ls := List.take_of_length_le (by simp [hl])
  have two := s_spec_l2Back way (by omega) (by omega)
  unfold layOneL
  rw [hfree]
  clear hfree e0 hst
  generalize stepI W T cell way = to at *
  have h7 : to < cs.length := by omega
  have h8 : ¬ to < 0 := hneg
  cases hc : atb cs cell with
  | false => simp [h, h8, hc]
  | true =>
  cases ht' : atb cs to with
  | false => simp [h, h3, h7, h8, hc, ht']
  | true =>
  by_cases z : ati ls cell = 0
  case neg => simp [h, h3, h7, h8, hc, ht', hl, z, hk0]
  by_cases z2 : ati ls to = 0
  case neg => simp [h, h3, h7, h8, hc, ht', hl, z, z2, hk0]
  have g3 : cell.toNat < ls.length := by omega
  have g4 : to.toNat < ls.length := by omega
  have g1 : cell < ls.length := by omega
  have g2 : to < ls.length := by omega
  simp [h, h3, h7, h8, hc, ht', g1, g2, g3, g4, z, z2]
  refine call_on two ?_
  simp [h, h3, h7, h8, g1, g2, g3, g4, e2, ht, hk]

end Go.Proofs.Dev

namespace Go.Proofs.Dev
set_option linter.unusedSimpArgs false
set_option maxRecDepth 100000

def optsOf (W T : Int) (cs : List Bool) (ds ls : List Int) (cell : Int) : List Int := if fairB W T cs ds ls then optsI W T cs ds ls cell else []

theorem layOne_length (W T : Int) (cs : List Bool) (ls : List Int) (cell way : Int) : (layOneL W T cs ls cell way).length = ls.length := by
  unfold layOneL; split
  · exact layI_length ..
  · rfl

theorem s_spec_OptionsOf (W T : Int) (cs : List Bool) (ds ls : List Int) (cell : Int) (hb : cs.length < 2 ^ 40) (hd : ds.length < 2 ^ 40) (hl : ls.length < 2 ^ 40) :
    SoundAt Tryz.prog n_spec_OptionsOf [.agg [.v (.int .i64 W), .v (.int .i64 T), .sl 1 1 (bools cs)], .sl 1 1 (ints ds), .sl 1 1 (ints ls), .v (.int .i64 cell)] (.os 1 (ints (optsOf W T cs ds ls cell))) [.bot, .bot, .bot, .bot] := by
  refine fn_ok (md := md0) (ms := [false, false, false, false]) k_spec_OptionsOf (by simp) ?_
  simp [c_spec_OptionsOf]
  have one := s_spec_FairOk W T cs ds ls hb hd hl
  refine loop_by (fun m E H => ∃ i : Nat, m = 4 - i ∧ i ≤ 4 ∧ (i = 0 ∨ fairB W T cs ds ls = true) ∧ H = [some (.box [.v (.int .i64 W), .v (.int .i64 T), .sl 1 1 (bools cs)]), some (.arr 1 (ints (optTo W T cs ds ls cell i)))] ∧
    E = [(1, .sl 1 1 (ints ds)), (2, .sl 1 1 (ints ls)), (3, .v (.int .i64 cell)), (4, .lp 0 0 0 0), (9, .ls 1 1 0 (optTo W T cs ds ls cell i).length), (10, .v (.int .i64 (i + 1)))]) 4 ⟨0, by simp [optTo]⟩ ?_
  rintro J hJ m E H ⟨i, rfl, hi, hf0, rfl, rfl⟩
  have hlen := optTo_length W T cs ds ls cell i
  have hsuc := optTo_succ W T cs ds ls cell i
  by_cases h : i < 4
  case neg =>
    have : i = 4 := by omega
    subst this
    have hf : fairB W T cs ds ls = true := by rcases hf0 with h0 | h0; omega; exact h0
    simp [c_spec_OptionsOf_L0, optsOf, hf, optsI]
  have h' : (i : Int) + 1 ≤ 4 := by omega
  simp [c_spec_OptionsOf_L0, h']
  refine call_on one ?_
  cases hf : fairB W T cs ds ls with
  | false =>
    have : i = 0 := by rcases hf0 with h0 | h0; exact h0; rw [hf] at h0; cases h0
    subst this
    simp [optsOf, hf, optTo]
  | true =>
  have hok := fairB_ok hf
  obtain ⟨hr, e1, e2, hy⟩ := okB_W hok
  have h36 := regB_len hr
  have next : ∀ (x : List Int), optTo W T cs ds ls cell (i + 1) = optTo W T cs ds ls cell i ++ x → again J (4 - i) [(1, .sl 1 1 (ints ds)), (2, .sl 1 1 (ints ls)), (3, .v (.int .i64 cell)), (4, .lp 0 0 0 0), (9, .ls 1 1 0 ((optTo W T cs ds ls cell i).length + x.length)), (10, .v (.int .i64 (i + 1 + 1)))]
      [some (.box [.v (.int .i64 W), .v (.int .i64 T), .sl 1 1 (bools cs)]), some (.arr 1 (ints (optTo W T cs ds ls cell i) ++ ints x))] := by
    intro x hx
    refine ⟨_, by omega, hJ _ _ _ ⟨i + 1, rfl, h, .inr hf, ?_, ?_⟩⟩
    · rw [hx, ints_append]
    · rw [hx, List.length_append]; rfl
  have hll := layOne_length W T cs ls cell (i + 1)
  have hly : laysB W T cs ls = true := by
    simp only [okB, Bool.and_eq_true] at hok; exact hok.2.2
  have two := s_spec_LayOne W T cs ls cell (i + 1) hr hly
  have three := s_spec_FairOk W T cs ds (layOneL W T cs ls cell (i + 1)) hb hd (by omega)
  have ht : (layOneL W T cs ls cell (i + 1)).take ls.length = layOneL W T cs ls cell (i + 1) := List.take_of_length_le (by omega)
  simp
  refine call_on two ?_
  simp [hll, take_ints, ht]
  cases hfr : freeB W T cs ls cell (i + 1) with
  | false =>
    have ho : optB W T cs ds ls cell (i + 1) = false := by simp [optB, hfr]
    rw [if_neg (by simp [ho])] at hsuc
    have n := next [] hsuc
    simp at n
    simp
    exact ⟨by omega, n⟩
  | true =>
  simp
  have e3 : fairB W T cs ds (layOneL W T cs ls cell (i + 1)) = optB W T cs ds ls cell (i + 1) := by
    simp [layOneL, hfr, fairB, optB, okB_lay hok hfr]
  refine call_on three ?_
  rw [e3]
  cases ho : optB W T cs ds ls cell (i + 1) with
  | false =>
    rw [if_neg (by simp [ho])] at hsuc
    have n := next [] hsuc
    simp at n
    simp [hll, take_ints, ht]
    exact ⟨by omega, n⟩
  | true =>
    rw [if_pos ho] at hsuc
    have n := next _ hsuc
    simp at n
    simp [hll, take_ints, ht]
    exact ⟨by omega, by omega, n⟩

theorem optsI_bare (W T : Int) (cs : List Bool) (ds ls : List Int) (cell : Int) (h : ¬ (0 ≤ cell ∧ cell < cs.length ∧ atb cs cell = true ∧ ati ls cell = 0)) : optsI W T cs ds ls cell = [] := by
  have hf : ∀ way, optB W T cs ds ls cell way = false := by
    intro way
    have : freeB W T cs ls cell way = false := decide_eq_false (fun x => h ⟨x.1, x.2.1, x.2.2.2.1, x.2.2.2.2.2.1⟩)
    simp [optB, this]
  simp [optsI, optTo, hf]

end Go.Proofs.Dev

namespace Go.Proofs.Dev
set_option linter.unusedSimpArgs false
set_option maxRecDepth 100000

/-- The first place that fits, or -1. -/
def firstI (p : Nat → Bool) (n : Nat) : Int := match (List.range n).find? p with | some k => k | none => -1
theorem firstI_hit {p : Nat → Bool} {n k : Nat} (hk : k < n) (hp : p k = true) (h : ∀ j, j < k → p j = false) : firstI p n = k := by
  have : (List.range n).find? p = some k := by
    rw [List.find?_range_eq_some]
    exact ⟨hp, by simpa using hk, fun j hj => by simp [h j hj]⟩
  simp [firstI, this]
theorem firstI_none {p : Nat → Bool} {n : Nat} (h : ∀ j, j < n → p j = false) : firstI p n = -1 := by
  have : (List.range n).find? p = none := by
    rw [List.find?_eq_none]
    intro x hx
    simp [h x (by simpa using hx)]
  simp [firstI, this]
theorem firstI_cases (p : Nat → Bool) (n : Nat) : (firstI p n = -1) ∨ ∃ k : Nat, k < n ∧ p k = true ∧ firstI p n = k := by
  unfold firstI
  split
  · rename_i k hk
    right
    rw [List.find?_range_eq_some] at hk
    exact ⟨k, by simpa using hk.2.1, hk.1, rfl⟩
  · left; rfl

def hitB (W T : Int) (cs : List Bool) (ds ls : List Int) (n : Int) (k : Nat) : Bool := (atb cs k && decide (ati ls k = 0)) && decide (((optsI W T cs ds ls k).length : Int) = n)

theorem s_impl_Region_first (W T : Int) (cs : List Bool) (ds ls : List Int) (n : Int) (hok : okB W T cs ds ls = true) :
    SoundAt Tryz.prog n_impl_Region_first [.agg [.v (.int .i64 W), .v (.int .i64 T), .sl 1 1 (bools cs)], .sl 1 1 (ints ds), .sl 1 1 (ints ls), .v (.int .i64 n)] (.v (.int .i64 (firstI (hitB W T cs ds ls n) ls.length))) [.bot, .bot, .bot, .bot] := by
  refine fn_ok (md := md0) (ms := [false, false, false, false]) k_impl_Region_first (by simp) ?_
  obtain ⟨hr, e1, e2, _⟩ := okB_W hok
  have h36 := regB_len hr
  simp [c_impl_Region_first]
  refine loop_by (fun m E H => ∃ i : Nat, m = ls.length - i ∧ i ≤ ls.length ∧ (∀ j : Nat, j < i → hitB W T cs ds ls n j = false) ∧ H = [some (.box [.v (.int .i64 W), .v (.int .i64 T), .sl 1 1 (bools cs)])] ∧
    E = [(1, .sl 1 1 (ints ds)), (2, .sl 1 1 (ints ls)), (3, .v (.int .i64 n)), (4, .lp 0 0 0 0), (11, .v (.int .i64 ls.length)), (12, .v (.int .i64 i))]) ls.length ⟨0, by simp⟩ ?_
  rintro J hJ m E H ⟨i, rfl, hi, ha, rfl, rfl⟩
  by_cases h : i < ls.length
  case neg =>
    have : i = ls.length := by omega
    subst this
    simp [c_impl_Region_first_L0, firstI_none ha]
  have next : hitB W T cs ds ls n i = false → again J (ls.length - i) [(1, .sl 1 1 (ints ds)), (2, .sl 1 1 (ints ls)), (3, .v (.int .i64 n)), (4, .lp 0 0 0 0), (11, .v (.int .i64 ls.length)), (12, .v (.int .i64 (i + 1)))]
      [some (.box [.v (.int .i64 W), .v (.int .i64 T), .sl 1 1 (bools cs)])] := by
    intro hx
    refine ⟨_, by omega, hJ _ _ _ ⟨i + 1, rfl, h, ?_, rfl, rfl⟩⟩
    intro j hj
    rcases Nat.lt_or_ge j i with h1 | h1
    · exact ha j h1
    · have : j = i := by omega
      subst this; exact hx
  have hit := fun hx : hitB W T cs ds ls n i = true => firstI_hit h hx ha
  have one := s_impl_Region_bare W T cs ls i (by omega) e2
  have two := s_impl_Region_options W T cs ds ls i hok
  have hop : (optsI W T cs ds ls i).length ≤ 4 := optTo_length ..
  have hii : (i : Int) < cs.length := by omega
  simp [c_impl_Region_first_L0, h]
  refine call_on one ?_
  cases hb : (atb cs i && decide (ati ls i = 0)) with
  | false =>
    have hx : hitB W T cs ds ls n i = false := by simp [hitB, hb]
    have hb' : decide (0 ≤ (i : Int) ∧ (i : Int) < cs.length ∧ atb cs i = true ∧ ati ls i = 0) = false := by
      simp at hb ⊢; intro _; exact hb
    rw [hb']
    simp
    exact ⟨by omega, next hx⟩
  | true =>
  have hb' : decide (0 ≤ (i : Int) ∧ (i : Int) < cs.length ∧ atb cs i = true ∧ ati ls i = 0) = true := by
    simp at hb ⊢; exact ⟨by omega, hb⟩
  rw [hb']
  simp
  refine call_on two ?_
  by_cases hn : ((optsI W T cs ds ls i).length : Int) = n
  · have hx : hitB W T cs ds ls n i = true := by simp [hitB, hb, hn]
    simp [hn, hit hx]
  · have hx : hitB W T cs ds ls n i = false := by simp [hitB, hb, hn]
    simp [hn]
    exact ⟨by omega, next hx⟩

end Go.Proofs.Dev

namespace Go.Proofs.Dev
set_option linter.unusedSimpArgs false
set_option maxRecDepth 100000

theorem optTo_mem (W T : Int) (cs : List Bool) (ds ls : List Int) (cell : Int) {n : Nat} {x : Int} (h : x ∈ optTo W T cs ds ls cell n) : optB W T cs ds ls cell x = true ∧ 1 ≤ x ∧ x ≤ n := by
  simp only [optTo, List.mem_flatMap, List.mem_range] at h
  obtain ⟨k, hk, hx⟩ := h
  split at hx
  · rename_i ho
    simp at hx
    subst hx
    exact ⟨ho, by omega, by omega⟩
  · simp at hx

theorem optB_free {W T : Int} {cs : List Bool} {ds ls : List Int} {cell x : Int} (h : optB W T cs ds ls cell x = true) : freeB W T cs ls cell x = true := by
  simp only [optB, Bool.and_eq_true] at h; exact h.1
theorem optB_fair {W T : Int} {cs : List Bool} {ds ls : List Int} {cell x : Int} (hok : okB W T cs ds ls = true) (h : optB W T cs ds ls cell x = true) : fairB W T cs ds (layI W T ls cell x) = true := by
  have h' := h
  simp only [optB, Bool.and_eq_true] at h'
  simp only [fairB, Bool.and_eq_true]
  exact ⟨okB_lay hok h'.1, h'.2⟩

/-- The cell of the first forced domino, its way, and what is laid then. -/
def oneI (W T : Int) (cs : List Bool) (ds ls : List Int) : Int := firstI (hitB W T cs ds ls 1) ls.length
def wayI (W T : Int) (cs : List Bool) (ds ls : List Int) : Int := ati (optsI W T cs ds ls (oneI W T cs ds ls)) 0
def force1 (W T : Int) (cs : List Bool) (ds ls : List Int) : List Int := if oneI W T cs ds ls < 0 then ls else layI W T ls (oneI W T cs ds ls) (wayI W T cs ds ls)
def force1B (W T : Int) (cs : List Bool) (ds ls : List Int) : Bool := decide (¬ oneI W T cs ds ls < 0)
theorem force1_length (W T : Int) (cs : List Bool) (ds ls : List Int) : (force1 W T cs ds ls).length = ls.length := by
  unfold force1; split
  · rfl
  · exact layI_length ..

theorem one_cases (W T : Int) (cs : List Bool) (ds ls : List Int) : oneI W T cs ds ls = -1 ∨ ∃ k : Nat, k < ls.length ∧ oneI W T cs ds ls = k ∧ atb cs k = true ∧ ati ls k = 0 ∧ optsI W T cs ds ls k = [wayI W T cs ds ls] ∧ optB W T cs ds ls k (wayI W T cs ds ls) = true ∧ 1 ≤ wayI W T cs ds ls ∧ wayI W T cs ds ls ≤ 4 := by
  rcases firstI_cases (hitB W T cs ds ls 1) ls.length with h | ⟨k, hk, hp, he⟩
  · left; exact h
  · right
    have he' : oneI W T cs ds ls = k := he
    simp only [hitB, Bool.and_eq_true, decide_eq_true_eq] at hp
    have h1 : (optsI W T cs ds ls k).length = 1 := by omega
    obtain ⟨x, hx⟩ := List.length_eq_one_iff.1 h1
    have hw : wayI W T cs ds ls = x := by simp [wayI, he', hx, ati]
    have hin : x ∈ optsI W T cs ds ls k := by rw [hx]; simp
    have hm := optTo_mem W T cs ds ls k (n := 4) (x := x) hin
    rw [hw]
    exact ⟨k, hk, he', hp.1.1, hp.1.2, hx, hm.1, hm.2.1, hm.2.2⟩

theorem s_impl_Region_force (W T : Int) (cs : List Bool) (ds ls : List Int) (hok : okB W T cs ds ls = true) :
    SoundAt Tryz.prog n_impl_Region_force [.agg [.v (.int .i64 W), .v (.int .i64 T), .sl 1 1 (bools cs)], .sl 1 1 (ints ds), .sl 1 1 (ints ls)] (.tup [.os 1 (ints (force1 W T cs ds ls)), .v (.bool (force1B W T cs ds ls))]) [.bot, .bot, .bot] := by
  refine fn_ok (md := md0) (ms := [false, false, false]) k_impl_Region_force (by simp) ?_
  obtain ⟨hr, e1, e2, _⟩ := okB_W hok
  have h36 := regB_len hr
  simp [c_impl_Region_force]
  refine call_on (s_impl_Region_first W T cs ds ls 1 hok) ?_
  have hcl := s_impl_clone_int ls (by omega)
  have e0 : firstI (hitB W T cs ds ls 1) ls.length = oneI W T cs ds ls := rfl
  rw [e0]
  rcases one_cases W T cs ds ls with h | ⟨k, hk, he, hc, hz, ho, hob, hw⟩
  · simp [h]
    refine call_on hcl ?_
    simp [force1, force1B, h]
  have two := s_impl_Region_options W T cs ds ls k hok
  have three := s_impl_Region_lay W T cs ls k (wayI W T cs ds ls) hr e2 (optB_free hob)
  have ef : force1 W T cs ds ls = layI W T ls k (wayI W T cs ds ls) := by rw [force1, he, if_neg (by omega)]
  have eb : force1B W T cs ds ls = true := by rw [force1B, he]; exact decide_eq_true (by omega)
  rw [ef, eb, he]
  rw [ho] at two
  have hk0 : ¬ (k : Int) < 0 := by omega
  have hin : ints [wayI W T cs ds ls] = [.v (.int .i64 (wayI W T cs ds ls))] := rfl
  rw [hin] at two
  have hlay := layI_length W T ls k (wayI W T cs ds ls)
  have htk : (ints (layI W T ls k (wayI W T cs ds ls))).take ls.length = ints (layI W T ls k (wayI W T cs ds ls)) := List.take_of_length_le (by simp [hlay])
  simp [hk0]
  (repeat' first | assumption | apply And.intro) <;>
  · refine call_on two ?_
    simp
    (repeat' first | assumption | apply And.intro) <;>
    · refine call_on three ?_
      simp [hlay, htk]

/-- What ForceOne gives. -/
def forceL (W T : Int) (cs : List Bool) (ds ls : List Int) : List Int := if fairB W T cs ds ls then force1 W T cs ds ls else []
def forceB (W T : Int) (cs : List Bool) (ds ls : List Int) : Bool := fairB W T cs ds ls && force1B W T cs ds ls

theorem s_spec_ForceOne (W T : Int) (cs : List Bool) (ds ls : List Int) (hb : cs.length < 2 ^ 40) (hd : ds.length < 2 ^ 40) (hl : ls.length < 2 ^ 40) :
    SoundAt Tryz.prog n_spec_ForceOne [.agg [.v (.int .i64 W), .v (.int .i64 T), .sl 1 1 (bools cs)], .sl 1 1 (ints ds), .sl 1 1 (ints ls)] (.tup [.os 1 (ints (forceL W T cs ds ls)), .v (.bool (forceB W T cs ds ls))]) [.bot, .bot, .bot] := by
  refine fn_ok (md := md0) (ms := [false, false, false]) k_spec_ForceOne (by simp) ?_
  simp [c_spec_ForceOne]
  refine call_on (s_spec_FairOk W T cs ds ls hb hd hl) ?_
  cases hf : fairB W T cs ds ls with
  | false => simp [forceL, forceB, hf]
  | true =>
  have hok := fairB_ok hf
  obtain ⟨hr, e1, e2, _⟩ := okB_W hok
  have hly : laysB W T cs ls = true := by
    simp only [okB, Bool.and_eq_true] at hok; exact hok.2.2
  have eL : forceL W T cs ds ls = force1 W T cs ds ls := by simp [forceL, hf]
  have eB : forceB W T cs ds ls = force1B W T cs ds ls := by simp [forceB, hf]
  rw [eL, eB]
  simp
  refine loop_by (fun m E H => ∃ i : Nat, m = ls.length - i ∧ i ≤ ls.length ∧ (∀ j : Nat, j < i → hitB W T cs ds ls 1 j = false) ∧ H = [some (.box [.v (.int .i64 W), .v (.int .i64 T), .sl 1 1 (bools cs)])] ∧
    E = [(1, .sl 1 1 (ints ds)), (2, .sl 1 1 (ints ls)), (3, .lp 0 0 0 0), (8, .v (.int .i64 i))]) ls.length ⟨0, by simp⟩ ?_
  rintro J hJ m E H ⟨i, rfl, hi, ha, rfl, rfl⟩
  by_cases h : i < ls.length
  case neg =>
    have : i = ls.length := by omega
    subst this
    have he : oneI W T cs ds ls = -1 := firstI_none ha
    simp [c_spec_ForceOne_L0, force1, force1B, he]
    constructor <;> omega
  have next : hitB W T cs ds ls 1 i = false → again J (ls.length - i) [(1, .sl 1 1 (ints ds)), (2, .sl 1 1 (ints ls)), (3, .lp 0 0 0 0), (8, .v (.int .i64 (i + 1)))]
      [some (.box [.v (.int .i64 W), .v (.int .i64 T), .sl 1 1 (bools cs)])] := by
    intro hx
    refine ⟨_, by omega, hJ _ _ _ ⟨i + 1, rfl, h, ?_, rfl, rfl⟩⟩
    intro j hj
    rcases Nat.lt_or_ge j i with h1 | h1
    · exact ha j h1
    · have : j = i := by omega
      subst this; exact hx
  have hit : hitB W T cs ds ls 1 i = true → oneI W T cs ds ls = i := fun hx => firstI_hit h hx ha
  have two := s_spec_OptionsOf W T cs ds ls i hb hd hl
  have ho : optsOf W T cs ds ls i = optsI W T cs ds ls i := by simp [optsOf, hf]
  rw [ho] at two
  have hop : (optsI W T cs ds ls i).length ≤ 4 := optTo_length ..
  simp [c_spec_ForceOne_L0, h]
  refine call_on two ?_
  by_cases hn : (optsI W T cs ds ls i).length = 1
  case neg =>
    have hn' : ¬ ((optsI W T cs ds ls i).length : Int) = 1 := by omega
    have hx : hitB W T cs ds ls 1 i = false := by simp [hitB, hn']
    simp [hn']
    exact ⟨by omega, next hx⟩
  have hbare : 0 ≤ (i : Int) ∧ (i : Int) < cs.length ∧ atb cs i = true ∧ ati ls i = 0 := by
    apply Decidable.byContradiction
    intro hx
    rw [optsI_bare W T cs ds ls i hx] at hn
    simp at hn
  have hx : hitB W T cs ds ls 1 i = true := by simp [hitB, hbare.2.2.1, hbare.2.2.2, hn]
  have he := hit hx
  rcases one_cases W T cs ds ls with h1 | ⟨k, hk, he2, hc, hz, hol, hob, hw⟩
  · omega
  have hki : k = i := by omega
  subst hki
  have three := s_spec_LayOne W T cs ls k (wayI W T cs ds ls) hr hly
  have ef : force1 W T cs ds ls = layI W T ls k (wayI W T cs ds ls) := by rw [force1, he, if_neg (by omega)]
  have eb : force1B W T cs ds ls = true := by rw [force1B, he]; exact decide_eq_true (by omega)
  have hfr := optB_free hob
  have elay : layOneL W T cs ls k (wayI W T cs ds ls) = layI W T ls k (wayI W T cs ds ls) := by simp [layOneL, hfr]
  rw [elay, hfr] at three
  rw [ef, eb]
  have hin : ints [wayI W T cs ds ls] = [.v (.int .i64 (wayI W T cs ds ls))] := rfl
  have hlay := layI_length W T ls k (wayI W T cs ds ls)
  have htk : (ints (layI W T ls k (wayI W T cs ds ls))).take ls.length = ints (layI W T ls k (wayI W T cs ds ls)) := List.take_of_length_le (by simp [hlay])
  simp [hol, hin]
  (repeat' first | assumption | apply And.intro) <;>
  · refine call_on three ?_
    simp [hlay, htk]

end Go.Proofs.Dev

namespace Go.Proofs.Dev
set_option linter.unusedSimpArgs false
set_option maxRecDepth 100000

def zeros (ls : List Int) : Nat := ls.countP (fun x => decide (x = 0))

theorem zeros_set_le {ls : List Int} {i : Nat} {v : Int} (hv : v ≠ 0) : zeros (ls.set i v) ≤ zeros ls := by
  by_cases h : i < ls.length
  · unfold zeros
    rw [List.countP_set h]
    simp [hv]
  · rw [List.set_eq_of_length_le (by omega)]; exact Nat.le_refl _
theorem zeros_set_lt {ls : List Int} {i : Nat} {v : Int} (h : i < ls.length) (hz : ati ls i = 0) (hv : v ≠ 0) : zeros (ls.set i v) < zeros ls := by
  have he : ls[i] = 0 := by simpa [ati, h] using hz
  have hp : 0 < zeros ls := by
    unfold zeros
    rw [List.countP_pos_iff]
    exact ⟨ls[i], List.getElem_mem h, by simp [he]⟩
  unfold zeros at hp ⊢
  rw [List.countP_set h]
  simp [hv, he]
  omega

def forceAllN (W T : Int) (cs : List Bool) (ds : List Int) : Nat → List Int → List Int
  | 0, ls => ls
  | n + 1, ls => if force1B W T cs ds ls then forceAllN W T cs ds n (force1 W T cs ds ls) else ls

theorem force1_zeros {W T : Int} {cs : List Bool} {ds ls : List Int} (h : force1B W T cs ds ls = true) : zeros (force1 W T cs ds ls) < zeros ls := by
  rcases one_cases W T cs ds ls with h1 | ⟨k, hk, he, hc, hz, hol, hob, hw⟩
  · simp [force1B, h1] at h
  · rw [force1, he, if_neg (by omega)]
    have hb : backI (wayI W T cs ds ls) ≠ 0 := by
      have := (backI_back hw.1 hw.2).2
      omega
    refine Nat.lt_of_le_of_lt (zeros_set_le hb) ?_
    exact zeros_set_lt (by omega) (by simpa using hz) (by omega)

theorem force1_fair {W T : Int} {cs : List Bool} {ds ls : List Int} (hf : fairB W T cs ds ls = true) : fairB W T cs ds (force1 W T cs ds ls) = true := by
  rcases one_cases W T cs ds ls with h1 | ⟨k, hk, he, hc, hz, hol, hob, hw⟩
  · simp [force1, h1, hf]
  · rw [force1, he, if_neg (by omega)]
    exact optB_fair (fairB_ok hf) hob

def forceAllI (W T : Int) (cs : List Bool) (ds ls : List Int) : List Int := forceAllN W T cs ds ls.length ls
def forceAllL (W T : Int) (cs : List Bool) (ds ls : List Int) : List Int := if fairB W T cs ds ls then forceAllI W T cs ds ls else []
theorem forceAllN_length (W T : Int) (cs : List Bool) (ds : List Int) : ∀ (n : Nat) (ls : List Int), (forceAllN W T cs ds n ls).length = ls.length
  | 0, ls => rfl
  | n + 1, ls => by
    rw [forceAllN]; split
    · rw [forceAllN_length, force1_length]
    · rfl
theorem zeros_le (ls : List Int) : zeros ls ≤ ls.length := List.countP_le_length

/-- One step of forcing, at a count that is enough. -/
theorem forceAllN_step {W T : Int} {cs : List Bool} {ds ls : List Int} {n : Nat} (hn : zeros ls ≤ n) :
    (force1B W T cs ds ls = false ∧ forceAllN W T cs ds n ls = ls) ∨ (∃ m, n = m + 1 ∧ force1B W T cs ds ls = true ∧ zeros (force1 W T cs ds ls) ≤ m ∧ forceAllN W T cs ds n ls = forceAllN W T cs ds m (force1 W T cs ds ls)) := by
  cases hb : force1B W T cs ds ls with
  | false =>
    left
    refine ⟨rfl, ?_⟩
    cases n with
    | zero => rfl
    | succ m => simp [forceAllN, hb]
  | true =>
    right
    have hz := force1_zeros hb
    cases n with
    | zero => omega
    | succ m => exact ⟨m, rfl, rfl, by omega, by simp [forceAllN, hb]⟩

theorem s_impl_Region_forceAll (W T : Int) (cs : List Bool) (ds ls : List Int) (hf : fairB W T cs ds ls = true) :
    SoundAt Tryz.prog n_impl_Region_forceAll [.agg [.v (.int .i64 W), .v (.int .i64 T), .sl 1 1 (bools cs)], .sl 1 1 (ints ds), .sl 1 1 (ints ls)] (.os 1 (ints (forceAllI W T cs ds ls))) [.bot, .bot, .bot] := by
  refine fn_ok (md := md0) (ms := [false, false, false]) k_impl_Region_forceAll (by simp) ?_
  obtain ⟨hr, e1, e2, _⟩ := okB_W (fairB_ok hf)
  have h36 := regB_len hr
  simp [c_impl_Region_forceAll]
  refine loop_by (fun m E H => ∃ l, zeros l ≤ m ∧ l.length = ls.length ∧ fairB W T cs ds l = true ∧ forceAllN W T cs ds m l = forceAllI W T cs ds ls ∧
    ((H = [some (.box [.v (.int .i64 W), .v (.int .i64 T), .sl 1 1 (bools cs)])] ∧ E = [(1, .sl 1 1 (ints ds)), (2, .sl 1 1 (ints l)), (3, .lp 0 0 0 0)]) ∨
     (H = [some (.arr 1 (ints l)), some (.box [.v (.int .i64 W), .v (.int .i64 T), .sl 1 1 (bools cs)])] ∧ E = [(1, .sl 1 1 (ints ds)), (2, .ls 1 0 0 ls.length), (3, .lp 0 1 0 0)]))) ls.length ⟨ls, zeros_le ls, rfl, hf, rfl, .inl (by simp)⟩ ?_
  rintro J hJ m E H ⟨l, hz, hll, hfl, hn, hEH⟩
  have one := s_impl_Region_force W T cs ds l (fairB_ok hfl)
  have hfl2 := force1_fair hfl
  have h1 := force1_length W T cs ds l
  have htk : (ints (force1 W T cs ds l)).take ls.length = ints (force1 W T cs ds l) := List.take_of_length_le (by simp [h1, hll])
  have htl : (ints l).take ls.length = ints l := List.take_of_length_le (by simp [hll])
  rcases hEH with ⟨rfl, rfl⟩ | ⟨rfl, rfl⟩ <;>
  · simp [c_impl_Region_forceAll_L0, htl]
    refine call_on one ?_
    rcases forceAllN_step (W := W) (T := T) (cs := cs) (ds := ds) hz with ⟨hbb, hx⟩ | ⟨k, rfl, hbb, hz2, hx⟩
    · have e9 : force1 W T cs ds l = l := by simp [force1B] at hbb; simp [force1, hbb]
      simp [hbb, h1, hll, htk, htl, e9, ← hn, hx]
    · simp [hbb, h1, hll, htk, htl]
      exact ⟨_, by omega, hJ _ _ _ ⟨force1 W T cs ds l, hz2, by omega, hfl2, by rw [← hx, hn], .inr ⟨rfl, rfl⟩⟩⟩

theorem s_spec_ForceAll (W T : Int) (cs : List Bool) (ds ls : List Int) (hb : cs.length < 2 ^ 40) (hd : ds.length < 2 ^ 40) (hl : ls.length < 2 ^ 40) :
    SoundAt Tryz.prog n_spec_ForceAll [.agg [.v (.int .i64 W), .v (.int .i64 T), .sl 1 1 (bools cs)], .sl 1 1 (ints ds), .sl 1 1 (ints ls)] (.os 1 (ints (forceAllL W T cs ds ls))) [.bot, .bot, .bot] := by
  refine fn_ok (md := md0) (ms := [false, false, false]) k_spec_ForceAll (by simp) ?_
  simp [c_spec_ForceAll]
  refine call_on (s_spec_FairOk W T cs ds ls hb hd hl) ?_
  cases hf : fairB W T cs ds ls with
  | false => simp [forceAllL, hf]
  | true =>
  simp
  refine ⟨by omega, ?_⟩
  refine loop_by (fun m E H => ∃ l, zeros l ≤ m ∧ l.length = ls.length ∧ fairB W T cs ds l = true ∧ forceAllN W T cs ds m l = forceAllI W T cs ds ls ∧ H = [some (.box [.v (.int .i64 W), .v (.int .i64 T), .sl 1 1 (bools cs)]), some (.arr 1 (ints l))] ∧
    E = [(1, .sl 1 1 (ints ds)), (3, .lp 0 0 0 0), (7, .ls 1 1 0 ls.length)]) ls.length ⟨ls, zeros_le ls, rfl, hf, rfl, by simp⟩ ?_
  rintro J hJ m E H ⟨l, hz, hll, hfl, hn, rfl, rfl⟩
  have one := s_spec_ForceOne W T cs ds l hb hd (by omega)
  have eL : forceL W T cs ds l = force1 W T cs ds l := by simp [forceL, hfl]
  have eB : forceB W T cs ds l = force1B W T cs ds l := by simp [forceB, hfl]
  rw [eL, eB] at one
  have hfl2 := force1_fair hfl
  have h1 := force1_length W T cs ds l
  have htk : (ints (force1 W T cs ds l)).take ls.length = ints (force1 W T cs ds l) := List.take_of_length_le (by simp [h1, hll])
  have htl : (ints l).take ls.length = ints l := List.take_of_length_le (by simp [hll])
  simp [c_spec_ForceAll_L0, htl]
  refine call_on one ?_
  rcases forceAllN_step (W := W) (T := T) (cs := cs) (ds := ds) hz with ⟨hbb, hx⟩ | ⟨k, rfl, hbb, hz2, hx⟩
  · simp [hbb, h1, hll, htk, htl, forceAllL, hf, ← hn, hx]
  · simp [hbb, h1, hll, htk, htl]
    exact ⟨_, by omega, hJ _ _ _ ⟨force1 W T cs ds l, hz2, by omega, hfl2, by rw [← hx, hn], rfl, rfl⟩⟩

end Go.Proofs.Dev

namespace Go.Proofs.Dev

-- 2 parameters, results [.t 4], 12 slots, modes [false, false]
@[simp] abbrev n_laws_szIntS : Nat := 77

def c_laws_szIntS : ACode := .seq (.reg [.o 4 .mv [.k 0]]) <| .seq (.reg [.m 5 1, .m 6 0, .n 7 6, .o 8 (.bin .sub 0) [.t 5, .t 7], .m 1 8]) <|
 .seq (.seq (.reg [.m 9 1, .o 10 (.bin .lss 0) [.t 9, .k 0]]) <| .cond (.t 10) ( .seq (.reg [.o 4 .mv [.k (-1)]]) <| .ret) ( .skip)) <| .seq (.reg [.m 11 1,
 .m 4 11]) <| .ret

theorem k_laws_szIntS : cFn Tryz.prog n_laws_szIntS 12 [.t 4] c_laws_szIntS := ⟨Tryz.f77, _, Tryz.func77, rfl, by kernel_rfl, by kernel_rfl, by kernel_rfl, by kernel_rfl⟩

-- 2 parameters, results [.t 4], 27 slots, modes [false, false]
@[simp] abbrev n_laws_szIntSS : Nat := 78
def c_laws_szIntSS_L0 : ACode := .seq (.seq (.reg [.m 12 5, .m 13 0, .n 14 13, .o 15 (.bin .lss 0) [.t 12, .t 14]]) <| .cond (.t 15) ( .skip) ( .exit 0)) <|
 .seq (.block 1 ( .seq (.reg [.m 18 0, .m 19 5, .o 20 (.iadr 1) [.t 18, .t 19], .l 21 20, .m 22 1, .o 23 (.call 77 []) [.t 21, .t 22], .m 1 23]) <|
 .seq (.reg [.m 24 1, .o 25 (.bin .lss 0) [.t 24, .k 0]]) <| .cond (.t 25) ( .seq (.reg [.o 4 .mv [.k (-1)]]) <| .ret) ( .skip))) <| .reg [.m 16 5,
 .o 17 (.bin .add 0) [.t 16, .k 1], .m 5 17]

def c_laws_szIntSS : ACode := .seq (.reg [.o 4 .mv [.k 0]]) <| .seq (.reg [.m 6 1, .m 7 0, .n 8 7, .o 9 (.bin .sub 0) [.t 6, .t 8], .m 1 9]) <|
 .seq (.seq (.reg [.m 10 1, .o 11 (.bin .lss 0) [.t 10, .k 0]]) <| .cond (.t 11) ( .seq (.reg [.o 4 .mv [.k (-1)]]) <| .ret) ( .skip)) <|
 .seq (.seq (.reg [.o 5 .mv [.k 0]]) <| .block 0 ( .loop [(0, 1)] [0, 1, 5] c_laws_szIntSS_L0)) <| .seq (.reg [.m 26 1, .m 4 26]) <| .ret

theorem k_laws_szIntSS : cFn Tryz.prog n_laws_szIntSS 27 [.t 4] c_laws_szIntSS := ⟨Tryz.f78, _, Tryz.func78, rfl, by kernel_rfl, by kernel_rfl, by kernel_rfl, by kernel_rfl⟩

-- 1 parameters, results [.t 2], 23 slots, modes [false]
@[simp] abbrev n_laws_toIntSS : Nat := 88
def c_laws_toIntSS_L0 : ACode := .seq (.seq (.reg [.m 8 4, .m 9 0, .n 10 9, .o 11 (.bin .lss 0) [.t 8, .t 10]]) <| .cond (.t 11) ( .skip) ( .exit 0)) <|
 .seq (.block 1 ( .reg [.m 14 3, .m 15 4, .m 16 0, .m 17 4, .o 18 (.iadr 1) [.t 16, .t 17], .l 19 18, .o 20 (.call 87 []) [.t 19], .o 21 (.iadr 1) [.t 14,
 .t 15], .s (.store 1) [.t 21, .t 20]])) <| .reg [.m 12 4, .o 13 (.bin .add 0) [.t 12, .k 1], .m 4 13]

def c_laws_toIntSS : ACode := .seq (.reg [.o 2 .mv [.c (.os 1 [])]]) <| .seq (.reg [.m 5 0, .n 6 5, .o 7 (.mksl 1 24 (.os 1 [])) [.t 6, .t 6], .m 3 7]) <|
 .seq (.seq (.reg [.o 4 .mv [.k 0]]) <| .block 0 ( .loop [(0, 1), (3, 1)] [0, 3, 4] c_laws_toIntSS_L0)) <| .seq (.reg [.m 22 3, .m 2 22]) <| .ret

theorem k_laws_toIntSS : cFn Tryz.prog n_laws_toIntSS 23 [.t 2] c_laws_toIntSS := ⟨Tryz.f88, _, Tryz.func88, rfl, by kernel_rfl, by kernel_rfl, by kernel_rfl, by kernel_rfl⟩

-- 2 parameters, results [.t 4], 30 slots, modes [false, false]
@[simp] abbrev n_laws_szBook : Nat := 26

def c_laws_szBook : ACode := .seq (.reg [.o 2 .box [.t 0], .o 4 .mv [.k 0]]) <| .seq (.reg [.f 5 0 2, .la 6 3 5, .m 7 1, .o 8 (.call 76 []) [.t 6, .t 7],
 .m 1 8]) <| .seq (.seq (.reg [.m 9 1, .o 10 (.bin .lss 0) [.t 9, .k 0]]) <| .cond (.t 10) ( .seq (.reg [.o 4 .mv [.k (-1)]]) <| .ret) ( .skip)) <|
 .seq (.reg [.f 11 3 2, .l 12 11, .m 13 1, .o 14 (.call 77 []) [.t 12, .t 13], .m 1 14]) <| .seq (.seq (.reg [.m 15 1, .o 16 (.bin .lss 0) [.t 15, .k 0]]) <|
 .cond (.t 16) ( .seq (.reg [.o 4 .mv [.k (-1)]]) <| .ret) ( .skip)) <| .seq (.reg [.f 17 4 2, .l 18 17, .m 19 1, .o 20 (.call 77 []) [.t 18, .t 19],
 .m 1 20]) <| .seq (.seq (.reg [.m 21 1, .o 22 (.bin .lss 0) [.t 21, .k 0]]) <| .cond (.t 22) ( .seq (.reg [.o 4 .mv [.k (-1)]]) <| .ret) ( .skip)) <|
 .seq (.reg [.f 23 5 2, .l 24 23, .m 25 1, .o 26 (.call 78 []) [.t 24, .t 25], .m 1 26]) <| .seq (.seq (.reg [.m 27 1, .o 28 (.bin .lss 0) [.t 27, .k 0]]) <|
 .cond (.t 28) ( .seq (.reg [.o 4 .mv [.k (-1)]]) <| .ret) ( .skip)) <| .seq (.reg [.m 29 1, .m 4 29]) <| .ret

theorem k_laws_szBook : cFn Tryz.prog n_laws_szBook 30 [.t 4] c_laws_szBook := ⟨Tryz.f26, _, Tryz.func26, rfl, by kernel_rfl, by kernel_rfl, by kernel_rfl, by kernel_rfl⟩

-- 1 parameters, results [.c 2 true 6], 21 slots, modes [false]
@[simp] abbrev n_laws_toBook : Nat := 28

def c_laws_toBook : ACode := .seq (.reg [.o 1 .box [.t 0], .o 2 (.alloc bz) []]) <| .seq (.reg [.o 3 (.alloc bz) []]) <| .seq (.reg [.f 4 0 1, .la 5 3 4,
 .o 6 (.call 86 []) [.t 5], .f 7 0 3, .s (.store 3) [.t 7, .t 6]]) <| .seq (.reg [.f 8 3 1, .l 9 8, .o 10 (.call 87 []) [.t 9], .f 11 3 3, .s (.store 1) [.t 11,
 .t 10]]) <| .seq (.reg [.f 12 4 1, .l 13 12, .o 14 (.call 87 []) [.t 13], .f 15 4 3, .s (.store 1) [.t 15, .t 14]]) <| .seq (.reg [.f 16 5 1, .l 17 16,
 .o 18 (.call 88 []) [.t 17], .f 19 5 3, .s (.store 1) [.t 19, .t 18]]) <| .seq (.reg [.la 20 6 3, .s (.store 6) [.t 2, .t 20]]) <| .ret

theorem k_laws_toBook : cFn Tryz.prog n_laws_toBook 21 [.c 2 true 6] c_laws_toBook := ⟨Tryz.f28, _, Tryz.func28, rfl, by kernel_rfl, by kernel_rfl, by kernel_rfl, by kernel_rfl⟩

-- 2 parameters, results [.t 4], 27 slots, modes [false, false]
@[simp] abbrev n_laws_eqIntSS : Nat := 91
abbrev c_laws_eqIntSS_L0_p0 : Plan := .al (.o 25 (.call 90 []) [.t 20, .t 24]) ( .take (.o 26 (.un .not) [.t 25]) <| .done)
def c_laws_eqIntSS_L0 : ACode := .seq (.seq (.reg [.m 11 5, .m 12 0, .n 13 12, .o 14 (.bin .lss 0) [.t 11, .t 13]]) <| .cond (.t 14) ( .skip) ( .exit 0)) <|
 .seq (.block 1 ( .seq (.draw ( .take (.m 17 0) <| .take (.m 18 5) <| .take (.o 19 (.iadr 1) [.t 17, .t 18]) <| .take (.m 21 1) <| .take (.m 22 5) <|
 .take (.o 23 (.iadr 1) [.t 21, .t 22]) <| .alt (.l 20 19) ( .al (.l 24 23) c_laws_eqIntSS_L0_p0) <| .al (.l 24 23) ( .al (.l 20 19) c_laws_eqIntSS_L0_p0))) <|
 .cond (.t 26) ( .seq (.reg [.o 4 .mv [.kb false]]) <| .ret) ( .skip))) <| .reg [.m 15 5, .o 16 (.bin .add 0) [.t 15, .k 1], .m 5 16]

def c_laws_eqIntSS : ACode := .seq (.reg [.o 4 .mv [.kb false]]) <| .seq (.seq (.reg [.m 6 0, .n 7 6, .m 8 1, .n 9 8, .o 10 (.bin .neq 0) [.t 7, .t 9]]) <|
 .cond (.t 10) ( .seq (.reg [.o 4 .mv [.kb false]]) <| .ret) ( .skip)) <| .seq (.seq (.reg [.o 5 .mv [.k 0]]) <| .block 0 ( .loop [(0, 1), (1, 1)] [0, 1,
 5] c_laws_eqIntSS_L0)) <| .seq (.reg [.o 4 .mv [.kb true]]) <| .ret

theorem k_laws_eqIntSS : cFn Tryz.prog n_laws_eqIntSS 27 [.t 4] c_laws_eqIntSS := ⟨Tryz.f91, _, Tryz.func91, rfl, by kernel_rfl, by kernel_rfl, by kernel_rfl, by kernel_rfl⟩

-- 2 parameters, results [.t 4], 29 slots, modes [false, false]
@[simp] abbrev n_laws_eqBook : Nat := 30

def c_laws_eqBook : ACode := .seq (.reg [.o 2 .box [.t 0], .o 3 .box [.t 1], .o 4 .mv [.kb false]]) <| .seq (.seq (.reg [.f 5 0 2, .la 6 3 5, .f 7 0 3,
 .la 8 3 7, .o 9 (.call 89 []) [.t 6, .t 8], .o 10 (.un .not) [.t 9]]) <| .cond (.t 10) ( .seq (.reg [.o 4 .mv [.kb false]]) <| .ret) ( .skip)) <|
 .seq (.seq (.reg [.f 11 3 2, .l 12 11, .f 13 3 3, .l 14 13, .o 15 (.call 90 []) [.t 12, .t 14], .o 16 (.un .not) [.t 15]]) <|
 .cond (.t 16) ( .seq (.reg [.o 4 .mv [.kb false]]) <| .ret) ( .skip)) <| .seq (.seq (.reg [.f 17 4 2, .l 18 17, .f 19 4 3, .l 20 19, .o 21 (.call 90 []) [.t 18,
 .t 20], .o 22 (.un .not) [.t 21]]) <| .cond (.t 22) ( .seq (.reg [.o 4 .mv [.kb false]]) <| .ret) ( .skip)) <| .seq (.seq (.reg [.f 23 5 2, .l 24 23, .f 25 5 3,
 .l 26 25, .o 27 (.call 91 []) [.t 24, .t 26], .o 28 (.un .not) [.t 27]]) <| .cond (.t 28) ( .seq (.reg [.o 4 .mv [.kb false]]) <| .ret) ( .skip)) <|
 .seq (.reg [.o 4 .mv [.kb true]]) <| .ret

theorem k_laws_eqBook : cFn Tryz.prog n_laws_eqBook 29 [.t 4] c_laws_eqBook := ⟨Tryz.f30, _, Tryz.func30, rfl, by kernel_rfl, by kernel_rfl, by kernel_rfl, by kernel_rfl⟩

-- 1 parameters, results [.t 2], 35 slots, modes [false]
@[simp] abbrev n_spec_BookValid : Nat := 46
abbrev c_spec_BookValid_L0_p0 : Plan := .al (.o 20 (.call 85 []) [.t 12, .t 14, .t 19]) ( .take (.o 21 (.un .not) [.t 20]) <| .done)
abbrev c_spec_BookValid_L0_p1 : Plan := .al (.l 16 15) ( .take (.o 18 (.iadr 1) [.t 16, .t 17]) <| .al (.l 19 18) c_spec_BookValid_L0_p0)
def c_spec_BookValid_L0 : ACode := .seq (.seq (.reg [.m 4 3, .f 5 5 1, .l 6 5, .n 7 6, .o 8 (.bin .lss 0) [.t 4, .t 7]]) <| .cond (.t 8) ( .skip) ( .exit 0)) <|
 .seq (.block 1 ( .seq (.draw ( .take (.f 11 0 1) <| .take (.f 13 3 1) <| .take (.f 15 5 1) <| .take (.m 17 3) <|
 .alt (.la 12 3 11) ( .alt (.l 14 13) c_spec_BookValid_L0_p1 <| .al (.l 16 15) ( .take (.o 18 (.iadr 1) [.t 16, .t 17]) <|
 .alt (.l 14 13) ( .al (.l 19 18) c_spec_BookValid_L0_p0) <|
 .al (.l 19 18) ( .al (.l 14 13) c_spec_BookValid_L0_p0))) <|
 .alt (.l 14 13) ( .alt (.la 12 3 11) c_spec_BookValid_L0_p1 <| .al (.l 16 15) ( .take (.o 18 (.iadr 1) [.t 16, .t 17]) <|
 .alt (.la 12 3 11) ( .al (.l 19 18) c_spec_BookValid_L0_p0) <|
 .al (.l 19 18) ( .al (.la 12 3 11) c_spec_BookValid_L0_p0))) <|
 .al (.l 16 15) ( .take (.o 18 (.iadr 1) [.t 16, .t 17]) <| .alt (.la 12 3 11) ( .alt (.l 14 13) ( .al (.l 19 18) c_spec_BookValid_L0_p0) <| .al (.l 19 18) ( .al (.l 14 13) c_spec_BookValid_L0_p0)) <| .alt (.l 14 13) ( .alt (.la 12 3 11) ( .al (.l 19 18) c_spec_BookValid_L0_p0) <| .al (.l 19 18) ( .al (.la 12 3 11) c_spec_BookValid_L0_p0)) <| .al (.l 19 18) ( .alt (.la 12 3 11) ( .al (.l 14 13) c_spec_BookValid_L0_p0) <| .al (.l 14 13) ( .al (.la 12 3 11) c_spec_BookValid_L0_p0))))) <| .cond (.t 21) ( .seq (.reg [.o 2 .mv [.kb false]]) <| .ret) ( .skip))) <| .reg [.m 9 3,
 .o 10 (.bin .add 0) [.t 9, .k 1], .m 3 10]

def c_spec_BookValid : ACode := .seq (.reg [.o 1 .box [.t 0], .o 2 .mv [.kb false]]) <| .seq (.seq (.reg [.o 3 .mv [.k 0]]) <| .block 0 ( .loop [] [1,
 3] c_spec_BookValid_L0)) <| .seq (.reg [.f 22 0 1, .la 23 3 22, .f 24 3 1, .l 25 24, .f 26 4 1, .l 27 26, .o 28 (.call 85 []) [.t 23, .t 25, .t 27], .m 29 28,
 .fg 30 5 1 29 true, .lg 31 30 29 true, .g 32 (.len false) [.t 31] 29 true, .g 33 (.bin .leq 0) [.t 32, .k 20] 29 true, .o 34 .pick [.t 29, .t 33, .kb false],
 .m 2 34]) <| .ret

theorem k_spec_BookValid : cFn Tryz.prog n_spec_BookValid 35 [.t 2] c_spec_BookValid := ⟨Tryz.f46, _, Tryz.func46, rfl, by kernel_rfl, by kernel_rfl, by kernel_rfl, by kernel_rfl⟩

-- 1 parameters, results [.t 3], 11 slots, modes [false]
@[simp] abbrev n_impl_BookValid_1 : Nat := 67

def c_impl_BookValid_1 : ACode := .seq (.reg [.o 3 .mv [.kb false]]) <| .seq (.reg [.f 4 0 1, .la 5 3 4, .f 6 3 1, .l 7 6, .m 8 0, .o 9 (.call 47 []) [.t 5,
 .t 7, .t 8], .o 10 (.un .not) [.t 9], .m 3 10]) <| .ret

theorem k_impl_BookValid_1 : cFn Tryz.prog n_impl_BookValid_1 11 [.t 3] c_impl_BookValid_1 := ⟨Tryz.f67, _, Tryz.func67, rfl, by kernel_rfl, by kernel_rfl, by kernel_rfl, by kernel_rfl⟩

-- 2 parameters, results [.t 4], 19 slots, modes [false, false]
@[simp] abbrev n_slices_IndexFunc_int_int : Nat := 126
def c_slices_IndexFunc_int_int_L0 : ACode := .seq (.reg [.o 9 (.bin .lss 0) [.t 8, .t 7]]) <| .seq (.cond (.t 9) ( .skip) ( .exit 0)) <|
 .seq (.block 1 ( .seq (.reg [.m 10 8, .m 5 10]) <| .seq (.reg [.m 11 1, .m 12 0, .m 13 5, .o 14 (.iadr 1) [.t 12, .t 13], .l 15 14, .o 16 (.callv []) [.t 11,
 .t 15]]) <| .cond (.t 16) ( .seq (.reg [.m 17 5, .m 4 17]) <| .ret) ( .skip))) <| .reg [.o 18 (.bin .add 0) [.t 8, .k 1], .m 8 18]

def c_slices_IndexFunc_int_int : ACode := .seq (.reg [.o 4 .mv [.k 0]]) <| .seq (.seq (.reg [.m 6 0, .n 7 6, .o 8 .mv [.k 0]]) <| .block 0 ( .loop [(0, 1)] [0,
 1, 7, 8] c_slices_IndexFunc_int_int_L0)) <| .seq (.reg [.o 4 .mv [.k (-1)]]) <| .ret

theorem k_slices_IndexFunc_int_int : cFn Tryz.prog n_slices_IndexFunc_int_int 19 [.t 4] c_slices_IndexFunc_int_int := ⟨Tryz.f126, _, Tryz.func126, rfl, by kernel_rfl, by kernel_rfl, by kernel_rfl, by kernel_rfl⟩

-- 2 parameters, results [.t 4], 9 slots, modes [false, false]
@[simp] abbrev n_slices_ContainsFunc_int_int : Nat := 66

def c_slices_ContainsFunc_int_int : ACode := .seq (.reg [.o 4 .mv [.kb false]]) <| .seq (.reg [.m 5 0, .m 6 1, .o 7 (.call 126 []) [.t 5, .t 6],
 .o 8 (.bin .geq 0) [.t 7, .k 0], .m 4 8]) <| .ret

theorem k_slices_ContainsFunc_int_int : cFn Tryz.prog n_slices_ContainsFunc_int_int 9 [.t 4] c_slices_ContainsFunc_int_int := ⟨Tryz.f66, _, Tryz.func66, rfl, by kernel_rfl, by kernel_rfl, by kernel_rfl, by kernel_rfl⟩

-- 1 parameters, results [.t 2], 23 slots, modes [false]
@[simp] abbrev n_impl_BookValid : Nat := 19

def c_impl_BookValid : ACode := .seq (.reg [.o 1 .box [.t 0], .o 2 .mv [.kb false]]) <| .seq (.reg [.f 3 0 1, .la 4 3 3, .f 5 3 1, .l 6 5, .f 7 4 1, .l 8 7,
 .o 9 (.call 47 []) [.t 4, .t 6, .t 8], .m 10 9, .fg 11 5 1 10 true, .lg 12 11 10 true, .g 13 (.len false) [.t 12] 10 true, .g 14 (.bin .leq 0) [.t 13,
 .k 20] 10 true, .o 15 .pick [.t 10, .t 14, .kb false], .m 16 15, .fg 17 5 1 16 true, .lg 18 17 16 true, .g 19 (.mkfn 67) [.t 1] 16 true,
 .g 20 (.call 66 []) [.t 18, .t 19] 16 true, .g 21 (.un .not) [.t 20] 16 true, .o 22 .pick [.t 16, .t 21, .kb false], .m 2 22]) <| .ret

theorem k_impl_BookValid : cFn Tryz.prog n_impl_BookValid 23 [.t 2] c_impl_BookValid := ⟨Tryz.f19, _, Tryz.func19, rfl, by kernel_rfl, by kernel_rfl, by kernel_rfl, by kernel_rfl⟩

end Go.Proofs.Dev
