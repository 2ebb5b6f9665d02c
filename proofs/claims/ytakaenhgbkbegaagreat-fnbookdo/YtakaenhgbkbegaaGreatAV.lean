/- Contracts of the functions of the program over slots and rows, each proved against the program itself; no condition beyond those that each theorem names. -/
import Derived.Test.YtakaenhgbkbegaaGreatAT
import Derived.Test.YtakaenhgbkbegaaGreatProg
import Derived.Test.YtakaenhgbkbegaaGreatAU

set_option linter.unusedSimpArgs false
set_option linter.unusedVariables false

namespace Go.Proofs.Dev

-- 3 parameters, results [.t 6], 36 slots, modes [true, false, false]
@[simp] abbrev n_spec_l20Corner : Nat := 146

def c_spec_l20Corner : ACode := .seq (.reg [.o 4 .box [.t 1], .o 6 .mv [.k 0]]) <| .seq (.reg [.o 8 (.load true 3) [.t 4], .m 9 2, .o 10 (.call 173 []) [.t 8,
 .t 9], .m 7 10]) <| .seq (.seq (.reg [.m 11 7, .o 12 (.len false) [.t 11], .o 13 (.bin .gtr 0) [.t 12, .k 0], .m 14 13, .mg 15 0 14 true,
 .g 16 (.call 98 []) [.t 15, .k 3] 14 true, .g 17 (.bin .gtr 0) [.t 16, .k 0] 14 true, .o 18 .pick [.t 14, .t 17, .c (.v (.bool false))]]) <|
 .cond (.t 18) ( .seq (.reg [.m 19 7, .m 20 0, .m 21 7, .o 22 (.len false) [.t 21], .o 23 (.call 98 []) [.t 20, .t 22], .o 24 (.iadr 1) [.t 19, .t 23], .l 25 24,
 .m 6 25]) <| .ret) ( .skip)) <| .seq (.reg [.m 26 0, .o 27 (.load true 3) [.t 4], .o 28 (.call 166 []) [.t 27], .o 29 (.mnx false) [.t 28, .k 0],
 .o 30 (.bin .add 0) [.t 29, .k 1], .o 31 (.call 98 []) [.t 26, .t 30], .m 32 0, .o 33 (.call 98 []) [.t 32, .k 20], .o 34 (.bin .quo 0) [.t 33, .k 19],
 .o 35 (.bin .sub 0) [.t 31, .t 34], .m 6 35]) <| .ret

theorem k_spec_l20Corner : cFn Tryz.prog n_spec_l20Corner 36 [.t 6] c_spec_l20Corner := ⟨Tryz.f146, _, Tryz.func146, rfl, by kernel_rfl, by kernel_rfl, by kernel_rfl, by kernel_rfl⟩

-- 2 parameters, results [.c 4 true 3], 87 slots, modes [true, false]
@[simp] abbrev n_spec_l20Deed : Nat := 102
def c_spec_l20Deed_L0 : ACode := .seq (.seq (.reg [.m 35 7, .o 36 (.bin .lss 0) [.t 35, .k 4], .m 37 36, .g 38 (.fadr 1) [.t 5] 37 true,
 .g 39 (.load false 1) [.t 38] 37 true, .g 40 (.fadr 4) [.t 3] 37 true, .g 41 (.load false 1) [.t 40] 37 true, .g 42 (.len false) [.t 41] 37 true,
 .g 43 (.bin .lss 0) [.t 39, .t 42] 37 true, .o 44 .pick [.t 37, .t 43, .c (.v (.bool false))], .m 45 44, .g 46 (.fadr 4) [.t 3] 45 true,
 .g 47 (.load false 1) [.t 46] 45 true, .g 48 (.fadr 1) [.t 5] 45 true, .g 49 (.load false 1) [.t 48] 45 true, .g 50 (.iadr 1) [.t 47, .t 49] 45 true,
 .g 51 (.load false 1) [.t 50] 45 true, .g 52 (.bin .neq 0) [.t 51, .k 0] 45 true, .o 53 .pick [.t 45, .t 52, .c (.v (.bool false))]]) <|
 .cond (.t 53) ( .skip) ( .exit 1)) <| .seq (.block 2 ( .reg [.f 56 1 5, .l 57 56, .o 58 (.bin .add 0) [.t 57, .k 1], .m 59 6, .o 60 (.bin .rem 0) [.t 58,
 .t 59], .f 61 1 5, .s (.store 1) [.t 61, .t 60]])) <| .reg [.m 54 7, .o 55 (.bin .add 0) [.t 54, .k 1], .m 7 55]

def c_spec_l20Deed_T1 : ACode := .seq (.reg [.o 86 (.load true 3) [.t 5], .s (.store 3) [.t 4, .t 86]]) <| .ret

def c_spec_l20Deed_T2 : ACode := .seq (.reg [.f 19 4 3, .l 20 19, .o 21 (.len false) [.t 20], .o 22 (.mnx false) [.t 21, .k 1], .m 6 22]) <|
 .seq (.seq (.reg [.f 23 0 5, .l 24 23]) <| .block 0 ( .seq (.reg [.o 26 (.bin .eql 0) [.t 24, .k 0], .m 25 26]) <| .cond (.t 25) ( .seq (.reg [.m 27 0, .m 28 6,
 .o 29 (.call 98 []) [.t 27, .t 28], .f 30 1 5, .s (.store 1) [.t 30, .t 29]]) <| .seq (.reg [.m 31 0, .o 32 (.call 98 []) [.t 31, .k 4],
 .o 33 (.bin .add 0) [.k 1, .t 32], .f 34 2 5, .s (.store 1) [.t 34, .t 33]]) <| .seq (.reg [.o 7 .mv [.k 0]]) <| .block 1 ( .loop [] [0, 3, 4, 5, 6, 7,
 87] c_spec_l20Deed_L0)) ( .seq (.reg [.o 63 (.bin .eql 0) [.t 24, .k 1], .m 62 63]) <| .cond (.t 62) ( .reg [.m 64 0, .m 65 6, .o 66 (.call 98 []) [.t 64,
 .t 65], .f 67 1 5, .s (.store 1) [.t 67, .t 66]]) ( .seq (.reg [.o 69 (.bin .eql 0) [.t 24, .k 2], .m 68 69]) <| .cond (.t 68) ( .reg [.m 70 0, .f 71 0 3,
 .o 72 (.load true 3) [.t 71], .f 73 4 3, .l 74 73, .o 75 (.call 146 []) [.t 70, .t 72, .t 74], .f 76 1 5, .s (.store 1) [.t 76, .t 75]]) ( .skip))))) <|
 .seq (.seq (.reg [.m 77 0, .o 78 (.call 104 []) [.t 77, .k 30]]) <| .cond (.t 78) ( .draw ( .take (.f 79 1 5) <| .take (.m 81 0) <|
 .alt (.l 80 79) ( .al (.o 82 (.call 98 []) [.t 81, .k 60]) ( .take (.o 83 (.bin .add 0) [.t 80, .t 82]) <| .take (.o 84 (.bin .sub 0) [.t 83, .k 5]) <|
 .take (.f 85 1 5) <| .al (.s (.store 1) [.t 85, .t 84]) ( .done))) <| .al (.o 82 (.call 98 []) [.t 81,
 .k 60]) ( .al (.l 80 79) ( .take (.o 83 (.bin .add 0) [.t 80, .t 82]) <| .take (.o 84 (.bin .sub 0) [.t 83, .k 5]) <| .take (.f 85 1 5) <|
 .al (.s (.store 1) [.t 85, .t 84]) ( .done))))) ( .skip)) <| .gc [] [4, 5, 87] c_spec_l20Deed_T1

def c_spec_l20Deed : ACode := .seq (.reg [.o 3 .box [.t 1], .o 4 (.alloc [.v (.int .i64 (0)), .v (.int .i64 (0)), .v (.int .i64 (0))]) []]) <|
 .seq (.draw ( .take (.m 9 0) <| .take (.m 13 0) <| .alt (.o 8 (.bsl 1) [.k 0, .k 0, .k 0, .k 0, .k 1, .k 2, .k 2, .k 3,
 .k 4]) ( .alt (.o 10 (.call 98 []) [.t 9, .k 9]) ( .take (.o 11 (.iadr 1) [.t 8, .t 10]) <| .alt (.l 12 11) ( .alt (.o 14 (.call 98 []) [.t 13,
 .k 60]) ( .take (.o 15 (.bin .quo 0) [.t 14, .k 59]) <| .take (.o 16 (.bin .mul 0) [.t 15, .k 5]) <| .take (.o 17 (.bin .add 0) [.t 12, .t 16]) <|
 .take (.o 18 (.build [.v (.int .i64 (0)), .v (.int .i64 (0)), .v (.int .i64 (0))] [(0, 1)]) [.t 17]) <| .al (.o 5 (.alloc [.v (.int .i64 (0)),
 .v (.int .i64 (0)), .v (.int .i64 (0))]) []) ( .al (.s (.store 3) [.t 5, .t 18]) ( .done))) <| .al (.o 5 (.alloc [.v (.int .i64 (0)), .v (.int .i64 (0)),
 .v (.int .i64 (0))]) []) ( .al (.o 14 (.call 98 []) [.t 13, .k 60]) ( .take (.o 15 (.bin .quo 0) [.t 14, .k 59]) <| .take (.o 16 (.bin .mul 0) [.t 15, .k 5]) <|
 .take (.o 17 (.bin .add 0) [.t 12, .t 16]) <| .take (.o 18 (.build [.v (.int .i64 (0)), .v (.int .i64 (0)), .v (.int .i64 (0))] [(0, 1)]) [.t 17]) <|
 .al (.s (.store 3) [.t 5, .t 18]) ( .done)))) <| .alt (.o 14 (.call 98 []) [.t 13, .k 60]) ( .take (.o 15 (.bin .quo 0) [.t 14, .k 59]) <|
 .take (.o 16 (.bin .mul 0) [.t 15, .k 5]) <| .alt (.l 12 11) ( .take (.o 17 (.bin .add 0) [.t 12, .t 16]) <| .take (.o 18 (.build [.v (.int .i64 (0)),
 .v (.int .i64 (0)), .v (.int .i64 (0))] [(0, 1)]) [.t 17]) <| .al (.o 5 (.alloc [.v (.int .i64 (0)), .v (.int .i64 (0)),
 .v (.int .i64 (0))]) []) ( .al (.s (.store 3) [.t 5, .t 18]) ( .done))) <| .al (.o 5 (.alloc [.v (.int .i64 (0)), .v (.int .i64 (0)),
 .v (.int .i64 (0))]) []) ( .al (.l 12 11) ( .take (.o 17 (.bin .add 0) [.t 12, .t 16]) <| .take (.o 18 (.build [.v (.int .i64 (0)), .v (.int .i64 (0)),
 .v (.int .i64 (0))] [(0, 1)]) [.t 17]) <| .al (.s (.store 3) [.t 5, .t 18]) ( .done)))) <| .al (.o 5 (.alloc [.v (.int .i64 (0)), .v (.int .i64 (0)),
 .v (.int .i64 (0))]) []) ( .alt (.l 12 11) ( .al (.o 14 (.call 98 []) [.t 13, .k 60]) ( .take (.o 15 (.bin .quo 0) [.t 14, .k 59]) <|
 .take (.o 16 (.bin .mul 0) [.t 15, .k 5]) <| .take (.o 17 (.bin .add 0) [.t 12, .t 16]) <| .take (.o 18 (.build [.v (.int .i64 (0)), .v (.int .i64 (0)),
 .v (.int .i64 (0))] [(0, 1)]) [.t 17]) <| .al (.s (.store 3) [.t 5, .t 18]) ( .done))) <| .al (.o 14 (.call 98 []) [.t 13,
 .k 60]) ( .take (.o 15 (.bin .quo 0) [.t 14, .k 59]) <| .take (.o 16 (.bin .mul 0) [.t 15, .k 5]) <| .al (.l 12 11) ( .take (.o 17 (.bin .add 0) [.t 12,
 .t 16]) <| .take (.o 18 (.build [.v (.int .i64 (0)), .v (.int .i64 (0)), .v (.int .i64 (0))] [(0, 1)]) [.t 17]) <| .al (.s (.store 3) [.t 5,
 .t 18]) ( .done))))) <| .al (.o 5 (.alloc [.v (.int .i64 (0)), .v (.int .i64 (0)), .v (.int .i64 (0))]) []) ( .al (.o 10 (.call 98 []) [.t 9,
 .k 9]) ( .take (.o 11 (.iadr 1) [.t 8, .t 10]) <| .alt (.l 12 11) ( .al (.o 14 (.call 98 []) [.t 13, .k 60]) ( .take (.o 15 (.bin .quo 0) [.t 14, .k 59]) <|
 .take (.o 16 (.bin .mul 0) [.t 15, .k 5]) <| .take (.o 17 (.bin .add 0) [.t 12, .t 16]) <| .take (.o 18 (.build [.v (.int .i64 (0)), .v (.int .i64 (0)),
 .v (.int .i64 (0))] [(0, 1)]) [.t 17]) <| .al (.s (.store 3) [.t 5, .t 18]) ( .done))) <| .al (.o 14 (.call 98 []) [.t 13,
 .k 60]) ( .take (.o 15 (.bin .quo 0) [.t 14, .k 59]) <| .take (.o 16 (.bin .mul 0) [.t 15, .k 5]) <| .al (.l 12 11) ( .take (.o 17 (.bin .add 0) [.t 12,
 .t 16]) <| .take (.o 18 (.build [.v (.int .i64 (0)), .v (.int .i64 (0)), .v (.int .i64 (0))] [(0, 1)]) [.t 17]) <| .al (.s (.store 3) [.t 5,
 .t 18]) ( .done)))))) <| .alt (.o 10 (.call 98 []) [.t 9, .k 9]) ( .alt (.o 8 (.bsl 1) [.k 0, .k 0, .k 0, .k 0, .k 1, .k 2, .k 2, .k 3,
 .k 4]) ( .take (.o 11 (.iadr 1) [.t 8, .t 10]) <| .alt (.l 12 11) ( .alt (.o 14 (.call 98 []) [.t 13, .k 60]) ( .take (.o 15 (.bin .quo 0) [.t 14, .k 59]) <|
 .take (.o 16 (.bin .mul 0) [.t 15, .k 5]) <| .take (.o 17 (.bin .add 0) [.t 12, .t 16]) <| .take (.o 18 (.build [.v (.int .i64 (0)), .v (.int .i64 (0)),
 .v (.int .i64 (0))] [(0, 1)]) [.t 17]) <| .al (.o 5 (.alloc [.v (.int .i64 (0)), .v (.int .i64 (0)), .v (.int .i64 (0))]) []) ( .al (.s (.store 3) [.t 5,
 .t 18]) ( .done))) <| .al (.o 5 (.alloc [.v (.int .i64 (0)), .v (.int .i64 (0)), .v (.int .i64 (0))]) []) ( .al (.o 14 (.call 98 []) [.t 13,
 .k 60]) ( .take (.o 15 (.bin .quo 0) [.t 14, .k 59]) <| .take (.o 16 (.bin .mul 0) [.t 15, .k 5]) <| .take (.o 17 (.bin .add 0) [.t 12, .t 16]) <|
 .take (.o 18 (.build [.v (.int .i64 (0)), .v (.int .i64 (0)), .v (.int .i64 (0))] [(0, 1)]) [.t 17]) <| .al (.s (.store 3) [.t 5, .t 18]) ( .done)))) <|
 .alt (.o 14 (.call 98 []) [.t 13, .k 60]) ( .take (.o 15 (.bin .quo 0) [.t 14, .k 59]) <| .take (.o 16 (.bin .mul 0) [.t 15, .k 5]) <|
 .alt (.l 12 11) ( .take (.o 17 (.bin .add 0) [.t 12, .t 16]) <| .take (.o 18 (.build [.v (.int .i64 (0)), .v (.int .i64 (0)), .v (.int .i64 (0))] [(0,
 1)]) [.t 17]) <| .al (.o 5 (.alloc [.v (.int .i64 (0)), .v (.int .i64 (0)), .v (.int .i64 (0))]) []) ( .al (.s (.store 3) [.t 5, .t 18]) ( .done))) <|
 .al (.o 5 (.alloc [.v (.int .i64 (0)), .v (.int .i64 (0)), .v (.int .i64 (0))]) []) ( .al (.l 12 11) ( .take (.o 17 (.bin .add 0) [.t 12, .t 16]) <|
 .take (.o 18 (.build [.v (.int .i64 (0)), .v (.int .i64 (0)), .v (.int .i64 (0))] [(0, 1)]) [.t 17]) <| .al (.s (.store 3) [.t 5, .t 18]) ( .done)))) <|
 .al (.o 5 (.alloc [.v (.int .i64 (0)), .v (.int .i64 (0)), .v (.int .i64 (0))]) []) ( .alt (.l 12 11) ( .al (.o 14 (.call 98 []) [.t 13,
 .k 60]) ( .take (.o 15 (.bin .quo 0) [.t 14, .k 59]) <| .take (.o 16 (.bin .mul 0) [.t 15, .k 5]) <| .take (.o 17 (.bin .add 0) [.t 12, .t 16]) <|
 .take (.o 18 (.build [.v (.int .i64 (0)), .v (.int .i64 (0)), .v (.int .i64 (0))] [(0, 1)]) [.t 17]) <| .al (.s (.store 3) [.t 5, .t 18]) ( .done))) <|
 .al (.o 14 (.call 98 []) [.t 13, .k 60]) ( .take (.o 15 (.bin .quo 0) [.t 14, .k 59]) <| .take (.o 16 (.bin .mul 0) [.t 15, .k 5]) <|
 .al (.l 12 11) ( .take (.o 17 (.bin .add 0) [.t 12, .t 16]) <| .take (.o 18 (.build [.v (.int .i64 (0)), .v (.int .i64 (0)), .v (.int .i64 (0))] [(0,
 1)]) [.t 17]) <| .al (.s (.store 3) [.t 5, .t 18]) ( .done))))) <| .alt (.o 14 (.call 98 []) [.t 13, .k 60]) ( .take (.o 15 (.bin .quo 0) [.t 14, .k 59]) <|
 .take (.o 16 (.bin .mul 0) [.t 15, .k 5]) <| .alt (.o 8 (.bsl 1) [.k 0, .k 0, .k 0, .k 0, .k 1, .k 2, .k 2, .k 3, .k 4]) ( .take (.o 11 (.iadr 1) [.t 8,
 .t 10]) <| .alt (.l 12 11) ( .take (.o 17 (.bin .add 0) [.t 12, .t 16]) <| .take (.o 18 (.build [.v (.int .i64 (0)), .v (.int .i64 (0)),
 .v (.int .i64 (0))] [(0, 1)]) [.t 17]) <| .al (.o 5 (.alloc [.v (.int .i64 (0)), .v (.int .i64 (0)), .v (.int .i64 (0))]) []) ( .al (.s (.store 3) [.t 5,
 .t 18]) ( .done))) <| .al (.o 5 (.alloc [.v (.int .i64 (0)), .v (.int .i64 (0)), .v (.int .i64 (0))]) []) ( .al (.l 12 11) ( .take (.o 17 (.bin .add 0) [.t 12,
 .t 16]) <| .take (.o 18 (.build [.v (.int .i64 (0)), .v (.int .i64 (0)), .v (.int .i64 (0))] [(0, 1)]) [.t 17]) <| .al (.s (.store 3) [.t 5,
 .t 18]) ( .done)))) <| .al (.o 5 (.alloc [.v (.int .i64 (0)), .v (.int .i64 (0)), .v (.int .i64 (0))]) []) ( .al (.o 8 (.bsl 1) [.k 0, .k 0, .k 0, .k 0, .k 1,
 .k 2, .k 2, .k 3, .k 4]) ( .take (.o 11 (.iadr 1) [.t 8, .t 10]) <| .al (.l 12 11) ( .take (.o 17 (.bin .add 0) [.t 12, .t 16]) <|
 .take (.o 18 (.build [.v (.int .i64 (0)), .v (.int .i64 (0)), .v (.int .i64 (0))] [(0, 1)]) [.t 17]) <| .al (.s (.store 3) [.t 5, .t 18]) ( .done))))) <|
 .al (.o 5 (.alloc [.v (.int .i64 (0)), .v (.int .i64 (0)), .v (.int .i64 (0))]) []) ( .alt (.o 8 (.bsl 1) [.k 0, .k 0, .k 0, .k 0, .k 1, .k 2, .k 2, .k 3,
 .k 4]) ( .take (.o 11 (.iadr 1) [.t 8, .t 10]) <| .alt (.l 12 11) ( .al (.o 14 (.call 98 []) [.t 13, .k 60]) ( .take (.o 15 (.bin .quo 0) [.t 14, .k 59]) <|
 .take (.o 16 (.bin .mul 0) [.t 15, .k 5]) <| .take (.o 17 (.bin .add 0) [.t 12, .t 16]) <| .take (.o 18 (.build [.v (.int .i64 (0)), .v (.int .i64 (0)),
 .v (.int .i64 (0))] [(0, 1)]) [.t 17]) <| .al (.s (.store 3) [.t 5, .t 18]) ( .done))) <| .al (.o 14 (.call 98 []) [.t 13,
 .k 60]) ( .take (.o 15 (.bin .quo 0) [.t 14, .k 59]) <| .take (.o 16 (.bin .mul 0) [.t 15, .k 5]) <| .al (.l 12 11) ( .take (.o 17 (.bin .add 0) [.t 12,
 .t 16]) <| .take (.o 18 (.build [.v (.int .i64 (0)), .v (.int .i64 (0)), .v (.int .i64 (0))] [(0, 1)]) [.t 17]) <| .al (.s (.store 3) [.t 5,
 .t 18]) ( .done)))) <| .al (.o 14 (.call 98 []) [.t 13, .k 60]) ( .take (.o 15 (.bin .quo 0) [.t 14, .k 59]) <| .take (.o 16 (.bin .mul 0) [.t 15, .k 5]) <|
 .al (.o 8 (.bsl 1) [.k 0, .k 0, .k 0, .k 0, .k 1, .k 2, .k 2, .k 3, .k 4]) ( .take (.o 11 (.iadr 1) [.t 8, .t 10]) <|
 .al (.l 12 11) ( .take (.o 17 (.bin .add 0) [.t 12, .t 16]) <| .take (.o 18 (.build [.v (.int .i64 (0)), .v (.int .i64 (0)), .v (.int .i64 (0))] [(0,
 1)]) [.t 17]) <| .al (.s (.store 3) [.t 5, .t 18]) ( .done)))))) <| .al (.o 5 (.alloc [.v (.int .i64 (0)), .v (.int .i64 (0)),
 .v (.int .i64 (0))]) []) ( .alt (.o 8 (.bsl 1) [.k 0, .k 0, .k 0, .k 0, .k 1, .k 2, .k 2, .k 3, .k 4]) ( .al (.o 10 (.call 98 []) [.t 9,
 .k 9]) ( .take (.o 11 (.iadr 1) [.t 8, .t 10]) <| .alt (.l 12 11) ( .al (.o 14 (.call 98 []) [.t 13, .k 60]) ( .take (.o 15 (.bin .quo 0) [.t 14, .k 59]) <|
 .take (.o 16 (.bin .mul 0) [.t 15, .k 5]) <| .take (.o 17 (.bin .add 0) [.t 12, .t 16]) <| .take (.o 18 (.build [.v (.int .i64 (0)), .v (.int .i64 (0)),
 .v (.int .i64 (0))] [(0, 1)]) [.t 17]) <| .al (.s (.store 3) [.t 5, .t 18]) ( .done))) <| .al (.o 14 (.call 98 []) [.t 13,
 .k 60]) ( .take (.o 15 (.bin .quo 0) [.t 14, .k 59]) <| .take (.o 16 (.bin .mul 0) [.t 15, .k 5]) <| .al (.l 12 11) ( .take (.o 17 (.bin .add 0) [.t 12,
 .t 16]) <| .take (.o 18 (.build [.v (.int .i64 (0)), .v (.int .i64 (0)), .v (.int .i64 (0))] [(0, 1)]) [.t 17]) <| .al (.s (.store 3) [.t 5,
 .t 18]) ( .done))))) <| .al (.o 10 (.call 98 []) [.t 9, .k 9]) ( .alt (.o 8 (.bsl 1) [.k 0, .k 0, .k 0, .k 0, .k 1, .k 2, .k 2, .k 3,
 .k 4]) ( .take (.o 11 (.iadr 1) [.t 8, .t 10]) <| .alt (.l 12 11) ( .al (.o 14 (.call 98 []) [.t 13, .k 60]) ( .take (.o 15 (.bin .quo 0) [.t 14, .k 59]) <|
 .take (.o 16 (.bin .mul 0) [.t 15, .k 5]) <| .take (.o 17 (.bin .add 0) [.t 12, .t 16]) <| .take (.o 18 (.build [.v (.int .i64 (0)), .v (.int .i64 (0)),
 .v (.int .i64 (0))] [(0, 1)]) [.t 17]) <| .al (.s (.store 3) [.t 5, .t 18]) ( .done))) <| .al (.o 14 (.call 98 []) [.t 13,
 .k 60]) ( .take (.o 15 (.bin .quo 0) [.t 14, .k 59]) <| .take (.o 16 (.bin .mul 0) [.t 15, .k 5]) <| .al (.l 12 11) ( .take (.o 17 (.bin .add 0) [.t 12,
 .t 16]) <| .take (.o 18 (.build [.v (.int .i64 (0)), .v (.int .i64 (0)), .v (.int .i64 (0))] [(0, 1)]) [.t 17]) <| .al (.s (.store 3) [.t 5,
 .t 18]) ( .done)))) <| .al (.o 14 (.call 98 []) [.t 13, .k 60]) ( .take (.o 15 (.bin .quo 0) [.t 14, .k 59]) <| .take (.o 16 (.bin .mul 0) [.t 15, .k 5]) <|
 .al (.o 8 (.bsl 1) [.k 0, .k 0, .k 0, .k 0, .k 1, .k 2, .k 2, .k 3, .k 4]) ( .take (.o 11 (.iadr 1) [.t 8, .t 10]) <|
 .al (.l 12 11) ( .take (.o 17 (.bin .add 0) [.t 12, .t 16]) <| .take (.o 18 (.build [.v (.int .i64 (0)), .v (.int .i64 (0)), .v (.int .i64 (0))] [(0,
 1)]) [.t 17]) <| .al (.s (.store 3) [.t 5, .t 18]) ( .done)))))))) <| .gc [] [0, 3, 4, 5, 87] c_spec_l20Deed_T2

theorem k_spec_l20Deed : cFn Tryz.prog n_spec_l20Deed 87 [.c 4 true 3] c_spec_l20Deed := ⟨Tryz.f102, _, Tryz.func102, rfl, by kernel_rfl, by kernel_rfl, by kernel_rfl, by kernel_rfl⟩

-- 2 parameters, results [.c 4 true 6], 64 slots, modes [true, false]
@[simp] abbrev n_spec_l20Book : Nat := 71
def c_spec_l20Book_L0 : ACode := .seq (.seq (.reg [.m 21 8, .o 22 (.bin .gtr 0) [.t 21, .k 0]]) <| .cond (.t 22) ( .skip) ( .exit 0)) <|
 .seq (.block 1 ( .seq (.draw ( .take (.m 27 0) <| .alt (.o 26 (.load true 6) [.t 7]) ( .alt (.o 28 (.load true 6) [.t 7]) ( .alt (.o 29 (.call 102 []) [.t 27,
 .t 28]) ( .alt (.o 30 (.call 27 []) [.t 26, .t 29]) ( .take (.m 25 30) <| .take (.e 31 0 25) <| .take (.e 32 1 25) <| .al (.o 9 (.alloc [.v (.int .i64 (0)),
 .v (.int .i64 (0)), .os 1 [], .os 1 [], .os 1 [], .os 1 []]) []) ( .al (.s (.store 6) [.t 9, .t 31]) ( .take (.m 10 32) <| .done))) <|
 .al (.o 9 (.alloc [.v (.int .i64 (0)), .v (.int .i64 (0)), .os 1 [], .os 1 [], .os 1 [], .os 1 []]) []) ( .al (.o 30 (.call 27 []) [.t 26,
 .t 29]) ( .take (.m 25 30) <| .take (.e 31 0 25) <| .take (.e 32 1 25) <| .al (.s (.store 6) [.t 9, .t 31]) ( .take (.m 10 32) <| .done)))) <|
 .al (.o 9 (.alloc [.v (.int .i64 (0)), .v (.int .i64 (0)), .os 1 [], .os 1 [], .os 1 [], .os 1 []]) []) ( .al (.o 29 (.call 102 []) [.t 27,
 .t 28]) ( .al (.o 30 (.call 27 []) [.t 26, .t 29]) ( .take (.m 25 30) <| .take (.e 31 0 25) <| .take (.e 32 1 25) <| .al (.s (.store 6) [.t 9,
 .t 31]) ( .take (.m 10 32) <| .done))))) <| .al (.o 9 (.alloc [.v (.int .i64 (0)), .v (.int .i64 (0)), .os 1 [], .os 1 [], .os 1 [],
 .os 1 []]) []) ( .al (.o 28 (.load true 6) [.t 7]) ( .al (.o 29 (.call 102 []) [.t 27, .t 28]) ( .al (.o 30 (.call 27 []) [.t 26, .t 29]) ( .take (.m 25 30) <|
 .take (.e 31 0 25) <| .take (.e 32 1 25) <| .al (.s (.store 6) [.t 9, .t 31]) ( .take (.m 10 32) <| .done)))))) <|
 .alt (.o 28 (.load true 6) [.t 7]) ( .alt (.o 26 (.load true 6) [.t 7]) ( .alt (.o 29 (.call 102 []) [.t 27, .t 28]) ( .alt (.o 30 (.call 27 []) [.t 26,
 .t 29]) ( .take (.m 25 30) <| .take (.e 31 0 25) <| .take (.e 32 1 25) <| .al (.o 9 (.alloc [.v (.int .i64 (0)), .v (.int .i64 (0)), .os 1 [], .os 1 [],
 .os 1 [], .os 1 []]) []) ( .al (.s (.store 6) [.t 9, .t 31]) ( .take (.m 10 32) <| .done))) <| .al (.o 9 (.alloc [.v (.int .i64 (0)), .v (.int .i64 (0)),
 .os 1 [], .os 1 [], .os 1 [], .os 1 []]) []) ( .al (.o 30 (.call 27 []) [.t 26, .t 29]) ( .take (.m 25 30) <| .take (.e 31 0 25) <| .take (.e 32 1 25) <|
 .al (.s (.store 6) [.t 9, .t 31]) ( .take (.m 10 32) <| .done)))) <| .al (.o 9 (.alloc [.v (.int .i64 (0)), .v (.int .i64 (0)), .os 1 [], .os 1 [], .os 1 [],
 .os 1 []]) []) ( .al (.o 29 (.call 102 []) [.t 27, .t 28]) ( .al (.o 30 (.call 27 []) [.t 26, .t 29]) ( .take (.m 25 30) <| .take (.e 31 0 25) <|
 .take (.e 32 1 25) <| .al (.s (.store 6) [.t 9, .t 31]) ( .take (.m 10 32) <| .done))))) <| .alt (.o 29 (.call 102 []) [.t 27,
 .t 28]) ( .alt (.o 26 (.load true 6) [.t 7]) ( .alt (.o 30 (.call 27 []) [.t 26, .t 29]) ( .take (.m 25 30) <| .take (.e 31 0 25) <| .take (.e 32 1 25) <|
 .al (.o 9 (.alloc [.v (.int .i64 (0)), .v (.int .i64 (0)), .os 1 [], .os 1 [], .os 1 [], .os 1 []]) []) ( .al (.s (.store 6) [.t 9,
 .t 31]) ( .take (.m 10 32) <| .done))) <| .al (.o 9 (.alloc [.v (.int .i64 (0)), .v (.int .i64 (0)), .os 1 [], .os 1 [], .os 1 [],
 .os 1 []]) []) ( .al (.o 30 (.call 27 []) [.t 26, .t 29]) ( .take (.m 25 30) <| .take (.e 31 0 25) <| .take (.e 32 1 25) <| .al (.s (.store 6) [.t 9,
 .t 31]) ( .take (.m 10 32) <| .done)))) <| .al (.o 9 (.alloc [.v (.int .i64 (0)), .v (.int .i64 (0)), .os 1 [], .os 1 [], .os 1 [],
 .os 1 []]) []) ( .al (.o 26 (.load true 6) [.t 7]) ( .al (.o 30 (.call 27 []) [.t 26, .t 29]) ( .take (.m 25 30) <| .take (.e 31 0 25) <| .take (.e 32 1 25) <|
 .al (.s (.store 6) [.t 9, .t 31]) ( .take (.m 10 32) <| .done))))) <| .al (.o 9 (.alloc [.v (.int .i64 (0)), .v (.int .i64 (0)), .os 1 [], .os 1 [], .os 1 [],
 .os 1 []]) []) ( .alt (.o 26 (.load true 6) [.t 7]) ( .al (.o 29 (.call 102 []) [.t 27, .t 28]) ( .al (.o 30 (.call 27 []) [.t 26, .t 29]) ( .take (.m 25 30) <|
 .take (.e 31 0 25) <| .take (.e 32 1 25) <| .al (.s (.store 6) [.t 9, .t 31]) ( .take (.m 10 32) <| .done)))) <| .al (.o 29 (.call 102 []) [.t 27,
 .t 28]) ( .al (.o 26 (.load true 6) [.t 7]) ( .al (.o 30 (.call 27 []) [.t 26, .t 29]) ( .take (.m 25 30) <| .take (.e 31 0 25) <| .take (.e 32 1 25) <|
 .al (.s (.store 6) [.t 9, .t 31]) ( .take (.m 10 32) <| .done)))))) <| .al (.o 9 (.alloc [.v (.int .i64 (0)), .v (.int .i64 (0)), .os 1 [], .os 1 [], .os 1 [],
 .os 1 []]) []) ( .alt (.o 26 (.load true 6) [.t 7]) ( .al (.o 28 (.load true 6) [.t 7]) ( .al (.o 29 (.call 102 []) [.t 27,
 .t 28]) ( .al (.o 30 (.call 27 []) [.t 26, .t 29]) ( .take (.m 25 30) <| .take (.e 31 0 25) <| .take (.e 32 1 25) <| .al (.s (.store 6) [.t 9,
 .t 31]) ( .take (.m 10 32) <| .done))))) <| .al (.o 28 (.load true 6) [.t 7]) ( .alt (.o 26 (.load true 6) [.t 7]) ( .al (.o 29 (.call 102 []) [.t 27,
 .t 28]) ( .al (.o 30 (.call 27 []) [.t 26, .t 29]) ( .take (.m 25 30) <| .take (.e 31 0 25) <| .take (.e 32 1 25) <| .al (.s (.store 6) [.t 9,
 .t 31]) ( .take (.m 10 32) <| .done)))) <| .al (.o 29 (.call 102 []) [.t 27, .t 28]) ( .al (.o 26 (.load true 6) [.t 7]) ( .al (.o 30 (.call 27 []) [.t 26,
 .t 29]) ( .take (.m 25 30) <| .take (.e 31 0 25) <| .take (.e 32 1 25) <| .al (.s (.store 6) [.t 9, .t 31]) ( .take (.m 10 32) <| .done)))))))) <|
 .seq (.reg [.m 33 10]) <| .cond (.t 33) ( .reg [.o 34 (.load true 6) [.t 9], .s (.store 6) [.t 7, .t 34]]) ( .skip))) <| .reg [.m 23 8,
 .o 24 (.bin .sub 0) [.t 23, .k 1], .m 8 24]

def c_spec_l20Book : ACode := .seq (.reg [.o 4 (.alloc [.v (.int .i64 (0)), .v (.int .i64 (0)), .os 1 [], .os 1 [], .os 1 [], .os 1 []]) []]) <|
 .seq (.reg [.m 12 0, .o 13 (.call 54 []) [.t 12, .k 0], .m 11 13, .e 14 0 11, .e 15 1 11, .o 5 (.alloc [.v (.int .i64 (0)), .v (.int .i64 (0)), .os 1 []]) [],
 .s (.store 3) [.t 5, .t 14], .m 6 15]) <| .seq (.reg [.o 16 (.load true 3) [.t 5], .m 17 6, .o 18 (.call 14 []) [.t 16, .t 17],
 .o 7 (.alloc [.v (.int .i64 (0)), .v (.int .i64 (0)), .os 1 [], .os 1 [], .os 1 [], .os 1 []]) [], .s (.store 6) [.t 7, .t 18]]) <| .seq (.seq (.reg [.m 19 0,
 .o 20 (.call 98 []) [.t 19, .k 14], .m 8 20]) <| .block 0 ( .loop [] [0, 1, 4, 7, 8, 64] c_spec_l20Book_L0)) <| .seq (.seq (.reg [.m 35 0, .m 36 1,
 .o 37 (.call 104 []) [.t 35, .t 36]]) <| .cond (.t 37) ( .seq (.reg [.m 38 0, .o 39 (.call 98 []) [.t 38, .k 4]]) <|
 .block 2 ( .seq (.reg [.o 46 (.bin .eql 0) [.t 39, .k 0], .m 45 46]) <| .cond (.t 45) ( .reg [.f 47 4 7, .l 48 47, .o 49 (.bsl 1) [.k 0],
 .o 50 (.app 1 8 true) [.t 48, .t 49], .f 51 4 7, .s (.store 1) [.t 51, .t 50]]) ( .seq (.reg [.o 53 (.bin .eql 0) [.t 39, .k 1], .m 52 53]) <|
 .cond (.t 52) ( .reg [.f 54 5 7, .l 55 54, .o 56 (.bsl 1) [.k 9], .o 57 (.bsl 1) [.t 56], .o 58 (.app 1 24 false) [.t 55, .t 57], .f 59 5 7,
 .s (.store 1) [.t 59, .t 58]]) ( .seq (.reg [.o 61 (.bin .eql 0) [.t 39, .k 2], .m 60 61]) <| .cond (.t 60) ( .seq (.reg [.o 62 (.build [.v (.int .i64 (0)),
 .v (.int .i64 (0)), .os 1 [], .os 1 [], .os 1 [], .os 1 []] []) [], .s (.store 6) [.t 4, .t 62]]) <| .ret) ( .reg [.f 40 3 7, .l 41 40, .o 42 (.bsl 1) [.k 0],
 .o 43 (.app 1 8 true) [.t 41, .t 42], .f 44 3 7, .s (.store 1) [.t 44, .t 43]]))))) ( .skip)) <| .seq (.reg [.o 63 (.load true 6) [.t 7], .s (.store 6) [.t 4,
 .t 63]]) <| .ret

theorem k_spec_l20Book : cFn Tryz.prog n_spec_l20Book 64 [.c 4 true 6] c_spec_l20Book := ⟨Tryz.f71, _, Tryz.func71, rfl, by kernel_rfl, by kernel_rfl, by kernel_rfl, by kernel_rfl⟩

-- 1 parameters, results [.c 2 true 3, .t 3], 9 slots, modes [false]
@[simp] abbrev n_spec_DrawBookNew : Nat := 11

def c_spec_DrawBookNew : ACode := .seq (.reg [.o 2 (.alloc [.v (.int .i64 (0)), .v (.int .i64 (0)), .os 1 []]) [], .o 3 .mv [.c (.os 1 [])]]) <|
 .seq (.reg [.m 4 0, .o 5 (.call 55 []) [.t 4], .o 6 (.call 54 []) [.t 5, .k 4], .e 7 0 6, .e 8 1 6, .s (.store 3) [.t 2, .t 7], .m 3 8]) <| .ret

theorem k_spec_DrawBookNew : cFn Tryz.prog n_spec_DrawBookNew 9 [.c 2 true 3, .t 3] c_spec_DrawBookNew := ⟨Tryz.f11, _, Tryz.func11, rfl, by kernel_rfl, by kernel_rfl, by kernel_rfl, by kernel_rfl⟩

-- 1 parameters, results [.c 2 true 6], 6 slots, modes [false]
@[simp] abbrev n_spec_DrawCellsLeft : Nat := 22

def c_spec_DrawCellsLeft : ACode := .seq (.reg [.o 2 (.alloc [.v (.int .i64 (0)), .v (.int .i64 (0)), .os 1 [], .os 1 [], .os 1 [], .os 1 []]) []]) <|
 .seq (.reg [.m 3 0, .o 4 (.call 55 []) [.t 3], .o 5 (.call 71 []) [.t 4, .k 9], .s (.store 6) [.t 2, .t 5]]) <| .ret

theorem k_spec_DrawCellsLeft : cFn Tryz.prog n_spec_DrawCellsLeft 6 [.c 2 true 6] c_spec_DrawCellsLeft := ⟨Tryz.f22, _, Tryz.func22, rfl, by kernel_rfl, by kernel_rfl, by kernel_rfl, by kernel_rfl⟩

-- 1 parameters, results [.c 2 true 6], 37 slots, modes [false]
@[simp] abbrev n_spec_DrawBookSolved : Nat := 33
def c_spec_DrawBookSolved_L0 : ACode := .seq (.seq (.reg [.m 15 6, .m 16 5, .o 17 (.len false) [.t 16], .o 18 (.bin .lss 0) [.t 15, .t 17], .m 19 18,
 .mg 20 3 19 true, .g 21 (.call 98 []) [.t 20, .k 9] 19 true, .g 22 (.bin .gtr 0) [.t 21, .k 0] 19 true, .o 23 .pick [.t 19, .t 22, .c (.v (.bool false))]]) <|
 .cond (.t 23) ( .skip) ( .exit 0)) <| .seq (.block 1 ( .seq (.draw ( .take (.m 28 5) <| .take (.m 29 6) <| .take (.o 30 (.iadr 3) [.t 28, .t 29]) <|
 .alt (.o 27 (.load true 6) [.t 4]) ( .alt (.o 31 (.load true 3) [.t 30]) ( .alt (.o 32 (.call 27 []) [.t 27, .t 31]) ( .take (.m 26 32) <| .take (.e 33 0 26) <|
 .take (.e 34 1 26) <| .al (.o 7 (.alloc [.v (.int .i64 (0)), .v (.int .i64 (0)), .os 1 [], .os 1 [], .os 1 [], .os 1 []]) []) ( .al (.s (.store 6) [.t 7,
 .t 33]) ( .take (.m 8 34) <| .done))) <| .al (.o 7 (.alloc [.v (.int .i64 (0)), .v (.int .i64 (0)), .os 1 [], .os 1 [], .os 1 [],
 .os 1 []]) []) ( .al (.o 32 (.call 27 []) [.t 27, .t 31]) ( .take (.m 26 32) <| .take (.e 33 0 26) <| .take (.e 34 1 26) <| .al (.s (.store 6) [.t 7,
 .t 33]) ( .take (.m 8 34) <| .done)))) <| .al (.o 7 (.alloc [.v (.int .i64 (0)), .v (.int .i64 (0)), .os 1 [], .os 1 [], .os 1 [],
 .os 1 []]) []) ( .al (.o 31 (.load true 3) [.t 30]) ( .al (.o 32 (.call 27 []) [.t 27, .t 31]) ( .take (.m 26 32) <| .take (.e 33 0 26) <| .take (.e 34 1 26) <|
 .al (.s (.store 6) [.t 7, .t 33]) ( .take (.m 8 34) <| .done))))) <|
 .alt (.o 31 (.load true 3) [.t 30]) ( .alt (.o 27 (.load true 6) [.t 4]) ( .alt (.o 32 (.call 27 []) [.t 27, .t 31]) ( .take (.m 26 32) <| .take (.e 33 0 26) <|
 .take (.e 34 1 26) <| .al (.o 7 (.alloc [.v (.int .i64 (0)), .v (.int .i64 (0)), .os 1 [], .os 1 [], .os 1 [], .os 1 []]) []) ( .al (.s (.store 6) [.t 7,
 .t 33]) ( .take (.m 8 34) <| .done))) <| .al (.o 7 (.alloc [.v (.int .i64 (0)), .v (.int .i64 (0)), .os 1 [], .os 1 [], .os 1 [],
 .os 1 []]) []) ( .al (.o 32 (.call 27 []) [.t 27, .t 31]) ( .take (.m 26 32) <| .take (.e 33 0 26) <| .take (.e 34 1 26) <| .al (.s (.store 6) [.t 7,
 .t 33]) ( .take (.m 8 34) <| .done)))) <| .al (.o 7 (.alloc [.v (.int .i64 (0)), .v (.int .i64 (0)), .os 1 [], .os 1 [], .os 1 [],
 .os 1 []]) []) ( .al (.o 27 (.load true 6) [.t 4]) ( .al (.o 32 (.call 27 []) [.t 27, .t 31]) ( .take (.m 26 32) <| .take (.e 33 0 26) <| .take (.e 34 1 26) <|
 .al (.s (.store 6) [.t 7, .t 33]) ( .take (.m 8 34) <| .done))))) <| .al (.o 7 (.alloc [.v (.int .i64 (0)), .v (.int .i64 (0)), .os 1 [], .os 1 [], .os 1 [],
 .os 1 []]) []) ( .alt (.o 27 (.load true 6) [.t 4]) ( .al (.o 31 (.load true 3) [.t 30]) ( .al (.o 32 (.call 27 []) [.t 27, .t 31]) ( .take (.m 26 32) <|
 .take (.e 33 0 26) <| .take (.e 34 1 26) <| .al (.s (.store 6) [.t 7, .t 33]) ( .take (.m 8 34) <| .done)))) <|
 .al (.o 31 (.load true 3) [.t 30]) ( .al (.o 27 (.load true 6) [.t 4]) ( .al (.o 32 (.call 27 []) [.t 27, .t 31]) ( .take (.m 26 32) <| .take (.e 33 0 26) <|
 .take (.e 34 1 26) <| .al (.s (.store 6) [.t 7, .t 33]) ( .take (.m 8 34) <| .done))))))) <| .reg [.o 35 (.load true 6) [.t 7], .s (.store 6) [.t 4,
 .t 35]])) <| .reg [.m 24 6, .o 25 (.bin .add 0) [.t 24, .k 1], .m 6 25]

def c_spec_DrawBookSolved : ACode := .seq (.reg [.o 2 (.alloc [.v (.int .i64 (0)), .v (.int .i64 (0)), .os 1 [], .os 1 [], .os 1 [], .os 1 []]) []]) <|
 .seq (.reg [.m 9 0, .o 10 (.call 55 []) [.t 9], .m 3 10]) <| .seq (.reg [.m 11 3, .o 12 (.call 71 []) [.t 11, .k 9], .o 4 (.alloc [.v (.int .i64 (0)),
 .v (.int .i64 (0)), .os 1 [], .os 1 [], .os 1 [], .os 1 []]) [], .s (.store 6) [.t 4, .t 12]]) <| .seq (.reg [.o 13 (.load true 6) [.t 4],
 .o 14 (.call 51 []) [.t 13], .m 5 14]) <| .seq (.seq (.reg [.o 6 .mv [.k 0]]) <| .block 0 ( .loop [(5, 3)] [2, 3, 4, 5, 6] c_spec_DrawBookSolved_L0)) <|
 .seq (.reg [.o 36 (.load true 6) [.t 4], .s (.store 6) [.t 2, .t 36]]) <| .ret

theorem k_spec_DrawBookSolved : cFn Tryz.prog n_spec_DrawBookSolved 37 [.c 2 true 6] c_spec_DrawBookSolved := ⟨Tryz.f33, _, Tryz.func33, rfl, by kernel_rfl, by kernel_rfl, by kernel_rfl, by kernel_rfl⟩

-- 1 parameters, results [.c 2 true 6, .c 3 true 3], 14 slots, modes [false]
@[simp] abbrev n_spec_DrawBookDo : Nat := 43

def c_spec_DrawBookDo : ACode := .seq (.reg [.o 2 (.alloc [.v (.int .i64 (0)), .v (.int .i64 (0)), .os 1 [], .os 1 [], .os 1 [], .os 1 []]) [],
 .o 3 (.alloc [.v (.int .i64 (0)), .v (.int .i64 (0)), .v (.int .i64 (0))]) []]) <| .seq (.reg [.m 6 0, .o 7 (.call 55 []) [.t 6], .m 4 7]) <|
 .seq (.reg [.m 8 4, .o 9 (.call 71 []) [.t 8, .k 12], .o 5 (.alloc [.v (.int .i64 (0)), .v (.int .i64 (0)), .os 1 [], .os 1 [], .os 1 [], .os 1 []]) [],
 .s (.store 6) [.t 5, .t 9]]) <| .seq (.draw ( .take (.m 11 4) <|
 .alt (.o 10 (.load true 6) [.t 5]) ( .al (.o 12 (.load true 6) [.t 5]) ( .al (.o 13 (.call 102 []) [.t 11, .t 12]) ( .al (.s (.store 6) [.t 2,
 .t 10]) ( .al (.s (.store 3) [.t 3, .t 13]) ( .done))))) <|
 .al (.o 12 (.load true 6) [.t 5]) ( .alt (.o 10 (.load true 6) [.t 5]) ( .al (.o 13 (.call 102 []) [.t 11, .t 12]) ( .al (.s (.store 6) [.t 2,
 .t 10]) ( .al (.s (.store 3) [.t 3, .t 13]) ( .done)))) <| .al (.o 13 (.call 102 []) [.t 11,
 .t 12]) ( .al (.o 10 (.load true 6) [.t 5]) ( .al (.s (.store 6) [.t 2, .t 10]) ( .al (.s (.store 3) [.t 3, .t 13]) ( .done))))))) <| .ret

theorem k_spec_DrawBookDo : cFn Tryz.prog n_spec_DrawBookDo 14 [.c 2 true 6, .c 3 true 3] c_spec_DrawBookDo := ⟨Tryz.f43, _, Tryz.func43, rfl, by kernel_rfl, by kernel_rfl, by kernel_rfl, by kernel_rfl⟩

-- 1 parameters, results [.c 2 true 6, .t 3], 18 slots, modes [false]
@[simp] abbrev n_spec_DrawBookRun : Nat := 45
-- 1 parameters, results [.c 2 true 6], 6 slots, modes [false]
@[simp] abbrev n_spec_DrawEndDeeds : Nat := 48

-- 2 parameters, results [.t 4], 35 slots, modes [true, false]
@[simp] abbrev n_spec_l20Deeds : Nat := 105
end Go.Proofs.Dev

namespace Go.Proofs.Dev
set_option linter.unusedSimpArgs false
set_option maxRecDepth 100000

/-- Who takes ownership: of the reader. -/
@[simp] def md8 (f : Nat) : List Bool := if f = n_spec_l20Corner then [true, false, false] else if f = n_spec_l20Deed ∨ f = n_spec_l20Book ∨ f = n_spec_l20Deeds then [true, false] else if f = n_spec_DrawBookNew ∨ f = n_spec_DrawCellsLeft ∨ f = n_spec_DrawBookSolved ∨ f = n_spec_DrawBookDo ∨ f = n_spec_DrawBookRun ∨ f = n_spec_DrawEndDeeds then [true] else md5 f

def cornSet (bs : List Int) (p : Nat) (r : AV) (ups : List AV) : Prop := ∃ (x : Int) (q : Nat), -1 ≤ x ∧ x ≤ 49 ∧ q ≤ p + 3 ∧ r = .v (.int .i64 x) ∧ ups = [rdA bs q, .bot, .bot]

theorem s_spec_l20Corner (bs : List Int) (p : Nat) (W T : Int) (cs : List Bool) (ls : List Int) (hb : bs.length ≤ 2000) (hB : Byt bs) (hp : p < 2 ^ 39) (hc : cs.length < 2 ^ 40) (hl : ls.length < 2 ^ 40) :
    SoundSet Tryz.prog n_spec_l20Corner [rdA bs p, .agg [.v (.int .i64 W), .v (.int .i64 T), .sl 1 1 (bools cs)], .sl 1 1 (ints ls)] (cornSet bs p) := by
  refine fn_okS (md := md8) (ms := [true, false, false]) k_spec_l20Corner (by simp) ?_
  have fl := s_spec_FlipsOf W T cs ls hc hl
  have h49 := flipsTo_length W T cs ls (corN W T cs)
  have hn49 := corN_le W T cs
  have hmem := @flipsTo_mem W T cs ls (corN W T cs)
  change (flipsI W T cs ls).length ≤ _ at h49
  change ∀ {x : Int}, x ∈ flipsI W T cs ls → _ at hmem
  have cm := s_spec_CornerMany W T cs hc
  obtain ⟨M, hM, m1, m2⟩ : ∃ M : Int, (if regB W T cs = true then corI W T else -1) = M ∧ -1 ≤ M ∧ M ≤ 49 := by
    refine ⟨_, rfl, ?_⟩
    split
    · rename_i hr
      obtain ⟨w1, w2, t1, t2, _⟩ := regB_W hr
      have := cor_in w1 w2 t1 t2
      omega
    · omega
  rw [hM] at cm
  generalize flipsI W T cs ls = fs at *
  simp [c_spec_l20Corner]
  refine call_on fl ?_
  by_cases hz : fs = []
  · subst hz
    simp
    refine call_on cm ?_
    simp
    refine ⟨by split <;> omega, ?_⟩
    refine call_onK (s_spec_l20Rd_pick bs p ((if M < 0 then 0 else M) + 1) hb hB (by omega)) [0] (by simp) (by simp) (by simp) ?_
    rintro _ _ ⟨x, x0, x1, rfl, rfl⟩
    simp
    refine call_onK (s_spec_l20Rd_pick bs (p + 1) 20 hb hB (by omega)) [0] (by simp) (by simp) (by simp) ?_
    rintro _ _ ⟨y, y0, y1, rfl, rfl⟩
    simp
    have hx : x ≤ 49 := by split at x1 <;> omega
    refine ⟨by omega, by omega, _, _, ⟨x - y / 19, p + 1 + 1, by omega, by omega, by omega, rfl, rfl⟩, ?_⟩
    simp
  · have hz0 : 0 < fs.length := by
      cases fs with
      | nil => exact absurd rfl hz
      | cons a l => simp
    have hz1 : (0 : Int) < fs.length := by omega
    simp [hz, hz0, hz1]
    refine call_onK (s_spec_l20Rd_pick bs p 3 hb hB (by omega)) [0] (by simp) (by simp) (by simp) ?_
    rintro _ _ ⟨x, x0, x1, rfl, rfl⟩
    by_cases hx : 0 < x
    · simp [hx]
      refine call_onK (s_spec_l20Rd_pick bs (p + 1) fs.length hb hB (by omega)) [0] (by simp) (by simp) (by simp) ?_
      rintro _ _ ⟨y, y0, y1, rfl, rfl⟩
      have y2 : y < fs.length := by omega
      have hy : ati fs y ∈ fs := by
        have : y.toNat < fs.length := by omega
        simp [ati, this]
      have := hmem hy
      have hg : (ints fs)[y.toNat]? = some (.v (.int .i64 (ati fs y))) := ints_get (by omega)
      have hmx : max y 0 = y := by omega
      simp [y0, y2, hg, hmx]
      refine ⟨_, _, ⟨ati fs y, p + 1 + 1, by omega, by omega, by omega, rfl, rfl⟩, ?_⟩
      simp
    · simp [hx]
      refine call_on cm ?_
      simp
      refine ⟨by split <;> omega, ?_⟩
      refine call_onK (s_spec_l20Rd_pick bs (p + 1) ((if M < 0 then 0 else M) + 1) hb hB (by omega)) [0] (by simp) (by simp) (by simp) ?_
      rintro _ _ ⟨z, z0, z1, rfl, rfl⟩
      simp
      refine call_onK (s_spec_l20Rd_pick bs (p + 1 + 1) 20 hb hB (by omega)) [0] (by simp) (by simp) (by simp) ?_
      rintro _ _ ⟨y, y0, y1, rfl, rfl⟩
      simp
      have hx : z ≤ 49 := by split at z1 <;> omega
      refine ⟨by omega, by omega, _, _, ⟨z - y / 19, p + 1 + 1 + 1, by omega, by omega, by omega, rfl, rfl⟩, ?_⟩
      simp

def deedSet (bs : List Int) (p : Nat) (r : AV) (ups : List AV) : Prop := ∃ (k s w : Int) (q : Nat), 0 ≤ k ∧ k ≤ 20 ∧ -100 ≤ s ∧ s ≤ 200 ∧ 0 ≤ w ∧ w ≤ 4 ∧ q ≤ p + 10 ∧ r = deedV k s w ∧ ups = [rdA bs q, .bot]

abbrev nd9 : List AV := [AV.v (.int .i64 0), AV.v (.int .i64 0), AV.v (.int .i64 0), AV.v (.int .i64 0), AV.v (.int .i64 1), AV.v (.int .i64 2), AV.v (.int .i64 2), AV.v (.int .i64 3), AV.v (.int .i64 4)]
theorem nd9get {x : Int} (h0 : 0 ≤ x) (h1 : x < 9) : ∃ v : Int, 0 ≤ v ∧ v ≤ 4 ∧ ∀ h : x.toNat < nd9.length, nd9[x.toNat]'h = .v (.int .i64 v) := by
  obtain rfl | rfl | rfl | rfl | rfl | rfl | rfl | rfl | rfl : x = 0 ∨ x = 1 ∨ x = 2 ∨ x = 3 ∨ x = 4 ∨ x = 5 ∨ x = 6 ∨ x = 7 ∨ x = 8 := by omega
  · exact ⟨0, by decide, by decide, fun _ => rfl⟩
  · exact ⟨0, by decide, by decide, fun _ => rfl⟩
  · exact ⟨0, by decide, by decide, fun _ => rfl⟩
  · exact ⟨0, by decide, by decide, fun _ => rfl⟩
  · exact ⟨1, by decide, by decide, fun _ => rfl⟩
  · exact ⟨2, by decide, by decide, fun _ => rfl⟩
  · exact ⟨2, by decide, by decide, fun _ => rfl⟩
  · exact ⟨3, by decide, by decide, fun _ => rfl⟩
  · exact ⟨4, by decide, by decide, fun _ => rfl⟩

abbrev dedF (bs : List Int) (p : Nat) := FinS [RV.c 4 true 3] 87 2 [true, false] (deedSet bs p)
abbrev dedH (bs : List Int) (q : Nat) (W T : Int) (cs : List Bool) (ds ls : List Int) (ps : List (List Int)) (k s w : Int) : Heap :=
  [some (.box [.sl 0 1 (u8s bs), .v (.int .i64 q)]), some (.box [.v (.int .i64 W), .v (.int .i64 T), .sl 1 1 (bools cs), .sl 1 1 (ints ds), .sl 1 1 (ints ls), .sl 1 1 (sls 1 ps)]), some (.box [.v (.int .i64 0), .v (.int .i64 0), .v (.int .i64 0)]),
    some (.box [.v (.int .i64 k), .v (.int .i64 s), .v (.int .i64 w)])]

def c_dedTail : ACode := .seq (.seq (.reg [.m 77 0, .o 78 (.call 104 []) [.t 77, .k 30]]) <| .cond (.t 78) ( .draw ( .take (.f 79 1 5) <| .take (.m 81 0) <|
 .alt (.l 80 79) ( .al (.o 82 (.call 98 []) [.t 81, .k 60]) ( .take (.o 83 (.bin .add 0) [.t 80, .t 82]) <| .take (.o 84 (.bin .sub 0) [.t 83, .k 5]) <|
 .take (.f 85 1 5) <| .al (.s (.store 1) [.t 85, .t 84]) ( .done))) <| .al (.o 82 (.call 98 []) [.t 81,
 .k 60]) ( .al (.l 80 79) ( .take (.o 83 (.bin .add 0) [.t 80, .t 82]) <| .take (.o 84 (.bin .sub 0) [.t 83, .k 5]) <| .take (.f 85 1 5) <|
 .al (.s (.store 1) [.t 85, .t 84]) ( .done))))) ( .skip)) <| .gc [] [4, 5, 87] c_spec_l20Deed_T1
def c_dedSw : ACode := .block 0 ( .seq (.reg [.o 26 (.bin .eql 0) [.t 24, .k 0], .m 25 26]) <| .cond (.t 25) ( .seq (.reg [.m 27 0, .m 28 6,
 .o 29 (.call 98 []) [.t 27, .t 28], .f 30 1 5, .s (.store 1) [.t 30, .t 29]]) <| .seq (.reg [.m 31 0, .o 32 (.call 98 []) [.t 31, .k 4],
 .o 33 (.bin .add 0) [.k 1, .t 32], .f 34 2 5, .s (.store 1) [.t 34, .t 33]]) <| .seq (.reg [.o 7 .mv [.k 0]]) <| .block 1 ( .loop [] [0, 3, 4, 5, 6, 7,
 87] c_spec_l20Deed_L0)) ( .seq (.reg [.o 63 (.bin .eql 0) [.t 24, .k 1], .m 62 63]) <| .cond (.t 62) ( .reg [.m 64 0, .m 65 6, .o 66 (.call 98 []) [.t 64,
 .t 65], .f 67 1 5, .s (.store 1) [.t 67, .t 66]]) ( .seq (.reg [.o 69 (.bin .eql 0) [.t 24, .k 2], .m 68 69]) <| .cond (.t 68) ( .reg [.m 70 0, .f 71 0 3,
 .o 72 (.load true 3) [.t 71], .f 73 4 3, .l 74 73, .o 75 (.call 146 []) [.t 70, .t 72, .t 74], .f 76 1 5, .s (.store 1) [.t 76, .t 75]]) ( .skip))))
theorem ded_parts : c_spec_l20Deed_T2 = .seq (.reg [.f 19 4 3,
    .l 20 19,
    .o 21 (.len false) [.t 20],
    .o 22 (.mnx false) [.t 21, .k 1],
    .m 6 22]) (.seq (.seq (.reg [.f 23 0 5,
    .l 24 23]) c_dedSw) c_dedTail) := rfl

theorem ded_end (bs : List Int) (p q : Nat) (k s w : Int) (hq : q ≤ p + 10) (hk : 0 ≤ k ∧ k ≤ 20) (hs : -100 ≤ s ∧ s ≤ 200) (hw : 0 ≤ w ∧ w ≤ 4) :
    awp Tryz.prog md8 c_spec_l20Deed_T1 (dedF bs p) [(4, .lp 0 0 0 0), (5, .lp 0 1 0 0), (87, .lp 0 2 0 0)]
      [some (.box [.v (.int .i64 0), .v (.int .i64 0), .v (.int .i64 0)]), some (.box [.v (.int .i64 k), .v (.int .i64 s), .v (.int .i64 w)]), some (.box [.sl 0 1 (u8s bs), .v (.int .i64 q)])] := by
  simp [c_spec_l20Deed_T1]
  refine ⟨_, _, ⟨k, s, w, q, hk.1, hk.2, hs.1, hs.2, hw.1, hw.2, hq, rfl, rfl⟩, ?_⟩
  simp

theorem ded_tail (bs : List Int) (p q : Nat) (W T : Int) (cs : List Bool) (ds ls : List Int) (ps : List (List Int)) (k s w : Int) (hb : bs.length ≤ 2000) (hB : Byt bs) (hp : p < 2 ^ 38) (hq : q ≤ p + 8) (hk : 0 ≤ k ∧ k ≤ 20) (hs : -90 ≤ s ∧ s ≤ 140) (hw : 0 ≤ w ∧ w ≤ 4) (E : ES)
    (e0 : get E 0 = .lp 0 0 0 0) (e4 : get E 4 = .lp 0 2 0 0) (e5 : get E 5 = .lp 0 3 0 0) (e87 : get E 87 = .lp 0 0 0 0) :
    awp Tryz.prog md8 c_dedTail (dedF bs p) E (dedH bs q W T cs ds ls ps k s w) := by
  simp [c_dedTail, e0, e4, e5, e87]
  refine call_onK (s_spec_l20Rd_odd bs q 30 hb hB (by omega) (by omega)) [0] (by simp) (by simp) (by simp) ?_
  rintro _ _ ⟨b, q2, rfl, hq2, rfl⟩
  cases b with
  | false =>
    simp [get_purgeE, e0, e4, e5, e87]
    exact ded_end bs p q2 k s w (by omega) hk (by omega) hw
  | true =>
    simp [get_purgeE, e0, e4, e5, e87]
    (repeat' first | omega | apply And.intro) <;>
    · refine call_onK (s_spec_l20Rd_pick bs q2 60 hb hB (by omega)) [0] (by simp) (by simp) (by simp) ?_
      rintro _ _ ⟨x, x0, x1, rfl, rfl⟩
      simp [get_purgeE, e0, e4, e5, e87]
      exact ⟨by omega, by omega, ded_end bs p (q2 + 1) k (s + x - 5) w (by omega) hk (by omega) hw⟩

theorem ded_loop (bs : List Int) (q : Nat) (W T : Int) (cs : List Bool) (ds ls : List Int) (ps : List (List Int)) (k s w : Int) (hl : ls.length ≤ 40) (n : Int) (hn : n = if (ls.length : Int) < 1 then 1 else (ls.length : Int)) (hs : 0 ≤ s ∧ s < n) (Qc : AExit → ES → Heap → Prop)
    (hend : ∀ (s : Int) (E : ES), 0 ≤ s → s ≤ 40 → get E 0 = .lp 0 0 0 0 → get E 4 = .lp 0 2 0 0 → get E 5 = .lp 0 3 0 0 → get E 87 = .lp 0 0 0 0 → Qc (.exit 1) E (dedH bs q W T cs ds ls ps k s w)) :
    loopNode [] [0, 3, 4, 5, 6, 7, 87] (awp Tryz.prog md8 c_spec_l20Deed_L0) Qc
      [(0, .lp 0 0 0 0), (3, .lp 0 1 0 0), (4, .lp 0 2 0 0), (5, .lp 0 3 0 0), (6, .v (.int .i64 n)), (7, .v (.int .i64 0)), (87, .lp 0 0 0 0)] (dedH bs q W T cs ds ls ps k s w) := by
  have n40 : 1 ≤ n ∧ n ≤ 40 := by rw [hn]; split <;> omega
  refine loop_by (fun m E H => ∃ (i : Nat) (s : Int), m = 4 - i ∧ i ≤ 4 ∧ 0 ≤ s ∧ s < n ∧ E = [(0, .lp 0 0 0 0), (3, .lp 0 1 0 0), (4, .lp 0 2 0 0), (5, .lp 0 3 0 0), (6, .v (.int .i64 n)), (7, .v (.int .i64 i)), (87, .lp 0 0 0 0)] ∧
    H = dedH bs q W T cs ds ls ps k s w) 4 ⟨0, s, rfl, by omega, hs.1, hs.2, rfl, rfl⟩ ?_
  rintro J hJ m E H ⟨i, s, rfl, hi, s0, s1, rfl, rfl⟩
  by_cases h4 : i < 4
  case neg =>
    have : i = 4 := by omega
    subst this
    simp [c_spec_l20Deed_L0]
    exact hend s _ s0 (by omega) rfl rfl rfl rfl
  have h4' : (i : Int) < 4 := by omega
  by_cases hsl : s < ls.length
  case neg =>
    simp [c_spec_l20Deed_L0, h4', hsl]
    exact hend s _ s0 (by omega) rfl rfl rfl rfl
  by_cases hz : ati ls s = 0
  · simp [c_spec_l20Deed_L0, h4', hsl, s0, hz]
    exact hend s _ s0 (by omega) rfl rfl rfl rfl
  · have r0 := Int.emod_nonneg (s + 1) (show n ≠ 0 by omega)
    have r1 := Int.emod_lt_of_pos (s + 1) (show 0 < n by omega)
    simp [c_spec_l20Deed_L0, h4', hsl, s0, hz]
    exact ⟨by omega, by omega, by omega, _, by omega, hJ _ _ _ ⟨i + 1, (s + 1) % n, rfl, by omega, r0, r1, by simp, rfl⟩⟩

set_option maxHeartbeats 2000000 in
theorem ded_T2 (bs : List Int) (p q : Nat) (W T : Int) (cs : List Bool) (ds ls : List Int) (ps : List (List Int)) (k : Int) (hb : bs.length ≤ 2000) (hB : Byt bs) (hp : p < 2 ^ 38) (hc : cs.length ≤ 40) (hd : ds.length ≤ 40) (hl : ls.length ≤ 40)
    (hq : q ≤ p + 2) (hk : 0 ≤ k ∧ k ≤ 20) :
    awp Tryz.prog md8 c_spec_l20Deed_T2 (dedF bs p) [(0, .lp 0 0 0 0), (3, .lp 0 1 0 0), (4, .lp 0 2 0 0), (5, .lp 0 3 0 0), (87, .lp 0 0 0 0)] (dedH bs q W T cs ds ls ps k 0 0) := by
  have n40 : 1 ≤ (if (ls.length : Int) < 1 then 1 else (ls.length : Int)) ∧ (if (ls.length : Int) < 1 then 1 else (ls.length : Int)) ≤ 40 := by split <;> omega
  have pkn : SoundSet Tryz.prog n_spec_l20Rd_pick [rdA bs q, .v (.int .i64 (if (ls.length : Int) < 1 then 1 else (ls.length : Int)))] (pickSet bs (if (ls.length : Int) < 1 then 1 else (ls.length : Int)) q) := s_spec_l20Rd_pick bs q _ hb hB (by omega)
  rw [ded_parts]
  simp
  by_cases h0 : k = 0
  · subst h0
    simp [c_dedSw]
    refine call_onK pkn [0] (by simp) (by simp) (by simp) ?_
    rintro _ _ ⟨x, x0, x1, rfl, rfl⟩
    simp
    refine call_onK (s_spec_l20Rd_pick bs (q + 1) 4 hb hB (by omega)) [0] (by simp) (by simp) (by simp) ?_
    rintro _ _ ⟨y, y0, y1, rfl, rfl⟩
    simp
    refine ⟨by omega, ?_⟩
    refine ded_loop bs (q + 1 + 1) W T cs ds ls ps 0 x (1 + y) hl (if (ls.length : Int) < 1 then 1 else (ls.length : Int)) rfl (by omega) _ ?_
    intro s E s0 s1 e0 e4 e5 e87
    simp
    exact ded_tail bs p (q + 1 + 1) W T cs ds ls ps 0 s (1 + y) hb hB hp (by omega) hk (by omega) (by omega) E e0 e4 e5 e87
  by_cases h1 : k = 1
  · subst h1
    simp [c_dedSw]
    refine call_onK pkn [0] (by simp) (by simp) (by simp) ?_
    rintro _ _ ⟨x, x0, x1, rfl, rfl⟩
    simp
    exact ded_tail bs p (q + 1) W T cs ds ls ps 1 x 0 hb hB hp (by omega) hk (by omega) (by omega) _ rfl rfl rfl rfl
  by_cases h2 : k = 2
  · subst h2
    simp [c_dedSw]
    refine call_onK (s_spec_l20Corner bs q W T cs ls hb hB (by omega) (by omega) (by omega)) [0] (by simp) (by simp) (by simp) ?_
    rintro _ _ ⟨x, q2, x0, x1, hq2, rfl, rfl⟩
    simp
    exact ded_tail bs p q2 W T cs ds ls ps 2 x 0 hb hB hp (by omega) hk (by omega) (by omega) _ rfl rfl rfl rfl
  · simp [c_dedSw, h0, h1, h2]
    exact ded_tail bs p q W T cs ds ls ps k 0 0 hb hB hp (by omega) hk (by omega) (by omega) _ rfl rfl rfl rfl

set_option maxHeartbeats 20000000 in
theorem s_spec_l20Deed (bs : List Int) (p : Nat) (W T : Int) (cs : List Bool) (ds ls : List Int) (ps : List (List Int)) (hb : bs.length ≤ 2000) (hB : Byt bs) (hp : p < 2 ^ 38) (hc : cs.length ≤ 40) (hd : ds.length ≤ 40) (hl : ls.length ≤ 40) :
    SoundSet Tryz.prog n_spec_l20Deed [rdA bs p, bkA W T cs ds ls ps] (deedSet bs p) := by
  refine fn_okS (md := md8) (ms := [true, false]) k_spec_l20Deed (by simp) ?_
  have pk9 : ∀ q, q ≤ p + 2 → SoundSet Tryz.prog n_spec_l20Rd_pick [rdA bs q, .v (.int .i64 9)] (pickSet bs 9 q) := fun q hq => s_spec_l20Rd_pick bs q 9 hb hB (by omega)
  have pk60 : ∀ q, q ≤ p + 2 → SoundSet Tryz.prog n_spec_l20Rd_pick [rdA bs q, .v (.int .i64 60)] (pickSet bs 60 q) := fun q hq => s_spec_l20Rd_pick bs q 60 hb hB (by omega)
  have fin : ∀ (q : Nat) (k : Int), q ≤ p + 2 → 0 ≤ k ∧ k ≤ 20 → awp Tryz.prog md8 c_spec_l20Deed_T2 (dedF bs p) [(0, .lp 0 0 0 0), (3, .lp 0 1 0 0), (4, .lp 0 2 0 0), (5, .lp 0 3 0 0), (87, .lp 0 0 0 0)] (dedH bs q W T cs ds ls ps k 0 0) :=
    fun q k hq hk => ded_T2 bs p q W T cs ds ls ps k hb hB hp hc hd hl hq hk
  simp [c_spec_l20Deed]
  repeat' first
    | omega
    | apply And.intro
    | (refine call_onK (pk9 p (by omega)) [0] ?_ ?_ ?_ ?_
       · simp
       · simp
       · simp
       rintro _ _ ⟨x, x0, x1, rfl, rfl⟩
       obtain ⟨v, v0, v4, hv⟩ := nd9get x0 (by omega)
       have x9 : x < 9 := by omega
       simp [x0, hv, x9])
    | (refine call_onK (pk9 (p + 1) (by omega)) [0] ?_ ?_ ?_ ?_
       · simp
       · simp
       · simp
       rintro _ _ ⟨x, x0, x1, rfl, rfl⟩
       obtain ⟨v, v0, v4, hv⟩ := nd9get x0 (by omega)
       have x9 : x < 9 := by omega
       simp [x0, hv, x9])
    | (refine call_onK (pk60 (p + 1) (by omega)) [0] ?_ ?_ ?_ ?_
       · simp
       · simp
       · simp
       rintro _ _ ⟨y, y0, y1, rfl, rfl⟩
       simp [x0, hv, x9])
    | (refine call_onK (pk60 p (by omega)) [0] ?_ ?_ ?_ ?_
       · simp
       · simp
       · simp
       rintro _ _ ⟨y, y0, y1, rfl, rfl⟩
       simp)
    | (refine fin (p + 1 + 1) _ (by omega) ?_)
end Go.Proofs.Dev

namespace Go.Proofs.Dev
set_option linter.unusedSimpArgs false
set_option maxRecDepth 100000

/-- A book is as it was drawn. -/
def bookSet (bs : List Int) (p d : Nat) (r : AV) (ups : List AV) : Prop := ∃ (W T : Int) (cs : List Bool) (ds ls : List Int) (ps : List (List Int)) (q : Nat), cs.length ≤ 37 ∧ ds.length ≤ 38 ∧ ls.length ≤ 38 ∧ ps.length ≤ 21 ∧ (∀ x ∈ ps, x.length ≤ 37) ∧ q ≤ p + d ∧
  r = bkO W T cs ds ls ps ∧ ups = [rdA bs q, .bot]

/-- Valid, or none at all. -/
def bookOk (W T : Int) (cs : List Bool) (ds ls : List Int) (ps : List (List Int)) : Prop := bookB W T cs ds ls ps = true ∨ (cs = [] ∧ ds = [] ∧ ls = [] ∧ ps = [])

theorem bookOk_len {W T : Int} {cs : List Bool} {ds ls : List Int} {ps : List (List Int)} (h : bookOk W T cs ds ls ps) : cs.length ≤ 36 ∧ ds.length ≤ 36 ∧ ls.length ≤ 36 ∧ ps.length ≤ 20 ∧ ∀ x ∈ ps, x.length ≤ 36 := by
  rcases h with h | ⟨rfl, rfl, rfl, rfl⟩
  · obtain ⟨h1, h2, h3⟩ := book_parts h
    obtain ⟨a1, a2, a3⟩ := fair_len h1
    refine ⟨a1, by omega, by omega, h2, fun x hx => ?_⟩
    have := fair_len (h3 x hx)
    omega
  · simp

theorem bare_lays {W T : Int} {cs : List Bool} : laysB W T cs (noneL cs) = true := by
  simp only [laysB, Bool.and_eq_true, decide_eq_true_eq, allB_iff]
  refine ⟨by simp [noneL], fun k hk => ?_⟩
  have : ati (noneL cs) k = 0 := by
    simp only [noneL, List.length_replicate] at hk
    simp [ati, noneL, hk]
  simp [layAt, this]
theorem none_ati (cs : List Bool) (k : Nat) : ati (noneL cs) k = 0 := by
  simp only [ati, noneL, Int.toNat_natCast, List.getD_eq_getElem?_getD]
  by_cases h : k < cs.length
  · simp [h]
  · simp [h]
theorem bare_fair {W T : Int} {cs : List Bool} {ds : List Int} (hr : regB W T cs = true) (hd : digsB cs ds = true) : fairB W T cs ds (noneL cs) = true := by
  refine fair_of hr hd bare_lays ?_
  have : pairsI W T ds (noneL cs) = [] := by
    simp [pairsI, pairsTo, none_ati]
  rw [this]; rfl

theorem new_ok (W T : Int) (cs : List Bool) (ds : List Int) : ∃ (W2 T2 : Int) (cs2 : List Bool) (ds2 ls2 : List Int), newB W T cs ds = bkO W2 T2 cs2 ds2 ls2 [] ∧ bookOk W2 T2 cs2 ds2 ls2 [] := by
  unfold newB
  split
  · rename_i h
    simp only [Bool.and_eq_true] at h
    exact ⟨W, T, cs, ds, noneL cs, rfl, .inl (book_of (bare_fair h.1 h.2) (by simp) (by simp))⟩
  · exact ⟨0, 0, [], [], [], rfl, .inr ⟨rfl, rfl, rfl, rfl⟩⟩

/-- What is laid after a deed is fair, and so is what is past. -/
theorem do_ok {W T : Int} {cs : List Bool} {ds ls : List Int} {ps : List (List Int)} (k s w : Int) (h : bookB W T cs ds ls ps = true) : bookB W T cs ds (doI W T cs ds ls ps k s w).2.1 (doI W T cs ds ls ps k s w).2.2 = true := by
  obtain ⟨h1, h2, h3⟩ := book_parts h
  unfold doI doRes
  split
  · exact h
  split
  · rcases List.eq_nil_or_concat ps with rfl | ⟨qs, q, hq⟩
    · exact h
    · rw [List.concat_eq_append] at hq
      subst hq
      simp only [List.getLast?_append, List.getLast?_singleton, Option.some_or, List.dropLast_concat]
      simp at h2
      exact book_of (h3 q (by simp)) (by omega) (fun p hp => h3 p (by simp [hp]))
  split
  · rename_i hb
    simp only [Bool.and_eq_true] at hb
    refine book_of hb.2 ?_ ?_
    · simp [bkPast]; omega
    · intro p hp
      have := List.mem_of_mem_drop hp
      simp at this
      rcases this with h4 | rfl
      · exact h3 p h4
      · exact h1
  · exact h

theorem bdo (W T : Int) (cs : List Bool) (ds ls : List Int) (ps : List (List Int)) (k s w : Int) (hk : bookOk W T cs ds ls ps) :
    ∃ (d : Bool) (W2 T2 : Int) (cs2 : List Bool) (ds2 ls2 : List Int) (ps2 : List (List Int)), SoundAt Tryz.prog n_spec_BookDo [bkA W T cs ds ls ps, deedV k s w] (.tup [bkO W2 T2 cs2 ds2 ls2 ps2, .v (.bool d)]) [.bot, .bot] ∧ bookOk W2 T2 cs2 ds2 ls2 ps2 := by
  obtain ⟨a1, a2, a3, a4, a5⟩ := bookOk_len hk
  have := s_spec_BookDo W T cs ds ls ps k s w (by omega) (by omega) (by omega) (by omega) (fun p hp => by have := a5 p hp; omega)
  cases hb : bookB W T cs ds ls ps with
  | true =>
    rw [hb] at this
    simp only [if_true] at this
    exact ⟨_, _, _, _, _, _, _, this, .inl (do_ok k s w hb)⟩
  | false =>
    rw [hb] at this
    exact ⟨_, _, _, _, _, _, _, this, .inr ⟨rfl, rfl, rfl, rfl⟩⟩

abbrev bkcs (i : Nat) (W T : Int) (cs : List Bool) (ds ls : List Int) (ps : List (List Int)) : List AV := [.v (.int .i64 W), .v (.int .i64 T), .ls 1 i 0 cs.length, .ls 1 (i + 1) 0 ds.length, .ls 1 (i + 2) 0 ls.length, .ls 1 (i + 3) 0 ps.length]
abbrev bookH (bs : List Int) (q : Nat) (W T : Int) (cs : List Bool) (ds ls : List Int) (ps : List (List Int)) : Heap :=
  [some (.box [.sl 0 1 (u8s bs), .v (.int .i64 q)]), some (.box [.v (.int .i64 0), .v (.int .i64 0), .os 1 [], .os 1 [], .os 1 [], .os 1 []]),
    some (.box (bkcs 3 W T cs ds ls ps)), some (.arr 1 (bools cs)), some (.arr 1 (ints ds)), some (.arr 1 (ints ls)), some (.arr 1 (oss ps))]
abbrev bookE (n : Int) (i : Int) : ES := [(0, .lp 0 0 0 0), (1, .v (.int .i64 n)), (4, .lp 0 1 0 0), (7, .lp 0 2 0 0), (8, .v (.int .i64 i)), (64, .lp 0 0 0 0)]

set_option maxHeartbeats 20000000 in
theorem book_L0 (bs : List Int) (p q : Nat) (n : Int) (m : Nat) (W T : Int) (cs : List Bool) (ds ls : List Int) (ps : List (List Int)) (hb : bs.length ≤ 2000) (hB : Byt bs) (hp : p < 2 ^ 34) (hm : m < 14) (hq : q ≤ p + 700) (hk : bookOk W T cs ds ls ps) (Qc : AExit → ES → Heap → Prop)
    (hend : ∀ (q2 : Nat) (W T : Int) (cs : List Bool) (ds ls : List Int) (ps : List (List Int)) (E : ES), q2 ≤ p + 850 → bookOk W T cs ds ls ps → get E 0 = .lp 0 0 0 0 → get E 1 = .v (.int .i64 n) → get E 4 = .lp 0 1 0 0 → get E 7 = .lp 0 2 0 0 → get E 64 = .lp 0 0 0 0 → Qc (.exit 0) E (bookH bs q2 W T cs ds ls ps)) :
    loopNode [] [0, 1, 4, 7, 8, 64] (awp Tryz.prog md8 c_spec_l20Book_L0) Qc (bookE n m) (bookH bs q W T cs ds ls ps) := by
  refine loop_by (fun b E H => ∃ (q2 : Nat) (W T : Int) (cs : List Bool) (ds ls : List Int) (ps : List (List Int)), b ≤ m ∧ q2 + b * 10 ≤ q + m * 10 ∧ bookOk W T cs ds ls ps ∧ E = bookE n b ∧ H = bookH bs q2 W T cs ds ls ps) m ⟨q, W, T, cs, ds, ls, ps, Nat.le_refl _, Nat.le_refl _, hk, rfl, rfl⟩ ?_
  rintro J hJ b E H ⟨q2, W, T, cs, ds, ls, ps, hbm, hq2, hk, rfl, rfl⟩
  by_cases h0 : b = 0
  · subst h0
    simp [c_spec_l20Book_L0]
    exact hend q2 W T cs ds ls ps _ (by omega) hk rfl rfl rfl rfl rfl
  obtain ⟨a1, a2, a3, a4, a5⟩ := bookOk_len hk
  have h0' : 0 < b := by omega
  have ded := s_spec_l20Deed bs q2 W T cs ds ls ps hb hB (by omega) (by omega) (by omega) (by omega)
  have nx : ∀ (q3 : Nat) (W2 T2 : Int) (cs2 : List Bool) (ds2 ls2 : List Int) (ps2 : List (List Int)), q3 ≤ q2 + 10 → bookOk W2 T2 cs2 ds2 ls2 ps2 → again J b (bookE n ((b : Int) - 1)) (bookH bs q3 W2 T2 cs2 ds2 ls2 ps2) := by
    intro q3 W2 T2 cs2 ds2 ls2 ps2 h1 h2
    refine ⟨b - 1, by omega, hJ _ _ _ ⟨q3, W2, T2, cs2, ds2, ls2, ps2, by omega, by omega, h2, ?_, rfl⟩⟩
    rw [show ((b - 1 : Nat) : Int) = (b : Int) - 1 by omega]
  simp [c_spec_l20Book_L0, h0']
  repeat' first
    | omega
    | apply And.intro
    | (refine call_onK ded [0] ?_ ?_ ?_ ?_
       · simp
       · simp
       · simp
       rintro _ _ ⟨k, s, w, q3, k0, k1, s0, s1, w0, w1, hq3, rfl, rfl⟩
       obtain ⟨d, W2, T2, cs2, ds2, l2, p2, hS, hk2⟩ := bdo W T cs ds ls ps k s w hk
       simp)
    | (refine call_on hS ?_
       cases d with
       | false =>
         simp
         exact ⟨by omega, nx q3 W T cs ds ls ps hq3 hk⟩
       | true =>
         simp
         exact ⟨by omega, nx q3 W2 T2 cs2 ds2 l2 p2 hq3 hk2⟩)
end Go.Proofs.Dev

namespace Go.Proofs.Dev
set_option linter.unusedSimpArgs false
set_option maxRecDepth 100000

theorem s_spec_l20Book (bs : List Int) (p : Nat) (n : Int) (hb : bs.length ≤ 2000) (hB : Byt bs) (hp : p < 2 ^ 33) (hn0 : 0 ≤ n) (hn : n < 2 ^ 20) :
    SoundSet Tryz.prog n_spec_l20Book [rdA bs p, .v (.int .i64 n)] (bookSet bs p 1000) := by
  refine fn_okS (md := md8) (ms := [true, false]) k_spec_l20Book (by simp) ?_
  simp [c_spec_l20Book]
  refine call_onK (s_spec_l20Puzzle bs p 0 hb hB (by omega) (by omega) (by omega)) [0] (by simp) (by simp) (by simp) ?_
  rintro _ _ ⟨W, T, cs, ds, q, rfl, hcs, hds, hq, rfl⟩
  simp [regA]
  refine call_on (s_spec_BookNew W T cs ds (by omega) (by omega)) ?_
  obtain ⟨W2, T2, cs2, ds2, ls2, e, hk⟩ := new_ok W T cs ds
  rw [e]
  simp
  refine call_onK (s_spec_l20Rd_pick bs q 14 hb hB (by omega)) [0] (by simp) (by simp) (by simp) ?_
  rintro _ _ ⟨x, x0, x1, rfl, rfl⟩
  obtain ⟨m, rfl⟩ : ∃ m : Nat, x = m := ⟨x.toNat, by omega⟩
  simp
  refine book_L0 bs p (q + 1) n m W2 T2 cs2 ds2 ls2 [] hb hB (by omega) (by omega) (by omega) hk _ ?_
  intro q2 W T cs ds ls ps E hq2 hk e0 e1 e4 e7 e64
  obtain ⟨a1, a2, a3, a4, a5⟩ := bookOk_len hk
  have t1 : (oss ps).take ps.length = oss ps := List.take_of_length_le (by simp [oss])
  have fin : ∀ (W T : Int) (cs : List Bool) (ds ls : List Int) (ps : List (List Int)) (q3 : Nat), cs.length ≤ 37 → ds.length ≤ 38 → ls.length ≤ 38 → ps.length ≤ 21 → (∀ x ∈ ps, x.length ≤ 37) → q3 ≤ q2 + 5 → bookSet bs p 1000 (bkO W T cs ds ls ps) [rdA bs q3, .bot] :=
    fun W T cs ds ls ps q3 h1 h2 h3 h4 h5 h6 => ⟨W, T, cs, ds, ls, ps, q3, h1, h2, h3, h4, h5, by omega, rfl, rfl⟩
  have a5' : ∀ x ∈ ps, x.length ≤ 37 := fun x hx => by have := a5 x hx; omega
  simp [e0, e1]
  refine call_onK (s_spec_l20Rd_odd bs q2 n hb hB (by omega) (by omega)) [0] (by simp) (by simp) (by simp) ?_
  rintro _ _ ⟨o, q3, rfl, hq3, rfl⟩
  cases o with
  | false =>
    simp [get_purgeE, e0, e4, e7, e64]
    refine ⟨_, _, fin W T cs ds ls ps q3 (by omega) (by omega) (by omega) (by omega) a5' (by omega), ?_⟩
    simp [get_purgeE, e0, e1, e4, e7, e64, t1]
  | true =>
    simp [get_purgeE, e0, e4, e7, e64]
    refine call_onK (s_spec_l20Rd_pick bs q3 4 hb hB (by omega)) [0] (by simp) (by simp) (by simp) ?_
    rintro _ _ ⟨y, y0, y1, rfl, rfl⟩
    by_cases c0 : y = 0
    · have ea : ints ls ++ [.v (.int .i64 0)] = ints (ls ++ [0]) := by simp [ints]
      have t2 : (ints (ls ++ [0])).take (ls.length + 1) = ints (ls ++ [0]) := List.take_of_length_le (by simp)
      simp [c0, get_purgeE, e0, e4, e7, e64, ea]
      refine ⟨by omega, _, _, fin W T cs ds (ls ++ [0]) ps (q3 + 1) (by omega) (by omega) (by simp; omega) (by omega) a5' (by omega), ?_⟩
      simp [get_purgeE, e0, e1, e4, e7, e64, t1, t2]
    by_cases c1 : y = 1
    · have ea : oss ps ++ [.os 1 [.v (.int .i64 9)]] = oss (ps ++ [[9]]) := by simp [oss, ints]
      have t2 : (oss (ps ++ [[9]])).take (ps.length + 1) = oss (ps ++ [[9]]) := List.take_of_length_le (by simp [oss])
      simp [c1, get_purgeE, e0, e4, e7, e64, ea]
      refine ⟨by omega, _, _, fin W T cs ds ls (ps ++ [[9]]) (q3 + 1) (by omega) (by omega) (by omega) (by simp; omega) (by intro x hx; simp at hx; rcases hx with h | rfl; exact a5' x h; simp) (by omega), ?_⟩
      simp [get_purgeE, e0, e1, e4, e7, e64, t2]
    by_cases c2 : y = 2
    · simp [c0, c1, c2, get_purgeE, e0, e4, e7, e64]
      refine ⟨_, _, fin 0 0 [] [] [] [] (q3 + 1) (by simp) (by simp) (by simp) (by simp) (by simp) (by omega), ?_⟩
      simp [get_purgeE, e0, e1, e4, e7, e64, oss]
    · have ea : ints ds ++ [.v (.int .i64 0)] = ints (ds ++ [0]) := by simp [ints]
      have t2 : (ints (ds ++ [0])).take (ds.length + 1) = ints (ds ++ [0]) := List.take_of_length_le (by simp)
      simp [c0, c1, c2, get_purgeE, e0, e4, e7, e64, ea]
      refine ⟨by omega, _, _, fin W T cs (ds ++ [0]) ls ps (q3 + 1) (by omega) (by simp; omega) (by omega) (by omega) a5' (by omega), ?_⟩
      simp [get_purgeE, e0, e1, e4, e7, e64, t1, t2]
end Go.Proofs.Dev
