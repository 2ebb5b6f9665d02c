/- Contracts of the functions of the program over slots and rows, each proved against the program itself; no condition beyond those that each theorem names. -/
import Derived.Test.YtfkmfobbgoflgaaGreatDoorAL
import Derived.Test.YtfkmfobbgoflgaaGreatDoorProg
import Derived.Test.YtfkmfobbgoflgaaGreatDoorAI
set_option linter.unusedSimpArgs false
set_option linter.unusedVariables false
set_option maxRecDepth 100000
namespace Go.Proofs.Dev
@[simp] abbrev QC : Nat := 198
def QD : ACode := .seq (.reg [.o 3 .box [.t 0], .o 6 .mv [.k 0]]) <| .seq (.seq (.reg [.la 7 3 3, .o 8 (.call 168 []) [.t 7], .o 9 (.un .not) [.t 8], .m 10 9, .mg 11 1 10 false, .fg 12 2 3 10 false, .lg 13 12 10 false, .g 14 (.len false) [.t 13] 10 false, .g 15 (.bin .sub 0) [.t 14, .k 1] 10 false, .g 16 (.call 106 []) [.t 11, .k 0, .t 15] 10 false, .g 17 (.un .not) [.t 16] 10 false, .o 18 .pick [.t 10, .kb true, .t 17], .m 19 18, .mg 20 2 19 false, .g 21 (.call 106 []) [.t 20, .k 1, .k 4] 19 false, .g 22 (.un .not) [.t 21] 19 false, .o 23 .pick [.t 19, .kb true, .t 22]]) <| .cond (.t 23) ( .seq (.reg [.o 6 .mv [.k (-1)]]) <| .ret) ( .skip)) <| .seq (.reg [.la 24 3 3, .m 25 1, .m 26 2, .o 27 (.call 169 []) [.t 24, .t 25, .t 26], .m 6 27]) <| .ret
theorem W6 : cFn Tryz.prog QC 28 [.t 6] QD := ⟨Tryz.f198, _, Tryz.func198, rfl, by kernel_rfl, by kernel_rfl, by kernel_rfl, by kernel_rfl⟩
@[simp] abbrev QE : Nat := 140
def QF : ACode := .seq (.reg [.o 4 .box [.t 0], .o 8 .mv [.c (.os 1 [])], .o 9 .mv [.kb false]]) <| .seq (.seq (.reg [.la 12 3 4, .m 13 1, .o 14 (.call 122 []) [.t 12, .t 13], .o 15 (.un .not) [.t 14]]) <| .cond (.t 15) ( .seq (.reg [.o 16 (.bsl 1) [], .m 8 16, .o 9 .mv [.kb false]]) <| .ret) ( .skip)) <| .seq (.reg [.o 17 (.bsl 1) [], .m 18 1, .o 19 (.app 1 8 true) [.t 17, .t 18], .m 10 19]) <| .seq (.reg [.la 20 3 4, .m 21 2, .m 22 3, .o 23 (.call 198 []) [.t 20, .t 21, .t 22], .m 11 23]) <| .seq (.seq (.reg [.m 24 11, .o 25 (.bin .lss 0) [.t 24, .k 0], .m 26 25, .fg 27 2 4 26 false, .lg 28 27 26 false, .mg 29 2 26 false, .g 30 (.iadr 1) [.t 28, .t 29] 26 false, .lg 31 30 26 false, .g 32 (.un .not) [.t 31] 26 false, .o 33 .pick [.t 26, .kb true, .t 32], .m 34 33, .fg 35 2 4 34 false, .lg 36 35 34 false, .mg 37 11 34 false, .g 38 (.iadr 1) [.t 36, .t 37] 34 false, .lg 39 38 34 false, .g 40 (.un .not) [.t 39] 34 false, .o 41 .pick [.t 34, .kb true, .t 40], .m 42 41, .mg 43 1 42 false, .mg 44 2 42 false, .g 45 (.iadr 1) [.t 43, .t 44] 42 false, .lg 46 45 42 false, .g 47 (.bin .neq 0) [.t 46, .k 0] 42 false, .o 48 .pick [.t 42, .kb true, .t 47], .m 49 48, .mg 50 1 49 false, .mg 51 11 49 false, .g 52 (.iadr 1) [.t 50, .t 51] 49 false, .lg 53 52 49 false, .g 54 (.bin .neq 0) [.t 53, .k 0] 49 false, .o 55 .pick [.t 49, .kb true, .t 54]]) <| .cond (.t 55) ( .seq (.reg [.m 56 10, .m 8 56, .o 9 .mv [.kb false]]) <| .ret) ( .skip)) <| .seq (.reg [.m 57 10, .m 58 2, .m 59 3, .o 60 (.iadr 1) [.t 57, .t 58], .s (.store 1) [.t 60, .t 59]]) <| .seq (.reg [.m 61 10, .m 62 11, .m 63 3, .o 64 (.call 170 []) [.t 63], .o 65 (.iadr 1) [.t 61, .t 62], .s (.store 1) [.t 65, .t 64]]) <| .seq (.reg [.m 66 10, .m 8 66, .o 9 .mv [.kb true]]) <| .ret
theorem W7 : cFn Tryz.prog QE 67 [.t 8, .t 9] QF := ⟨Tryz.f140, _, Tryz.func140, rfl, by kernel_rfl, by kernel_rfl, by kernel_rfl, by kernel_rfl⟩
@[simp] abbrev KX : Nat := 229
def KY : ACode := .seq (.reg [.o 2 .box [.t 0], .o 4 .mv [.kb false]]) <| .seq (.reg [.m 5 1, .f 6 2 2, .l 7 6, .n 8 7, .o 9 (.bin .sub 0) [.t 8, .k 1], .o 10 (.call 63 []) [.t 5, .k 0, .t 9], .m 4 10]) <| .ret
theorem RU : cFn Tryz.prog KX 11 [.t 4] KY := ⟨Tryz.f229, _, Tryz.func229, rfl, by kernel_rfl, by kernel_rfl, by kernel_rfl, by kernel_rfl⟩
@[simp] abbrev JY : Nat := 234
def JZ : ACode := .seq (.reg [.o 4 .box [.t 0], .o 8 .mv [.kb false]]) <| .seq (.seq (.reg [.la 10 3 4, .m 11 2, .o 12 (.call 229 []) [.t 10, .t 11], .o 13 (.un .not) [.t 12]]) <| .cond (.t 13) ( .seq (.reg [.o 8 .mv [.kb false]]) <| .ret) ( .skip)) <| .seq (.reg [.la 14 3 4, .m 15 2, .m 16 3, .o 17 (.call 205 []) [.t 14, .t 15, .t 16], .m 9 17]) <| .seq (.reg [.m 18 9, .o 19 (.bin .geq 0) [.t 18, .k 0], .m 20 19, .fg 21 2 4 20 true, .lg 22 21 20 true, .mg 23 2 20 true, .g 24 (.iadr 1) [.t 22, .t 23] 20 true, .lg 25 24 20 true, .o 26 .pick [.t 20, .t 25, .kb false], .m 27 26, .fg 28 2 4 27 true, .lg 29 28 27 true, .mg 30 9 27 true, .g 31 (.iadr 1) [.t 29, .t 30] 27 true, .lg 32 31 27 true, .o 33 .pick [.t 27, .t 32, .kb false], .m 34 33, .mg 35 1 34 true, .mg 36 2 34 true, .g 37 (.iadr 1) [.t 35, .t 36] 34 true, .lg 38 37 34 true, .g 39 (.bin .eql 0) [.t 38, .k 0] 34 true, .o 40 .pick [.t 34, .t 39, .kb false], .m 41 40, .mg 42 1 41 true, .mg 43 9 41 true, .g 44 (.iadr 1) [.t 42, .t 43] 41 true, .lg 45 44 41 true, .g 46 (.bin .eql 0) [.t 45, .k 0] 41 true, .o 47 .pick [.t 41, .t 46, .kb false], .m 8 47]) <| .ret
theorem QG : cFn Tryz.prog JY 48 [.t 8] JZ := ⟨Tryz.f234, _, Tryz.func234, rfl, by kernel_rfl, by kernel_rfl, by kernel_rfl, by kernel_rfl⟩
@[simp] abbrev KZ : Nat := 235
def Ka : ACode := .seq (.reg [.o 4 .box [.t 0], .o 8 .mv [.c (.os 1 [])]]) <| .seq (.reg [.m 10 1, .o 11 (.call 126 []) [.t 10], .m 9 11]) <| .seq (.reg [.m 12 9, .m 13 2, .m 14 9, .la 15 3 4, .m 16 2, .m 17 3, .o 18 (.call 205 []) [.t 15, .t 16, .t 17], .m 19 3, .m 20 3, .o 21 (.call 206 []) [.t 20], .o 22 (.iadr 1) [.t 12, .t 13], .s (.store 1) [.t 22, .t 19], .o 23 (.iadr 1) [.t 14, .t 18], .s (.store 1) [.t 23, .t 21]]) <| .seq (.reg [.m 24 9, .m 8 24]) <| .ret
theorem RW : cFn Tryz.prog KZ 25 [.t 8] Ka := ⟨Tryz.f235, _, Tryz.func235, rfl, by kernel_rfl, by kernel_rfl, by kernel_rfl, by kernel_rfl⟩
@[simp] abbrev Ja : Nat := 186
def Jb : ACode := .seq (.reg [.o 3 .box [.t 0], .o 6 .mv [.kb false]]) <| .seq (.reg [.la 7 3 3, .m 8 2, .o 9 (.call 229 []) [.t 7, .t 8], .m 10 9, .fg 11 2 3 10 true, .lg 12 11 10 true, .mg 13 2 10 true, .g 14 (.iadr 1) [.t 12, .t 13] 10 true, .lg 15 14 10 true, .o 16 .pick [.t 10, .t 15, .kb false], .m 17 16, .mg 18 1 17 true, .mg 19 2 17 true, .g 20 (.iadr 1) [.t 18, .t 19] 17 true, .lg 21 20 17 true, .g 22 (.bin .eql 0) [.t 21, .k 0] 17 true, .o 23 .pick [.t 17, .t 22, .kb false], .m 6 23]) <| .ret
theorem QH : cFn Tryz.prog Ja 24 [.t 6] Jb := ⟨Tryz.f186, _, Tryz.func186, rfl, by kernel_rfl, by kernel_rfl, by kernel_rfl, by kernel_rfl⟩
@[simp] abbrev Gx : Nat := 228
abbrev EA : Plan := .al (.g 28 (.call 137 []) [.t 21, .t 22, .t 27] 20 true) ( .take (.o 29 .pick [.t 20, .t 28, .kb false]) <| .done)
abbrev EB : Plan := .al (.g 27 (.call 235 []) [.t 23, .t 24, .t 25, .t 26] 20 true) EA
def Cy : ACode := .seq (.seq (.reg [.m 11 10, .o 12 (.bin .leq 0) [.t 11, .k 4]]) <| .cond (.t 12) ( .skip) ( .exit 0)) <| .seq (.block 1 ( .seq (.draw ( .take (.m 16 2) <| .take (.m 17 3) <| .take (.m 18 10) <| .al (.la 15 3 4) ( .al (.o 19 (.call 234 []) [.t 15, .t 16, .t 17, .t 18]) ( .take (.m 20 19) <| .take (.mg 22 1 20 true) <| .take (.mg 24 2 20 true) <| .take (.mg 25 3 20 true) <| .take (.mg 26 10 20 true) <| .alt (.g 21 (.load true 3) [.t 4] 20 true) ( .al (.g 23 (.load true 3) [.t 4] 20 true) EB) <| .al (.g 23 (.load true 3) [.t 4] 20 true) ( .alt (.g 21 (.load true 3) [.t 4] 20 true) EB <| .al (.g 27 (.call 235 []) [.t 23, .t 24, .t 25, .t 26] 20 true) ( .al (.g 21 (.load true 3) [.t 4] 20 true) EA)))))) <| .cond (.t 29) ( .reg [.m 30 9, .m 31 10, .o 32 (.bsl 1) [.t 31], .o 33 (.app 1 8 true) [.t 30, .t 32], .m 9 33]) ( .skip))) <| .reg [.m 13 10, .o 14 (.bin .add 0) [.t 13, .k 1], .m 10 14]
def Gy : ACode := .seq (.reg [.o 4 .box [.t 0], .o 8 .mv [.c (.os 1 [])]]) <| .seq (.reg [.o 9 .mv [.c (.os 1 [])]]) <| .seq (.seq (.reg [.o 10 .mv [.k 1]]) <| .block 0 ( .loop [(1, 1), (2, 1), (9, 1)] [1, 2, 3, 4, 9, 10] Cy)) <| .seq (.reg [.m 34 9, .o 35 (.call 175 []) [.t 34], .m 8 35]) <| .ret
theorem Mn : cFn Tryz.prog Gx 36 [.t 8] Gy := ⟨Tryz.f228, _, Tryz.func228, rfl, by kernel_rfl, by kernel_rfl, by kernel_rfl, by kernel_rfl⟩
@[simp] abbrev Ld : Nat := 149
def E5 : ACode := .seq (.seq (.reg [.m 14 10, .o 15 (.bin .leq 0) [.t 14, .k 4], .m 16 15, .g 17 (.load true 3) [.t 4] 16 true, .mg 18 1 16 true, .mg 19 2 16 true, .g 20 (.call 59 []) [.t 17, .t 18, .t 19] 16 true, .o 21 .pick [.t 16, .t 20, .kb false]]) <| .cond (.t 21) ( .skip) ( .exit 0)) <| .seq (.block 1 ( .seq (.reg [.la 25 3 4, .m 26 2, .m 27 3, .m 28 10, .o 29 (.call 140 []) [.t 25, .t 26, .t 27, .t 28], .m 24 29, .e 30 0 24, .e 31 1 24, .m 11 30, .m 12 31]) <| .seq (.reg [.m 32 12, .m 33 32, .g 34 (.load true 3) [.t 4] 33 true, .mg 35 1 33 true, .mg 36 11 33 true, .g 37 (.call 59 []) [.t 34, .t 35, .t 36] 33 true, .o 38 .pick [.t 33, .t 37, .kb false]]) <| .cond (.t 38) ( .reg [.m 39 9, .m 40 10, .o 41 (.bsl 1) [.t 40], .o 42 (.app 1 8 true) [.t 39, .t 41], .m 9 42]) ( .skip))) <| .reg [.m 22 10, .o 23 (.bin .add 0) [.t 22, .k 1], .m 10 23]
def Le : ACode := .seq (.reg [.o 4 .box [.t 0], .o 8 .mv [.c (.os 1 [])]]) <| .seq (.reg [.o 13 (.bsl 1) [], .m 9 13]) <| .seq (.seq (.reg [.o 10 .mv [.k 1]]) <| .block 0 ( .loop [(1, 1), (2, 1), (9, 1)] [1, 2, 3, 4, 9, 10] E5)) <| .seq (.reg [.m 43 9, .m 8 43]) <| .ret
theorem SW : cFn Tryz.prog Ld 44 [.t 8] Le := ⟨Tryz.f149, _, Tryz.func149, rfl, by kernel_rfl, by kernel_rfl, by kernel_rfl, by kernel_rfl⟩
@[simp] abbrev IH : Nat := 184
def Dc : ACode := .seq (.reg [.o 13 (.bin .lss 0) [.t 12, .t 11]]) <| .seq (.cond (.t 13) ( .skip) ( .exit 0)) <| .seq (.block 1 ( .seq (.reg [.m 14 12, .m 9 14]) <| .seq (.reg [.la 15 3 4, .m 16 2, .m 17 9, .o 18 (.call 186 []) [.t 15, .t 16, .t 17], .m 19 18, .g 20 (.load true 3) [.t 4] 19 true, .mg 21 1 19 true, .mg 22 2 19 true, .mg 23 9 19 true, .g 24 (.call 228 []) [.t 20, .t 21, .t 22, .t 23] 19 true, .g 25 (.len false) [.t 24] 19 true, .mg 26 3 19 true, .g 27 (.bin .eql 0) [.t 25, .t 26] 19 true, .o 28 .pick [.t 19, .t 27, .kb false]]) <| .cond (.t 28) ( .seq (.reg [.m 29 9, .m 8 29]) <| .ret) ( .skip))) <| .reg [.o 30 (.bin .add 0) [.t 12, .k 1], .m 12 30]
def II : ACode := .seq (.reg [.o 4 .box [.t 0], .o 8 .mv [.k 0]]) <| .seq (.seq (.reg [.m 10 2, .n 11 10, .o 12 .mv [.k 0]]) <| .block 0 ( .loop [(1, 1), (2, 1)] [1, 2, 3, 4, 11, 12] Dc)) <| .seq (.reg [.o 8 .mv [.k (-1)]]) <| .ret
theorem O5 : cFn Tryz.prog IH 31 [.t 8] II := ⟨Tryz.f184, _, Tryz.func184, rfl, by kernel_rfl, by kernel_rfl, by kernel_rfl, by kernel_rfl⟩
@[simp] abbrev UC : Nat := 81
def J8 : ACode := .seq (.seq (.reg [.m 8 7, .m 9 2, .n 10 9, .o 11 (.bin .lss 0) [.t 8, .t 10], .m 12 11, .g 13 (.load true 3) [.t 3] 12 true, .mg 14 1 12 true, .mg 15 2 12 true, .g 16 (.call 59 []) [.t 13, .t 14, .t 15] 12 true, .o 17 .pick [.t 12, .t 16, .kb false]]) <| .cond (.t 17) ( .skip) ( .exit 0)) <| .seq (.block 1 ( .seq (.reg [.f 20 2 3, .l 21 20, .m 22 7, .o 23 (.iadr 1) [.t 21, .t 22], .l 24 23, .m 25 24, .mg 26 2 25 true, .mg 27 7 25 true, .g 28 (.iadr 1) [.t 26, .t 27] 25 true, .lg 29 28 25 true, .g 30 (.bin .eql 0) [.t 29, .k 0] 25 true, .o 31 .pick [.t 25, .t 30, .kb false], .m 32 31, .g 33 (.load true 3) [.t 3] 32 true, .mg 34 1 32 true, .mg 35 2 32 true, .mg 36 7 32 true, .g 37 (.call 149 []) [.t 33, .t 34, .t 35, .t 36] 32 true, .g 38 (.len false) [.t 37] 32 true, .g 39 (.bin .eql 0) [.t 38, .k 0] 32 true, .o 40 .pick [.t 32, .t 39, .kb false]]) <| .cond (.t 40) ( .seq (.reg [.o 6 .mv [.kb true]]) <| .ret) ( .skip))) <| .reg [.m 18 7, .o 19 (.bin .add 0) [.t 18, .k 1], .m 7 19]
def UD : ACode := .seq (.reg [.o 3 .box [.t 0], .o 6 .mv [.kb false]]) <| .seq (.seq (.reg [.o 7 .mv [.k 0]]) <| .block 0 ( .loop [(1, 1), (2, 1)] [1, 2, 3, 7] J8)) <| .seq (.reg [.o 6 .mv [.kb false]]) <| .ret
theorem ZP : cFn Tryz.prog UC 41 [.t 6] UD := ⟨Tryz.f81, _, Tryz.func81, rfl, by kernel_rfl, by kernel_rfl, by kernel_rfl, by kernel_rfl⟩
@[simp] abbrev UE : Nat := 132
def UF : ACode := .seq (.reg [.o 3 .box [.t 0], .o 6 .mv [.kb false]]) <| .seq (.reg [.la 7 3 3, .m 8 1, .m 9 2, .o 10 (.call 98 []) [.t 7, .t 8, .t 9], .m 11 10, .g 12 (.load true 3) [.t 3] 11 true, .mg 13 1 11 true, .mg 14 2 11 true, .g 15 (.call 184 []) [.t 12, .t 13, .t 14, .k 0] 11 true, .g 16 (.bin .geq 0) [.t 15, .k 0] 11 true, .o 17 .pick [.t 11, .t 16, .kb false], .m 6 17]) <| .ret
theorem ZQ : cFn Tryz.prog UE 18 [.t 6] UF := ⟨Tryz.f132, _, Tryz.func132, rfl, by kernel_rfl, by kernel_rfl, by kernel_rfl, by kernel_rfl⟩
@[simp] abbrev IJ : Nat := 239
abbrev Dd : Plan := .al (.o 27 (.call 235 []) [.t 17, .t 18, .t 19, .t 26]) ( .take (.m 6 27) <| .take (.o 7 .mv [.kb true]) <| .done)
abbrev F8 : Plan := .al (.o 24 (.call 228 []) [.t 20, .t 21, .t 22, .t 23]) ( .take (.o 25 (.iadr 1) [.t 24, .k 0]) <| .al (.l 26 25) Dd)
def IK : ACode := .seq (.reg [.o 3 .box [.t 0], .o 6 .mv [.c (.os 1 [])], .o 7 .mv [.kb false]]) <| .seq (.reg [.la 9 3 3, .m 10 1, .m 11 2, .o 12 (.call 184 []) [.t 9, .t 10, .t 11, .k 1], .m 8 12]) <| .seq (.seq (.reg [.m 13 8, .o 14 (.bin .lss 0) [.t 13, .k 0]]) <| .cond (.t 14) ( .seq (.reg [.m 15 2, .o 16 (.call 126 []) [.t 15], .m 6 16, .o 7 .mv [.kb false]]) <| .ret) ( .skip)) <| .seq (.draw ( .take (.m 18 2) <| .take (.m 19 8) <| .take (.m 21 1) <| .take (.m 22 2) <| .take (.m 23 8) <| .alt (.la 17 3 3) ( .al (.la 20 3 3) F8) <| .al (.la 20 3 3) ( .alt (.la 17 3 3) F8 <| .al (.o 24 (.call 228 []) [.t 20, .t 21, .t 22, .t 23]) ( .take (.o 25 (.iadr 1) [.t 24, .k 0]) <| .alt (.la 17 3 3) ( .al (.l 26 25) Dd) <| .al (.l 26 25) ( .al (.la 17 3 3) Dd))))) <| .ret
theorem O6 : cFn Tryz.prog IJ 28 [.t 6, .t 7] IK := ⟨Tryz.f239, _, Tryz.func239, rfl, by kernel_rfl, by kernel_rfl, by kernel_rfl, by kernel_rfl⟩
@[simp] abbrev Mo : Nat := 201
abbrev Gz : Plan := .al (.o 36 (.call 140 []) [.t 30, .t 31, .t 32, .t 35]) ( .take (.e 37 0 36) <| .take (.e 38 1 36) <| .take (.m 6 37) <| .take (.m 7 38) <| .done)
def Fa : ACode := .seq (.seq (.reg [.m 16 8, .m 17 2, .n 18 17, .o 19 (.bin .lss 0) [.t 16, .t 18]]) <| .cond (.t 19) ( .skip) ( .exit 0)) <| .seq (.block 1 ( .seq (.reg [.la 22 3 3, .m 23 1, .m 24 2, .m 25 8, .o 26 (.call 149 []) [.t 22, .t 23, .t 24, .t 25], .m 9 26]) <| .seq (.reg [.m 27 9, .n 28 27, .o 29 (.bin .eql 0) [.t 28, .k 1]]) <| .cond (.t 29) ( .seq (.draw ( .take (.m 31 2) <| .take (.m 32 8) <| .take (.m 33 9) <| .take (.o 34 (.iadr 1) [.t 33, .k 0]) <| .alt (.la 30 3 3) ( .al (.l 35 34) Gz) <| .al (.l 35 34) ( .al (.la 30 3 3) Gz))) <| .ret) ( .skip))) <| .reg [.m 20 8, .o 21 (.bin .add 0) [.t 20, .k 1], .m 8 21]
def Mp : ACode := .seq (.reg [.o 3 .box [.t 0], .o 6 .mv [.c (.os 1 [])], .o 7 .mv [.kb false]]) <| .seq (.seq (.reg [.la 10 3 3, .m 11 1, .m 12 2, .o 13 (.call 59 []) [.t 10, .t 11, .t 12], .o 14 (.un .not) [.t 13]]) <| .cond (.t 14) ( .seq (.reg [.o 15 (.bsl 1) [], .m 6 15, .o 7 .mv [.kb false]]) <| .ret) ( .skip)) <| .seq (.seq (.reg [.o 8 .mv [.k 0]]) <| .block 0 ( .loop [(1, 1), (2, 1)] [1, 2, 3, 8] Fa)) <| .seq (.reg [.o 39 (.bsl 1) [], .m 40 2, .o 41 (.app 1 8 true) [.t 39, .t 40], .m 6 41, .o 7 .mv [.kb false]]) <| .ret
theorem UG : cFn Tryz.prog Mo 42 [.t 6, .t 7] Mp := ⟨Tryz.f201, _, Tryz.func201, rfl, by kernel_rfl, by kernel_rfl, by kernel_rfl, by kernel_rfl⟩
@[simp] abbrev F9 : Nat := 193
def Es : ACode := .block 1 ( .seq (.reg [.la 10 3 3, .m 11 1, .m 12 2, .o 13 (.call 239 []) [.t 10, .t 11, .t 12], .m 9 13, .e 14 0 9, .e 15 1 9, .m 7 14, .m 8 15]) <| .seq (.seq (.reg [.m 16 8, .o 17 (.un .not) [.t 16]]) <| .cond (.t 17) ( .seq (.reg [.m 18 7, .m 6 18]) <| .ret) ( .skip)) <| .reg [.m 19 7, .m 2 19])
def GA : ACode := .seq (.reg [.o 3 .box [.t 0], .o 6 .mv [.c (.os 1 [])]]) <| .block 0 ( .loop [(1, 1), (2, 1)] [1, 2, 3] Es)
theorem MD : cFn Tryz.prog F9 20 [.t 6] GA := ⟨Tryz.f193, _, Tryz.func193, rfl, by kernel_rfl, by kernel_rfl, by kernel_rfl, by kernel_rfl⟩
@[simp] abbrev Mq : Nat := 143
def Jc : ACode := .block 1 ( .seq (.reg [.la 20 3 3, .m 21 1, .m 22 7, .o 23 (.call 201 []) [.t 20, .t 21, .t 22], .m 19 23, .e 24 0 19, .e 25 1 19, .m 8 24, .m 9 25]) <| .seq (.seq (.reg [.m 26 9, .o 27 (.un .not) [.t 26]]) <| .cond (.t 27) ( .seq (.reg [.m 28 7, .m 6 28]) <| .ret) ( .skip)) <| .reg [.m 29 8, .m 7 29])
def Mr : ACode := .seq (.reg [.o 3 .box [.t 0], .o 6 .mv [.c (.os 1 [])]]) <| .seq (.seq (.reg [.la 10 3 3, .m 11 1, .m 12 2, .o 13 (.call 59 []) [.t 10, .t 11, .t 12], .o 14 (.un .not) [.t 13]]) <| .cond (.t 14) ( .seq (.reg [.o 15 (.bsl 1) [], .m 6 15]) <| .ret) ( .skip)) <| .seq (.reg [.o 16 (.bsl 1) [], .m 17 2, .o 18 (.app 1 8 true) [.t 16, .t 17], .m 7 18]) <| .block 0 ( .loop [(1, 1), (7, 1)] [1, 3, 7] Jc)
theorem UH : cFn Tryz.prog Mq 30 [.t 6] Mr := ⟨Tryz.f143, _, Tryz.func143, rfl, by kernel_rfl, by kernel_rfl, by kernel_rfl, by kernel_rfl⟩
theorem DB {x lo hi : Int} (h : lo ≤ x ∧ x ≤ hi) : SoundAt Tryz.prog LB [.v (.int .i64 x), .v (.int .i64 lo), .v (.int .i64 hi)] (.v (.bool true)) [.bot, .bot, .bot] := by
 have := BP x lo hi
 rwa [decide_eq_true h] at this
theorem ER {x lo hi : Int} (h : ¬ (lo ≤ x ∧ x ≤ hi)) : SoundAt Tryz.prog LB [.v (.int .i64 x), .v (.int .i64 lo), .v (.int .i64 hi)] (.v (.bool false)) [.bot, .bot, .bot] := by
 have := BP x lo hi
 rwa [decide_eq_false h] at this
theorem GU (W T : Int) (cs : List Bool) (cell : Int) (hb : cs.length < 2 ^ 40) :
  SoundAt Tryz.prog KX [.agg [.v (.int .i64 W), .v (.int .i64 T), .sl 1 1 (AC cs)], .v (.int .i64 cell)] (.v (.bool (decide (0 ≤ cell ∧ cell < cs.length)))) [.bot, .bot] := by
 refine AE (md := md0) (ms := [false, false]) RU (by simp) ?_
 simp [KY]
 refine ⟨by omega, ?_⟩
 by_cases h : 0 ≤ cell ∧ cell < cs.length
 ·refine AA (A7 (x := cell) (lo := 0) (hi := cs.length - 1) (by omega)) ?_
  simp [h]
 ·refine AA (D6 (x := cell) (lo := 0) (hi := cs.length - 1) (by omega)) ?_
  simp; omega
theorem Jd (W T : Int) (cs : List Bool) (ls : List Int) (cell : Int) (hb : cs.length < 2 ^ 40) (hl : ls.length = cs.length) :
  SoundAt Tryz.prog Ja [.agg [.v (.int .i64 W), .v (.int .i64 T), .sl 1 1 (AC cs)], .sl 1 1 (AB ls), .v (.int .i64 cell)] (.v (.bool (decide (0 ≤ cell ∧ cell < cs.length ∧ atb cs cell = true ∧ ati ls cell = 0)))) [.bot, .bot, .bot] := by
 refine AE (md := md0) (ms := [false, false, false]) QH (by simp) ?_
 simp [Jb]
 refine AA (GU W T cs cell hb) ?_
 by_cases h : 0 ≤ cell ∧ cell < cs.length
 ·cases hc : atb cs cell with
  | false => simp [h, hc]
  | true =>
    simp [h, hc, hl]
    by_cases z : ati ls cell = 0 <;> simp [z]
 ·have h' : ¬ (0 ≤ cell ∧ cell < cs.length ∧ atb cs cell = true ∧ ati ls cell = 0) := fun x => h ⟨x.1, x.2.1⟩
  have hx : (decide (0 ≤ cell) && decide (cell < cs.length)) = false := by simp; omega
  simp [hx]
  omega
theorem Dm (W T : Int) (cs : List Bool) (ls : List Int) (cell way : Int) (hr : A0 W T cs = true) (hl : ls.length = cs.length) :
  SoundAt Tryz.prog JY [.agg [.v (.int .i64 W), .v (.int .i64 T), .sl 1 1 (AC cs)], .sl 1 1 (AB ls), .v (.int .i64 cell), .v (.int .i64 way)] (.v (.bool (BU W T cs ls cell way))) [.bot, .bot, .bot, .bot] := by
 refine AE (md := md0) (ms := [false, false, false, false]) QG (by simp) ?_
 have h36 := AZ hr
 obtain ⟨w1, w2, t1, t2, l1, _⟩ := CM hr
 simp [JZ]
 refine AA (GU W T cs cell (by omega)) ?_
 by_cases h : 0 ≤ cell ∧ cell < cs.length
 case neg =>
  have hx : (decide (0 ≤ cell) && decide (cell < cs.length)) = false := by simp; omega
  have hf : BU W T cs ls cell way = false := decide_eq_false (fun x => h ⟨x.1, x.2.1⟩)
  simp [hx, hf]
 simp [h]
 refine AA (CQ W T cs cell way hr h.1 h.2) ?_
 have hst := GR (T := T) (way := way) w1 h.1 (by omega)
 unfold BU
 generalize AJ W T cell way = to at *
 rcases hst with rfl | ⟨h3, h4, h5, h6⟩
 ·simp
 have h7 : to < cs.length := by omega
 cases hc : atb cs cell with
 | false => simp [h, h3, hc]
 | true =>
 cases ht : atb cs to with
 | false => simp [h, h3, h7, hc, ht]
 | true =>
 simp [h, h3, h7, hc, ht, hl]
 by_cases z : ati ls cell = 0
 ·by_cases z2 : ati ls to = 0 <;> simp [z, z2, h3, h7, hl]
 ·simp [z]
theorem Cz (W T : Int) (cs : List Bool) (ls : List Int) (cell way : Int) (hr : A0 W T cs = true) (hl : ls.length = cs.length) (hf : BU W T cs ls cell way = true) :
  SoundAt Tryz.prog KZ [.agg [.v (.int .i64 W), .v (.int .i64 T), .sl 1 1 (AC cs)], .sl 1 1 (AB ls), .v (.int .i64 cell), .v (.int .i64 way)] (.os 1 (AB (C9 W T ls cell way))) [.bot, .bot, .bot, .bot] := by
 refine AE (md := md0) (ms := [false, false, false, false]) RW (by simp) ?_
 have h36 := AZ hr
 obtain ⟨w1, w2, t1, t2, l1, _⟩ := CM hr
 simp only [BU, decide_eq_true_eq] at hf
 obtain ⟨f0, f1, f2, _⟩ := hf
 obtain ⟨b1, b2, b3, b4, b5⟩ := DU (T := T) w1 f0 (by omega) f2
 simp [Ka]
 refine AA (Ag ls (by omega)) ?_
 simp
 refine AA (CQ W T cs cell way hr f0 f1) ?_
 simp
 refine AA (T6 way (by omega) (by omega)) ?_
 have e1 : (AB ls).set cell.toNat (.v (.int .i64 way)) = AB (ls.set cell.toNat way) := EP _ _ _
 have e2 : (AB (ls.set cell.toNat way)).set (AJ W T cell way).toNat (.v (.int .i64 (Cn way))) = AB (C9 W T ls cell way) := by rw [EP]; rfl
 have g1 : cell < ls.length := by omega
 have g2 : AJ W T cell way < ls.length := by omega
 have g3 : cell.toNat < ls.length := by omega
 have g4 : (AJ W T cell way).toNat < ls.length := by omega
 have ht : (C9 W T ls cell way).length = ls.length := AL W T ls cell way
 have hk : (AB (C9 W T ls cell way)).take ls.length = AB (C9 W T ls cell way) := List.take_of_length_le (by simp [ht])
 simp [f0, f2, g1, g2, g3, g4, e1, e2, ht, hk]
def QI (W T : Int) (cs : List Bool) (ds ls : List Int) (cell way : Int) : Bool := BU W T cs ls cell way && KP (B3 W T ds (C9 W T ls cell way))
def G0 (W T : Int) (cs : List Bool) (ds ls : List Int) (cell : Int) (n : Nat) : List Int := (List.range n).flatMap fun k : Nat => if QI W T cs ds ls cell (k + 1) then [(k : Int) + 1] else []
def GV (W T : Int) (cs : List Bool) (ds ls : List Int) (cell : Int) : List Int := G0 W T cs ds ls cell 4
theorem RX (W T : Int) (cs : List Bool) (ds ls : List Int) (cell : Int) (n : Nat) : G0 W T cs ds ls cell (n + 1) = G0 W T cs ds ls cell n ++ if QI W T cs ds ls cell (n + 1) then [(n : Int) + 1] else [] := by
 simp [G0, List.range_succ]
theorem FI (W T : Int) (cs : List Bool) (ds ls : List Int) (cell : Int) : ∀ n, (G0 W T cs ds ls cell n).length ≤ n
 | 0 => by simp [G0]
 | n + 1 => by
   have := FI W T cs ds ls cell n
   rw [RX]; split <;> simp <;> omega
theorem ZR {W T : Int} {cs : List Bool} {ds ls : List Int} {cell way : Int} (h : okB W T cs ds ls = true) (hf : BU W T cs ls cell way = true) : okB W T cs ds (C9 W T ls cell way) = true := by
 have h' := h
 simp only [okB, Bool.and_eq_true] at h' ⊢
 exact ⟨h'.1, h'.2.1, N5 h'.1 h'.2.2 hf⟩
theorem G1 (W T : Int) (cs : List Bool) (ds ls : List Int) (cell : Int) (hok : okB W T cs ds ls = true) :
  SoundAt Tryz.prog Gx [.agg [.v (.int .i64 W), .v (.int .i64 T), .sl 1 1 (AC cs)], .sl 1 1 (AB ds), .sl 1 1 (AB ls), .v (.int .i64 cell)] (.os 1 (AB (GV W T cs ds ls cell))) [.bot, .bot, .bot, .bot] := by
 refine AE (md := md0) (ms := [false, false, false, false]) Mn (by simp) ?_
 obtain ⟨hr, e1, e2, _⟩ := Mg hok
 have h36 := AZ hr
 simp [Gy]
 refine AF (fun m E H => ∃ i : Nat, m = 4 - i ∧ i ≤ 4 ∧ H = [some (.box [.v (.int .i64 W), .v (.int .i64 T), .sl 1 1 (AC cs)]), some (.arr 1 (AB (G0 W T cs ds ls cell i)))] ∧
  E = [(1, .sl 1 1 (AB ds)), (2, .sl 1 1 (AB ls)), (3, .v (.int .i64 cell)), (4, .lp 0 0 0 0), (9, .ls 1 1 0 (G0 W T cs ds ls cell i).length), (10, .v (.int .i64 (i + 1)))]) 4 ⟨0, by simp [G0]⟩ ?_
 rintro J hJ m E H ⟨i, rfl, hi, rfl, rfl⟩
 have hlen := FI W T cs ds ls cell i
 have hsuc := RX W T cs ds ls cell i
 by_cases h : i < 4
 case neg =>
  have : i = 4 := by omega
  subst this
  simp [Cy]
  refine AA (D4 (G0 W T cs ds ls cell 4)) ?_
  simp [GV]
 have h' : (i : Int) + 1 ≤ 4 := by omega
 have one := Dm W T cs ls cell (i + 1) hr e2
 have next : ∀ (x : List Int), G0 W T cs ds ls cell (i + 1) = G0 W T cs ds ls cell i ++ x → C6 J (4 - i) [(1, .sl 1 1 (AB ds)), (2, .sl 1 1 (AB ls)), (3, .v (.int .i64 cell)), (4, .lp 0 0 0 0), (9, .ls 1 1 0 ((G0 W T cs ds ls cell i).length + x.length)), (10, .v (.int .i64 (i + 1 + 1)))]
   [some (.box [.v (.int .i64 W), .v (.int .i64 T), .sl 1 1 (AC cs)]), some (.arr 1 (AB (G0 W T cs ds ls cell i) ++ AB x))] := by
  intro x hx
  refine ⟨_, by omega, hJ _ _ _ ⟨i + 1, rfl, h, ?_, ?_⟩⟩
  ·rw [hx, LA]
  ·rw [hx, List.length_append]; rfl
 simp [Cy, h']
 refine AA one ?_
 cases hf : BU W T cs ls cell (i + 1) with
 | false =>
   have ho : QI W T cs ds ls cell (i + 1) = false := by simp [QI, hf]
   rw [if_neg (by simp [ho])] at hsuc
   have n := next [] hsuc
   simp at n
   simp
   exact ⟨by omega, n⟩
 | true =>
 have two := Cz W T cs ls cell (i + 1) hr e2 hf
 have three := Dk W T cs ds (C9 W T ls cell (i + 1)) (ZR hok hf)
 have hl := AL W T ls cell (i + 1)
 have ht : (C9 W T ls cell (i + 1)).take ls.length = C9 W T ls cell (i + 1) := List.take_of_length_le (by omega)
 simp
 (repeat' first | assumption | apply And.intro) <;>
 ·refine AA two ?_
  simp [hl, Em, ht]
  (repeat' first | assumption | apply And.intro) <;>
  ·refine AA three ?_
   cases ho : KP (B3 W T ds (C9 W T ls cell (i + 1))) with
   | false =>
     have ho : QI W T cs ds ls cell (i + 1) = false := by simp [QI, ho]
     rw [if_neg (by simp [ho])] at hsuc
     have n := next [] hsuc
     simp at n
     simp [hl, Em, ht]
     exact ⟨by omega, n⟩
   | true =>
     have ho : QI W T cs ds ls cell (i + 1) = true := by simp [QI, ho, hf]
     rw [if_pos ho] at hsuc
     have n := next _ hsuc
     simp at n
     simp [hl, Em, ht]
     exact ⟨by omega, by omega, n⟩
theorem W8 (W T : Int) (cs : List Bool) (cell way : Int) (hr : A0 W T cs = true) :
  SoundAt Tryz.prog QC [.agg [.v (.int .i64 W), .v (.int .i64 T), .sl 1 1 (AC cs)], .v (.int .i64 cell), .v (.int .i64 way)] (.v (.int .i64 (if 0 ≤ cell ∧ cell < cs.length ∧ 1 ≤ way ∧ way ≤ 4 then AJ W T cell way else -1))) [.bot, .bot, .bot] := by
 refine AE (md := md0) (ms := [false, false, false]) W6 (by simp) ?_
 have h36 := AZ hr
 simp [QD]
 refine AA (BG W T cs (by omega)) ?_
 simp [hr]
 refine ⟨by omega, ?_⟩
 by_cases h : 0 ≤ cell ∧ cell < cs.length
 case neg =>
  refine AA (ER (x := cell) (lo := 0) (hi := cs.length - 1) (by omega)) ?_
  rw [if_neg (fun x => h ⟨x.1, x.2.1⟩)]
  simp
 refine AA (DB (x := cell) (lo := 0) (hi := cs.length - 1) (by omega)) ?_
 simp
 by_cases hw : 1 ≤ way ∧ way ≤ 4
 case neg =>
  refine AA (ER hw) ?_
  rw [if_neg (fun x => hw x.2.2)]
  simp
 refine AA (DB hw) ?_
 simp
 refine AA (He W T cs cell way hr h.1 h.2) ?_
 simp [h, hw]
def CB (W T : Int) (cs : List Bool) (ls : List Int) (cell way : Int) : List Int := if BU W T cs ls cell way then C9 W T ls cell way else ls
theorem Hg (W T : Int) (cs : List Bool) (ls : List Int) (cell way : Int) (hr : A0 W T cs = true) (hy : AO W T cs ls = true) :
  SoundAt Tryz.prog QE [.agg [.v (.int .i64 W), .v (.int .i64 T), .sl 1 1 (AC cs)], .sl 1 1 (AB ls), .v (.int .i64 cell), .v (.int .i64 way)]
   (.tup [.os 1 (AB (CB W T cs ls cell way)), .v (.bool (BU W T cs ls cell way))]) [.bot, .bot, .bot, .bot] := by
 refine AE (md := md0) (ms := [false, false, false, false]) W7 (by simp) ?_
 have h36 := AZ hr
 obtain ⟨w1, w2, t1, t2, l1, _⟩ := CM hr
 have hl : ls.length = cs.length := by simp only [AO, Bool.and_eq_true, decide_eq_true_eq] at hy; exact hy.1
 simp [QF]
 refine AA (BV W T cs ls (by omega) (by omega)) ?_
 simp [hr, hy]
 refine ⟨by omega, ?_⟩
 refine AA (W8 W T cs cell way hr) ?_
 by_cases h : 0 ≤ cell ∧ cell < cs.length
 case neg =>
  have hf : BU W T cs ls cell way = false := decide_eq_false (fun x => h ⟨x.1, x.2.1⟩)
  rw [if_neg (fun x => h ⟨x.1, x.2.1⟩)]
  simp [hf, CB]
 have hst := GR (T := T) (way := way) w1 h.1 (by omega)
 have e0 : (if 0 ≤ cell ∧ cell < cs.length ∧ 1 ≤ way ∧ way ≤ 4 then AJ W T cell way else -1) = AJ W T cell way := by
  rcases hst with hst | hst
  ·split
   ·rfl
   ·exact hst.symm
  ·rw [if_pos ⟨h.1, h.2, hst.2.2.1, hst.2.2.2⟩]
 rw [e0]
 by_cases hneg : AJ W T cell way < 0
 ·have hf : BU W T cs ls cell way = false := decide_eq_false (fun x => by omega)
  simp [hneg, hf, CB]
 obtain ⟨h3, h4, h5, h6⟩ : 0 ≤ AJ W T cell way ∧ AJ W T cell way < W * T ∧ 1 ≤ way ∧ way ≤ 4 := by
  rcases hst with hst | hst
  ·omega
  ·exact hst
 have hfree : BU W T cs ls cell way = decide (atb cs cell = true ∧ atb cs (AJ W T cell way) = true ∧ ati ls cell = 0 ∧ ati ls (AJ W T cell way) = 0) := by
  simp [BU, h, h3]
 have e2 : ((AB ls).set cell.toNat (.v (.int .i64 way))).set (AJ W T cell way).toNat (.v (.int .i64 (Cn way))) = AB (C9 W T ls cell way) := by rw [EP, EP]; rfl
 have ht : (C9 W T ls cell way).length = ls.length := AL W T ls cell way
 have hk : (AB (C9 W T ls cell way)).take ls.length = AB (C9 W T ls cell way) := List.take_of_length_le (by simp [ht])
 have hk0 : (AB ls).take cs.length = AB ls := List.take_of_length_le (by simp [hl])
 have two := P2 way (by omega) (by omega)
 unfold CB
 rw [hfree]
 clear hfree e0 hst
 generalize AJ W T cell way = to at *
 have h7 : to < cs.length := by omega
 have h8 : ¬ to < 0 := hneg
 cases hc : atb cs cell with
 | false => simp [h, h8, hc]
 | true =>
 cases ht' : atb cs to with
 | false => simp [h, h3, h7, h8, hc, ht']
 | true =>
 by_cases z : ati ls cell = 0
 case neg => simp [h, h3, h7, h8, hc, ht', hl, z, hk0]
 by_cases z2 : ati ls to = 0
 case neg => simp [h, h3, h7, h8, hc, ht', hl, z, z2, hk0]
 have g3 : cell.toNat < ls.length := by omega
 have g4 : to.toNat < ls.length := by omega
 have g1 : cell < ls.length := by omega
 have g2 : to < ls.length := by omega
 simp [h, h3, h7, h8, hc, ht', g1, g2, g3, g4, z, z2]
 refine AA two ?_
 simp [h, h3, h7, h8, g1, g2, g3, g4, e2, ht, hk]
def QJ (W T : Int) (cs : List Bool) (ds ls : List Int) (cell : Int) : List Int := if Af W T cs ds ls then GV W T cs ds ls cell else []
theorem W9 (W T : Int) (cs : List Bool) (ls : List Int) (cell way : Int) : (CB W T cs ls cell way).length = ls.length := by
 unfold CB; split
 ·exact AL ..
 ·rfl
theorem HF (W T : Int) (cs : List Bool) (ds ls : List Int) (cell : Int) (hb : cs.length < 2 ^ 40) (hd : ds.length < 2 ^ 40) (hl : ls.length < 2 ^ 40) :
  SoundAt Tryz.prog Ld [.agg [.v (.int .i64 W), .v (.int .i64 T), .sl 1 1 (AC cs)], .sl 1 1 (AB ds), .sl 1 1 (AB ls), .v (.int .i64 cell)] (.os 1 (AB (QJ W T cs ds ls cell))) [.bot, .bot, .bot, .bot] := by
 refine AE (md := md0) (ms := [false, false, false, false]) SW (by simp) ?_
 simp [Le]
 have one := BW W T cs ds ls hb hd hl
 refine AF (fun m E H => ∃ i : Nat, m = 4 - i ∧ i ≤ 4 ∧ (i = 0 ∨ Af W T cs ds ls = true) ∧ H = [some (.box [.v (.int .i64 W), .v (.int .i64 T), .sl 1 1 (AC cs)]), some (.arr 1 (AB (G0 W T cs ds ls cell i)))] ∧
  E = [(1, .sl 1 1 (AB ds)), (2, .sl 1 1 (AB ls)), (3, .v (.int .i64 cell)), (4, .lp 0 0 0 0), (9, .ls 1 1 0 (G0 W T cs ds ls cell i).length), (10, .v (.int .i64 (i + 1)))]) 4 ⟨0, by simp [G0]⟩ ?_
 rintro J hJ m E H ⟨i, rfl, hi, hf0, rfl, rfl⟩
 have hlen := FI W T cs ds ls cell i
 have hsuc := RX W T cs ds ls cell i
 by_cases h : i < 4
 case neg =>
  have : i = 4 := by omega
  subst this
  have hf : Af W T cs ds ls = true := by rcases hf0 with h0 | h0; omega; exact h0
  simp [E5, QJ, hf, GV]
 have h' : (i : Int) + 1 ≤ 4 := by omega
 simp [E5, h']
 refine AA one ?_
 cases hf : Af W T cs ds ls with
 | false =>
   have : i = 0 := by rcases hf0 with h0 | h0; exact h0; rw [hf] at h0; cases h0
   subst this
   simp [QJ, hf, G0]
 | true =>
 have hok := Cq hf
 obtain ⟨hr, e1, e2, hy⟩ := Mg hok
 have h36 := AZ hr
 have next : ∀ (x : List Int), G0 W T cs ds ls cell (i + 1) = G0 W T cs ds ls cell i ++ x → C6 J (4 - i) [(1, .sl 1 1 (AB ds)), (2, .sl 1 1 (AB ls)), (3, .v (.int .i64 cell)), (4, .lp 0 0 0 0), (9, .ls 1 1 0 ((G0 W T cs ds ls cell i).length + x.length)), (10, .v (.int .i64 (i + 1 + 1)))]
   [some (.box [.v (.int .i64 W), .v (.int .i64 T), .sl 1 1 (AC cs)]), some (.arr 1 (AB (G0 W T cs ds ls cell i) ++ AB x))] := by
  intro x hx
  refine ⟨_, by omega, hJ _ _ _ ⟨i + 1, rfl, h, .inr hf, ?_, ?_⟩⟩
  ·rw [hx, LA]
  ·rw [hx, List.length_append]; rfl
 have hll := W9 W T cs ls cell (i + 1)
 have hly : AO W T cs ls = true := by
  simp only [okB, Bool.and_eq_true] at hok; exact hok.2.2
 have two := Hg W T cs ls cell (i + 1) hr hly
 have three := BW W T cs ds (CB W T cs ls cell (i + 1)) hb hd (by omega)
 have ht : (CB W T cs ls cell (i + 1)).take ls.length = CB W T cs ls cell (i + 1) := List.take_of_length_le (by omega)
 simp
 refine AA two ?_
 simp [hll, Em, ht]
 cases hfr : BU W T cs ls cell (i + 1) with
 | false =>
   have ho : QI W T cs ds ls cell (i + 1) = false := by simp [QI, hfr]
   rw [if_neg (by simp [ho])] at hsuc
   have n := next [] hsuc
   simp at n
   simp
   exact ⟨by omega, n⟩
 | true =>
 simp
 have e3 : Af W T cs ds (CB W T cs ls cell (i + 1)) = QI W T cs ds ls cell (i + 1) := by
  simp [CB, hfr, Af, QI, ZR hok hfr]
 refine AA three ?_
 rw [e3]
 cases ho : QI W T cs ds ls cell (i + 1) with
 | false =>
   rw [if_neg (by simp [ho])] at hsuc
   have n := next [] hsuc
   simp at n
   simp [hll, Em, ht]
   exact ⟨by omega, n⟩
 | true =>
   rw [if_pos ho] at hsuc
   have n := next _ hsuc
   simp at n
   simp [hll, Em, ht]
   exact ⟨by omega, by omega, n⟩
theorem WB (W T : Int) (cs : List Bool) (ds ls : List Int) (cell : Int) (h : ¬ (0 ≤ cell ∧ cell < cs.length ∧ atb cs cell = true ∧ ati ls cell = 0)) : GV W T cs ds ls cell = [] := by
 have hf : ∀ way, QI W T cs ds ls cell way = false := by
  intro way
  have : BU W T cs ls cell way = false := decide_eq_false (fun x => h ⟨x.1, x.2.1, x.2.2.2.1, x.2.2.2.2.2.1⟩)
  simp [QI, this]
 simp [GV, G0, hf]
def EC (p : Nat → Bool) (n : Nat) : Int := match (List.range n).find? p with | some k => k | none => -1
theorem B7 {p : Nat → Bool} {n k : Nat} (hk : k < n) (hp : p k = true) (h : ∀ j, j < k → p j = false) : EC p n = k := by
 have : (List.range n).find? p = some k := by
  rw [List.find?_range_eq_some]
  exact ⟨hp, by simpa using hk, fun j hj => by simp [h j hj]⟩
 simp [EC, this]
theorem Bk {p : Nat → Bool} {n : Nat} (h : ∀ j, j < n → p j = false) : EC p n = -1 := by
 have : (List.range n).find? p = none := by
  rw [List.find?_eq_none]
  intro x hx
  simp [h x (by simpa using hx)]
 simp [EC, this]
theorem Ms (p : Nat → Bool) (n : Nat) : (EC p n = -1) ∨ ∃ k : Nat, k < n ∧ p k = true ∧ EC p n = k := by
 unfold EC
 split
 ·rename_i k hk
  right
  rw [List.find?_range_eq_some] at hk
  exact ⟨k, by simpa using hk.2.1, hk.1, rfl⟩
 ·left; rfl
def Je (W T : Int) (cs : List Bool) (ds ls : List Int) (n : Int) (k : Nat) : Bool := (atb cs k && decide (ati ls k = 0)) && decide (((GV W T cs ds ls k).length : Int) = n)
theorem E6 (W T : Int) (cs : List Bool) (ds ls : List Int) (n : Int) (hok : okB W T cs ds ls = true) :
  SoundAt Tryz.prog IH [.agg [.v (.int .i64 W), .v (.int .i64 T), .sl 1 1 (AC cs)], .sl 1 1 (AB ds), .sl 1 1 (AB ls), .v (.int .i64 n)] (.v (.int .i64 (EC (Je W T cs ds ls n) ls.length))) [.bot, .bot, .bot, .bot] := by
 refine AE (md := md0) (ms := [false, false, false, false]) O5 (by simp) ?_
 obtain ⟨hr, e1, e2, _⟩ := Mg hok
 have h36 := AZ hr
 simp [II]
 refine AF (fun m E H => ∃ i : Nat, m = ls.length - i ∧ i ≤ ls.length ∧ (∀ j : Nat, j < i → Je W T cs ds ls n j = false) ∧ H = [some (.box [.v (.int .i64 W), .v (.int .i64 T), .sl 1 1 (AC cs)])] ∧
  E = [(1, .sl 1 1 (AB ds)), (2, .sl 1 1 (AB ls)), (3, .v (.int .i64 n)), (4, .lp 0 0 0 0), (11, .v (.int .i64 ls.length)), (12, .v (.int .i64 i))]) ls.length ⟨0, by simp⟩ ?_
 rintro J hJ m E H ⟨i, rfl, hi, ha, rfl, rfl⟩
 by_cases h : i < ls.length
 case neg =>
  have : i = ls.length := by omega
  subst this
  simp [Dc, Bk ha]
 have next : Je W T cs ds ls n i = false → C6 J (ls.length - i) [(1, .sl 1 1 (AB ds)), (2, .sl 1 1 (AB ls)), (3, .v (.int .i64 n)), (4, .lp 0 0 0 0), (11, .v (.int .i64 ls.length)), (12, .v (.int .i64 (i + 1)))]
   [some (.box [.v (.int .i64 W), .v (.int .i64 T), .sl 1 1 (AC cs)])] := by
  intro hx
  refine ⟨_, by omega, hJ _ _ _ ⟨i + 1, rfl, h, ?_, rfl, rfl⟩⟩
  intro j hj
  rcases Nat.lt_or_ge j i with h1 | h1
  ·exact ha j h1
  ·have : j = i := by omega
   subst this; exact hx
 have hit := fun hx : Je W T cs ds ls n i = true => B7 h hx ha
 have one := Jd W T cs ls i (by omega) e2
 have two := G1 W T cs ds ls i hok
 have hop : (GV W T cs ds ls i).length ≤ 4 := FI ..
 have hii : (i : Int) < cs.length := by omega
 simp [Dc, h]
 refine AA one ?_
 cases hb : (atb cs i && decide (ati ls i = 0)) with
 | false =>
   have hx : Je W T cs ds ls n i = false := by simp [Je, hb]
   have hb' : decide (0 ≤ (i : Int) ∧ (i : Int) < cs.length ∧ atb cs i = true ∧ ati ls i = 0) = false := by
    simp at hb ⊢; intro _; exact hb
   rw [hb']
   simp
   exact ⟨by omega, next hx⟩
 | true =>
 have hb' : decide (0 ≤ (i : Int) ∧ (i : Int) < cs.length ∧ atb cs i = true ∧ ati ls i = 0) = true := by
  simp at hb ⊢; exact ⟨by omega, hb⟩
 rw [hb']
 simp
 refine AA two ?_
 by_cases hn : ((GV W T cs ds ls i).length : Int) = n
 ·have hx : Je W T cs ds ls n i = true := by simp [Je, hb, hn]
  simp [hn, hit hx]
 ·have hx : Je W T cs ds ls n i = false := by simp [Je, hb, hn]
  simp [hn]
  exact ⟨by omega, next hx⟩
def SX (W T : Int) (cs : List Bool) (ds ls : List Int) : Bool := Af W T cs ds ls && decide (0 ≤ EC (Je W T cs ds ls 0) ls.length)
theorem ZS (W T : Int) (cs : List Bool) (ds ls : List Int) (hb : cs.length < 2 ^ 40) (hd : ds.length < 2 ^ 40) (hl : ls.length < 2 ^ 40) :
  SoundAt Tryz.prog UE [.agg [.v (.int .i64 W), .v (.int .i64 T), .sl 1 1 (AC cs)], .sl 1 1 (AB ds), .sl 1 1 (AB ls)] (.v (.bool (SX W T cs ds ls))) [.bot, .bot, .bot] := by
 refine AE (md := md0) (ms := [false, false, false]) ZQ (by simp) ?_
 simp [UF]
 refine AA (Hf W T cs ds ls hb hd hl) ?_
 cases hf : Af W T cs ds ls with
 | false => simp [SX, hf]
 | true =>
 simp
 refine AA (E6 W T cs ds ls 0 (Cq hf)) ?_
 simp [SX, hf]
theorem ZT (W T : Int) (cs : List Bool) (ds ls : List Int) (hb : cs.length < 2 ^ 40) (hd : ds.length < 2 ^ 40) (hl : ls.length < 2 ^ 40) :
  SoundAt Tryz.prog UC [.agg [.v (.int .i64 W), .v (.int .i64 T), .sl 1 1 (AC cs)], .sl 1 1 (AB ds), .sl 1 1 (AB ls)] (.v (.bool (SX W T cs ds ls))) [.bot, .bot, .bot] := by
 refine AE (md := md0) (ms := [false, false, false]) ZP (by simp) ?_
 simp [UD]
 have fair := BW W T cs ds ls hb hd hl
 refine AF (fun m E H => ∃ i : Nat, m = ls.length - i ∧ i ≤ ls.length ∧ (i = 0 ∨ Af W T cs ds ls = true) ∧ (∀ j : Nat, j < i → Je W T cs ds ls 0 j = false) ∧ H = [some (.box [.v (.int .i64 W), .v (.int .i64 T), .sl 1 1 (AC cs)])] ∧
  E = [(1, .sl 1 1 (AB ds)), (2, .sl 1 1 (AB ls)), (3, .lp 0 0 0 0), (7, .v (.int .i64 i))]) ls.length ⟨0, by simp⟩ ?_
 rintro J hJ m E H ⟨i, rfl, hi, hf0, ha, rfl, rfl⟩
 by_cases h : i < ls.length
 case neg =>
  have : i = ls.length := by omega
  subst this
  simp [J8, SX, Bk ha]
 simp [J8, h]
 refine AA fair ?_
 cases hf : Af W T cs ds ls with
 | false => simp [SX, hf]
 | true =>
 obtain ⟨hr, e1, e2, _⟩ := Mg (Cq hf)
 have next : Je W T cs ds ls 0 i = false → C6 J (ls.length - i) [(1, .sl 1 1 (AB ds)), (2, .sl 1 1 (AB ls)), (3, .lp 0 0 0 0), (7, .v (.int .i64 (i + 1)))]
   [some (.box [.v (.int .i64 W), .v (.int .i64 T), .sl 1 1 (AC cs)])] := by
  intro hx
  refine ⟨_, by omega, hJ _ _ _ ⟨i + 1, rfl, h, .inr hf, ?_, rfl, rfl⟩⟩
  intro j hj
  rcases Nat.lt_or_ge j i with h1 | h1
  ·exact ha j h1
  ·have : j = i := by omega
   subst this; exact hx
 have hit := fun hx : Je W T cs ds ls 0 i = true => B7 h hx ha
 have two := HF W T cs ds ls i hb hd hl
 have ho : QJ W T cs ds ls i = GV W T cs ds ls i := by simp [QJ, hf]
 have hii : i < cs.length := by omega
 rw [ho] at two
 simp [hii, h]
 cases hc : atb cs i with
 | false =>
   have hx : Je W T cs ds ls 0 i = false := by simp [Je, hc]
   simp
   exact ⟨by omega, next hx⟩
 | true =>
 by_cases z : ati ls i = 0
 case neg =>
  have hx : Je W T cs ds ls 0 i = false := by simp [Je, hc, z]
  simp [z]
  exact ⟨by omega, next hx⟩
 simp [z]
 refine AA two ?_
 by_cases hn : (GV W T cs ds ls i).length = 0
 ·have hx : Je W T cs ds ls 0 i = true := by simp [Je, hc, z, List.length_eq_zero_iff.1 hn]
  simp [hn, SX, hf, hit hx]
 ·have hx : Je W T cs ds ls 0 i = false := by simp [Je, hc, z]; intro h0; simp [h0] at hn
  simp [hn]
  exact ⟨by omega, next hx⟩
theorem dA (W T : Int) (cs : List Bool) (ds ls : List Int) (cell : Int) {n : Nat} {x : Int} (h : x ∈ G0 W T cs ds ls cell n) : QI W T cs ds ls cell x = true ∧ 1 ≤ x ∧ x ≤ n := by
 simp only [G0, List.mem_flatMap, List.mem_range] at h
 obtain ⟨k, hk, hx⟩ := h
 split at hx
 ·rename_i ho
  simp at hx
  subst hx
  exact ⟨ho, by omega, by omega⟩
 ·simp at hx
theorem QK {W T : Int} {cs : List Bool} {ds ls : List Int} {cell x : Int} (h : QI W T cs ds ls cell x = true) : BU W T cs ls cell x = true := by
 simp only [QI, Bool.and_eq_true] at h; exact h.1
theorem dB {W T : Int} {cs : List Bool} {ds ls : List Int} {cell x : Int} (hok : okB W T cs ds ls = true) (h : QI W T cs ds ls cell x = true) : Af W T cs ds (C9 W T ls cell x) = true := by
 have h' := h
 simp only [QI, Bool.and_eq_true] at h'
 simp only [Af, Bool.and_eq_true]
 exact ⟨ZR hok h'.1, h'.2⟩
def YT (W T : Int) (cs : List Bool) (ds ls : List Int) : Int := EC (Je W T cs ds ls 1) ls.length
def TH (W T : Int) (cs : List Bool) (ds ls : List Int) : Int := ati (GV W T cs ds ls (YT W T cs ds ls)) 0
def BN (W T : Int) (cs : List Bool) (ds ls : List Int) : List Int := if YT W T cs ds ls < 0 then ls else C9 W T ls (YT W T cs ds ls) (TH W T cs ds ls)
def Bu (W T : Int) (cs : List Bool) (ds ls : List Int) : Bool := decide (¬ YT W T cs ds ls < 0)
theorem Hh (W T : Int) (cs : List Bool) (ds ls : List Int) : (BN W T cs ds ls).length = ls.length := by
 unfold BN; split
 ·rfl
 ·exact AL ..
theorem Fb (W T : Int) (cs : List Bool) (ds ls : List Int) : YT W T cs ds ls = -1 ∨ ∃ k : Nat, k < ls.length ∧ YT W T cs ds ls = k ∧ atb cs k = true ∧ ati ls k = 0 ∧ GV W T cs ds ls k = [TH W T cs ds ls] ∧ QI W T cs ds ls k (TH W T cs ds ls) = true ∧ 1 ≤ TH W T cs ds ls ∧ TH W T cs ds ls ≤ 4 := by
 rcases Ms (Je W T cs ds ls 1) ls.length with h | ⟨k, hk, hp, he⟩
 ·left; exact h
 ·right
  have he' : YT W T cs ds ls = k := he
  simp only [Je, Bool.and_eq_true, decide_eq_true_eq] at hp
  have h1 : (GV W T cs ds ls k).length = 1 := by omega
  obtain ⟨x, hx⟩ := List.length_eq_one_iff.1 h1
  have hw : TH W T cs ds ls = x := by simp [TH, he', hx, ati]
  have hin : x ∈ GV W T cs ds ls k := by rw [hx]; simp
  have hm := dA W T cs ds ls k (n := 4) (x := x) hin
  rw [hw]
  exact ⟨k, hk, he', hp.1.1, hp.1.2, hx, hm.1, hm.2.1, hm.2.2⟩
theorem O7 (W T : Int) (cs : List Bool) (ds ls : List Int) (hok : okB W T cs ds ls = true) :
  SoundAt Tryz.prog IJ [.agg [.v (.int .i64 W), .v (.int .i64 T), .sl 1 1 (AC cs)], .sl 1 1 (AB ds), .sl 1 1 (AB ls)] (.tup [.os 1 (AB (BN W T cs ds ls)), .v (.bool (Bu W T cs ds ls))]) [.bot, .bot, .bot] := by
 refine AE (md := md0) (ms := [false, false, false]) O6 (by simp) ?_
 obtain ⟨hr, e1, e2, _⟩ := Mg hok
 have h36 := AZ hr
 simp [IK]
 refine AA (E6 W T cs ds ls 1 hok) ?_
 have hcl := Ag ls (by omega)
 have e0 : EC (Je W T cs ds ls 1) ls.length = YT W T cs ds ls := rfl
 rw [e0]
 rcases Fb W T cs ds ls with h | ⟨k, hk, he, hc, hz, ho, hob, hw⟩
 ·simp [h]
  refine AA hcl ?_
  simp [BN, Bu, h]
 have two := G1 W T cs ds ls k hok
 have three := Cz W T cs ls k (TH W T cs ds ls) hr e2 (QK hob)
 have ef : BN W T cs ds ls = C9 W T ls k (TH W T cs ds ls) := by rw [BN, he, if_neg (by omega)]
 have eb : Bu W T cs ds ls = true := by rw [Bu, he]; exact decide_eq_true (by omega)
 rw [ef, eb, he]
 rw [ho] at two
 have hk0 : ¬ (k : Int) < 0 := by omega
 have hin : AB [TH W T cs ds ls] = [.v (.int .i64 (TH W T cs ds ls))] := rfl
 rw [hin] at two
 have hlay := AL W T ls k (TH W T cs ds ls)
 have htk : (AB (C9 W T ls k (TH W T cs ds ls))).take ls.length = AB (C9 W T ls k (TH W T cs ds ls)) := List.take_of_length_le (by simp [hlay])
 simp [hk0]
 (repeat' first | assumption | apply And.intro) <;>
 ·refine AA two ?_
  simp
  (repeat' first | assumption | apply And.intro) <;>
  ·refine AA three ?_
   simp [hlay, htk]
def WC (W T : Int) (cs : List Bool) (ds ls : List Int) : List Int := if Af W T cs ds ls then BN W T cs ds ls else []
def WD (W T : Int) (cs : List Bool) (ds ls : List Int) : Bool := Af W T cs ds ls && Bu W T cs ds ls
theorem UI (W T : Int) (cs : List Bool) (ds ls : List Int) (hb : cs.length < 2 ^ 40) (hd : ds.length < 2 ^ 40) (hl : ls.length < 2 ^ 40) :
  SoundAt Tryz.prog Mo [.agg [.v (.int .i64 W), .v (.int .i64 T), .sl 1 1 (AC cs)], .sl 1 1 (AB ds), .sl 1 1 (AB ls)] (.tup [.os 1 (AB (WC W T cs ds ls)), .v (.bool (WD W T cs ds ls))]) [.bot, .bot, .bot] := by
 refine AE (md := md0) (ms := [false, false, false]) UG (by simp) ?_
 simp [Mp]
 refine AA (BW W T cs ds ls hb hd hl) ?_
 cases hf : Af W T cs ds ls with
 | false => simp [WC, WD, hf]
 | true =>
 have hok := Cq hf
 obtain ⟨hr, e1, e2, _⟩ := Mg hok
 have hly : AO W T cs ls = true := by
  simp only [okB, Bool.and_eq_true] at hok; exact hok.2.2
 have eL : WC W T cs ds ls = BN W T cs ds ls := by simp [WC, hf]
 have eB : WD W T cs ds ls = Bu W T cs ds ls := by simp [WD, hf]
 rw [eL, eB]
 simp
 refine AF (fun m E H => ∃ i : Nat, m = ls.length - i ∧ i ≤ ls.length ∧ (∀ j : Nat, j < i → Je W T cs ds ls 1 j = false) ∧ H = [some (.box [.v (.int .i64 W), .v (.int .i64 T), .sl 1 1 (AC cs)])] ∧
  E = [(1, .sl 1 1 (AB ds)), (2, .sl 1 1 (AB ls)), (3, .lp 0 0 0 0), (8, .v (.int .i64 i))]) ls.length ⟨0, by simp⟩ ?_
 rintro J hJ m E H ⟨i, rfl, hi, ha, rfl, rfl⟩
 by_cases h : i < ls.length
 case neg =>
  have : i = ls.length := by omega
  subst this
  have he : YT W T cs ds ls = -1 := Bk ha
  simp [Fa, BN, Bu, he]
  constructor <;> omega
 have next : Je W T cs ds ls 1 i = false → C6 J (ls.length - i) [(1, .sl 1 1 (AB ds)), (2, .sl 1 1 (AB ls)), (3, .lp 0 0 0 0), (8, .v (.int .i64 (i + 1)))]
   [some (.box [.v (.int .i64 W), .v (.int .i64 T), .sl 1 1 (AC cs)])] := by
  intro hx
  refine ⟨_, by omega, hJ _ _ _ ⟨i + 1, rfl, h, ?_, rfl, rfl⟩⟩
  intro j hj
  rcases Nat.lt_or_ge j i with h1 | h1
  ·exact ha j h1
  ·have : j = i := by omega
   subst this; exact hx
 have hit : Je W T cs ds ls 1 i = true → YT W T cs ds ls = i := fun hx => B7 h hx ha
 have two := HF W T cs ds ls i hb hd hl
 have ho : QJ W T cs ds ls i = GV W T cs ds ls i := by simp [QJ, hf]
 rw [ho] at two
 have hop : (GV W T cs ds ls i).length ≤ 4 := FI ..
 simp [Fa, h]
 refine AA two ?_
 by_cases hn : (GV W T cs ds ls i).length = 1
 case neg =>
  have hn' : ¬ ((GV W T cs ds ls i).length : Int) = 1 := by omega
  have hx : Je W T cs ds ls 1 i = false := by simp [Je, hn']
  simp [hn']
  exact ⟨by omega, next hx⟩
 have hbare : 0 ≤ (i : Int) ∧ (i : Int) < cs.length ∧ atb cs i = true ∧ ati ls i = 0 := by
  apply Decidable.byContradiction
  intro hx
  rw [WB W T cs ds ls i hx] at hn
  simp at hn
 have hx : Je W T cs ds ls 1 i = true := by simp [Je, hbare.2.2.1, hbare.2.2.2, hn]
 have he := hit hx
 rcases Fb W T cs ds ls with h1 | ⟨k, hk, he2, hc, hz, hol, hob, hw⟩
 ·omega
 have hki : k = i := by omega
 subst hki
 have three := Hg W T cs ls k (TH W T cs ds ls) hr hly
 have ef : BN W T cs ds ls = C9 W T ls k (TH W T cs ds ls) := by rw [BN, he, if_neg (by omega)]
 have eb : Bu W T cs ds ls = true := by rw [Bu, he]; exact decide_eq_true (by omega)
 have hfr := QK hob
 have elay : CB W T cs ls k (TH W T cs ds ls) = C9 W T ls k (TH W T cs ds ls) := by simp [CB, hfr]
 rw [elay, hfr] at three
 rw [ef, eb]
 have hin : AB [TH W T cs ds ls] = [.v (.int .i64 (TH W T cs ds ls))] := rfl
 have hlay := AL W T ls k (TH W T cs ds ls)
 have htk : (AB (C9 W T ls k (TH W T cs ds ls))).take ls.length = AB (C9 W T ls k (TH W T cs ds ls)) := List.take_of_length_le (by simp [hlay])
 simp [hol, hin]
 (repeat' first | assumption | apply And.intro) <;>
 ·refine AA three ?_
  simp [hlay, htk]
def CI (ls : List Int) : Nat := ls.countP (fun x => decide (x = 0))
theorem SB {ls : List Int} {i : Nat} {v : Int} (hv : v ≠ 0) : CI (ls.set i v) ≤ CI ls := by
 by_cases h : i < ls.length
 ·unfold CI
  rw [List.countP_set h]
  simp [hv]
 ·rw [List.set_eq_of_length_le (by omega)]; exact Nat.le_refl _
theorem Mt {ls : List Int} {i : Nat} {v : Int} (h : i < ls.length) (hz : ati ls i = 0) (hv : v ≠ 0) : CI (ls.set i v) < CI ls := by
 have he : ls[i] = 0 := by simpa [ati, h] using hz
 have hp : 0 < CI ls := by
  unfold CI
  rw [List.countP_pos_iff]
  exact ⟨ls[i], List.getElem_mem h, by simp [he]⟩
 unfold CI at hp ⊢
 rw [List.countP_set h]
 simp [hv, he]
 omega
def Au (W T : Int) (cs : List Bool) (ds : List Int) : Nat → List Int → List Int
 | 0, ls => ls
 | n + 1, ls => if Bu W T cs ds ls then Au W T cs ds n (BN W T cs ds ls) else ls
theorem Mu {W T : Int} {cs : List Bool} {ds ls : List Int} (h : Bu W T cs ds ls = true) : CI (BN W T cs ds ls) < CI ls := by
 rcases Fb W T cs ds ls with h1 | ⟨k, hk, he, hc, hz, hol, hob, hw⟩
 ·simp [Bu, h1] at h
 ·rw [BN, he, if_neg (by omega)]
  have hb : Cn (TH W T cs ds ls) ≠ 0 := by
   have := (Hr hw.1 hw.2).2
   omega
  refine Nat.lt_of_le_of_lt (SB hb) ?_
  exact Mt (by omega) (by simpa using hz) (by omega)
theorem LE {W T : Int} {cs : List Bool} {ds ls : List Int} (hf : Af W T cs ds ls = true) : Af W T cs ds (BN W T cs ds ls) = true := by
 rcases Fb W T cs ds ls with h1 | ⟨k, hk, he, hc, hz, hol, hob, hw⟩
 ·simp [BN, h1, hf]
 ·rw [BN, he, if_neg (by omega)]
  exact dB (Cq hf) hob
def BA (W T : Int) (cs : List Bool) (ds ls : List Int) : List Int := Au W T cs ds ls.length ls
def QL (W T : Int) (cs : List Bool) (ds ls : List Int) : List Int := if Af W T cs ds ls then BA W T cs ds ls else []
theorem Lf (W T : Int) (cs : List Bool) (ds : List Int) : ∀ (n : Nat) (ls : List Int), (Au W T cs ds n ls).length = ls.length
 | 0, ls => rfl
 | n + 1, ls => by
   rw [Au]; split
   ·rw [Lf, Hh]
   ·rfl
theorem Jf (ls : List Int) : CI ls ≤ ls.length := List.countP_le_length
theorem OM {W T : Int} {cs : List Bool} {ds ls : List Int} {n : Nat} (hn : CI ls ≤ n) :
  (Bu W T cs ds ls = false ∧ Au W T cs ds n ls = ls) ∨ (∃ m, n = m + 1 ∧ Bu W T cs ds ls = true ∧ CI (BN W T cs ds ls) ≤ m ∧ Au W T cs ds n ls = Au W T cs ds m (BN W T cs ds ls)) := by
 cases hb : Bu W T cs ds ls with
 | false =>
   left
   refine ⟨rfl, ?_⟩
   cases n with
   | zero => rfl
   | succ m => simp [Au, hb]
 | true =>
   right
   have hz := Mu hb
   cases n with
   | zero => omega
   | succ m => exact ⟨m, rfl, rfl, by omega, by simp [Au, hb]⟩
theorem ME (W T : Int) (cs : List Bool) (ds ls : List Int) (hf : Af W T cs ds ls = true) :
  SoundAt Tryz.prog F9 [.agg [.v (.int .i64 W), .v (.int .i64 T), .sl 1 1 (AC cs)], .sl 1 1 (AB ds), .sl 1 1 (AB ls)] (.os 1 (AB (BA W T cs ds ls))) [.bot, .bot, .bot] := by
 refine AE (md := md0) (ms := [false, false, false]) MD (by simp) ?_
 obtain ⟨hr, e1, e2, _⟩ := Mg (Cq hf)
 have h36 := AZ hr
 simp [GA]
 refine AF (fun m E H => ∃ l, CI l ≤ m ∧ l.length = ls.length ∧ Af W T cs ds l = true ∧ Au W T cs ds m l = BA W T cs ds ls ∧
  ((H = [some (.box [.v (.int .i64 W), .v (.int .i64 T), .sl 1 1 (AC cs)])] ∧ E = [(1, .sl 1 1 (AB ds)), (2, .sl 1 1 (AB l)), (3, .lp 0 0 0 0)]) ∨
   (H = [some (.arr 1 (AB l)), some (.box [.v (.int .i64 W), .v (.int .i64 T), .sl 1 1 (AC cs)])] ∧ E = [(1, .sl 1 1 (AB ds)), (2, .ls 1 0 0 ls.length), (3, .lp 0 1 0 0)]))) ls.length ⟨ls, Jf ls, rfl, hf, rfl, .inl (by simp)⟩ ?_
 rintro J hJ m E H ⟨l, hz, hll, hfl, hn, hEH⟩
 have one := O7 W T cs ds l (Cq hfl)
 have hfl2 := LE hfl
 have h1 := Hh W T cs ds l
 have htk : (AB (BN W T cs ds l)).take ls.length = AB (BN W T cs ds l) := List.take_of_length_le (by simp [h1, hll])
 have htl : (AB l).take ls.length = AB l := List.take_of_length_le (by simp [hll])
 rcases hEH with ⟨rfl, rfl⟩ | ⟨rfl, rfl⟩ <;>
 ·simp [Es, htl]
  refine AA one ?_
  rcases OM (W := W) (T := T) (cs := cs) (ds := ds) hz with ⟨hbb, hx⟩ | ⟨k, rfl, hbb, hz2, hx⟩
  ·have e9 : BN W T cs ds l = l := by simp [Bu] at hbb; simp [BN, hbb]
   simp [hbb, h1, hll, htk, htl, e9, ← hn, hx]
  ·simp [hbb, h1, hll, htk, htl]
   exact ⟨_, by omega, hJ _ _ _ ⟨BN W T cs ds l, hz2, by omega, hfl2, by rw [← hx, hn], .inr ⟨rfl, rfl⟩⟩⟩
theorem UJ (W T : Int) (cs : List Bool) (ds ls : List Int) (hb : cs.length < 2 ^ 40) (hd : ds.length < 2 ^ 40) (hl : ls.length < 2 ^ 40) :
  SoundAt Tryz.prog Mq [.agg [.v (.int .i64 W), .v (.int .i64 T), .sl 1 1 (AC cs)], .sl 1 1 (AB ds), .sl 1 1 (AB ls)] (.os 1 (AB (QL W T cs ds ls))) [.bot, .bot, .bot] := by
 refine AE (md := md0) (ms := [false, false, false]) UH (by simp) ?_
 simp [Mr]
 refine AA (BW W T cs ds ls hb hd hl) ?_
 cases hf : Af W T cs ds ls with
 | false => simp [QL, hf]
 | true =>
 simp
 refine ⟨by omega, ?_⟩
 refine AF (fun m E H => ∃ l, CI l ≤ m ∧ l.length = ls.length ∧ Af W T cs ds l = true ∧ Au W T cs ds m l = BA W T cs ds ls ∧ H = [some (.box [.v (.int .i64 W), .v (.int .i64 T), .sl 1 1 (AC cs)]), some (.arr 1 (AB l))] ∧
  E = [(1, .sl 1 1 (AB ds)), (3, .lp 0 0 0 0), (7, .ls 1 1 0 ls.length)]) ls.length ⟨ls, Jf ls, rfl, hf, rfl, by simp⟩ ?_
 rintro J hJ m E H ⟨l, hz, hll, hfl, hn, rfl, rfl⟩
 have one := UI W T cs ds l hb hd (by omega)
 have eL : WC W T cs ds l = BN W T cs ds l := by simp [WC, hfl]
 have eB : WD W T cs ds l = Bu W T cs ds l := by simp [WD, hfl]
 rw [eL, eB] at one
 have hfl2 := LE hfl
 have h1 := Hh W T cs ds l
 have htk : (AB (BN W T cs ds l)).take ls.length = AB (BN W T cs ds l) := List.take_of_length_le (by simp [h1, hll])
 have htl : (AB l).take ls.length = AB l := List.take_of_length_le (by simp [hll])
 simp [Jc, htl]
 refine AA one ?_
 rcases OM (W := W) (T := T) (cs := cs) (ds := ds) hz with ⟨hbb, hx⟩ | ⟨k, rfl, hbb, hz2, hx⟩
 ·simp [hbb, h1, hll, htk, htl, QL, hf, ← hn, hx]
 ·simp [hbb, h1, hll, htk, htl]
  exact ⟨_, by omega, hJ _ _ _ ⟨BN W T cs ds l, hz2, by omega, hfl2, by rw [← hx, hn], rfl, rfl⟩⟩
end Go.Proofs.Dev
