/- Contracts of the functions of the program over slots and rows, each proved against the program itself; no condition beyond those that each theorem names. -/
import Derived.Test.YtakaenhgbkbegaaGreatAK
import Derived.Test.YtakaenhgbkbegaaGreatProg

set_option linter.unusedSimpArgs false
set_option linter.unusedVariables false

namespace Go.Proofs.Dev

-- 1 parameters, results [.t 2], 8 slots, modes [false]
@[simp] abbrev n_slices_Clone_int_int : Nat := 119

def c_slices_Clone_int_int : ACode := .seq (.reg [.o 2 .mv [.c (.os 1 [])]]) <| .seq (.seq (.reg [.m 3 0, .o 4 (.nilq false) [.t 3]]) <|
 .cond (.t 4) ( .seq (.reg [.o 2 .mv [.c (.os 1 [])]]) <| .ret) ( .skip)) <| .seq (.reg [.o 5 (.bsl 1) [], .m 6 0, .o 7 (.app 1 8 true) [.t 5, .t 6], .m 2 7]) <|
 .ret

theorem k_slices_Clone_int_int : cFn Tryz.prog n_slices_Clone_int_int 8 [.t 2] c_slices_Clone_int_int := ⟨Tryz.f119, _, Tryz.func119, rfl, by kernel_rfl, by kernel_rfl, by kernel_rfl, by kernel_rfl⟩

-- 1 parameters, results [.t 2], 6 slots, modes [false]
@[simp] abbrev n_impl_clone_int : Nat := 58

def c_impl_clone_int : ACode := .seq (.reg [.o 2 .mv [.c (.os 1 [])]]) <| .seq (.reg [.m 3 0, .o 4 (.call 119 []) [.t 3], .o 5 (.call 118 []) [.t 4],
 .m 2 5]) <| .ret

theorem k_impl_clone_int : cFn Tryz.prog n_impl_clone_int 6 [.t 2] c_impl_clone_int := ⟨Tryz.f58, _, Tryz.func58, rfl, by kernel_rfl, by kernel_rfl, by kernel_rfl, by kernel_rfl⟩

-- 2 parameters, results [.t 4], 18 slots, modes [false, false]
@[simp] abbrev n_spec_l1Has : Nat := 169
def c_spec_l1Has_L0 : ACode := .seq (.seq (.reg [.m 6 5, .m 7 0, .n 8 7, .o 9 (.bin .lss 0) [.t 6, .t 8]]) <| .cond (.t 9) ( .skip) ( .exit 0)) <|
 .seq (.block 1 ( .seq (.reg [.m 12 0, .m 13 5, .o 14 (.iadr 1) [.t 12, .t 13], .l 15 14, .m 16 1, .o 17 (.bin .eql 0) [.t 15, .t 16]]) <|
 .cond (.t 17) ( .seq (.reg [.o 4 .mv [.kb true]]) <| .ret) ( .skip))) <| .reg [.m 10 5, .o 11 (.bin .add 0) [.t 10, .k 1], .m 5 11]

def c_spec_l1Has : ACode := .seq (.reg [.o 4 .mv [.kb false]]) <| .seq (.seq (.reg [.o 5 .mv [.k 0]]) <| .block 0 ( .loop [(0, 1)] [0, 1,
 5] c_spec_l1Has_L0)) <| .seq (.reg [.o 4 .mv [.kb false]]) <| .ret

theorem k_spec_l1Has : cFn Tryz.prog n_spec_l1Has 18 [.t 4] c_spec_l1Has := ⟨Tryz.f169, _, Tryz.func169, rfl, by kernel_rfl, by kernel_rfl, by kernel_rfl, by kernel_rfl⟩

-- 1 parameters, results [.t 2], 18 slots, modes [false]
@[simp] abbrev n_spec_l9Once : Nat := 136
def c_spec_l9Once_L0 : ACode := .seq (.seq (.reg [.m 4 3, .m 5 0, .n 6 5, .o 7 (.bin .lss 0) [.t 4, .t 6]]) <| .cond (.t 7) ( .skip) ( .exit 0)) <|
 .seq (.block 1 ( .seq (.draw ( .take (.m 10 0) <| .take (.m 11 3) <| .take (.o 12 (.slice 1 false false true false) [.t 10, .t 11]) <| .take (.m 13 0) <|
 .take (.m 14 3) <| .take (.o 15 (.iadr 1) [.t 13, .t 14]) <| .al (.l 16 15) ( .al (.o 17 (.call 169 []) [.t 12, .t 16]) ( .done)))) <|
 .cond (.t 17) ( .seq (.reg [.o 2 .mv [.kb false]]) <| .ret) ( .skip))) <| .reg [.m 8 3, .o 9 (.bin .add 0) [.t 8, .k 1], .m 3 9]

def c_spec_l9Once : ACode := .seq (.reg [.o 2 .mv [.kb false]]) <| .seq (.seq (.reg [.o 3 .mv [.k 0]]) <| .block 0 ( .loop [(0, 1)] [0, 3] c_spec_l9Once_L0)) <|
 .seq (.reg [.o 2 .mv [.kb true]]) <| .ret

theorem k_spec_l9Once : cFn Tryz.prog n_spec_l9Once 18 [.t 2] c_spec_l9Once := ⟨Tryz.f136, _, Tryz.func136, rfl, by kernel_rfl, by kernel_rfl, by kernel_rfl, by kernel_rfl⟩

-- 3 parameters, results [.t 6], 21 slots, modes [false, false, false]
@[simp] abbrev n_impl_Region_fair : Nat := 107

def c_impl_Region_fair : ACode := .seq (.reg [.o 3 .box [.t 0], .o 6 .mv [.kb false]]) <| .seq (.reg [.la 8 3 3, .m 9 1, .m 10 2, .o 11 (.call 149 []) [.t 8,
 .t 9, .t 10], .m 7 11]) <| .seq (.reg [.m 12 7, .o 13 (.call 150 []) [.t 12]]) <| .seq (.reg [.m 14 7, .o 15 (.call 119 []) [.t 14],
 .o 16 (.call 151 []) [.t 15], .n 17 16, .m 18 7, .n 19 18, .o 20 (.bin .eql 0) [.t 17, .t 19], .m 6 20]) <| .ret

theorem k_impl_Region_fair : cFn Tryz.prog n_impl_Region_fair 21 [.t 6] c_impl_Region_fair := ⟨Tryz.f107, _, Tryz.func107, rfl, by kernel_rfl, by kernel_rfl, by kernel_rfl, by kernel_rfl⟩

-- 3 parameters, results [.t 6], 22 slots, modes [false, false, false]
@[simp] abbrev n_spec_FairOk : Nat := 85

def c_spec_FairOk : ACode := .seq (.reg [.o 3 .box [.t 0], .o 6 .mv [.kb false]]) <| .seq (.reg [.la 7 3 3, .m 8 1, .o 9 (.call 15 []) [.t 7, .t 8], .m 10 9,
 .g 11 (.load true 3) [.t 3] 10 true, .mg 12 2 10 true, .g 13 (.call 128 []) [.t 11, .t 12] 10 true, .o 14 .pick [.t 10, .t 13, .kb false], .m 15 14,
 .g 16 (.load true 3) [.t 3] 15 true, .mg 17 1 15 true, .mg 18 2 15 true, .g 19 (.call 137 []) [.t 16, .t 17, .t 18] 15 true,
 .g 20 (.call 136 []) [.t 19] 15 true, .o 21 .pick [.t 15, .t 20, .kb false], .m 6 21]) <| .ret

theorem k_spec_FairOk : cFn Tryz.prog n_spec_FairOk 22 [.t 6] c_spec_FairOk := ⟨Tryz.f85, _, Tryz.func85, rfl, by kernel_rfl, by kernel_rfl, by kernel_rfl, by kernel_rfl⟩

-- 3 parameters, results [.t 6], 21 slots, modes [false, false, false]
@[simp] abbrev n_impl_FairOk : Nat := 47

def c_impl_FairOk : ACode := .seq (.reg [.o 3 .box [.t 0], .o 6 .mv [.kb false]]) <| .seq (.reg [.la 7 3 3, .m 8 1, .o 9 (.call 56 []) [.t 7, .t 8], .m 10 9,
 .g 11 (.load true 3) [.t 3] 10 true, .mg 12 2 10 true, .g 13 (.call 106 []) [.t 11, .t 12] 10 true, .o 14 .pick [.t 10, .t 13, .kb false], .m 15 14,
 .g 16 (.load true 3) [.t 3] 15 true, .mg 17 1 15 true, .mg 18 2 15 true, .g 19 (.call 107 []) [.t 16, .t 17, .t 18] 15 true, .o 20 .pick [.t 15, .t 19,
 .kb false], .m 6 20]) <| .ret

theorem k_impl_FairOk : cFn Tryz.prog n_impl_FairOk 21 [.t 6] c_impl_FairOk := ⟨Tryz.f47, _, Tryz.func47, rfl, by kernel_rfl, by kernel_rfl, by kernel_rfl, by kernel_rfl⟩

-- 1 parameters, results [], 11 slots, modes [true]
@[simp] abbrev n_slices_Sort_int_int : Nat := 150

def c_slices_Sort_int_int : ACode := .seq (.reg [.m 3 0, .n 4 3, .m 2 4]) <| .reg [.m 5 0, .m 6 2, .m 7 2, .o 8 (.conv .u64) [.t 7], .o 9 (.call 177 []) [.t 8],
 .o 10 (.call 176 []) [.t 5, .k 0, .t 6, .t 9]]

theorem k_slices_Sort_int_int : cFn Tryz.prog n_slices_Sort_int_int 11 [] c_slices_Sort_int_int := ⟨Tryz.f150, _, Tryz.func150, rfl, by kernel_rfl, by kernel_rfl, by kernel_rfl, by kernel_rfl⟩

-- 1 parameters, results [.t 2], 8 slots, modes [false]
@[simp] abbrev n_mathbits_Len : Nat := 177

def c_mathbits_Len : ACode := .seq (.reg [.o 2 .mv [.k 0]]) <| .seq (.cond (.kb false) ( .seq (.reg [.m 3 0, .o 4 (.conv .u32) [.t 3],
 .o 5 (.call 197 []) [.t 4], .m 2 5]) <| .ret) ( .skip)) <| .seq (.reg [.m 6 0, .o 7 (.call 198 []) [.t 6], .m 2 7]) <| .ret

theorem k_mathbits_Len : cFn Tryz.prog n_mathbits_Len 8 [.t 2] c_mathbits_Len := ⟨Tryz.f177, _, Tryz.func177, rfl, by kernel_rfl, by kernel_rfl, by kernel_rfl, by kernel_rfl⟩

-- 1 parameters, results [.t 2], 25 slots, modes [false]
@[simp] abbrev n_mathbits_Len64 : Nat := 198

def c_mathbits_Len64 : ACode := .seq (.reg [.o 2 .mv [.k 0]]) <| .seq (.seq (.reg [.m 3 0, .o 4 (.bin .geq 0) [.t 3, .c (.v (.int .u64 (4294967296)))]]) <|
 .cond (.t 4) ( .seq (.reg [.m 5 0, .o 6 (.bin .shr 0) [.t 5, .c (.v (.int .u64 (32)))], .m 0 6]) <| .reg [.o 2 .mv [.k 32]]) ( .skip)) <|
 .seq (.seq (.reg [.m 7 0, .o 8 (.bin .geq 0) [.t 7, .c (.v (.int .u64 (65536)))]]) <| .cond (.t 8) ( .seq (.reg [.m 9 0, .o 10 (.bin .shr 0) [.t 9,
 .c (.v (.int .u64 (16)))], .m 0 10]) <| .reg [.m 11 2, .o 12 (.bin .add 0) [.t 11, .k 16], .m 2 12]) ( .skip)) <| .seq (.seq (.reg [.m 13 0,
 .o 14 (.bin .geq 0) [.t 13, .c (.v (.int .u64 (256)))]]) <| .cond (.t 14) ( .seq (.reg [.m 15 0, .o 16 (.bin .shr 0) [.t 15, .c (.v (.int .u64 (8)))],
 .m 0 16]) <| .reg [.m 17 2, .o 18 (.bin .add 0) [.t 17, .k 8], .m 2 18]) ( .skip)) <| .seq (.reg [.m 19 2, .m 20 0, .o 21 (.conv .u8) [.t 20],
 .o 22 .sidx [.c (.v (.string ⟨#[0, 1, 2, 2, 3, 3, 3, 3, 4, 4, 4, 4, 4, 4, 4, 4, 5, 5, 5, 5, 5, 5, 5, 5, 5, 5, 5, 5, 5, 5, 5, 5, 6, 6, 6, 6, 6, 6, 6, 6, 6, 6, 6,
 6, 6, 6, 6, 6, 6, 6, 6, 6, 6, 6, 6, 6, 6, 6, 6, 6, 6, 6, 6, 6, 7, 7, 7, 7, 7, 7, 7, 7, 7, 7, 7, 7, 7, 7, 7, 7, 7, 7, 7, 7, 7, 7, 7, 7, 7, 7, 7, 7, 7, 7, 7, 7,
 7, 7, 7, 7, 7, 7, 7, 7, 7, 7, 7, 7, 7, 7, 7, 7, 7, 7, 7, 7, 7, 7, 7, 7, 7, 7, 7, 7, 7, 7, 7, 7, 8, 8, 8, 8, 8, 8, 8, 8, 8, 8, 8, 8, 8, 8, 8, 8, 8, 8, 8, 8, 8,
 8, 8, 8, 8, 8, 8, 8, 8, 8, 8, 8, 8, 8, 8, 8, 8, 8, 8, 8, 8, 8, 8, 8, 8, 8, 8, 8, 8, 8, 8, 8, 8, 8, 8, 8, 8, 8, 8, 8, 8, 8, 8, 8, 8, 8, 8, 8, 8, 8, 8, 8, 8, 8,
 8, 8, 8, 8, 8, 8, 8, 8, 8, 8, 8, 8, 8, 8, 8, 8, 8, 8, 8, 8, 8, 8, 8, 8, 8, 8, 8, 8, 8, 8, 8, 8, 8, 8, 8, 8, 8, 8, 8, 8, 8, 8, 8, 8, 8, 8, 8, 8, 8, 8, 8, 8, 8,
 8]⟩)), .t 21], .o 23 (.conv .i64) [.t 22], .o 24 (.bin .add 0) [.t 19, .t 23], .m 2 24]) <| .ret

theorem k_mathbits_Len64 : cFn Tryz.prog n_mathbits_Len64 25 [.t 2] c_mathbits_Len64 := ⟨Tryz.f198, _, Tryz.func198, rfl, by kernel_rfl, by kernel_rfl, by kernel_rfl, by kernel_rfl⟩

-- 4 parameters, results [], 134 slots, modes [false, false, false, false]
@[simp] abbrev n_slices_pdqsortOrdered_int : Nat := 176
abbrev c_slices_pdqsortOrdered_int_L0_p0 : Plan := .al (.g 85 (.call 194 []) [.t 80, .t 84] 75 true) ( .take (.g 86 (.un .not) [.t 85] 75 true) <| .take (.o 87 .pick [.t 75, .t 86, .kb false]) <| .done)
def c_slices_pdqsortOrdered_int_L0 : ACode := .block 1 ( .seq (.reg [.m 19 2, .m 20 1, .o 21 (.bin .sub 0) [.t 19, .t 20], .m 10 21]) <|
 .seq (.seq (.reg [.m 22 10, .o 23 (.bin .leq 0) [.t 22, .k 12]]) <| .cond (.t 23) ( .seq (.reg [.m 24 0, .m 25 1, .m 26 2, .o 27 (.call 188 []) [.t 24, .t 25,
 .t 26]]) <| .ret) ( .skip)) <| .seq (.seq (.reg [.m 28 3, .o 29 (.bin .eql 0) [.t 28, .k 0]]) <| .cond (.t 29) ( .seq (.reg [.m 30 0, .m 31 1, .m 32 2,
 .o 33 (.call 189 []) [.t 30, .t 31, .t 32]]) <| .ret) ( .skip)) <| .seq (.seq (.reg [.m 34 8, .o 35 (.un .not) [.t 34]]) <| .cond (.t 35) ( .seq (.reg [.m 36 0,
 .m 37 1, .m 38 2, .o 39 (.call 190 []) [.t 36, .t 37, .t 38]]) <| .reg [.m 40 3, .o 41 (.bin .sub 0) [.t 40, .k 1], .m 3 41]) ( .skip)) <| .seq (.reg [.m 43 0,
 .m 44 1, .m 45 2, .o 46 (.call 191 []) [.t 43, .t 44, .t 45], .m 42 46, .e 47 0 42, .e 48 1 42, .m 11 47, .m 12 48]) <| .seq (.seq (.reg [.m 49 12,
 .o 50 (.bin .eql 0) [.t 49, .k 2]]) <| .cond (.t 50) ( .seq (.reg [.m 51 0, .m 52 1, .m 53 2, .o 54 (.call 192 []) [.t 51, .t 52, .t 53]]) <|
 .seq (.reg [.m 55 2, .o 56 (.bin .sub 0) [.t 55, .k 1], .m 57 11, .m 58 1, .o 59 (.bin .sub 0) [.t 57, .t 58], .o 60 (.bin .sub 0) [.t 56, .t 59], .m 11 60]) <|
 .reg [.o 12 .mv [.k 1]]) ( .skip)) <| .seq (.seq (.reg [.m 61 8, .m 62 61, .mg 63 9 62 true, .o 64 .pick [.t 62, .t 63, .kb false], .m 65 64, .mg 66 12 65 true,
 .g 67 (.bin .eql 0) [.t 66, .k 1] 65 true, .o 68 .pick [.t 65, .t 67, .kb false]]) <| .cond (.t 68) ( .seq (.reg [.m 69 0, .m 70 1, .m 71 2,
 .o 72 (.call 193 []) [.t 69, .t 70, .t 71]]) <| .cond (.t 72) ( .ret) ( .skip)) ( .skip)) <| .seq (.seq (.draw ( .take (.m 73 1) <|
 .take (.o 74 (.bin .gtr 0) [.t 73, .k 0]) <| .take (.m 75 74) <| .take (.mg 76 0 75 true) <| .take (.mg 77 1 75 true) <| .take (.g 78 (.bin .sub 0) [.t 77,
 .k 1] 75 true) <| .take (.g 79 (.iadr 1) [.t 76, .t 78] 75 true) <| .take (.mg 81 0 75 true) <| .take (.mg 82 11 75 true) <| .take (.g 83 (.iadr 1) [.t 81,
 .t 82] 75 true) <| .alt (.lg 80 79 75 true) ( .al (.lg 84 83 75 true) c_slices_pdqsortOrdered_int_L0_p0) <|
 .al (.lg 84 83 75 true) ( .al (.lg 80 79 75 true) c_slices_pdqsortOrdered_int_L0_p0))) <| .cond (.t 87) ( .seq (.reg [.m 88 0, .m 89 1, .m 90 2, .m 91 11, .o 92 (.call 195 []) [.t 88,
 .t 89, .t 90, .t 91], .m 13 92]) <| .seq (.reg [.m 93 13, .m 1 93]) <| .exit 1) ( .skip)) <| .seq (.reg [.m 95 0, .m 96 1, .m 97 2, .m 98 11,
 .o 99 (.call 196 []) [.t 95, .t 96, .t 97, .t 98], .m 94 99, .e 100 0 94, .e 101 1 94, .m 14 100, .m 15 101]) <| .seq (.reg [.m 102 15, .m 9 102]) <|
 .seq (.reg [.m 103 14, .m 104 1, .o 105 (.bin .sub 0) [.t 103, .t 104], .m 106 2, .m 107 14, .o 108 (.bin .sub 0) [.t 106, .t 107], .m 16 105, .m 17 108]) <|
 .seq (.reg [.m 109 10, .o 110 (.bin .quo 0) [.t 109, .k 8], .m 18 110]) <| .seq (.reg [.m 111 16, .m 112 17, .o 113 (.bin .lss 0) [.t 111, .t 112]]) <|
 .cond (.t 113) ( .seq (.reg [.m 114 16, .m 115 18, .o 116 (.bin .geq 0) [.t 114, .t 115], .m 8 116]) <| .seq (.reg [.m 117 0, .m 118 1, .m 119 14, .m 120 3,
 .o 121 (.call 176 []) [.t 117, .t 118, .t 119, .t 120]]) <| .reg [.m 122 14, .o 123 (.bin .add 0) [.t 122, .k 1], .m 1 123]) ( .seq (.reg [.m 124 17, .m 125 18,
 .o 126 (.bin .geq 0) [.t 124, .t 125], .m 8 126]) <| .seq (.reg [.m 127 0, .m 128 14, .o 129 (.bin .add 0) [.t 128, .k 1], .m 130 2, .m 131 3,
 .o 132 (.call 176 []) [.t 127, .t 129, .t 130, .t 131]]) <| .reg [.m 133 14, .m 2 133]))

def c_slices_pdqsortOrdered_int : ACode := .seq (.reg [.o 8 .mv [.kb true]]) <| .seq (.reg [.o 9 .mv [.kb true]]) <| .block 0 ( .loop [(0, 1)] [0, 1, 2, 3, 8,
 9] c_slices_pdqsortOrdered_int_L0)

theorem k_slices_pdqsortOrdered_int : cFn Tryz.prog n_slices_pdqsortOrdered_int 134 [] c_slices_pdqsortOrdered_int := ⟨Tryz.f176, _, Tryz.func176, rfl, by kernel_rfl, by kernel_rfl, by kernel_rfl, by kernel_rfl⟩

-- 3 parameters, results [], 49 slots, modes [false, false, false]
@[simp] abbrev n_slices_insertionSortOrdered_int : Nat := 188
abbrev c_slices_insertionSortOrdered_int_L0_p0 : Plan := .take (.o 47 (.iadr 1) [.t 33, .t 34]) <| .al (.s (.store 1) [.t 47, .t 42]) ( .take (.o 48 (.iadr 1) [.t 35, .t 37]) <| .al (.s (.store 1) [.t 48, .t 46]) ( .done))
abbrev c_slices_insertionSortOrdered_int_L0_p1 : Plan := .al (.g 29 (.call 194 []) [.t 23, .t 28] 19 true) ( .take (.o 30 .pick [.t 19, .t 29, .kb false]) <| .done)
def c_slices_insertionSortOrdered_int_L0 : ACode := .seq (.seq (.draw ( .take (.m 16 7) <| .take (.m 17 1) <| .take (.o 18 (.bin .gtr 0) [.t 16, .t 17]) <|
 .take (.m 19 18) <| .take (.mg 20 0 19 true) <| .take (.mg 21 7 19 true) <| .take (.g 22 (.iadr 1) [.t 20, .t 21] 19 true) <| .take (.mg 24 0 19 true) <|
 .take (.mg 25 7 19 true) <| .take (.g 26 (.bin .sub 0) [.t 25, .k 1] 19 true) <| .take (.g 27 (.iadr 1) [.t 24, .t 26] 19 true) <|
 .alt (.lg 23 22 19 true) ( .al (.lg 28 27 19 true) c_slices_insertionSortOrdered_int_L0_p1) <| .al (.lg 28 27 19 true) ( .al (.lg 23 22 19 true) c_slices_insertionSortOrdered_int_L0_p1))) <| .cond (.t 30) ( .skip) ( .exit 2)) <| .seq (.block 3 ( .draw ( .take (.m 33 0) <| .take (.m 34 7) <| .take (.m 35 0) <|
 .take (.m 36 7) <| .take (.o 37 (.bin .sub 0) [.t 36, .k 1]) <| .take (.m 38 0) <| .take (.m 39 7) <| .take (.o 40 (.bin .sub 0) [.t 39, .k 1]) <|
 .take (.o 41 (.iadr 1) [.t 38, .t 40]) <| .take (.m 43 0) <| .take (.m 44 7) <| .take (.o 45 (.iadr 1) [.t 43, .t 44]) <|
 .alt (.l 42 41) ( .al (.l 46 45) c_slices_insertionSortOrdered_int_L0_p0) <| .al (.l 46 45) ( .al (.l 42 41) c_slices_insertionSortOrdered_int_L0_p0)))) <| .reg [.m 31 7, .o 32 (.bin .sub 0) [.t 31, .k 1],
 .m 7 32]

def c_slices_insertionSortOrdered_int_L1 : ACode := .seq (.seq (.reg [.m 10 6, .m 11 2, .o 12 (.bin .lss 0) [.t 10, .t 11]]) <|
 .cond (.t 12) ( .skip) ( .exit 0)) <| .seq (.block 1 ( .seq (.reg [.m 15 6, .m 7 15]) <| .block 2 ( .loop [(0, 1)] [0, 1, 2, 6,
 7] c_slices_insertionSortOrdered_int_L0))) <| .reg [.m 13 6, .o 14 (.bin .add 0) [.t 13, .k 1], .m 6 14]

def c_slices_insertionSortOrdered_int : ACode := .seq (.reg [.m 8 1, .o 9 (.bin .add 0) [.t 8, .k 1], .m 6 9]) <| .block 0 ( .loop [(0, 1)] [0, 1, 2,
 6] c_slices_insertionSortOrdered_int_L1)

theorem k_slices_insertionSortOrdered_int : cFn Tryz.prog n_slices_insertionSortOrdered_int 49 [] c_slices_insertionSortOrdered_int := ⟨Tryz.f188, _, Tryz.func188, rfl, by kernel_rfl, by kernel_rfl, by kernel_rfl, by kernel_rfl⟩

end Go.Proofs.Dev

namespace Go.Proofs.Dev

-- 2 parameters, results [.t 4], 28 slots, modes [false, false]
@[simp] abbrev n_spec_TilingOk : Nat := 142
def c_spec_TilingOk_L0 : ACode := .seq (.seq (.reg [.m 10 5, .m 11 1, .n 12 11, .o 13 (.bin .lss 0) [.t 10, .t 12]]) <| .cond (.t 13) ( .skip) ( .exit 0)) <|
 .seq (.block 1 ( .seq (.reg [.f 16 2 2, .l 17 16, .m 18 5, .o 19 (.iadr 1) [.t 17, .t 18], .l 20 19, .m 21 20, .mg 22 1 21 true, .mg 23 5 21 true,
 .g 24 (.iadr 1) [.t 22, .t 23] 21 true, .lg 25 24 21 true, .g 26 (.bin .eql 0) [.t 25, .k 0] 21 true, .o 27 .pick [.t 21, .t 26, .kb false]]) <|
 .cond (.t 27) ( .seq (.reg [.o 4 .mv [.kb false]]) <| .ret) ( .skip))) <| .reg [.m 14 5, .o 15 (.bin .add 0) [.t 14, .k 1], .m 5 15]

def c_spec_TilingOk : ACode := .seq (.reg [.o 2 .box [.t 0], .o 4 .mv [.kb false]]) <| .seq (.seq (.reg [.la 6 3 2, .m 7 1, .o 8 (.call 128 []) [.t 6, .t 7],
 .o 9 (.un .not) [.t 8]]) <| .cond (.t 9) ( .seq (.reg [.o 4 .mv [.kb false]]) <| .ret) ( .skip)) <| .seq (.seq (.reg [.o 5 .mv [.k 0]]) <| .block 0 ( .loop [(1,
 1)] [1, 2, 5] c_spec_TilingOk_L0)) <| .seq (.reg [.o 4 .mv [.kb true]]) <| .ret

theorem k_spec_TilingOk : cFn Tryz.prog n_spec_TilingOk 28 [.t 4] c_spec_TilingOk := ⟨Tryz.f142, _, Tryz.func142, rfl, by kernel_rfl, by kernel_rfl, by kernel_rfl, by kernel_rfl⟩

-- 2 parameters, results [.t 4], 24 slots, modes [false, false]
@[simp] abbrev n_impl_Region_full : Nat := 74
def c_impl_Region_full_L0 : ACode := .seq (.reg [.o 11 (.bin .lss 0) [.t 10, .t 9]]) <| .seq (.cond (.t 11) ( .skip) ( .exit 0)) <|
 .seq (.block 1 ( .seq (.reg [.m 12 10, .o 13 (.iadr 1) [.t 8, .t 10], .l 14 13, .m 5 12, .m 6 14]) <| .seq (.reg [.m 15 6, .m 16 15, .mg 17 1 16 true,
 .mg 18 5 16 true, .g 19 (.iadr 1) [.t 17, .t 18] 16 true, .lg 20 19 16 true, .g 21 (.bin .eql 0) [.t 20, .k 0] 16 true, .o 22 .pick [.t 16, .t 21,
 .kb false]]) <| .cond (.t 22) ( .seq (.reg [.o 4 .mv [.kb false]]) <| .ret) ( .skip))) <| .reg [.o 23 (.bin .add 0) [.t 10, .k 1], .m 10 23]

def c_impl_Region_full : ACode := .seq (.reg [.o 2 .box [.t 0], .o 4 .mv [.kb false]]) <| .seq (.seq (.reg [.f 7 2 2, .l 8 7, .n 9 8, .o 10 .mv [.k 0]]) <|
 .block 0 ( .loop [(1, 1), (8, 1)] [1, 8, 9, 10] c_impl_Region_full_L0)) <| .seq (.reg [.o 4 .mv [.kb true]]) <| .ret

theorem k_impl_Region_full : cFn Tryz.prog n_impl_Region_full 24 [.t 4] c_impl_Region_full := ⟨Tryz.f74, _, Tryz.func74, rfl, by kernel_rfl, by kernel_rfl, by kernel_rfl, by kernel_rfl⟩

-- 3 parameters, results [.t 6], 16 slots, modes [false, false, false]
@[simp] abbrev n_spec_SolvedOk : Nat := 99

def c_spec_SolvedOk : ACode := .seq (.reg [.o 3 .box [.t 0], .o 6 .mv [.kb false]]) <| .seq (.reg [.la 7 3 3, .m 8 2, .o 9 (.call 142 []) [.t 7, .t 8], .m 10 9,
 .g 11 (.load true 3) [.t 3] 10 true, .mg 12 1 10 true, .mg 13 2 10 true, .g 14 (.call 85 []) [.t 11, .t 12, .t 13] 10 true, .o 15 .pick [.t 10, .t 14,
 .kb false], .m 6 15]) <| .ret

theorem k_spec_SolvedOk : cFn Tryz.prog n_spec_SolvedOk 16 [.t 6] c_spec_SolvedOk := ⟨Tryz.f99, _, Tryz.func99, rfl, by kernel_rfl, by kernel_rfl, by kernel_rfl, by kernel_rfl⟩

end Go.Proofs.Dev

namespace Go.Proofs.Dev

-- 3 parameters, results [.t 6], 82 slots, modes [false, false, false]
@[simp] abbrev n_spec_MakePuzzle : Nat := 114
def c_spec_MakePuzzle_L0 : ACode := .seq (.seq (.reg [.m 23 8, .m 24 1, .n 25 24, .o 26 (.bin .lss 0) [.t 23, .t 25]]) <| .cond (.t 26) ( .skip) ( .exit 0)) <|
 .seq (.block 1 ( .reg [.m 29 7, .o 30 (.bsl 1) [.k (-1)], .o 31 (.app 1 8 true) [.t 29, .t 30], .m 7 31])) <| .reg [.m 27 8, .o 28 (.bin .add 0) [.t 27, .k 1],
 .m 8 28]

def c_spec_MakePuzzle_L1 : ACode := .seq (.seq (.reg [.m 52 10, .m 53 11, .o 54 (.bin .sub 0) [.k 6, .t 53], .o 55 (.bin .gtr 0) [.t 52, .t 54]]) <|
 .cond (.t 55) ( .skip) ( .exit 4)) <| .block 5 ( .seq (.reg [.m 56 10, .m 57 11, .o 58 (.bin .sub 0) [.k 6, .t 57], .o 59 (.bin .add 0) [.t 58, .k 1],
 .o 60 (.bin .sub 0) [.t 56, .t 59], .m 10 60]) <| .reg [.m 61 11, .o 62 (.bin .add 0) [.t 61, .k 1], .m 11 62])

abbrev c_spec_MakePuzzle_D_p0 : Plan := .al (.o 74 (.call 132 []) [.t 68, .t 69, .t 73]) ( .take (.o 78 (.iadr 1) [.t 67, .t 74]) <| .al (.s (.store 1) [.t 78, .t 77]) ( .done))
def c_spec_MakePuzzle_D : ACode := .draw ( .take (.m 67 7) <| .take (.m 69 9) <| .take (.m 70 1) <| .take (.m 71 9) <| .take (.o 72 (.iadr 1) [.t 70, .t 71]) <|
 .take (.m 75 11) <| .take (.m 76 10) <| .take (.o 77 (.bin .add 0) [.t 75, .t 76]) <| .alt (.la 68 3 3) ( .al (.l 73 72) c_spec_MakePuzzle_D_p0) <|
 .al (.l 73 72) ( .al (.la 68 3 3) c_spec_MakePuzzle_D_p0))

def c_spec_MakePuzzle_L2 : ACode := .seq (.seq (.reg [.m 32 9, .m 33 1, .n 34 33, .o 35 (.bin .lss 0) [.t 32, .t 34]]) <| .cond (.t 35) ( .skip) ( .exit 2)) <|
 .seq (.block 3 ( .seq (.reg [.m 38 1, .m 39 9, .o 40 (.iadr 1) [.t 38, .t 39], .l 41 40, .o 42 (.bin .eql 0) [.t 41, .k 1], .m 43 42, .mg 44 1 43 false,
 .mg 45 9 43 false, .g 46 (.iadr 1) [.t 44, .t 45] 43 false, .lg 47 46 43 false, .g 48 (.bin .eql 0) [.t 47, .k 2] 43 false, .o 49 .pick [.t 43, .kb true,
 .t 48]]) <| .cond (.t 49) ( .seq (.reg [.m 50 2, .o 51 (.bin .rem 0) [.t 50, .k 28], .m 10 51]) <| .seq (.reg [.o 11 .mv [.k 0]]) <| .seq (.block 4 ( .loop [(1,
 1), (7, 1)] [1, 2, 3, 7, 9, 10, 11] c_spec_MakePuzzle_L1)) <| .seq (.reg [.m 63 7, .m 64 9, .m 65 11, .o 66 (.iadr 1) [.t 63, .t 64], .s (.store 1) [.t 66,
 .t 65]]) <| .seq c_spec_MakePuzzle_D <| .reg [.m 79 2, .o 80 (.bin .add 0) [.t 79, .k 1], .m 2 80]) ( .skip))) <| .reg [.m 36 9, .o 37 (.bin .add 0) [.t 36,
 .k 1], .m 9 37]

def c_spec_MakePuzzle : ACode := .seq (.reg [.o 3 .box [.t 0], .o 6 .mv [.c (.os 1 [])]]) <| .seq (.seq (.reg [.la 12 3 3, .m 13 1, .o 14 (.call 142 []) [.t 12,
 .t 13], .o 15 (.un .not) [.t 14], .m 16 15, .mg 17 2 16 false, .g 18 (.call 62 []) [.t 17, .k 0, .k 27] 16 false, .g 19 (.un .not) [.t 18] 16 false,
 .o 20 .pick [.t 16, .kb true, .t 19]]) <| .cond (.t 20) ( .seq (.reg [.o 21 (.bsl 1) [], .m 6 21]) <| .ret) ( .skip)) <| .seq (.reg [.o 22 (.bsl 1) [],
 .m 7 22]) <| .seq (.seq (.reg [.o 8 .mv [.k 0]]) <| .block 0 ( .loop [(1, 1), (7, 1)] [1, 2, 3, 7, 8] c_spec_MakePuzzle_L0)) <|
 .seq (.seq (.reg [.o 9 .mv [.k 0]]) <| .block 2 ( .loop [(1, 1), (7, 1)] [1, 2, 3, 7, 9] c_spec_MakePuzzle_L2)) <| .seq (.reg [.m 81 7, .m 6 81]) <| .ret

theorem k_spec_MakePuzzle : cFn Tryz.prog n_spec_MakePuzzle 82 [.t 6] c_spec_MakePuzzle := ⟨Tryz.f114, _, Tryz.func114, rfl, by kernel_rfl, by kernel_rfl, by kernel_rfl, by kernel_rfl⟩

-- 2 parameters, results [.t 4], 12 slots, modes [false, false]
@[simp] abbrev n_impl_LaidOk : Nat := 75

def c_impl_LaidOk : ACode := .seq (.reg [.o 2 .box [.t 0], .o 4 .mv [.kb false]]) <| .seq (.reg [.la 5 3 2, .o 6 (.call 69 []) [.t 5], .m 7 6,
 .g 8 (.load true 3) [.t 2] 7 true, .mg 9 1 7 true, .g 10 (.call 106 []) [.t 8, .t 9] 7 true, .o 11 .pick [.t 7, .t 10, .kb false], .m 4 11]) <| .ret

theorem k_impl_LaidOk : cFn Tryz.prog n_impl_LaidOk 12 [.t 4] c_impl_LaidOk := ⟨Tryz.f75, _, Tryz.func75, rfl, by kernel_rfl, by kernel_rfl, by kernel_rfl, by kernel_rfl⟩

end Go.Proofs.Dev

namespace Go.Proofs.Dev

-- 2 parameters, results [.t 4], 34 slots, modes [true, false]
@[simp] abbrev n_laws_markDeedS : Nat := 42
-- 1 parameters, results [.t 2], 9 slots, modes [true]
@[simp] abbrev n_slices_Clip_impl_Deed_impl_Deed : Nat := 153

def c_slices_Clip_impl_Deed_impl_Deed : ACode := .seq (.reg [.o 2 .mv [.c (.os 3 [])]]) <| .seq (.reg [.m 3 0, .m 4 0, .n 5 4, .m 6 0, .n 7 6,
 .o 8 (.slice 3 false false true true) [.t 3, .t 5, .t 7], .m 2 8]) <| .ret

theorem k_slices_Clip_impl_Deed_impl_Deed : cFn Tryz.prog n_slices_Clip_impl_Deed_impl_Deed 9 [.t 2] c_slices_Clip_impl_Deed_impl_Deed := ⟨Tryz.f153, _, Tryz.func153, rfl, by kernel_rfl, by kernel_rfl, by kernel_rfl, by kernel_rfl⟩

-- 1 parameters, results [.t 2], 9 slots, modes [false]
@[simp] abbrev n_impl_Book_endDeeds_1 : Nat := 152

def c_impl_Book_endDeeds_1 : ACode := .seq (.reg [.o 2 .mv [.kb false]]) <| .seq (.reg [.m 3 0, .o 4 (.bin .eql 0) [.t 3, .k 1], .m 5 4, .mg 6 0 5 false,
 .g 7 (.bin .eql 0) [.t 6, .k 2] 5 false, .o 8 .pick [.t 5, .kb true, .t 7], .m 2 8]) <| .ret

theorem k_impl_Book_endDeeds_1 : cFn Tryz.prog n_impl_Book_endDeeds_1 9 [.t 2] c_impl_Book_endDeeds_1 := ⟨Tryz.f152, _, Tryz.func152, rfl, by kernel_rfl, by kernel_rfl, by kernel_rfl, by kernel_rfl⟩

-- 1 parameters, results [.t 2], 88 slots, modes [false]
@[simp] abbrev n_impl_Book_endDeeds : Nat := 108
def c_impl_Book_endDeeds_L0 : ACode := .seq (.reg [.o 37 (.bin .lss 0) [.t 36, .t 35]]) <| .seq (.cond (.t 37) ( .skip) ( .exit 0)) <|
 .seq (.block 1 ( .seq (.reg [.m 38 36, .o 39 (.iadr 1) [.t 34, .t 36], .l 40 39, .m 7 38, .m 8 40]) <| .seq (.reg [.m 41 6, .m 42 8, .o 43 (.callv []) [.t 41,
 .t 42], .m 44 43, .mg 45 3 44 true, .mg 46 7 44 true, .g 47 (.iadr 1) [.t 45, .t 46] 44 true, .lg 48 47 44 true, .mg 49 8 44 true, .g 50 (.bin .neq 0) [.t 48,
 .t 49] 44 true, .o 51 .pick [.t 44, .t 50, .kb false]]) <| .cond (.t 51) ( .reg [.m 52 5, .m 53 7, .o 54 (.build dz [(0, 1), (1, 1), (2, 1)]) [.k 1, .t 53,
 .k 0], .o 55 (.bsl 3) [.t 54], .o 56 (.app 3 24 true) [.t 52, .t 55], .m 5 56]) ( .skip))) <| .reg [.o 57 (.bin .add 0) [.t 36, .k 1], .m 36 57]

def c_impl_Book_endDeeds_L1 : ACode := .seq (.reg [.o 61 (.bin .lss 0) [.t 60, .t 59]]) <| .seq (.cond (.t 61) ( .skip) ( .exit 2)) <|
 .seq (.block 3 ( .seq (.reg [.m 62 60, .o 63 (.iadr 1) [.t 58, .t 60], .l 64 63, .m 9 62, .m 10 64]) <| .seq (.reg [.m 65 6, .m 66 10, .o 67 (.callv []) [.t 65,
 .t 66], .m 68 67, .mg 69 0 68 true, .g 70 .nilck [.t 69] 68 true, .fg 71 4 70 68 true, .lg 72 71 68 true, .mg 73 9 68 true, .g 74 (.iadr 1) [.t 72,
 .t 73] 68 true, .lg 75 74 68 true, .mg 76 10 68 true, .g 77 (.bin .neq 0) [.t 75, .t 76] 68 true, .o 78 .pick [.t 68, .t 77, .kb false]]) <|
 .cond (.t 78) ( .reg [.m 79 5, .m 80 9, .m 81 10, .o 82 (.build dz [(0, 1), (1, 1), (2, 1)]) [.k 0, .t 80, .t 81], .o 83 (.bsl 3) [.t 82],
 .o 84 (.app 3 24 true) [.t 79, .t 83], .m 5 84]) ( .skip))) <| .reg [.o 85 (.bin .add 0) [.t 60, .k 1], .m 60 85]

def c_impl_Book_endDeeds_T2 : ACode := .seq (.seq (.reg [.m 29 4, .o 30 (.un .not) [.t 29]]) <| .cond (.t 30) ( .seq (.reg [.o 2 .mv [.c (.os 3 [])]]) <|
 .ret) ( .skip)) <| .seq (.reg [.o 5 .mv [.c (.os 3 [])]]) <| .seq (.reg [.o 6 .mv [.f 152]]) <| .seq (.seq (.reg [.m 31 0, .o 32 .nilck [.t 31], .f 33 4 32,
 .l 34 33, .n 35 34, .o 36 .mv [.k 0]]) <| .block 0 ( .loop [(3, 1), (5, 3), (34, 1)] [0, 3, 5, 6, 34, 35, 36] c_impl_Book_endDeeds_L0)) <|
 .seq (.seq (.reg [.m 58 3, .n 59 58, .o 60 .mv [.k 0]]) <| .block 2 ( .loop [(5, 3), (58, 1)] [0, 5, 6, 58, 59, 60] c_impl_Book_endDeeds_L1)) <|
 .seq (.reg [.m 86 5, .o 87 (.call 153 []) [.t 86], .m 2 87]) <| .ret

abbrev c_impl_Book_endDeeds_p0 : Plan := .al (.o 26 (.call 110 []) [.t 15, .t 19, .t 25]) ( .take (.m 11 26) <| .take (.e 27 0 11) <| .take (.e 28 1 11) <| .take (.m 3 27) <| .take (.m 4 28) <| .done)
abbrev c_impl_Book_endDeeds_p1 : Plan := .al (.o 25 (.mksl 1 8 (.v (.int .i64 (0)))) [.t 24, .t 24]) c_impl_Book_endDeeds_p0
abbrev c_impl_Book_endDeeds_p2 : Plan := .al (.l 23 22) ( .take (.n 24 23) <| .al (.o 25 (.mksl 1 8 (.v (.int .i64 (0)))) [.t 24, .t 24]) c_impl_Book_endDeeds_p0)
def c_impl_Book_endDeeds : ACode := .seq (.reg [.o 2 .mv [.c (.os 3 [])]]) <| .seq (.draw ( .take (.m 12 0) <| .take (.o 13 .nilck [.t 12]) <|
 .take (.f 14 0 13) <| .take (.m 16 0) <| .take (.o 17 .nilck [.t 16]) <| .take (.f 18 3 17) <| .take (.m 20 0) <| .take (.o 21 .nilck [.t 20]) <|
 .take (.f 22 3 21) <| .alt (.la 15 3 14) ( .alt (.l 19 18) c_impl_Book_endDeeds_p2 <| .al (.l 23 22) ( .take (.n 24 23) <| .alt (.l 19 18) c_impl_Book_endDeeds_p1 <| .al (.o 25 (.mksl 1 8 (.v (.int .i64 (0)))) [.t 24, .t 24]) ( .al (.l 19 18) c_impl_Book_endDeeds_p0))) <|
 .alt (.l 19 18) ( .alt (.la 15 3 14) c_impl_Book_endDeeds_p2 <| .al (.l 23 22) ( .take (.n 24 23) <| .alt (.la 15 3 14) c_impl_Book_endDeeds_p1 <| .al (.o 25 (.mksl 1 8 (.v (.int .i64 (0)))) [.t 24, .t 24]) ( .al (.la 15 3 14) c_impl_Book_endDeeds_p0))) <|
 .al (.l 23 22) ( .take (.n 24 23) <| .alt (.la 15 3 14) ( .alt (.l 19 18) c_impl_Book_endDeeds_p1 <| .al (.o 25 (.mksl 1 8 (.v (.int .i64 (0)))) [.t 24, .t 24]) ( .al (.l 19 18) c_impl_Book_endDeeds_p0)) <|
 .alt (.l 19 18) ( .alt (.la 15 3 14) c_impl_Book_endDeeds_p1 <|
 .al (.o 25 (.mksl 1 8 (.v (.int .i64 (0)))) [.t 24, .t 24]) ( .al (.la 15 3 14) c_impl_Book_endDeeds_p0)) <| .al (.o 25 (.mksl 1 8 (.v (.int .i64 (0)))) [.t 24,
 .t 24]) ( .alt (.la 15 3 14) ( .al (.l 19 18) c_impl_Book_endDeeds_p0) <| .al (.l 19 18) ( .al (.la 15 3 14) c_impl_Book_endDeeds_p0))))) <| .gc [] [0, 3,
 4] c_impl_Book_endDeeds_T2

theorem k_impl_Book_endDeeds : cFn Tryz.prog n_impl_Book_endDeeds 88 [.t 2] c_impl_Book_endDeeds := ⟨Tryz.f108, _, Tryz.func108, rfl, by kernel_rfl, by kernel_rfl, by kernel_rfl, by kernel_rfl⟩

-- 1 parameters, results [.t 2], 7 slots, modes [false]
@[simp] abbrev n_impl_EndDeeds : Nat := 49

def c_impl_EndDeeds : ACode := .seq (.reg [.o 1 .box [.t 0], .o 2 .mv [.c (.os 3 [])]]) <| .seq (.seq (.reg [.la 3 6 1, .o 4 (.call 19 []) [.t 3],
 .o 5 (.un .not) [.t 4]]) <| .cond (.t 5) ( .seq (.reg [.o 2 .mv [.c (.os 3 [])]]) <| .ret) ( .skip)) <| .seq (.reg [.o 6 (.call 108 []) [.t 1], .m 2 6]) <|
 .ret

theorem k_impl_EndDeeds : cFn Tryz.prog n_impl_EndDeeds 7 [.t 2] c_impl_EndDeeds := ⟨Tryz.f49, _, Tryz.func49, rfl, by kernel_rfl, by kernel_rfl, by kernel_rfl, by kernel_rfl⟩

-- 1 parameters, results [.t 2], 105 slots, modes [false]
@[simp] abbrev n_spec_EndDeeds : Nat := 51
abbrev c_spec_EndDeeds_L0_p0 : Plan := .take (.g 58 (.bin .neq 0) [.t 52, .t 57] 48 true) <| .take (.o 59 .pick [.t 48, .t 58, .kb false]) <| .done
def c_spec_EndDeeds_L0 : ACode := .seq (.seq (.reg [.m 28 6, .m 29 4, .n 30 29, .o 31 (.bin .lss 0) [.t 28, .t 30]]) <| .cond (.t 31) ( .skip) ( .exit 0)) <|
 .seq (.block 1 ( .seq (.draw ( .take (.f 34 4 1) <| .take (.m 36 6) <| .al (.l 35 34) ( .take (.o 37 (.iadr 1) [.t 35, .t 36]) <|
 .al (.l 38 37) ( .take (.o 39 (.bin .eql 0) [.t 38, .k 1]) <| .take (.m 40 39) <| .take (.fg 41 4 1 40 false) <| .take (.mg 43 6 40 false) <|
 .al (.lg 42 41 40 false) ( .take (.g 44 (.iadr 1) [.t 42, .t 43] 40 false) <| .al (.lg 45 44 40 false) ( .take (.g 46 (.bin .eql 0) [.t 45, .k 2] 40 false) <|
 .take (.o 47 .pick [.t 40, .kb true, .t 46]) <| .take (.m 48 47) <| .take (.mg 49 4 48 true) <| .take (.mg 50 6 48 true) <| .take (.g 51 (.iadr 1) [.t 49,
 .t 50] 48 true) <| .take (.fg 53 4 1 48 true) <| .take (.mg 55 6 48 true) <| .alt (.lg 52 51 48 true) ( .al (.lg 54 53 48 true) ( .take (.g 56 (.iadr 1) [.t 54,
 .t 55] 48 true) <| .al (.lg 57 56 48 true) c_spec_EndDeeds_L0_p0)) <|
 .al (.lg 54 53 48 true) ( .take (.g 56 (.iadr 1) [.t 54, .t 55] 48 true) <|
 .alt (.lg 52 51 48 true) ( .al (.lg 57 56 48 true) c_spec_EndDeeds_L0_p0) <| .al (.lg 57 56 48 true) ( .al (.lg 52 51 48 true) c_spec_EndDeeds_L0_p0)))))))) <| .cond (.t 59) ( .reg [.m 60 3, .m 61 6, .o 62 (.build dz [(0, 1), (1, 1)]) [.k 1, .t 61], .o 63 (.bsl 3) [.t 62],
 .o 64 (.app 3 24 true) [.t 60, .t 63], .m 3 64]) ( .skip))) <| .reg [.m 32 6, .o 33 (.bin .add 0) [.t 32, .k 1], .m 6 33]

abbrev c_spec_EndDeeds_L1_p0 : Plan := .take (.g 93 (.bin .neq 0) [.t 87, .t 92] 83 true) <| .take (.o 94 .pick [.t 83, .t 93, .kb false]) <| .done
def c_spec_EndDeeds_L1 : ACode := .seq (.seq (.reg [.m 65 7, .m 66 4, .n 67 66, .o 68 (.bin .lss 0) [.t 65, .t 67]]) <| .cond (.t 68) ( .skip) ( .exit 2)) <|
 .seq (.block 3 ( .seq (.draw ( .take (.m 71 4) <| .take (.m 72 7) <| .take (.o 73 (.iadr 1) [.t 71, .t 72]) <|
 .al (.l 74 73) ( .take (.o 75 (.bin .eql 0) [.t 74, .k 1]) <| .take (.m 76 75) <| .take (.mg 77 4 76 false) <| .take (.mg 78 7 76 false) <|
 .take (.g 79 (.iadr 1) [.t 77, .t 78] 76 false) <| .al (.lg 80 79 76 false) ( .take (.g 81 (.bin .eql 0) [.t 80, .k 2] 76 false) <| .take (.o 82 .pick [.t 76,
 .kb true, .t 81]) <| .take (.m 83 82) <| .take (.mg 84 4 83 true) <| .take (.mg 85 7 83 true) <| .take (.g 86 (.iadr 1) [.t 84, .t 85] 83 true) <|
 .take (.fg 88 4 1 83 true) <| .take (.mg 90 7 83 true) <| .alt (.lg 87 86 83 true) ( .al (.lg 89 88 83 true) ( .take (.g 91 (.iadr 1) [.t 89, .t 90] 83 true) <|
 .al (.lg 92 91 83 true) c_spec_EndDeeds_L1_p0)) <|
 .al (.lg 89 88 83 true) ( .take (.g 91 (.iadr 1) [.t 89, .t 90] 83 true) <|
 .alt (.lg 87 86 83 true) ( .al (.lg 92 91 83 true) c_spec_EndDeeds_L1_p0) <| .al (.lg 92 91 83 true) ( .al (.lg 87 86 83 true) c_spec_EndDeeds_L1_p0)))))) <| .cond (.t 94) ( .reg [.m 95 3, .m 96 7, .m 97 4, .m 98 7, .o 99 (.iadr 1) [.t 97, .t 98], .l 100 99, .o 101 (.build dz [(0, 1),
 (1, 1), (2, 1)]) [.k 0, .t 96, .t 100], .o 102 (.bsl 3) [.t 101], .o 103 (.app 3 24 true) [.t 95, .t 102], .m 3 103]) ( .skip))) <| .reg [.m 69 7,
 .o 70 (.bin .add 0) [.t 69, .k 1], .m 7 70]

def c_spec_EndDeeds_T2 : ACode := .seq (.seq (.reg [.m 20 5, .o 21 (.un .not) [.t 20], .m 22 21, .g 23 (.load true 6) [.t 1] 22 false,
 .g 24 (.call 46 []) [.t 23] 22 false, .g 25 (.un .not) [.t 24] 22 false, .o 26 .pick [.t 22, .kb true, .t 25]]) <| .cond (.t 26) ( .seq (.reg [.m 27 3,
 .m 2 27]) <| .ret) ( .skip)) <| .seq (.seq (.reg [.o 6 .mv [.k 0]]) <| .block 0 ( .loop [(3, 3), (4, 1)] [1, 3, 4, 6] c_spec_EndDeeds_L0)) <|
 .seq (.seq (.reg [.o 7 .mv [.k 0]]) <| .block 2 ( .loop [(3, 3), (4, 1)] [1, 3, 4, 7] c_spec_EndDeeds_L1)) <| .seq (.reg [.m 104 3, .m 2 104]) <| .ret

abbrev c_spec_EndDeeds_p0 : Plan := .al (.o 17 (.call 109 []) [.t 11, .t 13, .t 16]) ( .take (.m 9 17) <| .take (.e 18 0 9) <| .take (.e 19 1 9) <| .take (.m 4 18) <| .take (.m 5 19) <| .done)
abbrev c_spec_EndDeeds_p1 : Plan := .al (.o 16 (.call 60 []) [.t 15]) c_spec_EndDeeds_p0
abbrev c_spec_EndDeeds_p2 : Plan := .alt (.la 11 3 10) c_spec_EndDeeds_p1 <| .al (.o 16 (.call 60 []) [.t 15]) ( .al (.la 11 3 10) c_spec_EndDeeds_p0)
abbrev c_spec_EndDeeds_p3 : Plan := .alt (.l 13 12) c_spec_EndDeeds_p1 <| .al (.o 16 (.call 60 []) [.t 15]) ( .al (.l 13 12) c_spec_EndDeeds_p0)
def c_spec_EndDeeds : ACode := .seq (.reg [.o 1 .box [.t 0], .o 2 .mv [.c (.os 3 [])]]) <| .seq (.reg [.o 8 (.bsl 3) [], .m 3 8]) <|
 .seq (.draw ( .take (.f 10 0 1) <| .take (.f 12 3 1) <| .take (.f 14 0 1) <|
 .alt (.la 11 3 10) ( .alt (.l 13 12) ( .al (.la 15 3 14) c_spec_EndDeeds_p1) <|
 .al (.la 15 3 14) c_spec_EndDeeds_p3) <|
 .alt (.l 13 12) ( .alt (.la 11 3 10) ( .al (.la 15 3 14) c_spec_EndDeeds_p1) <|
 .al (.la 15 3 14) c_spec_EndDeeds_p2) <|
 .al (.la 15 3 14) ( .alt (.la 11 3 10) c_spec_EndDeeds_p3 <|
 .alt (.l 13 12) c_spec_EndDeeds_p2 <|
 .al (.o 16 (.call 60 []) [.t 15]) ( .alt (.la 11 3 10) ( .al (.l 13 12) c_spec_EndDeeds_p0) <|
 .al (.l 13 12) ( .al (.la 11 3 10) c_spec_EndDeeds_p0))))) <| .gc [] [1, 3, 4, 5] c_spec_EndDeeds_T2

theorem k_spec_EndDeeds : cFn Tryz.prog n_spec_EndDeeds 105 [.t 2] c_spec_EndDeeds := ⟨Tryz.f51, _, Tryz.func51, rfl, by kernel_rfl, by kernel_rfl, by kernel_rfl, by kernel_rfl⟩

end Go.Proofs.Dev

namespace Go.Proofs.Dev
set_option linter.unusedSimpArgs false
set_option maxRecDepth 100000

@[simp] def md3 (f : Nat) : List Bool := if f = n_laws_markDeedS then [true, false] else if f = n_slices_Clip_impl_Deed_impl_Deed then [true] else md0 f

def deedA (d : Int × Int × Int) : AV := .agg [.v (.int .i64 d.1), .v (.int .i64 d.2.1), .v (.int .i64 d.2.2)]
def dsA (xs : List (Int × Int × Int)) : List AV := xs.map deedA
@[simp] theorem dsA_length (xs : List (Int × Int × Int)) : (dsA xs).length = xs.length := by simp [dsA]
@[simp] theorem dsA_nil : dsA [] = [] := rfl
theorem dsA_append (a b : List (Int × Int × Int)) : dsA (a ++ b) = dsA a ++ dsA b := by simp [dsA]
theorem dsA_get {xs : List (Int × Int × Int)} {i : Nat} (h : i < xs.length) : (dsA xs)[i]? = some (deedA xs[i]) := by simp [dsA, h]
@[simp] theorem dsA_getE {xs : List (Int × Int × Int)} {i : Nat} (h : i < (dsA xs).length) : (dsA xs)[i] = deedA (xs[i]'(by simpa using h)) := by simp [dsA]

def deedC (d : Int × Int × Int) : List AV := [.v (.int .i64 d.1), .v (.int .i64 d.2.1), .v (.int .i64 d.2.2)]
theorem aiadr_ds {c : Nat} {k : IntKind} {xs : List (Int × Int × Int)} {i : Nat} (h : i < xs.length) : aiadr 3 (.sl c 3 (dsA xs)) (.v (.int k (i : Int))) = some (.vp c (deedC xs[i]) 0) := by
  rw [aiadr_sl (dsA_get h)]; rfl

def marks3 (n : Nat) (k : Int) : List (Int × Int × Int) := (List.range n).map fun j : Nat => (k + 3 * j, k + 3 * j + 1, k + 3 * j + 2)
@[simp] theorem marks3_length (n : Nat) (k : Int) : (marks3 n k).length = n := by simp [marks3]
theorem dsA_get' {xs : List (Int × Int × Int)} {i : Nat} (h : i < xs.length) : (dsA xs)[i]? = some (.agg [.v (.int .i64 xs[i].1), .v (.int .i64 xs[i].2.1), .v (.int .i64 xs[i].2.2)]) := dsA_get h
theorem s_slices_Clip_Deed (xs : List (Int × Int × Int)) : SoundAt Tryz.prog n_slices_Clip_impl_Deed_impl_Deed [.os 3 (dsA xs)] (.os 3 (dsA xs)) [.bot] := by
  refine fn_ok (md := md3) (ms := [false]) k_slices_Clip_impl_Deed_impl_Deed (by simp) ?_
  simp [c_slices_Clip_impl_Deed_impl_Deed]
  exact List.take_of_length_le (by simp)

theorem s_impl_Book_endDeeds_1 (w : Int) : SoundAt Tryz.prog n_impl_Book_endDeeds_1 [.v (.int .i64 w)] (.v (.bool (decide (w = 1 ∨ w = 2)))) [.bot] := by
  refine fn_ok (md := md3) (ms := [false]) k_impl_Book_endDeeds_1 (by simp) ?_
  by_cases h1 : w = 1 <;> by_cases h2 : w = 2 <;> simp [c_impl_Book_endDeeds_1, h1, h2]

end Go.Proofs.Dev

namespace Go.Proofs.Dev
set_option linter.unusedSimpArgs false
set_option maxRecDepth 100000

theorem s_laws_sameDeeds (xs ys : List (Int × Int × Int)) (ha : xs.length < 2 ^ 40) :
    SoundAt Tryz.prog n_laws_sameDeeds [.sl 1 3 (dsA xs), .sl 1 3 (dsA ys)] (.v (.bool (decide (xs = ys)))) [.bot, .bot] := by
  refine fn_ok (md := md3) (ms := [false, false]) k_laws_sameDeeds (by simp) ?_
  simp [c_laws_sameDeeds]
  refine ⟨fun h => ?_, fun hl => ?_⟩
  · intro e; subst e; exact h rfl
  refine loop_by (fun m E H => ∃ i : Nat, m = xs.length - i ∧ i ≤ xs.length ∧ xs.take i = ys.take i ∧ H = [] ∧ E = [(0, .sl 1 3 (dsA xs)), (1, .sl 1 3 (dsA ys)), (5, .v (.int .i64 i))]) xs.length ⟨0, by simp⟩ ?_
  rintro J hJ m E H ⟨i, rfl, hi, he, rfl, rfl⟩
  simp [c_laws_sameDeeds_L0]
  refine ⟨fun h => ?_, fun h => ?_⟩
  · have h2 : i < ys.length := by omega
    have key : xs[i] = ys[i] → xs.take (i + 1) = ys.take (i + 1) := by
      intro e
      rw [List.take_succ_eq_append_getElem h, List.take_succ_eq_append_getElem h2, he, e]
    have key2 : ¬ (xs[i] = ys[i]) → xs ≠ ys := fun e e2 => e (by subst e2; rfl)
    simp [h, h2, aiadr_ds, deedC]
    refine ⟨fun hn e => ?_, fun a b c => ⟨by omega, _, by omega, hJ _ _ _ ⟨i + 1, rfl, h, key (Prod.ext a (Prod.ext b c)), rfl, rfl⟩⟩⟩
    subst e
    simp at hn
  · have h1 : i = xs.length := by omega
    subst h1
    rw [List.take_length] at he
    rw [he]
    exact List.take_of_length_le (by omega)

end Go.Proofs.Dev

namespace Go.Proofs.Dev
set_option linter.unusedSimpArgs false
set_option maxRecDepth 100000

theorem s_spec_l1In (x lo hi : Int) : SoundAt Tryz.prog n_spec_l1In [.v (.int .i64 x), .v (.int .i64 lo), .v (.int .i64 hi)] (.v (.bool (decide (lo ≤ x ∧ x ≤ hi)))) [.bot, .bot, .bot] := by
  refine fn_ok (md := md0) (ms := [false, false, false]) k_spec_l1In (by simp) ?_
  simp [c_spec_l1In]
  constructor
  · intro h; simp [h]
  · intro h; omega

theorem s_spec_l1Count (bs : List Bool) (hb : bs.length < 2 ^ 40) : SoundAt Tryz.prog n_spec_l1Count [.sl 1 1 (bools bs)] (.v (.int .i64 (manyOf bs))) [.bot] := by
  refine fn_ok (md := md0) (ms := [false]) k_spec_l1Count (by simp) ?_
  simp [c_spec_l1Count]
  refine loop_by (fun m E H => ∃ i : Nat, m = bs.length - i ∧ i ≤ bs.length ∧ H = [] ∧ E = [(0, .sl 1 1 (bools bs)), (3, .v (.int .i64 (manyOf (bs.take i)))), (4, .v (.int .i64 i))]) bs.length ⟨0, by simp [manyOf]⟩ ?_
  rintro J hJ m E H ⟨i, rfl, hi, rfl, rfl⟩
  simp [c_spec_l1Count_L0]
  refine ⟨fun h => ?_, fun h => ?_⟩
  · have e := manyOf_take bs i h
    have e3 := manyOf_le (bs.take i)
    rw [List.length_take] at e3
    simp [h]
    refine ⟨fun hb => ⟨by omega, by omega, _, by omega, hJ _ _ _ ⟨i + 1, rfl, h, rfl, ?_⟩⟩, fun hb => ⟨by omega, _, by omega, hJ _ _ _ ⟨i + 1, rfl, h, rfl, ?_⟩⟩⟩ <;> simp [e, hb]
  · have : i = bs.length := by omega
    subst this
    simp

theorem s_spec_RegionValid (W T : Int) (cs : List Bool) (hb : cs.length < 2 ^ 40) : SoundAt Tryz.prog n_spec_RegionValid [.agg [.v (.int .i64 W), .v (.int .i64 T), .sl 1 1 (bools cs)]] (.v (.bool (regB W T cs))) [.bot] := by
  refine fn_ok (md := md0) (ms := [false]) k_spec_RegionValid (by simp) ?_
  simp [c_spec_RegionValid]
  refine call_on (s_spec_l1In W 1 6) ?_
  simp
  refine ⟨fun h h' => ?_, fun h => ?_⟩
  · refine call_on (s_spec_l1In T 1 6) ?_
    have hx : T ≤ 6 → W * T ≤ 36 ∧ (1 ≤ T → 1 ≤ W * T) := fun ht => ⟨(by
      by_cases h0 : 0 ≤ T
      · exact Int.mul_le_mul h' ht h0 (by omega)
      · have : W * T ≤ 0 := Int.mul_nonpos_of_nonneg_of_nonpos (by omega) (by omega)
        omega), fun h1 => Int.mul_pos (by omega) (by omega)⟩
    simp
    refine ⟨fun h1 h2 => ⟨by have := hx h2; omega, fun h3 => ?_, fun h3 => ?_⟩, fun h1 => ?_⟩
    · refine call_on (s_spec_l1Count cs hb) ?_
      simp [regB, h, h', h1, h2, h3]
      omega
    · simp [regB]; omega
    · simp [regB]; omega
  · simp [regB]; omega

theorem s_spec_l2Back (n : Int) (h : 0 ≤ n) (h2 : n < 2 ^ 60) : SoundAt Tryz.prog n_spec_l2Back [.v (.int .i64 n)] (.v (.int .i64 (backI n))) [.bot] := by
  refine fn_ok (md := md0) (ms := [false]) k_spec_l2Back (by simp) ?_
  simp [c_spec_l2Back, backI]
  omega

theorem s_spec_PairOf (a b : Int) (h1 : 0 ≤ a ∧ a ≤ 6) (h2 : 0 ≤ b ∧ b ≤ 6) : SoundAt Tryz.prog n_spec_PairOf [.v (.int .i64 a), .v (.int .i64 b)] (.v (.int .i64 (pairI a b))) [.bot, .bot] := by
  refine fn_ok (md := md0) (ms := [false, false]) k_spec_PairOf (by simp) ?_
  simp [c_spec_PairOf]
  refine call_on (s_spec_l1In a 0 6) ?_
  simp [h1]
  refine call_on (s_spec_l1In b 0 6) ?_
  simp [h2, pairI]
  rw [Int.min_def, Int.max_def]
  (repeat' split) <;> omega

theorem s_spec_l2Step (W T : Int) (cs : List Bool) (k way : Int) (hr : regB W T cs = true) (h0 : 0 ≤ k) (h1 : k < cs.length) :
    SoundAt Tryz.prog n_spec_l2Step [.agg [.v (.int .i64 W), .v (.int .i64 T), .sl 1 1 (bools cs)], .v (.int .i64 k), .v (.int .i64 way)] (.v (.int .i64 (stepI W T k way))) [.bot, .bot, .bot] := by
  refine fn_ok (md := md0) (ms := [false, false, false]) k_spec_l2Step (by simp) ?_
  obtain ⟨w1, w2, t1, t2, l1, _⟩ := regB_W hr
  have hl := regB_len hr
  have hxy := cell_xy (T := T) (k := k) w1 h0 (by omega)
  have e1 : stepI W T k way = if way = 1 ∧ k % W < W - 1 then k + 1 else if way = 2 ∧ k / W < T - 1 then k + W else if way = 3 ∧ 0 < k % W then k - 1 else if way = 4 ∧ 0 < k / W then k - W else -1 := rfl
  rw [e1]
  clear e1 hr
  generalize hA : k % W = A at *
  generalize hB : k / W = B at *
  by_cases c1 : way = 1
  · subst c1; simp [c_spec_l2Step, hA, hB]; omega
  by_cases c2 : way = 2
  · subst c2; simp [c_spec_l2Step, hA, hB]; omega
  by_cases c3 : way = 3
  · subst c3; simp [c_spec_l2Step, hA, hB]; omega
  by_cases c4 : way = 4
  · subst c4; simp [c_spec_l2Step, hA, hB]; omega
  simp [c_spec_l2Step, c1, c2, c3, c4]

end Go.Proofs.Dev

namespace Go.Proofs.Dev
set_option linter.unusedSimpArgs false
set_option maxRecDepth 100000

theorem s_spec_PuzzleValid (W T : Int) (cs : List Bool) (ds : List Int) (hb : cs.length < 2 ^ 40) (hd : ds.length < 2 ^ 40) :
    SoundAt Tryz.prog n_spec_PuzzleValid [.agg [.v (.int .i64 W), .v (.int .i64 T), .sl 1 1 (bools cs)], .sl 1 1 (ints ds)] (.v (.bool (regB W T cs && digsB cs ds))) [.bot, .bot] := by
  refine fn_ok (md := md0) (ms := [false, false]) k_spec_PuzzleValid (by simp) ?_
  simp [c_spec_PuzzleValid]
  refine call_on (s_spec_RegionValid W T cs hb) ?_
  simp
  refine ⟨fun hr => ⟨fun hl => ?_, fun hl => ?_⟩, fun hr => ?_⟩
  · intro _
    simp [digsB]; omega
  · have hl' : ds.length = cs.length := by omega
    refine loop_by (fun m E H => ∃ i : Nat, m = ds.length - i ∧ i ≤ ds.length ∧ allB i (fun k => digAt cs ds k) = true ∧ H = [some (.box [.v (.int .i64 W), .v (.int .i64 T), .sl 1 1 (bools cs)])] ∧ E = [(1, .sl 1 1 (ints ds)), (2, .lp 0 0 0 0), (5, .v (.int .i64 i))]) ds.length ⟨0, by simp [allB_zero]⟩ ?_
    rintro J hJ m E H ⟨i, rfl, hi, ha, rfl, rfl⟩
    by_cases h : i < ds.length
    · have h2 : i < cs.length := by omega
      have next : digAt cs ds i = true → again J (ds.length - i) [(1, .sl 1 1 (ints ds)), (2, .lp 0 0 0 0), (5, .v (.int .i64 (i + 1)))] [some (.box [.v (.int .i64 W), .v (.int .i64 T), .sl 1 1 (bools cs)])] :=
        fun hd => ⟨_, by omega, hJ _ _ _ ⟨i + 1, rfl, h, by rw [allB_succ, ha, hd]; rfl, rfl, rfl⟩⟩
      have stop : digAt cs ds i = false → digsB cs ds = false := fun hd => by simp only [digsB, hl', decide_true, Bool.true_and]; exact allB_false h2 hd
      cases hc : atb cs i with
      | true =>
        simp [c_spec_PuzzleValid_L0, h, h2, hc]
        refine call_on (s_spec_l1In (ati ds i) 0 6) ?_
        simp [digAt, hc] at next stop ⊢
        (repeat' first | assumption | omega | apply And.intro | intro _) <;> first | omega | exact stop (by omega) | exact next (by omega) (by omega)
      | false =>
        simp [c_spec_PuzzleValid_L0, h, h2, hc]
        simp [digAt, hc] at next stop ⊢
        exact ⟨fun hx => fun _ => stop hx, fun hx => ⟨by omega, next hx⟩⟩
    · have : i = ds.length := by omega
      subst this
      simp [c_spec_PuzzleValid_L0]
      simp [digsB, hr, hl'] at ha ⊢
      exact ha
  · simp [hr]

end Go.Proofs.Dev

namespace Go.Proofs.Dev
set_option linter.unusedSimpArgs false
set_option maxRecDepth 100000

theorem s_spec_LaidOk (W T : Int) (cs : List Bool) (ls : List Int) (hb : cs.length < 2 ^ 40) (hd : ls.length < 2 ^ 40) :
    SoundAt Tryz.prog n_spec_LaidOk [.agg [.v (.int .i64 W), .v (.int .i64 T), .sl 1 1 (bools cs)], .sl 1 1 (ints ls)] (.v (.bool (regB W T cs && laysB W T cs ls))) [.bot, .bot] := by
  refine fn_ok (md := md0) (ms := [false, false]) k_spec_LaidOk (by simp) ?_
  simp [c_spec_LaidOk]
  refine call_on (s_spec_RegionValid W T cs hb) ?_
  simp
  refine ⟨fun hr => ⟨fun hl => ?_, fun hl => ?_⟩, fun hr => ?_⟩
  · intro _
    simp [laysB]; omega
  · have hl' : ls.length = cs.length := by omega
    obtain ⟨w1, w2, t1, t2, l1, _⟩ := regB_W hr
    refine loop_by (fun m E H => ∃ i : Nat, m = ls.length - i ∧ i ≤ ls.length ∧ allB i (fun k => layAt W T cs ls k) = true ∧ H = [some (.box [.v (.int .i64 W), .v (.int .i64 T), .sl 1 1 (bools cs)])] ∧ E = [(1, .sl 1 1 (ints ls)), (2, .lp 0 0 0 0), (5, .v (.int .i64 i))]) ls.length ⟨0, by simp [allB_zero]⟩ ?_
    rintro J hJ m E H ⟨i, rfl, hi, ha, rfl, rfl⟩
    by_cases h : i < ls.length
    · have h2 : i < cs.length := by omega
      have next : layAt W T cs ls i = true → again J (ls.length - i) [(1, .sl 1 1 (ints ls)), (2, .lp 0 0 0 0), (5, .v (.int .i64 (i + 1)))] [some (.box [.v (.int .i64 W), .v (.int .i64 T), .sl 1 1 (bools cs)])] :=
        fun hd => ⟨_, by omega, hJ _ _ _ ⟨i + 1, rfl, h, by rw [allB_succ, ha, hd]; rfl, rfl, rfl⟩⟩
      have stop : layAt W T cs ls i = false → (regB W T cs && laysB W T cs ls) = false := fun hd => by rw [hr, Bool.true_and]; simp only [laysB, hl', decide_true, Bool.true_and]; exact allB_false h2 hd
      by_cases z : ati ls i = 0
      · simp [c_spec_LaidOk_L0, h, h2, z]
        exact ⟨by omega, next (by simp [layAt, z])⟩
      by_cases rg : 1 ≤ ati ls i ∧ ati ls i ≤ 4
      case neg =>
        simp [c_spec_LaidOk_L0, h, h2, z]
        refine call_on (s_spec_l1In (ati ls i) 1 4) ?_
        have hs := stop (by simp [layAt, z]; omega)
        have hx : (decide (1 ≤ ati ls i) && decide (ati ls i ≤ 4)) = false := by simp; omega
        simp [hx, hs]
      cases hc : atb cs i with
      | false =>
        simp [c_spec_LaidOk_L0, h, h2, z]
        refine call_on (s_spec_l1In (ati ls i) 1 4) ?_
        have hs := stop (by simp [layAt, z, hc])
        simp [rg, hs, hc, h2]
      | true =>
        have hst := stepI_range (T := T) (k := i) (way := ati ls i) w1 (by omega) (by omega)
        have one : SoundAt Tryz.prog n_spec_l2Step [.agg [.v (.int .i64 W), .v (.int .i64 T), .sl 1 1 (bools cs)], .v (.int .i64 i), .v (.int .i64 (ati ls i))] (.v (.int .i64 (stepI W T i (ati ls i)))) [.bot, .bot, .bot] := s_spec_l2Step W T cs i (ati ls i) hr (by omega) (by omega)
        have two := s_spec_l2Back (ati ls i) (by omega) (by omega)
        simp [layAt, z, rg, hc] at next stop
        generalize hto : stepI W T i (ati ls i) = to at *
        simp [c_spec_LaidOk_L0, h, h2, z]
        refine call_on (s_spec_l1In (ati ls i) 1 4) ?_
        simp [rg, hc, h2]
        rcases hst with hst | ⟨hst, hst2, -, -⟩
        · subst hst
          have hs := stop (by omega) hr
          (repeat' first | assumption | omega | apply And.intro | intro _) <;> first
            | assumption
            | (refine call_on one ?_; simp [hs])
        · have e1 : ¬ to < 0 := by omega
          have e2 : to < cs.length := by omega
          have e3 : to < ls.length := by omega
          cases hct : atb cs to with
          | false =>
            have hs := stop (by simp [hct]) hr
            (repeat' first | assumption | omega | apply And.intro | intro _) <;> first
              | assumption
              | (refine call_on one ?_; simp [hs, e1, e2, e3, hst, hct])
          | true =>
            simp [hst, hct] at next stop
            (repeat' first | assumption | omega | apply And.intro | intro _) <;> first
              | assumption
              | (refine call_on one ?_
                 simp [e1, e2, e3, hst, hct, h]
                 (repeat' first | assumption | omega | apply And.intro | intro _) <;> first
                  | assumption
                  | (refine call_on two ?_
                     simp [e1, e2, e3, hst, hct, h]
                     (repeat' first | assumption | omega | apply And.intro | intro _) <;> first
                      | assumption
                      | omega
                      | exact next (by assumption)
                      | exact stop (by assumption) (by assumption)))
    · have : i = ls.length := by omega
      subst this
      simp [c_spec_LaidOk_L0]
      simp [laysB, hr, hl'] at ha ⊢
      exact ha
  · simp [hr]

end Go.Proofs.Dev

namespace Go.Proofs.Dev
set_option linter.unusedSimpArgs false
set_option maxRecDepth 100000

/-- A puzzle and its dominoes are in order. -/
def okB (W T : Int) (cs : List Bool) (ds ls : List Int) : Bool := regB W T cs && (digsB cs ds && laysB W T cs ls)

theorem okB_W {W T : Int} {cs : List Bool} {ds ls : List Int} (h : okB W T cs ds ls = true) : regB W T cs = true ∧ ds.length = cs.length ∧ ls.length = cs.length ∧
    ∀ k : Nat, k < cs.length → digAt cs ds k = true ∧ layAt W T cs ls k = true := by
  simp only [okB, digsB, laysB, Bool.and_eq_true, decide_eq_true_eq, allB_iff] at h
  obtain ⟨h1, ⟨h2, h3⟩, h4, h5⟩ := h
  exact ⟨h1, h2, h4, fun k hk => ⟨h3 k (by omega), h5 k (by omega)⟩⟩

/-- What a first cell of a domino knows. -/
theorem okB_first {W T : Int} {cs : List Bool} {ds ls : List Int} (h : okB W T cs ds ls = true) {k : Nat} (hk : k < cs.length) (hw : ati ls k = 1 ∨ ati ls k = 2) :
    0 ≤ stepI W T k (ati ls k) ∧ stepI W T k (ati ls k) < cs.length ∧ (0 ≤ ati ds k ∧ ati ds k ≤ 6) ∧ (0 ≤ ati ds (stepI W T k (ati ls k)) ∧ ati ds (stepI W T k (ati ls k)) ≤ 6) := by
  obtain ⟨hr, h1, h2, h3⟩ := okB_W h
  obtain ⟨w1, w2, t1, t2, l1, _⟩ := regB_W hr
  obtain ⟨d1, p1⟩ := h3 k hk
  have hst := stepI_range (T := T) (k := k) (way := ati ls k) w1 (by omega) (by omega)
  simp only [layAt, decide_eq_true_eq] at p1
  rcases p1 with p1 | ⟨_, _, pc, p0, pt, _⟩
  · omega
  generalize hto : stepI W T k (ati ls k) = to at *
  have d2 := (h3 to.toNat (by omega)).1
  rw [show ((to.toNat : Nat) : Int) = to by omega] at d2
  simp only [digAt, pc, pt, if_true, decide_eq_true_eq] at d1 d2
  exact ⟨p0, by omega, d1, d2⟩

theorem s_spec_PairsOf (W T : Int) (cs : List Bool) (ds ls : List Int) (hb : cs.length < 2 ^ 40) (hd : ds.length < 2 ^ 40) (hl : ls.length < 2 ^ 40) :
    SoundAt Tryz.prog n_spec_PairsOf [.agg [.v (.int .i64 W), .v (.int .i64 T), .sl 1 1 (bools cs)], .sl 1 1 (ints ds), .sl 1 1 (ints ls)] (.os 1 (ints (if okB W T cs ds ls then pairsI W T ds ls else []))) [.bot, .bot, .bot] := by
  refine fn_ok (md := md0) (ms := [false, false, false]) k_spec_PairsOf (by simp) ?_
  simp [c_spec_PairsOf]
  refine loop_by (fun m E H => ∃ i : Nat, m = ls.length - i ∧ i ≤ ls.length ∧ (i = 0 ∨ okB W T cs ds ls = true) ∧ H = [some (.box [.v (.int .i64 W), .v (.int .i64 T), .sl 1 1 (bools cs)]), some (.arr 1 (ints (pairsTo W T ds ls i)))] ∧
    E = [(1, .sl 1 1 (ints ds)), (2, .sl 1 1 (ints ls)), (3, .lp 0 0 0 0), (7, .ls 1 1 0 (pairsTo W T ds ls i).length), (8, .v (.int .i64 i))]) ls.length ⟨0, by simp [pairsTo]⟩ ?_
  rintro J hJ m E H ⟨i, rfl, hi, hz, rfl, rfl⟩
  by_cases h : i < ls.length
  case neg =>
    have : i = ls.length := by omega
    subst this
    simp [c_spec_PairsOf_L0]
    rcases hz with hz | hz
    · have : ls = [] := List.eq_nil_of_length_eq_zero hz
      subst this
      simp [pairsI, pairsTo]
    · simp [hz, pairsI]
  simp [c_spec_PairsOf_L0, h]
  refine call_on (s_spec_PuzzleValid W T cs ds hb hd) ?_
  have ok0 : okB W T cs ds ls = false → i = 0 := fun h => by rcases hz with hz | hz; exact hz; rw [h] at hz; cases hz
  cases hp : (regB W T cs && digsB cs ds) with
  | false =>
    have hn : okB W T cs ds ls = false := by simp only [okB, ← Bool.and_assoc, hp, Bool.false_and]
    have := ok0 hn; subst this
    simp [hn, pairsTo]
  | true =>
  simp
  refine call_on (s_spec_LaidOk W T cs ls hb hl) ?_
  cases hp2 : (regB W T cs && laysB W T cs ls) with
  | false =>
    have hn : okB W T cs ds ls = false := by
      simp only [Bool.and_eq_true] at hp
      rw [hp.1, Bool.true_and] at hp2
      simp [okB, hp2]
    have := ok0 hn; subst this
    simp [hn, pairsTo]
  | true =>
  have hok : okB W T cs ds ls = true := by
    simp only [Bool.and_eq_true] at hp hp2
    simp [okB, hp, hp2]
  obtain ⟨hr, e1, e2, _⟩ := okB_W hok
  have hlen := pairsTo_length W T ds ls i
  have hl36 := regB_len hr
  have hsuc := pairsTo_succ W T ds ls i
  have next : ∀ (x : List Int), pairsTo W T ds ls (i + 1) = pairsTo W T ds ls i ++ x → again J (ls.length - i) [(1, .sl 1 1 (ints ds)), (2, .sl 1 1 (ints ls)), (3, .lp 0 0 0 0), (7, .ls 1 1 0 ((pairsTo W T ds ls i).length + x.length)), (8, .v (.int .i64 (i + 1)))]
      [some (.box [.v (.int .i64 W), .v (.int .i64 T), .sl 1 1 (bools cs)]), some (.arr 1 (ints (pairsTo W T ds ls i) ++ ints x))] := by
    intro x hx
    refine ⟨_, by omega, hJ _ _ _ ⟨i + 1, rfl, h, .inr hok, ?_, ?_⟩⟩
    · rw [hx, ints_append]
    · rw [hx, List.length_append]; rfl
  have hds : i < ds.length := by omega
  by_cases hw : ati ls i = 1 ∨ ati ls i = 2
  · obtain ⟨o1, o2, o3, o4⟩ := okB_first hok (k := i) (by omega) hw
    have one : SoundAt Tryz.prog n_spec_l2Step [.agg [.v (.int .i64 W), .v (.int .i64 T), .sl 1 1 (bools cs)], .v (.int .i64 i), .v (.int .i64 (ati ls i))] (.v (.int .i64 (stepI W T i (ati ls i)))) [.bot, .bot, .bot] := s_spec_l2Step W T cs i (ati ls i) hr (by omega) (by omega)
    have two := s_spec_PairOf (ati ds i) (ati ds (stepI W T i (ati ls i))) o3 o4
    have next1 := next _ (by rw [hsuc, if_pos hw])
    clear hsuc next
    simp at next1
    generalize hto : stepI W T i (ati ls i) = to at *
    have o5 : to < ds.length := by omega
    have hb : (pairsTo W T ds ls i).length ≤ 36 := by omega
    rcases hw with hw | hw <;> rw [hw] at one <;>
    · simp [h, hw, hds]
      (repeat' first | assumption | apply And.intro) <;>
      · refine call_on one ?_
        simp [o1, o5, hds]
        (repeat' first | assumption | apply And.intro) <;>
        · refine call_on two ?_
          simp
          exact ⟨by omega, by omega, next1⟩
  · have hw1 : ¬ ati ls i = 1 := fun e => hw (.inl e)
    have hw2 : ¬ ati ls i = 2 := fun e => hw (.inr e)
    simp [h, hw1, hw2]
    rw [if_neg hw, List.append_nil] at hsuc
    refine ⟨by omega, _, by omega, hJ _ _ _ ⟨i + 1, rfl, h, .inr hok, ?_, ?_⟩⟩ <;> rw [hsuc]
    rfl

end Go.Proofs.Dev
