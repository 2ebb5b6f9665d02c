/- Contracts of the functions of the program over slots and rows, each proved against the program itself; no condition beyond those that each theorem names. -/
import Derived.Test.YtfkmfobbgoflgaaGreatDoorAS
import Derived.Test.YtfkmfobbgoflgaaGreatDoorAO
import Derived.Test.YtfkmfobbgoflgaaGreatDoorProg
set_option linter.unusedSimpArgs false
set_option linter.unusedVariables false
set_option maxRecDepth 100000
namespace Go.Proofs.Dev
theorem Va {W T : Int} {cs : List Bool} {ls : List Int} {cell way : Int} : (CB W T cs ls cell way).length = ls.length := by
 unfold CB
 split
 ·exact AL ..
 ·rfl
abbrev n3 : List AV := [AV.v (.int .i64 2), AV.v (.int .i64 3), AV.v (.int .i64 4)]
abbrev n4 : List AV := [AV.v (.int .i64 2), AV.v (.int .i64 4), AV.v (.int .i64 4), AV.v (.int .i64 5)]
abbrev n2 : List AV := [AV.v (.int .i64 2), AV.v (.int .i64 3)]
@[simp] abbrev Iq : Nat := 105
def Ir : ACode := .seq (.reg [.o 1 .box [.t 0], .o 2 .mv [.kb false]]) <| .seq (.seq (.reg [.f 3 0 1, .l 4 3]) <| .block 0 ( .seq (.reg [.o 6 (.bin .eql 0) [.t 4, .k 0], .m 5 6]) <| .cond (.t 5) ( .seq (.reg [.o 2 .mv [.kb true]]) <| .ret) ( .seq (.seq (.reg [.o 8 (.bin .eql 0) [.t 4, .k 1], .m 7 8]) <| .cond (.t 7) ( .skip) ( .reg [.o 9 (.bin .eql 0) [.t 4, .k 2], .m 7 9])) <| .cond (.t 7) ( .seq (.reg [.f 10 2 1, .l 11 10, .o 12 (.bin .eql 0) [.t 11, .k 0], .m 2 12]) <| .ret) ( .seq (.seq (.reg [.o 14 (.bin .eql 0) [.t 4, .k 3], .m 13 14]) <| .cond (.t 13) ( .skip) ( .reg [.o 15 (.bin .eql 0) [.t 4, .k 4], .m 13 15])) <| .cond (.t 13) ( .seq (.reg [.f 16 2 1, .l 17 16, .o 18 (.bin .eql 0) [.t 17, .k 0], .m 19 18, .fg 20 1 1 19 true, .lg 21 20 19 true, .g 22 (.bin .eql 0) [.t 21, .k 0] 19 true, .o 23 .pick [.t 19, .t 22, .kb false], .m 2 23]) <| .ret) ( .skip))))) <| .seq (.reg [.o 2 .mv [.kb false]]) <| .ret
@[simp] abbrev UW : Nat := 243
def LN : ACode := .seq (.reg [.o 3 .box [.t 0], .o 6 .mv [.kb false]]) <| .seq (.reg [.m 7 1, .f 8 0 3, .l 9 8, .o 10 (.bin .sub 0) [.t 9, .k 1], .o 11 (.call 106 []) [.t 7, .k 0, .t 10], .m 12 11, .mg 13 2 12 true, .fg 14 1 3 12 true, .lg 15 14 12 true, .g 16 (.bin .sub 0) [.t 15, .k 1] 12 true, .g 17 (.call 106 []) [.t 13, .k 0, .t 16] 12 true, .o 18 .pick [.t 12, .t 17, .kb false], .m 19 18, .fg 20 2 3 19 true, .lg 21 20 19 true, .mg 22 2 19 true, .fg 23 0 3 19 true, .lg 24 23 19 true, .g 25 (.bin .mul 0) [.t 22, .t 24] 19 true, .mg 26 1 19 true, .g 27 (.bin .add 0) [.t 25, .t 26] 19 true, .g 28 (.iadr 1) [.t 21, .t 27] 19 true, .lg 29 28 19 true, .o 30 .pick [.t 19, .t 29, .kb false], .m 6 30]) <| .ret
@[simp] abbrev Ks : Nat := 225
def Kt : ACode := .seq (.reg [.o 1 .box [.t 0], .o 2 .mv [.k 0]]) <| .seq (.seq (.reg [.la 3 3 1, .o 4 (.call 168 []) [.t 3], .o 5 (.un .not) [.t 4]]) <| .cond (.t 5) ( .seq (.reg [.o 2 .mv [.k (-1)]]) <| .ret) ( .skip)) <| .seq (.reg [.f 6 0 1, .l 7 6, .o 8 (.bin .add 0) [.t 7, .k 1], .f 9 1 1, .l 10 9, .o 11 (.bin .add 0) [.t 10, .k 1], .o 12 (.bin .mul 0) [.t 8, .t 11], .m 2 12]) <| .ret
@[simp] abbrev M9 : Nat := 200
def NA : ACode := .seq (.reg [.o 2 .box [.t 0], .o 4 .mv [.k 0], .o 5 .mv [.k 0], .o 6 .mv [.k 0], .o 7 .mv [.k 0], .o 8 .mv [.kb false]]) <| .seq (.reg [.m 12 1, .f 13 0 2, .l 14 13, .o 15 (.bin .add 0) [.t 14, .k 1], .o 16 (.bin .rem 0) [.t 12, .t 15], .m 9 16]) <| .seq (.reg [.m 17 1, .f 18 0 2, .l 19 18, .o 20 (.bin .add 0) [.t 19, .k 1], .o 21 (.bin .quo 0) [.t 17, .t 20], .m 10 21]) <| .seq (.seq (.reg [.la 22 3 2, .m 23 9, .o 24 (.bin .sub 0) [.t 23, .k 1], .m 25 10, .o 26 (.bin .sub 0) [.t 25, .k 1], .o 27 (.call 243 []) [.t 22, .t 24, .t 26], .o 28 (.un .not) [.t 27], .m 29 28, .g 30 (.load true 3) [.t 2] 29 false, .mg 31 9 29 false, .mg 32 10 29 false, .g 33 (.bin .sub 0) [.t 32, .k 1] 29 false, .g 34 (.call 243 []) [.t 30, .t 31, .t 33] 29 false, .g 35 (.un .not) [.t 34] 29 false, .o 36 .pick [.t 29, .kb true, .t 35], .m 37 36, .g 38 (.load true 3) [.t 2] 37 false, .mg 39 9 37 false, .g 40 (.bin .sub 0) [.t 39, .k 1] 37 false, .mg 41 10 37 false, .g 42 (.call 243 []) [.t 38, .t 40, .t 41] 37 false, .g 43 (.un .not) [.t 42] 37 false, .o 44 .pick [.t 37, .kb true, .t 43], .m 45 44, .g 46 (.load true 3) [.t 2] 45 false, .mg 47 9 45 false, .mg 48 10 45 false, .g 49 (.call 243 []) [.t 46, .t 47, .t 48] 45 false, .g 50 (.un .not) [.t 49] 45 false, .o 51 .pick [.t 45, .kb true, .t 50]]) <| .cond (.t 51) ( .seq (.reg [.o 4 .mv [.k 0], .o 5 .mv [.k 0], .o 6 .mv [.k 0], .o 7 .mv [.k 0], .o 8 .mv [.kb false]]) <| .ret) ( .skip)) <| .seq (.reg [.m 52 10, .o 53 (.bin .sub 0) [.t 52, .k 1], .f 54 0 2, .l 55 54, .o 56 (.bin .mul 0) [.t 53, .t 55], .m 57 9, .o 58 (.bin .add 0) [.t 56, .t 57], .o 59 (.bin .sub 0) [.t 58, .k 1], .m 11 59]) <| .seq (.draw ( .take (.m 60 11) <| .take (.m 61 11) <| .take (.o 62 (.bin .add 0) [.t 61, .k 1]) <| .take (.m 63 11) <| .take (.f 64 0 2) <| .take (.m 67 11) <| .take (.f 68 0 2) <| .take (.m 4 60) <| .take (.m 5 62) <| .alt (.l 65 64) ( .take (.o 66 (.bin .add 0) [.t 63, .t 65]) <| .take (.m 6 66) <| .al (.l 69 68) ( .take (.o 70 (.bin .add 0) [.t 67, .t 69]) <| .take (.o 71 (.bin .add 0) [.t 70, .k 1]) <| .take (.m 7 71) <| .take (.o 8 .mv [.kb true]) <| .done)) <| .al (.l 69 68) ( .take (.o 70 (.bin .add 0) [.t 67, .t 69]) <| .take (.o 71 (.bin .add 0) [.t 70, .k 1]) <| .al (.l 65 64) ( .take (.o 66 (.bin .add 0) [.t 63, .t 65]) <| .take (.m 6 66) <| .take (.m 7 71) <| .take (.o 8 .mv [.kb true]) <| .done)))) <| .ret
@[simp] abbrev Ob : Nat := 199
def Oc : ACode := .seq (.reg [.o 3 .box [.t 0], .o 6 .mv [.kb false]]) <| .seq (.seq (.reg [.la 12 3 3, .m 13 1, .o 14 (.call 122 []) [.t 12, .t 13], .o 15 (.un .not) [.t 14], .m 16 15, .mg 17 2 16 false, .g 18 (.load true 3) [.t 3] 16 false, .g 19 (.call 225 []) [.t 18] 16 false, .g 20 (.bin .sub 0) [.t 19, .k 1] 16 false, .g 21 (.call 106 []) [.t 17, .k 0, .t 20] 16 false, .g 22 (.un .not) [.t 21] 16 false, .o 23 .pick [.t 16, .kb true, .t 22]]) <| .cond (.t 23) ( .seq (.reg [.o 6 .mv [.kb false]]) <| .ret) ( .skip)) <| .seq (.reg [.la 25 3 3, .m 26 2, .o 27 (.call 200 []) [.t 25, .t 26], .m 24 27, .e 28 0 24, .e 29 1 24, .e 30 2 24, .e 31 3 24, .e 32 4 24, .m 7 28, .m 8 29, .m 9 30, .m 10 31, .m 11 32]) <| .seq (.reg [.m 33 11, .m 34 33, .mg 35 1 34 true, .mg 36 7 34 true, .g 37 (.iadr 1) [.t 35, .t 36] 34 true, .lg 38 37 34 true, .g 39 (.bin .eql 0) [.t 38, .k 1] 34 true, .mg 40 39 34 true, .mg 41 1 40 true, .mg 42 9 40 true, .g 43 (.iadr 1) [.t 41, .t 42] 40 true, .lg 44 43 40 true, .g 45 (.bin .eql 0) [.t 44, .k 1] 40 true, .g 46 .pick [.t 40, .t 45, .kb false] 34 true, .mg 47 46 34 true, .mg 48 1 47 false, .mg 49 7 47 false, .g 50 (.iadr 1) [.t 48, .t 49] 47 false, .lg 51 50 47 false, .g 52 (.bin .eql 0) [.t 51, .k 2] 47 false, .mg 53 52 47 false, .mg 54 1 53 true, .mg 55 8 53 true, .g 56 (.iadr 1) [.t 54, .t 55] 53 true, .lg 57 56 53 true, .g 58 (.bin .eql 0) [.t 57, .k 2] 53 true, .g 59 .pick [.t 53, .t 58, .kb false] 47 false, .g 60 .pick [.t 47, .kb true, .t 59] 34 true, .o 61 .pick [.t 34, .t 60, .kb false], .m 6 61]) <| .ret
@[simp] abbrev Od : Nat := 142
def Oe : ACode := .seq (.reg [.o 3 .box [.t 0], .o 6 .mv [.c (.os 1 [])], .o 7 .mv [.kb false]]) <| .seq (.seq (.reg [.la 14 3 3, .m 15 1, .o 16 (.call 122 []) [.t 14, .t 15], .o 17 (.un .not) [.t 16]]) <| .cond (.t 17) ( .seq (.reg [.o 18 (.bsl 1) [], .m 6 18, .o 7 .mv [.kb false]]) <| .ret) ( .skip)) <| .seq (.reg [.o 19 (.bsl 1) [], .m 20 1, .o 21 (.app 1 8 true) [.t 19, .t 20], .m 8 21]) <| .seq (.seq (.reg [.la 22 3 3, .m 23 1, .m 24 2, .o 25 (.call 199 []) [.t 22, .t 23, .t 24], .o 26 (.un .not) [.t 25]]) <| .cond (.t 26) ( .seq (.reg [.m 27 8, .m 6 27, .o 7 .mv [.kb false]]) <| .ret) ( .skip)) <| .seq (.reg [.la 29 3 3, .m 30 2, .o 31 (.call 200 []) [.t 29, .t 30], .m 28 31, .e 32 0 28, .e 33 1 28, .e 34 2 28, .e 35 3 28, .e 36 4 28, .m 9 32, .m 10 33, .m 11 34, .m 12 35, .m 13 36]) <| .seq (.seq (.reg [.m 37 1, .m 38 9, .o 39 (.iadr 1) [.t 37, .t 38], .l 40 39, .o 41 (.bin .eql 0) [.t 40, .k 1]]) <| .cond (.t 41) ( .seq (.reg [.m 42 8, .m 43 9, .o 44 (.iadr 1) [.t 42, .t 43], .s (.store 1) [.t 44, .k 2]]) <| .seq (.reg [.m 45 8, .m 46 10, .o 47 (.iadr 1) [.t 45, .t 46], .s (.store 1) [.t 47, .k 2]]) <| .seq (.reg [.m 48 8, .m 49 11, .o 50 (.iadr 1) [.t 48, .t 49], .s (.store 1) [.t 50, .k 4]]) <| .reg [.m 51 8, .m 52 12, .o 53 (.iadr 1) [.t 51, .t 52], .s (.store 1) [.t 53, .k 4]]) ( .seq (.reg [.m 54 8, .m 55 9, .o 56 (.iadr 1) [.t 54, .t 55], .s (.store 1) [.t 56, .k 1]]) <| .seq (.reg [.m 57 8, .m 58 11, .o 59 (.iadr 1) [.t 57, .t 58], .s (.store 1) [.t 59, .k 1]]) <| .seq (.reg [.m 60 8, .m 61 10, .o 62 (.iadr 1) [.t 60, .t 61], .s (.store 1) [.t 62, .k 3]]) <| .reg [.m 63 8, .m 64 12, .o 65 (.iadr 1) [.t 63, .t 64], .s (.store 1) [.t 65, .k 3]])) <| .seq (.reg [.m 66 8, .m 6 66, .o 7 .mv [.kb true]]) <| .ret
@[simp] abbrev Gq : Nat := 72
abbrev Ac : Plan := .al (.o 30 (.app 1 8 true) [.t 24, .t 29]) ( .al (.o 31 (.bsl 1) [.t 30]) ( .al (.o 32 (.app 1 24 false) [.t 23, .t 31]) ( .take (.f 33 5 3) <| .al (.s (.store 1) [.t 33, .t 32]) ( .done))))
abbrev Ej : Plan := .alt (.l 23 22) Ac <| .al (.o 30 (.app 1 8 true) [.t 24, .t 29]) ( .alt (.l 23 22) ( .al (.o 31 (.bsl 1) [.t 30]) ( .al (.o 32 (.app 1 24 false) [.t 23, .t 31]) ( .take (.f 33 5 3) <| .al (.s (.store 1) [.t 33, .t 32]) ( .done)))) <| .al (.o 31 (.bsl 1) [.t 30]) ( .al (.l 23 22) ( .al (.o 32 (.app 1 24 false) [.t 23, .t 31]) ( .take (.f 33 5 3) <| .al (.s (.store 1) [.t 33, .t 32]) ( .done)))))
abbrev HU : Plan := .al (.l 26 25) ( .take (.o 28 (.iadr 1) [.t 26, .t 27]) <| .al (.l 29 28) Ac)
def Gg : ACode := .seq (.seq (.reg [.m 15 4, .f 16 5 1, .l 17 16, .n 18 17, .o 19 (.bin .lss 0) [.t 15, .t 18]]) <| .cond (.t 19) ( .skip) ( .exit 0)) <| .seq (.block 1 ( .draw ( .take (.f 22 5 3) <| .take (.f 25 5 1) <| .take (.m 27 4) <| .alt (.l 23 22) ( .alt (.o 24 (.bsl 1) []) HU <| .al (.l 26 25) ( .take (.o 28 (.iadr 1) [.t 26, .t 27]) <| .alt (.o 24 (.bsl 1) []) ( .al (.l 29 28) Ac) <| .al (.l 29 28) ( .al (.o 24 (.bsl 1) []) Ac))) <| .alt (.o 24 (.bsl 1) []) ( .alt (.l 23 22) HU <| .al (.l 26 25) ( .take (.o 28 (.iadr 1) [.t 26, .t 27]) <| .alt (.l 23 22) ( .al (.l 29 28) Ac) <| .al (.l 29 28) Ej)) <| .al (.l 26 25) ( .take (.o 28 (.iadr 1) [.t 26, .t 27]) <| .alt (.l 23 22) ( .alt (.o 24 (.bsl 1) []) ( .al (.l 29 28) Ac) <| .al (.l 29 28) ( .al (.o 24 (.bsl 1) []) Ac)) <| .alt (.o 24 (.bsl 1) []) ( .alt (.l 23 22) ( .al (.l 29 28) Ac) <| .al (.l 29 28) Ej) <| .al (.l 29 28) ( .alt (.l 23 22) ( .al (.o 24 (.bsl 1) []) Ac) <| .al (.o 24 (.bsl 1) []) Ej))))) <| .reg [.m 20 4, .o 21 (.bin .add 0) [.t 20, .k 1], .m 4 21]
def KH : ACode := .seq (.reg [.o 1 .box [.t 0], .o 2 (.alloc bz) []]) <| .seq (.reg [.f 5 0 1, .la 6 3 5, .f 7 3 1, .l 8 7, .o 9 (.call 119 []) [.t 6, .t 8], .o 3 (.alloc bz) [], .s (.store 6) [.t 3, .t 9]]) <| .seq (.reg [.o 10 (.bsl 1) [], .f 11 4 1, .l 12 11, .o 13 (.app 1 8 true) [.t 10, .t 12], .f 14 4 3, .s (.store 1) [.t 14, .t 13]]) <| .seq (.seq (.reg [.o 4 .mv [.k 0]]) <| .block 0 ( .loop [] [1, 2, 3, 4] Gg)) <| .seq (.reg [.la 34 6 3, .s (.store 6) [.t 2, .t 34]]) <| .ret
@[simp] abbrev Hj : Nat := 73
def C3 : ACode := .seq (.seq (.reg [.m 109 8, .o 110 (.un .not) [.t 109], .m 111 110, .fg 112 0 2 111 false, .g 113 (.load true 3) [.t 112] 111 false, .fg 114 3 2 111 false, .lg 115 114 111 false, .mg 116 7 111 false, .g 117 (.call 59 []) [.t 113, .t 115, .t 116] 111 false, .g 118 (.un .not) [.t 117] 111 false, .o 119 .pick [.t 111, .kb true, .t 118]]) <| .cond (.t 119) ( .seq (.reg [.la 120 6 6, .s (.store 6) [.t 4, .t 120], .o 5 .mv [.kb false]]) <| .ret) ( .skip)) <| .seq (.reg [.f 121 5 6, .l 122 121, .f 123 4 6, .l 124 123, .o 125 (.bsl 1) [.t 124], .o 126 (.app 1 24 false) [.t 122, .t 125], .f 127 5 6, .s (.store 1) [.t 127, .t 126]]) <| .seq (.seq (.reg [.f 128 5 6, .l 129 128, .n 130 129, .o 131 (.bin .gtr 0) [.t 130, .k 20]]) <| .cond (.t 131) ( .reg [.f 132 5 6, .l 133 132, .o 134 (.slice 1 false true false false) [.t 133, .k 1], .f 135 5 6, .s (.store 1) [.t 135, .t 134]]) ( .skip)) <| .seq (.reg [.m 136 7, .f 137 4 6, .s (.store 1) [.t 137, .t 136]]) <| .seq (.reg [.la 138 6 6, .s (.store 6) [.t 4, .t 138], .o 5 .mv [.kb true]]) <| .ret
abbrev Cb : Plan := .al (.o 84 (.call 144 []) [.t 81, .t 83]) ( .take (.o 85 (.bin .gtr 0) [.t 79, .t 84]) <| .take (.m 8 85) <| .done)
abbrev Dt : Plan := .al (.o 79 (.call 144 []) [.t 77, .t 78]) Cb
abbrev Jr : Plan := .alt (.o 79 (.call 144 []) [.t 77, .t 78]) ( .al (.la 81 3 80) Cb) <| .al (.la 81 3 80) Dt
abbrev Js : Plan := .alt (.o 79 (.call 144 []) [.t 77, .t 78]) ( .al (.l 83 82) Cb) <| .al (.l 83 82) Dt
def NB : ACode := .draw ( .take (.f 76 0 2) <| .take (.m 78 7) <| .take (.f 80 0 2) <| .take (.f 82 4 2) <| .alt (.la 77 3 76) ( .alt (.o 79 (.call 144 []) [.t 77, .t 78]) ( .alt (.la 81 3 80) ( .al (.l 83 82) Cb) <| .al (.l 83 82) ( .al (.la 81 3 80) Cb)) <| .alt (.la 81 3 80) Js <| .al (.l 83 82) Jr) <| .alt (.la 81 3 80) ( .alt (.la 77 3 76) Js <| .al (.l 83 82) ( .al (.la 77 3 76) Dt)) <| .al (.l 83 82) ( .alt (.la 77 3 76) Jr <| .al (.la 81 3 80) ( .al (.la 77 3 76) Dt)))
def Hl : ACode := .seq (.reg [.o 2 .box [.t 0], .o 3 .box [.t 1], .o 4 (.alloc bz) [], .o 5 .mv [.kb false]]) <| .seq (.seq (.reg [.la 9 6 2, .o 10 (.call 18 []) [.t 9], .o 11 (.un .not) [.t 10]]) <| .cond (.t 11) ( .seq (.reg [.o 12 (.build bz []) [], .s (.store 6) [.t 4, .t 12], .o 5 .mv [.kb false]]) <| .ret) ( .skip)) <| .seq (.reg [.la 13 6 2, .o 14 (.call 72 []) [.t 13], .o 6 (.alloc bz) [], .s (.store 6) [.t 6, .t 14]]) <| .seq (.reg [.o 15 (.bsl 1) [], .m 7 15]) <| .seq (.reg [.o 8 .mv [.kb false]]) <| .seq (.block 0 ( .seq (.reg [.la 17 3 3, .o 18 (.call 105 []) [.t 17], .o 19 (.un .not) [.t 18], .m 16 19]) <| .cond (.t 16) ( .seq (.reg [.la 20 6 6, .s (.store 6) [.t 4, .t 20], .o 5 .mv [.kb false]]) <| .ret) ( .seq (.reg [.f 22 0 3, .l 23 22, .o 24 (.bin .eql 0) [.t 23, .k 0], .m 21 24]) <| .cond (.t 21) ( .reg [.f 26 0 2, .la 27 3 26, .f 28 4 2, .l 29 28, .f 30 1 3, .l 31 30, .f 32 2 3, .l 33 32, .o 34 (.call 140 []) [.t 27, .t 29, .t 31, .t 33], .m 25 34, .e 35 0 25, .e 36 1 25, .m 7 35, .m 8 36]) ( .seq (.reg [.f 38 0 3, .l 39 38, .o 40 (.bin .eql 0) [.t 39, .k 1], .m 37 40]) <| .cond (.t 37) ( .reg [.f 42 0 2, .la 43 3 42, .f 44 4 2, .l 45 44, .f 46 1 3, .l 47 46, .o 48 (.call 141 []) [.t 43, .t 45, .t 47], .m 41 48, .e 49 0 41, .e 50 1 41, .m 7 49, .m 8 50]) ( .seq (.reg [.f 52 0 3, .l 53 52, .o 54 (.bin .eql 0) [.t 53, .k 2], .m 51 54]) <| .cond (.t 51) ( .reg [.f 56 0 2, .la 57 3 56, .f 58 4 2, .l 59 58, .f 60 1 3, .l 61 60, .o 62 (.call 142 []) [.t 57, .t 59, .t 61], .m 55 62, .e 63 0 55, .e 64 1 55, .m 7 63, .m 8 64]) ( .seq (.reg [.f 66 0 3, .l 67 66, .o 68 (.bin .eql 0) [.t 67, .k 3], .m 65 68]) <| .cond (.t 65) ( .seq (.reg [.f 69 0 2, .la 70 3 69, .f 71 3 2, .l 72 71, .f 73 4 2, .l 74 73, .o 75 (.call 143 []) [.t 70, .t 72, .t 74], .m 7 75]) <| NB) ( .seq (.reg [.f 87 5 6, .l 88 87, .n 89 88, .o 90 (.bin .gtr 0) [.t 89, .k 0], .m 86 90]) <| .cond (.t 86) ( .seq (.own [(.op, .f 91 5 6), (.op, .l 92 91), (.op, .f 93 5 6), (.op, .l 94 93), (.op, .n 95 94), (.op, .o 96 (.bin .sub 0) [.t 95, .k 1]), (.op, .o 97 (.iadr 1) [.t 92, .t 96]), (.take, .l 98 97), (.op, .f 99 4 6), (.op, .s (.store 1) [.t 99, .t 98])]) <| .seq (.reg [.f 100 5 6, .l 101 100, .f 102 5 6, .l 103 102, .n 104 103, .o 105 (.bin .sub 0) [.t 104, .k 1], .o 106 (.slice 1 false false true false) [.t 101, .t 105], .f 107 5 6, .s (.store 1) [.t 107, .t 106]]) <| .seq (.reg [.la 108 6 6, .s (.store 6) [.t 4, .t 108], .o 5 .mv [.kb true]]) <| .ret) ( .skip)))))))) <| C3
theorem Yd (ls : List Int) (ps : List (List Int)) (h : ps.length ≤ 20) : Fi ls ps = if 20 < ps.length + 1 then (ps ++ [ls]).drop 1 else ps ++ [ls] := by
 unfold Fi
 split
 ·rw [show ps.length + 1 - 20 = 1 by omega]
 ·rw [show ps.length + 1 - 20 = 0 by omega]; rfl
abbrev bdF (post : AV → List AV → Prop) := nW [RV.c 4 true 6, RV.t 5] 139 2 [false, false] post
abbrev bdH (W T : Int) (cs : List Bool) (ds ls : List Int) (ps : List (List Int)) (kind spot way : Int) (n : List Int) : AH :=
 [some (.box [.v (.int .i64 W), .v (.int .i64 T), .sl 1 1 (AC cs), .sl 1 1 (AB ds), .sl 1 1 (AB ls), .sl 1 1 (sls 1 ps)]),
  some (.box [.v (.int .i64 kind), .v (.int .i64 spot), .v (.int .i64 way)]),
  some (.box [.v (.int .i64 0), .v (.int .i64 0), .os 1 [], .os 1 [], .os 1 [], .os 1 []]),
  some (.arr 1 (AC cs)), some (.arr 1 (AB ds)), some (.arr 1 (AB ls)), some (.arr 1 (oss ps)),
  some (.box [.v (.int .i64 W), .v (.int .i64 T), .ls 1 3 0 cs.length, .ls 1 4 0 ds.length, .ls 1 5 0 ls.length, .ls 1 6 0 ps.length]),
  some (.arr 1 []), some (.arr 1 (AB n))]
theorem od (W T : Int) (cs : List Bool) (ds ls : List Int) (ps : List (List Int)) (kind spot way : Int) (n : List Int) (b : Bool)
  (hc : cs.length ≤ 40) (hd : ds.length ≤ 40) (hl : ls.length ≤ 40) (hps : ps.length ≤ 20) (hn : n.length ≤ 40) (post : AV → List AV → Prop)
  (p0 : (b && Af W T cs ds n) = false → post (.tup [bkO W T cs ds ls ps, .v (.bool false)]) [.bot, .bot])
  (p1 : (b && Af W T cs ds n) = true → post (.tup [bkO W T cs ds n (Fi ls ps), .v (.bool true)]) [.bot, .bot]) (E : ES)
  (e2 : get E 2 = .lp 0 0 0 0) (e4 : get E 4 = .lp 0 2 0 0) (e6 : get E 6 = .lp 0 7 0 0) (e7 : get E 7 = .ls 1 9 0 n.length) (e8 : get E 8 = .v (.bool b)) :
  awp Tryz.prog md5 C3 (bdF post) E (bdH W T cs ds ls ps kind spot way n) := by
 have fair := BW W T cs ds n (by omega) (by omega) (by omega)
 have htn : (AB n).take n.length = AB n := AD n
 cases b with
 | false =>
   simp [C3, e2, e4, e6, e7, e8]
   exact ⟨_, _, p0 rfl, by simp [e4]⟩
 | true =>
   simp [C3, e2, e4, e6, e7, e8]
   refine AA fair ?_
   cases hf : Af W T cs ds n with
   | false =>
     simp [e2, e4, e6, e7, e8]
     exact ⟨_, _, p0 (by simp [hf]), by simp [e4]⟩
   | true =>
     have p1 := p1 (by simp [hf])
     have key : oss ps ++ [.os 1 (AB ls)] = oss (ps ++ [ls]) := by rw [Kd, RZ]
     by_cases h20 : 20 < ps.length + 1
     ·have h20' : (20 : Int) < ps.length + 1 := by omega
      have e : Fi ls ps = (ps ++ [ls]).drop 1 := by rw [Yd _ _ hps, if_pos h20]
      rw [e] at p1
      have hw : ((oss (ps ++ [ls])).drop 1).take ps.length = oss ((ps ++ [ls]).drop 1) := by
       have e2 : (oss (ps ++ [ls])).drop 1 = oss ((ps ++ [ls]).drop 1) := by simp [oss]
       rw [e2]
       exact List.take_of_length_le (by simp [oss])
      simp [e2, e4, e6, e7, e8, key, h20']
      have h1p : 1 + ps.length ≤ ps.length + 1 := by omega
      rw [List.drop_one, List.drop_one] at hw
      exact ⟨by omega, _, _, p1, by simp [e4, hw, htn, h1p]⟩
     ·have h20' : ¬ (20 : Int) < ps.length + 1 := by omega
      have e : Fi ls ps = ps ++ [ls] := by rw [Yd _ _ hps, if_neg h20]
      rw [e] at p1
      have hw : (oss (ps ++ [ls])).take (ps.length + 1) = oss (ps ++ [ls]) := List.take_of_length_le (by simp [oss])
      simp [e2, e4, e6, e7, e8, key, h20']
      exact ⟨by omega, _, _, p1, by simp [e4, hw, htn]⟩
theorem Vb (k : cFn Tryz.prog Hj 139 [.c 4 true 6, .t 5] Hl) (W T : Int) (cs : List Bool) (ds ls : List Int) (ps : List (List Int)) (kind spot way : Int)
  (hc : cs.length ≤ 40) (hd : ds.length ≤ 40) (hl : ls.length ≤ 40) (hps : ps.length ≤ 20) (hp : ∀ p ∈ ps, p.length ≤ 40)
  (ok named : Bool) (n : List Int) (b : Bool) (m0 m1 : Int)
  (hv : SoundAt Tryz.prog 18 [bkA W T cs ds ls ps] (.v (.bool ok)) [.bot])
  (hcopy : ok = true → SoundAt Tryz.prog 72 [bkA W T cs ds ls ps] (bkO W T cs ds ls ps) [.bot])
  (hnamed : SoundAt Tryz.prog 105 [Nv kind spot way] (.v (.bool named)) [.bot])
  (h0 : ok = true → kind = 0 → SoundAt Tryz.prog 140 [.agg [.v (.int .i64 W), .v (.int .i64 T), .sl 1 1 (AC cs)], .sl 1 1 (AB ls), .v (.int .i64 spot), .v (.int .i64 way)] (.tup [.os 1 (AB n), .v (.bool b)]) [.bot, .bot, .bot, .bot])
  (h1 : ok = true → kind = 1 → SoundAt Tryz.prog Gp [.agg [.v (.int .i64 W), .v (.int .i64 T), .sl 1 1 (AC cs)], .sl 1 1 (AB ls), .v (.int .i64 spot)] (.tup [.os 1 (AB n), .v (.bool b)]) [.bot, .bot, .bot])
  (h2 : ok = true → kind = 2 → SoundAt Tryz.prog 142 [.agg [.v (.int .i64 W), .v (.int .i64 T), .sl 1 1 (AC cs)], .sl 1 1 (AB ls), .v (.int .i64 spot)] (.tup [.os 1 (AB n), .v (.bool b)]) [.bot, .bot, .bot])
  (h3 : ok = true → kind = 3 → SoundAt Tryz.prog 143 [.agg [.v (.int .i64 W), .v (.int .i64 T), .sl 1 1 (AC cs)], .sl 1 1 (AB ds), .sl 1 1 (AB ls)] (.os 1 (AB n)) [.bot, .bot, .bot])
  (h4 : SoundAt Tryz.prog 144 [.agg [.v (.int .i64 W), .v (.int .i64 T), .sl 1 1 (AC cs)], .sl 1 1 (AB n)] (.v (.int .i64 m0)) [.bot, .bot])
  (h5 : SoundAt Tryz.prog 144 [.agg [.v (.int .i64 W), .v (.int .i64 T), .sl 1 1 (AC cs)], .sl 1 1 (AB ls)] (.v (.int .i64 m1)) [.bot, .bot])
  (hb3 : ok = true → kind = 3 → b = decide (m1 < m0)) (hn : n.length ≤ 40) (post : AV → List AV → Prop)
  (pz : ok = false → post (.tup [bkO 0 0 [] [] [] [], .v (.bool false)]) [.bot, .bot])
  (pn : ok = true → named = false → post (.tup [bkO W T cs ds ls ps, .v (.bool false)]) [.bot, .bot])
  (pe : ok = true → named = true → (kind ≠ 0 ∧ kind ≠ 1 ∧ kind ≠ 2 ∧ kind ≠ 3) → ps = [] → post (.tup [bkO W T cs ds ls ps, .v (.bool false)]) [.bot, .bot])
  (pb : ok = true → named = true → (kind ≠ 0 ∧ kind ≠ 1 ∧ kind ≠ 2 ∧ kind ≠ 3) → ∀ q qs, ps = qs ++ [q] → post (.tup [bkO W T cs ds q qs, .v (.bool true)]) [.bot, .bot])
  (p0 : ok = true → named = true → (kind = 0 ∨ kind = 1 ∨ kind = 2 ∨ kind = 3) → (b && Af W T cs ds n) = false → post (.tup [bkO W T cs ds ls ps, .v (.bool false)]) [.bot, .bot])
  (p1 : ok = true → named = true → (kind = 0 ∨ kind = 1 ∨ kind = 2 ∨ kind = 3) → (b && Af W T cs ds n) = true → post (.tup [bkO W T cs ds n (Fi ls ps), .v (.bool true)]) [.bot, .bot]) :
  SoundSet Tryz.prog Hj [bkA W T cs ds ls ps, Nv kind spot way] post := by
 refine lF (md := md5) (ms := [false, false]) k (by simp) ?_
 simp [Hl]
 refine AA hv ?_
 cases ok with
 | false =>
   simp
   exact ⟨_, _, pz rfl, by simp⟩
 | true =>
 have hcopy := hcopy rfl
 simp
 refine AA hcopy ?_
 simp
 refine AA hnamed ?_
 cases named with
 | false =>
   simp
   exact ⟨_, _, pn rfl rfl, by simp⟩
 | true =>
 have fall : (kind = 0 ∨ kind = 1 ∨ kind = 2 ∨ kind = 3) → ∀ E, get E 2 = .lp 0 0 0 0 → get E 4 = .lp 0 2 0 0 → get E 6 = .lp 0 7 0 0 → get E 7 = .ls 1 9 0 n.length → get E 8 = .v (.bool b) →
   awp Tryz.prog md5 C3 (bdF post) E (bdH W T cs ds ls ps kind spot way n) := by
  intro hm E e2 e4 e6 e7 e8
  exact od W T cs ds ls ps kind spot way n b hc hd hl hps hn post (p0 rfl rfl hm) (p1 rfl rfl hm) E e2 e4 e6 e7 e8
 simp
 refine ⟨fun hk => ?_, fun hk0 => ⟨fun hk => ?_, fun hk1 => ⟨fun hk => ?_, fun hk2 => ⟨fun hk => ?_, fun hk3 => ?_⟩⟩⟩⟩
 ·refine AA (h0 rfl hk) ?_
  simp
  exact fall (.inl hk) _ rfl rfl rfl rfl rfl
 ·refine AA (h1 rfl hk) ?_
  simp
  exact fall (.inr (.inl hk)) _ rfl rfl rfl rfl rfl
 ·refine AA (h2 rfl hk) ?_
  simp
  exact fall (.inr (.inr (.inl hk))) _ rfl rfl rfl rfl rfl
 ·refine AA (h3 rfl hk) ?_
  simp [NB]
  (repeat' first | omega | apply And.intro) <;>
  ·refine AA h4 ?_
   simp
   (repeat' first | omega | apply And.intro) <;>
   ·refine AA h5 ?_
    simp
    exact fall (.inr (.inr (.inr hk))) _ rfl rfl rfl rfl (by rw [hb3 rfl hk]; rfl)
 ·rcases List.eq_nil_or_concat ps with rfl | ⟨qs, q, hqq⟩
  ·refine ⟨fun h => by simp at h, fun _ => ?_⟩
   simp [C3]
   exact ⟨_, _, pe rfl rfl ⟨hk0, hk1, hk2, hk3⟩ rfl, by simp⟩
  ·rw [List.concat_eq_append] at hqq
   subst hqq
   refine ⟨fun _ => ?_, fun h => by simp at h⟩
   have el : (qs ++ [q]).length = qs.length + 1 := by simp
   have he : (oss (qs ++ [q]))[qs.length]? = some (.os 1 (AB q)) := by simp [oss]
   have hi1 : qs.length + 1 - 1 = qs.length := by omega
   rw [el]
   refine ⟨by omega, by omega, ?_⟩
   refine TZ rfl rfl (by rw [hi1]; exact he) ?_
   intro u
   have hw4 : ((oss (qs ++ [q])).set qs.length (.v u)).take qs.length = oss qs := by
    rw [List.take_set_of_le (Nat.le_refl _)]
    simp [oss]
   have htq : (AB q).take q.length = AB q := AD q
   simp [Oz]
   exact ⟨by omega, _, _, pb rfl rfl ⟨hk0, hk1, hk2, hk3⟩ q qs rfl, by simp [hw4, htq]⟩
set_option maxHeartbeats 4000000 in
theorem Og (k : cFn Tryz.prog Gq 35 [.c 2 true 6] KH) (W T : Int) (cs : List Bool) (ds ls n0 : List Int) (ps : List (List Int))
  (hc : cs.length ≤ 40) (hd : ds.length ≤ 40) (hl : ls.length ≤ 40) (hps : ps.length ≤ 100) (hp : ∀ p ∈ ps, p.length ≤ 40) (h0 : n0.length ≤ 40)
  (hnew : SoundAt Tryz.prog 119 [.agg [.v (.int .i64 W), .v (.int .i64 T), .sl 1 1 (AC cs)], .sl 1 1 (AB ds)] (bkO W T cs ds n0 []) [.bot, .bot]) :
  SoundAt Tryz.prog Gq [bkA W T cs ds ls ps] (bkO W T cs ds ls ps) [.bot] := by
 refine AE (md := md5) (ms := [false]) k (by simp) ?_
 simp [KH]
 refine AA hnew ?_
 simp
 refine ⟨by omega, ?_⟩
 refine AF (fun m E H => ∃ i : Nat, m = ps.length - i ∧ i ≤ ps.length ∧ E = [(1, .lp 0 0 0 0), (2, .lp 0 1 0 0), (3, .lp 0 2 0 0), (4, .v (.int .i64 i))] ∧
  H = [some (.box [.v (.int .i64 W), .v (.int .i64 T), .sl 1 1 (AC cs), .sl 1 1 (AB ds), .sl 1 1 (AB ls), .sl 1 1 (sls 1 ps)]),
    some (.box [.v (.int .i64 0), .v (.int .i64 0), .os 1 [], .os 1 [], .os 1 [], .os 1 []]),
    some (.box [.v (.int .i64 W), .v (.int .i64 T), .ls 1 3 0 cs.length, .ls 1 4 0 ds.length, .ls 1 5 0 ls.length, .ls 1 6 0 i]),
    some (.arr 1 (AC cs)), some (.arr 1 (AB ds)), some (.arr 1 (AB ls)), some (.arr 1 (oss (ps.take i)))]) ps.length ⟨0, by simp⟩ ?_
 rintro J hJ m E H ⟨i, rfl, hi, rfl, rfl⟩
 by_cases h : i < ps.length
 ·have et : pti ps i = ps[i] := ED h
  have hpl : (pti ps i).length ≤ 40 := by rw [et]; exact hp _ (List.getElem_mem h)
  have hti : (ps.take i).length = i := by simp; omega
  have key : oss (ps.take i) ++ [.os 1 (AB (pti ps i))] = oss (ps.take (i + 1)) := by
   rw [List.take_succ_eq_append_getElem h, Kd, RZ, et]
  have hm : min i ps.length = i := by omega
  simp [Gg, h, hm, key]
  exact ⟨by omega, by omega, by omega, _, by omega, hJ _ _ _ ⟨i + 1, rfl, h, by simp, by simp⟩⟩
 ·have : i = ps.length := by omega
  subst this
  have htk : (oss ps).take ps.length = oss ps := List.take_of_length_le (by simp [oss])
  simp [Gg, htk]
@[simp] abbrev Gh : Nat := 62
def Gi : ACode := .seq (.reg [.o 1 .box [.t 0], .o 2 .mv [.kb false]]) <| .seq (.seq (.reg [.f 3 0 1, .l 4 3]) <| .block 0 ( .seq (.reg [.o 6 (.bin .eql 0) [.t 4, .k 0], .m 5 6]) <| .cond (.t 5) ( .seq (.reg [.o 2 .mv [.kb true]]) <| .ret) ( .seq (.seq (.reg [.o 8 (.bin .eql 0) [.t 4, .k 1], .m 7 8]) <| .cond (.t 7) ( .skip) ( .reg [.o 9 (.bin .eql 0) [.t 4, .k 2], .m 7 9])) <| .cond (.t 7) ( .seq (.reg [.f 10 2 1, .l 11 10, .o 12 (.bin .eql 0) [.t 11, .k 0], .m 2 12]) <| .ret) ( .seq (.seq (.reg [.o 14 (.bin .eql 0) [.t 4, .k 3], .m 13 14]) <| .cond (.t 13) ( .skip) ( .reg [.o 15 (.bin .eql 0) [.t 4, .k 4], .m 13 15])) <| .cond (.t 13) ( .seq (.reg [.f 16 1 1, .l 17 16, .o 18 (.bin .eql 0) [.t 17, .k 0], .m 19 18, .fg 20 2 1 19 true, .lg 21 20 19 true, .g 22 (.bin .eql 0) [.t 21, .k 0] 19 true, .o 23 .pick [.t 19, .t 22, .kb false], .m 2 23]) <| .ret) ( .skip))))) <| .seq (.reg [.o 2 .mv [.kb false]]) <| .ret
theorem Ku : cFn Tryz.prog Gh 24 [.t 2] Gi := ⟨Tryz.f62, _, Tryz.func62, rfl, by kernel_rfl, by kernel_rfl, by kernel_rfl, by kernel_rfl⟩
@[simp] abbrev Ek : Nat := 238
def Aq : ACode := .seq (.seq (.reg [.m 19 1, .o 20 (.bin .lss 0) [.t 19, .k 0], .m 21 20, .mg 22 6 21 false, .fg 23 0 2 21 false, .lg 24 23 21 false, .g 25 (.bin .sub 0) [.t 24, .k 1] 21 false, .g 26 (.call 63 []) [.t 22, .k 1, .t 25] 21 false, .g 27 (.un .not) [.t 26] 21 false, .o 28 .pick [.t 21, .kb true, .t 27], .m 29 28, .mg 30 7 29 false, .fg 31 1 2 29 false, .lg 32 31 29 false, .g 33 (.bin .sub 0) [.t 32, .k 1] 29 false, .g 34 (.call 63 []) [.t 30, .k 1, .t 33] 29 false, .g 35 (.un .not) [.t 34] 29 false, .o 36 .pick [.t 29, .kb true, .t 35]]) <| .cond (.t 36) ( .seq (.reg [.o 37 (.build [.v (.int .i64 (0)), .v (.int .i64 (0)), .v (.int .i64 (0)), .v (.int .i64 (0))] []) [], .s (.store 4) [.t 4, .t 37], .o 5 .mv [.kb false]]) <| .ret) ( .skip)) <| .seq (.reg [.m 38 7, .o 39 (.bin .sub 0) [.t 38, .k 1], .f 40 0 2, .l 41 40, .o 42 (.bin .mul 0) [.t 39, .t 41], .m 43 6, .o 44 (.bin .add 0) [.t 42, .t 43], .o 45 (.bin .sub 0) [.t 44, .k 1], .m 8 45]) <| .seq (.reg [.m 46 8, .m 47 8, .o 48 (.bin .add 0) [.t 47, .k 1], .m 49 8, .f 50 0 2, .l 51 50, .o 52 (.bin .add 0) [.t 49, .t 51], .m 53 8, .f 54 0 2, .l 55 54, .o 56 (.bin .add 0) [.t 53, .t 55], .o 57 (.bin .add 0) [.t 56, .k 1], .o 58 (.build [.v (.int .i64 (0)), .v (.int .i64 (0)), .v (.int .i64 (0)), .v (.int .i64 (0))] [(0, 1), (1, 1), (2, 1), (3, 1)]) [.t 46, .t 48, .t 52, .t 57], .s (.store 4) [.t 4, .t 58], .o 5 .mv [.kb true]]) <| .ret
def Cs : ACode := .seq (.reg [.o 2 .box [.t 0], .o 4 (.alloc [.v (.int .i64 (0)), .v (.int .i64 (0)), .v (.int .i64 (0)), .v (.int .i64 (0))]) [], .o 5 .mv [.kb false]]) <| .seq (.draw ( .take (.m 9 1) <| .take (.f 10 0 2) <| .take (.m 14 1) <| .take (.f 15 0 2) <| .alt (.l 11 10) ( .take (.o 12 (.bin .add 0) [.t 11, .k 1]) <| .take (.o 13 (.bin .rem 0) [.t 9, .t 12]) <| .take (.m 6 13) <| .al (.l 16 15) ( .take (.o 17 (.bin .add 0) [.t 16, .k 1]) <| .take (.o 18 (.bin .quo 0) [.t 14, .t 17]) <| .take (.m 7 18) <| .done)) <| .al (.l 16 15) ( .take (.o 17 (.bin .add 0) [.t 16, .k 1]) <| .take (.o 18 (.bin .quo 0) [.t 14, .t 17]) <| .al (.l 11 10) ( .take (.o 12 (.bin .add 0) [.t 11, .k 1]) <| .take (.o 13 (.bin .rem 0) [.t 9, .t 12]) <| .take (.m 6 13) <| .take (.m 7 18) <| .done)))) <| .gc [] [1, 2, 4, 6, 7] Aq
theorem Nz : cFn Tryz.prog Ek 59 [.c 4 true 4, .t 5] Cs := ⟨Tryz.f238, _, Tryz.func238, rfl, by kernel_rfl, by kernel_rfl, by kernel_rfl, by kernel_rfl⟩
@[simp] abbrev GH : Nat := 194
def BZ : ACode := .seq (.reg [.o 14 (.bin .lss 0) [.t 13, .t 12]]) <| .seq (.cond (.t 14) ( .skip) ( .exit 0)) <| .seq (.block 1 ( .seq (.reg [.m 15 13, .m 5 15]) <| .seq (.draw ( .take (.m 16 0) <| .take (.m 17 5) <| .take (.o 18 (.iadr 1) [.t 16, .t 17]) <| .take (.m 20 1) <| .take (.m 21 5) <| .take (.o 22 (.iadr 1) [.t 20, .t 21]) <| .alt (.l 19 18) ( .al (.l 23 22) ( .take (.o 24 (.bin .neq 0) [.t 19, .t 23]) <| .done)) <| .al (.l 23 22) ( .al (.l 19 18) ( .take (.o 24 (.bin .neq 0) [.t 19, .t 23]) <| .done)))) <| .cond (.t 24) ( .seq (.reg [.o 4 .mv [.kb false]]) <| .ret) ( .skip))) <| .reg [.o 25 (.bin .add 0) [.t 13, .k 1], .m 13 25]
def GI : ACode := .seq (.reg [.o 4 .mv [.kb false]]) <| .seq (.seq (.reg [.m 6 0, .n 7 6, .m 8 1, .n 9 8, .o 10 (.bin .neq 0) [.t 7, .t 9]]) <| .cond (.t 10) ( .seq (.reg [.o 4 .mv [.kb false]]) <| .ret) ( .skip)) <| .seq (.seq (.reg [.m 11 0, .n 12 11, .o 13 .mv [.k 0]]) <| .block 0 ( .loop [(0, 1), (1, 1)] [0, 1, 12, 13] BZ)) <| .seq (.reg [.o 4 .mv [.kb true]]) <| .ret
theorem MI : cFn Tryz.prog GH 26 [.t 4] GI := ⟨Tryz.f194, _, Tryz.func194, rfl, by kernel_rfl, by kernel_rfl, by kernel_rfl, by kernel_rfl⟩
theorem NC : cFn Tryz.prog Iq 24 [.t 2] Ir := ⟨Tryz.f105, _, Tryz.func105, rfl, by kernel_rfl, by kernel_rfl, by kernel_rfl, by kernel_rfl⟩
theorem Zc : cFn Tryz.prog UW 31 [.t 6] LN := ⟨Tryz.f243, _, Tryz.func243, rfl, by kernel_rfl, by kernel_rfl, by kernel_rfl, by kernel_rfl⟩
theorem Rh : cFn Tryz.prog Ks 13 [.t 2] Kt := ⟨Tryz.f225, _, Tryz.func225, rfl, by kernel_rfl, by kernel_rfl, by kernel_rfl, by kernel_rfl⟩
theorem UX : cFn Tryz.prog M9 72 [.t 4, .t 5, .t 6, .t 7, .t 8] NA := ⟨Tryz.f200, _, Tryz.func200, rfl, by kernel_rfl, by kernel_rfl, by kernel_rfl, by kernel_rfl⟩
theorem Vc : cFn Tryz.prog Ob 62 [.t 6] Oc := ⟨Tryz.f199, _, Tryz.func199, rfl, by kernel_rfl, by kernel_rfl, by kernel_rfl, by kernel_rfl⟩
theorem Vd : cFn Tryz.prog Od 67 [.t 6, .t 7] Oe := ⟨Tryz.f142, _, Tryz.func142, rfl, by kernel_rfl, by kernel_rfl, by kernel_rfl, by kernel_rfl⟩
theorem Oh : cFn Tryz.prog Gq 35 [.c 2 true 6] KH := ⟨Tryz.f72, _, Tryz.func72, rfl, by kernel_rfl, by kernel_rfl, by kernel_rfl, by kernel_rfl⟩
theorem Qr : cFn Tryz.prog Hj 139 [.c 4 true 6, .t 5] Hl := ⟨Tryz.f73, _, Tryz.func73, rfl, by kernel_rfl, by kernel_rfl, by kernel_rfl, by kernel_rfl⟩
theorem PF : cFn Tryz.prog E8 8 [.t 2] IX := ⟨Tryz.f189, _, Tryz.func189, rfl, by kernel_rfl, by kernel_rfl, by kernel_rfl, by kernel_rfl⟩
theorem Ri : cFn Tryz.prog Kf 6 [.t 2] Kg := ⟨Tryz.f135, _, Tryz.func135, rfl, by kernel_rfl, by kernel_rfl, by kernel_rfl, by kernel_rfl⟩
theorem Qs : cFn Tryz.prog Fh 72 [.t 4, .t 5] BH := ⟨Tryz.f136, _, Tryz.func136, rfl, by kernel_rfl, by kernel_rfl, by kernel_rfl, by kernel_rfl⟩
theorem Ve : cFn Tryz.prog B5 90 [.t 4] BF := ⟨Tryz.f65, _, Tryz.func65, rfl, by kernel_rfl, by kernel_rfl, by kernel_rfl, by kernel_rfl⟩
@[simp] abbrev Fo : Nat := 237
abbrev Du : Plan := .take (.g 30 (.bin .eql 0) [.t 29, .k 1] 24 true) <| .take (.o 31 .pick [.t 24, .t 30, .kb false]) <| .take (.m 6 31) <| .take (.m 7 45) <| .done
abbrev Dv : Plan := .take (.g 30 (.bin .eql 0) [.t 29, .k 1] 24 true) <| .take (.o 31 .pick [.t 24, .t 30, .kb false]) <| .take (.m 6 31) <| .al (.lg 43 42 38 true) ( .take (.g 44 (.bin .eql 0) [.t 43, .k 2] 38 true) <| .take (.o 45 .pick [.t 38, .t 44, .kb false]) <| .take (.m 7 45) <| .done)
abbrev Dw : Plan := .take (.g 44 (.bin .eql 0) [.t 43, .k 2] 38 true) <| .take (.o 45 .pick [.t 38, .t 44, .kb false]) <| .al (.lg 29 28 24 true) Du
def Ey : BCode := .seq (.base (.reg [.o 3 .box [.t 0], .o 6 .mv [.kb false], .o 7 .mv [.kb false]])) <| .seq (.base (.reg [.la 11 3 3, .m 12 2, .o 13 (.call 238 []) [.t 11, .t 12], .m 10 13, .e 14 0 10, .e 15 1 10, .o 8 (.alloc [.v (.int .i64 (0)), .v (.int .i64 (0)), .v (.int .i64 (0)), .v (.int .i64 (0))]) [], .s (.store 4) [.t 8, .t 14], .m 9 15])) <| .seq (.base (.seq (.reg [.m 16 9, .o 17 (.un .not) [.t 16]]) <| .cond (.t 17) ( .seq (.reg [.o 6 .mv [.kb false], .o 7 .mv [.kb false]]) <| .ret) ( .skip))) <| .frz 8 <| .seq (.early [.m 18 1, .f 19 0 8, .l 20 19, .o 21 (.iadr 1) [.t 18, .t 20], .l 22 21, .o 23 (.bin .eql 0) [.t 22, .k 1], .m 24 23, .mg 25 1 24 true, .fg 26 2 8 24 true, .m 32 1, .f 33 0 8, .l 34 33, .o 35 (.iadr 1) [.t 32, .t 34], .l 36 35, .o 37 (.bin .eql 0) [.t 36, .k 2], .m 38 37, .mg 39 1 38 true, .fg 40 1 8 38 true] ( .alt (.lg 27 26 24 true) ( .take (.g 28 (.iadr 1) [.t 25, .t 27] 24 true) <| .alt (.lg 29 28 24 true) ( .take (.g 30 (.bin .eql 0) [.t 29, .k 1] 24 true) <| .take (.o 31 .pick [.t 24, .t 30, .kb false]) <| .take (.m 6 31) <| .al (.lg 41 40 38 true) ( .take (.g 42 (.iadr 1) [.t 39, .t 41] 38 true) <| .al (.lg 43 42 38 true) ( .take (.g 44 (.bin .eql 0) [.t 43, .k 2] 38 true) <| .take (.o 45 .pick [.t 38, .t 44, .kb false]) <| .take (.m 7 45) <| .done))) <| .al (.lg 41 40 38 true) ( .take (.g 42 (.iadr 1) [.t 39, .t 41] 38 true) <| .alt (.lg 29 28 24 true) Dv <| .al (.lg 43 42 38 true) Dw)) <| .al (.lg 41 40 38 true) ( .take (.g 42 (.iadr 1) [.t 39, .t 41] 38 true) <| .alt (.lg 27 26 24 true) ( .take (.g 28 (.iadr 1) [.t 25, .t 27] 24 true) <| .alt (.lg 29 28 24 true) Dv <| .al (.lg 43 42 38 true) Dw) <| .al (.lg 43 42 38 true) ( .take (.g 44 (.bin .eql 0) [.t 43, .k 2] 38 true) <| .take (.o 45 .pick [.t 38, .t 44, .kb false]) <| .al (.lg 27 26 24 true) ( .take (.g 28 (.iadr 1) [.t 25, .t 27] 24 true) <| .al (.lg 29 28 24 true) Du))))) <| .base (.ret)
theorem LO : jN Tryz.prog Fo 46 [.t 6, .t 7] Ey := ⟨Tryz.f237, _, Tryz.func237, rfl, by kernel_rfl, by kernel_rfl, by kernel_rfl, by kernel_rfl⟩
@[simp] abbrev Jt : Nat := 192
def HV : BCode := .seq (.base (.reg [.o 3 .box [.t 0], .o 6 .mv [.c (.os 1 [])], .o 7 .mv [.kb false]])) <| .seq (.base (.reg [.m 13 1, .o 14 (.call 126 []) [.t 13], .m 8 14])) <| .seq (.base (.reg [.la 16 3 3, .m 17 1, .m 18 2, .o 19 (.call 237 []) [.t 16, .t 17, .t 18], .m 15 19, .e 20 0 15, .e 21 1 15, .m 9 20, .m 10 21])) <| .seq (.base (.reg [.la 23 3 3, .m 24 2, .o 25 (.call 238 []) [.t 23, .t 24], .m 22 25, .e 26 0 22, .e 27 1 22, .o 11 (.alloc [.v (.int .i64 (0)), .v (.int .i64 (0)), .v (.int .i64 (0)), .v (.int .i64 (0))]) [], .s (.store 4) [.t 11, .t 26], .m 12 27])) <| .frz 11 <| .seq (.block 0 ( .seq (.base (.reg [.m 29 9, .m 28 29])) <| .cond (.t 28) ( .early [.m 30 8, .f 31 0 11, .l 32 31, .m 33 8, .f 34 1 11, .l 35 34, .m 36 8, .f 37 2 11, .l 38 37, .m 39 8, .f 40 3 11, .l 41 40, .o 42 (.iadr 1) [.t 30, .t 32]] ( .al (.s (.store 1) [.t 42, .k 2]) ( .take (.o 43 (.iadr 1) [.t 33, .t 35]) <| .al (.s (.store 1) [.t 43, .k 2]) ( .take (.o 44 (.iadr 1) [.t 36, .t 38]) <| .al (.s (.store 1) [.t 44, .k 4]) ( .take (.o 45 (.iadr 1) [.t 39, .t 41]) <| .al (.s (.store 1) [.t 45, .k 4]) ( .done)))))) ( .seq (.base (.reg [.m 47 10, .m 46 47])) <| .cond (.t 46) ( .early [.m 48 8, .f 49 0 11, .l 50 49, .m 51 8, .f 52 1 11, .l 53 52, .m 54 8, .f 55 2 11, .l 56 55, .m 57 8, .f 58 3 11, .l 59 58, .o 60 (.iadr 1) [.t 48, .t 50]] ( .al (.s (.store 1) [.t 60, .k 1]) ( .take (.o 61 (.iadr 1) [.t 51, .t 53]) <| .al (.s (.store 1) [.t 61, .k 3]) ( .take (.o 62 (.iadr 1) [.t 54, .t 56]) <| .al (.s (.store 1) [.t 62, .k 1]) ( .take (.o 63 (.iadr 1) [.t 57, .t 59]) <| .al (.s (.store 1) [.t 63, .k 3]) ( .done)))))) ( .base (.skip))))) <| .base (.seq (.reg [.m 64 8, .m 65 9, .m 66 65, .mg 67 10 66 false, .o 68 .pick [.t 66, .kb true, .t 67], .m 6 64, .m 7 68]) <| .ret)
theorem Qt : jN Tryz.prog Jt 69 [.t 6, .t 7] HV := ⟨Tryz.f192, _, Tryz.func192, rfl, by kernel_rfl, by kernel_rfl, by kernel_rfl, by kernel_rfl⟩
end Go.Proofs.Dev
