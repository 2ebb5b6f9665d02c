/- Contracts of the functions of the program over slots and rows, each proved against the program itself; no condition beyond those that each theorem names. -/
import Derived.Test.YtfkmfobbgoflgaaGreatDoorAN
import Derived.Test.YtfkmfobbgoflgaaGreatDoorAI
import Derived.Test.YtfkmfobbgoflgaaGreatDoorProg
import Derived.Test.YtfkmfobbgoflgaaGreatDoorAQ
import Derived.Test.YtfkmfobbgoflgaaGreatDoorAP
set_option linter.unusedSimpArgs false
set_option linter.unusedVariables false
set_option maxRecDepth 100000
namespace Go.Proofs.Dev
@[simp] abbrev UM:Nat:= 12
def UN:ACode:= .seq (.reg [.o 0 .mv [.kb false]]) <| .seq (.reg [.o 1 (.call 50 []) [.k 2,.k 3],.o 2 (.call 49 []) [.t 1],.o 3 (.bin .eql 0) [.t 2,.k 6],.m 0 3]) <| .ret
theorem ah:cFn Tryz.prog UM 4 [.t 0] UN:= ⟨Tryz.f12,_,Tryz.func12,rfl,by kernel_rfl,by kernel_rfl,by kernel_rfl,by kernel_rfl⟩
@[simp] abbrev Ol:Nat:= 67
def EK:ACode:= .seq (.seq (.reg [.m 11 5,.m 12 0,.n 13 12,.o 14 (.bin .lss 0) [.t 11,.t 13]]) <| .cond (.t 14) ( .skip) ( .exit 0)) <| .seq (.block 1 ( .seq (.draw ( .take (.m 17 0) <| .take (.m 18 5) <| .take (.o 19 (.iadr 1) [.t 17,.t 18]) <| .take (.m 21 1) <| .take (.m 22 5) <| .take (.o 23 (.iadr 1) [.t 21,.t 22]) <| .alt (.l 20 19) ( .al (.l 24 23) ( .take (.o 25 (.bin .neq 0) [.t 20,.t 24]) <| .done)) <| .al (.l 24 23) ( .al (.l 20 19) ( .take (.o 25 (.bin .neq 0) [.t 20,.t 24]) <| .done)))) <| .cond (.t 25) ( .seq (.reg [.o 4 .mv [.kb false]]) <| .ret) ( .skip))) <| .reg [.m 15 5,.o 16 (.bin .add 0) [.t 15,.k 1],.m 5 16]
def Om:ACode:= .seq (.reg [.o 4 .mv [.kb false]]) <| .seq (.seq (.reg [.m 6 0,.n 7 6,.m 8 1,.n 9 8,.o 10 (.bin .neq 0) [.t 7,.t 9]]) <| .cond (.t 10) ( .seq (.reg [.o 4 .mv [.kb false]]) <| .ret) ( .skip)) <| .seq (.seq (.reg [.o 5 .mv [.k 0]]) <| .block 0 ( .loop [(0,1),(1,1)] [0,1,5] EK)) <| .seq (.reg [.o 4 .mv [.kb true]]) <| .ret
theorem WP:cFn Tryz.prog Ol 26 [.t 4] Om:= ⟨Tryz.f67,_,Tryz.func67,rfl,by kernel_rfl,by kernel_rfl,by kernel_rfl,by kernel_rfl⟩
@[simp] abbrev NO:Nat:= 68
abbrev HE:Plan:= .al (.o 25 (.call 67 []) [.t 20,.t 24]) ( .take (.o 26 (.un .not) [.t 25]) <| .done)
def Fr:ACode:= .seq (.seq (.reg [.m 11 5,.m 12 0,.n 13 12,.o 14 (.bin .lss 0) [.t 11,.t 13]]) <| .cond (.t 14) ( .skip) ( .exit 0)) <| .seq (.block 1 ( .seq (.draw ( .take (.m 17 0) <| .take (.m 18 5) <| .take (.o 19 (.iadr 1) [.t 17,.t 18]) <| .take (.m 21 1) <| .take (.m 22 5) <| .take (.o 23 (.iadr 1) [.t 21,.t 22]) <| .alt (.l 20 19) ( .al (.l 24 23) HE) <| .al (.l 24 23) ( .al (.l 20 19) HE))) <| .cond (.t 26) ( .seq (.reg [.o 4 .mv [.kb false]]) <| .ret) ( .skip))) <| .reg [.m 15 5,.o 16 (.bin .add 0) [.t 15,.k 1],.m 5 16]
def NP:ACode:= .seq (.reg [.o 4 .mv [.kb false]]) <| .seq (.seq (.reg [.m 6 0,.n 7 6,.m 8 1,.n 9 8,.o 10 (.bin .neq 0) [.t 7,.t 9]]) <| .cond (.t 10) ( .seq (.reg [.o 4 .mv [.kb false]]) <| .ret) ( .skip)) <| .seq (.seq (.reg [.o 5 .mv [.k 0]]) <| .block 0 ( .loop [(0,1),(1,1)] [0,1,5] Fr)) <| .seq (.reg [.o 4 .mv [.kb true]]) <| .ret
theorem Un:cFn Tryz.prog NO 27 [.t 4] NP:= ⟨Tryz.f68,_,Tryz.func68,rfl,by kernel_rfl,by kernel_rfl,by kernel_rfl,by kernel_rfl⟩
@[simp] abbrev Py:Nat:= 191
def Pz:ACode:= .seq (.reg [.o 3 .box [.t 0],.o 6 .mv [.c (.os 1 [])],.o 7 .mv [.kb false]]) <| .seq (.block 0 ( .seq (.reg [.la 9 3 3,.m 10 1,.o 11 (.call 179 []) [.t 9,.t 10],.o 12 (.un .not) [.t 11],.m 8 12]) <| .cond (.t 8) ( .seq (.reg [.o 6 .mv [.c (.os 1 [])],.o 7 .mv [.kb false]]) <| .ret) ( .seq (.reg [.la 14 3 3,.m 15 2,.o 16 (.call 229 []) [.t 14,.t 15],.o 17 (.un .not) [.t 16],.m 18 17,.mg 19 1 18 false,.mg 20 2 18 false,.g 21 (.iadr 1) [.t 19,.t 20] 18 false,.lg 22 21 18 false,.g 23 (.bin .eql 0) [.t 22,.k 0] 18 false,.o 24 .pick [.t 18,.kb true,.t 23],.m 13 24]) <| .cond (.t 13) ( .seq (.reg [.m 25 1,.o 26 (.call 126 []) [.t 25],.m 6 26,.o 7 .mv [.kb false]]) <| .ret) ( .skip)))) <| .seq (.reg [.la 27 3 3,.m 28 1,.m 29 2,.o 30 (.call 236 []) [.t 27,.t 28,.t 29],.m 6 30,.o 7 .mv [.kb true]]) <| .ret
theorem XN:cFn Tryz.prog Py 31 [.t 6,.t 7] Pz:= ⟨Tryz.f191,_,Tryz.func191,rfl,by kernel_rfl,by kernel_rfl,by kernel_rfl,by kernel_rfl⟩
@[simp] abbrev SO:Nat:= 190
def SP:ACode:= .seq (.reg [.o 4 .box [.t 0],.o 8 .mv [.c (.os 1 [])],.o 9 .mv [.kb false]]) <| .seq (.block 0 ( .seq (.reg [.la 11 3 4,.m 12 1,.o 13 (.call 179 []) [.t 11,.t 12],.o 14 (.un .not) [.t 13],.m 10 14]) <| .cond (.t 10) ( .seq (.reg [.o 8 .mv [.c (.os 1 [])],.o 9 .mv [.kb false]]) <| .ret) ( .seq (.reg [.la 16 3 4,.m 17 1,.m 18 2,.m 19 3,.o 20 (.call 234 []) [.t 16,.t 17,.t 18,.t 19],.o 21 (.un .not) [.t 20],.m 15 21]) <| .cond (.t 15) ( .seq (.reg [.m 22 1,.o 23 (.call 126 []) [.t 22],.m 8 23,.o 9 .mv [.kb false]]) <| .ret) ( .skip)))) <| .seq (.reg [.la 24 3 4,.m 25 1,.m 26 2,.m 27 3,.o 28 (.call 235 []) [.t 24,.t 25,.t 26,.t 27],.m 8 28,.o 9 .mv [.kb true]]) <| .ret
theorem ZM:cFn Tryz.prog SO 29 [.t 8,.t 9] SP:= ⟨Tryz.f190,_,Tryz.func190,rfl,by kernel_rfl,by kernel_rfl,by kernel_rfl,by kernel_rfl⟩
@[simp] abbrev NQ:Nat:= 49
def NR:ACode:= .seq (.reg [.o 1 .box [.t 0],.o 2 .mv [.k 0]]) <| .seq (.seq (.reg [.la 3 3 1,.o 4 (.call 108 []) [.t 3],.o 5 (.un .not) [.t 4]]) <| .cond (.t 5) ( .seq (.reg [.o 2 .mv [.k (-1)]]) <| .ret) ( .skip)) <| .seq (.reg [.f 6 2 1,.l 7 6,.o 8 (.call 109 []) [.t 7],.m 2 8]) <| .ret
theorem Uo:cFn Tryz.prog NQ 9 [.t 2] NR:= ⟨Tryz.f49,_,Tryz.func49,rfl,by kernel_rfl,by kernel_rfl,by kernel_rfl,by kernel_rfl⟩
@[simp] abbrev NS:Nat:= 50
def Fs:ACode:= .seq (.reg [.o 29 (.bin .lss 0) [.t 28,.t 27]]) <| .seq (.cond (.t 29) ( .skip) ( .exit 0)) <| .seq (.block 1 ( .seq (.reg [.m 30 28,.m 6 30]) <| .reg [.f 31 2 5,.l 32 31,.m 33 6,.o 34 (.iadr 1) [.t 32,.t 33],.s (.store 1) [.t 34,.kb true]])) <| .reg [.o 35 (.bin .add 0) [.t 28,.k 1],.m 28 35]
def NT:ACode:= .seq (.reg [.o 4 (.alloc rz) []]) <| .seq (.seq (.reg [.m 7 0,.o 8 (.call 63 []) [.t 7,.k 1,.k 6],.o 9 (.un .not) [.t 8],.m 10 9,.mg 11 1 10 false,.g 12 (.call 63 []) [.t 11,.k 1,.k 6] 10 false,.g 13 (.un .not) [.t 12] 10 false,.o 14 .pick [.t 10,.kb true,.t 13],.m 15 14,.mg 16 0 15 false,.mg 17 1 15 false,.g 18 (.bin .mul 0) [.t 16,.t 17] 15 false,.g 19 (.bin .gtr 0) [.t 18,.k 24] 15 false,.o 20 .pick [.t 15,.kb true,.t 19]]) <| .cond (.t 20) ( .seq (.reg [.o 21 (.build rz []) [],.s (.store 3) [.t 4,.t 21]]) <| .ret) ( .skip)) <| .seq (.reg [.m 22 0,.m 23 1,.o 24 (.call 110 []) [.t 22,.t 23],.o 5 (.alloc rz) [],.s (.store 3) [.t 5,.t 24]]) <| .seq (.seq (.reg [.f 25 2 5,.l 26 25,.n 27 26,.o 28 .mv [.k 0]]) <| .block 0 ( .loop [] [4,5,27,28] Fs)) <| .seq (.reg [.la 36 3 5,.s (.store 3) [.t 4,.t 36]]) <| .ret
theorem Up:cFn Tryz.prog NS 37 [.c 4 true 3] NT:= ⟨Tryz.f50,_,Tryz.func50,rfl,by kernel_rfl,by kernel_rfl,by kernel_rfl,by kernel_rfl⟩
@[simp] abbrev LA:Nat:= 236
def IQ:ACode:= .seq (.reg [.m 22 7,.m 6 22]) <| .ret
abbrev IR:Plan:= .al (.o 17 (.call 205 []) [.t 11,.t 12,.t 16]) ( .take (.o 20 (.iadr 1) [.t 10,.t 17]) <| .al (.s (.store 1) [.t 20,.k 0]) ( .take (.o 21 (.iadr 1) [.t 18,.t 19]) <| .al (.s (.store 1) [.t 21,.k 0]) ( .done)))
def LB:ACode:= .seq (.reg [.o 3 .box [.t 0],.o 6 .mv [.c (.os 1 [])]]) <| .seq (.reg [.m 8 1,.o 9 (.call 126 []) [.t 8],.m 7 9]) <| .seq (.draw ( .take (.m 10 7) <| .take (.m 12 2) <| .take (.m 13 1) <| .take (.m 14 2) <| .take (.o 15 (.iadr 1) [.t 13,.t 14]) <| .take (.m 18 7) <| .take (.m 19 2) <| .alt (.la 11 3 3) ( .al (.l 16 15) IR) <| .al (.l 16 15) ( .al (.la 11 3 3) IR))) <| .gc [] [7] IQ
theorem SQ:cFn Tryz.prog LA 23 [.t 6] LB:= ⟨Tryz.f236,_,Tryz.func236,rfl,by kernel_rfl,by kernel_rfl,by kernel_rfl,by kernel_rfl⟩
@[simp] abbrev UO:Nat:= 110
def UP:ACode:= .seq (.reg [.o 4 (.alloc rz) []]) <| .seq (.reg [.m 5 0,.m 6 1,.m 7 0,.m 8 1,.o 9 (.bin .mul 0) [.t 7,.t 8],.o 10 (.mksl 1 1 (.v (.bool false))) [.t 9,.t 9],.o 11 (.build rz [(0,1),(1,1),(2,1)]) [.t 5,.t 6,.t 10],.s (.store 3) [.t 4,.t 11]]) <| .ret
theorem ai:cFn Tryz.prog UO 12 [.c 4 true 3] UP:= ⟨Tryz.f110,_,Tryz.func110,rfl,by kernel_rfl,by kernel_rfl,by kernel_rfl,by kernel_rfl⟩
@[simp] abbrev P0:Nat:= 43
def La:ACode:= .seq (.reg [.o 2 .mv [.c (.v (.pointer none))]]) <| .seq (.seq (.reg [.m 3 0,.n 4 3,.o 5 (.bin .gtr 0) [.t 4,.k 2000]]) <| .cond (.t 5) ( .reg [.m 6 0,.o 7 (.slice 1 false false true false) [.t 6,.k 2000],.m 0 7]) ( .skip)) <| .seq (.reg [.m 8 0,.o 9 (.build [.os 1 [],.v (.int .i64 (0))] [(0,1)]) [.t 8],.o 10 .box [.t 9],.m 2 10]) <| .ret
theorem XO:cFn Tryz.prog P0 11 [.t 2] La:= ⟨Tryz.f43,_,Tryz.func43,rfl,by kernel_rfl,by kernel_rfl,by kernel_rfl,by kernel_rfl⟩
@[simp] abbrev DU:Nat:= 54
def Ce:BCode:= (BCode.seq (BCode.base (ACode.reg [ (AOper.mk (some 4) AK.mv [(Opd.c (AV.v (Go.Value.int Go.IntKind.i64 0)))] none)])) (BCode.seq (BCode.base (ACode.reg [ (AOper.mk (some 7) AK.mv [(Opd.t 0)] none),(AOper.mk (some 8) AK.mv [(Opd.t 0)] none),(AOper.mk (some 9) AK.nilck [(Opd.t 8)] none),(AOper.mk (some 10) (AK.fadr 1) [(Opd.t 9)] none),(AOper.mk (some 11) (AK.load false 1) [(Opd.t 10)] none),(AOper.mk (some 12) (AK.bin Go.BinOp.add 0) [(Opd.t 11),(Opd.c (AV.v (Go.Value.int Go.IntKind.i64 1)))] none),(AOper.mk (some 13) AK.nilck [(Opd.t 7)] none),(AOper.mk (some 14) (AK.fadr 1) [(Opd.t 13)] none),(AOper.mk none (AK.store 1) [(Opd.t 14),(Opd.t 12)] none)])) (BCode.seq (BCode.base (ACode.seq (ACode.reg [ (AOper.mk (some 15) AK.mv [(Opd.t 1)] none),(AOper.mk (some 16) (AK.bin Go.BinOp.lss 0) [(Opd.t 15),(Opd.c (AV.v (Go.Value.int Go.IntKind.i64 1)))] none),(AOper.mk (some 17) AK.mv [(Opd.t 16)] none),(AOper.mk (some 18) AK.mv [(Opd.t 0)] (some (17,false))),(AOper.mk (some 19) AK.nilck [(Opd.t 18)] (some (17,false))),(AOper.mk (some 20) (AK.fadr 0) [(Opd.t 19)] (some (17,false))),(AOper.mk (some 21) (AK.load false 1) [(Opd.t 20)] (some (17,false))),(AOper.mk (some 22) (AK.len false) [(Opd.t 21)] (some (17,false))),(AOper.mk (some 23) (AK.bin Go.BinOp.eql 0) [(Opd.t 22),(Opd.c (AV.v (Go.Value.int Go.IntKind.i64 0)))] (some (17,false))),(AOper.mk (some 24) AK.pick [(Opd.t 17),(Opd.c (AV.v (Go.Value.bool true))),(Opd.t 23)] none)]) (ACode.cond (Opd.t 24) (ACode.seq (ACode.reg [ (AOper.mk (some 4) AK.mv [(Opd.c (AV.v (Go.Value.int Go.IntKind.i64 0)))] none)]) ACode.ret) ACode.skip))) (BCode.seq (BCode.base (ACode.reg [ (AOper.mk (some 25) AK.mv [(Opd.t 0)] none),(AOper.mk (some 26) AK.nilck [(Opd.t 25)] none),(AOper.mk (some 27) (AK.fadr 1) [(Opd.t 26)] none),(AOper.mk (some 28) (AK.load false 1) [(Opd.t 27)] none),(AOper.mk (some 29) (AK.bin Go.BinOp.sub 0) [(Opd.t 28),(Opd.c (AV.v (Go.Value.int Go.IntKind.i64 1)))] none),(AOper.mk (some 5) AK.mv [(Opd.t 29)] none)])) (BCode.seq (BCode.base (ACode.seq (ACode.reg [ (AOper.mk (some 30) AK.mv [(Opd.t 5)] none),(AOper.mk (some 31) AK.mv [(Opd.t 0)] none),(AOper.mk (some 32) AK.nilck [(Opd.t 31)] none),(AOper.mk (some 33) (AK.fadr 0) [(Opd.t 32)] none),(AOper.mk (some 34) (AK.load false 1) [(Opd.t 33)] none),(AOper.mk (some 35) (AK.len false) [(Opd.t 34)] none),(AOper.mk (some 36) (AK.bin Go.BinOp.lss 0) [(Opd.t 30),(Opd.t 35)] none)]) (ACode.cond (Opd.t 36) (ACode.seq (ACode.reg [ (AOper.mk (some 37) AK.mv [(Opd.t 0)] none),(AOper.mk (some 38) AK.nilck [(Opd.t 37)] none),(AOper.mk (some 39) (AK.fadr 0) [(Opd.t 38)] none),(AOper.mk (some 40) (AK.load false 1) [(Opd.t 39)] none),(AOper.mk (some 41) AK.mv [(Opd.t 5)] none),(AOper.mk (some 42) (AK.iadr 1) [(Opd.t 40),(Opd.t 41)] none),(AOper.mk (some 43) (AK.load false 1) [(Opd.t 42)] none),(AOper.mk (some 44) (AK.conv Go.IntKind.i64) [(Opd.t 43)] none),(AOper.mk (some 45) AK.mv [(Opd.t 1)] none),(AOper.mk (some 46) (AK.bin Go.BinOp.rem 0) [(Opd.t 44),(Opd.t 45)] none),(AOper.mk (some 4) AK.mv [(Opd.t 46)] none)]) ACode.ret) ACode.skip))) (BCode.seq (BCode.pure [ (AOper.mk (some 47) AK.mv [(Opd.t 0)] none),(AOper.mk (some 48) AK.nilck [(Opd.t 47)] none),(AOper.mk (some 49) (AK.fadr 0) [(Opd.t 48)] none),(AOper.mk (some 50) (AK.load false 1) [(Opd.t 49)] none),(AOper.mk (some 51) AK.mv [(Opd.t 5)] none),(AOper.mk (some 52) AK.mv [(Opd.t 0)] none),(AOper.mk (some 53) AK.nilck [(Opd.t 52)] none),(AOper.mk (some 54) (AK.fadr 0) [(Opd.t 53)] none),(AOper.mk (some 55) (AK.load false 1) [(Opd.t 54)] none),(AOper.mk (some 56) (AK.len false) [(Opd.t 55)] none),(AOper.mk (some 57) (AK.bin Go.BinOp.rem 0) [(Opd.t 51),(Opd.t 56)] none),(AOper.mk (some 58) (AK.iadr 1) [(Opd.t 50),(Opd.t 57)] none),(AOper.mk (some 59) (AK.load false 1) [(Opd.t 58)] none),(AOper.mk (some 60) (AK.conv Go.IntKind.i64) [(Opd.t 59)] none),(AOper.mk (some 61) (AK.bin Go.BinOp.mul 0) [(Opd.t 60),(Opd.c (AV.v (Go.Value.int Go.IntKind.i64 131)))] none),(AOper.mk (some 62) AK.mv [(Opd.t 0)] none),(AOper.mk (some 63) AK.nilck [(Opd.t 62)] none),(AOper.mk (some 64) (AK.fadr 0) [(Opd.t 63)] none),(AOper.mk (some 65) (AK.load false 1) [(Opd.t 64)] none),(AOper.mk (some 66) AK.mv [(Opd.t 5)] none),(AOper.mk (some 67) (AK.bin Go.BinOp.mul 0) [(Opd.t 66),(Opd.c (AV.v (Go.Value.int Go.IntKind.i64 7)))] none),(AOper.mk (some 68) (AK.bin Go.BinOp.add 0) [(Opd.t 67),(Opd.c (AV.v (Go.Value.int Go.IntKind.i64 3)))] none),(AOper.mk (some 69) AK.mv [(Opd.t 0)] none),(AOper.mk (some 70) AK.nilck [(Opd.t 69)] none),(AOper.mk (some 71) (AK.fadr 0) [(Opd.t 70)] none),(AOper.mk (some 72) (AK.load false 1) [(Opd.t 71)] none),(AOper.mk (some 73) (AK.len false) [(Opd.t 72)] none),(AOper.mk (some 74) (AK.bin Go.BinOp.rem 0) [(Opd.t 68),(Opd.t 73)] none),(AOper.mk (some 75) (AK.iadr 1) [(Opd.t 65),(Opd.t 74)] none),(AOper.mk (some 76) (AK.load false 1) [(Opd.t 75)] none),(AOper.mk (some 77) (AK.conv Go.IntKind.i64) [(Opd.t 76)] none),(AOper.mk (some 78) (AK.bin Go.BinOp.mul 0) [(Opd.t 77),(Opd.c (AV.v (Go.Value.int Go.IntKind.i64 1117)))] none),(AOper.mk (some 79) (AK.bin Go.BinOp.add 0) [(Opd.t 61),(Opd.t 78)] none),(AOper.mk (some 80) AK.mv [(Opd.t 5)] none),(AOper.mk (some 81) (AK.bin Go.BinOp.mul 0) [(Opd.t 80),(Opd.c (AV.v (Go.Value.int Go.IntKind.i64 29)))] none),(AOper.mk (some 82) (AK.bin Go.BinOp.add 0) [(Opd.t 79),(Opd.t 81)] none),(AOper.mk (some 83) AK.mv [(Opd.t 5)] none),(AOper.mk (some 84) AK.mv [(Opd.t 0)] none),(AOper.mk (some 85) AK.nilck [(Opd.t 84)] none),(AOper.mk (some 86) (AK.fadr 0) [(Opd.t 85)] none),(AOper.mk (some 87) (AK.load false 1) [(Opd.t 86)] none),(AOper.mk (some 88) (AK.len false) [(Opd.t 87)] none),(AOper.mk (some 89) (AK.bin Go.BinOp.quo 0) [(Opd.t 83),(Opd.t 88)] none),(AOper.mk (some 90) (AK.bin Go.BinOp.mul 0) [(Opd.t 89),(Opd.c (AV.v (Go.Value.int Go.IntKind.i64 53)))] none),(AOper.mk (some 91) (AK.bin Go.BinOp.add 0) [(Opd.t 82),(Opd.t 90)] none),(AOper.mk (some 6) AK.mv [(Opd.t 91)] none)]) (BCode.base (ACode.seq (ACode.reg [ (AOper.mk (some 92) AK.mv [(Opd.t 6)] none),(AOper.mk (some 93) AK.mv [(Opd.t 6)] none),(AOper.mk (some 94) (AK.bin Go.BinOp.quo 0) [(Opd.t 93),(Opd.c (AV.v (Go.Value.int Go.IntKind.i64 64)))] none),(AOper.mk (some 95) (AK.bin Go.BinOp.xor 0) [(Opd.t 92),(Opd.t 94)] none),(AOper.mk (some 6) AK.mv [(Opd.t 95)] none)]) (ACode.seq (ACode.reg [ (AOper.mk (some 96) AK.mv [(Opd.t 6)] none),(AOper.mk (some 97) AK.mv [(Opd.t 1)] none),(AOper.mk (some 98) (AK.bin Go.BinOp.rem 0) [(Opd.t 96),(Opd.t 97)] none),(AOper.mk (some 4) AK.mv [(Opd.t 98)] none)]) ACode.ret)))))))))
theorem Tb:j6 Tryz.prog DU 99 [(RV.t 4)] Ce:= ⟨Tryz.f54,_,Tryz.func54,rfl,by kernel_rfl,by kernel_rfl,by kernel_rfl,by kernel_rfl⟩
@[simp] abbrev NU:Nat:= 45
def Ii:ACode:= .seq (.reg [.o 4 .mv [.kb false]]) <| .seq (.reg [.m 5 1,.o 6 (.bin .gtr 0) [.t 5,.k 0],.m 7 6,.mg 8 0 7 true,.mg 9 1 7 true,.g 10 (.call 54 []) [.t 8,.t 9] 7 true,.mg 11 1 7 true,.g 12 (.bin .sub 0) [.t 11,.k 1] 7 true,.g 13 (.bin .eql 0) [.t 10,.t 12] 7 true,.o 14 .pick [.t 7,.t 13,.kb false],.m 4 14]) <| .ret
theorem Uq:cFn Tryz.prog NU 15 [.t 4] Ii:= ⟨Tryz.f45,_,Tryz.func45,rfl,by kernel_rfl,by kernel_rfl,by kernel_rfl,by kernel_rfl⟩
@[simp] abbrev Hs:Nat:= 141
def MJ:ACode:= .seq (.reg [.m 40 8,.m 41 2,.o 42 (.iadr 1) [.t 40,.t 41],.s (.store 1) [.t 42,.k 0]]) <| .seq (.reg [.m 43 8,.m 6 43,.o 7 .mv [.kb true]]) <| .ret
abbrev MK:Plan:= .al (.o 38 (.call 169 []) [.t 32,.t 33,.t 37]) ( .take (.o 39 (.iadr 1) [.t 31,.t 38]) <| .al (.s (.store 1) [.t 39,.k 0]) ( .done))
def Lb:ACode:= .seq (.reg [.o 3 .box [.t 0],.o 6 .mv [.c (.os 1 [])],.o 7 .mv [.kb false]]) <| .seq (.seq (.reg [.la 9 3 3,.m 10 1,.o 11 (.call 122 []) [.t 9,.t 10],.o 12 (.un .not) [.t 11]]) <| .cond (.t 12) ( .seq (.reg [.o 13 (.bsl 1) [],.m 6 13,.o 7 .mv [.kb false]]) <| .ret) ( .skip)) <| .seq (.reg [.o 14 (.bsl 1) [],.m 15 1,.o 16 (.app 1 8 true) [.t 14,.t 15],.m 8 16]) <| .seq (.seq (.reg [.m 17 2,.m 18 1,.n 19 18,.o 20 (.bin .sub 0) [.t 19,.k 1],.o 21 (.call 106 []) [.t 17,.k 0,.t 20],.o 22 (.un .not) [.t 21],.m 23 22,.mg 24 1 23 false,.mg 25 2 23 false,.g 26 (.iadr 1) [.t 24,.t 25] 23 false,.lg 27 26 23 false,.g 28 (.bin .eql 0) [.t 27,.k 0] 23 false,.o 29 .pick [.t 23,.kb true,.t 28]]) <| .cond (.t 29) ( .seq (.reg [.m 30 8,.m 6 30,.o 7 .mv [.kb false]]) <| .ret) ( .skip)) <| .seq (.draw ( .take (.m 31 8) <| .take (.m 33 2) <| .take (.m 34 1) <| .take (.m 35 2) <| .take (.o 36 (.iadr 1) [.t 34,.t 35]) <| .alt (.la 32 3 3) ( .al (.l 37 36) MK) <| .al (.l 37 36) ( .al (.la 32 3 3) MK))) <| .gc [] [2,8] MJ
theorem P3:cFn Tryz.prog Hs 44 [.t 6,.t 7] Lb:= ⟨Tryz.f141,_,Tryz.func141,rfl,by kernel_rfl,by kernel_rfl,by kernel_rfl,by kernel_rfl⟩
@[simp] abbrev NV:Nat:= 221
def Dj:ACode:= .seq (.seq (.reg [.m 25 6,.m 26 0,.m 27 1,.o 28 (.bin .mul 0) [.t 26,.t 27],.o 29 (.bin .lss 0) [.t 25,.t 28]]) <| .cond (.t 29) ( .skip) ( .exit 0)) <| .seq (.block 1 ( .reg [.f 32 2 5,.l 33 32,.o 34 (.bsl 1) [.kb true],.o 35 (.app 1 1 true) [.t 33,.t 34],.f 36 2 5,.s (.store 1) [.t 36,.t 35]])) <| .reg [.m 30 6,.o 31 (.bin .add 0) [.t 30,.k 1],.m 6 31]
def NW:ACode:= .seq (.reg [.o 4 (.alloc rz) []]) <| .seq (.seq (.reg [.m 7 0,.o 8 (.call 106 []) [.t 7,.k 1,.k 6],.o 9 (.un .not) [.t 8],.m 10 9,.mg 11 1 10 false,.g 12 (.call 106 []) [.t 11,.k 1,.k 6] 10 false,.g 13 (.un .not) [.t 12] 10 false,.o 14 .pick [.t 10,.kb true,.t 13],.m 15 14,.mg 16 0 15 false,.mg 17 1 15 false,.g 18 (.bin .mul 0) [.t 16,.t 17] 15 false,.g 19 (.bin .gtr 0) [.t 18,.k 24] 15 false,.o 20 .pick [.t 15,.kb true,.t 19]]) <| .cond (.t 20) ( .seq (.reg [.o 21 (.build rz []) [],.s (.store 3) [.t 4,.t 21]]) <| .ret) ( .skip)) <| .seq (.reg [.m 22 0,.m 23 1,.o 24 (.build rz [(0,1),(1,1)]) [.t 22,.t 23],.o 5 (.alloc rz) [],.s (.store 3) [.t 5,.t 24]]) <| .seq (.seq (.reg [.o 6 .mv [.k 0]]) <| .block 0 ( .loop [] [0,1,4,5,6] Dj)) <| .seq (.reg [.la 37 3 5,.s (.store 3) [.t 4,.t 37]]) <| .ret
theorem Ur:cFn Tryz.prog NV 38 [.c 4 true 3] NW:= ⟨Tryz.f221,_,Tryz.func221,rfl,by kernel_rfl,by kernel_rfl,by kernel_rfl,by kernel_rfl⟩
@[simp] abbrev LC:Nat:= 165
abbrev F8:Plan:= .take (.g 134 (.bin .neq 0) [.t 129,.t 133] 125 true) <| .take (.o 135 .pick [.t 125,.t 134,.kb false]) <| .done
def C7:ACode:= .seq (.seq (.draw ( .take (.m 121 15) <| .take (.m 122 6) <| .take (.n 123 122) <| .take (.o 124 (.bin .lss 0) [.t 121,.t 123]) <| .take (.m 125 124) <| .take (.mg 126 6 125 true) <| .take (.mg 127 15 125 true) <| .take (.g 128 (.iadr 1) [.t 126,.t 127] 125 true) <| .take (.mg 130 11 125 true) <| .take (.mg 131 14 125 true) <| .take (.g 132 (.iadr 1) [.t 130,.t 131] 125 true) <| .alt (.lg 129 128 125 true) ( .al (.lg 133 132 125 true) F8) <| .al (.lg 133 132 125 true) ( .al (.lg 129 128 125 true) F8))) <| .cond (.t 135) ( .skip) ( .exit 7)) <| .block 8 ( .reg [.m 136 15,.o 137 (.bin .add 0) [.t 136,.k 1],.m 15 137])
abbrev F9:Plan:= .take (.o 162 (.bin .add 0) [.t 157,.t 161]) <| .take (.o 163 (.iadr 1) [.t 152,.t 153]) <| .al (.s (.store 1) [.t 163,.t 162]) ( .done)
def C8:ACode:= .seq (.seq (.reg [.m 115 14,.m 116 11,.n 117 116,.o 118 (.bin .lss 0) [.t 115,.t 117]]) <| .cond (.t 118) ( .skip) ( .exit 5)) <| .seq (.block 6 ( .seq (.reg [.o 15 .mv [.k 0]]) <| .seq (.block 7 ( .loop [(3,1),(4,1),(6,1),(7,1),(11,1)] [1,3,4,5,6,7,8,11,14,15] C7)) <| .seq (.seq (.reg [.m 138 15,.m 139 6,.n 140 139,.o 141 (.bin .eql 0) [.t 138,.t 140]]) <| .cond (.t 141) ( .seq (.reg [.m 142 6,.m 143 11,.m 144 14,.o 145 (.iadr 1) [.t 143,.t 144],.l 146 145,.o 147 (.bsl 1) [.t 146],.o 148 (.app 1 8 true) [.t 142,.t 147],.m 6 148]) <| .reg [.m 149 7,.o 150 (.bsl 1) [.k 0],.o 151 (.app 1 8 true) [.t 149,.t 150],.m 7 151]) ( .skip)) <| .draw ( .take (.m 152 7) <| .take (.m 153 15) <| .take (.m 154 7) <| .take (.m 155 15) <| .take (.o 156 (.iadr 1) [.t 154,.t 155]) <| .take (.m 158 4) <| .take (.m 159 8) <| .take (.o 160 (.iadr 1) [.t 158,.t 159]) <| .alt (.l 157 156) ( .al (.l 161 160) F9) <| .al (.l 161 160) ( .al (.l 157 156) F9)))) <| .reg [.m 119 14,.o 120 (.bin .add 0) [.t 119,.k 1],.m 14 120]
def BR:ACode:= .seq (.seq (.reg [.m 32 8,.m 33 3,.n 34 33,.o 35 (.bin .lss 0) [.t 32,.t 34]]) <| .cond (.t 35) ( .skip) ( .exit 2)) <| .seq (.block 3 ( .seq (.reg [.m 38 3,.m 39 8,.o 40 (.iadr 1) [.t 38,.t 39],.l 41 40,.m 9 41]) <| .seq (.reg [.m 42 9,.o 43 (.bin .rem 0) [.t 42,.k 2],.o 44 (.bin .eql 0) [.t 43,.k 1],.m 10 44]) <| .seq (.reg [.o 45 (.bsl 1) [],.m 11 45]) <| .seq (.block 4 ( .seq (.reg [.m 101 10,.m 102 101,.fg 103 2 1 102 false,.lg 104 103 102 false,.mg 105 5 102 false,.g 106 (.iadr 1) [.t 104,.t 105] 102 false,.lg 107 106 102 false,.g 108 (.un .not) [.t 107] 102 false,.o 109 .pick [.t 102,.kb true,.t 108],.m 100 109]) <| .cond (.t 100) ( .reg [.m 110 11,.m 111 9,.o 112 (.bin .quo 0) [.t 111,.k 2],.o 113 (.bsl 1) [.t 112],.o 114 (.app 1 8 true) [.t 110,.t 113],.m 11 114]) ( .seq (.reg [.la 46 3 1,.m 47 5,.o 48 (.call 169 []) [.t 46,.t 47,.k 1],.m 12 48]) <| .seq (.reg [.la 49 3 1,.m 50 5,.o 51 (.call 169 []) [.t 49,.t 50,.k 2],.m 13 51]) <| .seq (.seq (.reg [.m 52 12,.o 53 (.bin .geq 0) [.t 52,.k 0],.m 54 53,.fg 55 2 1 54 true,.lg 56 55 54 true,.mg 57 12 54 true,.g 58 (.iadr 1) [.t 56,.t 57] 54 true,.lg 59 58 54 true,.o 60 .pick [.t 54,.t 59,.kb false],.m 61 60,.mg 62 9 61 true,.g 63 (.bin .quo 0) [.t 62,.k 2] 61 true,.g 64 (.bin .rem 0) [.t 63,.k 2] 61 true,.g 65 (.bin .eql 0) [.t 64,.k 0] 61 true,.o 66 .pick [.t 61,.t 65,.kb false]]) <| .cond (.t 66) ( .reg [.m 67 11,.m 68 9,.o 69 (.bin .quo 0) [.t 68,.k 2],.o 70 (.bin .add 0) [.t 69,.k 1],.o 71 (.bsl 1) [.t 70],.o 72 (.app 1 8 true) [.t 67,.t 71],.m 11 72]) ( .skip)) <| .seq (.reg [.m 73 13,.o 74 (.bin .geq 0) [.t 73,.k 0],.m 75 74,.fg 76 2 1 75 true,.lg 77 76 75 true,.mg 78 13 75 true,.g 79 (.iadr 1) [.t 77,.t 78] 75 true,.lg 80 79 75 true,.o 81 .pick [.t 75,.t 80,.kb false],.m 82 81,.mg 83 9 82 true,.fg 84 0 1 82 true,.lg 85 84 82 true,.g 86 (.bin .shr 0) [.t 83,.t 85] 82 true,.g 87 (.bin .rem 0) [.t 86,.k 2] 82 true,.g 88 (.bin .eql 0) [.t 87,.k 0] 82 true,.o 89 .pick [.t 82,.t 88,.kb false]]) <| .cond (.t 89) ( .reg [.m 90 11,.m 91 9,.o 92 (.bin .quo 0) [.t 91,.k 2],.f 93 0 1,.l 94 93,.o 95 (.bin .sub 0) [.t 94,.k 1],.o 96 (.bin .shl 0) [.k 1,.t 95],.o 97 (.bin .add 0) [.t 92,.t 96],.o 98 (.bsl 1) [.t 97],.o 99 (.app 1 8 true) [.t 90,.t 98],.m 11 99]) ( .skip)))) <| .seq (.reg [.o 14 .mv [.k 0]]) <| .block 5 ( .loop [(3,1),(4,1),(6,1),(7,1),(11,1)] [1,3,4,5,6,7,8,11,14] C8))) <| .reg [.m 36 8,.o 37 (.bin .add 0) [.t 36,.k 1],.m 8 37]
def Ek:ACode:= .seq (.seq (.reg [.m 23 5,.f 24 2 1,.l 25 24,.n 26 25,.o 27 (.bin .lss 0) [.t 23,.t 26]]) <| .cond (.t 27) ( .skip) ( .exit 0)) <| .seq (.block 1 ( .seq (.reg [.o 30 (.bsl 1) [],.m 6 30]) <| .seq (.reg [.o 31 (.bsl 1) [],.m 7 31]) <| .seq (.seq (.reg [.o 8 .mv [.k 0]]) <| .block 2 ( .loop [(3,1),(4,1),(6,1),(7,1)] [1,3,4,5,6,7,8] BR)) <| .seq (.reg [.m 164 6,.m 3 164]) <| .reg [.m 165 7,.m 4 165])) <| .reg [.m 28 5,.o 29 (.bin .add 0) [.t 28,.k 1],.m 5 29]
def El:ACode:= .seq (.seq (.reg [.m 166 17,.m 167 3,.n 168 167,.o 169 (.bin .lss 0) [.t 166,.t 168]]) <| .cond (.t 169) ( .skip) ( .exit 9)) <| .seq (.block 10 ( .seq (.reg [.m 172 3,.m 173 17,.o 174 (.iadr 1) [.t 172,.t 173],.l 175 174,.o 176 (.bin .eql 0) [.t 175,.k 0]]) <| .cond (.t 176) ( .reg [.m 177 16,.m 178 4,.m 179 17,.o 180 (.iadr 1) [.t 178,.t 179],.l 181 180,.o 182 (.bin .add 0) [.t 177,.t 181],.m 16 182]) ( .skip))) <| .reg [.m 170 17,.o 171 (.bin .add 0) [.t 170,.k 1],.m 17 171]
def LD:ACode:= .seq (.reg [.o 1 .box [.t 0],.o 2 .mv [.k 0]]) <| .seq (.seq (.reg [.la 18 3 1,.o 19 (.call 168 []) [.t 18],.o 20 (.un .not) [.t 19]]) <| .cond (.t 20) ( .seq (.reg [.o 2 .mv [.k (-1)]]) <| .ret) ( .skip)) <| .seq (.reg [.o 21 (.bsl 1) [.k 0],.m 3 21]) <| .seq (.reg [.o 22 (.bsl 1) [.k 1],.m 4 22]) <| .seq (.seq (.reg [.o 5 .mv [.k 0]]) <| .block 0 ( .loop [(3,1),(4,1)] [1,3,4,5] Ek)) <| .seq (.reg [.o 16 .mv [.k 0]]) <| .seq (.seq (.reg [.o 17 .mv [.k 0]]) <| .block 9 ( .loop [(3,1),(4,1)] [3,4,16,17] El)) <| .seq (.reg [.m 183 16,.m 2 183]) <| .ret
theorem SR:cFn Tryz.prog LC 184 [.t 2] LD:= ⟨Tryz.f165,_,Tryz.func165,rfl,by kernel_rfl,by kernel_rfl,by kernel_rfl,by kernel_rfl⟩
@[simp] abbrev SS:Nat:= 256
abbrev J0:Plan:= .take (.o 28 (.iadr 1) [.t 23,.t 27]) <| .al (.s (.store 1) [.t 28,.kb false]) ( .done)
def Ij:ACode:= .seq (.seq (.reg [.m 16 6,.m 17 1,.n 18 17,.o 19 (.bin .lss 0) [.t 16,.t 18]]) <| .cond (.t 19) ( .skip) ( .exit 0)) <| .seq (.block 1 ( .draw ( .take (.f 22 2 5) <| .take (.m 24 1) <| .take (.m 25 6) <| .take (.o 26 (.iadr 1) [.t 24,.t 25]) <| .alt (.l 23 22) ( .al (.l 27 26) J0) <| .al (.l 27 26) ( .al (.l 23 22) J0)))) <| .reg [.m 20 6,.o 21 (.bin .add 0) [.t 20,.k 1],.m 6 21]
def NX:ACode:= .seq (.seq (.reg [.o 6 .mv [.k 0]]) <| .block 0 ( .loop [(1,1)] [1,4,5,6] Ij)) <| .seq (.reg [.la 29 3 5,.s (.store 3) [.t 4,.t 29]]) <| .ret
def On:BCode:= .seq (.base (.reg [.o 2 .box [.t 0],.o 4 (.alloc rz) []])) <| .frz 2 <| .seq (BCode.early [ (AOper.mk (some 7) (AK.fadr 0) [(Opd.t 2)] none), (AOper.mk (some 8) (AK.load false 1) [(Opd.t 7)] none),(AOper.mk (some 9) (AK.fadr 1) [(Opd.t 2)] none), (AOper.mk (some 10) (AK.load false 1) [(Opd.t 9)] none), (AOper.mk (some 12) (AK.fadr 2) [(Opd.t 2)] none),(AOper.mk (some 13) (AK.load false 1) [(Opd.t 12)] none)]  (Plan.alt  (AOper.mk (some 11) (AK.bsl 1) [] none)  (Plan.alt  (AOper.mk (some 14) (AK.app 1 1 true) [(Opd.t 11),(Opd.t 13)] none) (Plan.take  (AOper.mk (some 15) (AK.build [(AV.v (Go.Value.int Go.IntKind.i64 0)),(AV.v (Go.Value.int Go.IntKind.i64 0)),(AV.os 1 [])] [(0,1),(1,1),(2,1)]) [(Opd.t 8),(Opd.t 10),(Opd.t 14)] none)  (Plan.alt  (AOper.mk (some 5) (AK.alloc [(AV.v (Go.Value.int Go.IntKind.i64 0)),(AV.v (Go.Value.int Go.IntKind.i64 0)),(AV.os 1 [])]) [] none)  (Plan.alt  (AOper.mk none (AK.store 3) [(Opd.t 5),(Opd.t 15)] none) Plan.done Plan.stop) Plan.stop))  (Plan.alt  (AOper.mk (some 5) (AK.alloc [(AV.v (Go.Value.int Go.IntKind.i64 0)),(AV.v (Go.Value.int Go.IntKind.i64 0)),(AV.os 1 [])]) [] none)  (Plan.alt  (AOper.mk (some 14) (AK.app 1 1 true) [(Opd.t 11),(Opd.t 13)] none) (Plan.take  (AOper.mk (some 15) (AK.build [(AV.v (Go.Value.int Go.IntKind.i64 0)),(AV.v (Go.Value.int Go.IntKind.i64 0)),(AV.os 1 [])] [(0,1),(1,1),(2,1)]) [(Opd.t 8),(Opd.t 10),(Opd.t 14)] none)  (Plan.alt  (AOper.mk none (AK.store 3) [(Opd.t 5),(Opd.t 15)] none) Plan.done Plan.stop)) Plan.stop) Plan.stop))  (Plan.alt  (AOper.mk (some 5) (AK.alloc [(AV.v (Go.Value.int Go.IntKind.i64 0)),(AV.v (Go.Value.int Go.IntKind.i64 0)),(AV.os 1 [])]) [] none)  (Plan.alt  (AOper.mk (some 11) (AK.bsl 1) [] none)  (Plan.alt  (AOper.mk (some 14) (AK.app 1 1 true) [(Opd.t 11),(Opd.t 13)] none) (Plan.take  (AOper.mk (some 15) (AK.build [(AV.v (Go.Value.int Go.IntKind.i64 0)),(AV.v (Go.Value.int Go.IntKind.i64 0)),(AV.os 1 [])] [(0,1),(1,1),(2,1)]) [(Opd.t 8),(Opd.t 10),(Opd.t 14)] none)  (Plan.alt  (AOper.mk none (AK.store 3) [(Opd.t 5),(Opd.t 15)] none) Plan.done Plan.stop)) Plan.stop) Plan.stop) Plan.stop))) <| .base (.gc [] [1,4,5] NX)
theorem ZN:j6 Tryz.prog SS 30 [.c 4 true 3] On:= ⟨Tryz.f256,_,Tryz.func256,rfl,by kernel_rfl,by kernel_rfl,by kernel_rfl,by kernel_rfl⟩
@[simp] abbrev ST:Nat:= 223
def Fl:ACode:= .seq (.seq (.reg [.m 8 6,.m 9 1,.n 10 9,.o 11 (.bin .lss 0) [.t 8,.t 10]]) <| .cond (.t 11) ( .skip) ( .exit 0)) <| .seq (.block 1 ( .seq (.reg [.m 14 1,.m 15 6,.o 16 (.iadr 1) [.t 14,.t 15],.l 17 16,.o 18 (.bin .neq 0) [.t 17,.k 0]]) <| .cond (.t 18) ( .reg [.m 19 5,.m 20 6,.o 21 (.bsl 1) [.t 20],.o 22 (.app 1 8 true) [.t 19,.t 21],.m 5 22]) ( .skip))) <| .reg [.m 12 6,.o 13 (.bin .add 0) [.t 12,.k 1],.m 6 13]
def SU:ACode:= .seq (.reg [.o 2 .box [.t 0],.o 4 .mv [.k 0]]) <| .seq (.reg [.o 7 (.bsl 1) [],.m 5 7]) <| .seq (.seq (.reg [.o 6 .mv [.k 0]]) <| .block 0 ( .loop [(1,1),(5,1)] [1,2,5,6] Fl)) <| .seq (.reg [.la 23 3 2,.m 24 5,.o 25 (.call 256 []) [.t 23,.t 24],.o 26 (.call 165 []) [.t 25],.m 4 26]) <| .ret
theorem ZO:cFn Tryz.prog ST 27 [.t 4] SU:= ⟨Tryz.f223,_,Tryz.func223,rfl,by kernel_rfl,by kernel_rfl,by kernel_rfl,by kernel_rfl⟩
@[simp] abbrev Oo:Nat:= 164
def Ga:ACode:= .seq (.seq (.reg [.m 30 7,.o 31 (.bin .geq 0) [.t 30,.k 0]]) <| .cond (.t 31) ( .skip) ( .exit 0)) <| .seq (.block 1 ( .seq (.reg [.la 36 3 2,.m 37 6,.m 38 7,.o 39 (.call 140 []) [.t 36,.t 37,.t 38,.k 1],.m 35 39,.e 40 0 35,.e 41 1 35,.m 8 40,.m 9 41]) <| .seq (.reg [.o 10 .mv [.k 0]]) <| .seq (.seq (.reg [.m 42 9]) <| .cond (.t 42) ( .reg [.la 43 3 2,.m 44 8,.o 45 (.call 223 []) [.t 43,.t 44],.m 10 45]) ( .skip)) <| .seq (.seq (.reg [.m 46 1,.m 47 10,.o 48 (.bin .geq 0) [.t 46,.t 47]]) <| .cond (.t 48) ( .seq (.reg [.m 49 1,.m 50 10,.o 51 (.bin .sub 0) [.t 49,.t 50],.m 1 51]) <| .seq (.reg [.la 53 3 2,.m 54 6,.m 55 7,.o 56 (.call 140 []) [.t 53,.t 54,.t 55,.k 2],.m 52 56,.e 57 0 52,.e 58 1 52,.m 11 57,.m 12 58]) <| .reg [.m 59 11,.m 8 59]) ( .skip)) <| .reg [.m 60 8,.m 6 60])) <| .reg [.la 32 3 2,.m 33 6,.o 34 (.call 222 []) [.t 32,.t 33],.m 7 34]
def Oq:ACode:= .seq (.reg [.o 2 .box [.t 0],.o 4 .mv [.c (.os 1 [])],.o 5 .mv [.kb false]]) <| .seq (.seq (.reg [.la 13 3 2,.o 14 (.call 168 []) [.t 13],.o 15 (.un .not) [.t 14],.m 16 15,.mg 17 1 16 false,.g 18 (.load true 3) [.t 2] 16 false,.g 19 (.call 165 []) [.t 18] 16 false,.g 20 (.bin .sub 0) [.t 19,.k 1] 16 false,.g 21 (.call 106 []) [.t 17,.k 0,.t 20] 16 false,.g 22 (.un .not) [.t 21] 16 false,.o 23 .pick [.t 16,.kb true,.t 22]]) <| .cond (.t 23) ( .seq (.reg [.o 24 (.bsl 1) [],.m 4 24,.o 5 .mv [.kb false]]) <| .ret) ( .skip)) <| .seq (.reg [.la 25 3 2,.o 26 (.call 146 []) [.t 25],.m 6 26]) <| .seq (.seq (.reg [.la 27 3 2,.m 28 6,.o 29 (.call 222 []) [.t 27,.t 28],.m 7 29]) <| .block 0 ( .loop [(6,1)] [1,2,6,7] Ga)) <| .seq (.reg [.m 61 6,.m 4 61,.o 5 .mv [.kb true]]) <| .ret
theorem WQ:cFn Tryz.prog Oo 62 [.t 4,.t 5] Oq:= ⟨Tryz.f164,_,Tryz.func164,rfl,by kernel_rfl,by kernel_rfl,by kernel_rfl,by kernel_rfl⟩
theorem J1 (xs ys:List Int) (ha:xs.length < 2 ^ 40):
  SoundAt Tryz.prog Ol [.sl 1 1 (AB xs),.sl 1 1 (AB ys)] (.v (.bool (decide (xs = ys)))) [.bot,.bot]:= by
 refine AG (md:= md0) (ms:= [false,false]) WP (by simp) ?_
 simp [Om]
 refine ⟨fun h => ?_,fun hl => ?_⟩
 ·intro e; subst e; exact h rfl
 refine AF (fun m E H => ∃ i:Nat,m = xs.length - i ∧ i ≤ xs.length ∧ xs.take i = ys.take i ∧ H = [] ∧ E = [(0,.sl 1 1 (AB xs)),(1,.sl 1 1 (AB ys)),(5,.v (.int .i64 i))]) xs.length ⟨0,by simp⟩ ?_
 rintro J hJ m E H ⟨i,rfl,hi,he,rfl,rfl⟩
 by_cases h:i < xs.length
 case neg =>
  have h1:i = xs.length:= by omega
  subst h1
  have e:xs = ys:= by
   rw [List.take_length] at he
   rw [he]; exact List.take_of_length_le (by omega)
  simp [EK,e]
 have h2:i < ys.length:= by omega
 have key:(ati xs i = ati ys i) → xs.take (i + 1) = ys.take (i + 1):= by
  intro e
  rw [List.take_succ_eq_append_getElem h,List.take_succ_eq_append_getElem (by omega),he]
  simp [ati,h,h2] at e
  rw [e]
 have key2:¬ (ati xs i = ati ys i) → ¬ xs = ys:= fun e e2 => e (by rw [e2])
 by_cases e:ati xs i = ati ys i
 ·simp [EK,h,h2,e]
  exact ⟨by omega,_,by omega,hJ _ _ _ ⟨i + 1,rfl,h,key e,rfl,rfl⟩⟩
 ·simp [EK,h,h2,e,key2 e]
theorem Us (ps qs:List (List Int)) (ha:ps.length < 2 ^ 40) (hp:∀ p ∈ ps,p.length < 2 ^ 40):
  SoundAt Tryz.prog NO [.sl 1 1 (sls 1 ps),.sl 1 1 (sls 1 qs)] (.v (.bool (decide (ps = qs)))) [.bot,.bot]:= by
 refine AG (md:= md0) (ms:= [false,false]) Un (by simp) ?_
 simp [NP]
 refine ⟨fun h => ?_,fun hl => ?_⟩
 ·intro e; subst e; exact h rfl
 refine AF (fun m E H => ∃ i:Nat,m = ps.length - i ∧ i ≤ ps.length ∧ ps.take i = qs.take i ∧ H = [] ∧ E = [(0,.sl 1 1 (sls 1 ps)),(1,.sl 1 1 (sls 1 qs)),(5,.v (.int .i64 i))]) ps.length ⟨0,by simp⟩ ?_
 rintro J hJ m E H ⟨i,rfl,hi,he,rfl,rfl⟩
 by_cases h:i < ps.length
 case neg =>
  have h1:i = ps.length:= by omega
  subst h1
  have e:ps = qs:= by
   rw [List.take_length] at he
   rw [he]; exact List.take_of_length_le (by omega)
  simp [Fr,e]
 have h2:i < qs.length:= by omega
 simp [Fr,h,h2]
 have one:= J1 (pti ps i) (pti qs i) (hp _ (V9 h))
 have key:(pti ps i = pti qs i) → ps.take (i + 1) = qs.take (i + 1):= by
  intro e
  rw [List.take_succ_eq_append_getElem h,List.take_succ_eq_append_getElem h2,he,← Ih h,← Ih h2,e]
 have key2:¬ (pti ps i = pti qs i) → ¬ ps = qs:= fun e e2 => e (by rw [e2])
 (repeat' first | assumption | omega | apply And.intro) <;>
 ·refine AA one ?_
  by_cases e:pti ps i = pti qs i
  ·simp [e]
   exact ⟨by omega,_,by omega,hJ _ _ _ ⟨i + 1,rfl,h,key e,rfl,rfl⟩⟩
  ·simp [e,key2 e]
theorem Ut (W T:Int) (cs:List Bool) (hb:cs.length < 2 ^ 40):
  SoundAt Tryz.prog NQ [.agg [.v (.int .i64 W),.v (.int .i64 T),.sl 1 1 (AC cs)]] (.v (.int .i64 (if Am W T cs = true then (BM cs:Int) else -1))) [.bot]:= by
 refine AG (md:= md0) (ms:= [false]) Uo (by simp) ?_
 simp [NR]
 refine AA (GQ W T cs hb) ?_
 cases hr:Am W T cs with
 | false => simp
 | true =>
 simp
 refine AA (Qi cs hb) ?_
 simp
def nc (W T:Int) (cs:List Bool) (ls:List Int) (cell way:Int):List Int:= if (Am W T cs && AR W T cs ls) = true then Au W T cs ls cell way else []
def cN (W T:Int) (cs:List Bool) (ls:List Int) (cell way:Int):Bool:= Am W T cs && AR W T cs ls && Av W T cs ls cell way
theorem ZP (W T:Int) (cs:List Bool) (ls:List Int) (cell way:Int) (hb:cs.length < 2 ^ 40) (hl:ls.length < 2 ^ 40):
  SoundAt Tryz.prog SO [.agg [.v (.int .i64 W),.v (.int .i64 T),.sl 1 1 (AC cs)],.sl 1 1 (AB ls),.v (.int .i64 cell),.v (.int .i64 way)]
   (.tup [.os 1 (AB (nc W T cs ls cell way)),.v (.bool (cN W T cs ls cell way))]) [.bot,.bot,.bot,.bot]:= by
 refine AG (md:= md0) (ms:= [false,false,false,false]) ZM (by simp) ?_
 simp [SP]
 refine AA (Mv W T cs ls hb hl) ?_
 cases hp:(Am W T cs && AR W T cs ls) with
 | false =>
   have e1:nc W T cs ls cell way = []:= by unfold nc; rw [hp]; rfl
   have e2:cN W T cs ls cell way = false:= by unfold cN; rw [hp]; rfl
   rw [e1,e2]; simp
 | true =>
 have e1:nc W T cs ls cell way = Au W T cs ls cell way:= by unfold nc; rw [hp]; rfl
 have e2:cN W T cs ls cell way = Av W T cs ls cell way:= by unfold cN; rw [hp]; rfl
 rw [e1,e2]
 have h2:= hp
 simp only [AR,Bool.and_eq_true,decide_eq_true_eq] at h2
 simp
 refine AA (EG W T cs ls cell way h2.1 h2.2.1) ?_
 cases hf:Av W T cs ls cell way with
 | false =>
   simp [Au,hf]
   refine AA (Aq ls hl) ?_
   simp
 | true =>
   simp [Au,hf]
   refine AA (DQ W T cs ls cell way h2.1 h2.2.1 hf) ?_
   simp
def D6 (ls:List Int) (cell:Int):Bool:= decide (0 ≤ cell ∧ cell < ls.length ∧ ati ls cell ≠ 0)
def Uu (W T:Int) (cs:List Bool) (ls:List Int) (cell:Int):List Int:= if (Am W T cs && AR W T cs ls) = true then (if D6 ls cell = true then KU W T ls cell else ls) else []
def NY (W T:Int) (cs:List Bool) (ls:List Int) (cell:Int):Bool:= Am W T cs && AR W T cs ls && D6 ls cell
theorem SV (W T:Int) (cs:List Bool) (ls:List Int) (k:Nat) (hr:Am W T cs = true) (hy:AR W T cs ls = true) (hk:k < ls.length) (hv:ati ls k ≠ 0):
  SoundAt Tryz.prog LA [.agg [.v (.int .i64 W),.v (.int .i64 T),.sl 1 1 (AC cs)],.sl 1 1 (AB ls),.v (.int .i64 k)] (.os 1 (AB (KU W T ls k))) [.bot,.bot,.bot]:= by
 refine AG (md:= md0) (ms:= [false,false,false]) SQ (by simp) ?_
 have h36:= Ab hr
 have hl:= AY hy
 obtain ⟨t,e,ht,htk,_⟩:= TZ hr hy hk hv
 have eL:KU W T ls k = (ls.set t 0).set k 0:= by unfold KU; rw [e]; simp
 rw [eL]
 simp [LB]
 refine AA (Aq ls (by omega)) ?_
 have one:= Cv W T cs k (ati ls k) hr (by omega) (by omega)
 rw [e] at one
 simp [hk]
 (repeat' first | assumption | omega | apply And.intro) <;>
 ·refine AA one ?_
  have htk2:(AB ((ls.set t 0).set k 0)).take ls.length = AB ((ls.set t 0).set k 0):= List.take_of_length_le (by simp)
  simp [ht,hk,EA,IQ,htk2]
theorem XP (W T:Int) (cs:List Bool) (ls:List Int) (cell:Int) (hb:cs.length < 2 ^ 40) (hl:ls.length < 2 ^ 40):
  SoundAt Tryz.prog Py [.agg [.v (.int .i64 W),.v (.int .i64 T),.sl 1 1 (AC cs)],.sl 1 1 (AB ls),.v (.int .i64 cell)]
   (.tup [.os 1 (AB (Uu W T cs ls cell)),.v (.bool (NY W T cs ls cell))]) [.bot,.bot,.bot]:= by
 refine AG (md:= md0) (ms:= [false,false,false]) XN (by simp) ?_
 simp [Pz]
 refine AA (Mv W T cs ls hb hl) ?_
 cases hp:(Am W T cs && AR W T cs ls) with
 | false =>
   have e1:Uu W T cs ls cell = []:= by unfold Uu; rw [hp]; rfl
   have e2:NY W T cs ls cell = false:= by unfold NY; rw [hp]; rfl
   rw [e1,e2]; simp
 | true =>
 have e1:Uu W T cs ls cell = if D6 ls cell = true then KU W T ls cell else ls:= by unfold Uu; rw [hp]; rfl
 have e2:NY W T cs ls cell = D6 ls cell:= by unfold NY; rw [hp]; rfl
 rw [e1,e2]
 have h2:= hp
 simp only [Bool.and_eq_true] at h2
 have hlc:= AY h2.2
 simp
 refine AA (HW W T cs cell hb) ?_
 by_cases hc:0 ≤ cell ∧ cell < cs.length
 case neg =>
  have hc2:D6 ls cell = false:= decide_eq_false (fun x => hc ⟨x.1,by omega⟩)
  simp [hc,hc2]
  refine AA (Aq ls hl) ?_
  simp
 obtain ⟨k,rfl⟩:∃ k:Nat,cell = k:= ⟨cell.toNat,by omega⟩
 have hk:k < ls.length:= by omega
 have hk2:k < cs.length:= by omega
 by_cases hz:ati ls k = 0
 ·have hc2:D6 ls k = false:= decide_eq_false (fun x => x.2.2 hz)
  simp [hk,hk2,hz,hc2]
  refine AA (Aq ls hl) ?_
  simp
 ·have hc2:D6 ls k = true:= decide_eq_true ⟨by omega,by omega,hz⟩
  simp [hk,hk2,hz,hc2]
  refine AA (SV W T cs ls k h2.1 h2.2 hk hz) ?_
  simp
theorem aj (W T:Int) (h1:0 ≤ W ∧ W ≤ 6) (h2:0 ≤ T ∧ T ≤ 6):
  SoundAt Tryz.prog UO [.v (.int .i64 W),.v (.int .i64 T)] (.agg [.v (.int .i64 W),.v (.int .i64 T),.os 1 (AC (List.replicate (W * T).toNat false))]) [.bot,.bot]:= by
 refine AG (md:= md0) (ms:= [false,false]) ai (by simp) ?_
 have p0:0 ≤ W * T:= Int.mul_nonneg h1.1 h2.1
 have p1:W * T ≤ 6 * 6:= Int.mul_le_mul h1.2 h2.2 h2.1 (by omega)
 simp [UP,gU,p0]
 have e:(AC (List.replicate (W * T).toNat false)).length = (W * T).toNat:= by simp
 exact ⟨by omega,by omega,List.take_of_length_le (Nat.le_of_eq e)⟩
def nf (W T:Int):List Bool:= List.replicate (W * T).toNat true
def fY (W T:Int):Bool:= decide (1 ≤ W ∧ W ≤ 6 ∧ 1 ≤ T ∧ T ≤ 6 ∧ W * T ≤ 24)
theorem SW:SoundAt Tryz.prog NS [.v (.int .i64 2),.v (.int .i64 3)] (.agg [.v (.int .i64 2),.v (.int .i64 3),.os 1 (AC (List.replicate 6 true))]) [.bot,.bot]:= by
 refine AG (md:= md0) (ms:= [false,false]) Up (by simp) ?_
 simp [NT]
 refine AA (A8 (x:= 2) (lo:= 1) (hi:= 6) (by omega)) ?_
 simp
 refine AA (A8 (x:= 3) (lo:= 1) (hi:= 6) (by omega)) ?_
 simp
 refine AA (aj 2 3 (by omega) (by omega)) ?_
 simp
 refine AF (fun m E H => ∃ i:Nat,m = 6 - i ∧ i ≤ 6 ∧ H = [some (.box [.v (.int .i64 0),.v (.int .i64 0),.os 1 []]),some (.box [.v (.int .i64 2),.v (.int .i64 3),.ls 1 2 0 6]),some (.arr 1 (AC (List.replicate i true ++ List.replicate (6 - i) false)))] ∧
  E = [(4,.lp 0 0 0 0),(5,.lp 0 1 0 0),(27,.v (.int .i64 6)),(28,.v (.int .i64 i))]) 6 ⟨0,by simp⟩ ?_
 rintro J hJ m E H ⟨i,rfl,hi,rfl,rfl⟩
 by_cases h:i < 6
 ·have h':(i:Int) < 6:= by omega
  have e1:(List.replicate i true ++ List.replicate (6 - i) false).set i true = List.replicate (i + 1) true ++ List.replicate (6 - (i + 1)) false:= by
   have e2:6 - i = (6 - (i + 1)) + 1:= by omega
   rw [e2,List.replicate_succ,List.set_append_right _ _ (by simp)]
   simp [List.replicate_succ']
  simp [Fs,h',Z4,e1,h]
  exact ⟨by omega,by omega,_,by omega,hJ _ _ _ ⟨i + 1,rfl,h,by rw [show 5 - i = 6 - (i + 1) by omega],by simp⟩⟩
 ·have:i = 6:= by omega
  subst this
  simp [Fs]
  rfl
theorem Ot:SoundAt Tryz.prog UM [] (.v (.bool true)) []:= by
 refine AG (md:= md0) (ms:= []) ah (by simp) ?_
 simp [UN]
 refine AA SW ?_
 simp
 refine AA (Ut 2 3 (List.replicate 6 true) (by simp)) ?_
 simp
 exact ⟨rfl,by decide⟩
def fsL (P:List (Nat × Nat)):List Int:= P.map fun p => (p.1:Int)
def snL (P:List (Nat × Nat)):List Int:= P.map fun p => (p.2:Int)
@[simp] theorem ov (P:List (Nat × Nat)):(fsL P).length = P.length:= by simp [fsL]
@[simp] theorem ow (P:List (Nat × Nat)):(snL P).length = P.length:= by simp [snL]
theorem iH {P:List (Nat × Nat)} {i:Nat} (h:i < P.length):ati (fsL P) i = (P[i].1:Int):= by simp [fsL,ati,h]
theorem iI {P:List (Nat × Nat)} {i:Nat} (h:i < P.length):ati (snL P) i = (P[i].2:Int):= by simp [snL,ati,h]
def fK (os:List Nat):List Int:= os.map Int.ofNat
@[simp] theorem nh (os:List Nat):(fK os).length = os.length:= by simp [fK]
theorem ni {os:List Nat} {i:Nat} (h:i < os.length):ati (fK os) i = ((os[i]:Nat):Int):= by simp [fK,ati,h]
theorem iJ {P:List (Nat × Nat)} {i:Nat} (h:i < P.length):P[i].2 ≤ Mh (fun _ => 1) P:= by
 have h1:= Ju (fun _ => 1) (P.take i) (P.drop i)
 rw [List.take_append_drop,List.drop_eq_getElem_cons h] at h1
 have h2:Mh (fun _ => 1) (P[i]::P.drop (i + 1)) = P[i].2 + Mh (fun _ => 1) (P.drop (i + 1)):= by simp only [Mh,List.map_cons,List.sum_cons,Nat.mul_one]
 omega
theorem cP {P:List (Nat × Nat)} {os:List Nat} {v j:Nat} (h:j < os.length):DT P (os.take (j + 1)) v = YC (DT P (os.take j) v) os[j] v:= by
 unfold DT
 rw [List.take_succ_eq_append_getElem h,List.foldl_append]; rfl
abbrev XQ (W T:Int) (cs:List Bool):Option Row:= some (.box [.v (.int .i64 W),.v (.int .i64 T),.sl 1 1 (AC cs)])
set_option maxHeartbeats 1000000 in
theorem sN (W T:Int) (cs:List Bool) (P Q:List (Nat × Nat)) (os:List Nat) (c k v:Nat) (hk:k < P.length) (hv:P[k].2 = v) (hP:P.length ≤ 2 ^ 36) (hQ:Q.length + os.length ≤ 2 ^ 38) (hs:Mh (fun _ => 1) Q + v * os.length ≤ 2 ^ 40) {Qc:AExit → ES → AN → Prop} {E:ES} {H:AN}
  (hE:E = [(1,.lp 0 0 0 0),(3,.ls 1 1 0 P.length),(4,.ls 1 2 0 P.length),(5,.v (.int .i64 c)),(6,.ls 1 3 0 Q.length),(7,.ls 1 4 0 Q.length),(8,.v (.int .i64 k)),(11,.ls 1 5 0 os.length),(14,.v (.int .i64 0))])
  (hH:H = [XQ W T cs,some (.arr 1 (AB (fsL P))),some (.arr 1 (AB (snL P))),some (.arr 1 (AB (fsL Q))),some (.arr 1 (AB (snL Q))),some (.arr 1 (AB (fK os)))])
  (hend:Qc (.exit 5) [(118,.v (.bool false)),(117,.v (.int .i64 os.length)),(116,.ls 1 5 0 os.length),(115,.v (.int .i64 os.length)),(1,.lp 0 0 0 0),(3,.ls 1 1 0 P.length),(4,.ls 1 2 0 P.length),(5,.v (.int .i64 c)),(6,.ls 1 3 0 (DT Q os v).length),(7,.ls 1 4 0 (DT Q os v).length),(8,.v (.int .i64 k)),(11,.ls 1 5 0 os.length),(14,.v (.int .i64 os.length))]
   [XQ W T cs,some (.arr 1 (AB (fsL P))),some (.arr 1 (AB (snL P))),some (.arr 1 (AB (fsL (DT Q os v)))),some (.arr 1 (AB (snL (DT Q os v)))),some (.arr 1 (AB (fK os)))]):
  CM [(3,1),(4,1),(6,1),(7,1),(11,1)] [1,3,4,5,6,7,8,11,14] (awp Tryz.prog md0 C8) Qc E H:= by
 subst hE hH
 refine AF (fun m E H => ∃ j:Nat,m = os.length - j ∧ j ≤ os.length ∧
  H = [XQ W T cs,some (.arr 1 (AB (fsL P))),some (.arr 1 (AB (snL P))),some (.arr 1 (AB (fsL (DT Q (os.take j) v)))),some (.arr 1 (AB (snL (DT Q (os.take j) v)))),some (.arr 1 (AB (fK os)))] ∧
  E = [(1,.lp 0 0 0 0),(3,.ls 1 1 0 P.length),(4,.ls 1 2 0 P.length),(5,.v (.int .i64 c)),(6,.ls 1 3 0 (DT Q (os.take j) v).length),(7,.ls 1 4 0 (DT Q (os.take j) v).length),(8,.v (.int .i64 k)),(11,.ls 1 5 0 os.length),(14,.v (.int .i64 j))]) os.length ⟨0,by simp [DT]⟩ ?_
 rintro J hJ m E H ⟨j,rfl,hj,rfl,rfl⟩
 by_cases h:j < os.length
 case neg =>
  have:j = os.length:= by omega
  subst this
  rw [List.take_length]
  simp [C8]
  exact hend
 have hstep:= cP (P:= Q) (v:= v) h
 have hQl:= Mr v (os.take j) Q
 have hQs:Mh (fun _ => 1) (DT Q (os.take j) v) + v ≤ 2 ^ 40:= by
  rw [Mq,ZF,List.length_take]
  have:v * min j os.length + v ≤ v * os.length:= by
   rw [← Nat.mul_succ]; exact Nat.mul_le_mul_left _ (by omega)
  omega
 generalize hQj:DT Q (os.take j) v = Qj at *
 generalize hQn:DT Q (os.take (j + 1)) v = Qn at *
 have hlen:Qj.length ≤ 2 ^ 38:= by simp at hQl; omega
 obtain ⟨o,ho⟩:∃ o,os[j] = o:= ⟨_,rfl⟩
 rw [ho] at hstep
 have hoa:ati (fK os) j = (o:Int):= by rw [ni h,ho]
 have hva:ati (snL P) k = (v:Int):= by rw [iI hk,hv]
 have next:CL J (os.length - j) [(1,.lp 0 0 0 0),(3,.ls 1 1 0 P.length),(4,.ls 1 2 0 P.length),(5,.v (.int .i64 c)),(6,.ls 1 3 0 Qn.length),(7,.ls 1 4 0 Qn.length),(8,.v (.int .i64 k)),(11,.ls 1 5 0 os.length),(14,.v (.int .i64 (j + 1)))]
   [XQ W T cs,some (.arr 1 (AB (fsL P))),some (.arr 1 (AB (snL P))),some (.arr 1 (AB (fsL Qn))),some (.arr 1 (AB (snL Qn))),some (.arr 1 (AB (fK os)))]:= by
  refine ⟨_,by omega,hJ _ _ _ ⟨j + 1,rfl,h,?_,?_⟩⟩
  ·rw [hQn]
  ·rw [hQn]; simp
 simp [C8,h]
 refine AF (fun m E H => ∃ i:Nat,m = Qj.length - i ∧ i ≤ Qj.length ∧ (∀ i',i' < i → ∀ p,Qj[i']? = some p → p.1 ≠ o) ∧
  H = [XQ W T cs,some (.arr 1 (AB (fsL P))),some (.arr 1 (AB (snL P))),some (.arr 1 (AB (fsL Qj))),some (.arr 1 (AB (snL Qj))),some (.arr 1 (AB (fK os)))] ∧
  E = [(1,.lp 0 0 0 0),(3,.ls 1 1 0 P.length),(4,.ls 1 2 0 P.length),(5,.v (.int .i64 c)),(6,.ls 1 3 0 Qj.length),(7,.ls 1 4 0 Qj.length),(8,.v (.int .i64 k)),(11,.ls 1 5 0 os.length),(14,.v (.int .i64 j)),(15,.v (.int .i64 i))]) Qj.length ⟨0,by simp⟩ ?_
 rintro J2 hJ2 m2 E2 H2 ⟨i,rfl,hi,hne,rfl,rfl⟩
 by_cases h2:i < Qj.length
 case neg =>
  have:i = Qj.length:= by omega
  subst this
  have e1:Qn = Qj ++ [(o,v)]:= by
   rw [hstep]
   refine de v fun p hp => ?_
   obtain ⟨i',hi',rfl⟩:= List.mem_iff_getElem.1 hp
   exact hne i' hi' _ (by simp [hi'])
  have e2:AB (fsL Qn) = AB (fsL Qj) ++ [.v (.int .i64 o)]:= by rw [e1]; simp [fsL,AB]
  have e3:AB (snL Qn) = AB (snL Qj) ++ [.v (.int .i64 v)]:= by rw [e1]; simp [snL,AB]
  have e4:Qn.length = Qj.length + 1:= by rw [e1]; simp
  rw [e2,e3,e4] at next
  simp [C7,h,hoa,hva,hk]
  exact ⟨by omega,by omega,by omega,by omega,by omega,next⟩
 obtain ⟨p,hp⟩:∃ p,Qj[i] = p:= ⟨_,rfl⟩
 have hpa:ati (fsL Qj) i = (p.1:Int):= by rw [iH h2,hp]
 have hpb:ati (snL Qj) i = (p.2:Int):= by rw [iI h2,hp]
 have hw:= iJ h2
 rw [hp] at hw
 by_cases heq:p.1 = o
 ·have e1:Qn = Qj.set i (o,p.2 + v):= by
   rw [hstep]
   exact g0 v (by simp [h2,hp,← heq]) hne
  have e2:fsL Qn = fsL Qj:= by
   rw [e1]; unfold fsL
   rw [List.map_set]
   apply List.ext_getElem (by simp)
   intro a h3 h4
   rw [List.getElem_set]
   split
   ·rename_i he; subst he; simp [hp,heq]
   ·rfl
  have e3:snL Qn = (snL Qj).set i ((p.2:Int) + v):= by rw [e1]; unfold snL; rw [List.map_set]; simp
  have e4:Qn.length = Qj.length:= by rw [e1]; simp
  rw [e2,e3,e4] at next
  have heq':(p.1:Int) = o:= by omega
  have hne2:¬ (i:Int) = Qj.length:= by omega
  simp [C7,h,h2,hoa,hva,hk,hpa,hpb,heq',EA,hne2]
  exact ⟨by omega,by omega,next⟩
 ·have hne':¬ (p.1:Int) = o:= by omega
  simp [C7,h,h2,hoa,hpa,hne']
  refine ⟨by omega,_,by omega,hJ2 _ _ _ ⟨i + 1,rfl,h2,?_,rfl,by simp⟩⟩
  intro i' hi' q hq
  rcases Nat.lt_succ_iff_lt_or_eq.1 hi' with h3 | h3
  ·exact hne i' h3 q hq
  ·subst h3
   simp [h2,hp] at hq
   rw [← hq]; exact heq
def Gy (cs:List Bool):Nat → Bool:= fun i => atb cs i
def tmI (W T:Int) (cs:List Bool):Int:= if Am W T cs = true then ((Q7 W T cs.length 0 (Gy cs):Nat):Int) else -1
theorem dm {cs:List Bool}:∀ i,cs.length ≤ i → Gy cs i = false:= by
 intro i hi
 simp [Gy,atb,List.getElem?_eq_none hi]
theorem kR {s:Nat} {W:Int} (h:s < 2 ^ W.toNat):(s:Int) / 2 ^ W.toNat = 0:= by
 have:((2 ^ W.toNat:Nat):Int) = 2 ^ W.toNat:= by simp
 rw [← this]
 exact Int.ediv_eq_zero_of_lt (by omega) (by omega)
set_option maxHeartbeats 4000000 in
theorem sO (W T:Int) (cs:List Bool) (hr:Am W T cs = true) (c tot:Nat) (hc:c < cs.length) (P:List (Nat × Nat)) (hP:OkP W T (Gy cs) cs.length c tot P) {Qc:AExit → ES → AN → Prop} {E:ES} {H:AN}
  (hE:E = [(1,.lp 0 0 0 0),(3,.ls 1 1 0 P.length),(4,.ls 1 2 0 P.length),(5,.v (.int .i64 c)),(6,.ls 1 3 0 0),(7,.ls 1 4 0 0),(8,.v (.int .i64 0))])
  (hH:H = [XQ W T cs,some (.arr 1 (AB (fsL P))),some (.arr 1 (AB (snL P))),some (.arr 1 []),some (.arr 1 [])])
  (hend:∀ Q,MidP W T (Gy cs) cs.length c P P.length Q → Qc (.exit 2) [(35,.v (.bool false)),(34,.v (.int .i64 P.length)),(33,.ls 1 1 0 P.length),(32,.v (.int .i64 P.length)),(1,.lp 0 0 0 0),(3,.ls 1 1 0 P.length),(4,.ls 1 2 0 P.length),(5,.v (.int .i64 c)),(6,.ls 1 3 0 Q.length),(7,.ls 1 4 0 Q.length),(8,.v (.int .i64 P.length))]
   [XQ W T cs,some (.arr 1 (AB (fsL P))),some (.arr 1 (AB (snL P))),some (.arr 1 (AB (fsL Q))),some (.arr 1 (AB (snL Q)))]):
  CM [(3,1),(4,1),(6,1),(7,1)] [1,3,4,5,6,7,8] (awp Tryz.prog md0 BR) Qc E H:= by
 subst hE hH
 obtain ⟨w1,w2,t1,t2,l1,_⟩:= BT hr
 have h36:= Ab hr
 have hpow:2 ^ c ≤ 2 ^ 36:= Nat.pow_le_pow_right (by omega) (by omega)
 have hPl:P.length ≤ 2 ^ 36:= Nat.le_trans hP.len hpow
 have hPs:Mh (fun _ => 1) P ≤ 2 ^ 36:= Nat.le_trans hP.sum hpow
 refine AF (fun m E H => ∃ (k:Nat) (Q:List (Nat × Nat)),m = P.length - k ∧ k ≤ P.length ∧ MidP W T (Gy cs) cs.length c P k Q ∧
  H = [XQ W T cs,some (.arr 1 (AB (fsL P))),some (.arr 1 (AB (snL P))),some (.arr 1 (AB (fsL Q))),some (.arr 1 (AB (snL Q)))] ∧
  E = [(1,.lp 0 0 0 0),(3,.ls 1 1 0 P.length),(4,.ls 1 2 0 P.length),(5,.v (.int .i64 c)),(6,.ls 1 3 0 Q.length),(7,.ls 1 4 0 Q.length),(8,.v (.int .i64 k))]) P.length ⟨0,[],rfl,by omega,kL,by simp [fsL,snL],by simp⟩ ?_
 rintro J hJ m E H ⟨k,Q,rfl,hk',hQ,rfl,rfl⟩
 by_cases hk:k < P.length
 case neg =>
  have:k = P.length:= by omega
  subst this
  simp [BR]
  exact hend Q hQ
 obtain ⟨⟨s,v⟩,hp⟩:∃ p,P[k] = p:= ⟨_,rfl⟩
 have hpk:P[k]? = some (s,v):= by simp [hk,hp]
 have hsa:ati (fsL P) k = (s:Int):= by rw [iH hk,hp]
 have hv:P[k].2 = v:= by rw [hp]
 have hlt:= hP.lt _ (List.mem_of_getElem? hpk)
 have hw:= iJ hk
 rw [hv] at hw
 have hQl:= hQ.len
 have hQs:= hQ.sum
 have hQs2:= aW (fun _ => 1) P k
 have hol:= db (W:= W) (T:= T) (F:= Gy cs) (c:= c) (s:= s)
 have hmul:v * (Mp W T (Gy cs) c s).length ≤ v * 2:= Nat.mul_le_mul_left _ hol
 have hmid:= kM w1 dm hc hP hpk hQ
 have next:CL J (P.length - k) [(1,.lp 0 0 0 0),(3,.ls 1 1 0 P.length),(4,.ls 1 2 0 P.length),(5,.v (.int .i64 c)),(6,.ls 1 3 0 (DT Q (Mp W T (Gy cs) c s) v).length),(7,.ls 1 4 0 (DT Q (Mp W T (Gy cs) c s) v).length),(8,.v (.int .i64 (k + 1)))]
   [XQ W T cs,some (.arr 1 (AB (fsL P))),some (.arr 1 (AB (snL P))),some (.arr 1 (AB (fsL (DT Q (Mp W T (Gy cs) c s) v)))),some (.arr 1 (AB (snL (DT Q (Mp W T (Gy cs) c s) v))))]:=
  ⟨_,by omega,hJ _ _ _ ⟨k + 1,_,rfl,hk,hmid,rfl,by simp⟩⟩
 have hl1:= fun {Qc E H} hE hH hend => sN W T cs P Q (Mp W T (Gy cs) c s) c k v hk hv hPl (by omega) (by omega) (Qc:= Qc) (E:= E) (H:= H) hE hH hend
 have hW1:(W - 1).toNat = W.toNat - 1:= by omega
 have hshr:= kR hlt.1
 have hcov:(s % 2 = 1 ∨ Gy cs c = false) ∨ (s % 2 = 0 ∧ Gy cs c = true):= by
  rcases Nat.mod_two_eq_zero_or_one s with h | h
  ·cases hF:Gy cs c with
   | false => exact .inl (.inr rfl)
   | true => exact .inr ⟨h,rfl⟩
  ·exact .inl (.inl h)
 rcases hcov with hcov | ⟨hs0,hF⟩
 ·have hopts:Mp W T (Gy cs) c s = [s / 2]:= by unfold Mp; rw [if_pos hcov]
  have hcond:(s % 2 = 1) ∨ (s % 2 = 0 ∧ atb cs c = false):= by
   rcases hcov with h | h
   ·exact .inl h
   ·rcases Nat.mod_two_eq_zero_or_one s with h2 | h2
    ·exact .inr ⟨h2,h⟩
    ·exact .inl h2
  rcases hcond with h | ⟨h,h3⟩
  ·have h':(s:Int) % 2 = 1:= by omega
   simp [BR,hk,hsa,h',hc]
   have hs64:s < 2 ^ 6:= Nat.lt_of_lt_of_le hlt.1 (Nat.pow_le_pow_right (by omega) (by omega))
   refine ⟨by omega,hl1 ?_ ?_ ?_⟩
   ·simp [hopts]
   ·simp [hopts,fK,AB]
   simp
   exact ⟨by omega,next⟩
  ·have h':(s:Int) % 2 = 0:= by omega
   simp [BR,hk,hsa,h',hc,h3]
   have hs64:s < 2 ^ 6:= Nat.lt_of_lt_of_le hlt.1 (Nat.pow_le_pow_right (by omega) (by omega))
   refine ⟨by omega,hl1 ?_ ?_ ?_⟩
   ·simp [hopts]
   ·simp [hopts,fK,AB]
   simp
   exact ⟨by omega,next⟩
 have hFc:atb cs c = true:= hF
 have h':(s:Int) % 2 = 0:= by omega
 have hopts:Mp W T (Gy cs) c s = (if 0 ≤ AH W T c 1 ∧ Gy cs (c + 1) = true ∧ s / 2 % 2 = 0 then [s / 2 + 1] else []) ++ (if 0 ≤ AH W T c 2 ∧ Gy cs (c + W.toNat) = true then [s / 2 + 2 ^ (W.toNat - 1)] else []):= by
  unfold Mp; rw [if_neg (by simp [hF]; omega)]
 have two1:= Db W T cs c 1 hr (by omega) (by omega)
 have two2:= Db W T cs c 2 hr (by omega) (by omega)
 have hst1:= Da (T:= T) (k:= c) (way:= 1) w1 (by omega) (by omega)
 have hst2:= Da (T:= T) (k:= c) (way:= 2) w1 (by omega) (by omega)
 simp [BR,hk,hsa,h',hc,hFc]
 refine AA two1 ?_
 simp
 refine AA two2 ?_
 have eE:(AH W T c 1 = -1 ∧ AH W T c 1 = -1 ∧ AH W T c 1 = -1 ∧ AH W T c 1 = -1 ∧ AH W T c 1 = -1) ∨ (AH W T c 1 = (c:Int) + 1 ∧ (c:Int) + 1 < cs.length ∧ atb cs ((c:Int) + 1) = false ∧ atb cs ((c:Int) + 1) = false ∧ atb cs ((c:Int) + 1) = false) ∨
   (AH W T c 1 = (c:Int) + 1 ∧ (c:Int) + 1 < cs.length ∧ atb cs ((c:Int) + 1) = true ∧ s / 2 % 2 = 1 ∧ (s:Int) / 2 % 2 = 1) ∨ (AH W T c 1 = (c:Int) + 1 ∧ (c:Int) + 1 < cs.length ∧ atb cs ((c:Int) + 1) = true ∧ s / 2 % 2 = 0 ∧ (s:Int) / 2 % 2 = 0):= by
  rcases hst1 with h | h
  ·exact .inl ⟨h,h,h,h,h⟩
  ·have h3:= qL (W:= W) (T:= T) (c:= c) h.1
   have h4:AH W T c 1 = (c:Int) + 1:= by omega
   have h5:(c:Int) + 1 < cs.length:= by omega
   cases h6:atb cs ((c:Int) + 1) with
   | false => exact .inr (.inl ⟨h4,h5,rfl,rfl,rfl⟩)
   | true =>
     rcases Nat.mod_two_eq_zero_or_one (s / 2) with h7 | h7
     ·exact .inr (.inr (.inr ⟨h4,h5,rfl,h7,by omega⟩))
     ·exact .inr (.inr (.inl ⟨h4,h5,rfl,h7,by omega⟩))
 have eN:(AH W T c 2 = -1 ∧ AH W T c 2 = -1 ∧ AH W T c 2 = -1) ∨ (AH W T c 2 = (c:Int) + W ∧ (c:Int) + W < cs.length ∧ atb cs ((c:Int) + W) = false) ∨ (AH W T c 2 = (c:Int) + W ∧ (c:Int) + W < cs.length ∧ atb cs ((c:Int) + W) = true):= by
  rcases hst2 with h | h
  ·exact .inl ⟨h,h,h⟩
  ·have h3:= qM (W:= W) (T:= T) (c:= c) w1 h.1
   have h4:AH W T c 2 = (c:Int) + W:= by omega
   have h5:(c:Int) + W < cs.length:= by omega
   cases h6:atb cs ((c:Int) + W) with
   | false => exact .inr (.inl ⟨h4,h5,rfl⟩)
   | true => exact .inr (.inr ⟨h4,h5,rfl⟩)
 have fN:Gy cs (c + W.toNat) = atb cs ((c:Int) + W):= by
  unfold Gy; congr 1; omega
 have fE:Gy cs (c + 1) = atb cs ((c:Int) + 1):= rfl
 rw [fE,fN] at hopts
 clear hst1 hst2 two1 two2
 have n1:0 ≤ (c:Int) + 1:= by omega
 have n2:0 ≤ (c:Int) + W:= by omega
 have n3:W ≤ 63:= by omega
 have n4:0 ≤ W - 1:= by omega
 have n5:W - 1 ≤ 62:= by omega
 have n6:0 ≤ W:= by omega
 have hpw:(2:Int) ^ (W.toNat - 1) ≤ 32 ∧ 1 ≤ (2:Int) ^ (W.toNat - 1):= by
  have h1:2 ^ (W.toNat - 1) ≤ 2 ^ 5:= Nat.pow_le_pow_right (by omega) (by omega)
  have h2:0 < 2 ^ (W.toNat - 1):= Nat.pow_pos (by omega)
  have h3:((2 ^ (W.toNat - 1):Nat):Int) = 2 ^ (W.toNat - 1):= by simp
  omega
 have hs64:s < 64:= by
  have h1:2 ^ W.toNat ≤ 2 ^ 6:= Nat.pow_le_pow_right (by omega) (by omega)
  have:= hlt.1
  omega
 rcases eE with ⟨a1,a2,a3,a4,a5⟩ | ⟨a1,a2,a3,a4,a5⟩ | ⟨a1,a2,a3,a4,a5⟩ | ⟨a1,a2,a3,a4,a5⟩ <;> rcases eN with ⟨b1,b2,b3⟩ | ⟨b1,b2,b3⟩ | ⟨b1,b2,b3⟩ <;>
 ·simp [a1,a2,a3,a5,b1,b2,b3,n1,n2,n3,n4,n5,n6,hshr,hW1]
  (repeat' first | omega | (refine hl1 ?_ ?_ ?_) | apply And.intro)
  ·simp [hopts,a1,a2,a3,a4,b1,b2,b3,n1,n2]
  ·simp [hopts,a1,a2,a3,a4,b1,b2,b3,n1,n2,fK,AB]
  ·simp
   exact ⟨by omega,next⟩
end Go.Proofs.Dev
