/- Contracts of the functions of the program over slots and rows, each proved against the program itself; no condition beyond those that each theorem names. -/
import Derived.Test.YtfkmfobbgoflgaaGreatDoorAL
import Derived.Test.YtfkmfobbgoflgaaGreatDoorProg
import Derived.Test.YtfkmfobbgoflgaaGreatDoorAI
set_option linter.unusedSimpArgs false
set_option linter.unusedVariables false
set_option maxRecDepth 100000
namespace Go.Proofs.Dev
def tL (f:Int → Int) (ds:List Int) (i:Nat):List Int:= (ds.take i).map f ++ ds.drop i
@[simp] abbrev Rx:Nat:= 198
def Ry:ACode:= .seq (.reg [.o 3 .box [.t 0],.o 6 .mv [.k 0]]) <| .seq (.seq (.reg [.la 7 3 3,.o 8 (.call 168 []) [.t 7],.o 9 (.un .not) [.t 8],.m 10 9,.mg 11 1 10 false,.fg 12 2 3 10 false,.lg 13 12 10 false,.g 14 (.len false) [.t 13] 10 false,.g 15 (.bin .sub 0) [.t 14,.k 1] 10 false,.g 16 (.call 106 []) [.t 11,.k 0,.t 15] 10 false,.g 17 (.un .not) [.t 16] 10 false,.o 18 .pick [.t 10,.kb true,.t 17],.m 19 18,.mg 20 2 19 false,.g 21 (.call 106 []) [.t 20,.k 1,.k 4] 19 false,.g 22 (.un .not) [.t 21] 19 false,.o 23 .pick [.t 19,.kb true,.t 22]]) <| .cond (.t 23) ( .seq (.reg [.o 6 .mv [.k (-1)]]) <| .ret) ( .skip)) <| .seq (.reg [.la 24 3 3,.m 25 1,.m 26 2,.o 27 (.call 169 []) [.t 24,.t 25,.t 26],.m 6 27]) <| .ret
theorem Y2:cFn Tryz.prog Rx 28 [.t 6] Ry:= ⟨Tryz.f198,_,Tryz.func198,rfl,by kernel_rfl,by kernel_rfl,by kernel_rfl,by kernel_rfl⟩
@[simp] abbrev Rz:Nat:= 140
def R0:ACode:= .seq (.reg [.o 4 .box [.t 0],.o 8 .mv [.c (.os 1 [])],.o 9 .mv [.kb false]]) <| .seq (.seq (.reg [.la 12 3 4,.m 13 1,.o 14 (.call 122 []) [.t 12,.t 13],.o 15 (.un .not) [.t 14]]) <| .cond (.t 15) ( .seq (.reg [.o 16 (.bsl 1) [],.m 8 16,.o 9 .mv [.kb false]]) <| .ret) ( .skip)) <| .seq (.reg [.o 17 (.bsl 1) [],.m 18 1,.o 19 (.app 1 8 true) [.t 17,.t 18],.m 10 19]) <| .seq (.reg [.la 20 3 4,.m 21 2,.m 22 3,.o 23 (.call 198 []) [.t 20,.t 21,.t 22],.m 11 23]) <| .seq (.seq (.reg [.m 24 11,.o 25 (.bin .lss 0) [.t 24,.k 0],.m 26 25,.fg 27 2 4 26 false,.lg 28 27 26 false,.mg 29 2 26 false,.g 30 (.iadr 1) [.t 28,.t 29] 26 false,.lg 31 30 26 false,.g 32 (.un .not) [.t 31] 26 false,.o 33 .pick [.t 26,.kb true,.t 32],.m 34 33,.fg 35 2 4 34 false,.lg 36 35 34 false,.mg 37 11 34 false,.g 38 (.iadr 1) [.t 36,.t 37] 34 false,.lg 39 38 34 false,.g 40 (.un .not) [.t 39] 34 false,.o 41 .pick [.t 34,.kb true,.t 40],.m 42 41,.mg 43 1 42 false,.mg 44 2 42 false,.g 45 (.iadr 1) [.t 43,.t 44] 42 false,.lg 46 45 42 false,.g 47 (.bin .neq 0) [.t 46,.k 0] 42 false,.o 48 .pick [.t 42,.kb true,.t 47],.m 49 48,.mg 50 1 49 false,.mg 51 11 49 false,.g 52 (.iadr 1) [.t 50,.t 51] 49 false,.lg 53 52 49 false,.g 54 (.bin .neq 0) [.t 53,.k 0] 49 false,.o 55 .pick [.t 49,.kb true,.t 54]]) <| .cond (.t 55) ( .seq (.reg [.m 56 10,.m 8 56,.o 9 .mv [.kb false]]) <| .ret) ( .skip)) <| .seq (.reg [.m 57 10,.m 58 2,.m 59 3,.o 60 (.iadr 1) [.t 57,.t 58],.s (.store 1) [.t 60,.t 59]]) <| .seq (.reg [.m 61 10,.m 62 11,.m 63 3,.o 64 (.call 170 []) [.t 63],.o 65 (.iadr 1) [.t 61,.t 62],.s (.store 1) [.t 65,.t 64]]) <| .seq (.reg [.m 66 10,.m 8 66,.o 9 .mv [.kb true]]) <| .ret
theorem Y3:cFn Tryz.prog Rz 67 [.t 8,.t 9] R0:= ⟨Tryz.f140,_,Tryz.func140,rfl,by kernel_rfl,by kernel_rfl,by kernel_rfl,by kernel_rfl⟩
@[simp] abbrev Lw:Nat:= 229
def Lx:ACode:= .seq (.reg [.o 2 .box [.t 0],.o 4 .mv [.kb false]]) <| .seq (.reg [.m 5 1,.f 6 2 2,.l 7 6,.n 8 7,.o 9 (.bin .sub 0) [.t 8,.k 1],.o 10 (.call 63 []) [.t 5,.k 0,.t 9],.m 4 10]) <| .ret
theorem TJ:cFn Tryz.prog Lw 11 [.t 4] Lx:= ⟨Tryz.f229,_,Tryz.func229,rfl,by kernel_rfl,by kernel_rfl,by kernel_rfl,by kernel_rfl⟩
@[simp] abbrev Kv:Nat:= 234
def Kw:ACode:= .seq (.reg [.o 4 .box [.t 0],.o 8 .mv [.kb false]]) <| .seq (.seq (.reg [.la 10 3 4,.m 11 2,.o 12 (.call 229 []) [.t 10,.t 11],.o 13 (.un .not) [.t 12]]) <| .cond (.t 13) ( .seq (.reg [.o 8 .mv [.kb false]]) <| .ret) ( .skip)) <| .seq (.reg [.la 14 3 4,.m 15 2,.m 16 3,.o 17 (.call 205 []) [.t 14,.t 15,.t 16],.m 9 17]) <| .seq (.reg [.m 18 9,.o 19 (.bin .geq 0) [.t 18,.k 0],.m 20 19,.fg 21 2 4 20 true,.lg 22 21 20 true,.mg 23 2 20 true,.g 24 (.iadr 1) [.t 22,.t 23] 20 true,.lg 25 24 20 true,.o 26 .pick [.t 20,.t 25,.kb false],.m 27 26,.fg 28 2 4 27 true,.lg 29 28 27 true,.mg 30 9 27 true,.g 31 (.iadr 1) [.t 29,.t 30] 27 true,.lg 32 31 27 true,.o 33 .pick [.t 27,.t 32,.kb false],.m 34 33,.mg 35 1 34 true,.mg 36 2 34 true,.g 37 (.iadr 1) [.t 35,.t 36] 34 true,.lg 38 37 34 true,.g 39 (.bin .eql 0) [.t 38,.k 0] 34 true,.o 40 .pick [.t 34,.t 39,.kb false],.m 41 40,.mg 42 1 41 true,.mg 43 9 41 true,.g 44 (.iadr 1) [.t 42,.t 43] 41 true,.lg 45 44 41 true,.g 46 (.bin .eql 0) [.t 45,.k 0] 41 true,.o 47 .pick [.t 41,.t 46,.kb false],.m 8 47]) <| .ret
theorem R1:cFn Tryz.prog Kv 48 [.t 8] Kw:= ⟨Tryz.f234,_,Tryz.func234,rfl,by kernel_rfl,by kernel_rfl,by kernel_rfl,by kernel_rfl⟩
@[simp] abbrev Ly:Nat:= 235
def Lz:ACode:= .seq (.reg [.o 4 .box [.t 0],.o 8 .mv [.c (.os 1 [])]]) <| .seq (.reg [.m 10 1,.o 11 (.call 126 []) [.t 10],.m 9 11]) <| .seq (.reg [.m 12 9,.m 13 2,.m 14 9,.la 15 3 4,.m 16 2,.m 17 3,.o 18 (.call 205 []) [.t 15,.t 16,.t 17],.m 19 3,.m 20 3,.o 21 (.call 206 []) [.t 20],.o 22 (.iadr 1) [.t 12,.t 13],.s (.store 1) [.t 22,.t 19],.o 23 (.iadr 1) [.t 14,.t 18],.s (.store 1) [.t 23,.t 21]]) <| .seq (.reg [.m 24 9,.m 8 24]) <| .ret
theorem TK:cFn Tryz.prog Ly 25 [.t 8] Lz:= ⟨Tryz.f235,_,Tryz.func235,rfl,by kernel_rfl,by kernel_rfl,by kernel_rfl,by kernel_rfl⟩
@[simp] abbrev Kx:Nat:= 186
def Ky:ACode:= .seq (.reg [.o 3 .box [.t 0],.o 6 .mv [.kb false]]) <| .seq (.reg [.la 7 3 3,.m 8 2,.o 9 (.call 229 []) [.t 7,.t 8],.m 10 9,.fg 11 2 3 10 true,.lg 12 11 10 true,.mg 13 2 10 true,.g 14 (.iadr 1) [.t 12,.t 13] 10 true,.lg 15 14 10 true,.o 16 .pick [.t 10,.t 15,.kb false],.m 17 16,.mg 18 1 17 true,.mg 19 2 17 true,.g 20 (.iadr 1) [.t 18,.t 19] 17 true,.lg 21 20 17 true,.g 22 (.bin .eql 0) [.t 21,.k 0] 17 true,.o 23 .pick [.t 17,.t 22,.kb false],.m 6 23]) <| .ret
theorem R2:cFn Tryz.prog Kx 24 [.t 6] Ky:= ⟨Tryz.f186,_,Tryz.func186,rfl,by kernel_rfl,by kernel_rfl,by kernel_rfl,by kernel_rfl⟩
@[simp] abbrev IA:Nat:= 228
abbrev Ee:Plan:= .al (.g 28 (.call 137 []) [.t 21,.t 22,.t 27] 20 true) ( .take (.o 29 .pick [.t 20,.t 28,.kb false]) <| .done)
abbrev Ef:Plan:= .al (.g 27 (.call 235 []) [.t 23,.t 24,.t 25,.t 26] 20 true) Ee
def DP:ACode:= .seq (.seq (.reg [.m 11 10,.o 12 (.bin .leq 0) [.t 11,.k 4]]) <| .cond (.t 12) ( .skip) ( .exit 0)) <| .seq (.block 1 ( .seq (.draw ( .take (.m 16 2) <| .take (.m 17 3) <| .take (.m 18 10) <| .al (.la 15 3 4) ( .al (.o 19 (.call 234 []) [.t 15,.t 16,.t 17,.t 18]) ( .take (.m 20 19) <| .take (.mg 22 1 20 true) <| .take (.mg 24 2 20 true) <| .take (.mg 25 3 20 true) <| .take (.mg 26 10 20 true) <| .alt (.g 21 (.load true 3) [.t 4] 20 true) ( .al (.g 23 (.load true 3) [.t 4] 20 true) Ef) <| .al (.g 23 (.load true 3) [.t 4] 20 true) ( .alt (.g 21 (.load true 3) [.t 4] 20 true) Ef <| .al (.g 27 (.call 235 []) [.t 23,.t 24,.t 25,.t 26] 20 true) ( .al (.g 21 (.load true 3) [.t 4] 20 true) Ee)))))) <| .cond (.t 29) ( .reg [.m 30 9,.m 31 10,.o 32 (.bsl 1) [.t 31],.o 33 (.app 1 8 true) [.t 30,.t 32],.m 9 33]) ( .skip))) <| .reg [.m 13 10,.o 14 (.bin .add 0) [.t 13,.k 1],.m 10 14]
def IB:ACode:= .seq (.reg [.o 4 .box [.t 0],.o 8 .mv [.c (.os 1 [])]]) <| .seq (.reg [.o 9 .mv [.c (.os 1 [])]]) <| .seq (.seq (.reg [.o 10 .mv [.k 1]]) <| .block 0 ( .loop [(1,1),(2,1),(9,1)] [1,2,3,4,9,10] DP)) <| .seq (.reg [.m 34 9,.o 35 (.call 175 []) [.t 34],.m 8 35]) <| .ret
theorem OR:cFn Tryz.prog IA 36 [.t 8] IB:= ⟨Tryz.f228,_,Tryz.func228,rfl,by kernel_rfl,by kernel_rfl,by kernel_rfl,by kernel_rfl⟩
@[simp] abbrev NA:Nat:= 149
def Fm:ACode:= .seq (.seq (.reg [.m 14 10,.o 15 (.bin .leq 0) [.t 14,.k 4],.m 16 15,.g 17 (.load true 3) [.t 4] 16 true,.mg 18 1 16 true,.mg 19 2 16 true,.g 20 (.call 59 []) [.t 17,.t 18,.t 19] 16 true,.o 21 .pick [.t 16,.t 20,.kb false]]) <| .cond (.t 21) ( .skip) ( .exit 0)) <| .seq (.block 1 ( .seq (.reg [.la 25 3 4,.m 26 2,.m 27 3,.m 28 10,.o 29 (.call 140 []) [.t 25,.t 26,.t 27,.t 28],.m 24 29,.e 30 0 24,.e 31 1 24,.m 11 30,.m 12 31]) <| .seq (.reg [.m 32 12,.m 33 32,.g 34 (.load true 3) [.t 4] 33 true,.mg 35 1 33 true,.mg 36 11 33 true,.g 37 (.call 59 []) [.t 34,.t 35,.t 36] 33 true,.o 38 .pick [.t 33,.t 37,.kb false]]) <| .cond (.t 38) ( .reg [.m 39 9,.m 40 10,.o 41 (.bsl 1) [.t 40],.o 42 (.app 1 8 true) [.t 39,.t 41],.m 9 42]) ( .skip))) <| .reg [.m 22 10,.o 23 (.bin .add 0) [.t 22,.k 1],.m 10 23]
def NB:ACode:= .seq (.reg [.o 4 .box [.t 0],.o 8 .mv [.c (.os 1 [])]]) <| .seq (.reg [.o 13 (.bsl 1) [],.m 9 13]) <| .seq (.seq (.reg [.o 10 .mv [.k 1]]) <| .block 0 ( .loop [(1,1),(2,1),(9,1)] [1,2,3,4,9,10] Fm)) <| .seq (.reg [.m 43 9,.m 8 43]) <| .ret
theorem Uc:cFn Tryz.prog NA 44 [.t 8] NB:= ⟨Tryz.f149,_,Tryz.func149,rfl,by kernel_rfl,by kernel_rfl,by kernel_rfl,by kernel_rfl⟩
@[simp] abbrev Jf:Nat:= 184
def D3:ACode:= .seq (.reg [.o 13 (.bin .lss 0) [.t 12,.t 11]]) <| .seq (.cond (.t 13) ( .skip) ( .exit 0)) <| .seq (.block 1 ( .seq (.reg [.m 14 12,.m 9 14]) <| .seq (.reg [.la 15 3 4,.m 16 2,.m 17 9,.o 18 (.call 186 []) [.t 15,.t 16,.t 17],.m 19 18,.g 20 (.load true 3) [.t 4] 19 true,.mg 21 1 19 true,.mg 22 2 19 true,.mg 23 9 19 true,.g 24 (.call 228 []) [.t 20,.t 21,.t 22,.t 23] 19 true,.g 25 (.len false) [.t 24] 19 true,.mg 26 3 19 true,.g 27 (.bin .eql 0) [.t 25,.t 26] 19 true,.o 28 .pick [.t 19,.t 27,.kb false]]) <| .cond (.t 28) ( .seq (.reg [.m 29 9,.m 8 29]) <| .ret) ( .skip))) <| .reg [.o 30 (.bin .add 0) [.t 12,.k 1],.m 12 30]
def Jg:ACode:= .seq (.reg [.o 4 .box [.t 0],.o 8 .mv [.k 0]]) <| .seq (.seq (.reg [.m 10 2,.n 11 10,.o 12 .mv [.k 0]]) <| .block 0 ( .loop [(1,1),(2,1)] [1,2,3,4,11,12] D3)) <| .seq (.reg [.o 8 .mv [.k (-1)]]) <| .ret
theorem Ql:cFn Tryz.prog Jf 31 [.t 8] Jg:= ⟨Tryz.f184,_,Tryz.func184,rfl,by kernel_rfl,by kernel_rfl,by kernel_rfl,by kernel_rfl⟩
@[simp] abbrev V1:Nat:= 81
def LW:ACode:= .seq (.seq (.reg [.m 8 7,.m 9 2,.n 10 9,.o 11 (.bin .lss 0) [.t 8,.t 10],.m 12 11,.g 13 (.load true 3) [.t 3] 12 true,.mg 14 1 12 true,.mg 15 2 12 true,.g 16 (.call 59 []) [.t 13,.t 14,.t 15] 12 true,.o 17 .pick [.t 12,.t 16,.kb false]]) <| .cond (.t 17) ( .skip) ( .exit 0)) <| .seq (.block 1 ( .seq (.reg [.f 20 2 3,.l 21 20,.m 22 7,.o 23 (.iadr 1) [.t 21,.t 22],.l 24 23,.m 25 24,.mg 26 2 25 true,.mg 27 7 25 true,.g 28 (.iadr 1) [.t 26,.t 27] 25 true,.lg 29 28 25 true,.g 30 (.bin .eql 0) [.t 29,.k 0] 25 true,.o 31 .pick [.t 25,.t 30,.kb false],.m 32 31,.g 33 (.load true 3) [.t 3] 32 true,.mg 34 1 32 true,.mg 35 2 32 true,.mg 36 7 32 true,.g 37 (.call 149 []) [.t 33,.t 34,.t 35,.t 36] 32 true,.g 38 (.len false) [.t 37] 32 true,.g 39 (.bin .eql 0) [.t 38,.k 0] 32 true,.o 40 .pick [.t 32,.t 39,.kb false]]) <| .cond (.t 40) ( .seq (.reg [.o 6 .mv [.kb true]]) <| .ret) ( .skip))) <| .reg [.m 18 7,.o 19 (.bin .add 0) [.t 18,.k 1],.m 7 19]
def V2:ACode:= .seq (.reg [.o 3 .box [.t 0],.o 6 .mv [.kb false]]) <| .seq (.seq (.reg [.o 7 .mv [.k 0]]) <| .block 0 ( .loop [(1,1),(2,1)] [1,2,3,7] LW)) <| .seq (.reg [.o 6 .mv [.kb false]]) <| .ret
theorem b9:cFn Tryz.prog V1 41 [.t 6] V2:= ⟨Tryz.f81,_,Tryz.func81,rfl,by kernel_rfl,by kernel_rfl,by kernel_rfl,by kernel_rfl⟩
@[simp] abbrev V3:Nat:= 132
def V4:ACode:= .seq (.reg [.o 3 .box [.t 0],.o 6 .mv [.kb false]]) <| .seq (.reg [.la 7 3 3,.m 8 1,.m 9 2,.o 10 (.call 98 []) [.t 7,.t 8,.t 9],.m 11 10,.g 12 (.load true 3) [.t 3] 11 true,.mg 13 1 11 true,.mg 14 2 11 true,.g 15 (.call 184 []) [.t 12,.t 13,.t 14,.k 0] 11 true,.g 16 (.bin .geq 0) [.t 15,.k 0] 11 true,.o 17 .pick [.t 11,.t 16,.kb false],.m 6 17]) <| .ret
theorem cA:cFn Tryz.prog V3 18 [.t 6] V4:= ⟨Tryz.f132,_,Tryz.func132,rfl,by kernel_rfl,by kernel_rfl,by kernel_rfl,by kernel_rfl⟩
@[simp] abbrev Jh:Nat:= 239
abbrev D4:Plan:= .al (.o 27 (.call 235 []) [.t 17,.t 18,.t 19,.t 26]) ( .take (.m 6 27) <| .take (.o 7 .mv [.kb true]) <| .done)
abbrev G3:Plan:= .al (.o 24 (.call 228 []) [.t 20,.t 21,.t 22,.t 23]) ( .take (.o 25 (.iadr 1) [.t 24,.k 0]) <| .al (.l 26 25) D4)
def Ji:ACode:= .seq (.reg [.o 3 .box [.t 0],.o 6 .mv [.c (.os 1 [])],.o 7 .mv [.kb false]]) <| .seq (.reg [.la 9 3 3,.m 10 1,.m 11 2,.o 12 (.call 184 []) [.t 9,.t 10,.t 11,.k 1],.m 8 12]) <| .seq (.seq (.reg [.m 13 8,.o 14 (.bin .lss 0) [.t 13,.k 0]]) <| .cond (.t 14) ( .seq (.reg [.m 15 2,.o 16 (.call 126 []) [.t 15],.m 6 16,.o 7 .mv [.kb false]]) <| .ret) ( .skip)) <| .seq (.draw ( .take (.m 18 2) <| .take (.m 19 8) <| .take (.m 21 1) <| .take (.m 22 2) <| .take (.m 23 8) <| .alt (.la 17 3 3) ( .al (.la 20 3 3) G3) <| .al (.la 20 3 3) ( .alt (.la 17 3 3) G3 <| .al (.o 24 (.call 228 []) [.t 20,.t 21,.t 22,.t 23]) ( .take (.o 25 (.iadr 1) [.t 24,.k 0]) <| .alt (.la 17 3 3) ( .al (.l 26 25) D4) <| .al (.l 26 25) ( .al (.la 17 3 3) D4))))) <| .ret
theorem Qm:cFn Tryz.prog Jh 28 [.t 6,.t 7] Ji:= ⟨Tryz.f239,_,Tryz.func239,rfl,by kernel_rfl,by kernel_rfl,by kernel_rfl,by kernel_rfl⟩
@[simp] abbrev OS:Nat:= 201
abbrev IC:Plan:= .al (.o 36 (.call 140 []) [.t 30,.t 31,.t 32,.t 35]) ( .take (.e 37 0 36) <| .take (.e 38 1 36) <| .take (.m 6 37) <| .take (.m 7 38) <| .done)
def GS:ACode:= .seq (.seq (.reg [.m 16 8,.m 17 2,.n 18 17,.o 19 (.bin .lss 0) [.t 16,.t 18]]) <| .cond (.t 19) ( .skip) ( .exit 0)) <| .seq (.block 1 ( .seq (.reg [.la 22 3 3,.m 23 1,.m 24 2,.m 25 8,.o 26 (.call 149 []) [.t 22,.t 23,.t 24,.t 25],.m 9 26]) <| .seq (.reg [.m 27 9,.n 28 27,.o 29 (.bin .eql 0) [.t 28,.k 1]]) <| .cond (.t 29) ( .seq (.draw ( .take (.m 31 2) <| .take (.m 32 8) <| .take (.m 33 9) <| .take (.o 34 (.iadr 1) [.t 33,.k 0]) <| .alt (.la 30 3 3) ( .al (.l 35 34) IC) <| .al (.l 35 34) ( .al (.la 30 3 3) IC))) <| .ret) ( .skip))) <| .reg [.m 20 8,.o 21 (.bin .add 0) [.t 20,.k 1],.m 8 21]
def OT:ACode:= .seq (.reg [.o 3 .box [.t 0],.o 6 .mv [.c (.os 1 [])],.o 7 .mv [.kb false]]) <| .seq (.seq (.reg [.la 10 3 3,.m 11 1,.m 12 2,.o 13 (.call 59 []) [.t 10,.t 11,.t 12],.o 14 (.un .not) [.t 13]]) <| .cond (.t 14) ( .seq (.reg [.o 15 (.bsl 1) [],.m 6 15,.o 7 .mv [.kb false]]) <| .ret) ( .skip)) <| .seq (.seq (.reg [.o 8 .mv [.k 0]]) <| .block 0 ( .loop [(1,1),(2,1)] [1,2,3,8] GS)) <| .seq (.reg [.o 39 (.bsl 1) [],.m 40 2,.o 41 (.app 1 8 true) [.t 39,.t 40],.m 6 41,.o 7 .mv [.kb false]]) <| .ret
theorem V5:cFn Tryz.prog OS 42 [.t 6,.t 7] OT:= ⟨Tryz.f201,_,Tryz.func201,rfl,by kernel_rfl,by kernel_rfl,by kernel_rfl,by kernel_rfl⟩
@[simp] abbrev G4:Nat:= 193
def FW:ACode:= .block 1 ( .seq (.reg [.la 10 3 3,.m 11 1,.m 12 2,.o 13 (.call 239 []) [.t 10,.t 11,.t 12],.m 9 13,.e 14 0 9,.e 15 1 9,.m 7 14,.m 8 15]) <| .seq (.seq (.reg [.m 16 8,.o 17 (.un .not) [.t 16]]) <| .cond (.t 17) ( .seq (.reg [.m 18 7,.m 6 18]) <| .ret) ( .skip)) <| .reg [.m 19 7,.m 2 19])
def G5:ACode:= .seq (.reg [.o 3 .box [.t 0],.o 6 .mv [.c (.os 1 [])]]) <| .block 0 ( .loop [(1,1),(2,1)] [1,2,3] FW)
theorem Nv:cFn Tryz.prog G4 20 [.t 6] G5:= ⟨Tryz.f193,_,Tryz.func193,rfl,by kernel_rfl,by kernel_rfl,by kernel_rfl,by kernel_rfl⟩
@[simp] abbrev OU:Nat:= 143
def Kz:ACode:= .block 1 ( .seq (.reg [.la 20 3 3,.m 21 1,.m 22 7,.o 23 (.call 201 []) [.t 20,.t 21,.t 22],.m 19 23,.e 24 0 19,.e 25 1 19,.m 8 24,.m 9 25]) <| .seq (.seq (.reg [.m 26 9,.o 27 (.un .not) [.t 26]]) <| .cond (.t 27) ( .seq (.reg [.m 28 7,.m 6 28]) <| .ret) ( .skip)) <| .reg [.m 29 8,.m 7 29])
def OV:ACode:= .seq (.reg [.o 3 .box [.t 0],.o 6 .mv [.c (.os 1 [])]]) <| .seq (.seq (.reg [.la 10 3 3,.m 11 1,.m 12 2,.o 13 (.call 59 []) [.t 10,.t 11,.t 12],.o 14 (.un .not) [.t 13]]) <| .cond (.t 14) ( .seq (.reg [.o 15 (.bsl 1) [],.m 6 15]) <| .ret) ( .skip)) <| .seq (.reg [.o 16 (.bsl 1) [],.m 17 2,.o 18 (.app 1 8 true) [.t 16,.t 17],.m 7 18]) <| .block 0 ( .loop [(1,1),(7,1)] [1,3,7] Kz)
theorem V6:cFn Tryz.prog OU 30 [.t 6] OV:= ⟨Tryz.f143,_,Tryz.func143,rfl,by kernel_rfl,by kernel_rfl,by kernel_rfl,by kernel_rfl⟩
theorem Dc {x lo hi:Int} (h:lo ≤ x ∧ x ≤ hi):SoundAt Tryz.prog Mn [.v (.int .i64 x),.v (.int .i64 lo),.v (.int .i64 hi)] (.v (.bool true)) [.bot,.bot,.bot]:= by
 have:= A7 x lo hi
 rwa [decide_eq_true h] at this
theorem Ex {x lo hi:Int} (h:¬ (lo ≤ x ∧ x ≤ hi)):SoundAt Tryz.prog Mn [.v (.int .i64 x),.v (.int .i64 lo),.v (.int .i64 hi)] (.v (.bool false)) [.bot,.bot,.bot]:= by
 have:= A7 x lo hi
 rwa [decide_eq_false h] at this
theorem HW (W T:Int) (cs:List Bool) (cell:Int) (hb:cs.length < 2 ^ 40):
  SoundAt Tryz.prog Lw [.agg [.v (.int .i64 W),.v (.int .i64 T),.sl 1 1 (AC cs)],.v (.int .i64 cell)] (.v (.bool (decide (0 ≤ cell ∧ cell < cs.length)))) [.bot,.bot]:= by
 refine AG (md:= md0) (ms:= [false,false]) TJ (by simp) ?_
 simp [Lx]
 refine ⟨by omega,?_⟩
 by_cases h:0 ≤ cell ∧ cell < cs.length
 ·refine AA (A8 (x:= cell) (lo:= 0) (hi:= cs.length - 1) (by omega)) ?_
  simp [h]
 ·refine AA (Ea (x:= cell) (lo:= 0) (hi:= cs.length - 1) (by omega)) ?_
  simp; omega
theorem K0 (W T:Int) (cs:List Bool) (ls:List Int) (cell:Int) (hb:cs.length < 2 ^ 40) (hl:ls.length = cs.length):
  SoundAt Tryz.prog Kx [.agg [.v (.int .i64 W),.v (.int .i64 T),.sl 1 1 (AC cs)],.sl 1 1 (AB ls),.v (.int .i64 cell)] (.v (.bool (decide (0 ≤ cell ∧ cell < cs.length ∧ atb cs cell = true ∧ ati ls cell = 0)))) [.bot,.bot,.bot]:= by
 refine AG (md:= md0) (ms:= [false,false,false]) R2 (by simp) ?_
 simp [Ky]
 refine AA (HW W T cs cell hb) ?_
 by_cases h:0 ≤ cell ∧ cell < cs.length
 ·cases hc:atb cs cell with
  | false => simp [h,hc]
  | true =>
    simp [h,hc,hl]
    by_cases z:ati ls cell = 0 <;> simp [z]
 ·have h':¬ (0 ≤ cell ∧ cell < cs.length ∧ atb cs cell = true ∧ ati ls cell = 0):= fun x => h ⟨x.1,x.2.1⟩
  have hx:(decide (0 ≤ cell) && decide (cell < cs.length)) = false:= by simp; omega
  simp [hx]
  omega
theorem EG (W T:Int) (cs:List Bool) (ls:List Int) (cell way:Int) (hr:Am W T cs = true) (hl:ls.length = cs.length):
  SoundAt Tryz.prog Kv [.agg [.v (.int .i64 W),.v (.int .i64 T),.sl 1 1 (AC cs)],.sl 1 1 (AB ls),.v (.int .i64 cell),.v (.int .i64 way)] (.v (.bool (Av W T cs ls cell way))) [.bot,.bot,.bot,.bot]:= by
 refine AG (md:= md0) (ms:= [false,false,false,false]) R1 (by simp) ?_
 have h36:= Ab hr
 obtain ⟨w1,w2,t1,t2,l1,_⟩:= BT hr
 simp [Kw]
 refine AA (HW W T cs cell (by omega)) ?_
 by_cases h:0 ≤ cell ∧ cell < cs.length
 case neg =>
  have hx:(decide (0 ≤ cell) && decide (cell < cs.length)) = false:= by simp; omega
  have hf:Av W T cs ls cell way = false:= decide_eq_false (fun x => h ⟨x.1,x.2.1⟩)
  simp [hx,hf]
 simp [h]
 refine AA (Cv W T cs cell way hr h.1 h.2) ?_
 have hst:= Da (T:= T) (way:= way) w1 h.1 (by omega)
 unfold Av
 generalize AH W T cell way = to at *
 rcases hst with rfl | ⟨h3,h4,h5,h6⟩
 ·simp
 have h7:to < cs.length:= by omega
 cases hc:atb cs cell with
 | false => simp [h,h3,hc]
 | true =>
 cases ht:atb cs to with
 | false => simp [h,h3,h7,hc,ht]
 | true =>
 simp [h,h3,h7,hc,ht,hl]
 by_cases z:ati ls cell = 0
 ·by_cases z2:ati ls to = 0 <;> simp [z,z2,h3,h7,hl]
 ·simp [z]
theorem DQ (W T:Int) (cs:List Bool) (ls:List Int) (cell way:Int) (hr:Am W T cs = true) (hl:ls.length = cs.length) (hf:Av W T cs ls cell way = true):
  SoundAt Tryz.prog Ly [.agg [.v (.int .i64 W),.v (.int .i64 T),.sl 1 1 (AC cs)],.sl 1 1 (AB ls),.v (.int .i64 cell),.v (.int .i64 way)] (.os 1 (AB (Bk W T ls cell way))) [.bot,.bot,.bot,.bot]:= by
 refine AG (md:= md0) (ms:= [false,false,false,false]) TK (by simp) ?_
 have h36:= Ab hr
 obtain ⟨w1,w2,t1,t2,l1,_⟩:= BT hr
 simp only [Av,decide_eq_true_eq] at hf
 obtain ⟨f0,f1,f2,_⟩:= hf
 obtain ⟨b1,b2,b3,b4,b5⟩:= Cn (T:= T) w1 f0 (by omega) f2
 simp [Lz]
 refine AA (Aq ls (by omega)) ?_
 simp
 refine AA (Cv W T cs cell way hr f0 f1) ?_
 simp
 refine AA (Vw way (by omega) (by omega)) ?_
 have e1:(AB ls).set cell.toNat (.v (.int .i64 way)) = AB (ls.set cell.toNat way):= EA _ _ _
 have e2:(AB (ls.set cell.toNat way)).set (AH W T cell way).toNat (.v (.int .i64 (CO way))) = AB (Bk W T ls cell way):= by rw [EA]; rfl
 have g1:cell < ls.length:= by omega
 have g2:AH W T cell way < ls.length:= by omega
 have g3:cell.toNat < ls.length:= by omega
 have g4:(AH W T cell way).toNat < ls.length:= by omega
 have ht:(Bk W T ls cell way).length = ls.length:= AO W T ls cell way
 have hk:(AB (Bk W T ls cell way)).take ls.length = AB (Bk W T ls cell way):= List.take_of_length_le (by simp [ht])
 simp [f0,f2,g1,g2,g3,g4,e1,e2,ht,hk]
def R3 (W T:Int) (cs:List Bool) (ds ls:List Int) (cell way:Int):Bool:= Av W T cs ls cell way && LU (Bt W T ds (Bk W T ls cell way))
def ID (W T:Int) (cs:List Bool) (ds ls:List Int) (cell:Int) (n:Nat):List Int:= (List.range n).flatMap fun k:Nat => if R3 W T cs ds ls cell (k + 1) then [(k:Int) + 1] else []
def HX (W T:Int) (cs:List Bool) (ds ls:List Int) (cell:Int):List Int:= ID W T cs ds ls cell 4
theorem TL (W T:Int) (cs:List Bool) (ds ls:List Int) (cell:Int) (n:Nat):ID W T cs ds ls cell (n + 1) = ID W T cs ds ls cell n ++ if R3 W T cs ds ls cell (n + 1) then [(n:Int) + 1] else []:= by
 simp [ID,List.range_succ]
theorem F5 (W T:Int) (cs:List Bool) (ds ls:List Int) (cell:Int):∀ n,(ID W T cs ds ls cell n).length ≤ n
 | 0 => by simp [ID]
 | n + 1 => by
   have:= F5 W T cs ds ls cell n
   rw [TL]; split <;> simp <;> omega
theorem cC {W T:Int} {cs:List Bool} {ds ls:List Int} {cell way:Int} (h:okB W T cs ds ls = true) (hf:Av W T cs ls cell way = true):okB W T cs ds (Bk W T ls cell way) = true:= by
 have h':= h
 simp only [okB,Bool.and_eq_true] at h' ⊢
 exact ⟨h'.1,h'.2.1,KX h'.1 h'.2.2 hf⟩
theorem IE (W T:Int) (cs:List Bool) (ds ls:List Int) (cell:Int) (hok:okB W T cs ds ls = true):
  SoundAt Tryz.prog IA [.agg [.v (.int .i64 W),.v (.int .i64 T),.sl 1 1 (AC cs)],.sl 1 1 (AB ds),.sl 1 1 (AB ls),.v (.int .i64 cell)] (.os 1 (AB (HX W T cs ds ls cell))) [.bot,.bot,.bot,.bot]:= by
 refine AG (md:= md0) (ms:= [false,false,false,false]) OR (by simp) ?_
 obtain ⟨hr,e1,e2,_⟩:= Nt hok
 have h36:= Ab hr
 simp [IB]
 refine AF (fun m E H => ∃ i:Nat,m = 4 - i ∧ i ≤ 4 ∧ H = [some (.box [.v (.int .i64 W),.v (.int .i64 T),.sl 1 1 (AC cs)]),some (.arr 1 (AB (ID W T cs ds ls cell i)))] ∧
  E = [(1,.sl 1 1 (AB ds)),(2,.sl 1 1 (AB ls)),(3,.v (.int .i64 cell)),(4,.lp 0 0 0 0),(9,.ls 1 1 0 (ID W T cs ds ls cell i).length),(10,.v (.int .i64 (i + 1)))]) 4 ⟨0,by simp [ID]⟩ ?_
 rintro J hJ m E H ⟨i,rfl,hi,rfl,rfl⟩
 have hlen:= F5 W T cs ds ls cell i
 have hsuc:= TL W T cs ds ls cell i
 by_cases h:i < 4
 case neg =>
  have:i = 4:= by omega
  subst this
  simp [DP]
  refine AA (EZ (ID W T cs ds ls cell 4)) ?_
  simp [HX]
 have h':(i:Int) + 1 ≤ 4:= by omega
 have one:= EG W T cs ls cell (i + 1) hr e2
 have next:∀ (x:List Int),ID W T cs ds ls cell (i + 1) = ID W T cs ds ls cell i ++ x → CL J (4 - i) [(1,.sl 1 1 (AB ds)),(2,.sl 1 1 (AB ls)),(3,.v (.int .i64 cell)),(4,.lp 0 0 0 0),(9,.ls 1 1 0 ((ID W T cs ds ls cell i).length + x.length)),(10,.v (.int .i64 (i + 1 + 1)))]
   [some (.box [.v (.int .i64 W),.v (.int .i64 T),.sl 1 1 (AC cs)]),some (.arr 1 (AB (ID W T cs ds ls cell i) ++ AB x))]:= by
  intro x hx
  refine ⟨_,by omega,hJ _ _ _ ⟨i + 1,rfl,h,?_,?_⟩⟩
  ·rw [hx,EY]
  ·rw [hx,List.length_append]; rfl
 simp [DP,h']
 refine AA one ?_
 cases hf:Av W T cs ls cell (i + 1) with
 | false =>
   have ho:R3 W T cs ds ls cell (i + 1) = false:= by simp [R3,hf]
   rw [if_neg (by simp [ho])] at hsuc
   have n:= next [] hsuc
   simp at n
   simp
   exact ⟨by omega,n⟩
 | true =>
 have two:= DQ W T cs ls cell (i + 1) hr e2 hf
 have three:= EE W T cs ds (Bk W T ls cell (i + 1)) (cC hok hf)
 have hl:= AO W T ls cell (i + 1)
 have ht:(Bk W T ls cell (i + 1)).take ls.length = Bk W T ls cell (i + 1):= List.take_of_length_le (by omega)
 simp
 (repeat' first | assumption | apply And.intro) <;>
 ·refine AA two ?_
  simp [hl,FR,ht]
  (repeat' first | assumption | apply And.intro) <;>
  ·refine AA three ?_
   cases ho:LU (Bt W T ds (Bk W T ls cell (i + 1))) with
   | false =>
     have ho:R3 W T cs ds ls cell (i + 1) = false:= by simp [R3,ho]
     rw [if_neg (by simp [ho])] at hsuc
     have n:= next [] hsuc
     simp at n
     simp [hl,FR,ht]
     exact ⟨by omega,n⟩
   | true =>
     have ho:R3 W T cs ds ls cell (i + 1) = true:= by simp [R3,ho,hf]
     rw [if_pos ho] at hsuc
     have n:= next _ hsuc
     simp at n
     simp [hl,FR,ht]
     exact ⟨by omega,by omega,n⟩
theorem Y4 (W T:Int) (cs:List Bool) (cell way:Int) (hr:Am W T cs = true):
  SoundAt Tryz.prog Rx [.agg [.v (.int .i64 W),.v (.int .i64 T),.sl 1 1 (AC cs)],.v (.int .i64 cell),.v (.int .i64 way)] (.v (.int .i64 (if 0 ≤ cell ∧ cell < cs.length ∧ 1 ≤ way ∧ way ≤ 4 then AH W T cell way else -1))) [.bot,.bot,.bot]:= by
 refine AG (md:= md0) (ms:= [false,false,false]) Y2 (by simp) ?_
 have h36:= Ab hr
 simp [Ry]
 refine AA (Ao W T cs (by omega)) ?_
 simp [hr]
 refine ⟨by omega,?_⟩
 by_cases h:0 ≤ cell ∧ cell < cs.length
 case neg =>
  refine AA (Ex (x:= cell) (lo:= 0) (hi:= cs.length - 1) (by omega)) ?_
  rw [if_neg (fun x => h ⟨x.1,x.2.1⟩)]
  simp
 refine AA (Dc (x:= cell) (lo:= 0) (hi:= cs.length - 1) (by omega)) ?_
 simp
 by_cases hw:1 ≤ way ∧ way ≤ 4
 case neg =>
  refine AA (Ex hw) ?_
  rw [if_neg (fun x => hw x.2.2)]
  simp
 refine AA (Dc hw) ?_
 simp
 refine AA (Db W T cs cell way hr h.1 h.2) ?_
 simp [h,hw]
def Au (W T:Int) (cs:List Bool) (ls:List Int) (cell way:Int):List Int:= if Av W T cs ls cell way then Bk W T ls cell way else ls
theorem C2 (W T:Int) (cs:List Bool) (ls:List Int) (cell way:Int) (hr:Am W T cs = true) (hy:AR W T cs ls = true):
  SoundAt Tryz.prog Rz [.agg [.v (.int .i64 W),.v (.int .i64 T),.sl 1 1 (AC cs)],.sl 1 1 (AB ls),.v (.int .i64 cell),.v (.int .i64 way)]
   (.tup [.os 1 (AB (Au W T cs ls cell way)),.v (.bool (Av W T cs ls cell way))]) [.bot,.bot,.bot,.bot]:= by
 refine AG (md:= md0) (ms:= [false,false,false,false]) Y3 (by simp) ?_
 have h36:= Ab hr
 obtain ⟨w1,w2,t1,t2,l1,_⟩:= BT hr
 have hl:ls.length = cs.length:= by simp only [AR,Bool.and_eq_true,decide_eq_true_eq] at hy; exact hy.1
 simp [R0]
 refine AA (Bl W T cs ls (by omega) (by omega)) ?_
 simp [hr,hy]
 refine ⟨by omega,?_⟩
 refine AA (Y4 W T cs cell way hr) ?_
 by_cases h:0 ≤ cell ∧ cell < cs.length
 case neg =>
  have hf:Av W T cs ls cell way = false:= decide_eq_false (fun x => h ⟨x.1,x.2.1⟩)
  rw [if_neg (fun x => h ⟨x.1,x.2.1⟩)]
  simp [hf,Au]
 have hst:= Da (T:= T) (way:= way) w1 h.1 (by omega)
 have e0:(if 0 ≤ cell ∧ cell < cs.length ∧ 1 ≤ way ∧ way ≤ 4 then AH W T cell way else -1) = AH W T cell way:= by
  rcases hst with hst | hst
  ·split
   ·rfl
   ·exact hst.symm
  ·rw [if_pos ⟨h.1,h.2,hst.2.2.1,hst.2.2.2⟩]
 rw [e0]
 by_cases hneg:AH W T cell way < 0
 ·have hf:Av W T cs ls cell way = false:= decide_eq_false (fun x => by omega)
  simp [hneg,hf,Au]
 obtain ⟨h3,h4,h5,h6⟩:0 ≤ AH W T cell way ∧ AH W T cell way < W * T ∧ 1 ≤ way ∧ way ≤ 4:= by
  rcases hst with hst | hst
  ·omega
  ·exact hst
 have hfree:Av W T cs ls cell way = decide (atb cs cell = true ∧ atb cs (AH W T cell way) = true ∧ ati ls cell = 0 ∧ ati ls (AH W T cell way) = 0):= by
  simp [Av,h,h3]
 have e2:((AB ls).set cell.toNat (.v (.int .i64 way))).set (AH W T cell way).toNat (.v (.int .i64 (CO way))) = AB (Bk W T ls cell way):= by rw [EA,EA]; rfl
 have ht:(Bk W T ls cell way).length = ls.length:= AO W T ls cell way
 have hk:(AB (Bk W T ls cell way)).take ls.length = AB (Bk W T ls cell way):= List.take_of_length_le (by simp [ht])
 have hk0:(AB ls).take cs.length = AB ls:= List.take_of_length_le (by simp [hl])
 have two:= Ro way (by omega) (by omega)
 unfold Au
 rw [hfree]
 clear hfree e0 hst
 generalize AH W T cell way = to at *
 have h7:to < cs.length:= by omega
 have h8:¬ to < 0:= hneg
 cases hc:atb cs cell with
 | false => simp [h,h8,hc]
 | true =>
 cases ht':atb cs to with
 | false => simp [h,h3,h7,h8,hc,ht']
 | true =>
 by_cases z:ati ls cell = 0
 case neg => simp [h,h3,h7,h8,hc,ht',hl,z,hk0]
 by_cases z2:ati ls to = 0
 case neg => simp [h,h3,h7,h8,hc,ht',hl,z,z2,hk0]
 have g3:cell.toNat < ls.length:= by omega
 have g4:to.toNat < ls.length:= by omega
 have g1:cell < ls.length:= by omega
 have g2:to < ls.length:= by omega
 simp [h,h3,h7,h8,hc,ht',g1,g2,g3,g4,z,z2]
 refine AA two ?_
 simp [h,h3,h7,h8,g1,g2,g3,g4,e2,ht,hk]
def R4 (W T:Int) (cs:List Bool) (ds ls:List Int) (cell:Int):List Int:= if Ad W T cs ds ls then HX W T cs ds ls cell else []
theorem Y5 (W T:Int) (cs:List Bool) (ls:List Int) (cell way:Int):(Au W T cs ls cell way).length = ls.length:= by
 unfold Au; split
 ·exact AO ..
 ·rfl
theorem Ie (W T:Int) (cs:List Bool) (ds ls:List Int) (cell:Int) (hb:cs.length < 2 ^ 40) (hd:ds.length < 2 ^ 40) (hl:ls.length < 2 ^ 40):
  SoundAt Tryz.prog NA [.agg [.v (.int .i64 W),.v (.int .i64 T),.sl 1 1 (AC cs)],.sl 1 1 (AB ds),.sl 1 1 (AB ls),.v (.int .i64 cell)] (.os 1 (AB (R4 W T cs ds ls cell))) [.bot,.bot,.bot,.bot]:= by
 refine AG (md:= md0) (ms:= [false,false,false,false]) Uc (by simp) ?_
 simp [NB]
 have one:= Bm W T cs ds ls hb hd hl
 refine AF (fun m E H => ∃ i:Nat,m = 4 - i ∧ i ≤ 4 ∧ (i = 0 ∨ Ad W T cs ds ls = true) ∧ H = [some (.box [.v (.int .i64 W),.v (.int .i64 T),.sl 1 1 (AC cs)]),some (.arr 1 (AB (ID W T cs ds ls cell i)))] ∧
  E = [(1,.sl 1 1 (AB ds)),(2,.sl 1 1 (AB ls)),(3,.v (.int .i64 cell)),(4,.lp 0 0 0 0),(9,.ls 1 1 0 (ID W T cs ds ls cell i).length),(10,.v (.int .i64 (i + 1)))]) 4 ⟨0,by simp [ID]⟩ ?_
 rintro J hJ m E H ⟨i,rfl,hi,hf0,rfl,rfl⟩
 have hlen:= F5 W T cs ds ls cell i
 have hsuc:= TL W T cs ds ls cell i
 by_cases h:i < 4
 case neg =>
  have:i = 4:= by omega
  subst this
  have hf:Ad W T cs ds ls = true:= by rcases hf0 with h0 | h0; omega; exact h0
  simp [Fm,R4,hf,HX]
 have h':(i:Int) + 1 ≤ 4:= by omega
 simp [Fm,h']
 refine AA one ?_
 cases hf:Ad W T cs ds ls with
 | false =>
   have:i = 0:= by rcases hf0 with h0 | h0; exact h0; rw [hf] at h0; cases h0
   subst this
   simp [R4,hf,ID]
 | true =>
 have hok:= C1 hf
 obtain ⟨hr,e1,e2,hy⟩:= Nt hok
 have h36:= Ab hr
 have next:∀ (x:List Int),ID W T cs ds ls cell (i + 1) = ID W T cs ds ls cell i ++ x → CL J (4 - i) [(1,.sl 1 1 (AB ds)),(2,.sl 1 1 (AB ls)),(3,.v (.int .i64 cell)),(4,.lp 0 0 0 0),(9,.ls 1 1 0 ((ID W T cs ds ls cell i).length + x.length)),(10,.v (.int .i64 (i + 1 + 1)))]
   [some (.box [.v (.int .i64 W),.v (.int .i64 T),.sl 1 1 (AC cs)]),some (.arr 1 (AB (ID W T cs ds ls cell i) ++ AB x))]:= by
  intro x hx
  refine ⟨_,by omega,hJ _ _ _ ⟨i + 1,rfl,h,.inr hf,?_,?_⟩⟩
  ·rw [hx,EY]
  ·rw [hx,List.length_append]; rfl
 have hll:= Y5 W T cs ls cell (i + 1)
 have hly:AR W T cs ls = true:= by
  simp only [okB,Bool.and_eq_true] at hok; exact hok.2.2
 have two:= C2 W T cs ls cell (i + 1) hr hly
 have three:= Bm W T cs ds (Au W T cs ls cell (i + 1)) hb hd (by omega)
 have ht:(Au W T cs ls cell (i + 1)).take ls.length = Au W T cs ls cell (i + 1):= List.take_of_length_le (by omega)
 simp
 refine AA two ?_
 simp [hll,FR,ht]
 cases hfr:Av W T cs ls cell (i + 1) with
 | false =>
   have ho:R3 W T cs ds ls cell (i + 1) = false:= by simp [R3,hfr]
   rw [if_neg (by simp [ho])] at hsuc
   have n:= next [] hsuc
   simp at n
   simp
   exact ⟨by omega,n⟩
 | true =>
 simp
 have e3:Ad W T cs ds (Au W T cs ls cell (i + 1)) = R3 W T cs ds ls cell (i + 1):= by
  simp [Au,hfr,Ad,R3,cC hok hfr]
 refine AA three ?_
 rw [e3]
 cases ho:R3 W T cs ds ls cell (i + 1) with
 | false =>
   rw [if_neg (by simp [ho])] at hsuc
   have n:= next [] hsuc
   simp at n
   simp [hll,FR,ht]
   exact ⟨by omega,n⟩
 | true =>
   rw [if_pos ho] at hsuc
   have n:= next _ hsuc
   simp at n
   simp [hll,FR,ht]
   exact ⟨by omega,by omega,n⟩
theorem X8 (W T:Int) (cs:List Bool) (ds ls:List Int) (cell:Int) (h:¬ (0 ≤ cell ∧ cell < cs.length ∧ atb cs cell = true ∧ ati ls cell = 0)):HX W T cs ds ls cell = []:= by
 have hf:∀ way,R3 W T cs ds ls cell way = false:= by
  intro way
  have:Av W T cs ls cell way = false:= decide_eq_false (fun x => h ⟨x.1,x.2.1,x.2.2.2.1,x.2.2.2.2.2.1⟩)
  simp [R3,this]
 simp [HX,ID,hf]
def Eg (p:Nat → Bool) (n:Nat):Int:= match (List.range n).find? p with | some k => k | none => -1
theorem CX {p:Nat → Bool} {n k:Nat} (hk:k < n) (hp:p k = true) (h:∀ j,j < k → p j = false):Eg p n = k:= by
 have:(List.range n).find? p = some k:= by
  rw [List.find?_range_eq_some]
  exact ⟨hp,by simpa using hk,fun j hj => by simp [h j hj]⟩
 simp [Eg,this]
theorem CC {p:Nat → Bool} {n:Nat} (h:∀ j,j < n → p j = false):Eg p n = -1:= by
 have:(List.range n).find? p = none:= by
  rw [List.find?_eq_none]
  intro x hx
  simp [h x (by simpa using hx)]
 simp [Eg,this]
theorem OW (p:Nat → Bool) (n:Nat):(Eg p n = -1) ∨ ∃ k:Nat,k < n ∧ p k = true ∧ Eg p n = k:= by
 unfold Eg
 split
 ·rename_i k hk
  right
  rw [List.find?_range_eq_some] at hk
  exact ⟨k,by simpa using hk.2.1,hk.1,rfl⟩
 ·left; rfl
def K1 (W T:Int) (cs:List Bool) (ds ls:List Int) (n:Int) (k:Nat):Bool:= (atb cs k && decide (ati ls k = 0)) && decide (((HX W T cs ds ls k).length:Int) = n)
theorem Fn (W T:Int) (cs:List Bool) (ds ls:List Int) (n:Int) (hok:okB W T cs ds ls = true):
  SoundAt Tryz.prog Jf [.agg [.v (.int .i64 W),.v (.int .i64 T),.sl 1 1 (AC cs)],.sl 1 1 (AB ds),.sl 1 1 (AB ls),.v (.int .i64 n)] (.v (.int .i64 (Eg (K1 W T cs ds ls n) ls.length))) [.bot,.bot,.bot,.bot]:= by
 refine AG (md:= md0) (ms:= [false,false,false,false]) Ql (by simp) ?_
 obtain ⟨hr,e1,e2,_⟩:= Nt hok
 have h36:= Ab hr
 simp [Jg]
 refine AF (fun m E H => ∃ i:Nat,m = ls.length - i ∧ i ≤ ls.length ∧ (∀ j:Nat,j < i → K1 W T cs ds ls n j = false) ∧ H = [some (.box [.v (.int .i64 W),.v (.int .i64 T),.sl 1 1 (AC cs)])] ∧
  E = [(1,.sl 1 1 (AB ds)),(2,.sl 1 1 (AB ls)),(3,.v (.int .i64 n)),(4,.lp 0 0 0 0),(11,.v (.int .i64 ls.length)),(12,.v (.int .i64 i))]) ls.length ⟨0,by simp⟩ ?_
 rintro J hJ m E H ⟨i,rfl,hi,ha,rfl,rfl⟩
 by_cases h:i < ls.length
 case neg =>
  have:i = ls.length:= by omega
  subst this
  simp [D3,CC ha]
 have next:K1 W T cs ds ls n i = false → CL J (ls.length - i) [(1,.sl 1 1 (AB ds)),(2,.sl 1 1 (AB ls)),(3,.v (.int .i64 n)),(4,.lp 0 0 0 0),(11,.v (.int .i64 ls.length)),(12,.v (.int .i64 (i + 1)))]
   [some (.box [.v (.int .i64 W),.v (.int .i64 T),.sl 1 1 (AC cs)])]:= by
  intro hx
  refine ⟨_,by omega,hJ _ _ _ ⟨i + 1,rfl,h,?_,rfl,rfl⟩⟩
  intro j hj
  rcases Nat.lt_or_ge j i with h1 | h1
  ·exact ha j h1
  ·have:j = i:= by omega
   subst this; exact hx
 have hit:= fun hx:K1 W T cs ds ls n i = true => CX h hx ha
 have one:= K0 W T cs ls i (by omega) e2
 have two:= IE W T cs ds ls i hok
 have hop:(HX W T cs ds ls i).length ≤ 4:= F5 ..
 have hii:(i:Int) < cs.length:= by omega
 simp [D3,h]
 refine AA one ?_
 cases hb:(atb cs i && decide (ati ls i = 0)) with
 | false =>
   have hx:K1 W T cs ds ls n i = false:= by simp [K1,hb]
   have hb':decide (0 ≤ (i:Int) ∧ (i:Int) < cs.length ∧ atb cs i = true ∧ ati ls i = 0) = false:= by
    simp at hb ⊢; intro _; exact hb
   rw [hb']
   simp
   exact ⟨by omega,next hx⟩
 | true =>
 have hb':decide (0 ≤ (i:Int) ∧ (i:Int) < cs.length ∧ atb cs i = true ∧ ati ls i = 0) = true:= by
  simp at hb ⊢; exact ⟨by omega,hb⟩
 rw [hb']
 simp
 refine AA two ?_
 by_cases hn:((HX W T cs ds ls i).length:Int) = n
 ·have hx:K1 W T cs ds ls n i = true:= by simp [K1,hb,hn]
  simp [hn,hit hx]
 ·have hx:K1 W T cs ds ls n i = false:= by simp [K1,hb,hn]
  simp [hn]
  exact ⟨by omega,next hx⟩
def Ud (W T:Int) (cs:List Bool) (ds ls:List Int):Bool:= Ad W T cs ds ls && decide (0 ≤ Eg (K1 W T cs ds ls 0) ls.length)
theorem cD (W T:Int) (cs:List Bool) (ds ls:List Int) (hb:cs.length < 2 ^ 40) (hd:ds.length < 2 ^ 40) (hl:ls.length < 2 ^ 40):
  SoundAt Tryz.prog V3 [.agg [.v (.int .i64 W),.v (.int .i64 T),.sl 1 1 (AC cs)],.sl 1 1 (AB ds),.sl 1 1 (AB ls)] (.v (.bool (Ud W T cs ds ls))) [.bot,.bot,.bot]:= by
 refine AG (md:= md0) (ms:= [false,false,false]) cA (by simp) ?_
 simp [V4]
 refine AA (JC W T cs ds ls hb hd hl) ?_
 cases hf:Ad W T cs ds ls with
 | false => simp [Ud,hf]
 | true =>
 simp
 refine AA (Fn W T cs ds ls 0 (C1 hf)) ?_
 simp [Ud,hf]
theorem cE (W T:Int) (cs:List Bool) (ds ls:List Int) (hb:cs.length < 2 ^ 40) (hd:ds.length < 2 ^ 40) (hl:ls.length < 2 ^ 40):
  SoundAt Tryz.prog V1 [.agg [.v (.int .i64 W),.v (.int .i64 T),.sl 1 1 (AC cs)],.sl 1 1 (AB ds),.sl 1 1 (AB ls)] (.v (.bool (Ud W T cs ds ls))) [.bot,.bot,.bot]:= by
 refine AG (md:= md0) (ms:= [false,false,false]) b9 (by simp) ?_
 simp [V2]
 have fair:= Bm W T cs ds ls hb hd hl
 refine AF (fun m E H => ∃ i:Nat,m = ls.length - i ∧ i ≤ ls.length ∧ (i = 0 ∨ Ad W T cs ds ls = true) ∧ (∀ j:Nat,j < i → K1 W T cs ds ls 0 j = false) ∧ H = [some (.box [.v (.int .i64 W),.v (.int .i64 T),.sl 1 1 (AC cs)])] ∧
  E = [(1,.sl 1 1 (AB ds)),(2,.sl 1 1 (AB ls)),(3,.lp 0 0 0 0),(7,.v (.int .i64 i))]) ls.length ⟨0,by simp⟩ ?_
 rintro J hJ m E H ⟨i,rfl,hi,hf0,ha,rfl,rfl⟩
 by_cases h:i < ls.length
 case neg =>
  have:i = ls.length:= by omega
  subst this
  simp [LW,Ud,CC ha]
 simp [LW,h]
 refine AA fair ?_
 cases hf:Ad W T cs ds ls with
 | false => simp [Ud,hf]
 | true =>
 obtain ⟨hr,e1,e2,_⟩:= Nt (C1 hf)
 have next:K1 W T cs ds ls 0 i = false → CL J (ls.length - i) [(1,.sl 1 1 (AB ds)),(2,.sl 1 1 (AB ls)),(3,.lp 0 0 0 0),(7,.v (.int .i64 (i + 1)))]
   [some (.box [.v (.int .i64 W),.v (.int .i64 T),.sl 1 1 (AC cs)])]:= by
  intro hx
  refine ⟨_,by omega,hJ _ _ _ ⟨i + 1,rfl,h,.inr hf,?_,rfl,rfl⟩⟩
  intro j hj
  rcases Nat.lt_or_ge j i with h1 | h1
  ·exact ha j h1
  ·have:j = i:= by omega
   subst this; exact hx
 have hit:= fun hx:K1 W T cs ds ls 0 i = true => CX h hx ha
 have two:= Ie W T cs ds ls i hb hd hl
 have ho:R4 W T cs ds ls i = HX W T cs ds ls i:= by simp [R4,hf]
 have hii:i < cs.length:= by omega
 rw [ho] at two
 simp [hii,h]
 cases hc:atb cs i with
 | false =>
   have hx:K1 W T cs ds ls 0 i = false:= by simp [K1,hc]
   simp
   exact ⟨by omega,next hx⟩
 | true =>
 by_cases z:ati ls i = 0
 case neg =>
  have hx:K1 W T cs ds ls 0 i = false:= by simp [K1,hc,z]
  simp [z]
  exact ⟨by omega,next hx⟩
 simp [z]
 refine AA two ?_
 by_cases hn:(HX W T cs ds ls i).length = 0
 ·have hx:K1 W T cs ds ls 0 i = true:= by simp [K1,hc,z,List.length_eq_zero_iff.1 hn]
  simp [hn,Ud,hf,hit hx]
 ·have hx:K1 W T cs ds ls 0 i = false:= by simp [K1,hc,z]; intro h0; simp [h0] at hn
  simp [hn]
  exact ⟨by omega,next hx⟩
theorem gt (W T:Int) (cs:List Bool) (ds ls:List Int) (cell:Int) {n:Nat} {x:Int} (h:x ∈ ID W T cs ds ls cell n):R3 W T cs ds ls cell x = true ∧ 1 ≤ x ∧ x ≤ n:= by
 simp only [ID,List.mem_flatMap,List.mem_range] at h
 obtain ⟨k,hk,hx⟩:= h
 split at hx
 ·rename_i ho
  simp at hx
  subst hx
  exact ⟨ho,by omega,by omega⟩
 ·simp at hx
theorem R5 {W T:Int} {cs:List Bool} {ds ls:List Int} {cell x:Int} (h:R3 W T cs ds ls cell x = true):Av W T cs ls cell x = true:= by
 simp only [R3,Bool.and_eq_true] at h; exact h.1
theorem gu {W T:Int} {cs:List Bool} {ds ls:List Int} {cell x:Int} (hok:okB W T cs ds ls = true) (h:R3 W T cs ds ls cell x = true):Ad W T cs ds (Bk W T ls cell x) = true:= by
 have h':= h
 simp only [R3,Bool.and_eq_true] at h'
 simp only [Ad,Bool.and_eq_true]
 exact ⟨cC hok h'.1,h'.2⟩
def aO (W T:Int) (cs:List Bool) (ds ls:List Int):Int:= Eg (K1 W T cs ds ls 1) ls.length
def VG (W T:Int) (cs:List Bool) (ds ls:List Int):Int:= ati (HX W T cs ds ls (aO W T cs ds ls)) 0
def Ba (W T:Int) (cs:List Bool) (ds ls:List Int):List Int:= if aO W T cs ds ls < 0 then ls else Bk W T ls (aO W T cs ds ls) (VG W T cs ds ls)
def CP (W T:Int) (cs:List Bool) (ds ls:List Int):Bool:= decide (¬ aO W T cs ds ls < 0)
theorem JD (W T:Int) (cs:List Bool) (ds ls:List Int):(Ba W T cs ds ls).length = ls.length:= by
 unfold Ba; split
 ·rfl
 ·exact AO ..
theorem FX (W T:Int) (cs:List Bool) (ds ls:List Int):aO W T cs ds ls = -1 ∨ ∃ k:Nat,k < ls.length ∧ aO W T cs ds ls = k ∧ atb cs k = true ∧ ati ls k = 0 ∧ HX W T cs ds ls k = [VG W T cs ds ls] ∧ R3 W T cs ds ls k (VG W T cs ds ls) = true ∧ 1 ≤ VG W T cs ds ls ∧ VG W T cs ds ls ≤ 4:= by
 rcases OW (K1 W T cs ds ls 1) ls.length with h | ⟨k,hk,hp,he⟩
 ·left; exact h
 ·right
  have he':aO W T cs ds ls = k:= he
  simp only [K1,Bool.and_eq_true,decide_eq_true_eq] at hp
  have h1:(HX W T cs ds ls k).length = 1:= by omega
  obtain ⟨x,hx⟩:= List.length_eq_one_iff.1 h1
  have hw:VG W T cs ds ls = x:= by simp [VG,he',hx,ati]
  have hin:x ∈ HX W T cs ds ls k:= by rw [hx]; simp
  have hm:= gt W T cs ds ls k (n:= 4) (x:= x) hin
  rw [hw]
  exact ⟨k,hk,he',hp.1.1,hp.1.2,hx,hm.1,hm.2.1,hm.2.2⟩
theorem Qo (W T:Int) (cs:List Bool) (ds ls:List Int) (hok:okB W T cs ds ls = true):
  SoundAt Tryz.prog Jh [.agg [.v (.int .i64 W),.v (.int .i64 T),.sl 1 1 (AC cs)],.sl 1 1 (AB ds),.sl 1 1 (AB ls)] (.tup [.os 1 (AB (Ba W T cs ds ls)),.v (.bool (CP W T cs ds ls))]) [.bot,.bot,.bot]:= by
 refine AG (md:= md0) (ms:= [false,false,false]) Qm (by simp) ?_
 obtain ⟨hr,e1,e2,_⟩:= Nt hok
 have h36:= Ab hr
 simp [Ji]
 refine AA (Fn W T cs ds ls 1 hok) ?_
 have hcl:= Aq ls (by omega)
 have e0:Eg (K1 W T cs ds ls 1) ls.length = aO W T cs ds ls:= rfl
 rw [e0]
 rcases FX W T cs ds ls with h | ⟨k,hk,he,hc,hz,ho,hob,hw⟩
 ·simp [h]
  refine AA hcl ?_
  simp [Ba,CP,h]
 have two:= IE W T cs ds ls k hok
 have three:= DQ W T cs ls k (VG W T cs ds ls) hr e2 (R5 hob)
 have ef:Ba W T cs ds ls = Bk W T ls k (VG W T cs ds ls):= by rw [Ba,he,if_neg (by omega)]
 have eb:CP W T cs ds ls = true:= by rw [CP,he]; exact decide_eq_true (by omega)
 rw [ef,eb,he]
 rw [ho] at two
 have hk0:¬ (k:Int) < 0:= by omega
 have hin:AB [VG W T cs ds ls] = [.v (.int .i64 (VG W T cs ds ls))]:= rfl
 rw [hin] at two
 have hlay:= AO W T ls k (VG W T cs ds ls)
 have htk:(AB (Bk W T ls k (VG W T cs ds ls))).take ls.length = AB (Bk W T ls k (VG W T cs ds ls)):= List.take_of_length_le (by simp [hlay])
 simp [hk0]
 (repeat' first | assumption | apply And.intro) <;>
 ·refine AA two ?_
  simp
  (repeat' first | assumption | apply And.intro) <;>
  ·refine AA three ?_
   simp [hlay,htk]
def X9 (W T:Int) (cs:List Bool) (ds ls:List Int):List Int:= if Ad W T cs ds ls then Ba W T cs ds ls else []
def YA (W T:Int) (cs:List Bool) (ds ls:List Int):Bool:= Ad W T cs ds ls && CP W T cs ds ls
theorem V7 (W T:Int) (cs:List Bool) (ds ls:List Int) (hb:cs.length < 2 ^ 40) (hd:ds.length < 2 ^ 40) (hl:ls.length < 2 ^ 40):
  SoundAt Tryz.prog OS [.agg [.v (.int .i64 W),.v (.int .i64 T),.sl 1 1 (AC cs)],.sl 1 1 (AB ds),.sl 1 1 (AB ls)] (.tup [.os 1 (AB (X9 W T cs ds ls)),.v (.bool (YA W T cs ds ls))]) [.bot,.bot,.bot]:= by
 refine AG (md:= md0) (ms:= [false,false,false]) V5 (by simp) ?_
 simp [OT]
 refine AA (Bm W T cs ds ls hb hd hl) ?_
 cases hf:Ad W T cs ds ls with
 | false => simp [X9,YA,hf]
 | true =>
 have hok:= C1 hf
 obtain ⟨hr,e1,e2,_⟩:= Nt hok
 have hly:AR W T cs ls = true:= by
  simp only [okB,Bool.and_eq_true] at hok; exact hok.2.2
 have eL:X9 W T cs ds ls = Ba W T cs ds ls:= by simp [X9,hf]
 have eB:YA W T cs ds ls = CP W T cs ds ls:= by simp [YA,hf]
 rw [eL,eB]
 simp
 refine AF (fun m E H => ∃ i:Nat,m = ls.length - i ∧ i ≤ ls.length ∧ (∀ j:Nat,j < i → K1 W T cs ds ls 1 j = false) ∧ H = [some (.box [.v (.int .i64 W),.v (.int .i64 T),.sl 1 1 (AC cs)])] ∧
  E = [(1,.sl 1 1 (AB ds)),(2,.sl 1 1 (AB ls)),(3,.lp 0 0 0 0),(8,.v (.int .i64 i))]) ls.length ⟨0,by simp⟩ ?_
 rintro J hJ m E H ⟨i,rfl,hi,ha,rfl,rfl⟩
 by_cases h:i < ls.length
 case neg =>
  have:i = ls.length:= by omega
  subst this
  have he:aO W T cs ds ls = -1:= CC ha
  simp [GS,Ba,CP,he]
  constructor <;> omega
 have next:K1 W T cs ds ls 1 i = false → CL J (ls.length - i) [(1,.sl 1 1 (AB ds)),(2,.sl 1 1 (AB ls)),(3,.lp 0 0 0 0),(8,.v (.int .i64 (i + 1)))]
   [some (.box [.v (.int .i64 W),.v (.int .i64 T),.sl 1 1 (AC cs)])]:= by
  intro hx
  refine ⟨_,by omega,hJ _ _ _ ⟨i + 1,rfl,h,?_,rfl,rfl⟩⟩
  intro j hj
  rcases Nat.lt_or_ge j i with h1 | h1
  ·exact ha j h1
  ·have:j = i:= by omega
   subst this; exact hx
 have hit:K1 W T cs ds ls 1 i = true → aO W T cs ds ls = i:= fun hx => CX h hx ha
 have two:= Ie W T cs ds ls i hb hd hl
 have ho:R4 W T cs ds ls i = HX W T cs ds ls i:= by simp [R4,hf]
 rw [ho] at two
 have hop:(HX W T cs ds ls i).length ≤ 4:= F5 ..
 simp [GS,h]
 refine AA two ?_
 by_cases hn:(HX W T cs ds ls i).length = 1
 case neg =>
  have hn':¬ ((HX W T cs ds ls i).length:Int) = 1:= by omega
  have hx:K1 W T cs ds ls 1 i = false:= by simp [K1,hn']
  simp [hn']
  exact ⟨by omega,next hx⟩
 have hbare:0 ≤ (i:Int) ∧ (i:Int) < cs.length ∧ atb cs i = true ∧ ati ls i = 0:= by
  apply Decidable.byContradiction
  intro hx
  rw [X8 W T cs ds ls i hx] at hn
  simp at hn
 have hx:K1 W T cs ds ls 1 i = true:= by simp [K1,hbare.2.2.1,hbare.2.2.2,hn]
 have he:= hit hx
 rcases FX W T cs ds ls with h1 | ⟨k,hk,he2,hc,hz,hol,hob,hw⟩
 ·omega
 have hki:k = i:= by omega
 subst hki
 have three:= C2 W T cs ls k (VG W T cs ds ls) hr hly
 have ef:Ba W T cs ds ls = Bk W T ls k (VG W T cs ds ls):= by rw [Ba,he,if_neg (by omega)]
 have eb:CP W T cs ds ls = true:= by rw [CP,he]; exact decide_eq_true (by omega)
 have hfr:= R5 hob
 have elay:Au W T cs ls k (VG W T cs ds ls) = Bk W T ls k (VG W T cs ds ls):= by simp [Au,hfr]
 rw [elay,hfr] at three
 rw [ef,eb]
 have hin:AB [VG W T cs ds ls] = [.v (.int .i64 (VG W T cs ds ls))]:= rfl
 have hlay:= AO W T ls k (VG W T cs ds ls)
 have htk:(AB (Bk W T ls k (VG W T cs ds ls))).take ls.length = AB (Bk W T ls k (VG W T cs ds ls)):= List.take_of_length_le (by simp [hlay])
 simp [hol,hin]
 (repeat' first | assumption | apply And.intro) <;>
 ·refine AA three ?_
  simp [hlay,htk]
def Bz (ls:List Int):Nat:= ls.countP (fun x => decide (x = 0))
theorem UE {ls:List Int} {i:Nat} {v:Int} (hv:v ≠ 0):Bz (ls.set i v) ≤ Bz ls:= by
 by_cases h:i < ls.length
 ·unfold Bz
  rw [List.countP_set h]
  simp [hv]
 ·rw [List.set_eq_of_length_le (by omega)]; exact Nat.le_refl _
theorem K2 {ls:List Int} {i:Nat} {v:Int} (h:i < ls.length) (hz:ati ls i = 0) (hv:v ≠ 0):Bz (ls.set i v) < Bz ls:= by
 have he:ls[i] = 0:= by simpa [ati,h] using hz
 have hp:0 < Bz ls:= by
  unfold Bz
  rw [List.countP_pos_iff]
  exact ⟨ls[i],List.getElem_mem h,by simp [he]⟩
 unfold Bz at hp ⊢
 rw [List.countP_set h]
 simp [hv,he]
 omega
def BD (W T:Int) (cs:List Bool) (ds:List Int):Nat → List Int → List Int
 | 0,ls => ls
 | n + 1,ls => if CP W T cs ds ls then BD W T cs ds n (Ba W T cs ds ls) else ls
theorem OX {W T:Int} {cs:List Bool} {ds ls:List Int} (h:CP W T cs ds ls = true):Bz (Ba W T cs ds ls) < Bz ls:= by
 rcases FX W T cs ds ls with h1 | ⟨k,hk,he,hc,hz,hol,hob,hw⟩
 ·simp [CP,h1] at h
 ·rw [Ba,he,if_neg (by omega)]
  have hb:CO (VG W T cs ds ls) ≠ 0:= by
   have:= (F3 hw.1 hw.2).2
   omega
  refine Nat.lt_of_le_of_lt (UE hb) ?_
  exact K2 (by omega) (by simpa using hz) (by omega)
theorem Mo {W T:Int} {cs:List Bool} {ds ls:List Int} (hf:Ad W T cs ds ls = true):Ad W T cs ds (Ba W T cs ds ls) = true:= by
 rcases FX W T cs ds ls with h1 | ⟨k,hk,he,hc,hz,hol,hob,hw⟩
 ·simp [Ba,h1,hf]
 ·rw [Ba,he,if_neg (by omega)]
  exact gu (C1 hf) hob
def BN (W T:Int) (cs:List Bool) (ds ls:List Int):List Int:= BD W T cs ds ls.length ls
def R6 (W T:Int) (cs:List Bool) (ds ls:List Int):List Int:= if Ad W T cs ds ls then BN W T cs ds ls else []
theorem NC (W T:Int) (cs:List Bool) (ds:List Int):∀ (n:Nat) (ls:List Int),(BD W T cs ds n ls).length = ls.length
 | 0,ls => rfl
 | n + 1,ls => by
   rw [BD]; split
   ·rw [NC,JD]
   ·rfl
theorem Hr (ls:List Int):Bz ls ≤ ls.length:= List.countP_le_length
theorem Pt {W T:Int} {cs:List Bool} {ds ls:List Int} {n:Nat} (hn:Bz ls ≤ n):
  (CP W T cs ds ls = false ∧ BD W T cs ds n ls = ls) ∨ (∃ m,n = m + 1 ∧ CP W T cs ds ls = true ∧ Bz (Ba W T cs ds ls) ≤ m ∧ BD W T cs ds n ls = BD W T cs ds m (Ba W T cs ds ls)):= by
 cases hb:CP W T cs ds ls with
 | false =>
   left
   refine ⟨rfl,?_⟩
   cases n with
   | zero => rfl
   | succ m => simp [BD,hb]
 | true =>
   right
   have hz:= OX hb
   cases n with
   | zero => omega
   | succ m => exact ⟨m,rfl,rfl,by omega,by simp [BD,hb]⟩
theorem Nw (W T:Int) (cs:List Bool) (ds ls:List Int) (hf:Ad W T cs ds ls = true):
  SoundAt Tryz.prog G4 [.agg [.v (.int .i64 W),.v (.int .i64 T),.sl 1 1 (AC cs)],.sl 1 1 (AB ds),.sl 1 1 (AB ls)] (.os 1 (AB (BN W T cs ds ls))) [.bot,.bot,.bot]:= by
 refine AG (md:= md0) (ms:= [false,false,false]) Nv (by simp) ?_
 obtain ⟨hr,e1,e2,_⟩:= Nt (C1 hf)
 have h36:= Ab hr
 simp [G5]
 refine AF (fun m E H => ∃ l,Bz l ≤ m ∧ l.length = ls.length ∧ Ad W T cs ds l = true ∧ BD W T cs ds m l = BN W T cs ds ls ∧
  ((H = [some (.box [.v (.int .i64 W),.v (.int .i64 T),.sl 1 1 (AC cs)])] ∧ E = [(1,.sl 1 1 (AB ds)),(2,.sl 1 1 (AB l)),(3,.lp 0 0 0 0)]) ∨
   (H = [some (.arr 1 (AB l)),some (.box [.v (.int .i64 W),.v (.int .i64 T),.sl 1 1 (AC cs)])] ∧ E = [(1,.sl 1 1 (AB ds)),(2,.ls 1 0 0 ls.length),(3,.lp 0 1 0 0)]))) ls.length ⟨ls,Hr ls,rfl,hf,rfl,.inl (by simp)⟩ ?_
 rintro J hJ m E H ⟨l,hz,hll,hfl,hn,hEH⟩
 have one:= Qo W T cs ds l (C1 hfl)
 have hfl2:= Mo hfl
 have h1:= JD W T cs ds l
 have htk:(AB (Ba W T cs ds l)).take ls.length = AB (Ba W T cs ds l):= List.take_of_length_le (by simp [h1,hll])
 have htl:(AB l).take ls.length = AB l:= List.take_of_length_le (by simp [hll])
 rcases hEH with ⟨rfl,rfl⟩ | ⟨rfl,rfl⟩ <;>
 ·simp [FW,htl]
  refine AA one ?_
  rcases Pt (W:= W) (T:= T) (cs:= cs) (ds:= ds) hz with ⟨hbb,hx⟩ | ⟨k,rfl,hbb,hz2,hx⟩
  ·have e9:Ba W T cs ds l = l:= by simp [CP] at hbb; simp [Ba,hbb]
   simp [hbb,h1,hll,htk,htl,e9,← hn,hx]
  ·simp [hbb,h1,hll,htk,htl]
   exact ⟨_,by omega,hJ _ _ _ ⟨Ba W T cs ds l,hz2,by omega,hfl2,by rw [← hx,hn],.inr ⟨rfl,rfl⟩⟩⟩
theorem V8 (W T:Int) (cs:List Bool) (ds ls:List Int) (hb:cs.length < 2 ^ 40) (hd:ds.length < 2 ^ 40) (hl:ls.length < 2 ^ 40):
  SoundAt Tryz.prog OU [.agg [.v (.int .i64 W),.v (.int .i64 T),.sl 1 1 (AC cs)],.sl 1 1 (AB ds),.sl 1 1 (AB ls)] (.os 1 (AB (R6 W T cs ds ls))) [.bot,.bot,.bot]:= by
 refine AG (md:= md0) (ms:= [false,false,false]) V6 (by simp) ?_
 simp [OV]
 refine AA (Bm W T cs ds ls hb hd hl) ?_
 cases hf:Ad W T cs ds ls with
 | false => simp [R6,hf]
 | true =>
 simp
 refine ⟨by omega,?_⟩
 refine AF (fun m E H => ∃ l,Bz l ≤ m ∧ l.length = ls.length ∧ Ad W T cs ds l = true ∧ BD W T cs ds m l = BN W T cs ds ls ∧ H = [some (.box [.v (.int .i64 W),.v (.int .i64 T),.sl 1 1 (AC cs)]),some (.arr 1 (AB l))] ∧
  E = [(1,.sl 1 1 (AB ds)),(3,.lp 0 0 0 0),(7,.ls 1 1 0 ls.length)]) ls.length ⟨ls,Hr ls,rfl,hf,rfl,by simp⟩ ?_
 rintro J hJ m E H ⟨l,hz,hll,hfl,hn,rfl,rfl⟩
 have one:= V7 W T cs ds l hb hd (by omega)
 have eL:X9 W T cs ds l = Ba W T cs ds l:= by simp [X9,hfl]
 have eB:YA W T cs ds l = CP W T cs ds l:= by simp [YA,hfl]
 rw [eL,eB] at one
 have hfl2:= Mo hfl
 have h1:= JD W T cs ds l
 have htk:(AB (Ba W T cs ds l)).take ls.length = AB (Ba W T cs ds l):= List.take_of_length_le (by simp [h1,hll])
 have htl:(AB l).take ls.length = AB l:= List.take_of_length_le (by simp [hll])
 simp [Kz,htl]
 refine AA one ?_
 rcases Pt (W:= W) (T:= T) (cs:= cs) (ds:= ds) hz with ⟨hbb,hx⟩ | ⟨k,rfl,hbb,hz2,hx⟩
 ·simp [hbb,h1,hll,htk,htl,R6,hf,← hn,hx]
 ·simp [hbb,h1,hll,htk,htl]
  exact ⟨_,by omega,hJ _ _ _ ⟨Ba W T cs ds l,hz2,by omega,hfl2,by rw [← hx,hn],rfl,rfl⟩⟩
end Go.Proofs.Dev
