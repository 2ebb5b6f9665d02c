/- Contracts of the functions of the program over slots and rows, each proved against the program itself; no condition beyond those that each theorem names. -/
import Derived.Test.YtfkmfobbgoflgaaGreatDoorAM
import Derived.Test.YtfkmfobbgoflgaaGreatDoorProg
import Derived.Test.YtfkmfobbgoflgaaGreatDoorAH
import Derived.Test.YtfkmfobbgoflgaaGreatDoorAL
set_option linter.unusedSimpArgs false
set_option linter.unusedVariables false
set_option maxRecDepth 100000
namespace Go.Proofs.Dev
@[simp] abbrev Fi:Nat:= 18
abbrev AZ:Plan:= .al (.o 20 (.call 59 []) [.t 12,.t 14,.t 19]) ( .take (.o 21 (.un .not) [.t 20]) <| .done)
abbrev G6:Plan:= .al (.l 16 15) ( .take (.o 18 (.iadr 1) [.t 16,.t 17]) <| .al (.l 19 18) AZ)
def Fo:ACode:= .seq (.seq (.reg [.m 4 3,.f 5 5 1,.l 6 5,.n 7 6,.o 8 (.bin .lss 0) [.t 4,.t 7]]) <| .cond (.t 8) ( .skip) ( .exit 0)) <| .seq (.block 1 ( .seq (.draw ( .take (.f 11 0 1) <| .take (.f 13 3 1) <| .take (.f 15 5 1) <| .take (.m 17 3) <| .alt (.la 12 3 11) ( .alt (.l 14 13) G6 <| .al (.l 16 15) ( .take (.o 18 (.iadr 1) [.t 16,.t 17]) <| .alt (.l 14 13) ( .al (.l 19 18) AZ) <| .al (.l 19 18) ( .al (.l 14 13) AZ))) <| .alt (.l 14 13) ( .alt (.la 12 3 11) G6 <| .al (.l 16 15) ( .take (.o 18 (.iadr 1) [.t 16,.t 17]) <| .alt (.la 12 3 11) ( .al (.l 19 18) AZ) <| .al (.l 19 18) ( .al (.la 12 3 11) AZ))) <| .al (.l 16 15) ( .take (.o 18 (.iadr 1) [.t 16,.t 17]) <| .alt (.la 12 3 11) ( .alt (.l 14 13) ( .al (.l 19 18) AZ) <| .al (.l 19 18) ( .al (.l 14 13) AZ)) <| .alt (.l 14 13) ( .alt (.la 12 3 11) ( .al (.l 19 18) AZ) <| .al (.l 19 18) ( .al (.la 12 3 11) AZ)) <| .al (.l 19 18) ( .alt (.la 12 3 11) ( .al (.l 14 13) AZ) <| .al (.l 14 13) ( .al (.la 12 3 11) AZ))))) <| .cond (.t 21) ( .seq (.reg [.o 2 .mv [.kb false]]) <| .ret) ( .skip))) <| .reg [.m 9 3,.o 10 (.bin .add 0) [.t 9,.k 1],.m 3 10]
def ND:ACode:= .seq (.reg [.o 1 .box [.t 0],.o 2 .mv [.kb false]]) <| .seq (.seq (.reg [.o 3 .mv [.k 0]]) <| .block 0 ( .loop [] [1,3] Fo)) <| .seq (.reg [.f 22 0 1,.la 23 3 22,.f 24 3 1,.l 25 24,.f 26 4 1,.l 27 26,.o 28 (.call 59 []) [.t 23,.t 25,.t 27],.m 29 28,.fg 30 5 1 29 true,.lg 31 30 29 true,.g 32 (.len false) [.t 31] 29 true,.g 33 (.bin .leq 0) [.t 32,.k 20] 29 true,.o 34 .pick [.t 29,.t 33,.kb false],.m 2 34]) <| .ret
theorem Ue:cFn Tryz.prog Fi 35 [.t 2] ND:= ⟨Tryz.f18,_,Tryz.func18,rfl,by kernel_rfl,by kernel_rfl,by kernel_rfl,by kernel_rfl⟩
@[simp] abbrev K3:Nat:= 100
def K4:ACode:= .seq (.reg [.o 3 .mv [.kb false]]) <| .seq (.reg [.f 4 0 1,.la 5 3 4,.f 6 3 1,.l 7 6,.m 8 0,.o 9 (.call 98 []) [.t 5,.t 7,.t 8],.o 10 (.un .not) [.t 9],.m 3 10]) <| .ret
theorem R7:cFn Tryz.prog K3 11 [.t 3] K4:= ⟨Tryz.f100,_,Tryz.func100,rfl,by kernel_rfl,by kernel_rfl,by kernel_rfl,by kernel_rfl⟩
@[simp] abbrev FD:Nat:= 155
def CD:ACode:= .seq (.reg [.o 9 (.bin .lss 0) [.t 8,.t 7]]) <| .seq (.cond (.t 9) ( .skip) ( .exit 0)) <| .seq (.block 1 ( .seq (.reg [.m 10 8,.m 5 10]) <| .seq (.reg [.m 11 1,.m 12 0,.m 13 5,.o 14 (.iadr 1) [.t 12,.t 13],.l 15 14,.o 16 (.callv []) [.t 11,.t 15]]) <| .cond (.t 16) ( .seq (.reg [.m 17 5,.m 4 17]) <| .ret) ( .skip))) <| .reg [.o 18 (.bin .add 0) [.t 8,.k 1],.m 8 18]
def FE:ACode:= .seq (.reg [.o 4 .mv [.k 0]]) <| .seq (.seq (.reg [.m 6 0,.n 7 6,.o 8 .mv [.k 0]]) <| .block 0 ( .loop [(0,1)] [0,1,7,8] CD)) <| .seq (.reg [.o 4 .mv [.k (-1)]]) <| .ret
theorem KS:cFn Tryz.prog FD 19 [.t 4] FE:= ⟨Tryz.f155,_,Tryz.func155,rfl,by kernel_rfl,by kernel_rfl,by kernel_rfl,by kernel_rfl⟩
@[simp] abbrev Dx:Nat:= 99
def Dy:ACode:= .seq (.reg [.o 4 .mv [.kb false]]) <| .seq (.reg [.m 5 0,.m 6 1,.o 7 (.call 155 []) [.t 5,.t 6],.o 8 (.bin .geq 0) [.t 7,.k 0],.m 4 8]) <| .ret
theorem Ig:cFn Tryz.prog Dx 9 [.t 4] Dy:= ⟨Tryz.f99,_,Tryz.func99,rfl,by kernel_rfl,by kernel_rfl,by kernel_rfl,by kernel_rfl⟩
@[simp] abbrev NE:Nat:= 38
def NF:ACode:= .seq (.reg [.o 1 .box [.t 0],.o 2 .mv [.kb false]]) <| .seq (.reg [.f 3 0 1,.la 4 3 3,.f 5 3 1,.l 6 5,.f 7 4 1,.l 8 7,.o 9 (.call 98 []) [.t 4,.t 6,.t 8],.m 10 9,.fg 11 5 1 10 true,.lg 12 11 10 true,.g 13 (.len false) [.t 12] 10 true,.g 14 (.bin .leq 0) [.t 13,.k 20] 10 true,.o 15 .pick [.t 10,.t 14,.kb false],.m 16 15,.fg 17 5 1 16 true,.lg 18 17 16 true,.g 19 (.mkfn 100) [.t 1] 16 true,.g 20 (.call 99 []) [.t 18,.t 19] 16 true,.g 21 (.un .not) [.t 20] 16 true,.o 22 .pick [.t 16,.t 21,.kb false],.m 2 22]) <| .ret
theorem Uf:cFn Tryz.prog NE 23 [.t 2] NF:= ⟨Tryz.f38,_,Tryz.func38,rfl,by kernel_rfl,by kernel_rfl,by kernel_rfl,by kernel_rfl⟩
@[simp] abbrev L0:Nat:= 80
def L1:ACode:= .seq (.reg [.o 1 .box [.t 0],.o 2 .mv [.kb false]]) <| .seq (.reg [.la 3 6 1,.o 4 (.call 18 []) [.t 3],.m 5 4,.fg 6 0 1 5 true,.g 7 (.load true 3) [.t 6] 5 true,.fg 8 3 1 5 true,.lg 9 8 5 true,.fg 10 4 1 5 true,.lg 11 10 5 true,.g 12 (.call 148 []) [.t 7,.t 9,.t 11] 5 true,.o 13 .pick [.t 5,.t 12,.kb false],.m 2 13]) <| .ret
theorem TM:cFn Tryz.prog L0 14 [.t 2] L1:= ⟨Tryz.f80,_,Tryz.func80,rfl,by kernel_rfl,by kernel_rfl,by kernel_rfl,by kernel_rfl⟩
@[simp] abbrev HY:Nat:= 41
def L2:ACode:= .seq (.reg [.o 1 .box [.t 0],.o 2 .mv [.kb false]]) <| .seq (.reg [.la 3 6 1,.o 4 (.call 38 []) [.t 3],.m 5 4,.fg 6 0 1 5 true,.g 7 (.load true 3) [.t 6] 5 true,.fg 8 4 1 5 true,.lg 9 8 5 true,.g 10 (.call 101 []) [.t 7,.t 9] 5 true,.o 11 .pick [.t 5,.t 10,.kb false],.m 2 11]) <| .ret
theorem TN:cFn Tryz.prog HY 12 [.t 2] L2:= ⟨Tryz.f41,_,Tryz.func41,rfl,by kernel_rfl,by kernel_rfl,by kernel_rfl,by kernel_rfl⟩
def sls (c:Nat) (ps:List (List Int)):List AV:= ps.map fun p => .sl c 1 (AB p)
def oss (ps:List (List Int)):List AV:= ps.map fun p => .os 1 (AB p)
def pti (ps:List (List Int)) (i:Int):List Int:= ps.getD i.toNat []
@[simp] theorem on (c:Nat) (ps:List (List Int)):(sls c ps).length = ps.length:= by simp [sls]
@[simp] theorem oo (ps:List (List Int)):(oss ps).length = ps.length:= by simp [oss]
@[simp] theorem sI (c:Nat):sls c [] = []:= (rfl)
@[simp] theorem nP:oss [] = []:= (rfl)
@[simp] theorem oq (c:Nat) (ps:List (List Int)):(sls c ps = []) = (ps = []):= by cases ps <;> simp [sls]
@[simp] theorem or (ps:List (List Int)):(oss ps = []) = (ps = []):= by cases ps <;> simp [oss]
theorem L3 (a b:List (List Int)):oss (a ++ b) = oss a ++ oss b:= by simp [oss]
theorem TO (a:List Int):oss [a] = [.os 1 (AB a)]:= (rfl)
@[simp] theorem lm {c d:Nat} {k:IntKind} {ps:List (List Int)} {i:Int}:EW 1 (.sl c 1 (sls d ps)) (.v (.int k i)) = if 0 ≤ i ∧ i < ps.length then some (.vp c [.sl d 1 (AB (pti ps i))] 0) else none:= by
  by_cases h:0 ≤ i ∧ i < ps.length
  ·rw [if_pos h]
   have h1:i.toNat < ps.length:= by omega
   simp [EW,h.1,sls,pti,h1]
  ·rw [if_neg h]
   by_cases h0:0 ≤ i
   ·have:¬ i.toNat < ps.length:= by omega
    simp [EW,h0,sls,this]
   ·simp [EW,h0]
@[simp] theorem nQ (c d:Nat):∀ ps:List (List Int),vwL c (sls d ps) = sls c ps
  | [] => rfl
  | p::ps => by
    show vw c (.sl d 1 (AB p))::vwL c (sls d ps) = .sl c 1 (AB p)::sls c ps
    rw [nQ c d ps]; simp
@[simp] theorem nR (c:Nat):∀ ps:List (List Int),vwL c (oss ps) = sls c ps
  | [] => rfl
  | p::ps => by
    show vw c (.os 1 (AB p))::vwL c (oss ps) = .sl c 1 (AB p)::sls c ps
    rw [nR c ps]; simp
@[simp] theorem nS (c:Nat):∀ ps:List (List Int),okL (sls c ps) = true
  | [] => rfl
  | p::ps => by show (okE (.sl c 1 (AB p)) && okL (sls c ps)) = true; rw [nS c ps]; simp
@[simp] theorem Y6:∀ ps:List (List Int),okL (oss ps) = true
  | [] => rfl
  | p::ps => by show (okE (.os 1 (AB p)) && okL (oss ps)) = true; rw [Y6 ps]; simp
theorem kH (n:Nat) (ps:List (List Int)):(oss ps).take n = oss (ps.take n):= by simp [oss]
@[simp] theorem lq (ps:List (List Int)):(oss ps).take ps.length = oss ps:= by rw [kH,List.take_length]
theorem Ih {ps:List (List Int)} {i:Nat} (h:i < ps.length):pti ps i = ps[i]:= by
 unfold pti; rw [Int.toNat_natCast,List.getD_eq_getElem?_getD,List.getElem?_eq_getElem h]; rfl
theorem V9 {ps:List (List Int)} {i:Nat} (h:i < ps.length):pti ps i ∈ ps:= by rw [Ih h]; exact List.getElem_mem h
@[simp] def bkA (W T:Int) (cs:List Bool) (ds ls:List Int) (ps:List (List Int)):AV:= .agg [.v (.int .i64 W),.v (.int .i64 T),.sl 1 1 (AC cs),.sl 1 1 (AB ds),.sl 1 1 (AB ls),.sl 1 1 (sls 1 ps)]
@[simp] def bkO (W T:Int) (cs:List Bool) (ds ls:List Int) (ps:List (List Int)):AV:= .agg [.v (.int .i64 W),.v (.int .i64 T),.os 1 (AC cs),.os 1 (AB ds),.os 1 (AB ls),.os 1 (oss ps)]
@[simp] abbrev Fp:Nat:= 189
def Jj:ACode:= .seq (.reg [.o 2 .mv [.c (.os 1 [])]]) <| .seq (.seq (.reg [.m 3 0,.o 4 (.nilq false) [.t 3]]) <| .cond (.t 4) ( .seq (.reg [.o 2 .mv [.c (.os 1 [])]]) <| .ret) ( .skip)) <| .seq (.reg [.o 5 (.bsl 1) [],.m 6 0,.o 7 (.app 1 24 false) [.t 5,.t 6],.m 2 7]) <| .ret
@[simp] abbrev L4:Nat:= 135
def L5:ACode:= .seq (.reg [.o 2 .mv [.c (.os 1 [])]]) <| .seq (.reg [.m 3 0,.o 4 (.call 189 []) [.t 3],.o 5 (.call 188 []) [.t 4],.m 2 5]) <| .ret
@[simp] abbrev GT:Nat:= 136
abbrev AX:Plan:= .al (.o 25 (.call 190 []) [.t 16,.t 20,.t 22,.t 24]) ( .take (.e 26 0 25) <| .take (.e 27 1 25) <| .take (.m 4 26) <| .take (.m 5 27) <| .done)
abbrev BO:Plan:= .al (.o 37 (.call 191 []) [.t 30,.t 34,.t 36]) ( .take (.e 38 0 37) <| .take (.e 39 1 37) <| .take (.m 4 38) <| .take (.m 5 39) <| .done)
abbrev BP:Plan:= .al (.o 49 (.call 192 []) [.t 42,.t 46,.t 48]) ( .take (.e 50 0 49) <| .take (.e 51 1 49) <| .take (.m 4 50) <| .take (.m 5 51) <| .done)
abbrev BQ:Plan:= .al (.o 63 (.call 193 []) [.t 54,.t 58,.t 62]) ( .take (.m 7 63) <| .done)
abbrev IG:Plan:= .alt (.la 16 3 6) ( .al (.l 24 23) AX) <| .al (.l 24 23) ( .al (.la 16 3 6) AX)
abbrev IH:Plan:= .alt (.la 16 3 6) ( .al (.l 22 21) AX) <| .al (.l 22 21) ( .al (.la 16 3 6) AX)
abbrev II:Plan:= .alt (.la 16 3 6) ( .al (.l 20 19) AX) <| .al (.l 20 19) ( .al (.la 16 3 6) AX)
abbrev IJ:Plan:= .alt (.l 22 21) ( .al (.l 24 23) AX) <| .al (.l 24 23) ( .al (.l 22 21) AX)
abbrev IK:Plan:= .alt (.l 20 19) ( .al (.l 24 23) AX) <| .al (.l 24 23) ( .al (.l 20 19) AX)
abbrev IL:Plan:= .alt (.l 20 19) ( .al (.l 22 21) AX) <| .al (.l 22 21) ( .al (.l 20 19) AX)
def BU:ACode:= .seq (.reg [.o 3 .box [.t 1],.o 4 .mv [.c (.os 1 [])],.o 5 .mv [.kb false]]) <| .seq (.reg [.m 8 0,.o 9 .nilck [.t 8],.f 10 0 9,.la 11 3 10,.o 6 (.alloc rz) [],.s (.store 3) [.t 6,.t 11]]) <| .seq (.seq (.reg [.f 12 0 3,.l 13 12]) <| .block 0 ( .seq (.reg [.o 15 (.bin .eql 0) [.t 13,.k 0],.m 14 15]) <| .cond (.t 14) ( .seq (.draw ( .take (.m 17 0) <| .take (.o 18 .nilck [.t 17]) <| .take (.f 19 4 18) <| .take (.f 21 1 3) <| .take (.f 23 2 3) <| .alt (.la 16 3 6) ( .alt (.l 20 19) IJ <| .alt (.l 22 21) IK <| .al (.l 24 23) IL) <| .alt (.l 20 19) ( .alt (.la 16 3 6) IJ <| .alt (.l 22 21) IG <| .al (.l 24 23) IH) <| .alt (.l 22 21) ( .alt (.la 16 3 6) IK <| .alt (.l 20 19) IG <| .al (.l 24 23) II) <| .al (.l 24 23) ( .alt (.la 16 3 6) IL <| .alt (.l 20 19) IH <| .al (.l 22 21) II))) <| .ret) ( .seq (.reg [.o 29 (.bin .eql 0) [.t 13,.k 1],.m 28 29]) <| .cond (.t 28) ( .seq (.draw ( .take (.m 31 0) <| .take (.o 32 .nilck [.t 31]) <| .take (.f 33 4 32) <| .take (.f 35 1 3) <| .alt (.la 30 3 6) ( .alt (.l 34 33) ( .al (.l 36 35) BO) <| .al (.l 36 35) ( .al (.l 34 33) BO)) <| .alt (.l 34 33) ( .alt (.la 30 3 6) ( .al (.l 36 35) BO) <| .al (.l 36 35) ( .al (.la 30 3 6) BO)) <| .al (.l 36 35) ( .alt (.la 30 3 6) ( .al (.l 34 33) BO) <| .al (.l 34 33) ( .al (.la 30 3 6) BO)))) <| .ret) ( .seq (.reg [.o 41 (.bin .eql 0) [.t 13,.k 2],.m 40 41]) <| .cond (.t 40) ( .seq (.draw ( .take (.m 43 0) <| .take (.o 44 .nilck [.t 43]) <| .take (.f 45 4 44) <| .take (.f 47 1 3) <| .alt (.la 42 3 6) ( .alt (.l 46 45) ( .al (.l 48 47) BP) <| .al (.l 48 47) ( .al (.l 46 45) BP)) <| .alt (.l 46 45) ( .alt (.la 42 3 6) ( .al (.l 48 47) BP) <| .al (.l 48 47) ( .al (.la 42 3 6) BP)) <| .al (.l 48 47) ( .alt (.la 42 3 6) ( .al (.l 46 45) BP) <| .al (.l 46 45) ( .al (.la 42 3 6) BP)))) <| .ret) ( .seq (.reg [.o 53 (.bin .eql 0) [.t 13,.k 3],.m 52 53]) <| .cond (.t 52) ( .seq (.draw ( .take (.m 55 0) <| .take (.o 56 .nilck [.t 55]) <| .take (.f 57 3 56) <| .take (.m 59 0) <| .take (.o 60 .nilck [.t 59]) <| .take (.f 61 4 60) <| .alt (.la 54 3 6) ( .alt (.l 58 57) ( .al (.l 62 61) BQ) <| .al (.l 62 61) ( .al (.l 58 57) BQ)) <| .alt (.l 58 57) ( .alt (.la 54 3 6) ( .al (.l 62 61) BQ) <| .al (.l 62 61) ( .al (.la 54 3 6) BQ)) <| .al (.l 62 61) ( .alt (.la 54 3 6) ( .al (.l 58 57) BQ) <| .al (.l 58 57) ( .al (.la 54 3 6) BQ)))) <| .seq (.reg [.m 64 7,.m 65 7,.m 66 0,.o 67 .nilck [.t 66],.f 68 4 67,.l 69 68,.o 70 (.call 194 []) [.t 65,.t 69],.o 71 (.un .not) [.t 70],.m 4 64,.m 5 71]) <| .ret) ( .skip)))))) <| .seq (.reg [.o 4 .mv [.c (.os 1 [])],.o 5 .mv [.kb false]]) <| .ret
@[simp] abbrev CW:Nat:= 65
def HZ:ACode:= .seq (.reg [.m 76 0,.m 77 0,.m 78 6,.m 79 8,.m 80 8,.n 81 80,.o 82 (.bin .sub 0) [.t 81,.k 20],.o 83 (.mnx false) [.k 0,.t 82],.o 84 (.slice 1 false true false false) [.t 79,.t 83],.o 85 (.call 135 []) [.t 84],.o 86 .nilck [.t 76],.f 87 4 86,.s (.store 1) [.t 87,.t 78],.o 88 .nilck [.t 77],.f 89 5 88,.s (.store 1) [.t 89,.t 85]]) <| .lg <| .seq (.reg [.o 4 .mv [.kb true]]) <| .ret
abbrev DG:Plan:= .al (.o 75 (.app 1 24 false) [.t 69,.t 74]) ( .take (.m 8 75) <| .done)
abbrev Iu:Plan:= .alt (.o 69 (.call 135 []) [.t 68]) ( .al (.o 74 (.bsl 1) [.t 73]) DG) <| .al (.o 74 (.bsl 1) [.t 73]) ( .al (.o 69 (.call 135 []) [.t 68]) DG)
def Ha:ACode:= .seq (.draw ( .take (.m 65 0) <| .take (.o 66 .nilck [.t 65]) <| .take (.f 67 5 66) <| .take (.m 70 0) <| .take (.o 71 .nilck [.t 70]) <| .take (.f 72 4 71) <| .alt (.l 68 67) ( .alt (.o 69 (.call 135 []) [.t 68]) ( .al (.l 73 72) ( .al (.o 74 (.bsl 1) [.t 73]) DG)) <| .al (.l 73 72) Iu) <| .al (.l 73 72) ( .alt (.l 68 67) Iu <| .al (.o 74 (.bsl 1) [.t 73]) ( .al (.l 68 67) ( .al (.o 69 (.call 135 []) [.t 68]) DG))))) <| .lg HZ
abbrev Iv:Plan:= .al (.g 62 (.call 137 []) [.t 56,.t 60,.t 61] 52 false) ( .take (.g 63 (.un .not) [.t 62] 52 false) <| .take (.o 64 .pick [.t 52,.kb true,.t 63]) <| .done)
def DR:ACode:= .seq (.reg [.m 45 0,.la 46 3 3,.o 47 (.call 136 []) [.t 45,.t 46],.m 44 47,.e 48 0 44,.e 49 1 44,.m 6 48,.m 7 49]) <| .seq (.seq (.draw ( .take (.m 50 7) <| .take (.o 51 (.un .not) [.t 50]) <| .take (.m 52 51) <| .take (.mg 53 0 52 false) <| .take (.g 54 .nilck [.t 53] 52 false) <| .take (.fg 55 0 54 52 false) <| .take (.mg 57 0 52 false) <| .take (.g 58 .nilck [.t 57] 52 false) <| .take (.fg 59 3 58 52 false) <| .take (.mg 61 6 52 false) <| .alt (.g 56 (.load true 3) [.t 55] 52 false) ( .al (.lg 60 59 52 false) Iv) <| .al (.lg 60 59 52 false) ( .al (.g 56 (.load true 3) [.t 55] 52 false) Iv))) <| .cond (.t 64) ( .seq (.reg [.o 4 .mv [.kb false]]) <| .ret) ( .skip)) <| .lg Ha
abbrev Bc:Plan:= .take (.o 40 .nilck [.t 22]) <| .take (.f 41 4 40) <| .al (.s (.store 1) [.t 41,.t 31]) ( .take (.o 42 .nilck [.t 23]) <| .take (.f 43 5 42) <| .al (.s (.store 1) [.t 43,.t 39]) ( .done))
def NG:ACode:= .draw ( .take (.m 22 0) <| .take (.m 23 0) <| .take (.m 24 0) <| .take (.o 25 .nilck [.t 24]) <| .take (.f 26 5 25) <| .take (.m 28 5) <| .take (.o 29 (.bin .sub 0) [.t 28,.k 1]) <| .take (.m 32 0) <| .take (.o 33 .nilck [.t 32]) <| .take (.f 34 5 33) <| .take (.m 36 5) <| .take (.o 37 (.bin .sub 0) [.t 36,.k 1]) <| .alt (.l 27 26) ( .take (.o 30 (.iadr 1) [.t 27,.t 29]) <| .alt (.l 31 30) ( .al (.l 35 34) ( .take (.o 38 (.slice 1 false false true false) [.t 35,.t 37]) <| .al (.o 39 (.call 135 []) [.t 38]) Bc)) <| .al (.l 35 34) ( .take (.o 38 (.slice 1 false false true false) [.t 35,.t 37]) <| .alt (.l 31 30) ( .al (.o 39 (.call 135 []) [.t 38]) Bc) <| .al (.o 39 (.call 135 []) [.t 38]) ( .al (.l 31 30) Bc))) <| .al (.l 35 34) ( .take (.o 38 (.slice 1 false false true false) [.t 35,.t 37]) <| .alt (.l 27 26) ( .take (.o 30 (.iadr 1) [.t 27,.t 29]) <| .alt (.l 31 30) ( .al (.o 39 (.call 135 []) [.t 38]) Bc) <| .al (.o 39 (.call 135 []) [.t 38]) ( .al (.l 31 30) Bc)) <| .al (.o 39 (.call 135 []) [.t 38]) ( .al (.l 27 26) ( .take (.o 30 (.iadr 1) [.t 27,.t 29]) <| .al (.l 31 30) Bc))))
def BS:ACode:= .seq (.reg [.o 3 .box [.t 1],.o 4 .mv [.kb false]]) <| .seq (.seq (.reg [.la 9 3 3,.o 10 (.call 62 []) [.t 9],.o 11 (.un .not) [.t 10]]) <| .cond (.t 11) ( .seq (.reg [.o 4 .mv [.kb false]]) <| .ret) ( .skip)) <| .seq (.seq (.reg [.m 12 0,.o 13 .nilck [.t 12],.f 14 5 13,.l 15 14,.n 16 15,.m 5 16]) <| .seq (.reg [.f 17 0 3,.l 18 17,.o 19 (.bin .eql 0) [.t 18,.k 4]]) <| .cond (.t 19) ( .seq (.seq (.reg [.m 20 5,.o 21 (.bin .eql 0) [.t 20,.k 0]]) <| .cond (.t 21) ( .seq (.reg [.o 4 .mv [.kb false]]) <| .ret) ( .skip)) <| .lg <| .seq (NG) <| .lg <| .seq (.reg [.o 4 .mv [.kb true]]) <| .ret) ( .skip)) <| DR
@[simp] def Nx (kind spot way:Int):AV:= .agg [.v (.int .i64 kind),.v (.int .i64 spot),.v (.int .i64 way)]
attribute [simp] fV
def Lo (us:List Value):List AV:= us.map AV.v
@[simp] theorem nT (us:List Value):(Lo us).length = us.length:= by simp [Lo]
theorem VH (ps:List (List Int)):Ze (oss ps):= by
 intro e he
 obtain ⟨p,_,rfl⟩:= List.mem_map.1 he
 rfl
theorem WA (c:Nat) (us:List Value):vwL c (Lo us) = Lo us:= by
 induction us with
 | nil => rfl
 | cons u us ih => show vw c (.v u)::vwL c (Lo us) = .v u::Lo us; rw [ih]; rfl
@[simp] def mdo (f:Nat):List Bool:= if f = 65 then [true,false] else []
@[simp] def Pu (W T:Int) (cs:List Bool) (ds ls:List Int) (ps:List (List Int)):AV:= .op [.v (.int .i64 W),.v (.int .i64 T),.os 1 (AC cs),.os 1 (AB ds),.os 1 (AB ls),.os 1 (oss ps)]
set_option maxHeartbeats 4000000 in
theorem XJ (k:cFn Tryz.prog CW 90 [.t 4] BS) (W T:Int) (cs:List Bool) (ds ls q:List Int) (qs:List (List Int)) (spot way:Int)
  (hq:qs.length ≤ 100)
  (hneeds:SoundAt Tryz.prog 62 [Nx 4 spot way] (.v (.bool true)) [.bot])
  (hclone:∀ us:List Value,us.length < 2 ^ 40 → (∀ u ∈ us,u.oneCell' = true) → SoundAt Tryz.prog 135 [.sl 1 1 (Lo us)] (.os 1 (Lo us)) [.bot]):
  SoundAt Tryz.prog CW [Pu W T cs ds ls (qs ++ [q]),Nx 4 spot way] (.v (.bool true)) [Pu W T cs ds q qs,.bot]:= by
 refine AG (md:= mdo) (ms:= [true,false]) k (by simp) ?_
 simp [BS]
 refine AA hneeds ?_
 have e1:¬ ((qs.length:Int) + 1 = 0):= by omega
 simp [e1]
 refine Lg.takeAll 4 _ rfl (VH _) ?_
 intro us hus hok
 obtain ⟨vs,v,rfl⟩:∃ vs v,us = vs ++ [v]:= by
  rcases List.eq_nil_or_concat us with rfl | ⟨vs,v,h⟩
  ·simp [oss] at hus
  ·exact ⟨vs,v,by rw [h,List.concat_eq_append]⟩
 have hvs:vs.length = qs.length:= by simp [oss] at hus; exact hus
 have hv1:v.oneCell' = true:= hok (Y6 _) v (by simp)
 have hone:∀ u ∈ vs,u.oneCell' = true:= fun u hu => hok (Y6 _) u (by simp [hu])
 simp [RK]
 refine Lg.split 6 vs.length (vs ++ [v]) (oss (qs ++ [q])) rfl ?_
 have s1:(vs ++ [v]).take vs.length = vs:= by simp
 have s2:(vs ++ [v]).drop vs.length = [v]:= by simp
 have s3:(oss (qs ++ [q])).take vs.length = oss qs:= by rw [hvs]; simp [oss]
 have s4:(oss (qs ++ [q])).drop vs.length = [.os 1 (AB q)]:= by rw [hvs]; simp [oss]
 simp [Zx,s1,s2,s3,s4]
 refine Lg.done ?_
 have hget:(vs.map AV.v ++ [AV.v v])[qs.length]? = some (.v v):= by rw [← hvs]; simp
 have hw:(vs.map AV.v ++ [AV.v v]).take qs.length = Lo vs:= by rw [← hvs]; simp [Lo]
 have clone:= hclone vs (by omega) hone
 have hvl:= hvs
 have htk:(Lo vs).take vs.length = Lo vs:= List.take_of_length_le (by simp)
 have fin:∀ E:ES,get E 0 = .lp 0 0 0 0 → get E 90 = .lp 0 0 0 0 → get E 91 = Nx 4 spot way →
   Lg (awp Tryz.prog mdo (.seq (.reg [⟨some 4,.mv,[.kb true],none⟩]) .ret) (Yb (awp Tryz.prog mdo DR (Fin [RV.t 4] 90 2 [true,false] (.v (.bool true)) [Pu W T cs ds q qs,.bot])) (Fin [RV.t 4] 90 2 [true,false] (.v (.bool true)) [Pu W T cs ds q qs,.bot]))) E
    [some (.box [.v (.int .i64 W),.v (.int .i64 T),.ls 1 1 0 cs.length,.ls 1 2 0 ds.length,.v v,.ls 1 8 0 qs.length]),
     some (.arr 1 (AC cs)),some (.arr 1 (AB ds)),some (.arr 1 (AB ls)),some (.arr 1 (vs.map AV.v ++ [AV.v v])),
     some (.box [.v (.int .i64 4),.v (.int .i64 spot),.v (.int .i64 way)]),some (.pool vs (oss qs)),some (.pool [v] [.os 1 (AB q)]),some (.arr 1 (Lo vs))]:= by
  intro E e0 e90 e91
  refine Lg.unpool 7 1 0 4 v (AB q) _ rfl rfl rfl ?_
  simp [TA]
  refine Lg.implode 8 6 vs [] [] (oss qs) (by simp [Lo]) rfl (by omega) (by intro e he; cases he) (by intro e he; cases he) (VH qs) ?_
  simp [RM]
  refine Lg.done ?_
  have hts:(oss qs).take qs.length = oss qs:= List.take_of_length_le (by simp [oss])
  have htq:(AB q).take q.length = AB q:= AE q
  simp [AP,e0,e90,e91,hvs,hts,htq]
 simp [NG,hget]
 (repeat' first | omega | apply And.intro) <;>
 ·refine AA clone ?_
  simp [hw,WA,hvs,htk]
  first
  | exact ⟨hv1,fin _ rfl rfl rfl⟩
  | exact ⟨by omega,hv1,fin _ rfl rfl rfl⟩
  | exact ⟨by omega,by omega,hv1,fin _ rfl rfl rfl⟩
def FY (ls:List Int) (ps:List (List Int)):List (List Int):= (ps ++ [ls]).drop (ps.length + 1 - 20)
abbrev doF (W T:Int) (cs:List Bool) (ds n:List Int) (ps:List (List Int)):= Fin [RV.t 4] 90 2 [true,false] (.v (.bool true)) [Pu W T cs ds n ps,.bot]
theorem fA (ls:List Int) (ps:List (List Int)) (d:Nat) (hd:d = ps.length + 1 - 20):(oss ps).drop d ++ [.os 1 (AB ls)] = oss (FY ls ps):= by
 have hd2:d ≤ ps.length:= by omega
 unfold FY
 rw [← hd,List.drop_append_of_le_length hd2,L3,TO]
 simp [oss]
set_option maxHeartbeats 8000000 in
theorem sJ (W T:Int) (cs:List Bool) (ds ls n:List Int) (ps:List (List Int)) (kind spot way:Int) (us:List Value) (hp:ps.length ≤ 100) (hn:n.length ≤ 100) (hus:us.length = ps.length) (hok:∀ u ∈ us,u.oneCell' = true)
  (hclone:∀ us:List Value,us.length < 2 ^ 40 → (∀ u ∈ us,u.oneCell' = true) → SoundAt Tryz.prog 135 [.sl 1 1 (Lo us)] (.os 1 (Lo us)) [.bot]) (E:ES)
  (e0:get E 0 = .lp 0 0 0 0) (e6:get E 6 = .ls 1 6 0 n.length) (e8:get E 8 = .ls 1 10 0 (ps.length + 1)) (e90:get E 90 = .lp 0 0 0 0) (e91:get E 91 = Nx kind spot way):
  Lg (awp Tryz.prog mdo HZ (doF W T cs ds n (FY ls ps))) E
   [some (.box [.v (.int .i64 W),.v (.int .i64 T),.ls 1 1 0 cs.length,.ls 1 2 0 ds.length,.ls 1 3 0 ls.length,.ls 1 4 0 ps.length]),
    some (.arr 1 (AC cs)),some (.arr 1 (AB ds)),none,some (.arr 1 (us.map AV.v)),
    some (.box [.v (.int .i64 kind),.v (.int .i64 spot),.v (.int .i64 way)]),some (.arr 1 (AB n)),some (.pool us (oss ps)),none,none,
    some (.arr 1 (us.map AV.v ++ [.os 1 (AB ls)]))]:= by
 refine Lg.takeAll 10 _ rfl (oneE_append.2 ⟨VV us,by intro e he; simp at he; subst he; rfl⟩) ?_
 intro us2 hus2 hok2
 have hl2:us2.length = ps.length + 1:= by rw [hus2]; simp [hus]
 simp [RK]
 refine Lg.done ?_
 obtain ⟨d,hd⟩:∃ d:Nat,d = ps.length + 1 - 20:= ⟨_,rfl⟩
 have hm:(if (20:Int) < ps.length + 1 then (ps.length:Int) + 1 - 20 else 0) = d:= by split <;> omega
 have hd2:d ≤ ps.length:= by omega
 have hd3:d ≤ ps.length + 1:= by omega
 have hone2:∀ u ∈ us2.drop d,u.oneCell' = true:= by
  intro u hu
  refine hok2 ?_ u (List.mem_of_mem_drop hu)
  have h1:∀ us:List Value,(∀ u ∈ us,u.oneCell' = true) → okL (us.map AV.v ++ [.os 1 (AB ls)]) = true:= by
   intro us
   induction us with
   | nil => intro _; simp [okL,okE]
   | cons u us ih =>
     intro h
     show (okE (.v u) && okL (us.map AV.v ++ [.os 1 (AB ls)])) = true
     have h2:okE (.v u) = true:= h u (by simp)
     rw [h2,ih fun x hx => h x (by simp [hx])]
     rfl
  exact h1 us hok
 have clone:= hclone (us2.drop d) (by simp; omega) hone2
 have hw1:((us2.map AV.v).drop d).take (ps.length + 1 - d) = Lo (us2.drop d):= by
  rw [← List.map_drop]
  exact List.take_of_length_le (by simp; omega)
 have hlen:(us2.drop d).length = ps.length + 1 - d:= by simp [hl2]
 simp [HZ,AP,e0,e6,e8,e90,e91,hm,hd3]
 refine ⟨by omega,?_⟩
 refine AA clone ?_
 have hle:d + (ps.length + 1 - d) ≤ us2.length:= by omega
 simp [hw1,WA,AP,e0,e6,e8,e90,e91,hlen,hle]
 refine Lg.split 11 d us2 _ rfl ?_
 have s1:(us.map AV.v ++ [AV.os 1 (AB ls)]).drop d = (us.drop d).map AV.v ++ [.os 1 (AB ls)]:= by
  rw [List.drop_append_of_le_length (by simp; omega),List.map_drop]
 simp only [Zx,s1]
 simp
 refine Lg.implode 12 13 (us2.drop d) [] [] ((us.drop d).map AV.v ++ [.os 1 (AB ls)]) (by simp [Lo]) (by simp) (by omega) (by intro e he; cases he) (by intro e he; cases he) (oneE_append.2 ⟨VV _,by intro e he; simp at he; subst he; rfl⟩) ?_
 simp [RM]
 refine Lg.split 7 d us (oss ps) rfl ?_
 simp [Zx]
 refine Lg.implode 12 14 (us.drop d) [] [.os 1 (AB ls)] ((oss ps).drop d) (by simp) (by simp) (by omega) (by intro e he; cases he) (by intro e he; simp at he; subst he; rfl) (fun e he => VH ps e (List.mem_of_mem_drop he)) ?_
 simp [RM]
 rw [fA ls ps d hd]
 refine Lg.done ?_
 have htq:(AB n).take n.length = AB n:= AE n
 have hbl:(FY ls ps).length = ps.length + 1 - d:= by unfold FY; rw [← hd]; simp
 have htb:(oss (FY ls ps)).take (ps.length + 1 - d) = oss (FY ls ps):= List.take_of_length_le (by simp [oss,hbl])
 simp [AP,e0,e6,e8,e90,e91,htq,hbl,htb]
set_option maxHeartbeats 8000000 in
theorem sK (W T:Int) (cs:List Bool) (ds ls n:List Int) (ps:List (List Int)) (kind spot way:Int) (hp:ps.length ≤ 100) (hls:ls.length ≤ 100) (hn:n.length ≤ 100)
  (hclone:∀ us:List Value,us.length < 2 ^ 40 → (∀ u ∈ us,u.oneCell' = true) → SoundAt Tryz.prog 135 [.sl 1 1 (Lo us)] (.os 1 (Lo us)) [.bot]) (E:ES)
  (e0:get E 0 = .lp 0 0 0 0) (e6:get E 6 = .ls 1 6 0 n.length) (e90:get E 90 = .lp 0 0 0 0) (e91:get E 91 = Nx kind spot way):
  Lg (awp Tryz.prog mdo Ha (doF W T cs ds n (FY ls ps))) E
   [some (.box [.v (.int .i64 W),.v (.int .i64 T),.ls 1 1 0 cs.length,.ls 1 2 0 ds.length,.ls 1 3 0 ls.length,.ls 1 4 0 ps.length]),
    some (.arr 1 (AC cs)),some (.arr 1 (AB ds)),some (.arr 1 (AB ls)),some (.arr 1 (oss ps)),
    some (.box [.v (.int .i64 kind),.v (.int .i64 spot),.v (.int .i64 way)]),some (.arr 1 (AB n))]:= by
 refine Lg.takeAll 4 _ rfl (VH ps) ?_
 intro us hus hok
 have hl:us.length = ps.length:= by rw [hus]; simp [oss]
 have hone:∀ u ∈ us,u.oneCell' = true:= hok (Y6 ps)
 have clone:= hclone us (by omega) hone
 have htk:(us.map AV.v).take ps.length = Lo us:= by rw [← hl]; exact List.take_of_length_le (by simp)
 have hokr:okL (Lo us) = true:= by
  clear hok hus clone htk hl
  induction us with
  | nil => rfl
  | cons u us ih =>
    have h2:okE (.v u) = true:= hone u (by simp)
    show (okE (.v u) && okL (Lo us)) = true
    rw [h2,ih fun x hx => hone x (by simp [hx])]
    rfl
 simp [RK]
 refine Lg.done ?_
 simp [Ha,AP,e0,e6,e90,e91]
 (repeat' first | omega | apply And.intro) <;>
 ·refine AA clone ?_
  simp [htk,WA,AP,e0,e6,e90,e91,hl]
  exact ⟨by omega,sJ W T cs ds ls n ps kind spot way us hp hn hl hone hclone _ (by simp [AP,e0]) (by simp [AP,e6]) (by simp) (by simp [AP,e90]) (by simp [AP,e91])⟩
set_option maxHeartbeats 8000000 in
theorem Y7 (k:cFn Tryz.prog CW 90 [.t 4] BS) (W T:Int) (cs:List Bool) (ds ls n:List Int) (ps:List (List Int)) (kind spot way:Int) (b fb:Bool)
  (hp:ps.length ≤ 100) (hkind:kind ≠ 4) (hls:ls.length ≤ 100) (hn:n.length ≤ 100)
  (hneeds:SoundAt Tryz.prog 62 [Nx kind spot way] (.v (.bool true)) [.bot])
  (hby:SoundAt Tryz.prog 136 [.vp 1 [.v (.int .i64 W),.v (.int .i64 T),.sl 1 1 (AC cs),.sl 1 1 (AB ds),.sl 1 1 (AB ls),.sl 1 1 (sls 1 ps)] 0,Nx kind spot way] (.tup [.os 1 (AB n),.v (.bool b)]) [.bot,.bot])
  (hfair:SoundAt Tryz.prog 137 [.agg [.v (.int .i64 W),.v (.int .i64 T),.sl 1 1 (AC cs)],.sl 1 1 (AB ds),.sl 1 1 (AB n)] (.v (.bool fb)) [.bot,.bot,.bot])
  (hclone:∀ us:List Value,us.length < 2 ^ 40 → (∀ u ∈ us,u.oneCell' = true) → SoundAt Tryz.prog 135 [.sl 1 1 (Lo us)] (.os 1 (Lo us)) [.bot]):
  SoundAt Tryz.prog CW [Pu W T cs ds ls ps,Nx kind spot way] (.v (.bool (b && fb))) [if (b && fb) = true then Pu W T cs ds n (FY ls ps) else Pu W T cs ds ls ps,.bot]:= by
 refine AG (md:= mdo) (ms:= [true,false]) k (by simp) ?_
 have htl:(AB ls).take ls.length = AB ls:= AE ls
 have hto:(oss ps).take ps.length = oss ps:= List.take_of_length_le (by simp [oss])
 cases b with
 | false =>
   simp [BS]
   refine AA hneeds ?_
   simp [hkind,DR]
   refine AA hby ?_
   simp [htl,hto]
 | true =>
 cases fb with
 | false =>
   simp [BS]
   refine AA hneeds ?_
   simp [hkind,DR]
   refine AA hby ?_
   simp
   (repeat' first | omega | apply And.intro) <;>
   ·refine AA hfair ?_
    simp [htl,hto]
 | true =>
   simp [BS]
   refine AA hneeds ?_
   simp [hkind,DR]
   refine AA hby ?_
   simp
   (repeat' first | omega | apply And.intro) <;>
   ·refine AA hfair ?_
    simp
    exact sK W T cs ds ls n ps kind spot way hp hls hn hclone _ rfl rfl rfl rfl
def Jk (named:Bool) (kind:Int) (ls:List Int) (ps:List (List Int)) (n:List Int) (b:Bool):Bool × List Int × List (List Int):=
 if named = false then (false,ls,ps) else
 if kind = 4 then (match ps.getLast? with | some q => (true,q,ps.dropLast) | none => (false,ls,ps)) else
 if b then (true,n,FY ls ps) else (false,ls,ps)
theorem gv (k:cFn Tryz.prog CW 90 [.t 4] BS) (W T:Int) (cs:List Bool) (ds ls n:List Int) (ps:List (List Int)) (kind spot way:Int) (named b fb:Bool)
  (hp:ps.length ≤ 100) (hls:ls.length ≤ 100) (hn:n.length ≤ 100)
  (hneeds:SoundAt Tryz.prog 62 [Nx kind spot way] (.v (.bool named)) [.bot])
  (hby:named = true → kind ≠ 4 → SoundAt Tryz.prog 136 [.vp 1 [.v (.int .i64 W),.v (.int .i64 T),.sl 1 1 (AC cs),.sl 1 1 (AB ds),.sl 1 1 (AB ls),.sl 1 1 (sls 1 ps)] 0,Nx kind spot way] (.tup [.os 1 (AB n),.v (.bool b)]) [.bot,.bot])
  (hfair:named = true → kind ≠ 4 → SoundAt Tryz.prog 137 [.agg [.v (.int .i64 W),.v (.int .i64 T),.sl 1 1 (AC cs)],.sl 1 1 (AB ds),.sl 1 1 (AB n)] (.v (.bool fb)) [.bot,.bot,.bot])
  (hclone:∀ us:List Value,us.length < 2 ^ 40 → (∀ u ∈ us,u.oneCell' = true) → SoundAt Tryz.prog 135 [.sl 1 1 (Lo us)] (.os 1 (Lo us)) [.bot]):
  SoundAt Tryz.prog CW [Pu W T cs ds ls ps,Nx kind spot way] (.v (.bool (Jk named kind ls ps n (b && fb)).1))
   [Pu W T cs ds (Jk named kind ls ps n (b && fb)).2.1 (Jk named kind ls ps n (b && fb)).2.2,.bot]:= by
 have htl:(AB ls).take ls.length = AB ls:= AE ls
 have hto:(oss ps).take ps.length = oss ps:= List.take_of_length_le (by simp [oss])
 cases named with
 | false =>
   refine AG (md:= mdo) (ms:= [true,false]) k (by simp) ?_
   simp [BS,Jk]
   refine AA hneeds ?_
   simp [htl,hto]
 | true =>
 by_cases hk:kind = 4
 ·subst hk
  rcases List.eq_nil_or_concat ps with rfl | ⟨qs,q,h⟩
  ·refine AG (md:= mdo) (ms:= [true,false]) k (by simp) ?_
   simp [BS,Jk]
   refine AA hneeds ?_
   simp [htl,hto]
  ·rw [List.concat_eq_append] at h
   subst h
   have e:Jk true 4 ls (qs ++ [q]) n (b && fb) = (true,q,qs):= by simp [Jk]
   rw [e]
   exact XJ k W T cs ds ls q qs spot way (by simp at hp; omega) hneeds hclone
 ·have h:= Y7 k W T cs ds ls n ps kind spot way b fb hp hk hls hn hneeds (hby rfl hk) (hfair rfl hk) hclone
  cases hb:(b && fb) with
  | false =>
    rw [hb] at h
    have e:Jk true kind ls ps n false = (false,ls,ps):= by simp [Jk,hk]
    rw [e]; simpa using h
  | true =>
    rw [hb] at h
    have e:Jk true kind ls ps n true = (true,n,FY ls ps):= by simp [Jk,hk]
    rw [e]; simpa using h
def Ug (kind:Int) (n0 n1 n2 n3:List Int) (b0 b1 b2 b3:Bool):List Int × Bool:=
 if kind = 0 then (n0,b0) else if kind = 1 then (n1,b1) else if kind = 2 then (n2,b2) else if kind = 3 then (n3,b3) else ([],false)
set_option maxHeartbeats 8000000 in
theorem Y8 (k:cFn Tryz.prog GT 72 [.t 4,.t 5] BU) (W T:Int) (cs:List Bool) (ds ls n0 n1 n2 n3:List Int) (ps:List (List Int)) (kind spot way:Int) (b0 b1 b2 e3:Bool)
  (h0:SoundAt Tryz.prog 190 [.agg [.v (.int .i64 W),.v (.int .i64 T),.sl 1 1 (AC cs)],.sl 1 1 (AB ls),.v (.int .i64 spot),.v (.int .i64 way)] (.tup [.os 1 (AB n0),.v (.bool b0)]) [.bot,.bot,.bot,.bot])
  (h1:SoundAt Tryz.prog 191 [.agg [.v (.int .i64 W),.v (.int .i64 T),.sl 1 1 (AC cs)],.sl 1 1 (AB ls),.v (.int .i64 spot)] (.tup [.os 1 (AB n1),.v (.bool b1)]) [.bot,.bot,.bot])
  (h2:SoundAt Tryz.prog 192 [.agg [.v (.int .i64 W),.v (.int .i64 T),.sl 1 1 (AC cs)],.sl 1 1 (AB ls),.v (.int .i64 spot)] (.tup [.os 1 (AB n2),.v (.bool b2)]) [.bot,.bot,.bot])
  (h3:SoundAt Tryz.prog 193 [.agg [.v (.int .i64 W),.v (.int .i64 T),.sl 1 1 (AC cs)],.sl 1 1 (AB ds),.sl 1 1 (AB ls)] (.os 1 (AB n3)) [.bot,.bot,.bot])
  (h4:SoundAt Tryz.prog 194 [.sl 1 1 (AB n3),.sl 1 1 (AB ls)] (.v (.bool e3)) [.bot,.bot]):
  SoundAt Tryz.prog GT [.vp 1 [.v (.int .i64 W),.v (.int .i64 T),.sl 1 1 (AC cs),.sl 1 1 (AB ds),.sl 1 1 (AB ls),.sl 1 1 (sls 1 ps)] 0,Nx kind spot way]
   (.tup [.os 1 (AB (Ug kind n0 n1 n2 n3 b0 b1 b2 (!e3)).1),.v (.bool (Ug kind n0 n1 n2 n3 b0 b1 b2 (!e3)).2)]) [.bot,.bot]:= by
 have t0:(AB n0).take n0.length = AB n0:= AE n0
 have t1:(AB n1).take n1.length = AB n1:= AE n1
 have t2:(AB n2).take n2.length = AB n2:= AE n2
 have t3:(AB n3).take n3.length = AB n3:= AE n3
 refine AG (md:= mdo) (ms:= [false,false]) k (by simp) ?_
 by_cases hk0:kind = 0
 ·simp [BU,hk0,Ug]
  (repeat' first | omega | apply And.intro) <;>
  ·refine AA h0 ?_
   simp [t0]
 by_cases hk1:kind = 1
 ·subst hk1
  simp [BU,Ug]
  (repeat' first | omega | apply And.intro) <;>
  ·refine AA h1 ?_
   simp [t1]
 by_cases hk2:kind = 2
 ·subst hk2
  simp [BU,Ug]
  (repeat' first | omega | apply And.intro) <;>
  ·refine AA h2 ?_
   simp [t2]
 by_cases hk3:kind = 3
 ·subst hk3
  simp [BU,Ug]
  (repeat' first | omega | apply And.intro) <;>
  ·refine AA h3 ?_
   simp
   (repeat' first | omega | apply And.intro) <;>
   ·refine AA h4 ?_
    simp [t3]
 ·simp [BU,hk0,hk1,hk2,hk3,Ug]
@[simp] abbrev L6:Nat:= 166
def FI:ACode:= .seq (.seq (.reg [.m 23 8,.m 24 1,.n 25 24,.o 26 (.bin .lss 0) [.t 23,.t 25]]) <| .cond (.t 26) ( .skip) ( .exit 0)) <| .seq (.block 1 ( .reg [.m 29 7,.o 30 (.bsl 1) [.k (-1)],.o 31 (.app 1 8 true) [.t 29,.t 30],.m 7 31])) <| .reg [.m 27 8,.o 28 (.bin .add 0) [.t 27,.k 1],.m 8 28]
def FJ:ACode:= .seq (.seq (.reg [.m 52 10,.m 53 11,.o 54 (.bin .sub 0) [.k 6,.t 53],.o 55 (.bin .gtr 0) [.t 52,.t 54]]) <| .cond (.t 55) ( .skip) ( .exit 4)) <| .block 5 ( .seq (.reg [.m 56 10,.m 57 11,.o 58 (.bin .sub 0) [.k 6,.t 57],.o 59 (.bin .add 0) [.t 58,.k 1],.o 60 (.bin .sub 0) [.t 56,.t 59],.m 10 60]) <| .reg [.m 61 11,.o 62 (.bin .add 0) [.t 61,.k 1],.m 11 62])
abbrev G7:Plan:= .al (.o 74 (.call 169 []) [.t 68,.t 69,.t 73]) ( .take (.o 78 (.iadr 1) [.t 67,.t 74]) <| .al (.s (.store 1) [.t 78,.t 77]) ( .done))
def Jl:ACode:= .draw ( .take (.m 67 7) <| .take (.m 69 9) <| .take (.m 70 1) <| .take (.m 71 9) <| .take (.o 72 (.iadr 1) [.t 70,.t 71]) <| .take (.m 75 11) <| .take (.m 76 10) <| .take (.o 77 (.bin .add 0) [.t 75,.t 76]) <| .alt (.la 68 3 3) ( .al (.l 73 72) G7) <| .al (.l 73 72) ( .al (.la 68 3 3) G7))
def DH:ACode:= .seq (.seq (.reg [.m 32 9,.m 33 1,.n 34 33,.o 35 (.bin .lss 0) [.t 32,.t 34]]) <| .cond (.t 35) ( .skip) ( .exit 2)) <| .seq (.block 3 ( .seq (.reg [.m 38 1,.m 39 9,.o 40 (.iadr 1) [.t 38,.t 39],.l 41 40,.o 42 (.bin .eql 0) [.t 41,.k 1],.m 43 42,.mg 44 1 43 false,.mg 45 9 43 false,.g 46 (.iadr 1) [.t 44,.t 45] 43 false,.lg 47 46 43 false,.g 48 (.bin .eql 0) [.t 47,.k 2] 43 false,.o 49 .pick [.t 43,.kb true,.t 48]]) <| .cond (.t 49) ( .seq (.reg [.m 50 2,.o 51 (.bin .rem 0) [.t 50,.k 28],.m 10 51]) <| .seq (.reg [.o 11 .mv [.k 0]]) <| .seq (.block 4 ( .loop [(1,1),(7,1)] [1,2,3,7,9,10,11] FJ)) <| .seq (.reg [.m 63 7,.m 64 9,.m 65 11,.o 66 (.iadr 1) [.t 63,.t 64],.s (.store 1) [.t 66,.t 65]]) <| .seq Jl <| .reg [.m 79 2,.o 80 (.bin .add 0) [.t 79,.k 1],.m 2 80]) ( .skip))) <| .reg [.m 36 9,.o 37 (.bin .add 0) [.t 36,.k 1],.m 9 37]
def L7:ACode:= .seq (.reg [.o 3 .box [.t 0],.o 6 .mv [.c (.os 1 [])]]) <| .seq (.seq (.reg [.la 12 3 3,.m 13 1,.o 14 (.call 204 []) [.t 12,.t 13],.o 15 (.un .not) [.t 14],.m 16 15,.mg 17 2 16 false,.g 18 (.call 106 []) [.t 17,.k 0,.k 27] 16 false,.g 19 (.un .not) [.t 18] 16 false,.o 20 .pick [.t 16,.kb true,.t 19]]) <| .cond (.t 20) ( .seq (.reg [.o 21 (.bsl 1) [],.m 6 21]) <| .ret) ( .skip)) <| .seq (.reg [.o 22 (.bsl 1) [],.m 7 22]) <| .seq (.seq (.reg [.o 8 .mv [.k 0]]) <| .block 0 ( .loop [(1,1),(7,1)] [1,2,3,7,8] FI)) <| .seq (.seq (.reg [.o 9 .mv [.k 0]]) <| .block 2 ( .loop [(1,1),(7,1)] [1,2,3,7,9] DH)) <| .seq (.reg [.m 81 7,.m 6 81]) <| .ret
theorem TP:cFn Tryz.prog L6 82 [.t 6] L7:= ⟨Tryz.f166,_,Tryz.func166,rfl,by kernel_rfl,by kernel_rfl,by kernel_rfl,by kernel_rfl⟩
@[simp] abbrev R8:Nat:= 179
def R9:ACode:= .seq (.reg [.o 2 .box [.t 0],.o 4 .mv [.kb false]]) <| .seq (.reg [.la 5 3 2,.o 6 (.call 108 []) [.t 5],.m 7 6,.g 8 (.load true 3) [.t 2] 7 true,.mg 9 1 7 true,.g 10 (.call 154 []) [.t 8,.t 9] 7 true,.o 11 .pick [.t 7,.t 10,.kb false],.m 4 11]) <| .ret
theorem Y9:cFn Tryz.prog R8 12 [.t 4] R9:= ⟨Tryz.f179,_,Tryz.func179,rfl,by kernel_rfl,by kernel_rfl,by kernel_rfl,by kernel_rfl⟩
@[simp] abbrev Aw:Nat:= 53
def C3:ACode:= .seq (.reg [.o 2 .mv [.c (.os 3 [])]]) <| .seq (.reg [.m 3 0,.m 4 0,.n 5 4,.m 6 0,.n 7 6,.o 8 (.slice 3 false false true true) [.t 3,.t 5,.t 7],.m 2 8]) <| .ret
theorem GU:cFn Tryz.prog Aw 9 [.t 2] C3:= ⟨Tryz.f53,_,Tryz.func53,rfl,by kernel_rfl,by kernel_rfl,by kernel_rfl,by kernel_rfl⟩
@[simp] abbrev Ae:Nat:= 178
def G8:ACode:= .seq (.reg [.o 2 .mv [.kb false]]) <| .seq (.reg [.m 3 0,.o 4 (.bin .eql 0) [.t 3,.k 1],.m 5 4,.mg 6 0 5 false,.g 7 (.bin .eql 0) [.t 6,.k 2] 5 false,.o 8 .pick [.t 5,.kb true,.t 7],.m 2 8]) <| .ret
theorem Ny:cFn Tryz.prog Ae 9 [.t 2] G8:= ⟨Tryz.f178,_,Tryz.func178,rfl,by kernel_rfl,by kernel_rfl,by kernel_rfl,by kernel_rfl⟩
@[simp] abbrev Iw:Nat:= 127
def Dd:ACode:= .seq (.reg [.o 37 (.bin .lss 0) [.t 36,.t 35]]) <| .seq (.cond (.t 37) ( .skip) ( .exit 0)) <| .seq (.block 1 ( .seq (.reg [.m 38 36,.o 39 (.iadr 1) [.t 34,.t 36],.l 40 39,.m 7 38,.m 8 40]) <| .seq (.reg [.m 41 6,.m 42 8,.o 43 (.callv []) [.t 41,.t 42],.m 44 43,.mg 45 3 44 true,.mg 46 7 44 true,.g 47 (.iadr 1) [.t 45,.t 46] 44 true,.lg 48 47 44 true,.mg 49 8 44 true,.g 50 (.bin .neq 0) [.t 48,.t 49] 44 true,.o 51 .pick [.t 44,.t 50,.kb false]]) <| .cond (.t 51) ( .reg [.m 52 5,.m 53 7,.o 54 (.build dz [(0,1),(1,1),(2,1)]) [.k 1,.t 53,.k 0],.o 55 (.bsl 3) [.t 54],.o 56 (.app 3 24 true) [.t 52,.t 55],.m 5 56]) ( .skip))) <| .reg [.o 57 (.bin .add 0) [.t 36,.k 1],.m 36 57]
def De:ACode:= .seq (.reg [.o 61 (.bin .lss 0) [.t 60,.t 59]]) <| .seq (.cond (.t 61) ( .skip) ( .exit 2)) <| .seq (.block 3 ( .seq (.reg [.m 62 60,.o 63 (.iadr 1) [.t 58,.t 60],.l 64 63,.m 9 62,.m 10 64]) <| .seq (.reg [.m 65 6,.m 66 10,.o 67 (.callv []) [.t 65,.t 66],.m 68 67,.mg 69 0 68 true,.g 70 .nilck [.t 69] 68 true,.fg 71 4 70 68 true,.lg 72 71 68 true,.mg 73 9 68 true,.g 74 (.iadr 1) [.t 72,.t 73] 68 true,.lg 75 74 68 true,.mg 76 10 68 true,.g 77 (.bin .neq 0) [.t 75,.t 76] 68 true,.o 78 .pick [.t 68,.t 77,.kb false]]) <| .cond (.t 78) ( .reg [.m 79 5,.m 80 9,.m 81 10,.o 82 (.build dz [(0,1),(1,1),(2,1)]) [.k 0,.t 80,.t 81],.o 83 (.bsl 3) [.t 82],.o 84 (.app 3 24 true) [.t 79,.t 83],.m 5 84]) ( .skip))) <| .reg [.o 85 (.bin .add 0) [.t 60,.k 1],.m 60 85]
def CQ:ACode:= .seq (.seq (.reg [.m 29 4,.o 30 (.un .not) [.t 29]]) <| .cond (.t 30) ( .seq (.reg [.o 2 .mv [.c (.os 3 [])]]) <| .ret) ( .skip)) <| .seq (.reg [.o 5 .mv [.c (.os 3 [])]]) <| .seq (.reg [.o 6 .mv [.f 178]]) <| .seq (.seq (.reg [.m 31 0,.o 32 .nilck [.t 31],.f 33 4 32,.l 34 33,.n 35 34,.o 36 .mv [.k 0]]) <| .block 0 ( .loop [(3,1),(5,3),(34,1)] [0,3,5,6,34,35,36] Dd)) <| .seq (.seq (.reg [.m 58 3,.n 59 58,.o 60 .mv [.k 0]]) <| .block 2 ( .loop [(5,3),(58,1)] [0,5,6,58,59,60] De)) <| .seq (.reg [.m 86 5,.o 87 (.call 53 []) [.t 86],.m 2 87]) <| .ret
abbrev Ag:Plan:= .al (.o 26 (.call 177 []) [.t 15,.t 19,.t 25]) ( .take (.m 11 26) <| .take (.e 27 0 11) <| .take (.e 28 1 11) <| .take (.m 3 27) <| .take (.m 4 28) <| .done)
abbrev CR:Plan:= .al (.o 25 (.mksl 1 8 (.v (.int .i64 (0)))) [.t 24,.t 24]) Ag
abbrev GV:Plan:= .al (.l 23 22) ( .take (.n 24 23) <| .al (.o 25 (.mksl 1 8 (.v (.int .i64 (0)))) [.t 24,.t 24]) Ag)
def Ix:ACode:= .seq (.reg [.o 2 .mv [.c (.os 3 [])]]) <| .seq (.draw ( .take (.m 12 0) <| .take (.o 13 .nilck [.t 12]) <| .take (.f 14 0 13) <| .take (.m 16 0) <| .take (.o 17 .nilck [.t 16]) <| .take (.f 18 3 17) <| .take (.m 20 0) <| .take (.o 21 .nilck [.t 20]) <| .take (.f 22 3 21) <| .alt (.la 15 3 14) ( .alt (.l 19 18) GV <| .al (.l 23 22) ( .take (.n 24 23) <| .alt (.l 19 18) CR <| .al (.o 25 (.mksl 1 8 (.v (.int .i64 (0)))) [.t 24,.t 24]) ( .al (.l 19 18) Ag))) <| .alt (.l 19 18) ( .alt (.la 15 3 14) GV <| .al (.l 23 22) ( .take (.n 24 23) <| .alt (.la 15 3 14) CR <| .al (.o 25 (.mksl 1 8 (.v (.int .i64 (0)))) [.t 24,.t 24]) ( .al (.la 15 3 14) Ag))) <| .al (.l 23 22) ( .take (.n 24 23) <| .alt (.la 15 3 14) ( .alt (.l 19 18) CR <| .al (.o 25 (.mksl 1 8 (.v (.int .i64 (0)))) [.t 24,.t 24]) ( .al (.l 19 18) Ag)) <| .alt (.l 19 18) ( .alt (.la 15 3 14) CR <| .al (.o 25 (.mksl 1 8 (.v (.int .i64 (0)))) [.t 24,.t 24]) ( .al (.la 15 3 14) Ag)) <| .al (.o 25 (.mksl 1 8 (.v (.int .i64 (0)))) [.t 24,.t 24]) ( .alt (.la 15 3 14) ( .al (.l 19 18) Ag) <| .al (.l 19 18) ( .al (.la 15 3 14) Ag))))) <| .gc [] [0,3,4] CQ
theorem PY:cFn Tryz.prog Iw 88 [.t 2] Ix:= ⟨Tryz.f127,_,Tryz.func127,rfl,by kernel_rfl,by kernel_rfl,by kernel_rfl,by kernel_rfl⟩
@[simp] abbrev OY:Nat:= 75
abbrev Eh:Plan:= .take (.g 58 (.bin .neq 0) [.t 52,.t 57] 48 true) <| .take (.o 59 .pick [.t 48,.t 58,.kb false]) <| .done
def BV:ACode:= .seq (.seq (.reg [.m 28 6,.m 29 4,.n 30 29,.o 31 (.bin .lss 0) [.t 28,.t 30]]) <| .cond (.t 31) ( .skip) ( .exit 0)) <| .seq (.block 1 ( .seq (.draw ( .take (.f 34 4 1) <| .take (.m 36 6) <| .al (.l 35 34) ( .take (.o 37 (.iadr 1) [.t 35,.t 36]) <| .al (.l 38 37) ( .take (.o 39 (.bin .eql 0) [.t 38,.k 1]) <| .take (.m 40 39) <| .take (.fg 41 4 1 40 false) <| .take (.mg 43 6 40 false) <| .al (.lg 42 41 40 false) ( .take (.g 44 (.iadr 1) [.t 42,.t 43] 40 false) <| .al (.lg 45 44 40 false) ( .take (.g 46 (.bin .eql 0) [.t 45,.k 2] 40 false) <| .take (.o 47 .pick [.t 40,.kb true,.t 46]) <| .take (.m 48 47) <| .take (.mg 49 4 48 true) <| .take (.mg 50 6 48 true) <| .take (.g 51 (.iadr 1) [.t 49,.t 50] 48 true) <| .take (.fg 53 4 1 48 true) <| .take (.mg 55 6 48 true) <| .alt (.lg 52 51 48 true) ( .al (.lg 54 53 48 true) ( .take (.g 56 (.iadr 1) [.t 54,.t 55] 48 true) <| .al (.lg 57 56 48 true) Eh)) <| .al (.lg 54 53 48 true) ( .take (.g 56 (.iadr 1) [.t 54,.t 55] 48 true) <| .alt (.lg 52 51 48 true) ( .al (.lg 57 56 48 true) Eh) <| .al (.lg 57 56 48 true) ( .al (.lg 52 51 48 true) Eh)))))))) <| .cond (.t 59) ( .reg [.m 60 3,.m 61 6,.o 62 (.build dz [(0,1),(1,1)]) [.k 1,.t 61],.o 63 (.bsl 3) [.t 62],.o 64 (.app 3 24 true) [.t 60,.t 63],.m 3 64]) ( .skip))) <| .reg [.m 32 6,.o 33 (.bin .add 0) [.t 32,.k 1],.m 6 33]
abbrev Ei:Plan:= .take (.g 93 (.bin .neq 0) [.t 87,.t 92] 83 true) <| .take (.o 94 .pick [.t 83,.t 93,.kb false]) <| .done
def BW:ACode:= .seq (.seq (.reg [.m 65 7,.m 66 4,.n 67 66,.o 68 (.bin .lss 0) [.t 65,.t 67]]) <| .cond (.t 68) ( .skip) ( .exit 2)) <| .seq (.block 3 ( .seq (.draw ( .take (.m 71 4) <| .take (.m 72 7) <| .take (.o 73 (.iadr 1) [.t 71,.t 72]) <| .al (.l 74 73) ( .take (.o 75 (.bin .eql 0) [.t 74,.k 1]) <| .take (.m 76 75) <| .take (.mg 77 4 76 false) <| .take (.mg 78 7 76 false) <| .take (.g 79 (.iadr 1) [.t 77,.t 78] 76 false) <| .al (.lg 80 79 76 false) ( .take (.g 81 (.bin .eql 0) [.t 80,.k 2] 76 false) <| .take (.o 82 .pick [.t 76,.kb true,.t 81]) <| .take (.m 83 82) <| .take (.mg 84 4 83 true) <| .take (.mg 85 7 83 true) <| .take (.g 86 (.iadr 1) [.t 84,.t 85] 83 true) <| .take (.fg 88 4 1 83 true) <| .take (.mg 90 7 83 true) <| .alt (.lg 87 86 83 true) ( .al (.lg 89 88 83 true) ( .take (.g 91 (.iadr 1) [.t 89,.t 90] 83 true) <| .al (.lg 92 91 83 true) Ei)) <| .al (.lg 89 88 83 true) ( .take (.g 91 (.iadr 1) [.t 89,.t 90] 83 true) <| .alt (.lg 87 86 83 true) ( .al (.lg 92 91 83 true) Ei) <| .al (.lg 92 91 83 true) ( .al (.lg 87 86 83 true) Ei)))))) <| .cond (.t 94) ( .reg [.m 95 3,.m 96 7,.m 97 4,.m 98 7,.o 99 (.iadr 1) [.t 97,.t 98],.l 100 99,.o 101 (.build dz [(0,1),(1,1),(2,1)]) [.k 0,.t 96,.t 100],.o 102 (.bsl 3) [.t 101],.o 103 (.app 3 24 true) [.t 95,.t 102],.m 3 103]) ( .skip))) <| .reg [.m 69 7,.o 70 (.bin .add 0) [.t 69,.k 1],.m 7 70]
def EH:ACode:= .seq (.seq (.reg [.m 20 5,.o 21 (.un .not) [.t 20],.m 22 21,.g 23 (.load true 6) [.t 1] 22 false,.g 24 (.call 18 []) [.t 23] 22 false,.g 25 (.un .not) [.t 24] 22 false,.o 26 .pick [.t 22,.kb true,.t 25]]) <| .cond (.t 26) ( .seq (.reg [.m 27 3,.m 2 27]) <| .ret) ( .skip)) <| .seq (.seq (.reg [.o 6 .mv [.k 0]]) <| .block 0 ( .loop [(3,3),(4,1)] [1,3,4,6] BV)) <| .seq (.seq (.reg [.o 7 .mv [.k 0]]) <| .block 2 ( .loop [(3,3),(4,1)] [1,3,4,7] BW)) <| .seq (.reg [.m 104 3,.m 2 104]) <| .ret
abbrev C4:Plan:= .al (.o 17 (.call 145 []) [.t 11,.t 13,.t 16]) ( .take (.m 9 17) <| .take (.e 18 0 9) <| .take (.e 19 1 9) <| .take (.m 4 18) <| .take (.m 5 19) <| .done)
abbrev EI:Plan:= .al (.o 16 (.call 146 []) [.t 15]) C4
abbrev K5:Plan:= .alt (.la 11 3 10) EI <| .al (.o 16 (.call 146 []) [.t 15]) ( .al (.la 11 3 10) C4)
abbrev K6:Plan:= .alt (.l 13 12) EI <| .al (.o 16 (.call 146 []) [.t 15]) ( .al (.l 13 12) C4)
def OZ:ACode:= .seq (.reg [.o 1 .box [.t 0],.o 2 .mv [.c (.os 3 [])]]) <| .seq (.reg [.o 8 (.bsl 3) [],.m 3 8]) <| .seq (.draw ( .take (.f 10 0 1) <| .take (.f 12 3 1) <| .take (.f 14 0 1) <| .alt (.la 11 3 10) ( .alt (.l 13 12) ( .al (.la 15 3 14) EI) <| .al (.la 15 3 14) K6) <| .alt (.l 13 12) ( .alt (.la 11 3 10) ( .al (.la 15 3 14) EI) <| .al (.la 15 3 14) K5) <| .al (.la 15 3 14) ( .alt (.la 11 3 10) K6 <| .alt (.l 13 12) K5 <| .al (.o 16 (.call 146 []) [.t 15]) ( .alt (.la 11 3 10) ( .al (.l 13 12) C4) <| .al (.l 13 12) ( .al (.la 11 3 10) C4))))) <| .gc [] [1,3,4,5] EH
theorem WB:cFn Tryz.prog OY 105 [.t 2] OZ:= ⟨Tryz.f75,_,Tryz.func75,rfl,by kernel_rfl,by kernel_rfl,by kernel_rfl,by kernel_rfl⟩
end Go.Proofs.Dev
