/- Contracts of the functions of the program over slots and rows, each proved against the program itself; no condition beyond those that each theorem names. -/
import Derived.Test.YtfkmfobbgoflgaaGreatDoorAT
import Derived.Test.YtfkmfobbgoflgaaGreatDoorProg
import Derived.Test.YtfkmfobbgoflgaaGreatDoorAU
import Derived.Test.YtfkmfobbgoflgaaGreatDoorAR
import Derived.Test.YtfkmfobbgoflgaaGreatDoorAN
import Derived.Test.YtfkmfobbgoflgaaGreatDoorAI
import Derived.Test.YtfkmfobbgoflgaaGreatDoorAO
set_option linter.unusedSimpArgs false
set_option linter.unusedVariables false
set_option maxRecDepth 100000
namespace Go.Proofs.Dev
@[simp] abbrev Il:Nat:= 167
def Ni:ACode:= .seq (.reg [.o 4 .box [.t 1],.o 6 .mv [.k 0]]) <| .seq (.reg [.la 8 3 4,.m 9 2,.o 10 (.call 224 []) [.t 8,.t 9],.m 7 10]) <| .seq (.seq (.reg [.m 11 7,.n 12 11,.o 13 (.bin .gtr 0) [.t 12,.k 0],.m 14 13,.mg 15 0 14 true,.g 16 (.call 54 []) [.t 15,.k 3] 14 true,.g 17 (.bin .gtr 0) [.t 16,.k 0] 14 true,.o 18 .pick [.t 14,.t 17,.kb false]]) <| .cond (.t 18) ( .seq (.reg [.m 19 7,.m 20 0,.m 21 7,.n 22 21,.o 23 (.call 54 []) [.t 20,.t 22],.o 24 (.iadr 1) [.t 19,.t 23],.l 25 24,.m 6 25]) <| .ret) ( .skip)) <| .seq (.reg [.m 26 0,.la 27 3 4,.o 28 (.call 225 []) [.t 27],.o 29 (.mnx false) [.t 28,.k 0],.o 30 (.bin .add 0) [.t 29,.k 1],.o 31 (.call 54 []) [.t 26,.t 30],.m 32 0,.o 33 (.call 54 []) [.t 32,.k 20],.o 34 (.bin .quo 0) [.t 33,.k 19],.o 35 (.bin .sub 0) [.t 31,.t 34],.m 6 35]) <| .ret
theorem Uz:cFn Tryz.prog Il 36 [.t 6] Ni:= ⟨Tryz.f167,_,Tryz.func167,rfl,by kernel_rfl,by kernel_rfl,by kernel_rfl,by kernel_rfl⟩
@[simp] abbrev Lh:Nat:= 120
def Bh:ACode:= .seq (.seq (.reg [.m 35 7,.o 36 (.bin .lss 0) [.t 35,.k 4],.m 37 36,.fg 38 1 5 37 true,.lg 39 38 37 true,.fg 40 4 3 37 true,.lg 41 40 37 true,.g 42 (.len false) [.t 41] 37 true,.g 43 (.bin .lss 0) [.t 39,.t 42] 37 true,.o 44 .pick [.t 37,.t 43,.kb false],.m 45 44,.fg 46 4 3 45 true,.lg 47 46 45 true,.fg 48 1 5 45 true,.lg 49 48 45 true,.g 50 (.iadr 1) [.t 47,.t 49] 45 true,.lg 51 50 45 true,.g 52 (.bin .neq 0) [.t 51,.k 0] 45 true,.o 53 .pick [.t 45,.t 52,.kb false]]) <| .cond (.t 53) ( .skip) ( .exit 1)) <| .seq (.block 2 ( .reg [.f 56 1 5,.l 57 56,.o 58 (.bin .add 0) [.t 57,.k 1],.m 59 6,.o 60 (.bin .rem 0) [.t 58,.t 59],.f 61 1 5,.s (.store 1) [.t 61,.t 60]])) <| .reg [.m 54 7,.o 55 (.bin .add 0) [.t 54,.k 1],.m 7 55]
def E4:ACode:= .seq (.reg [.la 86 3 5,.s (.store 3) [.t 4,.t 86]]) <| .ret
abbrev I3:Plan:= .take (.o 83 (.bin .add 0) [.t 80,.t 82]) <| .take (.o 84 (.bin .sub 0) [.t 83,.k 5]) <| .take (.f 85 1 5) <| .al (.s (.store 1) [.t 85,.t 84]) ( .done)
def E5:ACode:= .seq (.reg [.f 19 4 3,.l 20 19,.n 21 20,.o 22 (.mnx false) [.t 21,.k 1],.m 6 22]) <| .seq (.seq (.reg [.f 23 0 5,.l 24 23]) <| .block 0 ( .seq (.reg [.o 26 (.bin .eql 0) [.t 24,.k 0],.m 25 26]) <| .cond (.t 25) ( .seq (.reg [.m 27 0,.m 28 6,.o 29 (.call 54 []) [.t 27,.t 28],.f 30 1 5,.s (.store 1) [.t 30,.t 29]]) <| .seq (.reg [.m 31 0,.o 32 (.call 54 []) [.t 31,.k 4],.o 33 (.bin .add 0) [.k 1,.t 32],.f 34 2 5,.s (.store 1) [.t 34,.t 33]]) <| .seq (.reg [.o 7 .mv [.k 0]]) <| .block 1 ( .loop [] [0,3,4,5,6,7,87] Bh)) ( .seq (.reg [.o 63 (.bin .eql 0) [.t 24,.k 1],.m 62 63]) <| .cond (.t 62) ( .reg [.m 64 0,.m 65 6,.o 66 (.call 54 []) [.t 64,.t 65],.f 67 1 5,.s (.store 1) [.t 67,.t 66]]) ( .seq (.reg [.o 69 (.bin .eql 0) [.t 24,.k 2],.m 68 69]) <| .cond (.t 68) ( .reg [.m 70 0,.f 71 0 3,.la 72 3 71,.f 73 4 3,.l 74 73,.o 75 (.call 167 []) [.t 70,.t 72,.t 74],.f 76 1 5,.s (.store 1) [.t 76,.t 75]]) ( .skip))))) <| .seq (.seq (.reg [.m 77 0,.o 78 (.call 45 []) [.t 77,.k 30]]) <| .cond (.t 78) ( .draw ( .take (.f 79 1 5) <| .take (.m 81 0) <| .alt (.l 80 79) ( .al (.o 82 (.call 54 []) [.t 81,.k 60]) I3) <| .al (.o 82 (.call 54 []) [.t 81,.k 60]) ( .al (.l 80 79) I3))) ( .skip)) <| .gc [] [4,5,87] E4
abbrev Hj:Plan:= .al (.o 14 (.call 54 []) [.t 13,.k 60]) ( .take (.o 15 (.bin .quo 0) [.t 14,.k 59]) <| .take (.o 16 (.bin .mul 0) [.t 15,.k 5]) <| .take (.o 17 (.bin .add 0) [.t 12,.t 16]) <| .take (.o 18 (.build dz [(0,1)]) [.t 17]) <| .al (.s (.store 3) [.t 5,.t 18]) ( .done))
abbrev Cb:Plan:= .take (.o 17 (.bin .add 0) [.t 12,.t 16]) <| .take (.o 18 (.build dz [(0,1)]) [.t 17]) <| .al (.s (.store 3) [.t 5,.t 18]) ( .done)
abbrev MW:Plan:= .take (.o 11 (.iadr 1) [.t 8,.t 10]) <| .alt (.l 12 11) ( .alt (.o 14 (.call 54 []) [.t 13,.k 60]) ( .take (.o 15 (.bin .quo 0) [.t 14,.k 59]) <| .take (.o 16 (.bin .mul 0) [.t 15,.k 5]) <| .take (.o 17 (.bin .add 0) [.t 12,.t 16]) <| .take (.o 18 (.build dz [(0,1)]) [.t 17]) <| .al (.o 5 (.alloc dz) []) ( .al (.s (.store 3) [.t 5,.t 18]) ( .done))) <| .al (.o 5 (.alloc dz) []) Hj) <| .alt (.o 14 (.call 54 []) [.t 13,.k 60]) ( .take (.o 15 (.bin .quo 0) [.t 14,.k 59]) <| .take (.o 16 (.bin .mul 0) [.t 15,.k 5]) <| .alt (.l 12 11) ( .take (.o 17 (.bin .add 0) [.t 12,.t 16]) <| .take (.o 18 (.build dz [(0,1)]) [.t 17]) <| .al (.o 5 (.alloc dz) []) ( .al (.s (.store 3) [.t 5,.t 18]) ( .done))) <| .al (.o 5 (.alloc dz) []) ( .al (.l 12 11) Cb)) <| .al (.o 5 (.alloc dz) []) ( .alt (.l 12 11) Hj <| .al (.o 14 (.call 54 []) [.t 13,.k 60]) ( .take (.o 15 (.bin .quo 0) [.t 14,.k 59]) <| .take (.o 16 (.bin .mul 0) [.t 15,.k 5]) <| .al (.l 12 11) Cb))
abbrev Hl:Plan:= .take (.o 11 (.iadr 1) [.t 8,.t 10]) <| .alt (.l 12 11) Hj <| .al (.o 14 (.call 54 []) [.t 13,.k 60]) ( .take (.o 15 (.bin .quo 0) [.t 14,.k 59]) <| .take (.o 16 (.bin .mul 0) [.t 15,.k 5]) <| .al (.l 12 11) Cb)
abbrev MX:Plan:= .alt (.o 8 (.bsl 1) [.k 0,.k 0,.k 0,.k 0,.k 1,.k 2,.k 2,.k 3,.k 4]) Hl <| .al (.o 14 (.call 54 []) [.t 13,.k 60]) ( .take (.o 15 (.bin .quo 0) [.t 14,.k 59]) <| .take (.o 16 (.bin .mul 0) [.t 15,.k 5]) <| .al (.o 8 (.bsl 1) [.k 0,.k 0,.k 0,.k 0,.k 1,.k 2,.k 2,.k 3,.k 4]) ( .take (.o 11 (.iadr 1) [.t 8,.t 10]) <| .al (.l 12 11) Cb))
def QK:ACode:= .seq (.reg [.o 3 .box [.t 1],.o 4 (.alloc dz) []]) <| .seq (.draw ( .take (.m 9 0) <| .take (.m 13 0) <| .alt (.o 8 (.bsl 1) [.k 0,.k 0,.k 0,.k 0,.k 1,.k 2,.k 2,.k 3,.k 4]) ( .alt (.o 10 (.call 54 []) [.t 9,.k 9]) MW <| .al (.o 5 (.alloc dz) []) ( .al (.o 10 (.call 54 []) [.t 9,.k 9]) Hl)) <| .alt (.o 10 (.call 54 []) [.t 9,.k 9]) ( .alt (.o 8 (.bsl 1) [.k 0,.k 0,.k 0,.k 0,.k 1,.k 2,.k 2,.k 3,.k 4]) MW <| .alt (.o 14 (.call 54 []) [.t 13,.k 60]) ( .take (.o 15 (.bin .quo 0) [.t 14,.k 59]) <| .take (.o 16 (.bin .mul 0) [.t 15,.k 5]) <| .alt (.o 8 (.bsl 1) [.k 0,.k 0,.k 0,.k 0,.k 1,.k 2,.k 2,.k 3,.k 4]) ( .take (.o 11 (.iadr 1) [.t 8,.t 10]) <| .alt (.l 12 11) ( .take (.o 17 (.bin .add 0) [.t 12,.t 16]) <| .take (.o 18 (.build dz [(0,1)]) [.t 17]) <| .al (.o 5 (.alloc dz) []) ( .al (.s (.store 3) [.t 5,.t 18]) ( .done))) <| .al (.o 5 (.alloc dz) []) ( .al (.l 12 11) Cb)) <| .al (.o 5 (.alloc dz) []) ( .al (.o 8 (.bsl 1) [.k 0,.k 0,.k 0,.k 0,.k 1,.k 2,.k 2,.k 3,.k 4]) ( .take (.o 11 (.iadr 1) [.t 8,.t 10]) <| .al (.l 12 11) Cb))) <| .al (.o 5 (.alloc dz) []) MX) <| .al (.o 5 (.alloc dz) []) ( .alt (.o 8 (.bsl 1) [.k 0,.k 0,.k 0,.k 0,.k 1,.k 2,.k 2,.k 3,.k 4]) ( .al (.o 10 (.call 54 []) [.t 9,.k 9]) Hl) <| .al (.o 10 (.call 54 []) [.t 9,.k 9]) MX))) <| .gc [] [0,3,4,5,87] E5
theorem Xd:cFn Tryz.prog Lh 87 [.c 4 true 3] QK:= ⟨Tryz.f120,_,Tryz.func120,rfl,by kernel_rfl,by kernel_rfl,by kernel_rfl,by kernel_rfl⟩
@[simp] abbrev Li:Nat:= 57
abbrev DJ:Plan:= .al (.o 30 (.call 73 []) [.t 26,.t 29]) ( .take (.m 25 30) <| .take (.e 31 0 25) <| .take (.e 32 1 25) <| .al (.s (.store 6) [.t 9,.t 31]) ( .take (.m 10 32) <| .done))
abbrev I4:Plan:= .alt (.o 30 (.call 73 []) [.t 26,.t 29]) ( .take (.m 25 30) <| .take (.e 31 0 25) <| .take (.e 32 1 25) <| .al (.o 9 (.alloc bz) []) ( .al (.s (.store 6) [.t 9,.t 31]) ( .take (.m 10 32) <| .done))) <| .al (.o 9 (.alloc bz) []) DJ
abbrev DK:Plan:= .al (.o 29 (.call 120 []) [.t 27,.t 28]) DJ
abbrev I5:Plan:= .alt (.la 26 6 7) DK <| .al (.o 29 (.call 120 []) [.t 27,.t 28]) ( .al (.la 26 6 7) DJ)
abbrev I6:Plan:= .alt (.o 29 (.call 120 []) [.t 27,.t 28]) I4 <| .al (.o 9 (.alloc bz) []) DK
def E6:ACode:= .seq (.seq (.reg [.m 21 8,.o 22 (.bin .gtr 0) [.t 21,.k 0]]) <| .cond (.t 22) ( .skip) ( .exit 0)) <| .seq (.block 1 ( .seq (.draw ( .take (.m 27 0) <| .alt (.la 26 6 7) ( .alt (.la 28 6 7) I6 <| .al (.o 9 (.alloc bz) []) ( .al (.la 28 6 7) DK)) <| .alt (.la 28 6 7) ( .alt (.la 26 6 7) I6 <| .alt (.o 29 (.call 120 []) [.t 27,.t 28]) ( .alt (.la 26 6 7) I4 <| .al (.o 9 (.alloc bz) []) ( .al (.la 26 6 7) DJ)) <| .al (.o 9 (.alloc bz) []) I5) <| .al (.o 9 (.alloc bz) []) ( .alt (.la 26 6 7) ( .al (.la 28 6 7) DK) <| .al (.la 28 6 7) I5))) <| .seq (.reg [.m 33 10]) <| .cond (.t 33) ( .reg [.la 34 6 9,.s (.store 6) [.t 7,.t 34]]) ( .skip))) <| .reg [.m 23 8,.o 24 (.bin .sub 0) [.t 23,.k 1],.m 8 24]
def QL:ACode:= .seq (.reg [.o 4 (.alloc bz) []]) <| .seq (.reg [.m 12 0,.o 13 (.call 118 []) [.t 12,.k 0],.m 11 13,.e 14 0 11,.e 15 1 11,.o 5 (.alloc rz) [],.s (.store 3) [.t 5,.t 14],.m 6 15]) <| .seq (.reg [.la 16 3 5,.m 17 6,.o 18 (.call 119 []) [.t 16,.t 17],.o 7 (.alloc bz) [],.s (.store 6) [.t 7,.t 18]]) <| .seq (.seq (.reg [.m 19 0,.o 20 (.call 54 []) [.t 19,.k 14],.m 8 20]) <| .block 0 ( .loop [] [0,1,4,7,8,64] E6)) <| .seq (.seq (.reg [.m 35 0,.m 36 1,.o 37 (.call 45 []) [.t 35,.t 36]]) <| .cond (.t 37) ( .seq (.reg [.m 38 0,.o 39 (.call 54 []) [.t 38,.k 4]]) <| .block 2 ( .seq (.reg [.o 46 (.bin .eql 0) [.t 39,.k 0],.m 45 46]) <| .cond (.t 45) ( .reg [.f 47 4 7,.l 48 47,.o 49 (.bsl 1) [.k 0],.o 50 (.app 1 8 true) [.t 48,.t 49],.f 51 4 7,.s (.store 1) [.t 51,.t 50]]) ( .seq (.reg [.o 53 (.bin .eql 0) [.t 39,.k 1],.m 52 53]) <| .cond (.t 52) ( .reg [.f 54 5 7,.l 55 54,.o 56 (.bsl 1) [.k 9],.o 57 (.bsl 1) [.t 56],.o 58 (.app 1 24 false) [.t 55,.t 57],.f 59 5 7,.s (.store 1) [.t 59,.t 58]]) ( .seq (.reg [.o 61 (.bin .eql 0) [.t 39,.k 2],.m 60 61]) <| .cond (.t 60) ( .seq (.reg [.o 62 (.build bz []) [],.s (.store 6) [.t 4,.t 62]]) <| .ret) ( .reg [.f 40 3 7,.l 41 40,.o 42 (.bsl 1) [.k 0],.o 43 (.app 1 8 true) [.t 41,.t 42],.f 44 3 7,.s (.store 1) [.t 44,.t 43]]))))) ( .skip)) <| .seq (.reg [.la 63 6 7,.s (.store 6) [.t 4,.t 63]]) <| .ret
theorem Xe:cFn Tryz.prog Li 64 [.c 4 true 6] QL:= ⟨Tryz.f57,_,Tryz.func57,rfl,by kernel_rfl,by kernel_rfl,by kernel_rfl,by kernel_rfl⟩
@[simp] abbrev Si:Nat:= 17
@[simp] abbrev Wb:Nat:= 58
@[simp] def md8 (f:Nat):List Bool:= if f = Il then [true,false,false] else if f = Lh ∨ f = Li ∨ f = Wb then [true,false] else if f = 999999 ∨ f = 999999 ∨ f = 999999 ∨ f = 999999 ∨ f = Si ∨ f = 999999 then [true] else md5 f
def nl (bs:List Int) (p:Nat) (r:AV) (ups:List AV):Prop:= ∃ (x:Int) (q:Nat),-1 ≤ x ∧ x ≤ 49 ∧ q ≤ p + 3 ∧ r = .v (.int .i64 x) ∧ ups = [rdA bs q,.bot,.bot]
theorem U0 (bs:List Int) (p:Nat) (W T:Int) (cs:List Bool) (ls:List Int) (hb:bs.length ≤ 2000) (hB:Byt bs) (hp:p < 2 ^ 39) (hc:cs.length < 2 ^ 40) (hl:ls.length < 2 ^ 40):
  SoundSet Tryz.prog Il [rdA bs p,.agg [.v (.int .i64 W),.v (.int .i64 T),.sl 1 1 (AC cs)],.sl 1 1 (AB ls)] (nl bs p):= by
 refine KW (md:= md8) (ms:= [true,false,false]) Uz (by simp) ?_
 have fl:= Xa W T cs ls hc hl
 have h49:= Le W T cs ls (cW W T cs)
 have hn49:= ia W T cs
 have hmem:= @cV W T cs ls (cW W T cs)
 change (aw W T cs ls).length ≤ _ at h49
 change ∀ {x:Int},x ∈ aw W T cs ls → _ at hmem
 have cm:= Hh W T cs hc
 obtain ⟨M,hM,m1,m2⟩:∃ M:Int,(if Am W T cs = true then dy W T else -1) = M ∧ -1 ≤ M ∧ M ≤ 49:= by
  refine ⟨_,rfl,?_⟩
  split
  ·rename_i hr
   obtain ⟨w1,w2,t1,t2,_⟩:= BT hr
   have:= YH w1 w2 t1 t2
   omega
  ·omega
 rw [hM] at cm
 generalize aw W T cs ls = fs at *
 simp [Ni]
 refine AA fl ?_
 by_cases hz:fs = []
 ·subst hz
  simp
  refine AA cm ?_
  simp
  refine ⟨by split <;> omega,?_⟩
  refine AJ (AD bs p ((if M < 0 then 0 else M) + 1) hb hB (by omega)) [0] (by simp) (by simp) (by simp) ?_
  rintro _ _ ⟨x,x0,x1,rfl,rfl⟩
  simp
  refine AJ (AD bs (p + 1) 20 hb hB (by omega)) [0] (by simp) (by simp) (by simp) ?_
  rintro _ _ ⟨y,y0,y1,rfl,rfl⟩
  simp
  have hx:x ≤ 49:= by split at x1 <;> omega
  refine ⟨by omega,by omega,_,_,⟨x - y / 19,p + 1 + 1,by omega,by omega,by omega,rfl,rfl⟩,?_⟩
  simp
 ·have hz0:0 < fs.length:= by
   cases fs with
   | nil => exact absurd rfl hz
   | cons a l => simp
  have hz1:(0:Int) < fs.length:= by omega
  simp [hz,hz0,hz1]
  refine AJ (AD bs p 3 hb hB (by omega)) [0] (by simp) (by simp) (by simp) ?_
  rintro _ _ ⟨x,x0,x1,rfl,rfl⟩
  by_cases hx:0 < x
  ·simp [hx]
   refine AJ (AD bs (p + 1) fs.length hb hB (by omega)) [0] (by simp) (by simp) (by simp) ?_
   rintro _ _ ⟨y,y0,y1,rfl,rfl⟩
   have y2:y < fs.length:= by omega
   have hy:ati fs y ∈ fs:= by
    have:y.toNat < fs.length:= by omega
    simp [ati,this]
   have:= hmem hy
   have hg:(AB fs)[y.toNat]? = some (.v (.int .i64 (ati fs y))):= dK (by omega)
   have hmx:max y 0 = y:= by omega
   simp [y0,y2,hg,hmx]
   refine ⟨_,_,⟨ati fs y,p + 1 + 1,by omega,by omega,by omega,rfl,rfl⟩,?_⟩
   simp
  ·simp [hx]
   refine AA cm ?_
   simp
   refine ⟨by split <;> omega,?_⟩
   refine AJ (AD bs (p + 1) ((if M < 0 then 0 else M) + 1) hb hB (by omega)) [0] (by simp) (by simp) (by simp) ?_
   rintro _ _ ⟨z,z0,z1,rfl,rfl⟩
   simp
   refine AJ (AD bs (p + 1 + 1) 20 hb hB (by omega)) [0] (by simp) (by simp) (by simp) ?_
   rintro _ _ ⟨y,y0,y1,rfl,rfl⟩
   simp
   have hx:z ≤ 49:= by split at z1 <;> omega
   refine ⟨by omega,by omega,_,_,⟨z - y / 19,p + 1 + 1 + 1,by omega,by omega,by omega,rfl,rfl⟩,?_⟩
   simp
def ib (bs:List Int) (p:Nat) (r:AV) (ups:List AV):Prop:= ∃ (k s w:Int) (q:Nat),0 ≤ k ∧ k ≤ 20 ∧ -100 ≤ s ∧ s ≤ 200 ∧ 0 ≤ w ∧ w ≤ 4 ∧ q ≤ p + 10 ∧ r = Nx k s w ∧ ups = [rdA bs q,.bot]
abbrev nd9:List AV:= [AV.v (.int .i64 0),AV.v (.int .i64 0),AV.v (.int .i64 0),AV.v (.int .i64 0),AV.v (.int .i64 1),AV.v (.int .i64 2),AV.v (.int .i64 2),AV.v (.int .i64 3),AV.v (.int .i64 4)]
theorem ly {x:Int} (h0:0 ≤ x) (h1:x < 9):∃ v:Int,0 ≤ v ∧ v ≤ 4 ∧ ∀ h:x.toNat < nd9.length,nd9[x.toNat]'h = .v (.int .i64 v):= by
 obtain rfl | rfl | rfl | rfl | rfl | rfl | rfl | rfl | rfl:x = 0 ∨ x = 1 ∨ x = 2 ∨ x = 3 ∨ x = 4 ∨ x = 5 ∨ x = 6 ∨ x = 7 ∨ x = 8:= by omega
 ·exact ⟨0,by decide,by decide,fun _ => rfl⟩
 ·exact ⟨0,by decide,by decide,fun _ => rfl⟩
 ·exact ⟨0,by decide,by decide,fun _ => rfl⟩
 ·exact ⟨0,by decide,by decide,fun _ => rfl⟩
 ·exact ⟨1,by decide,by decide,fun _ => rfl⟩
 ·exact ⟨2,by decide,by decide,fun _ => rfl⟩
 ·exact ⟨2,by decide,by decide,fun _ => rfl⟩
 ·exact ⟨3,by decide,by decide,fun _ => rfl⟩
 ·exact ⟨4,by decide,by decide,fun _ => rfl⟩
abbrev ra (bs:List Int) (p:Nat):= bZ [RV.c 4 true 3] 87 2 [true,false] (ib bs p)
abbrev o0 (bs:List Int) (q:Nat) (W T:Int) (cs:List Bool) (ds ls:List Int) (ps:List (List Int)) (k s w:Int):AN:=
 [some (.box [.sl 0 1 (u8s bs),.v (.int .i64 q)]),some (.box [.v (.int .i64 W),.v (.int .i64 T),.sl 1 1 (AC cs),.sl 1 1 (AB ds),.sl 1 1 (AB ls),.sl 1 1 (sls 1 ps)]),some (.box [.v (.int .i64 0),.v (.int .i64 0),.v (.int .i64 0)]),
  some (.box [.v (.int .i64 k),.v (.int .i64 s),.v (.int .i64 w)])]
abbrev US:Plan:= .take (.o 83 (.bin .add 0) [.t 80,.t 82]) <| .take (.o 84 (.bin .sub 0) [.t 83,.k 5]) <| .take (.f 85 1 5) <| .al (.s (.store 1) [.t 85,.t 84]) ( .done)
def Wc:ACode:= .seq (.seq (.reg [.m 77 0,.o 78 (.call 45 []) [.t 77,.k 30]]) <| .cond (.t 78) ( .draw ( .take (.f 79 1 5) <| .take (.m 81 0) <| .alt (.l 80 79) ( .al (.o 82 (.call 54 []) [.t 81,.k 60]) US) <| .al (.o 82 (.call 54 []) [.t 81,.k 60]) ( .al (.l 80 79) US))) ( .skip)) <| .gc [] [4,5,87] E4
def Wd:ACode:= .block 0 ( .seq (.reg [.o 26 (.bin .eql 0) [.t 24,.k 0],.m 25 26]) <| .cond (.t 25) ( .seq (.reg [.m 27 0,.m 28 6,.o 29 (.call 54 []) [.t 27,.t 28],.f 30 1 5,.s (.store 1) [.t 30,.t 29]]) <| .seq (.reg [.m 31 0,.o 32 (.call 54 []) [.t 31,.k 4],.o 33 (.bin .add 0) [.k 1,.t 32],.f 34 2 5,.s (.store 1) [.t 34,.t 33]]) <| .seq (.reg [.o 7 .mv [.k 0]]) <| .block 1 ( .loop [] [0,3,4,5,6,7,87] Bh)) ( .seq (.reg [.o 63 (.bin .eql 0) [.t 24,.k 1],.m 62 63]) <| .cond (.t 62) ( .reg [.m 64 0,.m 65 6,.o 66 (.call 54 []) [.t 64,.t 65],.f 67 1 5,.s (.store 1) [.t 67,.t 66]]) ( .seq (.reg [.o 69 (.bin .eql 0) [.t 24,.k 2],.m 68 69]) <| .cond (.t 68) ( .reg [.m 70 0,.f 71 0 3,.la 72 3 71,.f 73 4 3,.l 74 73,.o 75 (.call 167 []) [.t 70,.t 72,.t 74],.f 76 1 5,.s (.store 1) [.t 76,.t 75]]) ( .skip))))
theorem ic:E5 = .seq (.reg [.f 19 4 3,
  .l 20 19,
  .n 21 20,
  .o 22 (.mnx false) [.t 21,.k 1],
  .m 6 22]) (.seq (.seq (.reg [.f 23 0 5,
  .l 24 23]) Wd) Wc):= rfl
theorem ig (bs:List Int) (p q:Nat) (k s w:Int) (hq:q ≤ p + 10) (hk:0 ≤ k ∧ k ≤ 20) (hs:-100 ≤ s ∧ s ≤ 200) (hw:0 ≤ w ∧ w ≤ 4):
  awp Tryz.prog md8 E4 (ra bs p) [(4,.lp 0 0 0 0),(5,.lp 0 1 0 0),(87,.lp 0 2 0 0)]
   [some (.box [.v (.int .i64 0),.v (.int .i64 0),.v (.int .i64 0)]),some (.box [.v (.int .i64 k),.v (.int .i64 s),.v (.int .i64 w)]),some (.box [.sl 0 1 (u8s bs),.v (.int .i64 q)])]:= by
 simp [E4]
 refine ⟨_,_,⟨k,s,w,q,hk.1,hk.2,hs.1,hs.2,hw.1,hw.2,hq,rfl,rfl⟩,?_⟩
 simp
theorem VI (bs:List Int) (p q:Nat) (W T:Int) (cs:List Bool) (ds ls:List Int) (ps:List (List Int)) (k s w:Int) (hb:bs.length ≤ 2000) (hB:Byt bs) (hp:p < 2 ^ 38) (hq:q ≤ p + 8) (hk:0 ≤ k ∧ k ≤ 20) (hs:-90 ≤ s ∧ s ≤ 140) (hw:0 ≤ w ∧ w ≤ 4) (E:ES)
  (e0:get E 0 = .lp 0 0 0 0) (e4:get E 4 = .lp 0 2 0 0) (e5:get E 5 = .lp 0 3 0 0) (e87:get E 87 = .lp 0 0 0 0):
  awp Tryz.prog md8 Wc (ra bs p) E (o0 bs q W T cs ds ls ps k s w):= by
 simp [Wc,e0,e4,e5,e87]
 refine AJ (Cl bs q 30 hb hB (by omega) (by omega)) [0] (by simp) (by simp) (by simp) ?_
 rintro _ _ ⟨b,q2,rfl,hq2,rfl⟩
 cases b with
 | false =>
   simp [AP,e0,e4,e5,e87]
   exact ig bs p q2 k s w (by omega) hk (by omega) hw
 | true =>
   simp [AP,e0,e4,e5,e87]
   (repeat' first | omega | apply And.intro) <;>
   ·refine AJ (AD bs q2 60 hb hB (by omega)) [0] (by simp) (by simp) (by simp) ?_
    rintro _ _ ⟨x,x0,x1,rfl,rfl⟩
    simp [AP,e0,e4,e5,e87]
    exact ⟨by omega,by omega,ig bs p (q2 + 1) k (s + x - 5) w (by omega) hk (by omega) hw⟩
theorem kX (bs:List Int) (q:Nat) (W T:Int) (cs:List Bool) (ds ls:List Int) (ps:List (List Int)) (k s w:Int) (hl:ls.length ≤ 40) (n:Int) (hn:n = if (ls.length:Int) < 1 then 1 else (ls.length:Int)) (hs:0 ≤ s ∧ s < n) (Qc:AExit → ES → AN → Prop)
  (hend:∀ (s:Int) (E:ES),0 ≤ s → s ≤ 40 → get E 0 = .lp 0 0 0 0 → get E 4 = .lp 0 2 0 0 → get E 5 = .lp 0 3 0 0 → get E 87 = .lp 0 0 0 0 → Qc (.exit 1) E (o0 bs q W T cs ds ls ps k s w)):
  CM [] [0,3,4,5,6,7,87] (awp Tryz.prog md8 Bh) Qc
   [(0,.lp 0 0 0 0),(3,.lp 0 1 0 0),(4,.lp 0 2 0 0),(5,.lp 0 3 0 0),(6,.v (.int .i64 n)),(7,.v (.int .i64 0)),(87,.lp 0 0 0 0)] (o0 bs q W T cs ds ls ps k s w):= by
 have n40:1 ≤ n ∧ n ≤ 40:= by rw [hn]; split <;> omega
 refine AF (fun m E H => ∃ (i:Nat) (s:Int),m = 4 - i ∧ i ≤ 4 ∧ 0 ≤ s ∧ s < n ∧ E = [(0,.lp 0 0 0 0),(3,.lp 0 1 0 0),(4,.lp 0 2 0 0),(5,.lp 0 3 0 0),(6,.v (.int .i64 n)),(7,.v (.int .i64 i)),(87,.lp 0 0 0 0)] ∧
  H = o0 bs q W T cs ds ls ps k s w) 4 ⟨0,s,rfl,by omega,hs.1,hs.2,rfl,rfl⟩ ?_
 rintro J hJ m E H ⟨i,s,rfl,hi,s0,s1,rfl,rfl⟩
 by_cases h4:i < 4
 case neg =>
  have:i = 4:= by omega
  subst this
  simp [Bh]
  exact hend s _ s0 (by omega) rfl rfl rfl rfl
 have h4':(i:Int) < 4:= by omega
 by_cases hsl:s < ls.length
 case neg =>
  simp [Bh,h4',hsl]
  exact hend s _ s0 (by omega) rfl rfl rfl rfl
 by_cases hz:ati ls s = 0
 ·simp [Bh,h4',hsl,s0,hz]
  exact hend s _ s0 (by omega) rfl rfl rfl rfl
 ·have r0:= Int.emod_nonneg (s + 1) (show n ≠ 0 by omega)
  have r1:= Int.emod_lt_of_pos (s + 1) (show 0 < n by omega)
  simp [Bh,h4',hsl,s0,hz]
  exact ⟨by omega,by omega,by omega,_,by omega,hJ _ _ _ ⟨i + 1,(s + 1) % n,rfl,by omega,r0,r1,by simp,rfl⟩⟩
set_option maxHeartbeats 2000000 in
theorem qU (bs:List Int) (p q:Nat) (W T:Int) (cs:List Bool) (ds ls:List Int) (ps:List (List Int)) (k:Int) (hb:bs.length ≤ 2000) (hB:Byt bs) (hp:p < 2 ^ 38) (hc:cs.length ≤ 40) (hd:ds.length ≤ 40) (hl:ls.length ≤ 40)
  (hq:q ≤ p + 2) (hk:0 ≤ k ∧ k ≤ 20):
  awp Tryz.prog md8 E5 (ra bs p) [(0,.lp 0 0 0 0),(3,.lp 0 1 0 0),(4,.lp 0 2 0 0),(5,.lp 0 3 0 0),(87,.lp 0 0 0 0)] (o0 bs q W T cs ds ls ps k 0 0):= by
 have n40:1 ≤ (if (ls.length:Int) < 1 then 1 else (ls.length:Int)) ∧ (if (ls.length:Int) < 1 then 1 else (ls.length:Int)) ≤ 40:= by split <;> omega
 have pkn:SoundSet Tryz.prog DU [rdA bs q,.v (.int .i64 (if (ls.length:Int) < 1 then 1 else (ls.length:Int)))] (Tc bs (if (ls.length:Int) < 1 then 1 else (ls.length:Int)) q):= AD bs q _ hb hB (by omega)
 rw [ic]
 simp
 by_cases h0:k = 0
 ·subst h0
  simp [Wd]
  refine AJ pkn [0] (by simp) (by simp) (by simp) ?_
  rintro _ _ ⟨x,x0,x1,rfl,rfl⟩
  simp
  refine AJ (AD bs (q + 1) 4 hb hB (by omega)) [0] (by simp) (by simp) (by simp) ?_
  rintro _ _ ⟨y,y0,y1,rfl,rfl⟩
  simp
  refine ⟨by omega,?_⟩
  refine kX bs (q + 1 + 1) W T cs ds ls ps 0 x (1 + y) hl (if (ls.length:Int) < 1 then 1 else (ls.length:Int)) rfl (by omega) _ ?_
  intro s E s0 s1 e0 e4 e5 e87
  simp
  exact VI bs p (q + 1 + 1) W T cs ds ls ps 0 s (1 + y) hb hB hp (by omega) hk (by omega) (by omega) E e0 e4 e5 e87
 by_cases h1:k = 1
 ·subst h1
  simp [Wd]
  refine AJ pkn [0] (by simp) (by simp) (by simp) ?_
  rintro _ _ ⟨x,x0,x1,rfl,rfl⟩
  simp
  exact VI bs p (q + 1) W T cs ds ls ps 1 x 0 hb hB hp (by omega) hk (by omega) (by omega) _ rfl rfl rfl rfl
 by_cases h2:k = 2
 ·subst h2
  simp [Wd]
  refine AJ (U0 bs q W T cs ls hb hB (by omega) (by omega) (by omega)) [0] (by simp) (by simp) (by simp) ?_
  rintro _ _ ⟨x,q2,x0,x1,hq2,rfl,rfl⟩
  simp
  exact VI bs p q2 W T cs ds ls ps 2 x 0 hb hB hp (by omega) hk (by omega) (by omega) _ rfl rfl rfl rfl
 ·simp [Wd,h0,h1,h2]
  exact VI bs p q W T cs ds ls ps k 0 0 hb hB hp (by omega) hk (by omega) (by omega) _ rfl rfl rfl rfl
set_option maxHeartbeats 20000000 in
theorem QM (bs:List Int) (p:Nat) (W T:Int) (cs:List Bool) (ds ls:List Int) (ps:List (List Int)) (hb:bs.length ≤ 2000) (hB:Byt bs) (hp:p < 2 ^ 38) (hc:cs.length ≤ 40) (hd:ds.length ≤ 40) (hl:ls.length ≤ 40):
  SoundSet Tryz.prog Lh [rdA bs p,bkA W T cs ds ls ps] (ib bs p):= by
 refine KW (md:= md8) (ms:= [true,false]) Xd (by simp) ?_
 have pk9:∀ q,q ≤ p + 2 → SoundSet Tryz.prog DU [rdA bs q,.v (.int .i64 9)] (Tc bs 9 q):= fun q hq => AD bs q 9 hb hB (by omega)
 have pk60:∀ q,q ≤ p + 2 → SoundSet Tryz.prog DU [rdA bs q,.v (.int .i64 60)] (Tc bs 60 q):= fun q hq => AD bs q 60 hb hB (by omega)
 have fin:∀ (q:Nat) (k:Int),q ≤ p + 2 → 0 ≤ k ∧ k ≤ 20 → awp Tryz.prog md8 E5 (ra bs p) [(0,.lp 0 0 0 0),(3,.lp 0 1 0 0),(4,.lp 0 2 0 0),(5,.lp 0 3 0 0),(87,.lp 0 0 0 0)] (o0 bs q W T cs ds ls ps k 0 0):=
  fun q k hq hk => qU bs p q W T cs ds ls ps k hb hB hp hc hd hl hq hk
 simp [QK]
 repeat' first
  | omega
  | apply And.intro
  | (refine AJ (pk9 p (by omega)) [0] ?_ ?_ ?_ ?_
     ·simp
     ·simp
     ·simp
     rintro _ _ ⟨x,x0,x1,rfl,rfl⟩
     obtain ⟨v,v0,v4,hv⟩:= ly x0 (by omega)
     have x9:x < 9:= by omega
     simp [x0,hv,x9])
  | (refine AJ (pk9 (p + 1) (by omega)) [0] ?_ ?_ ?_ ?_
     ·simp
     ·simp
     ·simp
     rintro _ _ ⟨x,x0,x1,rfl,rfl⟩
     obtain ⟨v,v0,v4,hv⟩:= ly x0 (by omega)
     have x9:x < 9:= by omega
     simp [x0,hv,x9])
  | (refine AJ (pk60 (p + 1) (by omega)) [0] ?_ ?_ ?_ ?_
     ·simp
     ·simp
     ·simp
     rintro _ _ ⟨y,y0,y1,rfl,rfl⟩
     simp [x0,hv,x9])
  | (refine AJ (pk60 p (by omega)) [0] ?_ ?_ ?_ ?_
     ·simp
     ·simp
     ·simp
     rintro _ _ ⟨y,y0,y1,rfl,rfl⟩
     simp)
  | (refine fin (p + 1 + 1) _ (by omega) ?_)
def ii (bs:List Int) (p d:Nat) (r:AV) (ups:List AV):Prop:= ∃ (W T:Int) (cs:List Bool) (ds ls:List Int) (ps:List (List Int)) (q:Nat),cs.length ≤ 37 ∧ ds.length ≤ 38 ∧ ls.length ≤ 38 ∧ ps.length ≤ 21 ∧ (∀ x ∈ ps,x.length ≤ 37) ∧ q ≤ p + d ∧
 r = bkO W T cs ds ls ps ∧ ups = [rdA bs q,.bot]
def UT (W T:Int) (cs:List Bool) (ds ls:List Int) (ps:List (List Int)):Prop:= Aj W T cs ds ls ps = true ∨ (cs = [] ∧ ds = [] ∧ ls = [] ∧ ps = [])
theorem Tm {W T:Int} {cs:List Bool} {ds ls:List Int} {ps:List (List Int)} (h:UT W T cs ds ls ps):cs.length ≤ 36 ∧ ds.length ≤ 36 ∧ ls.length ≤ 36 ∧ ps.length ≤ 20 ∧ ∀ x ∈ ps,x.length ≤ 36:= by
 rcases h with h | ⟨rfl,rfl,rfl,rfl⟩
 ·obtain ⟨h1,h2,h3⟩:= AW h
  obtain ⟨a1,a2,a3⟩:= CU h1
  refine ⟨a1,by omega,by omega,h2,fun x hx => ?_⟩
  have:= CU (h3 x hx)
  omega
 ·simp
theorem ij {W T:Int} {cs:List Bool}:AR W T cs (Ac cs) = true:= by
 simp only [AR,Bool.and_eq_true,decide_eq_true_eq,CN]
 refine ⟨by simp [Ac],fun k hk => ?_⟩
 have:ati (Ac cs) k = 0:= by
  simp only [Ac,List.length_replicate] at hk
  simp [ati,Ac,hk]
 simp [JP,this]
theorem kY (cs:List Bool) (k:Nat):ati (Ac cs) k = 0:= by
 simp only [ati,Ac,Int.toNat_natCast,List.getD_eq_getElem?_getD]
 by_cases h:k < cs.length
 ·simp [h]
 ·simp [h]
theorem ik {W T:Int} {cs:List Bool} {ds:List Int} (hr:Am W T cs = true) (hd:B4 cs ds = true):Ad W T cs ds (Ac cs) = true:= by
 refine cL hr hd ij ?_
 have:Bt W T ds (Ac cs) = []:= by
  simp [Bt,BE,kY]
 rw [this]; rfl
theorem qV (W T:Int) (cs:List Bool) (ds:List Int):∃ (W2 T2:Int) (cs2:List Bool) (ds2 ls2:List Int),kW W T cs ds = bkO W2 T2 cs2 ds2 ls2 [] ∧ UT W2 T2 cs2 ds2 ls2 []:= by
 unfold kW
 split
 ·rename_i h
  simp only [Bool.and_eq_true] at h
  exact ⟨W,T,cs,ds,Ac cs,rfl,.inl (cX (ik h.1 h.2) (by simp) (by simp))⟩
 ·exact ⟨0,0,[],[],[],rfl,.inr ⟨rfl,rfl,rfl,rfl⟩⟩
theorem cY {W T:Int} {cs:List Bool} {ds ls:List Int} {ps:List (List Int)} (k s w:Int) (h:Aj W T cs ds ls ps = true):Aj W T cs ds (doI W T cs ds ls ps k s w).2.1 (doI W T cs ds ls ps k s w).2.2 = true:= by
 obtain ⟨h1,h2,h3⟩:= AW h
 unfold doI Jk
 split
 ·exact h
 split
 ·rcases List.eq_nil_or_concat ps with rfl | ⟨qs,q,hq⟩
  ·exact h
  ·rw [List.concat_eq_append] at hq
   subst hq
   simp only [List.getLast?_append,List.getLast?_singleton,Option.some_or,List.dropLast_concat]
   simp at h2
   exact cX (h3 q (by simp)) (by omega) (fun p hp => h3 p (by simp [hp]))
 split
 ·rename_i hb
  simp only [Bool.and_eq_true] at hb
  refine cX hb.2 ?_ ?_
  ·simp [FY]; omega
  ·intro p hp
   have:= List.mem_of_mem_drop hp
   simp at this
   rcases this with h4 | rfl
   ·exact h3 p h4
   ·exact h1
 ·exact h
theorem bdo (W T:Int) (cs:List Bool) (ds ls:List Int) (ps:List (List Int)) (k s w:Int) (hk:UT W T cs ds ls ps):
  ∃ (d:Bool) (W2 T2:Int) (cs2:List Bool) (ds2 ls2:List Int) (ps2:List (List Int)),SoundAt Tryz.prog Gh [bkA W T cs ds ls ps,Nx k s w] (.tup [bkO W2 T2 cs2 ds2 ls2 ps2,.v (.bool d)]) [.bot,.bot] ∧ UT W2 T2 cs2 ds2 ls2 ps2:= by
 obtain ⟨a1,a2,a3,a4,a5⟩:= Tm hk
 have:= M1 W T cs ds ls ps k s w (by omega) (by omega) (by omega) (by omega) (fun p hp => by have:= a5 p hp; omega)
 cases hb:Aj W T cs ds ls ps with
 | true =>
   rw [hb] at this
   simp only [if_true] at this
   exact ⟨_,_,_,_,_,_,_,this,.inl (cY k s w hb)⟩
 | false =>
   rw [hb] at this
   exact ⟨_,_,_,_,_,_,_,this,.inr ⟨rfl,rfl,rfl,rfl⟩⟩
abbrev bL (i:Nat) (W T:Int) (cs:List Bool) (ds ls:List Int) (ps:List (List Int)):List AV:= [.v (.int .i64 W),.v (.int .i64 T),.ls 1 i 0 cs.length,.ls 1 (i + 1) 0 ds.length,.ls 1 (i + 2) 0 ls.length,.ls 1 (i + 3) 0 ps.length]
abbrev kZ (bs:List Int) (q:Nat) (W T:Int) (cs:List Bool) (ds ls:List Int) (ps:List (List Int)):AN:=
 [some (.box [.sl 0 1 (u8s bs),.v (.int .i64 q)]),some (.box [.v (.int .i64 0),.v (.int .i64 0),.os 1 [],.os 1 [],.os 1 [],.os 1 []]),
  some (.box (bL 3 W T cs ds ls ps)),some (.arr 1 (AC cs)),some (.arr 1 (AB ds)),some (.arr 1 (AB ls)),some (.arr 1 (oss ps))]
abbrev nm (n:Int) (i:Int):ES:= [(0,.lp 0 0 0 0),(1,.v (.int .i64 n)),(4,.lp 0 1 0 0),(7,.lp 0 2 0 0),(8,.v (.int .i64 i)),(64,.lp 0 0 0 0)]
set_option maxHeartbeats 20000000 in
theorem nn (bs:List Int) (p q:Nat) (n:Int) (m:Nat) (W T:Int) (cs:List Bool) (ds ls:List Int) (ps:List (List Int)) (hb:bs.length ≤ 2000) (hB:Byt bs) (hp:p < 2 ^ 34) (hm:m < 14) (hq:q ≤ p + 700) (hk:UT W T cs ds ls ps) (Qc:AExit → ES → AN → Prop)
  (hend:∀ (q2:Nat) (W T:Int) (cs:List Bool) (ds ls:List Int) (ps:List (List Int)) (E:ES),q2 ≤ p + 850 → UT W T cs ds ls ps → get E 0 = .lp 0 0 0 0 → get E 1 = .v (.int .i64 n) → get E 4 = .lp 0 1 0 0 → get E 7 = .lp 0 2 0 0 → get E 64 = .lp 0 0 0 0 → Qc (.exit 0) E (kZ bs q2 W T cs ds ls ps)):
  CM [] [0,1,4,7,8,64] (awp Tryz.prog md8 E6) Qc (nm n m) (kZ bs q W T cs ds ls ps):= by
 refine AF (fun b E H => ∃ (q2:Nat) (W T:Int) (cs:List Bool) (ds ls:List Int) (ps:List (List Int)),b ≤ m ∧ q2 + b * 10 ≤ q + m * 10 ∧ UT W T cs ds ls ps ∧ E = nm n b ∧ H = kZ bs q2 W T cs ds ls ps) m ⟨q,W,T,cs,ds,ls,ps,Nat.le_refl _,Nat.le_refl _,hk,rfl,rfl⟩ ?_
 rintro J hJ b E H ⟨q2,W,T,cs,ds,ls,ps,hbm,hq2,hk,rfl,rfl⟩
 by_cases h0:b = 0
 ·subst h0
  simp [E6]
  exact hend q2 W T cs ds ls ps _ (by omega) hk rfl rfl rfl rfl rfl
 obtain ⟨a1,a2,a3,a4,a5⟩:= Tm hk
 have h0':0 < b:= by omega
 have ded:= QM bs q2 W T cs ds ls ps hb hB (by omega) (by omega) (by omega) (by omega)
 have nx:∀ (q3:Nat) (W2 T2:Int) (cs2:List Bool) (ds2 ls2:List Int) (ps2:List (List Int)),q3 ≤ q2 + 10 → UT W2 T2 cs2 ds2 ls2 ps2 → CL J b (nm n ((b:Int) - 1)) (kZ bs q3 W2 T2 cs2 ds2 ls2 ps2):= by
  intro q3 W2 T2 cs2 ds2 ls2 ps2 h1 h2
  refine ⟨b - 1,by omega,hJ _ _ _ ⟨q3,W2,T2,cs2,ds2,ls2,ps2,by omega,by omega,h2,?_,rfl⟩⟩
  rw [show ((b - 1:Nat):Int) = (b:Int) - 1 by omega]
 simp [E6,h0']
 repeat' first
  | omega
  | apply And.intro
  | (refine AJ ded [0] ?_ ?_ ?_ ?_
     ·simp
     ·simp
     ·simp
     rintro _ _ ⟨k,s,w,q3,k0,k1,s0,s1,w0,w1,hq3,rfl,rfl⟩
     obtain ⟨d,W2,T2,cs2,ds2,l2,p2,hS,hk2⟩:= bdo W T cs ds ls ps k s w hk
     simp)
  | (refine AA hS ?_
     cases d with
     | false =>
       simp
       exact ⟨by omega,nx q3 W T cs ds ls ps hq3 hk⟩
     | true =>
       simp
       exact ⟨by omega,nx q3 W2 T2 cs2 ds2 l2 p2 hq3 hk2⟩)
theorem Xf (xs ys:List Int) (ha:xs.length < 2 ^ 40):
  SoundAt Tryz.prog HG [.sl 1 1 (AB xs),.sl 1 1 (AB ys)] (.v (.bool (decide (xs = ys)))) [.bot,.bot]:= by
 refine AG (md:= md0) (ms:= [false,false]) N2 (by simp) ?_
 simp [HH]
 refine ⟨fun h => ?_,fun hl => ?_⟩
 ·intro e; subst e; exact h rfl
 refine AF (fun m E H => ∃ i:Nat,m = xs.length - i ∧ i ≤ xs.length ∧ xs.take i = ys.take i ∧ H = [] ∧ E = [(0,.sl 1 1 (AB xs)),(1,.sl 1 1 (AB ys)),(12,.v (.int .i64 xs.length)),(13,.v (.int .i64 i))]) xs.length ⟨0,by simp⟩ ?_
 rintro J hJ m E H ⟨i,rfl,hi,he,rfl,rfl⟩
 by_cases h:i < xs.length
 case neg =>
  have h1:i = xs.length:= by omega
  subst h1
  have e:xs = ys:= by
   rw [List.take_length] at he
   rw [he]; exact List.take_of_length_le (by omega)
  simp [Bp,e]
 have h2:i < ys.length:= by omega
 have key:(ati xs i = ati ys i) → xs.take (i + 1) = ys.take (i + 1):= by
  intro e
  rw [List.take_succ_eq_append_getElem h,List.take_succ_eq_append_getElem (by omega),he]
  simp [ati,h,h2] at e
  rw [e]
 have key2:¬ (ati xs i = ati ys i) → ¬ xs = ys:= fun e e2 => e (by rw [e2])
 by_cases e:ati xs i = ati ys i
 ·simp [Bp,h,h2,e]
  exact ⟨by omega,_,by omega,hJ _ _ _ ⟨i + 1,rfl,h,key e,rfl,rfl⟩⟩
 ·simp [Bp,h,h2,e,key2 e]
abbrev cpH (W T:Int) (cs:List Bool) (ds ls:List Int) (qs:List (List Int)):AN:=
 [some (.box [.v (.int .i64 0),.v (.int .i64 0),.os 1 [],.os 1 [],.os 1 [],.os 1 []]),some (.box (bL 2 W T cs ds ls qs)),
  some (.arr 1 (AC cs)),some (.arr 1 (AB ds)),some (.arr 1 (AB ls)),some (.arr 1 (oss qs))]
def cpP (ps:List (List Int)) (i:Nat):List (List Int):= ps.take i ++ List.replicate (ps.length - i) []
theorem Tn (ps:List (List Int)) {i:Nat} (h:i ≤ ps.length):(cpP ps i).length = ps.length:= by simp [cpP]; omega
theorem np (ps:List (List Int)) {i:Nat} (h:i < ps.length):(oss (cpP ps i)).set i (.os 1 (AB (pti ps i))) = oss (cpP ps (i + 1)):= by
 unfold oss
 rw [← List.map_set]
 congr 1
 unfold cpP
 rw [List.set_append_right _ _ (by simp; omega),show i - (ps.take i).length = 0 by simp; omega,show ps.length - i = (ps.length - (i + 1)) + 1 by omega,List.replicate_succ,List.set_cons_zero,
  Ih h]
 have e:ps.take (i + 1) = ps.take i ++ [ps[i]]:= List.take_succ_eq_append_getElem h
 rw [e,List.append_assoc]; rfl
theorem sX (W T:Int) (cs:List Bool) (ds ls:List Int) (ps:List (List Int)) (hb:ps.length ≤ 100) (hp:∀ p ∈ ps,p.length ≤ 100) (Qc:AExit → ES → AN → Prop)
  (hend:∀ E:ES,get E 2 = .lp 0 0 0 0 → get E 3 = .lp 0 1 0 0 → Qc (.exit 0) E (cpH W T cs ds ls ps)):
  CM [(29,1)] [2,3,29,30,31] (awp Tryz.prog mdo DA) Qc [(2,.lp 0 0 0 0),(3,.lp 0 1 0 0),(29,.sl 1 1 (sls 1 ps)),(30,.v (.int .i64 ps.length)),(31,.v (.int .i64 0))] (cpH W T cs ds ls (cpP ps 0)):= by
 refine AF (fun m E H => ∃ i:Nat,m = ps.length - i ∧ i ≤ ps.length ∧ E = [(2,.lp 0 0 0 0),(3,.lp 0 1 0 0),(29,.sl 1 1 (sls 1 ps)),(30,.v (.int .i64 ps.length)),(31,.v (.int .i64 i))] ∧ H = cpH W T cs ds ls (cpP ps i)) ps.length ⟨0,by simp⟩ ?_
 rintro J hJ m E H ⟨i,rfl,hi,rfl,rfl⟩
 have hl:= Tn ps hi
 by_cases h:i < ps.length
 case neg =>
  have h1:i = ps.length:= by omega
  subst h1
  have e:cpP ps ps.length = ps:= by simp [cpP]
  simp [DA]
  rw [e]
  exact hend _ rfl rfl
 have hpi:(pti ps i).length ≤ 100:= by rw [Ih h]; exact hp _ (List.getElem_mem h)
 have hset:= np ps h
 have hl2:= Tn ps (show i + 1 ≤ ps.length by omega)
 have nx:= hJ (ps.length - (i + 1)) _ _ ⟨i + 1,rfl,h,rfl,rfl⟩
 simp only [cpH,bL,hl2,← hset,Int.natCast_add,Int.natCast_one] at nx
 simp [DA,h]
 (repeat' first | omega | apply And.intro) <;>
 ·refine AA (Aq (pti ps i) (by omega)) ?_
  simp [h,hl]
  exact ⟨by omega,_,by omega,nx⟩
set_option maxHeartbeats 8000000 in
theorem LM (W T:Int) (cs:List Bool) (ds ls:List Int) (ps:List (List Int)) (hc:cs.length ≤ 100) (hd:ds.length ≤ 100) (hl:ls.length ≤ 100) (hb:ps.length ≤ 100) (hp:∀ p ∈ ps,p.length ≤ 100):
  SoundAt Tryz.prog LL [bkA W T cs ds ls ps] (bkO W T cs ds ls ps) [.bot]:= by
 refine X6 (md:= mdo) (ms:= [false]) Sc (by simp) ?_
 have t1:(AB ds).take ds.length = AB ds:= AE ds
 have t2:(AB ls).take ls.length = AB ls:= AE ls
 have t3:(oss ps).take ps.length = oss ps:= List.take_of_length_le (by simp [oss])
 have e0:List.replicate ps.length (AV.os 1 []) = oss (cpP ps 0):= by simp [cpP,oss]
 have hl0:(cpP ps 0).length = ps.length:= Tn ps (by omega)
 have lp:= sX W T cs ds ls ps hb hp
 simp only [cpH,bL,hl0,← e0] at lp
 simp [I1]
 refine X7 rfl rfl rfl ?_
 simp
 (repeat' first | omega | apply And.intro) <;>
 ·refine AA (Tl cs (by omega)) ?_
  simp
  (repeat' first | omega | apply And.intro) <;>
  ·refine AA (Aq ds (by omega)) ?_
   simp
   (repeat' first | omega | apply And.intro) <;>
   ·refine AA (Aq ls (by omega)) ?_
    simp [IY]
    (repeat' first | omega | apply And.intro) <;>
    ·refine lp _ ?_
     intro E e2 e3
     simp [e2,e3,t1,t2,t3]
theorem il {W T:Int} {cs:List Bool} {ds ls:List Int} {k s w:Int} (hf:Ad W T cs ds ls = true) (hk:k = 0 ∨ k = 1 ∨ k = 2 ∨ k = 3):AR W T cs (Hi W T cs ds ls k s w) = true:= by
 obtain ⟨hr,hd,hy,ho⟩:= AM hf
 unfold Hi
 split
 ·unfold Au
  split
  ·rename_i h; exact KX hr hy h
  ·exact hy
 split
 ·split
  ·rename_i h
   simp only [D6,decide_eq_true_eq] at h
   have:= cK (k:= s.toNat) hr hy (by omega) (by rw [show ((s.toNat:Nat):Int) = s by omega]; exact h.2.2)
   rw [show ((s.toNat:Nat):Int) = s by omega] at this
   exact this
  ·exact hy
 split
 ·by_cases hfl:Gz W T ls s = true
  ·exact (iW hr hy hfl).2
  ·have e:Ik W T ls s = ls:= by simp [Ik,hfl]
   rw [e]; exact hy
 split
 ·exact (AM (Px hf).1).2.2.1
 ·omega
theorem QN (W T:Int) (cs:List Bool) (ds ls:List Int) (ps:List (List Int)) (k s w:Int) (h:Aj W T cs ds ls ps = true) (hs:s ≤ 9223372036854775807):
  SoundAt Tryz.prog CW [Pu W T cs ds ls ps,Nx k s w] (.v (.bool (doI W T cs ds ls ps k s w).1)) [Pu W T cs ds (doI W T cs ds ls ps k s w).2.1 (doI W T cs ds ls ps k s w).2.2,.bot]:= by
 obtain ⟨hf,h20,hpf⟩:= AW h
 obtain ⟨hr,hdg,hy,ho⟩:= AM hf
 obtain ⟨l36,ld,ll⟩:= CU hf
 have hnl:= UR W T cs ds ls k s w
 unfold doI
 refine gv XW W T cs ds ls (Hi W T cs ds ls k s w) ps k s w (Ti (k,s,w)) (Q1 W T cs ds ls k s w) (Ad W T cs ds (Hi W T cs ds ls k s w)) (by omega) (by omega) (by omega) (Tj (k,s,w)) ?_ ?_ (fun us h1 h2 => Uy us h1 h2)
 ·intro hn hk4
  have hk:k = 0 ∨ k = 1 ∨ k = 2 ∨ k = 3:= by have:= PU hn; omega
  have h0:= ZP W T cs ls s w (by omega) (by omega)
  have h1:= XP W T cs ls s (by omega) (by omega)
  have h2:= Sd W T cs ls s hr ll hs
  have h3:= Nw W T cs ds ls hf
  have h4:= Xf (BN W T cs ds ls) ls (by rw [Nh]; omega)
  have:= Y8 SZ W T cs ds ls _ _ _ _ ps k s w _ _ _ _ h0 h1 h2 h3 h4
  have e:Ug k (nc W T cs ls s w) (Uu W T cs ls s) (Ik W T ls s) (BN W T cs ds ls) (cN W T cs ls s w) (NY W T cs ls s) (Gz W T ls s) (!decide (BN W T cs ds ls = ls)) =
    (Hi W T cs ds ls k s w,Q1 W T cs ds ls k s w):= by
   rcases hk with rfl | rfl | rfl | rfl
   ·simp [Ug,Hi,Q1,nc,cN,hr,hy]
   ·simp [Ug,Hi,Q1,Uu,NY,hr,hy]
   ·simp [Ug,Hi,Q1]
   ·simp [Ug,Hi,Q1]
  rw [e] at this
  exact this
 ·intro hn hk4
  have hk:k = 0 ∨ k = 1 ∨ k = 2 ∨ k = 3:= by have:= PU hn; omega
  have hy2:= il (s:= s) (w:= w) hf hk
  have hok:okB W T cs ds (Hi W T cs ds ls k s w) = true:= by simp [okB,hr,hdg,hy2]
  have e:Ad W T cs ds (Hi W T cs ds ls k s w) = LU (Bt W T ds (Hi W T cs ds ls k s w)):= by simp [Ad,hok]
  rw [e]
  exact EE W T cs ds _ hok
@[simp] abbrev Nj:Nat:= 138
def Ds:ACode:= .seq (.seq (.reg [.m 11 5,.m 12 0,.n 13 12,.o 14 (.bin .lss 0) [.t 11,.t 13]]) <| .cond (.t 14) ( .skip) ( .exit 0)) <| .seq (.block 1 ( .seq (.draw ( .take (.m 17 0) <| .take (.m 18 5) <| .take (.o 19 (.iadr 1) [.t 17,.t 18]) <| .take (.m 21 1) <| .take (.m 22 5) <| .take (.o 23 (.iadr 1) [.t 21,.t 22]) <| .alt (.l 20 19) ( .al (.l 24 23) ( .take (.o 25 (.bin .neq 2) [.t 20,.t 24]) <| .done)) <| .al (.l 24 23) ( .al (.l 20 19) ( .take (.o 25 (.bin .neq 2) [.t 20,.t 24]) <| .done)))) <| .cond (.t 25) ( .seq (.reg [.o 4 .mv [.kb false]]) <| .ret) ( .skip))) <| .reg [.m 15 5,.o 16 (.bin .add 0) [.t 15,.k 1],.m 5 16]
def Nk:ACode:= .seq (.reg [.o 4 .mv [.kb false]]) <| .seq (.seq (.reg [.m 6 0,.n 7 6,.m 8 1,.n 9 8,.o 10 (.bin .neq 0) [.t 7,.t 9]]) <| .cond (.t 10) ( .seq (.reg [.o 4 .mv [.kb false]]) <| .ret) ( .skip)) <| .seq (.seq (.reg [.o 5 .mv [.k 0]]) <| .block 0 ( .loop [(0,1),(1,1)] [0,1,5] Ds)) <| .seq (.reg [.o 4 .mv [.kb true]]) <| .ret
theorem U1:cFn Tryz.prog Nj 26 [.t 4] Nk:= ⟨Tryz.f138,_,Tryz.func138,rfl,by kernel_rfl,by kernel_rfl,by kernel_rfl,by kernel_rfl⟩
@[simp] abbrev MY:Nat:= 66
def E7:ACode:= .seq (.reg [.o 2 .box [.t 0],.o 3 .box [.t 1],.o 4 .mv [.kb false]]) <| .seq (.reg [.f 5 0 2,.l 6 5,.f 7 0 3,.l 8 7,.o 9 (.bin .eql 0) [.t 6,.t 8],.m 10 9,.fg 11 1 2 10 true,.lg 12 11 10 true,.fg 13 1 3 10 true,.lg 14 13 10 true,.g 15 (.bin .eql 0) [.t 12,.t 14] 10 true,.o 16 .pick [.t 10,.t 15,.kb false],.m 17 16,.fg 18 2 2 17 true,.lg 19 18 17 true,.fg 20 2 3 17 true,.lg 21 20 17 true,.g 22 (.call 138 []) [.t 19,.t 21] 17 true,.o 23 .pick [.t 17,.t 22,.kb false],.m 4 23]) <| .ret
theorem To:cFn Tryz.prog MY 24 [.t 4] E7:= ⟨Tryz.f66,_,Tryz.func66,rfl,by kernel_rfl,by kernel_rfl,by kernel_rfl,by kernel_rfl⟩
@[simp] abbrev KA:Nat:= 22
def O5:ACode:= .seq (.reg [.o 2 .box [.t 0],.o 3 .box [.t 1],.o 4 .mv [.kb false]]) <| .seq (.reg [.f 5 0 2,.la 6 3 5,.f 7 0 3,.la 8 3 7,.o 9 (.call 66 []) [.t 6,.t 8],.m 10 9,.fg 11 3 2 10 true,.lg 12 11 10 true,.fg 13 3 3 10 true,.lg 14 13 10 true,.g 15 (.call 67 []) [.t 12,.t 14] 10 true,.o 16 .pick [.t 10,.t 15,.kb false],.m 17 16,.fg 18 4 2 17 true,.lg 19 18 17 true,.fg 20 4 3 17 true,.lg 21 20 17 true,.g 22 (.call 67 []) [.t 19,.t 21] 17 true,.o 23 .pick [.t 17,.t 22,.kb false],.m 24 23,.fg 25 5 2 24 true,.lg 26 25 24 true,.fg 27 5 3 24 true,.lg 28 27 24 true,.g 29 (.call 68 []) [.t 26,.t 28] 24 true,.o 30 .pick [.t 24,.t 29,.kb false],.m 4 30]) <| .ret
theorem We:cFn Tryz.prog KA 31 [.t 4] O5:= ⟨Tryz.f22,_,Tryz.func22,rfl,by kernel_rfl,by kernel_rfl,by kernel_rfl,by kernel_rfl⟩
@[simp] abbrev Sj:Nat:= 37
def Sk:ACode:= .seq (.reg [.o 1 .box [.t 0],.o 2 .mv [.kb false]]) <| .seq (.reg [.la 3 6 1,.o 4 (.build bz []) [],.o 5 (.call 22 []) [.t 3,.t 4],.m 2 5]) <| .ret
theorem ZW:cFn Tryz.prog Sj 6 [.t 2] Sk:= ⟨Tryz.f37,_,Tryz.func37,rfl,by kernel_rfl,by kernel_rfl,by kernel_rfl,by kernel_rfl⟩
theorem U2 (xs ys:List Bool) (ha:xs.length < 2 ^ 40):
  SoundAt Tryz.prog Nj [.sl 1 1 (AC xs),.sl 1 1 (AC ys)] (.v (.bool (decide (xs = ys)))) [.bot,.bot]:= by
 refine AG (md:= md0) (ms:= [false,false]) U1 (by simp) ?_
 simp [Nk]
 refine ⟨fun h => ?_,fun hl => ?_⟩
 ·intro e; subst e; exact h rfl
 refine AF (fun m E H => ∃ i:Nat,m = xs.length - i ∧ i ≤ xs.length ∧ xs.take i = ys.take i ∧ H = [] ∧ E = [(0,.sl 1 1 (AC xs)),(1,.sl 1 1 (AC ys)),(5,.v (.int .i64 i))]) xs.length ⟨0,by simp⟩ ?_
 rintro J hJ m E H ⟨i,rfl,hi,he,rfl,rfl⟩
 by_cases h:i < xs.length
 case neg =>
  have h1:i = xs.length:= by omega
  subst h1
  have e:xs = ys:= by
   rw [List.take_length] at he
   rw [he]; exact List.take_of_length_le (by omega)
  simp [Ds,e]
 have h2:i < ys.length:= by omega
 have key:(atb xs i = atb ys i) → xs.take (i + 1) = ys.take (i + 1):= by
  intro e
  rw [List.take_succ_eq_append_getElem h,List.take_succ_eq_append_getElem (by omega),he]
  simp [atb,h,h2] at e
  rw [e]
 have key2:¬ (atb xs i = atb ys i) → ¬ xs = ys:= fun e e2 => e (by rw [e2])
 by_cases e:atb xs i = atb ys i
 ·simp [Ds,h,h2,e]
  exact ⟨by omega,_,by omega,hJ _ _ _ ⟨i + 1,rfl,h,key e,rfl,rfl⟩⟩
 ·have e2:(atb xs i == atb ys i) = false:= by simpa using e
  simp [Ds,h,h2,e,e2,key2 e]
def im (W T:Int) (cs:List Bool) (W2 T2:Int) (cs2:List Bool):Bool:= (decide (W = W2) && decide (T = T2)) && decide (cs = cs2)
def ip (W T:Int) (cs:List Bool) (ds ls:List Int) (ps:List (List Int)) (W2 T2:Int) (cs2:List Bool) (ds2 ls2:List Int) (ps2:List (List Int)):Bool:=
 ((im W T cs W2 T2 cs2 && decide (ds = ds2)) && decide (ls = ls2)) && decide (ps = ps2)
theorem MZ (W T:Int) (cs:List Bool) (ds ls:List Int) (ps:List (List Int)):ip W T cs ds ls ps W T cs ds ls ps = true:= by simp [ip,im]
theorem Tp (W T:Int) (cs:List Bool) (W2 T2:Int) (cs2:List Bool) (ha:cs.length < 2 ^ 40):
  SoundAt Tryz.prog MY [.agg [.v (.int .i64 W),.v (.int .i64 T),.sl 1 1 (AC cs)],.agg [.v (.int .i64 W2),.v (.int .i64 T2),.sl 1 1 (AC cs2)]] (.v (.bool (im W T cs W2 T2 cs2))) [.bot,.bot]:= by
 refine AG (md:= md0) (ms:= [false,false]) To (by simp) ?_
 unfold im
 by_cases h1:W = W2
 ·by_cases h2:T = T2
  ·simp [E7,h1,h2]
   refine AA (U2 cs cs2 ha) ?_
   simp
  ·simp [E7,h1,h2]
 ·simp [E7,h1]
theorem Cf (W T:Int) (cs:List Bool) (ds ls:List Int) (ps:List (List Int)) (W2 T2:Int) (cs2:List Bool) (ds2 ls2:List Int) (ps2:List (List Int))
  (hc:cs.length < 2 ^ 40) (hd:ds.length < 2 ^ 40) (hl:ls.length < 2 ^ 40) (hb:ps.length < 2 ^ 40) (hp:∀ p ∈ ps,p.length < 2 ^ 40):
  SoundAt Tryz.prog KA [bkA W T cs ds ls ps,bkA W2 T2 cs2 ds2 ls2 ps2] (.v (.bool (ip W T cs ds ls ps W2 T2 cs2 ds2 ls2 ps2))) [.bot,.bot]:= by
 refine AG (md:= md0) (ms:= [false,false]) We (by simp) ?_
 have one:= Tp W T cs W2 T2 cs2 hc
 have two:= J1 ds ds2 hd
 have three:= J1 ls ls2 hl
 have four:= Us ps ps2 hb hp
 unfold ip
 simp [O5]
 refine AA one ?_
 cases im W T cs W2 T2 cs2 with
 | false => simp
 | true =>
 simp
 refine AA two ?_
 by_cases h2:ds = ds2
 case neg => simp [h2]
 simp [h2]
 refine AA three ?_
 by_cases h3:ls = ls2
 case neg => simp [h3]
 simp [h3]
 refine AA four ?_
 simp
theorem Sl (W T:Int) (cs:List Bool) (ds ls:List Int) (ps:List (List Int)) (hc:cs.length < 2 ^ 40) (hd:ds.length < 2 ^ 40) (hl:ls.length < 2 ^ 40) (hb:ps.length < 2 ^ 40) (hp:∀ p ∈ ps,p.length < 2 ^ 40):
  SoundAt Tryz.prog Sj [bkA W T cs ds ls ps] (.v (.bool (ip W T cs ds ls ps 0 0 [] [] [] []))) [.bot]:= by
 refine AG (md:= md0) (ms:= [false]) ZW (by simp) ?_
 simp [Sk]
 have:= Cf W T cs ds ls ps 0 0 [] [] [] [] hc hd hl hb hp
 simp only [bkA,gP,jr,show sls 1 [] = [] from rfl] at this
 refine AA this ?_
 simp
theorem iq {W T:Int} {cs:List Bool} {ds ls:List Int} {ps:List (List Int)} {k s w:Int} (h:(doI W T cs ds ls ps k s w).1 = false):doI W T cs ds ls ps k s w = (false,ls,ps):= by
 unfold doI Jk at *
 split
 ·rfl
 ·rename_i hn
  rw [if_neg hn] at h
  split
  ·rename_i hk
   rw [if_pos hk] at h
   cases hg:ps.getLast? with
   | none => rfl
   | some q => rw [hg] at h; cases h
  ·rename_i hk
   rw [if_neg hk] at h
   split
   ·rename_i hb; rw [if_pos hb] at h; cases h
   ·rfl
abbrev qW (W T:Int) (cs:List Bool) (ds:List Int):List Int → List (List Int) → jU → Bool × List Int × List (List Int):= fun l p d => doI W T cs ds l p d.1 d.2.1 d.2.2
def jV (W T:Int) (cs:List Bool) (ds ls:List Int) (ps:List (List Int)) (xs:List jU):List Int × List (List Int) × Nat:= L8 (qW W T cs ds) ls ps xs
theorem lz {W T:Int} {cs:List Bool} {ds:List Int}:∀ (xs:List jU) (ls:List Int) (ps:List (List Int)),Aj W T cs ds ls ps = true → Aj W T cs ds (jV W T cs ds ls ps xs).1 (jV W T cs ds ls ps xs).2.1 = true
 | [],ls,ps,h => h
 | x::xs,ls,ps,h => by
   have:= lz xs _ _ (cY x.1 x.2.1 x.2.2 h)
   exact this
end Go.Proofs.Dev
