/- Contracts of the functions of the program over slots and rows, each proved against the program itself; no condition beyond those that each theorem names. -/
import Derived.Test.YtfkmfobbgoflgaaGreatDoorAZ
import Derived.Test.YtfkmfobbgoflgaaGreatDoorAY
import Derived.Test.YtfkmfobbgoflgaaGreatDoorAJ
import Derived.Test.YtfkmfobbgoflgaaGreatDoorAX
import Derived.Shelf.Strings.OnBuilder
import Derived.Test.YtfkmfobbgoflgaaGreatDoorAI
import Derived.Test.YtfkmfobbgoflgaaGreatDoorAW
import Derived.Test.YtfkmfobbgoflgaaGreatDoorAR
import Derived.Test.YtfkmfobbgoflgaaGreatDoorAH
import Derived.Test.YtfkmfobbgoflgaaGreatDoorProg
import Derived.Test.YtfkmfobbgoflgaaGreatDoorAV
set_option linter.unusedSimpArgs false
set_option linter.unusedVariables false
set_option maxRecDepth 100000
namespace Go.Proofs.Dev
@[simp] theorem oC (c:Nat):∀ xs:List (Int × Int × Int),vwL c (dsA xs) = dsA xs
  | [] => rfl
  | x::xs => by show vw c (BG x)::vwL c (dsA xs) = BG x::dsA xs; rw [oC c xs]; rfl
@[simp] theorem oD (xs:List (Int × Int × Int)):(dsA xs).take xs.length = dsA xs:= List.take_of_length_le (by simp)
end Go.Proofs.Dev
namespace Go.Proofs
open Go.Shelf
set_option maxRecDepth 1000000
end Go.Proofs
namespace Go.Proofs.Dev
open Go.RowKit Go.Shelf
theorem GB.below {w w':World} {S:List Nat} {forb:Nat → Prop} (h:GB w S forb) (k:Below w.heap.size w w'):GB w' S forb:= by
 refine ⟨RL.step (C:= Zi w S forb) (C':= Zi w' S forb) ⟨k.size,?_,fun _ _ hx => by simp [Zi] at hx,Nat.le_refl _,fun _ _ => rfl,?_⟩ gAs [] gUs (by simp) h.1,?_⟩
 ·intro c b hb hbad
  exact ⟨hbad,k.block b hb⟩
 ·exact (GK [] k).room
 ·intro p hp
  obtain ⟨h1,u,hu,hq⟩:= h.2 p hp
  exact ⟨h1,u,(World.cell?_of_block (k.block _ (block_lt_of_cell hu))).trans hu,hq⟩
open Go.RowKit
@[simp] def tK (f:Nat):List Bool:= if f = 999999 ∨ f = 999999 then [true] else if f = 55 then [true,false] else md8 f
@[simp] abbrev QU:Nat:= 30
abbrev CK:Plan:= .al (.o 36 (.call 24 []) [.t 31,.t 35]) ( .take (.m 30 36) <| .take (.e 37 0 30) <| .take (.e 38 1 30) <| .al (.s (.store 6) [.t 9,.t 37]) ( .take (.m 10 38) <| .done))
abbrev I7:Plan:= .alt (.o 36 (.call 24 []) [.t 31,.t 35]) ( .take (.m 30 36) <| .take (.e 37 0 30) <| .take (.e 38 1 30) <| .al (.o 9 (.alloc bz) []) ( .al (.s (.store 6) [.t 9,.t 37]) ( .take (.m 10 38) <| .done))) <| .al (.o 9 (.alloc bz) []) CK
def Ho:ACode:= .seq (.seq (.reg [.m 24 8,.m 25 1,.n 26 25,.o 27 (.bin .lss 0) [.t 24,.t 26]]) <| .cond (.t 27) ( .skip) ( .exit 0)) <| .seq (.block 1 ( .seq (.draw ( .take (.m 32 1) <| .take (.m 33 8) <| .take (.o 34 (.iadr 1) [.t 32,.t 33]) <| .alt (.la 31 6 7) ( .alt (.l 35 34) I7 <| .al (.o 9 (.alloc bz) []) ( .al (.l 35 34) CK)) <| .alt (.l 35 34) ( .alt (.la 31 6 7) I7 <| .al (.o 9 (.alloc bz) []) ( .al (.la 31 6 7) CK)) <| .al (.o 9 (.alloc bz) []) ( .alt (.la 31 6 7) ( .al (.l 35 34) CK) <| .al (.l 35 34) ( .al (.la 31 6 7) CK)))) <| .seq (.reg [.la 39 6 9,.s (.store 6) [.t 7,.t 39]]) <| .reg [.m 40 6,.m 41 10,.o 42 (.bsl 1) [.t 41],.o 43 (.app 1 16 true) [.t 40,.t 42],.m 6 43])) <| .reg [.m 28 8,.o 29 (.bin .add 0) [.t 28,.k 1],.m 8 29]
def Hv:ACode:= .seq (.reg [.o 2 .box [.t 0],.o 4 (.alloc bz) [],.o 5 .mv [.c (.os 1 [])]]) <| .seq (.reg [.o 11 (.bsl 1) [],.m 6 11]) <| .seq (.seq (.reg [.la 12 6 2,.o 13 (.call 18 []) [.t 12],.o 14 (.un .not) [.t 13],.m 15 14,.mg 16 1 15 false,.g 17 (.len false) [.t 16] 15 false,.g 18 (.bin .gtr 0) [.t 17,.k 40] 15 false,.o 19 .pick [.t 15,.kb true,.t 18]]) <| .cond (.t 19) ( .seq (.reg [.o 20 (.build bz []) [],.m 21 6,.s (.store 6) [.t 4,.t 20],.m 5 21]) <| .ret) ( .skip)) <| .seq (.reg [.la 22 6 2,.o 23 (.call 72 []) [.t 22],.o 7 (.alloc bz) [],.s (.store 6) [.t 7,.t 23]]) <| .seq (.seq (.reg [.o 8 .mv [.k 0]]) <| .block 0 ( .loop [(1,1),(6,1)] [1,4,6,7,8] Ho)) <| .seq (.reg [.la 44 6 7,.m 45 6,.s (.store 6) [.t 4,.t 44],.m 5 45]) <| .ret
theorem Xk:cFn Tryz.prog QU 46 [.c 4 true 6,.t 5] Hv:= ⟨Tryz.f30,_,Tryz.func30,rfl,by kernel_rfl,by kernel_rfl,by kernel_rfl,by kernel_rfl⟩
@[simp] abbrev BX:Nat:= 95
def Es:ACode:= .seq (.reg [.o 2 .mv [.c (.os 1 [])]]) <| .seq (.reg [.m 3 0,.m 4 0,.n 5 4,.m 6 0,.n 7 6,.o 8 (.slice 1 false false true true) [.t 3,.t 5,.t 7],.m 2 8]) <| .ret
theorem KN:cFn Tryz.prog BX 9 [.t 2] Es:= ⟨Tryz.f95,_,Tryz.func95,rfl,by kernel_rfl,by kernel_rfl,by kernel_rfl,by kernel_rfl⟩
@[simp] abbrev QV:Nat:= 32
def Hp:ACode:= .seq (.reg [.o 24 (.bin .lss 0) [.t 23,.t 22]]) <| .seq (.cond (.t 24) ( .skip) ( .exit 0)) <| .seq (.block 1 ( .seq (.reg [.o 25 (.iadr 1) [.t 21,.t 23],.l 26 25,.m 9 26]) <| .reg [.m 27 7,.m 28 9,.o 29 (.call 61 []) [.t 6,.t 28],.o 30 (.bsl 1) [.t 29],.o 31 (.app 1 16 true) [.t 27,.t 30],.m 7 31])) <| .reg [.o 32 (.bin .add 0) [.t 23,.k 1],.m 23 32]
abbrev Me:Plan:= .al (.s (.store 6) [.t 4,.t 33]) ( .take (.m 5 35) <| .done)
def Hw:ACode:= .seq (.reg [.o 2 .box [.t 0],.o 4 (.alloc bz) [],.o 5 .mv [.c (.os 1 [])]]) <| .seq (.seq (.reg [.la 10 6 2,.o 11 (.call 38 []) [.t 10],.o 12 (.un .not) [.t 11],.m 13 12,.mg 14 1 13 false,.g 15 (.len false) [.t 14] 13 false,.g 16 (.bin .gtr 0) [.t 15,.k 40] 13 false,.o 17 .pick [.t 13,.kb true,.t 16]]) <| .cond (.t 17) ( .seq (.reg [.o 18 (.build bz []) [],.s (.store 6) [.t 4,.t 18],.o 5 .mv [.c (.os 1 [])]]) <| .ret) ( .skip)) <| .seq (.reg [.la 19 6 2,.o 20 (.call 60 []) [.t 19],.o 6 (.alloc bz) [],.s (.store 6) [.t 6,.t 20]]) <| .seq (.reg [.o 7 .mv [.c (.os 1 [])]]) <| .seq (.seq (.reg [.m 21 1,.n 22 21,.o 23 .mv [.k 0]]) <| .block 0 ( .loop [(7,1),(21,1)] [4,6,7,21,22,23] Hp)) <| .seq (.draw ( .take (.m 34 7) <| .alt (.la 33 6 6) ( .al (.o 35 (.call 95 []) [.t 34]) Me) <| .al (.o 35 (.call 95 []) [.t 34]) ( .al (.la 33 6 6) Me))) <| .ret
theorem Xl:cFn Tryz.prog QV 36 [.c 4 true 6,.t 5] Hw:= ⟨Tryz.f32,_,Tryz.func32,rfl,by kernel_rfl,by kernel_rfl,by kernel_rfl,by kernel_rfl⟩
@[simp] abbrev Lm:Nat:= 97
def QW:ACode:= .seq (.reg [.o 3 .box [.t 1],.o 4 .mv [.c (.v (.string ⟨#[]⟩))]]) <| .seq (.seq (.reg [.m 5 0,.o 6 (.call 54 []) [.t 5,.k 4]]) <| .block 0 ( .seq (.reg [.o 8 (.bin .eql 0) [.t 6,.k 0],.m 7 8]) <| .cond (.t 7) ( .seq (.reg [.o 9 (.bsl 1) [.c (.v (.string ⟨#[115,104,111,119]⟩)),.c (.v (.string ⟨#[100,105,103,105,116,115]⟩)),.c (.v (.string ⟨#[108,101,102,116]⟩)),.c (.v (.string ⟨#[112,97,115,116]⟩)),.c (.v (.string ⟨#[115,111,108,118,101,100]⟩)),.c (.v (.string ⟨#[100,101,97,100]⟩)),.c (.v (.string ⟨#[104,105,110,116]⟩)),.c (.v (.string ⟨#[101,110,100]⟩))],.m 10 0,.o 11 (.call 54 []) [.t 10,.k 8],.o 12 (.iadr 1) [.t 9,.t 11],.l 13 12,.m 4 13]) <| .ret) ( .seq (.reg [.o 15 (.bin .eql 0) [.t 6,.k 1],.m 14 15]) <| .cond (.t 14) ( .seq (.reg [.o 16 (.bsl 1) [.c (.v (.string ⟨#[]⟩)),.c (.v (.string ⟨#[108,97,121]⟩)),.c (.v (.string ⟨#[108,97,121,32,48,49,32,101]⟩)),.c (.v (.string ⟨#[108,105,102,116,32,120]⟩)),.c (.v (.string ⟨#[32,98,97,99,107]⟩)),.c (.v (.string ⟨#[102,111,114,99,101,32,49]⟩)),.c (.v (.string ⟨#[102,108,105,112]⟩)),.c (.v (.string ⟨#[108,97,121,32,49,32,113]⟩))],.m 17 0,.o 18 (.call 54 []) [.t 17,.k 8],.o 19 (.iadr 1) [.t 16,.t 18],.l 20 19,.m 4 20]) <| .ret) ( .skip)))) <| .seq (.reg [.m 21 0,.la 22 6 3,.o 23 (.call 120 []) [.t 21,.t 22],.o 24 (.call 48 []) [.t 23],.m 4 24]) <| .ret
theorem Xm:cFn Tryz.prog Lm 25 [.t 4] QW:= ⟨Tryz.f97,_,Tryz.func97,rfl,by kernel_rfl,by kernel_rfl,by kernel_rfl,by kernel_rfl⟩
@[simp] abbrev Fx:Nat:= 36
abbrev HM:Plan:= .al (.s (.store 6) [.t 2,.t 10]) ( .take (.m 3 13) <| .done)
abbrev HN:Plan:= .al (.o 13 (.call 97 []) [.t 11,.t 12]) HM
def KO:ACode:= .seq (.reg [.o 2 (.alloc bz) [],.o 3 .mv [.c (.v (.string ⟨#[]⟩))]]) <| .seq (.reg [.m 6 0,.o 7 (.call 43 []) [.t 6],.m 4 7]) <| .seq (.reg [.m 8 4,.o 9 (.call 57 []) [.t 8,.k 12],.o 5 (.alloc bz) [],.s (.store 6) [.t 5,.t 9]]) <| .seq (.draw ( .take (.m 11 4) <| .alt (.la 10 6 5) ( .al (.la 12 6 5) HN) <| .al (.la 12 6 5) ( .alt (.la 10 6 5) HN <| .al (.o 13 (.call 97 []) [.t 11,.t 12]) ( .al (.la 10 6 5) HM)))) <| .ret
theorem Q5:cFn Tryz.prog Fx 14 [.c 2 true 6,.t 3] KO:= ⟨Tryz.f36,_,Tryz.func36,rfl,by kernel_rfl,by kernel_rfl,by kernel_rfl,by kernel_rfl⟩
@[simp] abbrev Mf:Nat:= 7
def Mg:ACode:= .seq (.reg [.o 2 .mv [.kb false]]) <| .seq (.seq (.reg [.m 11 0,.n 12 11,.o 13 (.bin .gtr 0) [.t 12,.k 1048576]]) <| .cond (.t 13) ( .seq (.reg [.o 2 .mv [.kb true]]) <| .ret) ( .skip)) <| .seq (.reg [.m 15 0,.o 16 (.call 36 []) [.t 15],.m 14 16,.e 17 0 14,.e 18 1 14,.o 3 (.alloc bz) [],.s (.store 6) [.t 3,.t 17],.m 4 18]) <| .seq (.reg [.la 20 6 3,.m 21 4,.o 22 (.call 19 []) [.t 20,.t 21],.m 19 22,.e 23 0 19,.e 24 1 19,.o 5 (.alloc bz) [],.s (.store 6) [.t 5,.t 23],.m 6 24]) <| .seq (.reg [.la 26 6 3,.m 27 4,.o 28 (.call 24 []) [.t 26,.t 27],.m 25 28,.e 29 0 25,.e 30 1 25,.o 7 (.alloc bz) [],.s (.store 6) [.t 7,.t 29],.m 8 30]) <| .seq (.seq (.reg [.la 31 6 5,.la 32 6 7,.o 33 (.call 22 []) [.t 31,.t 32],.o 34 (.un .not) [.t 33],.m 35 34,.mg 36 6 35 false,.mg 37 8 35 false,.g 38 (.bin .neq 1) [.t 36,.t 37] 35 false,.o 39 .pick [.t 35,.kb true,.t 38]]) <| .cond (.t 39) ( .seq (.reg [.o 2 .mv [.kb false]]) <| .ret) ( .skip)) <| .seq (.seq (.reg [.la 40 6 3,.o 41 (.call 18 []) [.t 40],.o 42 (.un .not) [.t 41]]) <| .cond (.t 42) ( .seq (.reg [.m 43 6,.o 44 (.bin .eql 1) [.t 43,.c (.v (.string ⟨#[]⟩))],.m 45 44,.g 46 (.load true 6) [.t 5] 45 true,.g 47 (.call 37 []) [.t 46] 45 true,.o 48 .pick [.t 45,.t 47,.kb false],.m 49 48,.g 50 (.call 12 []) [] 49 true,.o 51 .pick [.t 49,.t 50,.kb false],.m 2 51]) <| .ret) ( .skip)) <| .seq (.reg [.la 53 6 3,.o 54 (.call 19 []) [.t 53,.c (.v (.string ⟨#[32]⟩))],.m 52 54,.e 55 0 52,.e 56 1 52,.o 9 (.alloc bz) [],.s (.store 6) [.t 9,.t 55],.m 10 56]) <| .seq (.reg [.la 57 6 5,.o 58 (.call 38 []) [.t 57],.m 59 58,.mg 60 6 59 true,.g 61 (.bin .eql 1) [.t 60,.c (.v (.string ⟨#[111,107]⟩))] 59 true,.mg 62 61 59 true,.g 63 (.load true 6) [.t 5] 62 false,.g 64 (.load true 6) [.t 3] 62 false,.g 65 (.call 22 []) [.t 63,.t 64] 62 false,.g 66 .pick [.t 62,.kb true,.t 65] 59 true,.o 67 .pick [.t 59,.t 66,.kb false],.m 68 67,.g 69 (.load true 6) [.t 9] 68 true,.g 70 (.load true 6) [.t 3] 68 true,.g 71 (.call 22 []) [.t 69,.t 70] 68 true,.o 72 .pick [.t 68,.t 71,.kb false],.m 73 72,.mg 74 10 73 true,.g 75 (.bin .eql 1) [.t 74,.c (.v (.string ⟨#[119,104,97,116]⟩))] 73 true,.o 76 .pick [.t 73,.t 75,.kb false],.m 2 76]) <| .ret
theorem Tz:cFn Tryz.prog Mf 77 [.t 2] Mg:= ⟨Tryz.f7,_,Tryz.func7,rfl,by kernel_rfl,by kernel_rfl,by kernel_rfl,by kernel_rfl⟩
@[simp] abbrev N5:Nat:= 15
@[simp] def rc (f:Nat):List Bool:= if f = Lm ∨ f = 61 ∨ f = 34 ∨ f = 65 then [true,false] else if f = Ty ∨ f = N4 ∨ f = N5 ∨ f = Fx ∨ f = 39 ∨ f = BX then [true] else tK f
def jJ (bs:List Int) (p d:Nat) (r:AV) (ups:List AV):Prop:= ∃ (s:List UInt8) (q:Nat),s.length ≤ 20 ∧ q ≤ p + d ∧ r = .v (tx s) ∧ ups = [rdA bs q,.bot]
set_option maxHeartbeats 2000000 in
theorem QX (bs:List Int) (p:Nat) (W T:Int) (cs:List Bool) (ds ls:List Int) (ps:List (List Int)) (hb:bs.length ≤ 2000) (hB:Byt bs) (hp:p < 2 ^ 33) (hc:cs.length ≤ 40) (hd:ds.length ≤ 40) (hl:ls.length ≤ 40) (hps:ps.length ≤ 40):
  SoundSet Tryz.prog Lm [rdA bs p,bkA W T cs ds ls ps] (jJ bs p 20):= by
 refine KW (md:= rc) (ms:= [true,false]) Xm (by simp) ?_
 simp [QW]
 refine AJ (AD bs p 4 hb hB (by omega)) [0] (by simp) (by simp) (by simp) ?_
 rintro _ _ ⟨x,x0,x1,rfl,rfl⟩
 have fin:∀ (s:List UInt8),s.length ≤ 20 → jJ bs p 20 (.v (tx s)) [rdA bs (p + 1 + 1),.bot]:= fun s h => ⟨s,_,h,by omega,rfl,rfl⟩
 by_cases h0:x = 0
 ·simp [h0]
  refine AJ (AD bs (p + 1) 8 hb hB (by omega)) [0] (by simp) (by simp) (by simp) ?_
  rintro _ _ ⟨y,y0,y1,rfl,rfl⟩
  obtain rfl | rfl | rfl | rfl | rfl | rfl | rfl | rfl:y = 0 ∨ y = 1 ∨ y = 2 ∨ y = 3 ∨ y = 4 ∨ y = 5 ∨ y = 6 ∨ y = 7:= by omega
  all_goals
   simp
   first
   | (refine ⟨_,_,fin [115,104,111,119] (by simp),?_⟩; simp; done)
   | (refine ⟨_,_,fin [100,105,103,105,116,115] (by simp),?_⟩; simp; done)
   | (refine ⟨_,_,fin [108,101,102,116] (by simp),?_⟩; simp; done)
   | (refine ⟨_,_,fin [112,97,115,116] (by simp),?_⟩; simp; done)
   | (refine ⟨_,_,fin [115,111,108,118,101,100] (by simp),?_⟩; simp; done)
   | (refine ⟨_,_,fin [100,101,97,100] (by simp),?_⟩; simp; done)
   | (refine ⟨_,_,fin [104,105,110,116] (by simp),?_⟩; simp; done)
   | (refine ⟨_,_,fin [101,110,100] (by simp),?_⟩; simp; done)
 by_cases h1:x = 1
 ·simp [h0,h1]
  refine AJ (AD bs (p + 1) 8 hb hB (by omega)) [0] (by simp) (by simp) (by simp) ?_
  rintro _ _ ⟨y,y0,y1,rfl,rfl⟩
  obtain rfl | rfl | rfl | rfl | rfl | rfl | rfl | rfl:y = 0 ∨ y = 1 ∨ y = 2 ∨ y = 3 ∨ y = 4 ∨ y = 5 ∨ y = 6 ∨ y = 7:= by omega
  all_goals
   simp
   first
   | (refine ⟨_,_,fin [] (by simp),?_⟩; simp; done)
   | (refine ⟨_,_,fin [108,97,121] (by simp),?_⟩; simp; done)
   | (refine ⟨_,_,fin [108,97,121,32,48,49,32,101] (by simp),?_⟩; simp; done)
   | (refine ⟨_,_,fin [108,105,102,116,32,120] (by simp),?_⟩; simp; done)
   | (refine ⟨_,_,fin [32,98,97,99,107] (by simp),?_⟩; simp; done)
   | (refine ⟨_,_,fin [102,111,114,99,101,32,49] (by simp),?_⟩; simp; done)
   | (refine ⟨_,_,fin [102,108,105,112] (by simp),?_⟩; simp; done)
   | (refine ⟨_,_,fin [108,97,121,32,49,32,113] (by simp),?_⟩; simp; done)
 ·simp [h0,h1]
  refine AJ (QM bs (p + 1) W T cs ds ls ps hb hB (by omega) (by omega) (by omega) (by omega)) [0] (by simp) (by simp) (by simp) ?_
  rintro _ _ ⟨k,sp,w,q2,k0,k1,s0,s1,w0,w1,hq2,rfl,rfl⟩
  have dt:= KF (k,sp,w)
  have hlen:= kE (k,sp,w)
  simp only [BG] at dt
  generalize Bu (k,sp,w) = t at *
  simp
  refine AA dt ?_
  simp
  refine ⟨_,_,⟨t,q2,by omega,by omega,rfl,rfl⟩,?_⟩
  simp
def qg (r:AV) (ups:List AV):Prop:= ∃ (W T:Int) (cs:List Bool) (ds ls:List Int) (ps:List (List Int)) (s:List UInt8),cs.length ≤ 37 ∧ ds.length ≤ 38 ∧ ls.length ≤ 38 ∧ ps.length ≤ 21 ∧ (∀ x ∈ ps,x.length ≤ 37) ∧ s.length ≤ 20 ∧
 r = .tup [bkO W T cs ds ls ps,.v (tx s)] ∧ ups = [.bot]
theorem Q6 (bs:List Int) (hb:bs.length ≤ 2 ^ 60) (hB:Byt bs):SoundSet Tryz.prog Fx [.sl 0 1 (u8s bs)] qg:= by
 have hB':= dN hB 2000
 have hb':(bs.take 2000).length ≤ 2000:= by rw [List.length_take]; exact Nat.min_le_left _ _
 refine KW (md:= rc) (ms:= [false]) Q5 (by simp) ?_
 simp [KO]
 refine AA (P6 bs hb) ?_
 generalize bs.take 2000 = bt at *
 simp
 refine AJ (QO bt 0 12 hb' hB' (by omega) (by omega) (by omega)) [1] (by simp) (by simp) (by simp) ?_
 rintro _ _ ⟨W,T,cs,ds,ls,ps,q,h1,h2,h3,h4,h5,hq,rfl,rfl⟩
 have t1:(oss ps).take ps.length = oss ps:= List.take_of_length_le (by simp [oss])
 have ln:= QX bt q W T cs ds ls ps hb' hB' (by omega) (by omega) (by omega) (by omega) (by omega)
 simp
 (repeat' first | omega | apply And.intro) <;>
 ·refine AJ ln [1] (by simp) (by simp) (by simp) ?_
  rintro _ _ ⟨s,q2,hs,hq2,rfl,rfl⟩
  simp
  refine ⟨_,_,⟨W,T,cs,ds,ls,ps,s,h1,h2,h3,h4,h5,hs,rfl,rfl⟩,?_⟩
  simp [t1]
set_option maxHeartbeats 4000000 in
theorem bH (bs:List Int) (hB:Byt bs):SoundAt Tryz.prog Mf [.sl 0 1 (u8s bs)] (.v (.bool true)) [.bot]:= by
 refine AG (md:= rc) (ms:= [false]) Tz (by simp) ?_
 simp [Mg]
 refine fun hsz => ?_
 have hb:bs.length ≤ 2 ^ 60:= by omega
 refine AJ (Q6 bs hb hB) [] (by simp) (by simp) (by simp) ?_
 rintro _ _ ⟨W,T,cs,ds,ls,ps,s,h1,h2,h3,h4,h5,hs,rfl,rfl⟩
 have h5a:∀ x ∈ ps,x.length ≤ 2 ^ 30:= fun x hx => by have:= h5 x hx; omega
 have h5b:∀ x ∈ ps,x.length < 2 ^ 40:= fun x hx => by have:= h5 x hx; omega
 have one:= KM W T cs ds ls ps s (by omega) (by omega) (by omega) (by omega) h5a (by omega)
 have two:= PK W T cs ds ls ps s (by omega) (by omega) (by omega) (by omega) h5a (by omega)
 have thr:= KM W T cs ds ls ps [32] (by omega) (by omega) (by omega) (by omega) h5a (by decide)
 have val:= BK W T cs ds ls ps (by omega) (by omega) (by omega) (by omega) h5b
 unfold W5 at one two thr
 cases hv:Aj W T cs ds ls ps with
 | false =>
   rw [hv] at one two val
   simp only [Bool.false_eq_true,if_false] at one two
   have sm:= Cf 0 0 [] [] [] [] 0 0 [] [] [] [] (by simp) (by simp) (by simp) (by simp) (by simp)
   have nb:= Sl 0 0 [] [] [] [] (by simp) (by simp) (by simp) (by simp) (by simp)
   rw [MZ] at sm nb
   simp
   refine AA one ?_
   simp
   refine AA two ?_
   simp
   refine AA sm ?_
   simp
   refine AA val ?_
   simp
   refine AA nb ?_
   simp
   refine AA Ot ?_
   simp
 | true =>
   rw [hv] at one two thr val
   have e32:BZ W T cs ds ls ps [32] = (ls,ps,[119,104,97,116]):= by
    have:Co [32] = false:= by decide
    simp [BZ,this,mC]
   rw [e32] at thr
   simp only [if_true] at one two thr
   have hok:= Tx s hv
   have hsame:= jC (W:= W) (T:= T) (cs:= cs) (ds:= ds) (ls:= ls) (ps:= ps) s
   obtain ⟨b1,b2,b3,b4,b5,_⟩:= FP hok
   have val2:= Fj W T cs ds (BZ W T cs ds ls ps s).1 (BZ W T cs ds ls ps s).2.1 (by omega) (by omega) (by omega) (by omega) (fun x hx => by have:= b5 x hx; omega)
   rw [hok] at val2
   generalize BZ W T cs ds ls ps s = r at *
   obtain ⟨l2,p2,a⟩:= r
   simp only at one two val2 b3 b4 b5 hsame
   have b5':∀ x ∈ p2,x.length < 2 ^ 40:= fun x hx => by have:= b5 x hx; omega
   have s1:= Cf W T cs ds l2 p2 W T cs ds l2 p2 (by omega) (by omega) (by omega) (by omega) b5'
   have s2:= Cf W T cs ds l2 p2 W T cs ds ls ps (by omega) (by omega) (by omega) (by omega) b5'
   have s3:= Cf W T cs ds ls ps W T cs ds ls ps (by omega) (by omega) (by omega) (by omega) h5b
   rw [MZ] at s1 s3
   simp
   refine AA one ?_
   simp
   refine AA two ?_
   simp
   refine AA s1 ?_
   simp
   refine AA val ?_
   simp
   refine AA thr ?_
   simp
   refine AA val2 ?_
   by_cases ha:a = [111,107]
   ·simp [ha]
    refine AA s3 ?_
    simp
   ·obtain ⟨rfl,rfl⟩:= hsame ha
    rw [MZ] at s2
    simp [ha]
    refine AA s2 ?_
    simp
    refine AA s3 ?_
    simp
end Go.Proofs.Dev
