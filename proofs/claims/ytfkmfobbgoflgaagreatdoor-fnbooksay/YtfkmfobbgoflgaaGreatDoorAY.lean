/- Contracts of the functions of the program over slots and rows, each proved against the program itself; no condition beyond those that each theorem names. -/
import Derived.Test.YtfkmfobbgoflgaaGreatDoorAX
import Derived.Test.YtfkmfobbgoflgaaGreatDoorAW
import Derived.Test.YtfkmfobbgoflgaaGreatDoorProg
import Derived.Test.YtfkmfobbgoflgaaGreatDoorAJ
import Derived.Test.YtfkmfobbgoflgaaGreatDoorAR
import Derived.Shelf.Strings.Builder1
import Derived.Shelf.Strings.Builder2
import Derived.Shelf.Strings.OnBuilder
import Derived.Test.YtfkmfobbgoflgaaGreatDoorAH
set_option linter.unusedSimpArgs false
set_option linter.unusedVariables false
set_option maxRecDepth 100000
namespace Go.Proofs.Dev
open Go.RowKit
theorem Xi (s:List UInt8) (hs:s.length < 2 ^ 30):SoundAt Tryz.prog 114 [.v (tx s)] (.tup [.v (.int .i64 (Vl s)),.bot]) [.bot]:= by
 refine gm (xs:= [tx s]) fun w S forb hg => ?_
 have tup:∀ (w':World) (n:Int) (u:Value),R (YY w' [] forb) (.tup [.v (.int .i64 n),.bot]) [] (.tuple #[.int .i64 n,u]):= by
  intro w' n u
  rw [R]
  refine ⟨[_,_],rfl,?_⟩
  rw [RL]; refine ⟨[],[],_,_,rfl,rfl,by rw [R]; exact ⟨rfl,rfl⟩,?_⟩
  rw [RL]; exact ⟨[],[],_,_,rfl,rfl,by rw [R],by rw [RL]; exact ⟨rfl,rfl⟩⟩
 rcases h:Go.Lib.atoiAll s with v | _ | _
 ·
  have e:Vl s = v:= by simp [Vl,h]
  rw [e]
  refine (Tryz.strconv_Atoi_ok ⟨s.toArray⟩ (by simp; omega) v h w).mono ?_
  rintro e w' ⟨rfl,hw⟩
  refine ⟨_,[],rfl,tup _ _ _,by simp,by simp,?_⟩
  rcases hw with rfl | ⟨t,rfl⟩
  ·exact Kept.refl _ _ _
  ·exact GK _ (Go.Lib.bytesWorld_below _ _ _)
 ·
  have e:Vl s = 0:= by simp [Vl,h]
  rw [e]
  obtain ⟨ev,h1,h2⟩:= hg.cell (g:= 2) (p:= mF) (by simp [gps])
  refine (Any.strconv_Atoi_syntax Tryz.laysC172 ⟨s.toArray⟩ (by simp; omega) h ev w h1 h2).mono ?_
  rintro e w' ⟨N,rfl,_,_,hb⟩
  exact ⟨_,[],rfl,tup _ _ _,by simp,by simp,GK _ hb⟩
 ·
  have e:Vl s = Go.Lib.atoiSat s:= by simp [Vl,h]
  rw [e]
  obtain ⟨ev,h1,h2⟩:= hg.cell (g:= 3) (p:= mF) (by simp [gps])
  refine (Tryz.strconv_Atoi_range ⟨s.toArray⟩ (by simp; omega) h ev w h1 h2).mono ?_
  rintro e w' ⟨N,rfl,_,_,hb⟩
  exact ⟨_,[],rfl,tup _ _ _,by simp,by simp,GK _ hb⟩
def jW (x:List UInt8):List (List UInt8) → Nat → Int
 | [],_ => -1
 | p::ps,i => if x = p then i else jW x ps (i + 1)
theorem i6 {ls:List (List UInt8)} {x:List UInt8} {k:Nat} (h:k < ls.length):jW x (ls.drop k) k = if x = ls[k] then (k:Int) else jW x (ls.drop (k + 1)) (k + 1):= by
 rw [List.drop_eq_getElem_cons h,jW]
theorem l9 {ls:List (List UInt8)} {k:Nat} (h:k < ls.length):att ls (k:Int) = ls[k]:= by simp [att,h]
theorem Wu (ls:List (List UInt8)) (x:List UInt8) (hl:ls.length < 2 ^ 30):SoundAt Tryz.prog ER [.sl 1 1 (txs ls),.v (tx x)] (.v (.int .i64 (jW x ls 0))) [.bot,.bot]:= by
 refine AG (md:= mdT) (ms:= [false,false]) JI (by simp) ?_
 simp [ET]
 refine AF (fun m E H => ∃ k:Nat,m = ls.length - k ∧ k ≤ ls.length ∧ jW x (ls.drop k) k = jW x ls 0 ∧ H = [] ∧ E = [(0,.sl 1 1 (txs ls)),(1,.v (tx x)),(7,.v (.int .i64 ls.length)),(8,.v (.int .i64 (k:Int)))]) ls.length ⟨0,by simp⟩ ?_
 rintro J hJ m E H ⟨k,rfl,hk,hd,rfl,rfl⟩
 by_cases h:k < ls.length
 ·rw [i6 h] at hd
  by_cases hx:x = ls[k]
  ·rw [if_pos hx] at hd
   rw [← hd]
   simp [BC,h,l9 h,← hx]
  ·rw [if_neg hx] at hd
   have nx:= hJ (ls.length - (k + 1)) [(0,.sl 1 1 (txs ls)),(1,.v (tx x)),(7,.v (.int .i64 ls.length)),(8,.v (.int .i64 ((k:Int) + 1)))] [] ⟨k + 1,rfl,by omega,hd,rfl,by simp⟩
   simp [BC,h,l9 h,hx]
   exact ⟨⟨by omega,by omega⟩,_,by omega,nx⟩
 ·have hk':k = ls.length:= by omega
  subst hk'
  rw [List.drop_length] at hd
  rw [← hd]
  simp [BC,jW]
def E9:ACode:= .seq (.seq (.reg [.la 38 3 5,.o 39 (.call 20 []) [.t 38],.m 40 0,.o 41 (.bin .neq 1) [.t 39,.t 40]]) <| .cond (.t 41) ( .seq (.reg [.o 42 (.build dz []) [],.s (.store 3) [.t 2,.t 42],.o 3 .mv [.kb false]]) <| .ret) ( .skip)) <| .seq (.reg [.la 43 3 5,.s (.store 3) [.t 2,.t 43],.o 3 .mv [.kb true]]) <| .ret
def FA:ACode:= .seq (.seq (.reg [.m 29 4,.n 30 29,.o 31 (.bin .gtr 0) [.t 30,.k 2]]) <| .cond (.t 31) ( .reg [.m 32 4,.o 33 (.iadr 1) [.t 32,.k 2],.l 34 33,.o 35 (.call 115 []) [.c (.v (.string ⟨#[35,101,110,119,115]⟩)),.t 34],.o 36 (.mnx false) [.k 0,.t 35],.f 37 2 5,.s (.store 1) [.t 37,.t 36]]) ( .skip)) <| E9
def FB:ACode:= .seq (.seq (.reg [.f 14 0 5,.l 15 14,.o 16 (.bin .lss 0) [.t 15,.k 0]]) <| .cond (.t 16) ( .seq (.reg [.o 17 (.build dz []) [],.s (.store 3) [.t 2,.t 17],.o 3 .mv [.kb false]]) <| .ret) ( .skip)) <| .seq (.seq (.reg [.m 18 4,.n 19 18,.o 20 (.bin .gtr 0) [.t 19,.k 1]]) <| .cond (.t 20) ( .reg [.m 22 4,.o 23 (.iadr 1) [.t 22,.k 1],.l 24 23,.o 25 (.call 114 []) [.t 24],.m 21 25,.e 26 0 21,.e 27 1 21,.f 28 1 5,.s (.store 1) [.t 28,.t 26]]) ( .skip)) <| FA
theorem tI:Gt = FB:= rfl
abbrev mA:List (List UInt8):= [[108,97,121],[108,105,102,116],[102,108,105,112],[102,111,114,99,101],[98,97,99,107]]
abbrev kg:List UInt8:= [35,101,110,119,115]
theorem kh (x:List UInt8):jW x mA 0 = Lt x:= by
 simp only [jW,Lt,DD]
 simp
def ce (s:List UInt8):Int × Int × Int:= let ps:= D2 32 s; (Lt (nth ps 0),if 1 < ps.length then Vl (nth ps 1) else 0,if 2 < ps.length then max 0 (Go.Lib.index kg (nth ps 2)) else 0)
theorem n9:∀ k:_root_.Fin 5,∀ s:_root_.Fin 100,∀ w:_root_.Fin 5,(if Dw ((k.val:Int),(s.val:Int),(w.val:Int)) then decide (ce (Bu ((k.val:Int),(s.val:Int),(w.val:Int))) = ((k.val:Int),(s.val:Int),(w.val:Int))) else true) = true:= by decide +kernel
theorem ki {d:Int × Int × Int} (h:Dw d = true):ce (Bu d) = d:= by
 obtain ⟨k,s,w⟩:= d
 obtain ⟨k',s',w',rfl,rfl,rfl⟩:= RW h
 have:= n9 k' s' w'
 rw [if_pos h] at this
 simpa using this
theorem d9 (s:List UInt8):(decide (Bu (ce s) = s) && decide (s ≠ [])) = Co s ∧ (Co s = true → ce s = Ci s):= j9 fun e he hs => by rw [hs]; exact ki he
theorem oA {s:List UInt8} (h:Lt (nth (D2 32 s) 0) < 0):Co s = false:= by
 cases hr:Co s with
 | false => rfl
 | true =>
   obtain ⟨h1,h2⟩:= Vk hr
   have h3:= (d9 s).2 hr
   have h4:(ce s).1 = Lt (nth (D2 32 s) 0):= rfl
   rw [h3] at h4
   obtain ⟨k',s',w',e1,e2,e3⟩:= RW (k:= (Ci s).1) (s:= (Ci s).2.1) (w:= (Ci s).2.2) h2
   omega
theorem kj {s:List UInt8} (h:¬ Lt (nth (D2 32 s) 0) < 0):s ≠ []:= by
 rintro rfl
 exact h (by decide)
set_option maxHeartbeats 8000000 in
theorem BI (s:List UInt8) (hs:s.length < 2 ^ 30):SoundAt Tryz.prog PD [.v (tx s)] (Fg (Ci s) (Co s)) [.bot]:= by
 have cu:= Wq s 32 hs
 have hlen:= cd 32 s
 obtain ⟨p,qs,hps⟩:= OE 32 s
 have h0:0 < (D2 32 s).length:= by rw [hps]; simp
 have dt:= PC (ce s)
 have dx:ce s = (Lt (nth (D2 32 s) 0),if 1 < (D2 32 s).length then Vl (nth (D2 32 s) 1) else 0,if 2 < (D2 32 s).length then max 0 (Go.Lib.index kg (nth (D2 32 s) 2)) else 0):= rfl
 have at1:= Xi (nth (D2 32 s) 1) (by have:= dV 32 s 1; omega)
 have ix2:= Wp kg (nth (D2 32 s) 2) (by simp)
 have id0:= Wu mA (nth (D2 32 s) 0) (by simp)
 rw [kh] at id0
 obtain ⟨r1,r2⟩:= d9 s
 have kn:= @oA s
 have kn0:= @kj s
 have rdd:Ci s = if Co s then Vh s else (0,0,0):= rfl
 refine AG (md:= mdT) (ms:= [false]) Ws (by simp) ?_
 have T0:∀ E:ES,get E 0 = .v (tx s) → get E 2 = .lp 0 0 0 0 → get E 4 = .ls 1 1 0 (D2 32 s).length → get E 5 = .lp 0 2 0 0 →
   awp Tryz.prog mdT Gt (Fin [RV.c 2 true 3,RV.t 3] 44 1 [false] (Fg (Ci s) (Co s)) [AV.bot]) E (rdH (D2 32 s) (Lt (nth (D2 32 s) 0)) 0 0):= by
  intro E e0 e2 e4 e5
  rw [tI]
  generalize D2 32 s = ps at *
  clear id0 cu
  by_cases hk:Lt (nth ps 0) < 0
  ·have rb':= kn hk
   rw [rdd,rb']
   simp [FB,e0,e2,e4,e5,hk,Fg,BG]
  have hne:= kn0 hk
  rw [decide_eq_true hne,Bool.and_true] at r1
  have fin:∀ (E:ES) (b c:Int),(b = if 1 < ps.length then Vl (nth ps 1) else 0) → (c = if 2 < ps.length then max 0 (Go.Lib.index kg (nth ps 2)) else 0) → get E 0 = .v (tx s) → get E 2 = .lp 0 0 0 0 → get E 5 = .lp 0 2 0 0 →
    awp Tryz.prog mdT E9 (Fin [RV.c 2 true 3,RV.t 3] 44 1 [false] (Fg (Ci s) (Co s)) [AV.bot]) E (rdH ps (Lt (nth ps 0)) b c):= by
   intro E b c hb hc e0 e2 e5
   rw [← hb,← hc] at dx
   generalize Lt (nth ps 0) = a at *
   rw [dx] at dt r1 r2
   simp only [BG] at dt
   generalize Bu (a,b,c) = t at *
   by_cases ht:t = s
   ·have rb':Co s = true:= by rw [← r1]; simp [ht]
    rw [← r2 rb',rb']
    simp [E9,e0,e2,e5]
    refine AA dt ?_
    simp [ht,e0,e2,e5,Fg,BG]
   ·have rb':Co s = false:= by rw [← r1]; simp [ht]
    rw [rdd,rb']
    simp [E9,e0,e2,e5]
    refine AA dt ?_
    simp [ht,e0,e2,e5,Fg,BG]
  have mid:∀ (E:ES) (b:Int),(b = if 1 < ps.length then Vl (nth ps 1) else 0) → get E 0 = .v (tx s) → get E 2 = .lp 0 0 0 0 → get E 4 = .ls 1 1 0 ps.length → get E 5 = .lp 0 2 0 0 →
    awp Tryz.prog mdT FA (Fin [RV.c 2 true 3,RV.t 3] 44 1 [false] (Fg (Ci s) (Co s)) [AV.bot]) E (rdH ps (Lt (nth ps 0)) b 0):= by
   intro E b hb e0 e2 e4 e5
   by_cases h2:2 < ps.length
   ·have h2':(2:Int) < (ps.length:Int):= by omega
    have hg2:ps[2] = nth ps 2:= by simp [nth,h2]
    rw [if_pos h2] at fin
    simp [FA,e0,e2,e4,e5,h2,h2',hg2]
    refine AA ix2 ?_
    simp [e0,e2,e4,e5]
    refine fin _ _ _ hb ?_ ?_ ?_ ?_
    ·split <;> omega
    all_goals simp [get,e0,e2,e5]
   ·have h2':¬ (2:Int) < (ps.length:Int):= by omega
    rw [if_neg h2] at fin
    simp [FA,e0,e2,e4,e5,h2,h2']
    refine fin _ _ _ hb rfl ?_ ?_ ?_ <;> simp [get,e0,e2,e5]
  by_cases h1:1 < ps.length
  ·have h1':(1:Int) < (ps.length:Int):= by omega
   have hg1:ps[1] = nth ps 1:= by simp [nth,h1]
   rw [if_pos h1] at mid
   simp [FB,e0,e2,e4,e5,hk,h1,h1',hg1]
   refine AA at1 ?_
   simp [e0,e2,e4,e5]
   refine mid _ _ rfl ?_ ?_ ?_ ?_ <;> simp [get,e0,e2,e4,e5]
  ·have h1':¬ (1:Int) < (ps.length:Int):= by omega
   rw [if_neg h1] at mid
   simp [FB,e0,e2,e4,e5,hk,h1,h1']
   refine mid _ _ rfl ?_ ?_ ?_ ?_ <;> simp [get,e0,e2,e4,e5]
 simp [PE]
 refine AA cu ?_
 generalize D2 32 s = ps at *
 have hg0:ps[0] = nth ps 0:= by simp [nth,h0]
 simp [h0,hg0]
 (repeat' first | omega | apply And.intro) <;>
 ·refine AA id0 ?_
  simp [txs]
  exact T0 _ rfl rfl rfl rfl
@[simp] abbrev Ma:Nat:= 77
def CI:ACode:= .seq (.seq (.reg [.m 21 7,.f 22 0 2,.l 23 22,.o 24 (.bin .lss 0) [.t 21,.t 23]]) <| .cond (.t 24) ( .skip) ( .exit 2)) <| .seq (.block 3 ( .seq (.reg [.m 27 6,.f 28 0 2,.l 29 28,.o 30 (.bin .mul 0) [.t 27,.t 29],.m 31 7,.o 32 (.bin .add 0) [.t 30,.t 31],.m 8 32]) <| .seq (.reg [.f 33 2 2,.l 34 33,.m 35 8,.o 36 (.iadr 1) [.t 34,.t 35],.l 37 36]) <| .cond (.t 37) ( .reg [.m 38 5,.m 39 1,.m 40 8,.o 41 (.iadr 1) [.t 39,.t 40],.l 42 41,.o 43 (.call 78 []) [.t 42],.o 44 (.bin .add 1) [.t 38,.t 43],.m 5 44]) ( .reg [.m 45 5,.o 46 (.bin .add 1) [.t 45,.c (.v (.string ⟨#[46]⟩))],.m 5 46]))) <| .reg [.m 25 7,.o 26 (.bin .add 0) [.t 25,.k 1],.m 7 26]
def CJ:ACode:= .seq (.seq (.reg [.m 12 6,.o 13 (.bin .geq 0) [.t 12,.k 0],.m 14 13,.g 15 (.load true 3) [.t 2] 14 true,.mg 16 1 14 true,.g 17 (.call 121 []) [.t 15,.t 16] 14 true,.o 18 .pick [.t 14,.t 17,.kb false]]) <| .cond (.t 18) ( .skip) ( .exit 0)) <| .seq (.block 1 ( .seq (.seq (.reg [.o 7 .mv [.k 0]]) <| .block 2 ( .loop [(1,1)] [1,2,5,6,7] CI)) <| .seq (.reg [.m 47 6,.o 48 (.bin .gtr 0) [.t 47,.k 0]]) <| .cond (.t 48) ( .reg [.m 49 5,.o 50 (.bin .add 1) [.t 49,.c (.v (.string ⟨#[47]⟩))],.m 5 50]) ( .skip))) <| .reg [.m 19 6,.o 20 (.bin .sub 0) [.t 19,.k 1],.m 6 20]
def Mb:ACode:= .seq (.reg [.o 2 .box [.t 0],.o 4 .mv [.c (.v (.string ⟨#[]⟩))]]) <| .seq (.reg [.o 5 .mv [.c (.v (.string ⟨#[]⟩))]]) <| .seq (.seq (.reg [.f 9 1 2,.l 10 9,.o 11 (.bin .sub 0) [.t 10,.k 1],.m 6 11]) <| .block 0 ( .loop [(1,1)] [1,2,5,6] CJ)) <| .seq (.reg [.m 51 5,.m 4 51]) <| .ret
theorem Ts:cFn Tryz.prog Ma 52 [.t 4] Mb:= ⟨Tryz.f77,_,Tryz.func77,rfl,by kernel_rfl,by kernel_rfl,by kernel_rfl,by kernel_rfl⟩
@[simp] abbrev Mc:Nat:= 129
def Hm:ACode:= .seq (.reg [.o 2 .box [.t 0],.o 3 .box [.t 1],.o 4 .mv [.c (.v (.string ⟨#[]⟩))]]) <| .seq (.seq (.reg [.la 5 3 2,.l 6 3,.o 7 (.call 102 []) [.t 5,.t 6],.o 8 (.un .not) [.t 7]]) <| .cond (.t 8) ( .seq (.reg [.o 4 .mv [.c (.v (.string ⟨#[]⟩))]]) <| .ret) ( .skip)) <| .seq (.reg [.la 9 3 2,.o 10 (.mkfn 182) [.t 3],.o 11 (.call 180 []) [.t 9,.t 10],.m 4 11]) <| .ret
theorem Tt:cFn Tryz.prog Mc 12 [.t 4] Hm:= ⟨Tryz.f129,_,Tryz.func129,rfl,by kernel_rfl,by kernel_rfl,by kernel_rfl,by kernel_rfl⟩
@[simp] abbrev Q3:Nat:= 182
def Fw:ACode:= .seq (.reg [.o 3 .mv [.c (.v (.int .u8 (0)))]]) <| .seq (.seq (.reg [.l 4 1,.m 5 0,.o 6 (.iadr 1) [.t 4,.t 5],.l 7 6,.o 8 (.bin .lss 0) [.t 7,.k 0]]) <| .cond (.t 8) ( .seq (.reg [.o 3 .mv [.c (.v (.int .u8 (46)))]]) <| .ret) ( .skip)) <| .seq (.reg [.l 9 1,.m 10 0,.o 11 (.iadr 1) [.t 9,.t 10],.l 12 11,.o 13 (.conv .u8) [.t 12],.o 14 (.bin .add 0) [.c (.v (.int .u8 (48))),.t 13],.m 3 14]) <| .ret
theorem Q4:cFn Tryz.prog Q3 15 [.t 3] Fw:= ⟨Tryz.f182,_,Tryz.func182,rfl,by kernel_rfl,by kernel_rfl,by kernel_rfl,by kernel_rfl⟩
@[simp] abbrev D8:Nat:= 180
def Ah:ACode:= .seq (.reg [.o 22 (.bin .lss 0) [.t 21,.t 20]]) <| .seq (.cond (.t 22) ( .skip) ( .exit 2)) <| .seq (.block 3 ( .seq (.reg [.m 23 21,.m 8 23]) <| .reg [.m 24 7,.m 25 8,.m 26 1,.m 27 6,.f 28 0 2,.l 29 28,.o 30 (.bin .mul 0) [.t 27,.t 29],.m 31 8,.o 32 (.bin .add 0) [.t 30,.t 31],.o 33 (.callv []) [.t 26,.t 32],.o 34 (.iadr 1) [.t 24,.t 25],.s (.store 1) [.t 34,.t 33]])) <| .reg [.o 35 (.bin .add 0) [.t 21,.k 1],.m 21 35]
def BJ:ACode:= .seq (.seq (.reg [.m 12 6,.o 13 (.bin .geq 0) [.t 12,.k 0]]) <| .cond (.t 13) ( .skip) ( .exit 0)) <| .seq (.block 1 ( .seq (.reg [.f 16 0 2,.l 17 16,.o 18 (.mksl 1 1 (.v (.int .u8 (0)))) [.t 17,.t 17],.m 7 18]) <| .seq (.seq (.reg [.m 19 7,.n 20 19,.o 21 .mv [.k 0]]) <| .block 2 ( .loop [(5,1),(7,1)] [1,2,5,6,7,20,21] Ah)) <| .reg [.m 36 5,.m 37 7,.o 38 .str [.t 37],.o 39 (.bsl 1) [.t 38],.o 40 (.app 1 16 true) [.t 36,.t 39],.m 5 40])) <| .reg [.m 14 6,.o 15 (.bin .sub 0) [.t 14,.k 1],.m 6 15]
def D9:ACode:= .seq (.reg [.o 2 .box [.t 0],.o 4 .mv [.c (.v (.string ⟨#[]⟩))]]) <| .seq (.reg [.o 5 .mv [.c (.os 1 [])]]) <| .seq (.seq (.reg [.f 9 1 2,.l 10 9,.o 11 (.bin .sub 0) [.t 10,.k 1],.m 6 11]) <| .block 0 ( .loop [(5,1)] [1,2,5,6] BJ)) <| .seq (.reg [.m 41 5,.o 42 (.call 226 []) [.t 41,.c (.v (.string ⟨#[47]⟩))],.m 4 42]) <| .ret
theorem HL:cFn Tryz.prog D8 43 [.t 4] D9:= ⟨Tryz.f180,_,Tryz.func180,rfl,by kernel_rfl,by kernel_rfl,by kernel_rfl,by kernel_rfl⟩
theorem i7 {W x:Nat} (cs:List Bool) (ds:List Int) (y:Nat) (h:x < W):(OG W cs ds y).take (x + 1) = (OG W cs ds y).take x ++ [sgC cs ds (y * W + x)]:= by
 rw [List.take_succ_eq_append_getElem (by simp [h])]
 simp [OG]
theorem km (W:Nat) (cs:List Bool) (ds:List Int) {n:Nat} (h:0 < n):HU W cs ds n ≠ []:= by
 intro e
 have:= congrArg List.length e
 simp at this
 omega
theorem YL (W:Nat) (cs:List Bool) (ds:List Int) {n:Nat} (h:0 < n):FG 47 (HU W cs ds (n + 1)) = OG W cs ds n ++ 47::FG 47 (HU W cs ds n):= by
 rw [HU,TE 47 _ (km W cs ds h)]
theorem Wv (W:Nat) (cs:List Bool) (ds:List Int):FG 47 (HU W cs ds 1) = OG W cs ds 0:= rfl
theorem ZX {W:Nat} (cs:List Bool) (ds:List Int):∀ n:Nat,(FG 47 (HU W cs ds n)).length ≤ n * (W + 1)
 | 0 => by simp [HU,FG]
 | 1 => by rw [Wv]; simp
 | n + 2 => by
   rw [YL W cs ds (by omega)]
   have:= ZX cs ds (n + 1) (W:= W)
   have e:(n + 2) * (W + 1) = (n + 1) * (W + 1) + (W + 1):= by rw [show n + 2 = n + 1 + 1 by omega,Nat.succ_mul]
   simp
   omega
abbrev ptE (o:List UInt8) (ds:List Int) (y:Int):ES:= [(1,.sl 1 1 (AB ds)),(2,.lp 0 0 0 0),(5,.v (tx o)),(6,.v (.int .i64 y))]
abbrev sd (o:List UInt8) (ds:List Int) (y x:Int):ES:= [(1,.sl 1 1 (AB ds)),(2,.lp 0 0 0 0),(5,.v (tx o)),(6,.v (.int .i64 y)),(7,.v (.int .i64 x))]
set_option maxHeartbeats 2000000 in
theorem se (W T:Nat) (cs:List Bool) (ds:List Int) (o:List UInt8) (y:Nat) (hW:W ≤ 6) (hT:T ≤ 6) (hy:y < T) (hl:cs.length = T * W) (hd:B4 cs ds = true) (ho:o.length ≤ 100) (Qc:AExit → ES → AN → Prop)
  (hend:∀ E,get E 1 = .sl 1 1 (AB ds) → get E 2 = .lp 0 0 0 0 → get E 5 = .v (tx (o ++ OG W cs ds y)) → get E 6 = .v (.int .i64 y) → Qc (.exit 2) E [some (.box [.v (.int .i64 W),.v (.int .i64 T),.sl 1 1 (AC cs)])]):
  CM [(1,1)] [1,2,5,6,7] (awp Tryz.prog mdT CI) Qc (sd o ds y 0) [some (.box [.v (.int .i64 W),.v (.int .i64 T),.sl 1 1 (AC cs)])]:= by
 refine AF (fun m E H => ∃ x:Nat,m = W - x ∧ x ≤ W ∧ E = sd (o ++ (OG W cs ds y).take x) ds y x ∧ H = [some (.box [.v (.int .i64 W),.v (.int .i64 T),.sl 1 1 (AC cs)])]) W ⟨0,by simp⟩ ?_
 rintro J hJ m E H ⟨x,rfl,hx,rfl,rfl⟩
 by_cases h:x < W
 ·have h':(x:Int) < (W:Int):= by omega
  have hc:= Yo (T:= T) hy h
  have hdd:ds.length = cs.length:= by simp only [B4,Bool.and_eq_true,decide_eq_true_eq] at hd; exact hd.1
  have hp:T * W ≤ 6 * 6:= Nat.mul_le_mul hT hW
  have e1:(y:Int) * (W:Int) = ((y * W:Nat):Int):= by simp
  have hk1:(y * W + x:Int) < (cs.length:Int):= by rw [e1]; omega
  have hk2:(y * W + x:Int) < (ds.length:Int):= by rw [e1]; omega
  have hk0:(0:Int) ≤ (y:Int) * (W:Int):= by rw [e1]; omega
  have hk3:(y:Int) * (W:Int) ≤ 36:= by rw [e1]; omega
  have e2:((y:Int) * (W:Int) + (x:Int)) = ((y * W + x:Nat):Int):= by rw [Int.natCast_add,e1]
  have tk:= i7 cs ds y h
  have hlt:((OG W cs ds y).take x).length = x:= by simp; omega
  have nx:= hJ (W - (x + 1)) (sd (o ++ (OG W cs ds y).take (x + 1)) ds y ((x:Int) + 1)) _ ⟨x + 1,rfl,h,by simp,rfl⟩
  rw [tk,← List.append_assoc] at nx
  generalize hr:o ++ (OG W cs ds y).take x = r at *
  have hrl:r.length ≤ 106:= by rw [← hr]; simp; omega
  have hdg:Ls cs ds ((y:Int) * (W:Int) + (x:Int)) = true:= by
   simp only [B4,Bool.and_eq_true,decide_eq_true_eq,CN] at hd
   rw [e2]
   exact hd.2 (y * W + x) (by omega)
  have es:sgC cs ds (y * W + x) = if atb cs ((y:Int) * (W:Int) + (x:Int)) then b8 (48 + ati ds ((y:Int) * (W:Int) + (x:Int))) else 46:= by rw [e2]; rfl
  rw [es] at nx
  unfold Ls at hdg
  cases hb:atb cs ((y:Int) * (W:Int) + (x:Int)) with
  | true =>
    rw [hb] at nx hdg
    simp at hdg nx
    have ln:= Gs (ati ds ((y:Int) * (W:Int) + (x:Int))) (by omega) (by omega)
    rw [cb (by omega)] at ln
    simp [CI,h',hb,hk1,hk2]
    (repeat' first | omega | apply And.intro) <;>
    ·refine AA ln ?_
     simp
     (repeat' first | omega | apply And.intro) <;> exact ⟨_,by omega,nx⟩
  | false =>
    rw [hb] at nx
    simp at nx
    simp [CI,h',hb,hk1,hk2]
    (repeat' first | omega | apply And.intro) <;> exact ⟨_,by omega,nx⟩
 ·have:x = W:= by omega
  subst this
  simp [CI]
  exact hend _ rfl rfl (by rw [List.take_of_length_le (by simp)]; rfl) rfl
set_option maxHeartbeats 2000000 in
theorem Tu (W T:Nat) (cs:List Bool) (ds:List Int) (hb:cs.length < 2 ^ 40) (hd:ds.length < 2 ^ 40) (hT:T < 2 ^ 40):
  SoundAt Tryz.prog Ma [.agg [.v (.int .i64 W),.v (.int .i64 T),.sl 1 1 (AC cs)],.sl 1 1 (AB ds)] (.v (tx (TF W T cs ds))) [.bot,.bot]:= by
 have pv:= Cu W T cs ds hb hd
 refine AG (md:= mdT) (ms:= [false,false]) Ts (by simp) ?_
 simp [Mb]
 refine ⟨by omega,?_⟩
 by_cases hv:(Am W T cs && B4 cs ds) = true
 ·rw [hv] at pv
  rw [TF,if_pos hv]
  simp only [Int.toNat_natCast]
  simp only [Bool.and_eq_true] at hv
  obtain ⟨hr,hg⟩:= hv
  simp only [Am,decide_eq_true_eq] at hr
  obtain ⟨w1,w2,t1,t2,hl,_⟩:= hr
  have hl':cs.length = T * W:= by
   have:(cs.length:Int) = ((T * W:Nat):Int):= by rw [hl,Int.natCast_mul,Int.mul_comm]
   exact Int.ofNat.inj this
  have tot:= ZX cs ds T (W:= W)
  have hp:T * (W + 1) ≤ 6 * 7:= Nat.mul_le_mul (by omega) (by omega)
  refine AF (fun m E H => ∃ (n:Nat) (o:List UInt8),n = m ∧ n ≤ T ∧ o ++ FG 47 (HU W cs ds n) = FG 47 (HU W cs ds T) ∧ E = ptE o ds ((n:Int) - 1) ∧ H = [some (.box [.v (.int .i64 W),.v (.int .i64 T),.sl 1 1 (AC cs)])]) T ⟨T,[],by simp⟩ ?_
  rintro J hJ m E H ⟨n,o,rfl,hn,ho,rfl,rfl⟩
  cases n with
  | zero =>
    have ho':o = FG 47 (HU W cs ds T):= by simpa [HU,FG] using ho
    subst ho'
    simp [CJ]
  | succ n =>
    have lo:o.length ≤ 42:= by have:= congrArg List.length ho; rw [List.length_append] at this; omega
    have e1:((n + 1:Nat):Int) - 1 = (n:Int):= by omega
    rw [e1]
    have body:= fun Qc hend => se W T cs ds o n (by omega) (by omega) (by omega) hl' hg (by omega) Qc hend
    simp [CJ]
    refine AA pv ?_
    simp
    refine body _ ?_
    intro E g1 g2 g5 g6
    have lr:(o ++ OG W cs ds n).length ≤ 48:= by simp; omega
    cases n with
    | zero =>
      have nx:= hJ 0 (ptE (o ++ OG W cs ds 0) ds (-1)) _ ⟨0,_,rfl,by omega,by rw [← ho,Wv]; simp [HU,FG],rfl,rfl⟩
      simp [g1,g2,g5,g6]
      exact ⟨_,by omega,nx⟩
    | succ n =>
      have nx:= hJ (n + 1) (ptE (o ++ OG W cs ds (n + 1) ++ [47]) ds (n:Int)) _ ⟨n + 1,o ++ OG W cs ds (n + 1) ++ [47],rfl,by omega,by rw [← ho,YL W cs ds (by omega:0 < n + 1)]; simp,by rw [show ((n + 1:Nat):Int) - 1 = (n:Int) by omega],rfl⟩
      have hpos:(0:Int) < (n:Int) + 1:= by omega
      generalize o ++ OG W cs ds (n + 1) = r at *
      simp [g1,g2,g5,g6,hpos]
      exact ⟨by omega,by omega,_,by omega,nx⟩
 ·have hv':(Am W T cs && B4 cs ds) = false:= by simpa using hv
  rw [TF,if_neg hv]
  rw [hv'] at pv
  refine AF (fun m E H => m = 0 ∧ E = ptE [] ds ((T:Int) - 1) ∧ H = [some (.box [.v (.int .i64 W),.v (.int .i64 T),.sl 1 1 (AC cs)])]) 0 ⟨rfl,rfl,rfl⟩ ?_
  rintro J hJ m E H ⟨rfl,rfl,rfl⟩
  by_cases h0:1 ≤ T
  ·have h0':(1:Int) ≤ (T:Int):= by omega
   simp [CJ,h0',h0]
   refine AA pv ?_
   simp
  ·have h0':¬ (1:Int) ≤ (T:Int):= by omega
   have:T = 0:= by omega
   subst this
   simp [CJ]
def d1 (c:UInt8):Int:= fW [c]
def full {α:Type} (d:α) (f:UInt8 → α) (W n:Nat) (rest:List UInt8):List α:= List.replicate (n * W) d ++ rest.map f
def part {α:Type} (d:α) (f:UInt8 → α) (W n x:Nat) (row rest:List UInt8):List α:= List.replicate (n * W) d ++ ((row.take x).map f ++ (List.replicate (W - x) d ++ rest.map f))
theorem bF {α:Type} (d:α) (f:UInt8 → α) (W n:Nat) (row rest:List UInt8):part d f W n 0 row rest = full d f W (n + 1) rest:= by
 unfold part full
 rw [Nat.succ_mul,← List.replicate_append_replicate,List.append_assoc]
 rfl
theorem eC {α:Type} (d:α) (f:UInt8 → α) (W n:Nat) (row rest:List UInt8) (h:row.length = W):part d f W n W row rest = full d f W n (row ++ rest):= by
 unfold part full
 rw [List.take_of_length_le (by omega)]
 simp
theorem Ww {α:Type} (d:α) (f:UInt8 → α) (W n x:Nat) (row rest:List UInt8) (h:row.length = W) (hx:x ≤ W):(part d f W n x row rest).length = n * W + W + rest.length:= by
 unfold part
 simp
 omega
theorem eD {α:Type} (d:α) (f:UInt8 → α) (W n x:Nat) (row rest:List UInt8) (h:row.length = W) (hx:x < row.length):(part d f W n x row rest).set (n * W + x) (f row[x]) = part d f W n (x + 1) row rest:= by
 unfold part
 rw [List.set_append_right _ _ (by simp),List.length_replicate,show n * W + x - n * W = x by omega,List.set_append_right _ _ (by simp; omega)]
 have e:x - ((row.take x).map f).length = 0:= by simp; omega
 rw [e,show W - x = (W - (x + 1)) + 1 by omega,List.replicate_succ,List.take_succ_eq_append_getElem hx,List.map_append,List.append_assoc]
 rfl
def toI (c:UInt8):Int:= (c.toNat:Int)
theorem i8 (xs:List Int) (i:Nat) (x:Int):(u8s xs).set i (.v (.int .u8 x)) = u8s (xs.set i x):= by simp [u8s,List.map_set]
theorem jA (n:Nat) (x:Int):List.replicate n (.v (.int .u8 x)) = u8s (List.replicate n x):= by simp [u8s]
end Go.Proofs.Dev
namespace Go.Proofs
open Go.Shelf
def Tryz.lays156_ren:Go.Shelf.Ren:= ⟨fun | 156 => 226 | 165 => 257 | 166 => 46 | 169 => 47 | 240 => 104 | 241 => 278 | 276 => 158 | 277 => 287 | n => n,fun | 31 => 58 | 9 => 9 | 3 => 3 | 4 => 4 | 0 => 0 | 20 => 20 | 72 => 74 | 76 => 77 | 70 => 72 | 37 => 22 | 75 => 76 | 127 => 123 | 164 => 152 | 5 => 5 | 80 => 79 | n => n,fun | n => n⟩
theorem Tryz.lays156:Go.Proofs.Lays.n156 Tryz.prog Tryz.lays156_ren:= {
 mixed:= by kernel_rfl
 f156:= Tryz.func226.trans (congrArg some (by kernel_rfl))
 f165:= Tryz.func257.trans (congrArg some (by kernel_rfl))
 f166:= Tryz.func46.trans (congrArg some (by kernel_rfl))
 f169:= Tryz.func47.trans (congrArg some (by kernel_rfl))
 f240:= Tryz.func104.trans (congrArg some (by kernel_rfl))
 f241:= Tryz.func278.trans (congrArg some (by kernel_rfl))
 f276:= Tryz.func158.trans (congrArg some (by kernel_rfl))
 f277:= Tryz.func287.trans (congrArg some (by kernel_rfl))
 t0:= Tryz.underlying0
 a0:= Tryz.isAgg0
 z0:= Tryz.sizeOf0
 v0:= Tryz.zeroValue0
 t3:= Tryz.underlying3
 a3:= Tryz.isAgg3
 z3:= Tryz.sizeOf3
 v3:= Tryz.zeroValue3
 t4:= Tryz.underlying4
 a4:= Tryz.isAgg4
 z4:= Tryz.sizeOf4
 v4:= Tryz.zeroValue4
 t9:= Tryz.underlying9
 a9:= Tryz.isAgg9
 z9:= Tryz.sizeOf9
 v9:= Tryz.zeroValue9
 t20:= Tryz.underlying20
 a20:= Tryz.isAgg20
 z20:= Tryz.sizeOf20
 v20:= Tryz.zeroValue20
 t31:= Tryz.underlying58
 a31:= Tryz.isAgg58
 z31:= Tryz.sizeOf58
 v31:= Tryz.zeroValue58
 t37:= Tryz.underlying22
 a37:= Tryz.isAgg22
 z37:= Tryz.sizeOf22
 v37:= Tryz.zeroValue22
 t70:= Tryz.underlying72
 a70:= Tryz.isAgg72
 z70:= Tryz.sizeOf72
 v70:= Tryz.zeroValue72
 t72:= Tryz.underlying74
 a72:= Tryz.isAgg74
 z72:= Tryz.sizeOf74
 v72:= Tryz.zeroValue74
 t75:= Tryz.underlying76
 a75:= Tryz.isAgg76
 z75:= Tryz.sizeOf76
 v75:= Tryz.zeroValue76
 t76:= Tryz.underlying77
 a76:= Tryz.isAgg77
 z76:= Tryz.sizeOf77
 v76:= Tryz.zeroValue77
 t127:= Tryz.underlying123
 a127:= Tryz.isAgg123
 z127:= Tryz.sizeOf123
 v127:= Tryz.zeroValue123
 t164:= Tryz.underlying152
 a164:= Tryz.isAgg152
 z164:= Tryz.sizeOf152
 v164:= Tryz.zeroValue152 }
theorem Tryz.Builder_Extra_156:Builder.Extra Tryz.prog Tryz.lays156_ren:= {
 sizeBuilder:= by kernel_rfl
 liesBuilder:= by kernel_rfl
 t5:= Tryz.underlying5
 a5:= Tryz.isAgg5
 z5:= Tryz.sizeOf5
 v5:= Tryz.zeroValue5
 infoByte:= by kernel_rfl
 cellsByte:= by kernel_rfl
 sizeByte:= by kernel_rfl
 neB5:= by decide }
open Go.RowKit in
theorem Tryz.strings_Join_none (a:Option Addr) (c:Nat) (sep:ByteArray) (w:World):
  Calls Tryz.prog 226 #[.slice a 0 c,.string sep] w fun e w' => e = .returned (.string ⟨#[]⟩) ∧ w' = w:= Any.strings_Join_none Tryz.lays156 Tryz.Builder_Extra_156 a c sep w
open Go.RowKit in
theorem Tryz.strings_Join (bk o c:Nat) (xs:List ByteArray) (sep:ByteArray) (w:World) (hcells:∀ (j:Nat) x,xs[j]? = some x → w.cell? ⟨bk,o + j,none⟩ = some (.string x)) (hbk:bk < w.heap.size) (hN:xs.length ≤ 140737488355328) (hcap:xs.length ≤ c) (hlen:(Lib.join (xs.map (·.data.toList)) sep.data.toList).length ≤ 140737488355328):
  Calls Tryz.prog 226 #[.slice (some ⟨bk,o,none⟩) xs.length c,.string sep] w fun e w' => e = .returned (.string ⟨(Lib.join (xs.map (·.data.toList)) sep.data.toList).toArray⟩) ∧ Below w.heap.size w w':= Any.strings_Join Tryz.lays156 Tryz.Builder_Extra_156 bk o c xs sep w hcells hbk hN hcap hlen
end Go.Proofs
namespace Go.Proofs.Dev
open Go.RowKit
theorem jB (c:UInt8):∀ ls:List (List UInt8),Go.Lib.join ls [c] = FG c ls
 | [] => rfl
 | [p] => by rw [Go.Lib.join_one]; rfl
 | p::q::ls => by
   have ih:= jB c (q::ls)
   rw [Go.Lib.join_cons] at ih ⊢
   rw [TE c p (by simp),← ih]
   simp [Go.Lib.joinTail]
theorem qZ {C:Ctx} {a b:AV} {S:List Nat} {us:List Value} (h:RL C [a,b] S us):∃ S1 S2 u v,S = S1 ++ S2 ∧ us = [u,v] ∧ R C a S1 u ∧ R C b S2 v:= by
 rw [RL] at h
 obtain ⟨S1,S2,u,us',rfl,rfl,h1,h2⟩:= h
 rw [RL] at h2
 obtain ⟨S3,S4,v,us2,rfl,rfl,h3,h4⟩:= h2
 rw [RL] at h4
 obtain ⟨rfl,rfl⟩:= h4
 exact ⟨S1,S3,u,v,by simp,rfl,h1,h3⟩
theorem bG {C:Ctx}:∀ {ls:List (List UInt8)} {S:List Nat} {us:List Value},RL C (txs ls) S us → us = ls.map tx
 | [],S,us,h => by
   have h':RL C [] S us:= h
   rw [RL] at h'
   exact h'.2
 | x::xs,S,us,h => by
   have h':RL C (.v (tx x)::txs xs) S us:= h
   rw [RL] at h'
   obtain ⟨S1,S2,u,us',rfl,rfl,h1,h2⟩:= h'
   rw [R] at h1
   rw [bG h2,h1.2]
   rfl
theorem QR (ls:List (List UInt8)) (c:UInt8) (hn:ls.length ≤ 1000) (hl:(FG c ls).length ≤ 1000):SoundAt Tryz.prog 226 [.sl 1 1 (txs ls),.v (tx [c])] (.v (tx (FG c ls))) [.bot,.bot]:= by
 intro w forb us S hr hnd hlt hforb
 obtain ⟨S1,S2,u,v,rfl,rfl,h1,h2⟩:= qZ hr
 rw [R] at h2
 obtain ⟨rfl,rfl⟩:= h2
 rw [R] at h1
 obtain ⟨rfl,a,cap,rfl,hcap,h3⟩:= h1
 have fin:∀ w',Kept w.heap.size [] w w' → ∃ v S',Ending.returned (Value.string ⟨(FG c ls).toArray⟩) = .returned v ∧ RL (YY w' S' forb) (.v (tx (FG c ls))::[.bot,.bot]) S' (v::[.slice a (txs ls).length cap,tx [c]]) ∧ S'.Nodup ∧ (∀ x ∈ S',x < w'.heap.size ∧ (w.heap.size ≤ x ∨ x ∈ ([] ++ []:List Nat))) ∧ Kept w.heap.size ([] ++ []) w w':= by
  intro w' hk
  refine ⟨_,[],rfl,?_,by simp,by simp,hk⟩
  rw [RL]; refine ⟨[],[],_,_,rfl,rfl,by rw [R]; exact ⟨rfl,rfl⟩,?_⟩
  rw [RL]; refine ⟨[],[],_,_,rfl,rfl,by rw [R],?_⟩
  rw [RL]; exact ⟨[],[],_,_,rfl,rfl,by rw [R],by rw [RL]; exact ⟨rfl,rfl⟩⟩
 by_cases h0:ls = []
 ·subst h0
  refine (Tryz.strings_Join_none a cap ⟨[c].toArray⟩ w).mono ?_
  rintro e w' ⟨rfl,rfl⟩
  exact fin _ (Kept.refl _ _ _)
 ·rcases h3 with h3 | ⟨b,p,us,rfl,hb,_,hc,_,hrl⟩
  ·exact absurd (by simpa using h3) h0
  rw [RR] at hrl
  have hus:= bG hrl
  subst hus
  have hx:(ls.map fun l => ByteArray.mk l.toArray).map (·.data.toList) = ls:= by
   rw [List.map_map]
   conv => rhs; rw [← List.map_id ls]
   rfl
  have hjn:Go.Lib.join ((ls.map fun l => ByteArray.mk l.toArray).map (·.data.toList)) (ByteArray.mk [c].toArray).data.toList = FG c ls:= by rw [hx]; exact jB c ls
  have:= Tryz.strings_Join b p cap (ls.map fun l => ByteArray.mk l.toArray) ⟨[c].toArray⟩ w (fun j x hj => by
   simp only [List.getElem?_map,Option.map_eq_some_iff] at hj
   obtain ⟨l,hl,rfl⟩:= hj
   exact hc j (tx l) (by simp [hl])) hb (by simp; omega) (by simp at hcap ⊢; exact hcap) (by rw [hjn]; omega)
  rw [hjn,List.length_map] at this
  simp only [PO]
  refine this.mono ?_
  rintro e w' ⟨rfl,hbl⟩
  have:= fin w' (GK _ hbl)
  simpa using this
theorem fQ (ds:List Int) (k:Int) (h0:0 ≤ k) (h1:k < ds.length) (h2:-1 ≤ ati ds k) (h3:ati ds k ≤ 6):
  SoundAt Tryz.prog 182 [.v (.int .i64 k),.vp 1 [.sl 1 1 (AB ds)] 0] (.v (.int .u8 (if ati ds k < 0 then 46 else 48 + ati ds k))) [.bot,.bot]:= by
 refine AG (md:= mdT) (ms:= [false,false]) Q4 (by simp) ?_
 by_cases h:ati ds k < 0
 ·simp [Fw,h0,h1,h]
 ·simp [Fw,h0,h1,h]
  omega
abbrev rtE (ds:List Int) (k:Nat) (y:Int):ES:= [(1,.fn 182 [.vp 1 [.sl 1 1 (AB ds)] 0]),(2,.lp 0 0 0 0),(5,.ls 1 1 0 k),(6,.v (.int .i64 y))]
theorem mB (l:List UInt8):(l.map toI).map (fun n => UInt8.ofNat n.toNat) = l:= by
 rw [List.map_map]
 conv => rhs; rw [← List.map_id l]
 apply List.map_congr_left
 intro c _
 show UInt8.ofNat (toI c).toNat = c
 apply UInt8.toNat_inj.1
 have:= c.toNat_lt
 simp [toI]
abbrev sf (W:Nat) (ds:List Int) (k:Nat) (y x:Int):ES:= [(1,.fn 182 [.vp 1 [.sl 1 1 (AB ds)] 0]),(2,.lp 0 0 0 0),(5,.ls 1 1 0 k),(6,.v (.int .i64 y)),(7,.ls 1 2 0 W),(20,.v (.int .i64 W)),(21,.v (.int .i64 x))]
set_option maxHeartbeats 2000000 in
theorem si (W T:Nat) (cs:List Bool) (ds:List Int) (rs:List (List UInt8)) (y:Nat) (hW:W ≤ 6) (hT:T ≤ 6) (hy:y < T) (hl:cs.length = T * W) (hd:B4 cs ds = true) (Qc:AExit → ES → AN → Prop)
  (hend:∀ E,get E 1 = .fn 182 [.vp 1 [.sl 1 1 (AB ds)] 0] → get E 2 = .lp 0 0 0 0 → get E 5 = .ls 1 1 0 rs.length → get E 6 = .v (.int .i64 y) → get E 7 = .ls 1 2 0 W →
   Qc (.exit 2) E [some (.box [.v (.int .i64 W),.v (.int .i64 T),.sl 1 1 (AC cs)]),some (.arr 1 (txs rs)),some (.arr 1 (u8s ((OG W cs ds y).map toI)))]):
  CM [(5,1),(7,1)] [1,2,5,6,7,20,21] (awp Tryz.prog mdT Ah) Qc (sf W ds rs.length y 0) [some (.box [.v (.int .i64 W),.v (.int .i64 T),.sl 1 1 (AC cs)]),some (.arr 1 (txs rs)),some (.arr 1 (List.replicate W (.v (.int .u8 0))))]:= by
 rw [jA]
 refine AF (fun m E H => ∃ x:Nat,m = W - x ∧ x ≤ W ∧ E = sf W ds rs.length y x ∧ H = [some (.box [.v (.int .i64 W),.v (.int .i64 T),.sl 1 1 (AC cs)]),some (.arr 1 (txs rs)),some (.arr 1 (u8s (part 0 toI W 0 x (OG W cs ds y) [])))]) W ⟨0,by simp [bF,full]⟩ ?_
 rintro J hJ m E H ⟨x,rfl,hx,rfl,rfl⟩
 by_cases h:x < W
 ·have h':(x:Int) < (W:Int):= by omega
  have hxr:x < (OG W cs ds y).length:= by simp [h]
  have hc:= Yo (T:= T) hy h
  have hdd:ds.length = cs.length:= by simp only [B4,Bool.and_eq_true,decide_eq_true_eq] at hd; exact hd.1
  have hp:T * W ≤ 6 * 6:= Nat.mul_le_mul hT hW
  have e1:(y:Int) * (W:Int) = ((y * W:Nat):Int):= by simp
  have q0:(0:Int) ≤ (y:Int) * (W:Int):= by rw [e1]; omega
  have q1:(y:Int) * (W:Int) ≤ 36:= by rw [e1]; omega
  have q2:((y:Int) * (W:Int) + (x:Int)) < (ds.length:Int):= by rw [e1]; omega
  have e2:((y:Int) * (W:Int) + (x:Int)) = ((y * W + x:Nat):Int):= by rw [Int.natCast_add,e1]
  have hdg:Ls cs ds ((y:Int) * (W:Int) + (x:Int)) = true:= by
   simp only [B4,Bool.and_eq_true,decide_eq_true_eq,CN] at hd
   rw [e2]
   exact hd.2 (y * W + x) (by omega)
  have es:(if ati ds ((y:Int) * (W:Int) + (x:Int)) < 0 then (46:Int) else 48 + ati ds ((y:Int) * (W:Int) + (x:Int))) = toI (OG W cs ds y)[x]:= by
   have e3:(OG W cs ds y)[x] = if atb cs ((y:Int) * (W:Int) + (x:Int)) then b8 (48 + ati ds ((y:Int) * (W:Int) + (x:Int))) else 46:= by
    rw [e2]; simp only [OG,List.getElem_map,List.getElem_range]; rfl
   rw [e3]
   unfold Ls at hdg
   cases hb:atb cs ((y:Int) * (W:Int) + (x:Int)) with
   | true =>
     rw [hb] at hdg
     simp at hdg
     rw [if_neg (by omega),if_pos rfl,toI,kA (by omega) (by omega)]
     omega
   | false =>
     rw [hb] at hdg
     simp at hdg
     rw [hdg]
     rfl
  have sg:= fQ ds ((y:Int) * (W:Int) + (x:Int)) (by omega) q2 (by
   unfold Ls at hdg
   split at hdg <;> simp at hdg <;> omega) (by
   unfold Ls at hdg
   split at hdg <;> simp at hdg <;> omega)
  rw [es] at sg
  have st:= eD (0:Int) toI W 0 x (OG W cs ds y) [] (by simp) hxr
  have l1:= Ww (0:Int) toI W 0 x (OG W cs ds y) [] (by simp) hx
  simp only [Nat.zero_mul,Nat.zero_add,List.length_nil,Nat.add_zero] at st l1
  have nx:= hJ (W - (x + 1)) (sf W ds rs.length y ((x:Int) + 1)) _ ⟨x + 1,rfl,h,by simp,rfl⟩
  rw [← st] at nx
  generalize part 0 toI W 0 x (OG W cs ds y) [] = X at *
  generalize toI (OG W cs ds y)[x] = z at *
  have hX:x < X.length:= by omega
  have qf:gB Tryz.prog 182 = true:= by kernel_rfl
  simp [Ah,h',hX,qf,h]
  refine ⟨by omega,by omega,?_⟩
  refine AA sg ?_
  simp [i8,hX,h]
  exact ⟨by omega,_,by omega,nx⟩
 ·have:x = W:= by omega
  subst this
  rw [eC _ _ _ _ _ _ (by simp)]
  simp [Ah,full]
  apply hend <;> rfl
set_option maxHeartbeats 2000000 in
theorem Wx (W T:Nat) (cs:List Bool) (ds:List Int) (hr:Am W T cs = true) (hg:B4 cs ds = true):
  SoundAt Tryz.prog D8 [.agg [.v (.int .i64 W),.v (.int .i64 T),.sl 1 1 (AC cs)],.fn 182 [.vp 1 [.sl 1 1 (AB ds)] 0]] (.v (tx (FG 47 (HU W cs ds T)))) [.bot,.bot]:= by
 refine AG (md:= mdT) (ms:= [false,false]) HL (by simp) ?_
 have hr':= hr
 simp only [Am,decide_eq_true_eq] at hr'
 obtain ⟨w1,w2,t1,t2,hl,_⟩:= hr'
 have hW6:W ≤ 6:= by omega
 have hT6:T ≤ 6:= by omega
 have hl':cs.length = T * W:= by
  have:(cs.length:Int) = ((T * W:Nat):Int):= by rw [hl,Int.natCast_mul,Int.mul_comm]
  exact Int.ofNat.inj this
 have tot:= ZX cs ds T (W:= W)
 have hp:T * (W + 1) ≤ 6 * 7:= Nat.mul_le_mul hT6 (by omega)
 have jn:= QR (HU W cs ds T) 47 (by simp; omega) (by omega)
 simp [D9]
 refine ⟨by omega,?_⟩
 refine AF (fun m E H => ∃ (n:Nat) (rs:List (List UInt8)),n = m ∧ n ≤ T ∧ rs ++ HU W cs ds n = HU W cs ds T ∧ E = rtE ds rs.length ((n:Int) - 1) ∧
  H = [some (.box [.v (.int .i64 W),.v (.int .i64 T),.sl 1 1 (AC cs)]),some (.arr 1 (txs rs))]) T ⟨T,[],by simp⟩ ?_
 rintro J hJ m E H ⟨n,rs,rfl,hn,ho,rfl,rfl⟩
 cases n with
 | zero =>
   have ho':rs = HU W cs ds T:= by simpa [HU] using ho
   subst ho'
   rw [KY]
   have tk:List.take T (txs (HU W cs ds T)) = txs (HU W cs ds T):= List.take_of_length_le (by simp)
   simp [BJ]
   refine AA jn ?_
   simp [tk]
 | succ n =>
   have la:rs.length ≤ 6:= by have:= congrArg List.length ho; rw [List.length_append,KY,KY] at this; omega
   have e1:((n + 1:Nat):Int) - 1 = (n:Int):= by omega
   have w0:(0:Int) ≤ (W:Int):= by omega
   rw [e1]
   have nx:= hJ n (rtE ds (rs ++ [OG W cs ds n]).length ((n:Int) - 1)) _ ⟨n,rs ++ [OG W cs ds n],rfl,by omega,by rw [← ho,HU]; simp,rfl,rfl⟩
   rw [PP,bh,List.length_append,List.length_singleton] at nx
   have body:= si W T cs ds rs n hW6 hT6 (by omega) hl' hg
   simp [BJ,w0]
   refine ⟨by omega,?_⟩
   refine body _ ?_
   intro E g1 g2 g5 g6 g7
   have tk:List.take W (u8s ((OG W cs ds n).map toI)) = u8s ((OG W cs ds n).map toI):= List.take_of_length_le (by simp)
   have hst:= mB (OG W cs ds n)
   have hrw:W ≤ (OG W cs ds n).length:= by simp
   generalize OG W cs ds n = row at *
   rw [List.map_map] at hst
   simp [g1,g2,g5,g6,g7,tk,hst,hrw,kv]
   exact ⟨by omega,by omega,_,by omega,nx⟩
theorem Tv (W T:Nat) (cs:List Bool) (ds:List Int) (hb:cs.length < 2 ^ 40) (hd:ds.length < 2 ^ 40):
  SoundAt Tryz.prog Mc [.agg [.v (.int .i64 W),.v (.int .i64 T),.sl 1 1 (AC cs)],.sl 1 1 (AB ds)] (.v (tx (TF W T cs ds))) [.bot,.bot]:= by
 have pv:= ED W T cs ds hb hd
 refine AG (md:= mdT) (ms:= [false,false]) Tt (by simp) ?_
 by_cases hv:(Am W T cs && B4 cs ds) = true
 ·rw [TF,if_pos hv]
  rw [hv] at pv
  simp only [Bool.and_eq_true] at hv
  have rt:= Wx W T cs ds hv.1 hv.2
  simp [Hm]
  refine AA pv ?_
  simp
  refine AA rt ?_
  simp
 ·have hv':(Am W T cs && B4 cs ds) = false:= by simpa using hv
  rw [TF,if_neg hv]
  rw [hv'] at pv
  simp [Hm]
  refine AA pv ?_
  simp
@[simp] abbrev KG:Nat:= 76
def DC:ACode:= .seq (.seq (.reg [.m 21 7,.f 22 0 2,.l 23 22,.o 24 (.bin .lss 0) [.t 21,.t 23]]) <| .cond (.t 24) ( .skip) ( .exit 2)) <| .seq (.block 3 ( .seq (.reg [.m 27 6,.f 28 0 2,.l 29 28,.o 30 (.bin .mul 0) [.t 27,.t 29],.m 31 7,.o 32 (.bin .add 0) [.t 30,.t 31],.m 8 32]) <| .seq (.reg [.f 33 2 2,.l 34 33,.m 35 8,.o 36 (.iadr 1) [.t 34,.t 35],.l 37 36]) <| .cond (.t 37) ( .reg [.m 38 5,.o 39 (.bsl 1) [.c (.v (.string ⟨#[35]⟩)),.c (.v (.string ⟨#[101]⟩)),.c (.v (.string ⟨#[110]⟩)),.c (.v (.string ⟨#[119]⟩)),.c (.v (.string ⟨#[115]⟩))],.m 40 1,.m 41 8,.o 42 (.iadr 1) [.t 40,.t 41],.l 43 42,.o 44 (.iadr 1) [.t 39,.t 43],.l 45 44,.o 46 (.bin .add 1) [.t 38,.t 45],.m 5 46]) ( .reg [.m 47 5,.o 48 (.bin .add 1) [.t 47,.c (.v (.string ⟨#[46]⟩))],.m 5 48]))) <| .reg [.m 25 7,.o 26 (.bin .add 0) [.t 25,.k 1],.m 7 26]
def Gu:ACode:= .seq (.seq (.reg [.m 12 6,.o 13 (.bin .geq 0) [.t 12,.k 0],.m 14 13,.g 15 (.load true 3) [.t 2] 14 true,.mg 16 1 14 true,.g 17 (.call 122 []) [.t 15,.t 16] 14 true,.o 18 .pick [.t 14,.t 17,.kb false]]) <| .cond (.t 18) ( .skip) ( .exit 0)) <| .seq (.block 1 ( .seq (.seq (.reg [.o 7 .mv [.k 0]]) <| .block 2 ( .loop [(1,1)] [1,2,5,6,7] DC)) <| .seq (.reg [.m 49 6,.o 50 (.bin .gtr 0) [.t 49,.k 0]]) <| .cond (.t 50) ( .reg [.m 51 5,.o 52 (.bin .add 1) [.t 51,.c (.v (.string ⟨#[47]⟩))],.m 5 52]) ( .skip))) <| .reg [.m 19 6,.o 20 (.bin .sub 0) [.t 19,.k 1],.m 6 20]
def PH:ACode:= .seq (.reg [.o 2 .box [.t 0],.o 4 .mv [.c (.v (.string ⟨#[]⟩))]]) <| .seq (.reg [.o 5 .mv [.c (.v (.string ⟨#[]⟩))]]) <| .seq (.seq (.reg [.f 9 1 2,.l 10 9,.o 11 (.bin .sub 0) [.t 10,.k 1],.m 6 11]) <| .block 0 ( .loop [(1,1)] [1,2,5,6] Gu)) <| .seq (.reg [.m 53 5,.m 4 53]) <| .ret
theorem Wy:cFn Tryz.prog KG 54 [.t 4] PH:= ⟨Tryz.f76,_,Tryz.func76,rfl,by kernel_rfl,by kernel_rfl,by kernel_rfl,by kernel_rfl⟩
@[simp] abbrev Md:Nat:= 181
def Hn:ACode:= .seq (.reg [.o 4 .mv [.c (.v (.int .u8 (0)))]]) <| .seq (.seq (.reg [.f 5 2 1,.l 6 5,.m 7 0,.o 8 (.iadr 1) [.t 6,.t 7],.l 9 8,.o 10 (.un .not) [.t 9]]) <| .cond (.t 10) ( .seq (.reg [.o 4 .mv [.c (.v (.int .u8 (46)))]]) <| .ret) ( .skip)) <| .seq (.reg [.l 11 2,.m 12 0,.o 13 (.iadr 1) [.t 11,.t 12],.l 14 13,.o 15 .sidx [.c (.v (.string ⟨#[35,101,110,119,115]⟩)),.t 14],.m 4 15]) <| .ret
theorem Tw:cFn Tryz.prog Md 16 [.t 4] Hn:= ⟨Tryz.f181,_,Tryz.func181,rfl,by kernel_rfl,by kernel_rfl,by kernel_rfl,by kernel_rfl⟩
@[simp] abbrev PI:Nat:= 128
def PJ:ACode:= .seq (.reg [.o 2 .box [.t 0],.o 3 .box [.t 1],.o 4 .mv [.c (.v (.string ⟨#[]⟩))]]) <| .seq (.seq (.reg [.la 5 3 2,.l 6 3,.o 7 (.call 179 []) [.t 5,.t 6],.o 8 (.un .not) [.t 7]]) <| .cond (.t 8) ( .seq (.reg [.o 4 .mv [.c (.v (.string ⟨#[]⟩))]]) <| .ret) ( .skip)) <| .seq (.reg [.la 9 3 2,.o 10 (.mkfn 181) [.t 2,.t 3],.o 11 (.call 180 []) [.t 9,.t 10],.m 4 11]) <| .ret
theorem Wz:cFn Tryz.prog PI 12 [.t 4] PJ:= ⟨Tryz.f128,_,Tryz.func128,rfl,by kernel_rfl,by kernel_rfl,by kernel_rfl,by kernel_rfl⟩
@[simp] abbrev YM:Nat:= 131
def YN:ACode:= .seq (.reg [.o 2 .mv [.c (.v (.string ⟨#[]⟩))]]) <| .seq (.seq (.reg [.m 3 0]) <| .cond (.t 3) ( .seq (.reg [.o 2 .mv [.c (.v (.string ⟨#[121,101,115]⟩))]]) <| .ret) ( .skip)) <| .seq (.reg [.o 2 .mv [.c (.v (.string ⟨#[110,111]⟩))]]) <| .ret
theorem fR:cFn Tryz.prog YM 4 [.t 2] YN:= ⟨Tryz.f131,_,Tryz.func131,rfl,by kernel_rfl,by kernel_rfl,by kernel_rfl,by kernel_rfl⟩
@[simp] abbrev QS:Nat:= 74
def QT:ACode:= .seq (.reg [.o 4 .mv [.c (.v (.string ⟨#[]⟩))]]) <| .seq (.seq (.reg [.m 5 0]) <| .cond (.t 5) ( .seq (.reg [.m 6 1,.m 4 6]) <| .ret) ( .skip)) <| .seq (.reg [.o 4 .mv [.c (.v (.string ⟨#[110,111]⟩))]]) <| .ret
theorem Xj:cFn Tryz.prog QS 7 [.t 4] QT:= ⟨Tryz.f74,_,Tryz.func74,rfl,by kernel_rfl,by kernel_rfl,by kernel_rfl,by kernel_rfl⟩
@[simp] abbrev Al:Nat:= 61
def Du:ACode:= .seq (.reg [.o 29 (.bin .lss 0) [.t 28,.t 27]]) <| .seq (.cond (.t 29) ( .skip) ( .exit 1)) <| .seq (.block 2 ( .seq (.reg [.o 30 (.iadr 3) [.t 26,.t 28],.la 31 3 30,.o 9 (.alloc dz) [],.s (.store 3) [.t 9,.t 31]]) <| .reg [.m 32 0,.la 33 3 9,.o 34 (.call 65 []) [.t 32,.t 33]])) <| .reg [.o 35 (.bin .add 0) [.t 28,.k 1],.m 28 35]
abbrev Bi:Plan:= .al (.o 117 (.call 133 []) [.t 108,.t 112,.t 116]) ( .take (.m 104 117) <| .take (.e 118 0 104) <| .take (.e 119 1 104) <| .take (.m 10 118) <| .take (.m 11 119) <| .done)
abbrev Bj:Plan:= .al (.o 100 (.call 132 []) [.t 91,.t 95,.t 99]) ( .al (.o 101 (.call 131 []) [.t 100]) ( .take (.m 4 101) <| .done))
abbrev KH:Plan:= .al (.o 84 (.call 101 []) [.t 79,.t 83]) ( .al (.o 85 (.call 131 []) [.t 84]) ( .take (.m 4 85) <| .done))
abbrev KI:Plan:= .al (.o 49 (.call 128 []) [.t 44,.t 48]) ( .take (.m 4 49) <| .done)
abbrev KJ:Plan:= .al (.o 60 (.call 129 []) [.t 55,.t 59]) ( .take (.m 4 60) <| .done)
def Ar:ACode:= .seq (.reg [.o 4 .mv [.c (.v (.string ⟨#[]⟩))]]) <| .seq (.seq (.reg [.m 13 1,.o 14 (.call 52 []) [.t 13],.m 12 14,.e 15 0 12,.e 16 1 12,.o 5 (.alloc dz) [],.s (.store 3) [.t 5,.t 15],.m 6 16]) <| .seq (.reg [.m 17 6]) <| .cond (.t 17) ( .seq (.seq (.reg [.m 18 0,.la 19 3 5,.o 20 (.call 65 []) [.t 18,.t 19]]) <| .cond (.t 20) ( .seq (.reg [.o 4 .mv [.c (.v (.string ⟨#[111,107]⟩))]]) <| .ret) ( .skip)) <| .seq (.reg [.o 4 .mv [.c (.v (.string ⟨#[110,111]⟩))]]) <| .ret) ( .skip)) <| .seq (.seq (.reg [.m 21 1]) <| .block 0 ( .seq (.reg [.o 23 (.bin .eql 1) [.t 21,.c (.v (.string ⟨#[101,110,100]⟩))],.m 22 23]) <| .cond (.t 22) ( .seq (.reg [.m 24 0,.o 25 (.call 127 []) [.t 24],.m 7 25]) <| .seq (.seq (.reg [.m 26 7,.n 27 26,.o 28 .mv [.k 0]]) <| .block 1 ( .loop [(7,3),(26,3)] [0,7,26,27,28,126] Du)) <| .seq (.seq (.reg [.m 36 7,.n 37 36,.o 38 (.bin .eql 0) [.t 37,.k 0]]) <| .cond (.t 38) ( .seq (.reg [.o 4 .mv [.c (.v (.string ⟨#[110,111,110,101]⟩))]]) <| .ret) ( .skip)) <| .seq (.reg [.o 4 .mv [.c (.v (.string ⟨#[111,107]⟩))]]) <| .ret) ( .seq (.reg [.o 40 (.bin .eql 1) [.t 21,.c (.v (.string ⟨#[115,104,111,119]⟩))],.m 39 40]) <| .cond (.t 39) ( .seq (.draw ( .take (.m 41 0) <| .take (.o 42 .nilck [.t 41]) <| .take (.f 43 0 42) <| .take (.m 45 0) <| .take (.o 46 .nilck [.t 45]) <| .take (.f 47 4 46) <| .alt (.la 44 3 43) ( .al (.l 48 47) KI) <| .al (.l 48 47) ( .al (.la 44 3 43) KI))) <| .ret) ( .seq (.reg [.o 51 (.bin .eql 1) [.t 21,.c (.v (.string ⟨#[100,105,103,105,116,115]⟩))],.m 50 51]) <| .cond (.t 50) ( .seq (.draw ( .take (.m 52 0) <| .take (.o 53 .nilck [.t 52]) <| .take (.f 54 0 53) <| .take (.m 56 0) <| .take (.o 57 .nilck [.t 56]) <| .take (.f 58 3 57) <| .alt (.la 55 3 54) ( .al (.l 59 58) KJ) <| .al (.l 59 58) ( .al (.la 55 3 54) KJ))) <| .ret) ( .seq (.reg [.o 62 (.bin .eql 1) [.t 21,.c (.v (.string ⟨#[108,101,102,116]⟩))],.m 61 62]) <| .cond (.t 61) ( .seq (.reg [.m 63 0,.o 64 (.call 130 []) [.t 63],.o 65 (.call 64 []) [.t 64],.m 4 65]) <| .ret) ( .seq (.reg [.o 67 (.bin .eql 1) [.t 21,.c (.v (.string ⟨#[112,97,115,116]⟩))],.m 66 67]) <| .cond (.t 66) ( .seq (.reg [.m 68 0,.o 69 .nilck [.t 68],.f 70 5 69,.l 71 70,.n 72 71,.o 73 (.call 64 []) [.t 72],.m 4 73]) <| .ret) ( .seq (.reg [.o 75 (.bin .eql 1) [.t 21,.c (.v (.string ⟨#[115,111,108,118,101,100]⟩))],.m 74 75]) <| .cond (.t 74) ( .seq (.draw ( .take (.m 76 0) <| .take (.o 77 .nilck [.t 76]) <| .take (.f 78 0 77) <| .take (.m 80 0) <| .take (.o 81 .nilck [.t 80]) <| .take (.f 82 4 81) <| .alt (.la 79 3 78) ( .al (.l 83 82) KH) <| .al (.l 83 82) ( .al (.la 79 3 78) KH))) <| .ret) ( .seq (.reg [.o 87 (.bin .eql 1) [.t 21,.c (.v (.string ⟨#[100,101,97,100]⟩))],.m 86 87]) <| .cond (.t 86) ( .seq (.draw ( .take (.m 88 0) <| .take (.o 89 .nilck [.t 88]) <| .take (.f 90 0 89) <| .take (.m 92 0) <| .take (.o 93 .nilck [.t 92]) <| .take (.f 94 3 93) <| .take (.m 96 0) <| .take (.o 97 .nilck [.t 96]) <| .take (.f 98 4 97) <| .alt (.la 91 3 90) ( .alt (.l 95 94) ( .al (.l 99 98) Bj) <| .al (.l 99 98) ( .al (.l 95 94) Bj)) <| .alt (.l 95 94) ( .alt (.la 91 3 90) ( .al (.l 99 98) Bj) <| .al (.l 99 98) ( .al (.la 91 3 90) Bj)) <| .al (.l 99 98) ( .alt (.la 91 3 90) ( .al (.l 95 94) Bj) <| .al (.l 95 94) ( .al (.la 91 3 90) Bj)))) <| .ret) ( .seq (.reg [.o 103 (.bin .eql 1) [.t 21,.c (.v (.string ⟨#[104,105,110,116]⟩))],.m 102 103]) <| .cond (.t 102) ( .seq (.draw ( .take (.m 105 0) <| .take (.o 106 .nilck [.t 105]) <| .take (.f 107 0 106) <| .take (.m 109 0) <| .take (.o 110 .nilck [.t 109]) <| .take (.f 111 3 110) <| .take (.m 113 0) <| .take (.o 114 .nilck [.t 113]) <| .take (.f 115 4 114) <| .alt (.la 108 3 107) ( .alt (.l 112 111) ( .al (.l 116 115) Bi) <| .al (.l 116 115) ( .al (.l 112 111) Bi)) <| .alt (.l 112 111) ( .alt (.la 108 3 107) ( .al (.l 116 115) Bi) <| .al (.l 116 115) ( .al (.la 108 3 107) Bi)) <| .al (.l 116 115) ( .alt (.la 108 3 107) ( .al (.l 112 111) Bi) <| .al (.l 112 111) ( .al (.la 108 3 107) Bi)))) <| .seq (.seq (.reg [.m 120 10,.o 121 (.bin .lss 0) [.t 120,.k 0]]) <| .cond (.t 121) ( .seq (.reg [.o 4 .mv [.c (.v (.string ⟨#[110,111,110,101]⟩))]]) <| .ret) ( .skip)) <| .seq (.reg [.m 122 10,.m 123 11,.o 124 (.build dz [(0,1),(1,1),(2,1)]) [.k 0,.t 122,.t 123],.o 125 (.call 20 []) [.t 124],.m 4 125]) <| .ret) ( .skip)))))))))) <| .seq (.reg [.o 4 .mv [.c (.v (.string ⟨#[119,104,97,116]⟩))]]) <| .ret
theorem BA:cFn Tryz.prog Al 126 [.t 4] Ar:= ⟨Tryz.f61,_,Tryz.func61,rfl,by kernel_rfl,by kernel_rfl,by kernel_rfl,by kernel_rfl⟩
@[simp] abbrev KK:Nat:= 19
def KL:ACode:= .seq (.reg [.o 2 .box [.t 0],.o 4 (.alloc bz) [],.o 5 .mv [.c (.v (.string ⟨#[]⟩))]]) <| .seq (.seq (.reg [.la 8 6 2,.o 9 (.call 38 []) [.t 8],.o 10 (.un .not) [.t 9]]) <| .cond (.t 10) ( .seq (.reg [.o 11 (.build bz []) [],.s (.store 6) [.t 4,.t 11],.o 5 .mv [.c (.v (.string ⟨#[]⟩))]]) <| .ret) ( .skip)) <| .seq (.reg [.la 12 6 2,.o 13 (.call 60 []) [.t 12],.o 6 (.alloc bz) [],.s (.store 6) [.t 6,.t 13]]) <| .seq (.reg [.m 14 1,.o 15 (.call 61 []) [.t 6,.t 14],.m 7 15]) <| .seq (.reg [.la 16 6 6,.m 17 7,.s (.store 6) [.t 4,.t 16],.m 5 17]) <| .ret
theorem W0:cFn Tryz.prog KK 18 [.c 4 true 6,.t 5] KL:= ⟨Tryz.f19,_,Tryz.func19,rfl,by kernel_rfl,by kernel_rfl,by kernel_rfl,by kernel_rfl⟩
abbrev ltE (o:List UInt8) (ls:List Int) (y:Int):ES:= [(1,.sl 1 1 (AB ls)),(2,.lp 0 0 0 0),(5,.v (tx o)),(6,.v (.int .i64 y))]
abbrev sk (o:List UInt8) (ls:List Int) (y x:Int):ES:= [(1,.sl 1 1 (AB ls)),(2,.lp 0 0 0 0),(5,.v (tx o)),(6,.v (.int .i64 y)),(7,.v (.int .i64 x))]
set_option maxHeartbeats 2000000 in
theorem sn (W T:Nat) (cs:List Bool) (ls:List Int) (o:List UInt8) (y:Nat) (hW:W ≤ 6) (hT:T ≤ 6) (hy:y < T) (hl:cs.length = T * W) (hd:ls.length = cs.length) (hw:aH ls) (ho:o.length ≤ 100) (Qc:AExit → ES → AN → Prop)
  (hend:∀ E,get E 1 = .sl 1 1 (AB ls) → get E 2 = .lp 0 0 0 0 → get E 5 = .v (tx (o ++ OH (sgW cs ls) W y)) → get E 6 = .v (.int .i64 y) → Qc (.exit 2) E [some (.box [.v (.int .i64 W),.v (.int .i64 T),.sl 1 1 (AC cs)])]):
  CM [(1,1)] [1,2,5,6,7] (awp Tryz.prog mdT DC) Qc (sk o ls y 0) [some (.box [.v (.int .i64 W),.v (.int .i64 T),.sl 1 1 (AC cs)])]:= by
 refine AF (fun m E H => ∃ x:Nat,m = W - x ∧ x ≤ W ∧ E = sk (o ++ (OH (sgW cs ls) W y).take x) ls y x ∧ H = [some (.box [.v (.int .i64 W),.v (.int .i64 T),.sl 1 1 (AC cs)])]) W ⟨0,by simp⟩ ?_
 rintro J hJ m E H ⟨x,rfl,hx,rfl,rfl⟩
 by_cases h:x < W
 ·have h':(x:Int) < (W:Int):= by omega
  have hc:= Yo (T:= T) hy h
  have hp:T * W ≤ 6 * 6:= Nat.mul_le_mul hT hW
  have e1:(y:Int) * (W:Int) = ((y * W:Nat):Int):= by simp
  have hk1:(y * W + x:Int) < (cs.length:Int):= by rw [e1]; omega
  have hk2:(y * W + x:Int) < (ls.length:Int):= by rw [e1]; omega
  have hk0:(0:Int) ≤ (y:Int) * (W:Int):= by rw [e1]; omega
  have hk3:(y:Int) * (W:Int) ≤ 36:= by rw [e1]; omega
  have e2:((y:Int) * (W:Int) + (x:Int)) = ((y * W + x:Nat):Int):= by rw [Int.natCast_add,e1]
  have tk:= gn (sgW cs ls) y h
  have hlt:((OH (sgW cs ls) W y).take x).length = x:= by simp; omega
  have nx:= hJ (W - (x + 1)) (sk (o ++ (OH (sgW cs ls) W y).take (x + 1)) ls y ((x:Int) + 1)) _ ⟨x + 1,rfl,h,by simp,rfl⟩
  rw [tk,← List.append_assoc] at nx
  generalize hr:o ++ (OH (sgW cs ls) W y).take x = r at *
  have hrl:r.length ≤ 106:= by rw [← hr]; simp; omega
  have es:sgW cs ls (y * W + x) = if atb cs ((y:Int) * (W:Int) + (x:Int)) then rV (ati ls ((y:Int) * (W:Int) + (x:Int))) else 46:= by rw [e2]; rfl
  rw [es] at nx
  obtain ⟨w0,w1⟩:= hw ((y:Int) * (W:Int) + (x:Int)) (by omega) hk2
  cases hb:atb cs ((y:Int) * (W:Int) + (x:Int)) with
  | true =>
    rw [hb] at nx
    simp at nx
    have hc5:ati ls ((y:Int) * (W:Int) + (x:Int)) = 0 ∨ ati ls ((y:Int) * (W:Int) + (x:Int)) = 1 ∨ ati ls ((y:Int) * (W:Int) + (x:Int)) = 2 ∨ ati ls ((y:Int) * (W:Int) + (x:Int)) = 3 ∨ ati ls ((y:Int) * (W:Int) + (x:Int)) = 4:= by omega
    rcases hc5 with h5 | h5 | h5 | h5 | h5 <;>
    ·rw [h5] at nx
     simp [rV] at nx
     simp [DC,h',hb,hk1,hk2,h5]
     (repeat' first | omega | apply And.intro) <;> exact ⟨_,by omega,nx⟩
  | false =>
    rw [hb] at nx
    simp at nx
    simp [DC,h',hb,hk1,hk2]
    (repeat' first | omega | apply And.intro) <;> exact ⟨_,by omega,nx⟩
 ·have:x = W:= by omega
  subst this
  simp [DC]
  exact hend _ rfl rfl (by rw [List.take_of_length_le (by simp)]; rfl) rfl
set_option maxHeartbeats 2000000 in
theorem U5 (W T:Nat) (cs:List Bool) (ls:List Int) (hr:Am W T cs = true) (hy:AR W T cs ls = true):
  SoundAt Tryz.prog KG [.agg [.v (.int .i64 W),.v (.int .i64 T),.sl 1 1 (AC cs)],.sl 1 1 (AB ls)] (.v (tx (Vo W T cs ls))) [.bot,.bot]:= by
 have hw:= aI hy
 have hll:ls.length = cs.length:= by simp only [AR,Bool.and_eq_true,decide_eq_true_eq] at hy; exact hy.1
 have hr':= hr
 simp only [Am,decide_eq_true_eq] at hr'
 obtain ⟨w1,w2,t1,t2,hl,_⟩:= hr'
 have hl':cs.length = T * W:= by
  have:(cs.length:Int) = ((T * W:Nat):Int):= by rw [hl,Int.natCast_mul,Int.mul_comm]
  exact Int.ofNat.inj this
 have tot:= Vm (sgW cs ls) T (W:= W)
 have hp:T * (W + 1) ≤ 6 * 7:= Nat.mul_le_mul (by omega) (by omega)
 have hp2:T * W ≤ 6 * 6:= Nat.mul_le_mul (by omega) (by omega)
 have pv:= Bl W T cs ls (by omega) (by omega)
 rw [hr,hy] at pv
 refine AG (md:= mdT) (ms:= [false,false]) Wy (by simp) ?_
 rw [Vo]
 simp only [Int.toNat_natCast]
 simp [PH]
 refine ⟨by omega,?_⟩
 refine AF (fun m E H => ∃ (n:Nat) (o:List UInt8),n = m ∧ n ≤ T ∧ o ++ FG 47 (H4 (sgW cs ls) W n) = FG 47 (H4 (sgW cs ls) W T) ∧ E = ltE o ls ((n:Int) - 1) ∧ H = [some (.box [.v (.int .i64 W),.v (.int .i64 T),.sl 1 1 (AC cs)])]) T ⟨T,[],by simp⟩ ?_
 rintro J hJ m E H ⟨n,o,rfl,hn,ho,rfl,rfl⟩
 cases n with
 | zero =>
   have ho':o = FG 47 (H4 (sgW cs ls) W T):= by simpa [H4,FG] using ho
   subst ho'
   simp [Gu]
 | succ n =>
   have lo:o.length ≤ 42:= by have:= congrArg List.length ho; rw [List.length_append] at this; omega
   have e1:((n + 1:Nat):Int) - 1 = (n:Int):= by omega
   rw [e1]
   have body:= fun Qc hend => sn W T cs ls o n (by omega) (by omega) (by omega) hl' hll hw (by omega) Qc hend
   simp [Gu]
   refine AA pv ?_
   simp
   refine body _ ?_
   intro E g1 g2 g5 g6
   have lr:(o ++ OH (sgW cs ls) W n).length ≤ 48:= by simp; omega
   cases n with
   | zero =>
     have nx:= hJ 0 (ltE (o ++ OH (sgW cs ls) W 0) ls (-1)) _ ⟨0,_,rfl,by omega,by rw [← ho]; simp [H4,FG],rfl,rfl⟩
     simp [g1,g2,g5,g6]
     exact ⟨_,by omega,nx⟩
   | succ n =>
     have nx:= hJ (n + 1) (ltE (o ++ OH (sgW cs ls) W (n + 1) ++ [47]) ls (n:Int)) _ ⟨n + 1,o ++ OH (sgW cs ls) W (n + 1) ++ [47],rfl,by omega,by rw [← ho,TG W (sgW cs ls) (by omega:0 < n + 1)]; simp,by rw [show ((n + 1:Nat):Int) - 1 = (n:Int) by omega],rfl⟩
     have hpos:(0:Int) < (n:Int) + 1:= by omega
     generalize o ++ OH (sgW cs ls) W (n + 1) = r at *
     simp [g1,g2,g5,g6,hpos]
     exact ⟨by omega,by omega,_,by omega,nx⟩
theorem W1 (W T:Int) (cs:List Bool) (ls:List Int) (hr:Am W T cs = true) (hy:AR W T cs ls = true):
  SoundAt Tryz.prog KG [.agg [.v (.int .i64 W),.v (.int .i64 T),.sl 1 1 (AC cs)],.sl 1 1 (AB ls)] (.v (tx (Vo W T cs ls))) [.bot,.bot]:= by
 have hr':= hr
 simp only [Am,decide_eq_true_eq] at hr'
 obtain ⟨w,rfl⟩:∃ w:Nat,W = w:= ⟨W.toNat,by omega⟩
 obtain ⟨t,rfl⟩:∃ t:Nat,T = t:= ⟨T.toNat,by omega⟩
 exact U5 w t cs ls hr hy
end Go.Proofs.Dev
