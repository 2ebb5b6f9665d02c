/- Contracts of the functions of the program over slots and rows, each proved against the program itself; no condition beyond those that each theorem names. -/
import Derived.Test.YtfkmfobbgoflgaaGreatDoorAS
import Derived.Test.YtfkmfobbgoflgaaGreatDoorAN
import Derived.Test.YtfkmfobbgoflgaaGreatDoorProg
import Derived.Test.YtfkmfobbgoflgaaGreatDoorAO
import Derived.Test.YtfkmfobbgoflgaaGreatDoorAQ
set_option linter.unusedSimpArgs false
set_option linter.unusedVariables false
set_option maxRecDepth 100000
namespace Go.Proofs.Dev
def am (bs:List Int) (p d:Nat) (r:AV) (ups:List AV):Prop:= ∃ (W T:Int) (cs:List Bool) (ds:List Int) (q:Nat),r = .tup [MO W T cs,.os 1 (AB ds)] ∧ cs.length ≤ 37 ∧ ds.length ≤ 37 ∧ q ≤ p + d ∧ ups = [rdA bs q,.bot]
def iP:ACode:= (.seq (.reg [.m 32 8,.o 33 (.un .not) [.t 32],.m 34 33,.mg 35 0 34 false,.g 36 (.call 54 []) [.t 35,.k 3] 34 false,.g 37 (.bin .eql 0) [.t 36,.k 0] 34 false,.o 38 .pick [.t 34,.kb true,.t 37]]) <| .cond (.t 38) ( .seq (.reg [.o 39 (.bsl 1) [],.m 9 39]) <| .seq (.reg [.m 40 0,.o 41 (.call 54 []) [.t 40,.k 6],.o 42 (.bin .add 0) [.k 2,.t 41],.m 10 42]) <| .seq (.reg [.o 11 .mv [.k 0]]) <| .block 0 ( .loop [(9,1)] [0,1,4,6,9,10,11,87] Bg)) ( .skip))
def cQ:ACode:= .seq (.seq (.reg [.m 65 0,.m 66 1,.o 67 (.bin .mul 0) [.k 2,.t 66],.o 68 (.call 45 []) [.t 65,.t 67],.m 69 68,.mg 70 9 69 true,.g 71 (.len false) [.t 70] 69 true,.g 72 (.bin .gtr 0) [.t 71,.k 0] 69 true,.o 73 .pick [.t 69,.t 72,.kb false]]) <| .cond (.t 73) ( .reg [.m 74 9,.m 75 0,.m 76 9,.n 77 76,.o 78 (.call 54 []) [.t 75,.t 77],.o 79 (.bsl 1) [.k (-1),.k 7,.k 0],.m 80 0,.o 81 (.call 54 []) [.t 80,.k 3],.o 82 (.iadr 1) [.t 79,.t 81],.l 83 82,.o 84 (.iadr 1) [.t 74,.t 78],.s (.store 1) [.t 84,.t 83]]) ( .skip)) <| .seq (.reg [.la 85 3 6,.m 86 9,.s (.store 3) [.t 4,.t 85],.m 5 86]) <| .ret
theorem iQ:Ft = .seq iP cQ:= rfl
abbrev oz (bs:List Int) (q:Nat) (W T:Int) (cs:List Bool) (ds:List Int):AN:=
 [some (.box [.sl 0 1 (u8s bs),.v (.int .i64 q)]),some (.box [.v (.int .i64 0),.v (.int .i64 0),.os 1 []]),some (.box [.v (.int .i64 W),.v (.int .i64 T),.ls 1 4 0 cs.length]),some (.arr 1 (AB ds)),some (.arr 1 (AC cs))]
abbrev nd3:List AV:= [AV.v (.int .i64 (-1)),AV.v (.int .i64 7),AV.v (.int .i64 0)]
theorem sV {x:Int} (h0:0 ≤ x) (h1:x < 3):∃ v:Int,∀ h:x.toNat < nd3.length,nd3[x.toNat]'h = .v (.int .i64 v):= by
 obtain rfl | rfl | rfl:x = 0 ∨ x = 1 ∨ x = 2:= by omega
 ·exact ⟨-1,fun _ => rfl⟩
 ·exact ⟨7,fun _ => rfl⟩
 ·exact ⟨0,fun _ => rfl⟩
theorem ZT (bs:List Int) (p q:Nat) (n W T:Int) (cs:List Bool) (ds:List Int) (hb:bs.length ≤ 2000) (hB:Byt bs) (hp:p < 2 ^ 35) (hn0:0 ≤ n) (hn:n < 2 ^ 20) (hcs:cs.length ≤ 37) (hds:ds.length ≤ 37) (hq:q ≤ p + 550) (E:ES)
  (e0:get E 0 = .lp 0 0 0 0) (e1:get E 1 = .v (.int .i64 n)) (e4:get E 4 = .lp 0 1 0 0) (e6:get E 6 = .lp 0 2 0 0) (e9:get E 9 = .ls 1 3 0 ds.length) (e87:get E 87 = .lp 0 0 0 0):
  awp Tryz.prog md5 cQ (bZ [RV.c 4 true 3,RV.t 5] 87 2 [true,false] (am bs p 600)) E (oz bs q W T cs ds):= by
 have fin:∀ (ds2:List Int) (q2:Nat),ds2.length ≤ 37 → q2 ≤ p + 600 → am bs p 600 (.tup [MO W T cs,.os 1 (AB ds2)]) [rdA bs q2,.bot]:= fun ds2 q2 h1 h2 => ⟨W,T,cs,ds2,q2,rfl,hcs,h1,h2,rfl⟩
 simp [cQ,e0,e1,e4,e6,e9,e87]
 refine ⟨by omega,?_⟩
 refine AJ (Cl bs q (2 * n) hb hB (by omega) (by omega)) [0] (by simp) (by simp) (by simp) ?_
 rintro _ _ ⟨b,q2,rfl,hq2,rfl⟩
 cases b with
 | false =>
   simp [AP,e0,e1,e4,e6,e9,e87]
   refine ⟨_,_,fin ds q2 hds (by omega),?_⟩
   simp [MO,AP,e0,e1,e4,e6,e9,e87]
 | true =>
 by_cases hl:0 < ds.length
 ·simp [AP,e0,e1,e4,e6,e9,e87,hl]
  refine AJ (AD bs q2 ds.length hb hB (by omega)) [0] (by simp) (by simp) (by simp) ?_
  rintro _ _ ⟨x,x0,x1,rfl,rfl⟩
  simp [AP,e0,e1,e4,e6,e9,e87,hl]
  refine AJ (AD bs (q2 + 1) 3 hb hB (by omega)) [0] (by simp) (by simp) (by simp) ?_
  rintro _ _ ⟨y,y0,y1,rfl,rfl⟩
  have y3:y < 3:= by omega
  obtain ⟨v,hv⟩:= sV y0 y3
  have x3:x < ds.length:= by omega
  simp [AP,e0,e1,e4,e6,e9,e87,hl,y0,y3,hv,x0,x3,EA]
  refine ⟨_,_,fin (ds.set x.toNat v) (q2 + 1 + 1) (by simpa using hds) (by omega),?_⟩
  have htk:(AB (ds.set x.toNat v)).take ds.length = AB (ds.set x.toNat v):= List.take_of_length_le (by simp)
  simp [MO,AP,e0,e1,e4,e6,e9,e87,htk]
 ·have hl':ds.length = 0:= by omega
  simp [AP,e0,e1,e4,e6,e9,e87,hl,hl']
  refine ⟨_,_,fin [] q2 (by simp) (by omega),?_⟩
  simp [MO,AP,e0,e1,e4,e6,e9,e87]
theorem YG {cs:List Bool} {i:Nat} (h:i < (AC cs).length):(AC cs)[i]'h = .v (.bool (atb cs i)):= by
 have h2:i < cs.length:= by simpa using h
 simp [AC,atb,h2]
theorem iR (bs:List Int) (p q:Nat) (n W T:Int) (cs:List Bool) (ds:List Int) (hb:bs.length ≤ 2000) (hB:Byt bs) (hp:p < 2 ^ 35) (hn0:0 ≤ n) (hn:n < 2 ^ 20) (hcs:cs.length ≤ 37) (hq:q ≤ p + 500) (wide:Int) (hw:0 ≤ wide ∧ wide ≤ 100) (Qc:AExit → ES → AN → Prop)
  (hend:∀ (q2:Nat) (ds:List Int) (b:Bool),q2 ≤ p + 540 → ds.length ≤ 37 → Qc (.exit 0) [(47,.v (.bool b)),(46,.v (.int .i64 cs.length)),(45,.ls 1 4 0 cs.length),(44,.lp 0 2 0 2),(43,.v (.int .i64 cs.length)),(0,.lp 0 0 0 0),(1,.v (.int .i64 n)),(4,.lp 0 1 0 0),(6,.lp 0 2 0 0),(9,.ls 1 3 0 ds.length),(10,.v (.int .i64 wide)),(11,.v (.int .i64 cs.length)),(87,.lp 0 0 0 0)] (oz bs q2 W T cs ds)):
  CM [(9,1)] [0,1,4,6,9,10,11,87] (awp Tryz.prog md5 Bg) Qc
   [(0,.lp 0 0 0 0),(1,.v (.int .i64 n)),(4,.lp 0 1 0 0),(6,.lp 0 2 0 0),(9,.ls 1 3 0 0),(10,.v (.int .i64 wide)),(11,.v (.int .i64 0)),(87,.lp 0 0 0 0)] (oz bs q W T cs []):= by
 refine AF (fun m E H => ∃ (i q2:Nat) (ds:List Int),m = cs.length - i ∧ i ≤ cs.length ∧ ds.length = i ∧ q2 ≤ q + i ∧ H = oz bs q2 W T cs ds ∧
  E = [(0,.lp 0 0 0 0),(1,.v (.int .i64 n)),(4,.lp 0 1 0 0),(6,.lp 0 2 0 0),(9,.ls 1 3 0 ds.length),(10,.v (.int .i64 wide)),(11,.v (.int .i64 i)),(87,.lp 0 0 0 0)]) cs.length ⟨0,q,[],rfl,by omega,rfl,by omega,by simp,by simp⟩ ?_
 rintro J hJ m E H ⟨i,q2,ds,rfl,hi,hdl,hq2,rfl,rfl⟩
 by_cases h:i < cs.length
 case neg =>
  have:i = cs.length:= by omega
  subst this
  simp [Bg]
  exact hend q2 ds false (by omega) (by omega)
 have next:∀ (q3:Nat) (v:Int),q3 ≤ q2 + 1 → CL J (cs.length - i) [(0,.lp 0 0 0 0),(1,.v (.int .i64 n)),(4,.lp 0 1 0 0),(6,.lp 0 2 0 0),(9,.ls 1 3 0 (ds.length + 1)),(10,.v (.int .i64 wide)),(11,.v (.int .i64 (i + 1))),(87,.lp 0 0 0 0)]
   [some (.box [.sl 0 1 (u8s bs),.v (.int .i64 q3)]),some (.box [.v (.int .i64 0),.v (.int .i64 0),.os 1 []]),some (.box [.v (.int .i64 W),.v (.int .i64 T),.ls 1 4 0 cs.length]),some (.arr 1 (AB ds ++ [.v (.int .i64 v)])),some (.arr 1 (AC cs))]:= by
  intro q3 v h3
  exact ⟨_,by omega,hJ _ _ _ ⟨i + 1,q3,ds ++ [v],rfl,h,by simp [hdl],by omega,by simp [EY,dJ],by simp⟩⟩
 cases hc:atb cs i with
 | true =>
   simp [Bg,h,hc,YG]
   refine AJ (AD bs q2 (if 7 < wide then 7 else wide) hb hB (by omega)) [0] (by simp) (by simp) (by simp) ?_
   rintro _ _ ⟨x,x0,x1,rfl,rfl⟩
   have n2:= next (q2 + 1) x (by omega)
   simp only [Int.natCast_add,Int.natCast_one] at n2
   simp
   (repeat' first | omega | assumption | apply And.intro)
 | false =>
   have n2:= next q2 (-1) (by omega)
   simp [Bg,h,hc,YG]
   (repeat' first | omega | assumption | apply And.intro)
theorem qS (bs:List Int) (p q:Nat) (n W T:Int) (cs:List Bool) (ds:List Int) (ok:Bool) (hb:bs.length ≤ 2000) (hB:Byt bs) (hp:p < 2 ^ 35) (hn0:0 ≤ n) (hn:n < 2 ^ 20) (hcs:cs.length ≤ 37) (hds:ds.length ≤ 37) (hq:q ≤ p + 450):
  awp Tryz.prog md5 Ft (bZ [RV.c 4 true 3,RV.t 5] 87 2 [true,false] (am bs p 600))
   [(0,.lp 0 0 0 0),(1,.v (.int .i64 n)),(4,.lp 0 1 0 0),(6,.lp 0 2 0 0),(8,.v (.bool ok)),(9,.ls 1 3 0 ds.length),(87,.lp 0 0 0 0)] (oz bs q W T cs ds):= by
 rw [iQ]
 cases ok with
 | false =>
   simp [iP]
   refine AJ (AD bs q 6 hb hB (by omega)) [0] (by simp) (by simp) (by simp) ?_
   rintro _ _ ⟨x,x0,x1,rfl,rfl⟩
   simp
   refine ⟨by omega,?_⟩
   refine iR bs p (q + 1) n W T cs [] hb hB hp hn0 hn hcs (by omega) (2 + x) (by omega) _ ?_
   intro q2 ds2 b h1 h2
   simp
   exact ZT bs p q2 n W T cs ds2 hb hB hp hn0 hn hcs h2 (by omega) _ rfl rfl rfl rfl rfl rfl
 | true =>
   simp [iP]
   refine AJ (AD bs q 3 hb hB (by omega)) [0] (by simp) (by simp) (by simp) ?_
   rintro _ _ ⟨y,y0,y1,rfl,rfl⟩
   by_cases c0:y = 0
   ·simp [c0]
    refine AJ (AD bs (q + 1) 6 hb hB (by omega)) [0] (by simp) (by simp) (by simp) ?_
    rintro _ _ ⟨x,x0,x1,rfl,rfl⟩
    simp
    refine ⟨by omega,?_⟩
    refine iR bs p (q + 1 + 1) n W T cs [] hb hB hp hn0 hn hcs (by omega) (2 + x) (by omega) _ ?_
    intro q2 ds2 b h1 h2
    simp
    exact ZT bs p q2 n W T cs ds2 hb hB hp hn0 hn hcs h2 (by omega) _ rfl rfl rfl rfl rfl rfl
   ·simp [c0]
    exact ZT bs p (q + 1) n W T cs ds hb hB hp hn0 hn hcs hds (by omega) _ rfl rfl rfl rfl rfl rfl
theorem qT (bs:List Int) (p q:Nat) (n W T:Int) (cs:List Bool) (ls:List Int) (ok:Bool) (hb:bs.length ≤ 2000) (hB:Byt bs) (hp:p < 2 ^ 35) (hn0:0 ≤ n) (hn:n < 2 ^ 20) (hcs:cs.length ≤ 37) (hls:ls.length ≤ 37) (hq:q ≤ p + 420):
  awp Tryz.prog md5 Fu (bZ [RV.c 4 true 3,RV.t 5] 87 2 [true,false] (am bs p 600))
   [(0,.lp 0 0 0 0),(1,.v (.int .i64 n)),(4,.lp 0 1 0 0),(6,.lp 0 2 0 0),(7,.ls 1 3 0 ls.length),(8,.v (.bool ok)),(87,.lp 0 0 0 0)] (oz bs q W T cs ls):= by
 simp [Fu]
 (repeat' first | omega | apply And.intro) <;>
 ·refine AJ (AD bs q 28 hb hB (by omega)) [0] (by simp) (by simp) (by simp) ?_
  rintro _ _ ⟨x,x0,x1,rfl,rfl⟩
  simp
  refine AA (Ta W T cs ls x (by omega) (by omega)) ?_
  have hml:= fI W T cs ls x
  generalize mkI W T cs ls x = ds at *
  simp
  exact qS bs p (q + 1) n W T cs ds ok hb hB hp hn0 hn hcs (by omega) (by omega)
set_option maxHeartbeats 4000000 in
theorem Ux (bs:List Int) (p:Nat) (n:Int) (hb:bs.length ≤ 2000) (hB:Byt bs) (hp:p < 2 ^ 35) (hn0:0 ≤ n) (hn:n < 2 ^ 20):
  SoundSet Tryz.prog Nb [rdA bs p,.v (.int .i64 n)] (am bs p 600):= by
 refine KW (md:= md5) (ms:= [true,false]) Uw (by simp) ?_
 simp [Nc]
 refine ⟨by omega,?_⟩
 refine AJ (WW bs p (2 * n) hb hB (by omega) (by omega)) [0] (by simp) (by simp) (by simp) ?_
 rintro _ _ ⟨W,T,cs,q,rfl,hcs,w0,w6,t0,t24,hq,rfl⟩
 have hmax:∀ x:Int,0 ≤ x → 0 ≤ x ∧ 1 ≤ (if tmI W T cs < 1 then 1 else tmI W T cs):= by
  intro x hx; split <;> omega
 simp [MO]
 (repeat' first | omega | apply And.intro) <;>
 ·refine AJ (AD bs q 256 hb hB (by omega)) [0] (by simp) (by simp) (by simp) ?_
  rintro _ _ ⟨x,x0,x1,rfl,rfl⟩
  simp
  (repeat' first | omega | apply And.intro) <;>
  ·refine AA (Gb W T cs (by omega)) ?_
   generalize tmI W T cs = M at *
   simp [hmax x x0]
   refine AJ (WS W T cs (x % if M < 1 then 1 else M) (by omega)) [] (by simp) (by simp) (by simp) ?_
   rintro _ _ ⟨ls,ok,hls,rfl,rfl⟩
   simp
   exact qT bs p (q + 1) n W T cs ls ok hb hB hp hn0 hn hcs (by omega) (by omega)
@[simp] abbrev J5:Nat:= 105
def J6:ACode:= .seq (.reg [.o 1 .box [.t 0],.o 2 .mv [.kb false]]) <| .seq (.seq (.reg [.f 3 0 1,.l 4 3]) <| .block 0 ( .seq (.reg [.o 6 (.bin .eql 0) [.t 4,.k 0],.m 5 6]) <| .cond (.t 5) ( .seq (.reg [.o 2 .mv [.kb true]]) <| .ret) ( .seq (.seq (.reg [.o 8 (.bin .eql 0) [.t 4,.k 1],.m 7 8]) <| .cond (.t 7) ( .skip) ( .reg [.o 9 (.bin .eql 0) [.t 4,.k 2],.m 7 9])) <| .cond (.t 7) ( .seq (.reg [.f 10 2 1,.l 11 10,.o 12 (.bin .eql 0) [.t 11,.k 0],.m 2 12]) <| .ret) ( .seq (.seq (.reg [.o 14 (.bin .eql 0) [.t 4,.k 3],.m 13 14]) <| .cond (.t 13) ( .skip) ( .reg [.o 15 (.bin .eql 0) [.t 4,.k 4],.m 13 15])) <| .cond (.t 13) ( .seq (.reg [.f 16 2 1,.l 17 16,.o 18 (.bin .eql 0) [.t 17,.k 0],.m 19 18,.fg 20 1 1 19 true,.lg 21 20 19 true,.g 22 (.bin .eql 0) [.t 21,.k 0] 19 true,.o 23 .pick [.t 19,.t 22,.kb false],.m 2 23]) <| .ret) ( .skip))))) <| .seq (.reg [.o 2 .mv [.kb false]]) <| .ret
@[simp] abbrev WX:Nat:= 243
def Mw:ACode:= .seq (.reg [.o 3 .box [.t 0],.o 6 .mv [.kb false]]) <| .seq (.reg [.m 7 1,.f 8 0 3,.l 9 8,.o 10 (.bin .sub 0) [.t 9,.k 1],.o 11 (.call 106 []) [.t 7,.k 0,.t 10],.m 12 11,.mg 13 2 12 true,.fg 14 1 3 12 true,.lg 15 14 12 true,.g 16 (.bin .sub 0) [.t 15,.k 1] 12 true,.g 17 (.call 106 []) [.t 13,.k 0,.t 16] 12 true,.o 18 .pick [.t 12,.t 17,.kb false],.m 19 18,.fg 20 2 3 19 true,.lg 21 20 19 true,.mg 22 2 19 true,.fg 23 0 3 19 true,.lg 24 23 19 true,.g 25 (.bin .mul 0) [.t 22,.t 24] 19 true,.mg 26 1 19 true,.g 27 (.bin .add 0) [.t 25,.t 26] 19 true,.g 28 (.iadr 1) [.t 21,.t 27] 19 true,.lg 29 28 19 true,.o 30 .pick [.t 19,.t 29,.kb false],.m 6 30]) <| .ret
@[simp] abbrev MP:Nat:= 225
def MQ:ACode:= .seq (.reg [.o 1 .box [.t 0],.o 2 .mv [.k 0]]) <| .seq (.seq (.reg [.la 3 3 1,.o 4 (.call 168 []) [.t 3],.o 5 (.un .not) [.t 4]]) <| .cond (.t 5) ( .seq (.reg [.o 2 .mv [.k (-1)]]) <| .ret) ( .skip)) <| .seq (.reg [.f 6 0 1,.l 7 6,.o 8 (.bin .add 0) [.t 7,.k 1],.f 9 1 1,.l 10 9,.o 11 (.bin .add 0) [.t 10,.k 1],.o 12 (.bin .mul 0) [.t 8,.t 11],.m 2 12]) <| .ret
@[simp] abbrev Oz:Nat:= 200
def O0:ACode:= .seq (.reg [.o 2 .box [.t 0],.o 4 .mv [.k 0],.o 5 .mv [.k 0],.o 6 .mv [.k 0],.o 7 .mv [.k 0],.o 8 .mv [.kb false]]) <| .seq (.reg [.m 12 1,.f 13 0 2,.l 14 13,.o 15 (.bin .add 0) [.t 14,.k 1],.o 16 (.bin .rem 0) [.t 12,.t 15],.m 9 16]) <| .seq (.reg [.m 17 1,.f 18 0 2,.l 19 18,.o 20 (.bin .add 0) [.t 19,.k 1],.o 21 (.bin .quo 0) [.t 17,.t 20],.m 10 21]) <| .seq (.seq (.reg [.la 22 3 2,.m 23 9,.o 24 (.bin .sub 0) [.t 23,.k 1],.m 25 10,.o 26 (.bin .sub 0) [.t 25,.k 1],.o 27 (.call 243 []) [.t 22,.t 24,.t 26],.o 28 (.un .not) [.t 27],.m 29 28,.g 30 (.load true 3) [.t 2] 29 false,.mg 31 9 29 false,.mg 32 10 29 false,.g 33 (.bin .sub 0) [.t 32,.k 1] 29 false,.g 34 (.call 243 []) [.t 30,.t 31,.t 33] 29 false,.g 35 (.un .not) [.t 34] 29 false,.o 36 .pick [.t 29,.kb true,.t 35],.m 37 36,.g 38 (.load true 3) [.t 2] 37 false,.mg 39 9 37 false,.g 40 (.bin .sub 0) [.t 39,.k 1] 37 false,.mg 41 10 37 false,.g 42 (.call 243 []) [.t 38,.t 40,.t 41] 37 false,.g 43 (.un .not) [.t 42] 37 false,.o 44 .pick [.t 37,.kb true,.t 43],.m 45 44,.g 46 (.load true 3) [.t 2] 45 false,.mg 47 9 45 false,.mg 48 10 45 false,.g 49 (.call 243 []) [.t 46,.t 47,.t 48] 45 false,.g 50 (.un .not) [.t 49] 45 false,.o 51 .pick [.t 45,.kb true,.t 50]]) <| .cond (.t 51) ( .seq (.reg [.o 4 .mv [.k 0],.o 5 .mv [.k 0],.o 6 .mv [.k 0],.o 7 .mv [.k 0],.o 8 .mv [.kb false]]) <| .ret) ( .skip)) <| .seq (.reg [.m 52 10,.o 53 (.bin .sub 0) [.t 52,.k 1],.f 54 0 2,.l 55 54,.o 56 (.bin .mul 0) [.t 53,.t 55],.m 57 9,.o 58 (.bin .add 0) [.t 56,.t 57],.o 59 (.bin .sub 0) [.t 58,.k 1],.m 11 59]) <| .seq (.draw ( .take (.m 60 11) <| .take (.m 61 11) <| .take (.o 62 (.bin .add 0) [.t 61,.k 1]) <| .take (.m 63 11) <| .take (.f 64 0 2) <| .take (.m 67 11) <| .take (.f 68 0 2) <| .take (.m 4 60) <| .take (.m 5 62) <| .alt (.l 65 64) ( .take (.o 66 (.bin .add 0) [.t 63,.t 65]) <| .take (.m 6 66) <| .al (.l 69 68) ( .take (.o 70 (.bin .add 0) [.t 67,.t 69]) <| .take (.o 71 (.bin .add 0) [.t 70,.k 1]) <| .take (.m 7 71) <| .take (.o 8 .mv [.kb true]) <| .done)) <| .al (.l 69 68) ( .take (.o 70 (.bin .add 0) [.t 67,.t 69]) <| .take (.o 71 (.bin .add 0) [.t 70,.k 1]) <| .al (.l 65 64) ( .take (.o 66 (.bin .add 0) [.t 63,.t 65]) <| .take (.m 6 66) <| .take (.m 7 71) <| .take (.o 8 .mv [.kb true]) <| .done)))) <| .ret
@[simp] abbrev P8:Nat:= 199
def P9:ACode:= .seq (.reg [.o 3 .box [.t 0],.o 6 .mv [.kb false]]) <| .seq (.seq (.reg [.la 12 3 3,.m 13 1,.o 14 (.call 122 []) [.t 12,.t 13],.o 15 (.un .not) [.t 14],.m 16 15,.mg 17 2 16 false,.g 18 (.load true 3) [.t 3] 16 false,.g 19 (.call 225 []) [.t 18] 16 false,.g 20 (.bin .sub 0) [.t 19,.k 1] 16 false,.g 21 (.call 106 []) [.t 17,.k 0,.t 20] 16 false,.g 22 (.un .not) [.t 21] 16 false,.o 23 .pick [.t 16,.kb true,.t 22]]) <| .cond (.t 23) ( .seq (.reg [.o 6 .mv [.kb false]]) <| .ret) ( .skip)) <| .seq (.reg [.la 25 3 3,.m 26 2,.o 27 (.call 200 []) [.t 25,.t 26],.m 24 27,.e 28 0 24,.e 29 1 24,.e 30 2 24,.e 31 3 24,.e 32 4 24,.m 7 28,.m 8 29,.m 9 30,.m 10 31,.m 11 32]) <| .seq (.reg [.m 33 11,.m 34 33,.mg 35 1 34 true,.mg 36 7 34 true,.g 37 (.iadr 1) [.t 35,.t 36] 34 true,.lg 38 37 34 true,.g 39 (.bin .eql 0) [.t 38,.k 1] 34 true,.mg 40 39 34 true,.mg 41 1 40 true,.mg 42 9 40 true,.g 43 (.iadr 1) [.t 41,.t 42] 40 true,.lg 44 43 40 true,.g 45 (.bin .eql 0) [.t 44,.k 1] 40 true,.g 46 .pick [.t 40,.t 45,.kb false] 34 true,.mg 47 46 34 true,.mg 48 1 47 false,.mg 49 7 47 false,.g 50 (.iadr 1) [.t 48,.t 49] 47 false,.lg 51 50 47 false,.g 52 (.bin .eql 0) [.t 51,.k 2] 47 false,.mg 53 52 47 false,.mg 54 1 53 true,.mg 55 8 53 true,.g 56 (.iadr 1) [.t 54,.t 55] 53 true,.lg 57 56 53 true,.g 58 (.bin .eql 0) [.t 57,.k 2] 53 true,.g 59 .pick [.t 53,.t 58,.kb false] 47 false,.g 60 .pick [.t 47,.kb true,.t 59] 34 true,.o 61 .pick [.t 34,.t 60,.kb false],.m 6 61]) <| .ret
@[simp] abbrev QA:Nat:= 142
def QB:ACode:= .seq (.reg [.o 3 .box [.t 0],.o 6 .mv [.c (.os 1 [])],.o 7 .mv [.kb false]]) <| .seq (.seq (.reg [.la 14 3 3,.m 15 1,.o 16 (.call 122 []) [.t 14,.t 15],.o 17 (.un .not) [.t 16]]) <| .cond (.t 17) ( .seq (.reg [.o 18 (.bsl 1) [],.m 6 18,.o 7 .mv [.kb false]]) <| .ret) ( .skip)) <| .seq (.reg [.o 19 (.bsl 1) [],.m 20 1,.o 21 (.app 1 8 true) [.t 19,.t 20],.m 8 21]) <| .seq (.seq (.reg [.la 22 3 3,.m 23 1,.m 24 2,.o 25 (.call 199 []) [.t 22,.t 23,.t 24],.o 26 (.un .not) [.t 25]]) <| .cond (.t 26) ( .seq (.reg [.m 27 8,.m 6 27,.o 7 .mv [.kb false]]) <| .ret) ( .skip)) <| .seq (.reg [.la 29 3 3,.m 30 2,.o 31 (.call 200 []) [.t 29,.t 30],.m 28 31,.e 32 0 28,.e 33 1 28,.e 34 2 28,.e 35 3 28,.e 36 4 28,.m 9 32,.m 10 33,.m 11 34,.m 12 35,.m 13 36]) <| .seq (.seq (.reg [.m 37 1,.m 38 9,.o 39 (.iadr 1) [.t 37,.t 38],.l 40 39,.o 41 (.bin .eql 0) [.t 40,.k 1]]) <| .cond (.t 41) ( .seq (.reg [.m 42 8,.m 43 9,.o 44 (.iadr 1) [.t 42,.t 43],.s (.store 1) [.t 44,.k 2]]) <| .seq (.reg [.m 45 8,.m 46 10,.o 47 (.iadr 1) [.t 45,.t 46],.s (.store 1) [.t 47,.k 2]]) <| .seq (.reg [.m 48 8,.m 49 11,.o 50 (.iadr 1) [.t 48,.t 49],.s (.store 1) [.t 50,.k 4]]) <| .reg [.m 51 8,.m 52 12,.o 53 (.iadr 1) [.t 51,.t 52],.s (.store 1) [.t 53,.k 4]]) ( .seq (.reg [.m 54 8,.m 55 9,.o 56 (.iadr 1) [.t 54,.t 55],.s (.store 1) [.t 56,.k 1]]) <| .seq (.reg [.m 57 8,.m 58 11,.o 59 (.iadr 1) [.t 57,.t 58],.s (.store 1) [.t 59,.k 1]]) <| .seq (.reg [.m 60 8,.m 61 10,.o 62 (.iadr 1) [.t 60,.t 61],.s (.store 1) [.t 62,.k 3]]) <| .reg [.m 63 8,.m 64 12,.o 65 (.iadr 1) [.t 63,.t 64],.s (.store 1) [.t 65,.k 3]])) <| .seq (.reg [.m 66 8,.m 6 66,.o 7 .mv [.kb true]]) <| .ret
@[simp] abbrev Ht:Nat:= 72
abbrev Ak:Plan:= .al (.o 30 (.app 1 8 true) [.t 24,.t 29]) ( .al (.o 31 (.bsl 1) [.t 30]) ( .al (.o 32 (.app 1 24 false) [.t 23,.t 31]) ( .take (.f 33 5 3) <| .al (.s (.store 1) [.t 33,.t 32]) ( .done))))
abbrev FN:Plan:= .alt (.l 23 22) Ak <| .al (.o 30 (.app 1 8 true) [.t 24,.t 29]) ( .alt (.l 23 22) ( .al (.o 31 (.bsl 1) [.t 30]) ( .al (.o 32 (.app 1 24 false) [.t 23,.t 31]) ( .take (.f 33 5 3) <| .al (.s (.store 1) [.t 33,.t 32]) ( .done)))) <| .al (.o 31 (.bsl 1) [.t 30]) ( .al (.l 23 22) ( .al (.o 32 (.app 1 24 false) [.t 23,.t 31]) ( .take (.f 33 5 3) <| .al (.s (.store 1) [.t 33,.t 32]) ( .done)))))
abbrev Iz:Plan:= .al (.l 26 25) ( .take (.o 28 (.iadr 1) [.t 26,.t 27]) <| .al (.l 29 28) Ak)
def He:ACode:= .seq (.seq (.reg [.m 15 4,.f 16 5 1,.l 17 16,.n 18 17,.o 19 (.bin .lss 0) [.t 15,.t 18]]) <| .cond (.t 19) ( .skip) ( .exit 0)) <| .seq (.block 1 ( .draw ( .take (.f 22 5 3) <| .take (.f 25 5 1) <| .take (.m 27 4) <| .alt (.l 23 22) ( .alt (.o 24 (.bsl 1) []) Iz <| .al (.l 26 25) ( .take (.o 28 (.iadr 1) [.t 26,.t 27]) <| .alt (.o 24 (.bsl 1) []) ( .al (.l 29 28) Ak) <| .al (.l 29 28) ( .al (.o 24 (.bsl 1) []) Ak))) <| .alt (.o 24 (.bsl 1) []) ( .alt (.l 23 22) Iz <| .al (.l 26 25) ( .take (.o 28 (.iadr 1) [.t 26,.t 27]) <| .alt (.l 23 22) ( .al (.l 29 28) Ak) <| .al (.l 29 28) FN)) <| .al (.l 26 25) ( .take (.o 28 (.iadr 1) [.t 26,.t 27]) <| .alt (.l 23 22) ( .alt (.o 24 (.bsl 1) []) ( .al (.l 29 28) Ak) <| .al (.l 29 28) ( .al (.o 24 (.bsl 1) []) Ak)) <| .alt (.o 24 (.bsl 1) []) ( .alt (.l 23 22) ( .al (.l 29 28) Ak) <| .al (.l 29 28) FN) <| .al (.l 29 28) ( .alt (.l 23 22) ( .al (.o 24 (.bsl 1) []) Ak) <| .al (.o 24 (.bsl 1) []) FN))))) <| .reg [.m 20 4,.o 21 (.bin .add 0) [.t 20,.k 1],.m 4 21]
def Ld:ACode:= .seq (.reg [.o 1 .box [.t 0],.o 2 (.alloc bz) []]) <| .seq (.reg [.f 5 0 1,.la 6 3 5,.f 7 3 1,.l 8 7,.o 9 (.call 119 []) [.t 6,.t 8],.o 3 (.alloc bz) [],.s (.store 6) [.t 3,.t 9]]) <| .seq (.reg [.o 10 (.bsl 1) [],.f 11 4 1,.l 12 11,.o 13 (.app 1 8 true) [.t 10,.t 12],.f 14 4 3,.s (.store 1) [.t 14,.t 13]]) <| .seq (.seq (.reg [.o 4 .mv [.k 0]]) <| .block 0 ( .loop [] [1,2,3,4] He)) <| .seq (.reg [.la 34 6 3,.s (.store 6) [.t 2,.t 34]]) <| .ret
@[simp] abbrev Gh:Nat:= 73
def DV:ACode:= .seq (.seq (.reg [.m 109 8,.o 110 (.un .not) [.t 109],.m 111 110,.fg 112 0 2 111 false,.g 113 (.load true 3) [.t 112] 111 false,.fg 114 3 2 111 false,.lg 115 114 111 false,.mg 116 7 111 false,.g 117 (.call 59 []) [.t 113,.t 115,.t 116] 111 false,.g 118 (.un .not) [.t 117] 111 false,.o 119 .pick [.t 111,.kb true,.t 118]]) <| .cond (.t 119) ( .seq (.reg [.la 120 6 6,.s (.store 6) [.t 4,.t 120],.o 5 .mv [.kb false]]) <| .ret) ( .skip)) <| .seq (.reg [.f 121 5 6,.l 122 121,.f 123 4 6,.l 124 123,.o 125 (.bsl 1) [.t 124],.o 126 (.app 1 24 false) [.t 122,.t 125],.f 127 5 6,.s (.store 1) [.t 127,.t 126]]) <| .seq (.seq (.reg [.f 128 5 6,.l 129 128,.n 130 129,.o 131 (.bin .gtr 0) [.t 130,.k 20]]) <| .cond (.t 131) ( .reg [.f 132 5 6,.l 133 132,.o 134 (.slice 1 false true false false) [.t 133,.k 1],.f 135 5 6,.s (.store 1) [.t 135,.t 134]]) ( .skip)) <| .seq (.reg [.m 136 7,.f 137 4 6,.s (.store 1) [.t 137,.t 136]]) <| .seq (.reg [.la 138 6 6,.s (.store 6) [.t 4,.t 138],.o 5 .mv [.kb true]]) <| .ret
abbrev C9:Plan:= .al (.o 84 (.call 144 []) [.t 81,.t 83]) ( .take (.o 85 (.bin .gtr 0) [.t 79,.t 84]) <| .take (.m 8 85) <| .done)
abbrev EN:Plan:= .al (.o 79 (.call 144 []) [.t 77,.t 78]) C9
abbrev LI:Plan:= .alt (.o 79 (.call 144 []) [.t 77,.t 78]) ( .al (.la 81 3 80) C9) <| .al (.la 81 3 80) EN
abbrev LJ:Plan:= .alt (.o 79 (.call 144 []) [.t 77,.t 78]) ( .al (.l 83 82) C9) <| .al (.l 83 82) EN
def O1:ACode:= .draw ( .take (.f 76 0 2) <| .take (.m 78 7) <| .take (.f 80 0 2) <| .take (.f 82 4 2) <| .alt (.la 77 3 76) ( .alt (.o 79 (.call 144 []) [.t 77,.t 78]) ( .alt (.la 81 3 80) ( .al (.l 83 82) C9) <| .al (.l 83 82) ( .al (.la 81 3 80) C9)) <| .alt (.la 81 3 80) LJ <| .al (.l 83 82) LI) <| .alt (.la 81 3 80) ( .alt (.la 77 3 76) LJ <| .al (.l 83 82) ( .al (.la 77 3 76) EN)) <| .al (.l 83 82) ( .alt (.la 77 3 76) LI <| .al (.la 81 3 80) ( .al (.la 77 3 76) EN)))
def JG:ACode:= .seq (.reg [.o 2 .box [.t 0],.o 3 .box [.t 1],.o 4 (.alloc bz) [],.o 5 .mv [.kb false]]) <| .seq (.seq (.reg [.la 9 6 2,.o 10 (.call 18 []) [.t 9],.o 11 (.un .not) [.t 10]]) <| .cond (.t 11) ( .seq (.reg [.o 12 (.build bz []) [],.s (.store 6) [.t 4,.t 12],.o 5 .mv [.kb false]]) <| .ret) ( .skip)) <| .seq (.reg [.la 13 6 2,.o 14 (.call 72 []) [.t 13],.o 6 (.alloc bz) [],.s (.store 6) [.t 6,.t 14]]) <| .seq (.reg [.o 15 (.bsl 1) [],.m 7 15]) <| .seq (.reg [.o 8 .mv [.kb false]]) <| .seq (.block 0 ( .seq (.reg [.la 17 3 3,.o 18 (.call 105 []) [.t 17],.o 19 (.un .not) [.t 18],.m 16 19]) <| .cond (.t 16) ( .seq (.reg [.la 20 6 6,.s (.store 6) [.t 4,.t 20],.o 5 .mv [.kb false]]) <| .ret) ( .seq (.reg [.f 22 0 3,.l 23 22,.o 24 (.bin .eql 0) [.t 23,.k 0],.m 21 24]) <| .cond (.t 21) ( .reg [.f 26 0 2,.la 27 3 26,.f 28 4 2,.l 29 28,.f 30 1 3,.l 31 30,.f 32 2 3,.l 33 32,.o 34 (.call 140 []) [.t 27,.t 29,.t 31,.t 33],.m 25 34,.e 35 0 25,.e 36 1 25,.m 7 35,.m 8 36]) ( .seq (.reg [.f 38 0 3,.l 39 38,.o 40 (.bin .eql 0) [.t 39,.k 1],.m 37 40]) <| .cond (.t 37) ( .reg [.f 42 0 2,.la 43 3 42,.f 44 4 2,.l 45 44,.f 46 1 3,.l 47 46,.o 48 (.call 141 []) [.t 43,.t 45,.t 47],.m 41 48,.e 49 0 41,.e 50 1 41,.m 7 49,.m 8 50]) ( .seq (.reg [.f 52 0 3,.l 53 52,.o 54 (.bin .eql 0) [.t 53,.k 2],.m 51 54]) <| .cond (.t 51) ( .reg [.f 56 0 2,.la 57 3 56,.f 58 4 2,.l 59 58,.f 60 1 3,.l 61 60,.o 62 (.call 142 []) [.t 57,.t 59,.t 61],.m 55 62,.e 63 0 55,.e 64 1 55,.m 7 63,.m 8 64]) ( .seq (.reg [.f 66 0 3,.l 67 66,.o 68 (.bin .eql 0) [.t 67,.k 3],.m 65 68]) <| .cond (.t 65) ( .seq (.reg [.f 69 0 2,.la 70 3 69,.f 71 3 2,.l 72 71,.f 73 4 2,.l 74 73,.o 75 (.call 143 []) [.t 70,.t 72,.t 74],.m 7 75]) <| O1) ( .seq (.reg [.f 87 5 6,.l 88 87,.n 89 88,.o 90 (.bin .gtr 0) [.t 89,.k 0],.m 86 90]) <| .cond (.t 86) ( .seq (.own [(.op,.f 91 5 6),(.op,.l 92 91),(.op,.f 93 5 6),(.op,.l 94 93),(.op,.n 95 94),(.op,.o 96 (.bin .sub 0) [.t 95,.k 1]),(.op,.o 97 (.iadr 1) [.t 92,.t 96]),(.take,.l 98 97),(.op,.f 99 4 6),(.op,.s (.store 1) [.t 99,.t 98])]) <| .seq (.reg [.f 100 5 6,.l 101 100,.f 102 5 6,.l 103 102,.n 104 103,.o 105 (.bin .sub 0) [.t 104,.k 1],.o 106 (.slice 1 false false true false) [.t 101,.t 105],.f 107 5 6,.s (.store 1) [.t 107,.t 106]]) <| .seq (.reg [.la 108 6 6,.s (.store 6) [.t 4,.t 108],.o 5 .mv [.kb true]]) <| .ret) ( .skip)))))))) <| DV
theorem an (ls:List Int) (ps:List (List Int)) (h:ps.length ≤ 20):FY ls ps = if 20 < ps.length + 1 then (ps ++ [ls]).drop 1 else ps ++ [ls]:= by
 unfold FY
 split
 ·rw [show ps.length + 1 - 20 = 1 by omega]
 ·rw [show ps.length + 1 - 20 = 0 by omega]; rfl
abbrev bdF (post:AV → List AV → Prop):= bZ [RV.c 4 true 6,RV.t 5] 139 2 [false,false] post
abbrev bdH (W T:Int) (cs:List Bool) (ds ls:List Int) (ps:List (List Int)) (kind spot way:Int) (n:List Int):AN:=
 [some (.box [.v (.int .i64 W),.v (.int .i64 T),.sl 1 1 (AC cs),.sl 1 1 (AB ds),.sl 1 1 (AB ls),.sl 1 1 (sls 1 ps)]),
  some (.box [.v (.int .i64 kind),.v (.int .i64 spot),.v (.int .i64 way)]),
  some (.box [.v (.int .i64 0),.v (.int .i64 0),.os 1 [],.os 1 [],.os 1 [],.os 1 []]),
  some (.arr 1 (AC cs)),some (.arr 1 (AB ds)),some (.arr 1 (AB ls)),some (.arr 1 (oss ps)),
  some (.box [.v (.int .i64 W),.v (.int .i64 T),.ls 1 3 0 cs.length,.ls 1 4 0 ds.length,.ls 1 5 0 ls.length,.ls 1 6 0 ps.length]),
  some (.arr 1 []),some (.arr 1 (AB n))]
theorem tG (W T:Int) (cs:List Bool) (ds ls:List Int) (ps:List (List Int)) (kind spot way:Int) (n:List Int) (b:Bool)
  (hc:cs.length ≤ 40) (hd:ds.length ≤ 40) (hl:ls.length ≤ 40) (hps:ps.length ≤ 20) (hn:n.length ≤ 40) (post:AV → List AV → Prop)
  (p0:(b && Ad W T cs ds n) = false → post (.tup [bkO W T cs ds ls ps,.v (.bool false)]) [.bot,.bot])
  (p1:(b && Ad W T cs ds n) = true → post (.tup [bkO W T cs ds n (FY ls ps),.v (.bool true)]) [.bot,.bot]) (E:ES)
  (e2:get E 2 = .lp 0 0 0 0) (e4:get E 4 = .lp 0 2 0 0) (e6:get E 6 = .lp 0 7 0 0) (e7:get E 7 = .ls 1 9 0 n.length) (e8:get E 8 = .v (.bool b)):
  awp Tryz.prog md5 DV (bdF post) E (bdH W T cs ds ls ps kind spot way n):= by
 have fair:= Bm W T cs ds n (by omega) (by omega) (by omega)
 have htn:(AB n).take n.length = AB n:= AE n
 cases b with
 | false =>
   simp [DV,e2,e4,e6,e7,e8]
   exact ⟨_,_,p0 rfl,by simp [e4]⟩
 | true =>
   simp [DV,e2,e4,e6,e7,e8]
   refine AA fair ?_
   cases hf:Ad W T cs ds n with
   | false =>
     simp [e2,e4,e6,e7,e8]
     exact ⟨_,_,p0 (by simp [hf]),by simp [e4]⟩
   | true =>
     have p1:= p1 (by simp [hf])
     have key:oss ps ++ [.os 1 (AB ls)] = oss (ps ++ [ls]):= by rw [L3,TO]
     by_cases h20:20 < ps.length + 1
     ·have h20':(20:Int) < ps.length + 1:= by omega
      have e:FY ls ps = (ps ++ [ls]).drop 1:= by rw [an _ _ hps,if_pos h20]
      rw [e] at p1
      have hw:((oss (ps ++ [ls])).drop 1).take ps.length = oss ((ps ++ [ls]).drop 1):= by
       have e2:(oss (ps ++ [ls])).drop 1 = oss ((ps ++ [ls]).drop 1):= by simp [oss]
       rw [e2]
       exact List.take_of_length_le (by simp [oss])
      simp [e2,e4,e6,e7,e8,key,h20']
      have h1p:1 + ps.length ≤ ps.length + 1:= by omega
      rw [List.drop_one,List.drop_one] at hw
      exact ⟨by omega,_,_,p1,by simp [e4,hw,htn,h1p]⟩
     ·have h20':¬ (20:Int) < ps.length + 1:= by omega
      have e:FY ls ps = ps ++ [ls]:= by rw [an _ _ hps,if_neg h20]
      rw [e] at p1
      have hw:(oss (ps ++ [ls])).take (ps.length + 1) = oss (ps ++ [ls]):= List.take_of_length_le (by simp [oss])
      simp [e2,e4,e6,e7,e8,key,h20']
      exact ⟨by omega,_,_,p1,by simp [e4,hw,htn]⟩
theorem XT (k:cFn Tryz.prog Gh 139 [.c 4 true 6,.t 5] JG) (W T:Int) (cs:List Bool) (ds ls:List Int) (ps:List (List Int)) (kind spot way:Int)
  (hc:cs.length ≤ 40) (hd:ds.length ≤ 40) (hl:ls.length ≤ 40) (hps:ps.length ≤ 20) (hp:∀ p ∈ ps,p.length ≤ 40)
  (ok named:Bool) (n:List Int) (b:Bool) (m0 m1:Int)
  (hv:SoundAt Tryz.prog 18 [bkA W T cs ds ls ps] (.v (.bool ok)) [.bot])
  (hcopy:ok = true → SoundAt Tryz.prog 72 [bkA W T cs ds ls ps] (bkO W T cs ds ls ps) [.bot])
  (hnamed:SoundAt Tryz.prog 105 [Nx kind spot way] (.v (.bool named)) [.bot])
  (h0:ok = true → kind = 0 → SoundAt Tryz.prog 140 [.agg [.v (.int .i64 W),.v (.int .i64 T),.sl 1 1 (AC cs)],.sl 1 1 (AB ls),.v (.int .i64 spot),.v (.int .i64 way)] (.tup [.os 1 (AB n),.v (.bool b)]) [.bot,.bot,.bot,.bot])
  (h1:ok = true → kind = 1 → SoundAt Tryz.prog Hs [.agg [.v (.int .i64 W),.v (.int .i64 T),.sl 1 1 (AC cs)],.sl 1 1 (AB ls),.v (.int .i64 spot)] (.tup [.os 1 (AB n),.v (.bool b)]) [.bot,.bot,.bot])
  (h2:ok = true → kind = 2 → SoundAt Tryz.prog 142 [.agg [.v (.int .i64 W),.v (.int .i64 T),.sl 1 1 (AC cs)],.sl 1 1 (AB ls),.v (.int .i64 spot)] (.tup [.os 1 (AB n),.v (.bool b)]) [.bot,.bot,.bot])
  (h3:ok = true → kind = 3 → SoundAt Tryz.prog 143 [.agg [.v (.int .i64 W),.v (.int .i64 T),.sl 1 1 (AC cs)],.sl 1 1 (AB ds),.sl 1 1 (AB ls)] (.os 1 (AB n)) [.bot,.bot,.bot])
  (h4:SoundAt Tryz.prog 144 [.agg [.v (.int .i64 W),.v (.int .i64 T),.sl 1 1 (AC cs)],.sl 1 1 (AB n)] (.v (.int .i64 m0)) [.bot,.bot])
  (h5:SoundAt Tryz.prog 144 [.agg [.v (.int .i64 W),.v (.int .i64 T),.sl 1 1 (AC cs)],.sl 1 1 (AB ls)] (.v (.int .i64 m1)) [.bot,.bot])
  (hb3:ok = true → kind = 3 → b = decide (m1 < m0)) (hn:n.length ≤ 40) (post:AV → List AV → Prop)
  (pz:ok = false → post (.tup [bkO 0 0 [] [] [] [],.v (.bool false)]) [.bot,.bot])
  (pn:ok = true → named = false → post (.tup [bkO W T cs ds ls ps,.v (.bool false)]) [.bot,.bot])
  (pe:ok = true → named = true → (kind ≠ 0 ∧ kind ≠ 1 ∧ kind ≠ 2 ∧ kind ≠ 3) → ps = [] → post (.tup [bkO W T cs ds ls ps,.v (.bool false)]) [.bot,.bot])
  (pb:ok = true → named = true → (kind ≠ 0 ∧ kind ≠ 1 ∧ kind ≠ 2 ∧ kind ≠ 3) → ∀ q qs,ps = qs ++ [q] → post (.tup [bkO W T cs ds q qs,.v (.bool true)]) [.bot,.bot])
  (p0:ok = true → named = true → (kind = 0 ∨ kind = 1 ∨ kind = 2 ∨ kind = 3) → (b && Ad W T cs ds n) = false → post (.tup [bkO W T cs ds ls ps,.v (.bool false)]) [.bot,.bot])
  (p1:ok = true → named = true → (kind = 0 ∨ kind = 1 ∨ kind = 2 ∨ kind = 3) → (b && Ad W T cs ds n) = true → post (.tup [bkO W T cs ds n (FY ls ps),.v (.bool true)]) [.bot,.bot]):
  SoundSet Tryz.prog Gh [bkA W T cs ds ls ps,Nx kind spot way] post:= by
 refine KW (md:= md5) (ms:= [false,false]) k (by simp) ?_
 simp [JG]
 refine AA hv ?_
 cases ok with
 | false =>
   simp
   exact ⟨_,_,pz rfl,by simp⟩
 | true =>
 have hcopy:= hcopy rfl
 simp
 refine AA hcopy ?_
 simp
 refine AA hnamed ?_
 cases named with
 | false =>
   simp
   exact ⟨_,_,pn rfl rfl,by simp⟩
 | true =>
 have fall:(kind = 0 ∨ kind = 1 ∨ kind = 2 ∨ kind = 3) → ∀ E,get E 2 = .lp 0 0 0 0 → get E 4 = .lp 0 2 0 0 → get E 6 = .lp 0 7 0 0 → get E 7 = .ls 1 9 0 n.length → get E 8 = .v (.bool b) →
   awp Tryz.prog md5 DV (bdF post) E (bdH W T cs ds ls ps kind spot way n):= by
  intro hm E e2 e4 e6 e7 e8
  exact tG W T cs ds ls ps kind spot way n b hc hd hl hps hn post (p0 rfl rfl hm) (p1 rfl rfl hm) E e2 e4 e6 e7 e8
 simp
 refine ⟨fun hk => ?_,fun hk0 => ⟨fun hk => ?_,fun hk1 => ⟨fun hk => ?_,fun hk2 => ⟨fun hk => ?_,fun hk3 => ?_⟩⟩⟩⟩
 ·refine AA (h0 rfl hk) ?_
  simp
  exact fall (.inl hk) _ rfl rfl rfl rfl rfl
 ·refine AA (h1 rfl hk) ?_
  simp
  exact fall (.inr (.inl hk)) _ rfl rfl rfl rfl rfl
 ·refine AA (h2 rfl hk) ?_
  simp
  exact fall (.inr (.inr (.inl hk))) _ rfl rfl rfl rfl rfl
 ·refine AA (h3 rfl hk) ?_
  simp [O1]
  (repeat' first | omega | apply And.intro) <;>
  ·refine AA h4 ?_
   simp
   (repeat' first | omega | apply And.intro) <;>
   ·refine AA h5 ?_
    simp
    exact fall (.inr (.inr (.inr hk))) _ rfl rfl rfl rfl (by rw [hb3 rfl hk]; rfl)
 ·rcases List.eq_nil_or_concat ps with rfl | ⟨qs,q,hqq⟩
  ·refine ⟨fun h => by simp at h,fun _ => ?_⟩
   simp [DV]
   exact ⟨_,_,pe rfl rfl ⟨hk0,hk1,hk2,hk3⟩ rfl,by simp⟩
  ·rw [List.concat_eq_append] at hqq
   subst hqq
   refine ⟨fun _ => ?_,fun h => by simp at h⟩
   have el:(qs ++ [q]).length = qs.length + 1:= by simp
   have he:(oss (qs ++ [q]))[qs.length]? = some (.os 1 (AB q)):= by simp [oss]
   have hi1:qs.length + 1 - 1 = qs.length:= by omega
   rw [el]
   refine ⟨by omega,by omega,?_⟩
   refine Z3 rfl rfl (by rw [hi1]; exact he) ?_
   intro u
   have hw4:((oss (qs ++ [q])).set qs.length (.v u)).take qs.length = oss qs:= by
    rw [List.take_set_of_le (Nat.le_refl _)]
    simp [oss]
   have htq:(AB q).take q.length = AB q:= AE q
   simp [RJ]
   exact ⟨by omega,_,_,pb rfl rfl ⟨hk0,hk1,hk2,hk3⟩ q qs rfl,by simp [hw4,htq]⟩
set_option maxHeartbeats 4000000 in
theorem QC (k:cFn Tryz.prog Ht 35 [.c 2 true 6] Ld) (W T:Int) (cs:List Bool) (ds ls n0:List Int) (ps:List (List Int))
  (hc:cs.length ≤ 40) (hd:ds.length ≤ 40) (hl:ls.length ≤ 40) (hps:ps.length ≤ 100) (hp:∀ p ∈ ps,p.length ≤ 40) (h0:n0.length ≤ 40)
  (hnew:SoundAt Tryz.prog 119 [.agg [.v (.int .i64 W),.v (.int .i64 T),.sl 1 1 (AC cs)],.sl 1 1 (AB ds)] (bkO W T cs ds n0 []) [.bot,.bot]):
  SoundAt Tryz.prog Ht [bkA W T cs ds ls ps] (bkO W T cs ds ls ps) [.bot]:= by
 refine AG (md:= md5) (ms:= [false]) k (by simp) ?_
 simp [Ld]
 refine AA hnew ?_
 simp
 refine ⟨by omega,?_⟩
 refine AF (fun m E H => ∃ i:Nat,m = ps.length - i ∧ i ≤ ps.length ∧ E = [(1,.lp 0 0 0 0),(2,.lp 0 1 0 0),(3,.lp 0 2 0 0),(4,.v (.int .i64 i))] ∧
  H = [some (.box [.v (.int .i64 W),.v (.int .i64 T),.sl 1 1 (AC cs),.sl 1 1 (AB ds),.sl 1 1 (AB ls),.sl 1 1 (sls 1 ps)]),
    some (.box [.v (.int .i64 0),.v (.int .i64 0),.os 1 [],.os 1 [],.os 1 [],.os 1 []]),
    some (.box [.v (.int .i64 W),.v (.int .i64 T),.ls 1 3 0 cs.length,.ls 1 4 0 ds.length,.ls 1 5 0 ls.length,.ls 1 6 0 i]),
    some (.arr 1 (AC cs)),some (.arr 1 (AB ds)),some (.arr 1 (AB ls)),some (.arr 1 (oss (ps.take i)))]) ps.length ⟨0,by simp⟩ ?_
 rintro J hJ m E H ⟨i,rfl,hi,rfl,rfl⟩
 by_cases h:i < ps.length
 ·have et:pti ps i = ps[i]:= Ih h
  have hpl:(pti ps i).length ≤ 40:= by rw [et]; exact hp _ (List.getElem_mem h)
  have hti:(ps.take i).length = i:= by simp; omega
  have key:oss (ps.take i) ++ [.os 1 (AB (pti ps i))] = oss (ps.take (i + 1)):= by
   rw [List.take_succ_eq_append_getElem h,L3,TO,et]
  have hm:min i ps.length = i:= by omega
  simp [He,h,hm,key]
  exact ⟨by omega,by omega,by omega,_,by omega,hJ _ _ _ ⟨i + 1,rfl,h,by simp,by simp⟩⟩
 ·have:i = ps.length:= by omega
  subst this
  have htk:(oss ps).take ps.length = oss ps:= List.take_of_length_le (by simp [oss])
  simp [He,htk]
@[simp] abbrev Hf:Nat:= 62
def Hg:ACode:= .seq (.reg [.o 1 .box [.t 0],.o 2 .mv [.kb false]]) <| .seq (.seq (.reg [.f 3 0 1,.l 4 3]) <| .block 0 ( .seq (.reg [.o 6 (.bin .eql 0) [.t 4,.k 0],.m 5 6]) <| .cond (.t 5) ( .seq (.reg [.o 2 .mv [.kb true]]) <| .ret) ( .seq (.seq (.reg [.o 8 (.bin .eql 0) [.t 4,.k 1],.m 7 8]) <| .cond (.t 7) ( .skip) ( .reg [.o 9 (.bin .eql 0) [.t 4,.k 2],.m 7 9])) <| .cond (.t 7) ( .seq (.reg [.f 10 2 1,.l 11 10,.o 12 (.bin .eql 0) [.t 11,.k 0],.m 2 12]) <| .ret) ( .seq (.seq (.reg [.o 14 (.bin .eql 0) [.t 4,.k 3],.m 13 14]) <| .cond (.t 13) ( .skip) ( .reg [.o 15 (.bin .eql 0) [.t 4,.k 4],.m 13 15])) <| .cond (.t 13) ( .seq (.reg [.f 16 1 1,.l 17 16,.o 18 (.bin .eql 0) [.t 17,.k 0],.m 19 18,.fg 20 2 1 19 true,.lg 21 20 19 true,.g 22 (.bin .eql 0) [.t 21,.k 0] 19 true,.o 23 .pick [.t 19,.t 22,.kb false],.m 2 23]) <| .ret) ( .skip))))) <| .seq (.reg [.o 2 .mv [.kb false]]) <| .ret
theorem MR:cFn Tryz.prog Hf 24 [.t 2] Hg:= ⟨Tryz.f62,_,Tryz.func62,rfl,by kernel_rfl,by kernel_rfl,by kernel_rfl,by kernel_rfl⟩
@[simp] abbrev FO:Nat:= 238
def BB:ACode:= .seq (.seq (.reg [.m 19 1,.o 20 (.bin .lss 0) [.t 19,.k 0],.m 21 20,.mg 22 6 21 false,.fg 23 0 2 21 false,.lg 24 23 21 false,.g 25 (.bin .sub 0) [.t 24,.k 1] 21 false,.g 26 (.call 63 []) [.t 22,.k 1,.t 25] 21 false,.g 27 (.un .not) [.t 26] 21 false,.o 28 .pick [.t 21,.kb true,.t 27],.m 29 28,.mg 30 7 29 false,.fg 31 1 2 29 false,.lg 32 31 29 false,.g 33 (.bin .sub 0) [.t 32,.k 1] 29 false,.g 34 (.call 63 []) [.t 30,.k 1,.t 33] 29 false,.g 35 (.un .not) [.t 34] 29 false,.o 36 .pick [.t 29,.kb true,.t 35]]) <| .cond (.t 36) ( .seq (.reg [.o 37 (.build [.v (.int .i64 (0)),.v (.int .i64 (0)),.v (.int .i64 (0)),.v (.int .i64 (0))] []) [],.s (.store 4) [.t 4,.t 37],.o 5 .mv [.kb false]]) <| .ret) ( .skip)) <| .seq (.reg [.m 38 7,.o 39 (.bin .sub 0) [.t 38,.k 1],.f 40 0 2,.l 41 40,.o 42 (.bin .mul 0) [.t 39,.t 41],.m 43 6,.o 44 (.bin .add 0) [.t 42,.t 43],.o 45 (.bin .sub 0) [.t 44,.k 1],.m 8 45]) <| .seq (.reg [.m 46 8,.m 47 8,.o 48 (.bin .add 0) [.t 47,.k 1],.m 49 8,.f 50 0 2,.l 51 50,.o 52 (.bin .add 0) [.t 49,.t 51],.m 53 8,.f 54 0 2,.l 55 54,.o 56 (.bin .add 0) [.t 53,.t 55],.o 57 (.bin .add 0) [.t 56,.k 1],.o 58 (.build [.v (.int .i64 (0)),.v (.int .i64 (0)),.v (.int .i64 (0)),.v (.int .i64 (0))] [(0,1),(1,1),(2,1),(3,1)]) [.t 46,.t 48,.t 52,.t 57],.s (.store 4) [.t 4,.t 58],.o 5 .mv [.kb true]]) <| .ret
def DI:ACode:= .seq (.reg [.o 2 .box [.t 0],.o 4 (.alloc [.v (.int .i64 (0)),.v (.int .i64 (0)),.v (.int .i64 (0)),.v (.int .i64 (0))]) [],.o 5 .mv [.kb false]]) <| .seq (.draw ( .take (.m 9 1) <| .take (.f 10 0 2) <| .take (.m 14 1) <| .take (.f 15 0 2) <| .alt (.l 11 10) ( .take (.o 12 (.bin .add 0) [.t 11,.k 1]) <| .take (.o 13 (.bin .rem 0) [.t 9,.t 12]) <| .take (.m 6 13) <| .al (.l 16 15) ( .take (.o 17 (.bin .add 0) [.t 16,.k 1]) <| .take (.o 18 (.bin .quo 0) [.t 14,.t 17]) <| .take (.m 7 18) <| .done)) <| .al (.l 16 15) ( .take (.o 17 (.bin .add 0) [.t 16,.k 1]) <| .take (.o 18 (.bin .quo 0) [.t 14,.t 17]) <| .al (.l 11 10) ( .take (.o 12 (.bin .add 0) [.t 11,.k 1]) <| .take (.o 13 (.bin .rem 0) [.t 9,.t 12]) <| .take (.m 6 13) <| .take (.m 7 18) <| .done)))) <| .gc [] [1,2,4,6,7] BB
theorem Pd:cFn Tryz.prog FO 59 [.c 4 true 4,.t 5] DI:= ⟨Tryz.f238,_,Tryz.func238,rfl,by kernel_rfl,by kernel_rfl,by kernel_rfl,by kernel_rfl⟩
@[simp] abbrev HG:Nat:= 194
def Bp:ACode:= .seq (.reg [.o 14 (.bin .lss 0) [.t 13,.t 12]]) <| .seq (.cond (.t 14) ( .skip) ( .exit 0)) <| .seq (.block 1 ( .seq (.reg [.m 15 13,.m 5 15]) <| .seq (.draw ( .take (.m 16 0) <| .take (.m 17 5) <| .take (.o 18 (.iadr 1) [.t 16,.t 17]) <| .take (.m 20 1) <| .take (.m 21 5) <| .take (.o 22 (.iadr 1) [.t 20,.t 21]) <| .alt (.l 19 18) ( .al (.l 23 22) ( .take (.o 24 (.bin .neq 0) [.t 19,.t 23]) <| .done)) <| .al (.l 23 22) ( .al (.l 19 18) ( .take (.o 24 (.bin .neq 0) [.t 19,.t 23]) <| .done)))) <| .cond (.t 24) ( .seq (.reg [.o 4 .mv [.kb false]]) <| .ret) ( .skip))) <| .reg [.o 25 (.bin .add 0) [.t 13,.k 1],.m 13 25]
def HH:ACode:= .seq (.reg [.o 4 .mv [.kb false]]) <| .seq (.seq (.reg [.m 6 0,.n 7 6,.m 8 1,.n 9 8,.o 10 (.bin .neq 0) [.t 7,.t 9]]) <| .cond (.t 10) ( .seq (.reg [.o 4 .mv [.kb false]]) <| .ret) ( .skip)) <| .seq (.seq (.reg [.m 11 0,.n 12 11,.o 13 .mv [.k 0]]) <| .block 0 ( .loop [(0,1),(1,1)] [0,1,12,13] Bp)) <| .seq (.reg [.o 4 .mv [.kb true]]) <| .ret
theorem N2:cFn Tryz.prog HG 26 [.t 4] HH:= ⟨Tryz.f194,_,Tryz.func194,rfl,by kernel_rfl,by kernel_rfl,by kernel_rfl,by kernel_rfl⟩
theorem O2:cFn Tryz.prog J5 24 [.t 2] J6:= ⟨Tryz.f105,_,Tryz.func105,rfl,by kernel_rfl,by kernel_rfl,by kernel_rfl,by kernel_rfl⟩
theorem cR:cFn Tryz.prog WX 31 [.t 6] Mw:= ⟨Tryz.f243,_,Tryz.func243,rfl,by kernel_rfl,by kernel_rfl,by kernel_rfl,by kernel_rfl⟩
theorem Td:cFn Tryz.prog MP 13 [.t 2] MQ:= ⟨Tryz.f225,_,Tryz.func225,rfl,by kernel_rfl,by kernel_rfl,by kernel_rfl,by kernel_rfl⟩
theorem WY:cFn Tryz.prog Oz 72 [.t 4,.t 5,.t 6,.t 7,.t 8] O0:= ⟨Tryz.f200,_,Tryz.func200,rfl,by kernel_rfl,by kernel_rfl,by kernel_rfl,by kernel_rfl⟩
theorem XU:cFn Tryz.prog P8 62 [.t 6] P9:= ⟨Tryz.f199,_,Tryz.func199,rfl,by kernel_rfl,by kernel_rfl,by kernel_rfl,by kernel_rfl⟩
theorem XV:cFn Tryz.prog QA 67 [.t 6,.t 7] QB:= ⟨Tryz.f142,_,Tryz.func142,rfl,by kernel_rfl,by kernel_rfl,by kernel_rfl,by kernel_rfl⟩
theorem QD:cFn Tryz.prog Ht 35 [.c 2 true 6] Ld:= ⟨Tryz.f72,_,Tryz.func72,rfl,by kernel_rfl,by kernel_rfl,by kernel_rfl,by kernel_rfl⟩
theorem SY:cFn Tryz.prog Gh 139 [.c 4 true 6,.t 5] JG:= ⟨Tryz.f73,_,Tryz.func73,rfl,by kernel_rfl,by kernel_rfl,by kernel_rfl,by kernel_rfl⟩
theorem Qz:cFn Tryz.prog Fp 8 [.t 2] Jj:= ⟨Tryz.f189,_,Tryz.func189,rfl,by kernel_rfl,by kernel_rfl,by kernel_rfl,by kernel_rfl⟩
theorem Te:cFn Tryz.prog L4 6 [.t 2] L5:= ⟨Tryz.f135,_,Tryz.func135,rfl,by kernel_rfl,by kernel_rfl,by kernel_rfl,by kernel_rfl⟩
theorem SZ:cFn Tryz.prog GT 72 [.t 4,.t 5] BU:= ⟨Tryz.f136,_,Tryz.func136,rfl,by kernel_rfl,by kernel_rfl,by kernel_rfl,by kernel_rfl⟩
theorem XW:cFn Tryz.prog CW 90 [.t 4] BS:= ⟨Tryz.f65,_,Tryz.func65,rfl,by kernel_rfl,by kernel_rfl,by kernel_rfl,by kernel_rfl⟩
@[simp] abbrev Gi:Nat:= 237
abbrev EO:Plan:= .take (.g 30 (.bin .eql 0) [.t 29,.k 1] 24 true) <| .take (.o 31 .pick [.t 24,.t 30,.kb false]) <| .take (.m 6 31) <| .take (.m 7 45) <| .done
abbrev EP:Plan:= .take (.g 30 (.bin .eql 0) [.t 29,.k 1] 24 true) <| .take (.o 31 .pick [.t 24,.t 30,.kb false]) <| .take (.m 6 31) <| .al (.lg 43 42 38 true) ( .take (.g 44 (.bin .eql 0) [.t 43,.k 2] 38 true) <| .take (.o 45 .pick [.t 38,.t 44,.kb false]) <| .take (.m 7 45) <| .done)
abbrev EQ:Plan:= .take (.g 44 (.bin .eql 0) [.t 43,.k 2] 38 true) <| .take (.o 45 .pick [.t 38,.t 44,.kb false]) <| .al (.lg 29 28 24 true) EO
def Ff:BCode:= .seq (.base (.reg [.o 3 .box [.t 0],.o 6 .mv [.kb false],.o 7 .mv [.kb false]])) <| .seq (.base (.reg [.la 11 3 3,.m 12 2,.o 13 (.call 238 []) [.t 11,.t 12],.m 10 13,.e 14 0 10,.e 15 1 10,.o 8 (.alloc [.v (.int .i64 (0)),.v (.int .i64 (0)),.v (.int .i64 (0)),.v (.int .i64 (0))]) [],.s (.store 4) [.t 8,.t 14],.m 9 15])) <| .seq (.base (.seq (.reg [.m 16 9,.o 17 (.un .not) [.t 16]]) <| .cond (.t 17) ( .seq (.reg [.o 6 .mv [.kb false],.o 7 .mv [.kb false]]) <| .ret) ( .skip))) <| .frz 8 <| .seq (.early [.m 18 1,.f 19 0 8,.l 20 19,.o 21 (.iadr 1) [.t 18,.t 20],.l 22 21,.o 23 (.bin .eql 0) [.t 22,.k 1],.m 24 23,.mg 25 1 24 true,.fg 26 2 8 24 true,.m 32 1,.f 33 0 8,.l 34 33,.o 35 (.iadr 1) [.t 32,.t 34],.l 36 35,.o 37 (.bin .eql 0) [.t 36,.k 2],.m 38 37,.mg 39 1 38 true,.fg 40 1 8 38 true] ( .alt (.lg 27 26 24 true) ( .take (.g 28 (.iadr 1) [.t 25,.t 27] 24 true) <| .alt (.lg 29 28 24 true) ( .take (.g 30 (.bin .eql 0) [.t 29,.k 1] 24 true) <| .take (.o 31 .pick [.t 24,.t 30,.kb false]) <| .take (.m 6 31) <| .al (.lg 41 40 38 true) ( .take (.g 42 (.iadr 1) [.t 39,.t 41] 38 true) <| .al (.lg 43 42 38 true) ( .take (.g 44 (.bin .eql 0) [.t 43,.k 2] 38 true) <| .take (.o 45 .pick [.t 38,.t 44,.kb false]) <| .take (.m 7 45) <| .done))) <| .al (.lg 41 40 38 true) ( .take (.g 42 (.iadr 1) [.t 39,.t 41] 38 true) <| .alt (.lg 29 28 24 true) EP <| .al (.lg 43 42 38 true) EQ)) <| .al (.lg 41 40 38 true) ( .take (.g 42 (.iadr 1) [.t 39,.t 41] 38 true) <| .alt (.lg 27 26 24 true) ( .take (.g 28 (.iadr 1) [.t 25,.t 27] 24 true) <| .alt (.lg 29 28 24 true) EP <| .al (.lg 43 42 38 true) EQ) <| .al (.lg 43 42 38 true) ( .take (.g 44 (.bin .eql 0) [.t 43,.k 2] 38 true) <| .take (.o 45 .pick [.t 38,.t 44,.kb false]) <| .al (.lg 27 26 24 true) ( .take (.g 28 (.iadr 1) [.t 25,.t 27] 24 true) <| .al (.lg 29 28 24 true) EO))))) <| .base (.ret)
theorem Mx:j6 Tryz.prog Gi 46 [.t 6,.t 7] Ff:= ⟨Tryz.f237,_,Tryz.func237,rfl,by kernel_rfl,by kernel_rfl,by kernel_rfl,by kernel_rfl⟩
@[simp] abbrev LK:Nat:= 192
def I0:BCode:= .seq (.base (.reg [.o 3 .box [.t 0],.o 6 .mv [.c (.os 1 [])],.o 7 .mv [.kb false]])) <| .seq (.base (.reg [.m 13 1,.o 14 (.call 126 []) [.t 13],.m 8 14])) <| .seq (.base (.reg [.la 16 3 3,.m 17 1,.m 18 2,.o 19 (.call 237 []) [.t 16,.t 17,.t 18],.m 15 19,.e 20 0 15,.e 21 1 15,.m 9 20,.m 10 21])) <| .seq (.base (.reg [.la 23 3 3,.m 24 2,.o 25 (.call 238 []) [.t 23,.t 24],.m 22 25,.e 26 0 22,.e 27 1 22,.o 11 (.alloc [.v (.int .i64 (0)),.v (.int .i64 (0)),.v (.int .i64 (0)),.v (.int .i64 (0))]) [],.s (.store 4) [.t 11,.t 26],.m 12 27])) <| .frz 11 <| .seq (.block 0 ( .seq (.base (.reg [.m 29 9,.m 28 29])) <| .cond (.t 28) ( .early [.m 30 8,.f 31 0 11,.l 32 31,.m 33 8,.f 34 1 11,.l 35 34,.m 36 8,.f 37 2 11,.l 38 37,.m 39 8,.f 40 3 11,.l 41 40,.o 42 (.iadr 1) [.t 30,.t 32]] ( .al (.s (.store 1) [.t 42,.k 2]) ( .take (.o 43 (.iadr 1) [.t 33,.t 35]) <| .al (.s (.store 1) [.t 43,.k 2]) ( .take (.o 44 (.iadr 1) [.t 36,.t 38]) <| .al (.s (.store 1) [.t 44,.k 4]) ( .take (.o 45 (.iadr 1) [.t 39,.t 41]) <| .al (.s (.store 1) [.t 45,.k 4]) ( .done)))))) ( .seq (.base (.reg [.m 47 10,.m 46 47])) <| .cond (.t 46) ( .early [.m 48 8,.f 49 0 11,.l 50 49,.m 51 8,.f 52 1 11,.l 53 52,.m 54 8,.f 55 2 11,.l 56 55,.m 57 8,.f 58 3 11,.l 59 58,.o 60 (.iadr 1) [.t 48,.t 50]] ( .al (.s (.store 1) [.t 60,.k 1]) ( .take (.o 61 (.iadr 1) [.t 51,.t 53]) <| .al (.s (.store 1) [.t 61,.k 3]) ( .take (.o 62 (.iadr 1) [.t 54,.t 56]) <| .al (.s (.store 1) [.t 62,.k 1]) ( .take (.o 63 (.iadr 1) [.t 57,.t 59]) <| .al (.s (.store 1) [.t 63,.k 3]) ( .done)))))) ( .base (.skip))))) <| .base (.seq (.reg [.m 64 8,.m 65 9,.m 66 65,.mg 67 10 66 false,.o 68 .pick [.t 66,.kb true,.t 67],.m 6 64,.m 7 68]) <| .ret)
theorem Sa:j6 Tryz.prog LK 69 [.t 6,.t 7] I0:= ⟨Tryz.f192,_,Tryz.func192,rfl,by kernel_rfl,by kernel_rfl,by kernel_rfl,by kernel_rfl⟩
@[simp] abbrev QE:Nat:= 224
def MS:ACode:= .seq (.seq (.reg [.m 8 6,.la 9 3 2,.o 10 (.call 225 []) [.t 9],.o 11 (.bin .lss 0) [.t 8,.t 10]]) <| .cond (.t 11) ( .skip) ( .exit 0)) <| .seq (.block 1 ( .seq (.reg [.la 14 3 2,.m 15 1,.m 16 6,.o 17 (.call 199 []) [.t 14,.t 15,.t 16]]) <| .cond (.t 17) ( .reg [.m 18 5,.m 19 6,.o 20 (.bsl 1) [.t 19],.o 21 (.app 1 8 true) [.t 18,.t 20],.m 5 21]) ( .skip))) <| .reg [.m 12 6,.o 13 (.bin .add 0) [.t 12,.k 1],.m 6 13]
def QF:ACode:= .seq (.reg [.o 2 .box [.t 0],.o 4 .mv [.c (.os 1 [])]]) <| .seq (.reg [.o 7 (.bsl 1) [],.m 5 7]) <| .seq (.seq (.reg [.o 6 .mv [.k 0]]) <| .block 0 ( .loop [(1,1),(5,1)] [1,2,5,6] MS)) <| .seq (.reg [.m 22 5,.m 4 22]) <| .ret
theorem XX:cFn Tryz.prog QE 23 [.t 4] QF:= ⟨Tryz.f224,_,Tryz.func224,rfl,by kernel_rfl,by kernel_rfl,by kernel_rfl,by kernel_rfl⟩
def swI (W c:Int):Int:= (c / (W + 1) - 1) * W + c % (W + 1) - 1
def XY (W T c:Int):Bool:= decide (0 ≤ c ∧ 1 ≤ c % (W + 1) ∧ c % (W + 1) ≤ W - 1 ∧ 1 ≤ c / (W + 1) ∧ c / (W + 1) ≤ T - 1)
def Tf (W:Int) (ls:List Int) (c:Int):Bool:= decide (ati ls (swI W c) = 1) && decide (ati ls (swI W c + W) = 1)
def upB (W:Int) (ls:List Int) (c:Int):Bool:= decide (ati ls (swI W c) = 2) && decide (ati ls (swI W c + 1) = 2)
def Gz (W T:Int) (ls:List Int) (c:Int):Bool:= XY W T c && (Tf W ls c || upB W ls c)
def Tg (ls:List Int) (a W:Int) (p q r s:Int):List Int:= (((ls.set a.toNat p).set (a + 1).toNat q).set (a + W).toNat r).set (a + W + 1).toNat s
def Ik (W T:Int) (ls:List Int) (c:Int):List Int:=
 if Gz W T ls c = true then (if Tf W ls c = true then Tg ls (swI W c) W 2 2 4 4 else Tg ls (swI W c) W 1 3 1 3) else ls
theorem Dl (ls:List Int) (a W p q r s:Int):(Tg ls a W p q r s).length = ls.length:= by simp [Tg]
theorem aq (W T:Int) (ls:List Int) (c:Int):(Ik W T ls c).length = ls.length:= by
 unfold Ik; split
 ·split <;> exact Dl ..
 ·rfl
theorem au {W T c:Int} (hW:1 ≤ W) (h:XY W T c = true):
  ∃ x y:Int,0 ≤ x ∧ x + 1 < W ∧ 0 ≤ y ∧ y + 1 < T ∧ swI W c = y * W + x ∧ c % (W + 1) = x + 1 ∧ c / (W + 1) = y + 1:= by
 simp only [XY,decide_eq_true_eq] at h
 refine ⟨c % (W + 1) - 1,c / (W + 1) - 1,by omega,by omega,by omega,by omega,?_,by omega,by omega⟩
 unfold swI; omega
theorem cS {W T c:Int} (hW:1 ≤ W) (h:XY W T c = true):0 ≤ swI W c ∧ swI W c + W + 1 < W * T:= by
 obtain ⟨x,y,x0,x1,y0,y1,e,_⟩:= au hW h
 rw [e]
 have h1:0 ≤ y * W:= Int.mul_nonneg y0 (by omega)
 have h2:(y + 1 + 1) * W ≤ T * W:= Int.mul_le_mul_of_nonneg_right (by omega) (by omega)
 have h3:(y + 1 + 1) * W = y * W + W + W:= by rw [Int.add_mul,Int.add_mul,Int.one_mul]
 rw [Int.mul_comm T W] at h2
 omega
theorem PT {xs:List Int} {i k:Int} {v:Int} (h0:0 ≤ i) (h:i < xs.length) (hk:0 ≤ k):ati (xs.set i.toNat v) k = if k = i then v else ati xs k:= by
 have:= OD (xs:= xs) (i:= i.toNat) (k:= k.toNat) (v:= v) (by omega)
 rw [show ((k.toNat:Nat):Int) = k by omega] at this
 rw [this]
 by_cases e:k = i
 ·rw [if_pos e,if_pos (by omega)]
 ·rw [if_neg e,if_neg (by omega)]
theorem dr {ls:List Int} {a W p q r s k:Int} (h0:0 ≤ a) (hW:1 ≤ W) (h:a + W + 1 < ls.length) (hk:0 ≤ k):
  ati (Tg ls a W p q r s) k = if k = a + W + 1 then s else if k = a + W then r else if k = a + 1 then q else if k = a then p else ati ls k:= by
 unfold Tg
 rw [PT (by omega) (by simp; omega) hk,PT (by omega) (by simp; omega) hk,PT (by omega) (by simp; omega) hk,PT (by omega) (by omega) hk]
theorem iT {xs ys:List Int} (hl:xs.length = ys.length) (h:∀ k:Nat,k < xs.length → ati xs k = ati ys k):xs = ys:= by
 apply List.ext_getElem hl
 intro i h1 h2
 have:= h i h1
 simpa [ati,h1,h2] using this
theorem iU {W T x y:Int} (hW:1 ≤ W) (x0:0 ≤ x) (x1:x + 1 < W) (y0:0 ≤ y) (y1:y + 1 < T):
  AH W T (y * W + x) 1 = y * W + x + 1 ∧ AH W T (y * W + x) 2 = y * W + x + W ∧ AH W T (y * W + x + W) 1 = y * W + x + W + 1 ∧ AH W T (y * W + x + 1) 2 = y * W + x + 1 + W:= by
 have c1:= bn (W:= W) (x:= x) (y:= y) x0 (by omega)
 have c2:= bn (W:= W) (x:= x + 1) (y:= y) (by omega) (by omega)
 have c3:= bn (W:= W) (x:= x) (y:= y + 1) x0 (by omega)
 have hm:(y + 1) * W = y * W + W:= by rw [Int.add_mul,Int.one_mul]
 rw [show (y + 1) * W + x = y * W + x + W by omega] at c3
 rw [show y * W + (x + 1) = y * W + x + 1 by omega] at c2
 refine ⟨?_,?_,?_,?_⟩
 ·unfold AH; rw [c1.1,if_pos ⟨rfl,by omega⟩]
 ·unfold AH; rw [c1.2,if_neg (by omega),if_pos ⟨rfl,by omega⟩]
 ·unfold AH; rw [c3.1,if_pos ⟨rfl,by omega⟩]
 ·unfold AH; rw [c2.2,if_neg (by omega),if_pos ⟨rfl,by omega⟩]
theorem du {W T:Int} {cs:List Bool} {ls:List Int} {k:Int} (hy:AR W T cs ls = true) (h0:0 ≤ k) (hk:k < ls.length) (hv:ati ls k ≠ 0):
  1 ≤ ati ls k ∧ ati ls k ≤ 4 ∧ atb cs k = true ∧ 0 ≤ AH W T k (ati ls k) ∧ atb cs (AH W T k (ati ls k)) = true ∧ ati ls (AH W T k (ati ls k)) = CO (ati ls k):= by
 have e:((k.toNat:Nat):Int) = k:= by omega
 have:= DF (k:= k.toNat) hy (by omega) (by rw [e]; exact hv)
 rw [e] at this
 exact this
theorem dv {W T:Int} {cs:List Bool} {ls:List Int} {k t:Int} (hr:Am W T cs = true) (hy:AR W T cs ls = true) (h0:0 ≤ k) (hk:k < ls.length) (hv:ati ls k ≠ 0) (ht:AH W T k (ati ls k) = t):
  AR W T cs (KU W T ls k) = true ∧ (KU W T ls k).length = ls.length ∧ ∀ j:Int,0 ≤ j → ati (KU W T ls k) j = if j = k then 0 else if j = t then 0 else ati ls j:= by
 have e:((k.toNat:Nat):Int) = k:= by omega
 obtain ⟨t',h1,h2,h3,h4⟩:= TZ (k:= k.toNat) hr hy (by omega) (by rw [e]; exact hv)
 have h5:= cK (k:= k.toNat) hr hy (by omega) (by rw [e]; exact hv)
 rw [e] at h1 h4 h5
 refine ⟨h5,IP ..,fun j hj => ?_⟩
 have:= h4 j.toNat
 rw [show ((j.toNat:Nat):Int) = j by omega] at this
 rw [this]
 by_cases e1:j = k
 ·rw [if_pos (by omega),if_pos e1]
 ·rw [if_neg (by omega),if_neg e1]
  by_cases e2:j = t
  ·rw [if_pos (by omega),if_pos e2]
  ·rw [if_neg (by omega),if_neg e2]
theorem cT {W T:Int} {cs:List Bool} {ls:List Int} {k way t:Int} (hr:Am W T cs = true) (hy:AR W T cs ls = true) (hf:Av W T cs ls k way = true) (ht:AH W T k way = t):
  AR W T cs (Bk W T ls k way) = true ∧ (Bk W T ls k way).length = ls.length ∧ ∀ j:Int,0 ≤ j → ati (Bk W T ls k way) j = if j = t then CO way else if j = k then way else ati ls j:= by
 have hl:= AY hy
 obtain ⟨w1,w2,t1,t2,l1,_⟩:= BT hr
 have hf2:= hf
 simp only [Av,decide_eq_true_eq] at hf2
 obtain ⟨f0,f1,f2,f3,f4,f5,f6⟩:= hf2
 have sb:= Cn (W:= W) (T:= T) (k:= k) (way:= way) w1 f0 (by omega) f2
 refine ⟨KX hr hy hf,AO ..,fun j hj => ?_⟩
 subst ht
 unfold Bk
 rw [PT f2 (by simp; omega) hj,PT f0 (by omega) hj]
theorem cU {W T:Int} {cs:List Bool} {ls:List Int} {k way t:Int} (h0:0 ≤ k) (h1:k < cs.length) (ht:AH W T k way = t) (h2:0 ≤ t) (h3:atb cs k = true) (h4:atb cs t = true) (h5:ati ls k = 0) (h6:ati ls t = 0):Av W T cs ls k way = true:= by
 subst ht
 simp [Av,h0,h1,h2,h3,h4,h5,h6]
theorem iV {W T:Int} {cs:List Bool} {ls l4:List Int} {a p q r w v:Int} (hr:Am W T cs = true) (hy:AR W T cs ls = true)
  (a0:0 ≤ a ∧ a < ls.length) (p0:0 ≤ p ∧ p < ls.length) (q0:0 ≤ q ∧ q < ls.length) (r0:0 ≤ r ∧ r < ls.length) (d1:a ≠ p) (d2:a ≠ q) (d3:a ≠ r) (d4:p ≠ q) (d5:p ≠ r) (d6:q ≠ r)
  (s1:AH W T a w = p) (s2:AH W T q w = r) (s3:AH W T a v = q) (s4:AH W T p v = r) (hw:w ≠ 0) (h1:ati ls a = w) (h2:ati ls q = w) (hl4:l4.length = ls.length)
  (h4:∀ j:Int,0 ≤ j → ati l4 j = if j = r then CO v else if j = p then v else if j = q then CO v else if j = a then v else ati ls j):
  (atb cs a = true ∧ atb cs p = true ∧ atb cs q = true ∧ atb cs r = true) ∧ AR W T cs l4 = true:= by
 have hl:= AY hy
 obtain ⟨_,_,a3,a4,a5,a6⟩:= du hy a0.1 a0.2 (by rw [h1]; exact hw)
 obtain ⟨_,_,c3,c4,c5,c6⟩:= du hy q0.1 q0.2 (by rw [h2]; exact hw)
 rw [h1,s1] at a4 a5 a6
 rw [h2,s2] at c4 c5 c6
 refine ⟨⟨a3,a5,c3,c5⟩,?_⟩
 obtain ⟨g1,g2,g3⟩:= dv (k:= a) (t:= p) hr hy a0.1 a0.2 (by rw [h1]; exact hw) (by rw [h1,s1])
 generalize KU W T ls a = l1 at *
 have v1:ati l1 q = w:= by rw [g3 _ q0.1,if_neg (fun e => d2 e.symm),if_neg (fun e => d4 e.symm),h2]
 obtain ⟨k1,k2,k3⟩:= dv (k:= q) (t:= r) hr g1 q0.1 (by omega) (by rw [v1]; exact hw) (by rw [v1,s2])
 generalize KU W T l1 q = l2 at *
 have za:ati l2 a = 0:= by rw [k3 a a0.1,if_neg d2,if_neg d3,g3 a a0.1,if_pos rfl]
 have zp:ati l2 p = 0:= by rw [k3 p p0.1,if_neg d4,if_neg d5,g3 p p0.1,if_neg (fun e => d1 e.symm),if_pos rfl]
 have zq:ati l2 q = 0:= by rw [k3 q q0.1,if_pos rfl]
 have zr:ati l2 r = 0:= by rw [k3 r r0.1,if_neg (fun e => d6 e.symm),if_pos rfl]
 obtain ⟨m1,m2,m3⟩:= cT (k:= a) (way:= v) (t:= q) hr k1 (cU a0.1 (by omega) s3 q0.1 a3 c3 za zq) s3
 generalize Bk W T l2 a v = l3 at *
 have yp:ati l3 p = 0:= by rw [m3 p p0.1,if_neg d4,if_neg (fun e => d1 e.symm),zp]
 have yr:ati l3 r = 0:= by rw [m3 r r0.1,if_neg (fun e => d6 e.symm),if_neg (fun e => d3 e.symm),zr]
 obtain ⟨n1,n2,n3⟩:= cT (k:= p) (way:= v) (t:= r) hr m1 (cU p0.1 (by omega) s4 r0.1 a5 c5 yp yr) s4
 generalize Bk W T l3 p v = l5 at *
 have e:l4 = l5:= by
  refine iT (by omega) fun k hk => ?_
  rw [h4 k (by omega),n3 k (by omega)]
  by_cases e1:(k:Int) = r
  ·rw [if_pos e1,if_pos e1]
  rw [if_neg e1,if_neg e1]
  by_cases e2:(k:Int) = p
  ·rw [if_pos e2,if_pos e2]
  rw [if_neg e2,if_neg e2,m3 k (by omega)]
  by_cases e3:(k:Int) = q
  ·rw [if_pos e3,if_pos e3]
  rw [if_neg e3,if_neg e3]
  by_cases e4:(k:Int) = a
  ·rw [if_pos e4,if_pos e4]
  rw [if_neg e4,if_neg e4,k3 k (by omega),if_neg e3,if_neg e1,g3 k (by omega),if_neg e4,if_neg e2]
 rw [e]; exact n1
theorem iW {W T:Int} {cs:List Bool} {ls:List Int} {c:Int} (hr:Am W T cs = true) (hy:AR W T cs ls = true) (hf:Gz W T ls c = true):
  (atb cs (swI W c) = true ∧ atb cs (swI W c + 1) = true ∧ atb cs (swI W c + W) = true ∧ atb cs (swI W c + W + 1) = true) ∧ AR W T cs (Ik W T ls c) = true:= by
 obtain ⟨w1,w2,t1,t2,l1,_⟩:= BT hr
 have hl:= AY hy
 have hf2:= hf
 simp only [Gz,Bool.and_eq_true,Bool.or_eq_true] at hf2
 obtain ⟨hm,hf3⟩:= hf2
 obtain ⟨s0,s1⟩:= cS w1 hm
 obtain ⟨x,y,x0,x1,y0,y1,e,_⟩:= au w1 hm
 obtain ⟨q1,q2,q3,q4⟩:= iU (T:= T) w1 x0 x1 y0 y1
 rw [← e] at q1 q2 q3 q4
 have hW2:2 ≤ W:= by omega
 have key:Ik W T ls c = if Tf W ls c = true then Tg ls (swI W c) W 2 2 4 4 else Tg ls (swI W c) W 1 3 1 3:= by unfold Ik; rw [if_pos hf]
 rw [key]
 by_cases hF:Tf W ls c = true
 ·rw [if_pos hF]
  simp only [Tf,Bool.and_eq_true,decide_eq_true_eq] at hF
  generalize swI W c = a at *
  have:= iV (l4:= Tg ls a W 2 2 4 4) (a:= a) (p:= a + 1) (q:= a + W) (r:= a + W + 1) (w:= 1) (v:= 2) hr hy (by omega) (by omega) (by omega) (by omega) (by omega) (by omega) (by omega) (by omega) (by omega) (by omega)
   q1 q3 q2 (by rw [q4]; omega) (by decide) hF.1 hF.2 (Dl ..) (fun j hj => by
    rw [dr s0 w1 (by omega) hj,show CO 2 = 4 by decide]
    by_cases e1:j = a + W + 1
    ·rw [if_pos e1,if_pos e1]
    rw [if_neg e1,if_neg e1]
    by_cases e2:j = a + W
    ·rw [if_pos e2,if_neg (by omega),if_pos e2]
    rw [if_neg e2,if_neg e2])
  exact ⟨⟨this.1.1,this.1.2.1,this.1.2.2.1,this.1.2.2.2⟩,this.2⟩
 ·rw [if_neg hF]
  have hU:upB W ls c = true:= hf3.resolve_left hF
  simp only [upB,Bool.and_eq_true,decide_eq_true_eq] at hU
  generalize swI W c = a at *
  have:= iV (l4:= Tg ls a W 1 3 1 3) (a:= a) (p:= a + W) (q:= a + 1) (r:= a + W + 1) (w:= 2) (v:= 1) hr hy (by omega) (by omega) (by omega) (by omega) (by omega) (by omega) (by omega) (by omega) (by omega) (by omega)
   q2 (by rw [q4]; omega) q1 q3 (by decide) hU.1 hU.2 (Dl ..) (fun j hj => by
    rw [dr s0 w1 (by omega) hj,show CO 1 = 3 by decide])
  exact ⟨⟨this.1.1,this.1.2.2.1,this.1.2.1,this.1.2.2.2⟩,this.2⟩
theorem QG {W T:Int} {cs:List Bool} {ds:List Int}:∀ (n:Nat) (ls:List Int),Ad W T cs ds ls = true →
  KT ls ≤ KT (BD W T cs ds n ls) ∧ (BD W T cs ds n ls = ls ∨ KT ls < KT (BD W T cs ds n ls))
 | 0,ls,_ => ⟨Nat.le_refl _,.inl rfl⟩
 | n + 1,ls,hf => by
   obtain ⟨hr,hd,hy,ho⟩:= AM hf
   have hl:= AY hy
   unfold BD
   by_cases hb:CP W T cs ds ls = true
   ·have h1:= cM (ds:= ds) hr hl hb
    have h2:= QG n (Ba W T cs ds ls) (Mo hf)
    simp only [hb,if_true]
    exact ⟨by omega,.inr (by omega)⟩
   ·have hb':CP W T cs ds ls = false:= by simpa using hb
    simp [hb']
theorem ZU {W T:Int} {cs:List Bool} {ds ls:List Int} (hf:Ad W T cs ds ls = true):(KT ls < KT (BN W T cs ds ls)) ↔ BN W T cs ds ls ≠ ls:= by
 obtain ⟨h1,h2⟩:= QG ls.length ls hf
 unfold BN at *
 constructor
 ·intro h e; rw [e] at h; omega
 ·intro h; exact h2.resolve_left h
def dw (W T:Int) (cs:List Bool) (x y:Int):Bool:= decide (0 ≤ x ∧ x ≤ W - 1) && (decide (0 ≤ y ∧ y ≤ T - 1) && atb cs (y * W + x))
theorem sW {W T x y:Int} (h1:0 ≤ x ∧ x ≤ W - 1) (h2:0 ≤ y ∧ y ≤ T - 1):0 ≤ y * W ∧ y * W + x < W * T:= by
 have a1:0 ≤ y * W:= Int.mul_nonneg h2.1 (by omega)
 have a2:(y + 1) * W ≤ T * W:= Int.mul_le_mul_of_nonneg_right (by omega) (by omega)
 rw [Int.add_mul,Int.one_mul,Int.mul_comm T W] at a2
 omega
theorem My (W T:Int) (cs:List Bool) (x y:Int) (hr:Am W T cs = true) (hx:-9 ≤ x ∧ x ≤ 9 * 2 ^ 40) (hy:-9 ≤ y ∧ y ≤ 9 * 2 ^ 40):
  SoundAt Tryz.prog WX [.agg [.v (.int .i64 W),.v (.int .i64 T),.sl 1 1 (AC cs)],.v (.int .i64 x),.v (.int .i64 y)] (.v (.bool (dw W T cs x y))) [.bot,.bot,.bot]:= by
 obtain ⟨w1,w2,t1,t2,l1,_⟩:= BT hr
 have h36:= Ab hr
 refine AG (md:= md5) (ms:= [false,false,false]) cR (by simp) ?_
 by_cases h1:0 ≤ x ∧ x ≤ W - 1
 ·by_cases h2:0 ≤ y ∧ y ≤ T - 1
  ·obtain ⟨m1,m2⟩:= sW h1 h2
   simp [Mw,dw,h1,h2]
   refine ⟨by omega,?_⟩
   refine AA (Dc (x:= x) (lo:= 0) (hi:= W - 1) h1) ?_
   simp
   refine ⟨by omega,?_⟩
   refine AA (Dc (x:= y) (lo:= 0) (hi:= T - 1) h2) ?_
   have n1:0 ≤ y * W + x:= by omega
   have n2:y * W + x < cs.length:= by omega
   simp [n1,n2]
   omega
  ·simp [Mw,dw,h1,h2]
   refine ⟨by omega,?_⟩
   refine AA (Dc (x:= x) (lo:= 0) (hi:= W - 1) h1) ?_
   simp
   refine ⟨by omega,?_⟩
   refine AA (Ex (x:= y) (lo:= 0) (hi:= T - 1) h2) ?_
   simp
 ·simp [Mw,dw,h1]
  refine ⟨by omega,?_⟩
  refine AA (Ex (x:= x) (lo:= 0) (hi:= W - 1) h1) ?_
  simp
def dy (W T:Int):Int:= (W + 1) * (T + 1)
theorem YH {W T:Int} (w1:1 ≤ W) (w2:W ≤ 6) (t1:1 ≤ T) (t2:T ≤ 6):4 ≤ dy W T ∧ dy W T ≤ 49:= by
 have h1:(2:Int) * 2 ≤ (W + 1) * (T + 1):= Int.mul_le_mul (by omega) (by omega) (by omega) (by omega)
 have h2:(W + 1) * (T + 1) ≤ 7 * 7:= Int.mul_le_mul (by omega) (by omega) (by omega) (by omega)
 unfold dy; omega
theorem Hh (W T:Int) (cs:List Bool) (hb:cs.length < 2 ^ 40):
  SoundAt Tryz.prog MP [.agg [.v (.int .i64 W),.v (.int .i64 T),.sl 1 1 (AC cs)]] (.v (.int .i64 (if Am W T cs = true then dy W T else -1))) [.bot]:= by
 refine AG (md:= md5) (ms:= [false]) Td (by simp) ?_
 simp [MQ]
 refine AA (Ao W T cs hb) ?_
 cases hr:Am W T cs with
 | false => simp
 | true =>
   obtain ⟨w1,w2,t1,t2,l1,_⟩:= BT hr
   have:= YH w1 w2 t1 t2
   unfold dy at *
   simp
   omega
def sqB (W T:Int) (cs:List Bool) (c:Int):Bool:=
 ((dw W T cs (c % (W + 1) - 1) (c / (W + 1) - 1) && dw W T cs (c % (W + 1)) (c / (W + 1) - 1)) && dw W T cs (c % (W + 1) - 1) (c / (W + 1))) && dw W T cs (c % (W + 1)) (c / (W + 1))
theorem iX {W T:Int} {cs:List Bool} {c:Int} (h0:0 ≤ c) (h:sqB W T cs c = true):XY W T c = true:= by
 simp only [sqB,dw,Bool.and_eq_true,decide_eq_true_eq] at h
 simp only [XY,decide_eq_true_eq]
 omega
set_option maxHeartbeats 1000000 in
theorem O3 (W T:Int) (cs:List Bool) (c:Int) (hr:Am W T cs = true) (h0:0 ≤ c) (h1:c < 2 ^ 40):
  SoundAt Tryz.prog Oz [.agg [.v (.int .i64 W),.v (.int .i64 T),.sl 1 1 (AC cs)],.v (.int .i64 c)]
   (if sqB W T cs c = true then .tup [.v (.int .i64 (swI W c)),.v (.int .i64 (swI W c + 1)),.v (.int .i64 (swI W c + W)),.v (.int .i64 (swI W c + W + 1)),.v (.bool true)]
    else .tup [.v (.int .i64 0),.v (.int .i64 0),.v (.int .i64 0),.v (.int .i64 0),.v (.bool false)]) [.bot,.bot]:= by
 obtain ⟨w1,w2,t1,t2,l1,_⟩:= BT hr
 have h36:= Ab hr
 have m1:= Int.emod_nonneg c (show W + 1 ≠ 0 by omega)
 have m2:= Int.emod_lt_of_pos c (show 0 < W + 1 by omega)
 have m3:= Int.ediv_nonneg h0 (show 0 ≤ W + 1 by omega)
 have m4:= Int.ediv_le_self (W + 1) h0
 have hs:= @iX W T cs c h0
 have c1:= My W T cs (c % (W + 1) - 1) (c / (W + 1) - 1) hr (by omega) (by omega)
 have c2:= My W T cs (c % (W + 1)) (c / (W + 1) - 1) hr (by omega) (by omega)
 have c3:= My W T cs (c % (W + 1) - 1) (c / (W + 1)) hr (by omega) (by omega)
 have c4:= My W T cs (c % (W + 1)) (c / (W + 1)) hr (by omega) (by omega)
 have hsw:= @cS W T c w1
 have hsd:swI W c = (c / (W + 1) - 1) * W + c % (W + 1) - 1:= rfl
 unfold sqB at *
 have w0:1 ≤ W + 1:= by omega
 refine AG (md:= md5) (ms:= [false,false]) WY (by simp) ?_
 simp [O0,h0,w0]
 generalize c % (W + 1) = x at *
 generalize c / (W + 1) = y at *
 refine ⟨by omega,by omega,by omega,by omega,?_⟩
 refine AA c1 ?_
 cases b1:dw W T cs (x - 1) (y - 1) with
 | false => simp
 | true =>
 simp
 refine ⟨by omega,?_⟩
 refine AA c2 ?_
 cases b2:dw W T cs x (y - 1) with
 | false => simp
 | true =>
 simp
 refine ⟨by omega,?_⟩
 refine AA c3 ?_
 cases b3:dw W T cs (x - 1) y with
 | false => simp
 | true =>
 simp
 refine AA c4 ?_
 cases b4:dw W T cs x y with
 | false => simp
 | true =>
 have hm:= hsw (hs (by simp [b1,b2,b3,b4]))
 rw [hsd] at hm
 rw [hsd]
 simp
 generalize (y - 1) * W = z at *
 (repeat' first | omega | rfl | apply And.intro)
end Go.Proofs.Dev
