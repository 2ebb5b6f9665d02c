/- Contracts of the functions of the program over slots and rows, each proved against the program itself; no condition beyond those that each theorem names. -/
import Derived.Test.YtfkmfobbgoflgaaGreatDoorAT
import Derived.Test.YtfkmfobbgoflgaaGreatDoorAW
import Derived.Test.YtfkmfobbgoflgaaGreatDoorProg
import Derived.Test.YtfkmfobbgoflgaaGreatDoorAI
import Derived.Test.YtfkmfobbgoflgaaGreatDoorAL
import Derived.Test.YtfkmfobbgoflgaaGreatDoorAO
import Derived.Shelf.Strings.Search3
import Derived.Shelf.Strings.Cut
import Derived.Shelf.Strings.Split
import Derived.Shelf.Strconv.AtoiAll
set_option linter.unusedSimpArgs false
set_option linter.unusedVariables false
set_option maxRecDepth 100000
namespace Go.Proofs.Dev
@[simp] abbrev Nl:Nat:= 107
def Nm:ACode:= .seq (.reg [.o 2 .mv [.c (.v (.string ⟨#[]⟩))]]) <| .seq (.seq (.reg [.m 3 0,.o 4 (.call 106 []) [.t 3,.k 1,.k 4],.o 5 (.un .not) [.t 4]]) <| .cond (.t 5) ( .seq (.reg [.o 2 .mv [.c (.v (.string ⟨#[]⟩))]]) <| .ret) ( .skip)) <| .seq (.reg [.o 6 (.bsl 1) [.c (.v (.string ⟨#[]⟩)),.c (.v (.string ⟨#[101]⟩)),.c (.v (.string ⟨#[110]⟩)),.c (.v (.string ⟨#[119]⟩)),.c (.v (.string ⟨#[115]⟩))],.m 7 0,.o 8 (.iadr 1) [.t 6,.t 7],.l 9 8,.m 2 9]) <| .ret
theorem U3:cFn Tryz.prog Nl 10 [.t 2] Nm:= ⟨Tryz.f107,_,Tryz.func107,rfl,by kernel_rfl,by kernel_rfl,by kernel_rfl,by kernel_rfl⟩
@[simp] abbrev Gp:Nat:= 230
def Dt:ACode:= .seq (.reg [.o 2 .mv [.c (.v (.string ⟨#[]⟩))]]) <| .seq (.seq (.reg [.m 3 0,.o 4 (.bin .lss 0) [.t 3,.k 10]]) <| .cond (.t 4) ( .seq (.reg [.m 5 0,.m 6 0,.o 7 (.bin .add 0) [.t 6,.k 1],.o 8 (.sslice true true) [.c (.v (.string ⟨#[48,49,50,51,52,53,54,55,56,57,97,98,99,100,101,102,103,104,105,106,107,108,109,110,111,112,113,114,115,116,117,118,119,120,121,122]⟩)),.t 5,.t 7],.m 2 8]) <| .ret) ( .skip)) <| .seq (.reg [.m 9 0,.o 10 (.bin .mul 0) [.t 9,.k 2],.m 11 0,.o 12 (.bin .mul 0) [.t 11,.k 2],.o 13 (.bin .add 0) [.t 12,.k 2],.o 14 (.sslice true true) [.c (.v (.string ⟨#[48,48,48,49,48,50,48,51,48,52,48,53,48,54,48,55,48,56,48,57,49,48,49,49,49,50,49,51,49,52,49,53,49,54,49,55,49,56,49,57,50,48,50,49,50,50,50,51,50,52,50,53,50,54,50,55,50,56,50,57,51,48,51,49,51,50,51,51,51,52,51,53,51,54,51,55,51,56,51,57,52,48,52,49,52,50,52,51,52,52,52,53,52,54,52,55,52,56,52,57,53,48,53,49,53,50,53,51,53,52,53,53,53,54,53,55,53,56,53,57,54,48,54,49,54,50,54,51,54,52,54,53,54,54,54,55,54,56,54,57,55,48,55,49,55,50,55,51,55,52,55,53,55,54,55,55,55,56,55,57,56,48,56,49,56,50,56,51,56,52,56,53,56,54,56,55,56,56,56,57,57,48,57,49,57,50,57,51,57,52,57,53,57,54,57,55,57,56,57,57]⟩)),.t 10,.t 13],.m 2 14]) <| .ret
theorem M3:cFn Tryz.prog Gp 15 [.t 2] Dt:= ⟨Tryz.f230,_,Tryz.func230,rfl,by kernel_rfl,by kernel_rfl,by kernel_rfl,by kernel_rfl⟩
@[simp] abbrev Eo:Nat:= 187
def Ep:ACode:= .seq (.reg [.o 4 .mv [.c (.v (.string ⟨#[]⟩))]]) <| .seq (.seq (.reg [.m 10 1,.o 11 (.bin .eql 0) [.t 10,.k 10]]) <| .cond (.t 11) ( .seq (.seq (.reg [.m 12 0,.o 13 (.bin .leq 0) [.k 0,.t 12],.m 14 13,.mg 15 0 14 true,.g 16 (.bin .lss 0) [.t 15,.k 100] 14 true,.o 17 .pick [.t 14,.t 16,.kb false]]) <| .cond (.t 17) ( .seq (.reg [.m 18 0,.o 19 (.call 230 []) [.t 18],.m 4 19]) <| .ret) ( .skip)) <| .seq (.reg [.o 5 (.alloc [.v (.int .u8 (0)),.v (.int .u8 (0)),.v (.int .u8 (0)),.v (.int .u8 (0)),.v (.int .u8 (0)),.v (.int .u8 (0)),.v (.int .u8 (0)),.v (.int .u8 (0)),.v (.int .u8 (0)),.v (.int .u8 (0)),.v (.int .u8 (0)),.v (.int .u8 (0)),.v (.int .u8 (0)),.v (.int .u8 (0)),.v (.int .u8 (0)),.v (.int .u8 (0)),.v (.int .u8 (0)),.v (.int .u8 (0)),.v (.int .u8 (0)),.v (.int .u8 (0)),.v (.int .u8 (0)),.v (.int .u8 (0)),.v (.int .u8 (0)),.v (.int .u8 (0))]) []]) <| .seq (.reg [.m 20 0,.o 21 (.conv .u64) [.t 20],.m 6 21]) <| .seq (.seq (.reg [.m 22 0,.o 23 (.bin .lss 0) [.t 22,.k 0]]) <| .cond (.t 23) ( .reg [.m 24 6,.o 25 (.un .neg) [.t 24],.m 6 25]) ( .skip)) <| .seq (.reg [.m 26 6,.o 27 (.call 231 []) [.t 26],.m 7 27]) <| .seq (.fail) <| .seq (.seq (.reg [.m 33 0,.o 34 (.bin .lss 0) [.t 33,.k 0]]) <| .cond (.t 34) ( .seq (.reg [.f 35 0 5,.s (.store 1) [.t 35,.c (.v (.int .u8 (45)))]]) <| .seq (.fail) <| .ret) ( .skip)) <| .seq (.fail) <| .ret) ( .skip)) <| .seq (.reg [.m 45 0,.o 46 (.conv .u64) [.t 45],.m 47 1,.m 48 0,.o 49 (.bin .lss 0) [.t 48,.k 0],.o 50 (.call 233 []) [.c (.os 1 []),.t 46,.t 47,.t 49,.kb false],.m 44 50,.e 51 0 44,.e 52 1 44,.m 8 51,.m 9 52]) <| .seq (.reg [.m 53 9,.m 4 53]) <| .ret
theorem KE:cFn Tryz.prog Eo 54 [.t 4] Ep:= ⟨Tryz.f187,_,Tryz.func187,rfl,by kernel_rfl,by kernel_rfl,by kernel_rfl,by kernel_rfl⟩
@[simp] abbrev HJ:Nat:= 134
def HK:ACode:= .seq (.reg [.o 2 .mv [.c (.v (.string ⟨#[]⟩))]]) <| .seq (.reg [.m 3 0,.o 4 (.call 187 []) [.t 3,.k 10],.m 2 4]) <| .ret
theorem N3:cFn Tryz.prog HJ 5 [.t 2] HK:= ⟨Tryz.f134,_,Tryz.func134,rfl,by kernel_rfl,by kernel_rfl,by kernel_rfl,by kernel_rfl⟩
@[simp] abbrev QP:Nat:= 64
def QQ:ACode:= .seq (.reg [.o 2 .mv [.c (.v (.string ⟨#[]⟩))]]) <| .seq (.reg [.m 3 0,.o 4 (.call 134 []) [.t 3],.m 2 4]) <| .ret
theorem Xh:cFn Tryz.prog QP 5 [.t 2] QQ:= ⟨Tryz.f64,_,Tryz.func64,rfl,by kernel_rfl,by kernel_rfl,by kernel_rfl,by kernel_rfl⟩
@[simp] abbrev PA:Nat:= 48
def Gq:ACode:= .seq (.reg [.o 1 .box [.t 0],.o 2 .mv [.c (.v (.string ⟨#[]⟩))]]) <| .seq (.seq (.reg [.la 4 3 1,.o 5 (.call 105 []) [.t 4],.o 6 (.un .not) [.t 5],.m 7 6,.fg 8 1 1 7 false,.lg 9 8 7 false,.g 10 (.call 106 []) [.t 9,.k 0,.k 99] 7 false,.g 11 (.un .not) [.t 10] 7 false,.o 12 .pick [.t 7,.kb true,.t 11]]) <| .cond (.t 12) ( .seq (.reg [.o 2 .mv [.c (.v (.string ⟨#[]⟩))]]) <| .ret) ( .skip)) <| .seq (.reg [.o 13 (.bsl 1) [.c (.v (.string ⟨#[108,97,121]⟩)),.c (.v (.string ⟨#[108,105,102,116]⟩)),.c (.v (.string ⟨#[102,108,105,112]⟩)),.c (.v (.string ⟨#[102,111,114,99,101]⟩)),.c (.v (.string ⟨#[98,97,99,107]⟩))],.f 14 0 1,.l 15 14,.o 16 (.iadr 1) [.t 13,.t 15],.l 17 16,.m 3 17]) <| .seq (.seq (.reg [.f 18 0 1,.l 19 18,.o 20 (.bin .leq 0) [.t 19,.k 2]]) <| .cond (.t 20) ( .reg [.m 21 3,.o 22 (.bin .add 1) [.t 21,.c (.v (.string ⟨#[32]⟩))],.f 23 1 1,.l 24 23,.o 25 (.call 78 []) [.t 24],.o 26 (.bin .add 1) [.t 22,.t 25],.m 3 26]) ( .skip)) <| .seq (.seq (.reg [.f 27 0 1,.l 28 27,.o 29 (.bin .eql 0) [.t 28,.k 0],.m 30 29,.fg 31 2 1 30 true,.lg 32 31 30 true,.g 33 (.call 107 []) [.t 32] 30 true,.g 34 (.bin .eql 1) [.t 33,.c (.v (.string ⟨#[]⟩))] 30 true,.o 35 .pick [.t 30,.t 34,.kb false]]) <| .cond (.t 35) ( .seq (.reg [.o 2 .mv [.c (.v (.string ⟨#[]⟩))]]) <| .ret) ( .skip)) <| .seq (.seq (.reg [.f 36 0 1,.l 37 36,.o 38 (.bin .eql 0) [.t 37,.k 0]]) <| .cond (.t 38) ( .reg [.m 39 3,.o 40 (.bin .add 1) [.t 39,.c (.v (.string ⟨#[32]⟩))],.f 41 2 1,.l 42 41,.o 43 (.call 107 []) [.t 42],.o 44 (.bin .add 1) [.t 40,.t 43],.m 3 44]) ( .skip)) <| .seq (.reg [.m 45 3,.m 2 45]) <| .ret
theorem Wm:cFn Tryz.prog PA 46 [.t 2] Gq:= ⟨Tryz.f48,_,Tryz.func48,rfl,by kernel_rfl,by kernel_rfl,by kernel_rfl,by kernel_rfl⟩
@[simp] abbrev PB:Nat:= 20
def Gr:ACode:= .seq (.reg [.o 1 .box [.t 0],.o 2 .mv [.c (.v (.string ⟨#[]⟩))]]) <| .seq (.seq (.reg [.la 4 3 1,.o 5 (.call 62 []) [.t 4],.o 6 (.un .not) [.t 5],.m 7 6,.fg 8 1 1 7 false,.lg 9 8 7 false,.g 10 (.call 63 []) [.t 9,.k 0,.k 99] 7 false,.g 11 (.un .not) [.t 10] 7 false,.o 12 .pick [.t 7,.kb true,.t 11],.m 13 12,.fg 14 0 1 13 false,.lg 15 14 13 false,.g 16 (.bin .eql 0) [.t 15,.k 0] 13 false,.mg 17 16 13 false,.fg 18 2 1 17 true,.lg 19 18 17 true,.g 20 (.call 63 []) [.t 19,.k 1,.k 4] 17 true,.g 21 (.un .not) [.t 20] 17 true,.g 22 .pick [.t 17,.t 21,.kb false] 13 false,.o 23 .pick [.t 13,.kb true,.t 22]]) <| .cond (.t 23) ( .seq (.reg [.o 2 .mv [.c (.v (.string ⟨#[]⟩))]]) <| .ret) ( .skip)) <| .seq (.reg [.o 24 (.load false 1) [.c (.vp 0 [.sl 0 1 [.v (.string ⟨#[108,97,121]⟩),.v (.string ⟨#[108,105,102,116]⟩),.v (.string ⟨#[102,108,105,112]⟩),.v (.string ⟨#[102,111,114,99,101]⟩),.v (.string ⟨#[98,97,99,107]⟩)]] 0)],.f 25 0 1,.l 26 25,.o 27 (.iadr 1) [.t 24,.t 26],.l 28 27,.m 3 28]) <| .seq (.seq (.reg [.f 29 0 1,.l 30 29,.o 31 (.bin .leq 0) [.t 30,.k 2]]) <| .cond (.t 31) ( .reg [.m 32 3,.f 33 1 1,.l 34 33,.o 35 (.call 64 []) [.t 34],.o 36 (.bin .add 1) [.c (.v (.string ⟨#[32]⟩)),.t 35],.o 37 (.bin .add 1) [.t 32,.t 36],.m 3 37]) ( .skip)) <| .seq (.seq (.reg [.f 38 0 1,.l 39 38,.o 40 (.bin .eql 0) [.t 39,.k 0]]) <| .cond (.t 40) ( .reg [.m 41 3,.f 42 2 1,.l 43 42,.f 44 2 1,.l 45 44,.o 46 (.bin .add 0) [.t 45,.k 1],.o 47 (.sslice true true) [.c (.v (.string ⟨#[35,101,110,119,115]⟩)),.t 43,.t 46],.o 48 (.bin .add 1) [.c (.v (.string ⟨#[32]⟩)),.t 47],.o 49 (.bin .add 1) [.t 41,.t 48],.m 3 49]) ( .skip)) <| .seq (.reg [.m 50 3,.m 2 50]) <| .ret
theorem Wn:cFn Tryz.prog PB 51 [.t 2] Gr:= ⟨Tryz.f20,_,Tryz.func20,rfl,by kernel_rfl,by kernel_rfl,by kernel_rfl,by kernel_rfl⟩
@[simp] def mdT (_:Nat):List Bool:= []
theorem cb {n:Int} (h:n < 10):RU n = [b8 (48 + n)]:= by simp [RU,h]
theorem nt {n:Int} (h:¬ n < 10):RU n = [b8 (48 + n / 10),b8 (48 + n % 10)]:= by simp [RU,h]
theorem l6 (n:Int) (h0:0 ≤ n) (h1:n < 10):SoundAt Tryz.prog KC [.v (.int .i64 n)] (.v (tx (RU n))) [.bot]:= by
 refine AG (md:= mdT) (ms:= [false]) O7 (by simp) ?_
 have hn:¬ n < 0:= by omega
 simp [KD,hn,h1,cb h1,b8,kv,u8L]
 omega
theorem Gs (n:Int) (h0:0 ≤ n) (h1:n < 100):SoundAt Tryz.prog KC [.v (.int .i64 n)] (.v (tx (RU n))) [.bot]:= by
 by_cases h:n < 10
 ·exact l6 n h0 h
 refine AG (md:= mdT) (ms:= [false]) O7 (by simp) ?_
 have hn:¬ n < 0:= by omega
 have c:= l6 (n / 10) (by omega) (by omega)
 rw [cb (by omega)] at c
 simp [KD,hn,h,kv,u8L]
 (repeat' first | omega | apply And.intro) <;>
 ·refine AA c ?_
  simp [h,nt h,b8,kv,u8L]
  try omega
theorem Sq (d:Int × Int × Int):SoundAt Tryz.prog Hf [BG d] (.v (.bool (TD d))) [.bot]:= by
 obtain ⟨k,s,w⟩:= d
 refine AG (md:= mdT) (ms:= [false]) MR (by simp [BG]) ?_
 by_cases h0:k = 0 <;> by_cases h1:k = 1 <;> by_cases h2:k = 2 <;> by_cases h3:k = 3 <;> by_cases h4:k = 4 <;> by_cases hs:s = 0 <;> by_cases hw:w = 0 <;> first | (exfalso; omega) | (simp [Hg,BG,TD,h0,h1,h2,h3,h4,hs,hw])
theorem U4 (d:Int × Int × Int):SoundAt Tryz.prog J5 [BG d] (.v (.bool (TD d))) [.bot]:= by
 obtain ⟨k,s,w⟩:= d
 refine AG (md:= mdT) (ms:= [false]) O2 (by simp [BG]) ?_
 by_cases h0:k = 0 <;> by_cases h1:k = 1 <;> by_cases h2:k = 2 <;> by_cases h3:k = 3 <;> by_cases h4:k = 4 <;> by_cases hs:s = 0 <;> by_cases hw:w = 0 <;> first | (exfalso; omega) | (simp [J6,BG,TD,h0,h1,h2,h3,h4,hs,hw])
abbrev tH:List UInt8:= [48,49,50,51,52,53,54,55,56,57,97,98,99,100,101,102,103,104,105,106,107,108,109,110,111,112,113,114,115,116,117,118,119,120,121,122]
theorem ke:∀ n:_root_.Fin 10,List.take (n.val + 1 - n.val) (List.drop n.val tH) = RU n.val:= by decide +kernel
abbrev sa:List UInt8:= [48,48,48,49,48,50,48,51,48,52,48,53,48,54,48,55,48,56,48,57,49,48,49,49,49,50,49,51,49,52,49,53,49,54,49,55,49,56,49,57,50,48,50,49,50,50,50,51,50,52,50,53,50,54,50,55,50,56,50,57,51,48,51,49,51,50,51,51,51,52,51,53,51,54,51,55,51,56,51,57,52,48,52,49,52,50,52,51,52,52,52,53,52,54,52,55,52,56,52,57,53,48,53,49,53,50,53,51,53,52,53,53,53,54,53,55,53,56,53,57,54,48,54,49,54,50,54,51,54,52,54,53,54,54,54,55,54,56,54,57,55,48,55,49,55,50,55,51,55,52,55,53,55,54,55,55,55,56,55,57,56,48,56,49,56,50,56,51,56,52,56,53,56,54,56,55,56,56,56,57,57,48,57,49,57,50,57,51,57,52,57,53,57,54,57,55,57,56,57,57]
theorem kf:∀ n:_root_.Fin 100,(if n.val < 10 then true else decide (List.take (n.val * 2 + 2 - n.val * 2) (List.drop (n.val * 2) sa) = RU n.val)) = true:= by decide +kernel
theorem nw (n:Nat) (h1:n < 100):SoundAt Tryz.prog Gp [.v (.int .i64 (n:Int))] (.v (tx (RU n))) [.bot]:= by
 refine AG (md:= mdT) (ms:= [false]) M3 (by simp) ?_
 by_cases h:n < 10
 ·have e:(n:Int) < 10:= by omega
  have t:= ke ⟨n,h⟩
  have e1:((n:Int) + 1).toNat = n + 1:= by omega
  simp only at t
  rw [← t]
  have p1:(0:Int) ≤ (n:Int) + 1:= by omega
  have p2:n + 1 ≤ 36:= by omega
  simp [Dt,e,e1,p1,p2]
  omega
 ·have e:¬ (n:Int) < 10:= by omega
  have t:= kf ⟨n,h1⟩
  rw [if_neg h] at t
  have t':= of_decide_eq_true t
  have e1:((n:Int) * 2).toNat = n * 2:= by omega
  have e2:((n:Int) * 2 + 2).toNat = n * 2 + 2:= by omega
  rw [← t']
  have p1:(0:Int) ≤ (n:Int) * 2 + 2:= by omega
  have p0:(0:Int) ≤ (n:Int) * 2:= by omega
  have p2:n * 2 + 2 ≤ 200:= by omega
  simp [Dt,e,e1,e2,p0,p1,p2]
  omega
theorem cc (n:Nat) (h1:n < 100):SoundAt Tryz.prog Eo [.v (.int .i64 (n:Int)),.v (.int .i64 10)] (.v (tx (RU n))) [.bot,.bot]:= by
 refine AG (md:= mdT) (ms:= [false,false]) KE (by simp) ?_
 have e:(n:Int) < 100:= by omega
 have e0:(0:Int) ≤ n:= by omega
 simp [Ep,e,e0]
 refine AA (nw n h1) ?_
 simp
theorem ny (n:Nat) (h1:n < 100):SoundAt Tryz.prog HJ [.v (.int .i64 (n:Int))] (.v (tx (RU n))) [.bot]:= by
 refine AG (md:= mdT) (ms:= [false]) N3 (by simp) ?_
 simp [HK]
 refine AA (cc n h1) ?_
 simp
theorem Lk (n:Int) (h0:0 ≤ n) (h1:n < 100):SoundAt Tryz.prog QP [.v (.int .i64 n)] (.v (tx (RU n))) [.bot]:= by
 obtain ⟨k,rfl⟩:∃ k:Nat,n = k:= ⟨n.toNat,by omega⟩
 refine AG (md:= mdT) (ms:= [false]) Xh (by simp) ?_
 simp [QQ]
 refine AA (ny k (by omega)) ?_
 simp
theorem Nn (w:Int):SoundAt Tryz.prog Nl [.v (.int .i64 w)] (.v (tx (Pj w))) [.bot]:= by
 refine AG (md:= mdT) (ms:= [false]) U3 (by simp) ?_
 simp [Nm]
 refine AA (A7 w 1 4) ?_
 by_cases h1:w = 1
 ·subst h1; simp [Pj]
 by_cases h2:w = 2
 ·subst h2; simp [Pj]
 by_cases h3:w = 3
 ·subst h3; simp [Pj]
 by_cases h4:w = 4
 ·subst h4; simp [Pj]
 have h:¬ (1 ≤ w ∧ w ≤ 4):= by omega
 simp [Pj,h1,h2,h3,h4,h]
theorem PV {d:Int × Int × Int} (h:Dw d = false):Bu d = []:= by simp [Bu,h]
theorem bD {k s w:Int} (h:TD (k,s,w) = true):k = 0 ∨ k = 1 ∨ k = 2 ∨ k = 3 ∨ k = 4:= by
 simp only [TD] at h
 split at h
 ·left; assumption
 ·split at h
  ·rename_i h2; rcases h2 with h2 | h2 <;> simp [h2]
  ·split at h
   ·rename_i h2; rcases h2 with h2 | h2 <;> simp [h2]
   ·cases h
theorem iy (n:Int):(RU n).length ≤ 2:= by unfold RU; split <;> simp
theorem nz (n:Int):(Pj n).length ≤ 1:= by unfold Pj; (repeat' split) <;> simp
theorem d8 (w:Int):Pj w = [] ↔ ¬ (1 ≤ w ∧ w ≤ 4):= by
 unfold Pj
 by_cases h1:w = 1
 ·simp [h1]
 by_cases h2:w = 2
 ·simp [h2]
 by_cases h3:w = 3
 ·simp [h3]
 by_cases h4:w = 4
 ·simp [h4]
 simp [h1,h2,h3,h4]
 omega
set_option maxHeartbeats 4000000 in
theorem KF (d:Int × Int × Int):SoundAt Tryz.prog PA [BG d] (.v (tx (Bu d))) [.bot]:= by
 obtain ⟨k,s,w⟩:= d
 have nd:= U4 (k,s,w)
 simp only [BG] at nd
 have li:= A7 s 0 99
 have le:= Nn w
 refine AG (md:= mdT) (ms:= [false]) Wm (by simp [BG]) ?_
 cases hn:TD (k,s,w) with
 | false =>
   rw [hn] at nd
   rw [PV (by simp [Dw,hn])]
   simp [Gq,BG]
   refine AA nd ?_
   simp
 | true =>
 rw [hn] at nd
 by_cases hs:0 ≤ s ∧ s ≤ 99
 case neg =>
  rw [PV (by simp [Dw,hs])]
  simp [Gq,BG]
  refine AA nd ?_
  simp
  refine AA li ?_
  simp [hs]
 have nu:= Gs s hs.1 (by omega)
 have n2:= iy s
 have l1:= nz w
 have lk:= bD hn
 simp [Gq,BG]
 refine AA nd ?_
 simp
 refine AA li ?_
 simp [hs]
 rcases lk with rfl | rfl | rfl | rfl | rfl
 ·simp
  refine AA nu ?_
  simp
  refine ⟨by omega,?_⟩
  refine AA le ?_
  by_cases hw:1 ≤ w ∧ w ≤ 4
  ·have hne:Pj w ≠ []:= by rw [Ne,d8]; simpa using hw
   have e:Bu (0,s,w) = DD 0 ++ (32::RU s ++ 32::Pj w):= by simp [Bu,Dw,hn,hs,hw]
   rw [e]
   simp [hne]
   refine ⟨by omega,?_⟩
   refine AA le ?_
   simp [DD]
   omega
  ·have hne:Pj w = []:= by rw [d8]; exact hw
   rw [PV (by simp [Dw,hw])]
   simp [hne]
 all_goals
  have e:= hn
  simp [TD] at e
 ·have e':Bu (1,s,w) = DD 1 ++ 32::RU s:= by simp [Bu,Dw,hn,hs]
  rw [e']
  simp
  refine AA nu ?_
  simp [DD]
  omega
 ·have e':Bu (2,s,w) = DD 2 ++ 32::RU s:= by simp [Bu,Dw,hn,hs]
  rw [e']
  simp
  refine AA nu ?_
  simp [DD]
  omega
 ·have e':Bu (3,s,w) = DD 3:= by simp [Bu,Dw,hn,hs]
  rw [e']
  simp [DD]
 ·have e':Bu (4,s,w) = DD 4:= by simp [Bu,Dw,hn,hs]
  rw [e']
  simp [DD]
set_option maxHeartbeats 4000000 in
theorem PC (d:Int × Int × Int):SoundAt Tryz.prog PB [BG d] (.v (tx (Bu d))) [.bot]:= by
 obtain ⟨k,s,w⟩:= d
 have nd:= Sq (k,s,w)
 simp only [BG] at nd
 have li:= Lv s 0 99
 have lw:= Lv w 1 4
 refine AG (md:= mdT) (ms:= [false]) Wn (by simp [BG]) ?_
 cases hn:TD (k,s,w) with
 | false =>
   rw [hn] at nd
   rw [PV (by simp [Dw,hn])]
   simp [Gr,BG]
   refine AA nd ?_
   simp
 | true =>
 rw [hn] at nd
 by_cases hs:0 ≤ s ∧ s ≤ 99
 case neg =>
  rw [PV (by simp [Dw,hs])]
  simp [Gr,BG]
  refine AA nd ?_
  simp
  refine AA li ?_
  simp [hs]
 have nu:= Lk s hs.1 (by omega)
 have n2:= iy s
 have lk:= bD hn
 simp [Gr,BG]
 refine AA nd ?_
 simp
 refine AA li ?_
 simp [hs]
 rcases lk with rfl | rfl | rfl | rfl | rfl
 ·simp [EW]
  refine AA lw ?_
  by_cases hw:1 ≤ w ∧ w ≤ 4
  ·have e:Bu (0,s,w) = DD 0 ++ (32::RU s ++ 32::Pj w):= by simp [Bu,Dw,hn,hs,hw]
   rw [e]
   have h4:w = 1 ∨ w = 2 ∨ w = 3 ∨ w = 4:= by omega
   simp [hw,EW]
   refine AA nu ?_
   rcases h4 with rfl | rfl | rfl | rfl <;>
   ·simp [DD,Pj]
    omega
  ·rw [PV (by simp [Dw,hw])]
   simp [hw]
 all_goals
  have e:= hn
  simp [TD] at e
 ·have e':Bu (1,s,w) = DD 1 ++ 32::RU s:= by simp [Bu,Dw,hn,hs]
  rw [e']
  simp [EW]
  refine AA nu ?_
  simp [DD]
  omega
 ·have e':Bu (2,s,w) = DD 2 ++ 32::RU s:= by simp [Bu,Dw,hn,hs]
  rw [e']
  simp [EW]
  refine AA nu ?_
  simp [DD]
  omega
 ·have e':Bu (3,s,w) = DD 3:= by simp [Bu,Dw,hn,hs]
  rw [e']
  simp [DD,EW]
 ·have e':Bu (4,s,w) = DD 4:= by simp [Bu,Dw,hn,hs]
  rw [e']
  simp [DD,EW]
end Go.Proofs.Dev
namespace Go.Proofs
open Go.Shelf
def Tryz.laysC172_ren:Go.Shelf.Ren:= ⟨fun | 172 => 114 | 244 => 161 | 245 => 162 | 247 => 215 | 279 => 216 | 280 => 217 | 281 => 218 | 282 => 219 | 287 => 251 | 316 => 252 | 171 => 64 | 205 => 253 | 321 => 276 | 322 => 277 | 243 => 134 | 246 => 187 | 283 => 230 | 284 => 231 | 285 => 232 | 286 => 233 | 129 => 260 | 317 => 259 | 318 => 261 | 319 => 262 | 320 => 263 | 337 => 279 | 338 => 280 | n => n,fun | 9 => 9 | 3 => 3 | 75 => 76 | 76 => 77 | 4 => 4 | 5 => 5 | 167 => 179 | 37 => 22 | 0 => 0 | 85 => 180 | 2 => 2 | 168 => 182 | 53 => 189 | 175 => 212 | 46 => 177 | 210 => 215 | 127 => 123 | 145 => 235 | 143 => 233 | 21 => 21 | 171 => 188 | 173 => 192 | 212 => 220 | 51 => 207 | 20 => 20 | 213 => 221 | 232 => 247 | 233 => 248 | 80 => 79 | n => n,fun | 15 => 2 | 16 => 3 | 17 => 4 | 18 => 7 | 19 => 8 | n => n⟩
theorem Tryz.laysC172:Go.Proofs.LaysC.n172 Tryz.prog Tryz.laysC172_ren:= {
 mixed:= by kernel_rfl
 f129:= Tryz.func260.trans (congrArg some (by kernel_rfl))
 f171:= Tryz.func64.trans (congrArg some (by kernel_rfl))
 f172:= Tryz.func114.trans (congrArg some (by kernel_rfl))
 f205:= Tryz.func253.trans (congrArg some (by kernel_rfl))
 f243:= Tryz.func134.trans (congrArg some (by kernel_rfl))
 f244:= Tryz.func161.trans (congrArg some (by kernel_rfl))
 f245:= Tryz.func162.trans (congrArg some (by kernel_rfl))
 f246:= Tryz.func187.trans (congrArg some (by kernel_rfl))
 f247:= Tryz.func215.trans (congrArg some (by kernel_rfl))
 f279:= Tryz.func216.trans (congrArg some (by kernel_rfl))
 f280:= Tryz.func217.trans (congrArg some (by kernel_rfl))
 f281:= Tryz.func218.trans (congrArg some (by kernel_rfl))
 f282:= Tryz.func219.trans (congrArg some (by kernel_rfl))
 f283:= Tryz.func230.trans (congrArg some (by kernel_rfl))
 f284:= Tryz.func231.trans (congrArg some (by kernel_rfl))
 f285:= Tryz.func232.trans (congrArg some (by kernel_rfl))
 f286:= Tryz.func233.trans (congrArg some (by kernel_rfl))
 f287:= Tryz.func251.trans (congrArg some (by kernel_rfl))
 f316:= Tryz.func252.trans (congrArg some (by kernel_rfl))
 f317:= Tryz.func259.trans (congrArg some (by kernel_rfl))
 f318:= Tryz.func261.trans (congrArg some (by kernel_rfl))
 f319:= Tryz.func262.trans (congrArg some (by kernel_rfl))
 f320:= Tryz.func263.trans (congrArg some (by kernel_rfl))
 f321:= Tryz.func276.trans (congrArg some (by kernel_rfl))
 f322:= Tryz.func277.trans (congrArg some (by kernel_rfl))
 f337:= Tryz.func279.trans (congrArg some (by kernel_rfl))
 f338:= Tryz.func280.trans (congrArg some (by kernel_rfl))
 t0:= Tryz.underlying0
 a0:= Tryz.isAgg0
 z0:= Tryz.sizeOf0
 v0:= Tryz.zeroValue0
 t2:= Tryz.underlying2
 a2:= Tryz.isAgg2
 z2:= Tryz.sizeOf2
 v2:= Tryz.zeroValue2
 t3:= Tryz.underlying3
 a3:= Tryz.isAgg3
 z3:= Tryz.sizeOf3
 v3:= Tryz.zeroValue3
 t4:= Tryz.underlying4
 a4:= Tryz.isAgg4
 z4:= Tryz.sizeOf4
 v4:= Tryz.zeroValue4
 t5:= Tryz.underlying5
 a5:= Tryz.isAgg5
 z5:= Tryz.sizeOf5
 v5:= Tryz.zeroValue5
 t9:= Tryz.underlying9
 a9:= Tryz.isAgg9
 z9:= Tryz.sizeOf9
 v9:= Tryz.zeroValue9
 t20:= Tryz.underlying20
 a20:= Tryz.isAgg20
 z20:= Tryz.sizeOf20
 v20:= Tryz.zeroValue20
 t21:= Tryz.underlying21
 a21:= Tryz.isAgg21
 z21:= Tryz.sizeOf21
 v21:= Tryz.zeroValue21
 t37:= Tryz.underlying22
 a37:= Tryz.isAgg22
 z37:= Tryz.sizeOf22
 v37:= Tryz.zeroValue22
 t46:= Tryz.underlying177
 a46:= Tryz.isAgg177
 z46:= Tryz.sizeOf177
 v46:= Tryz.zeroValue177
 t51:= Tryz.underlying207
 a51:= Tryz.isAgg207
 z51:= Tryz.sizeOf207
 v51:= Tryz.zeroValue207
 t53:= Tryz.underlying189
 a53:= Tryz.isAgg189
 z53:= Tryz.sizeOf189
 v53:= Tryz.zeroValue189
 t75:= Tryz.underlying76
 a75:= Tryz.isAgg76
 z75:= Tryz.sizeOf76
 v75:= Tryz.zeroValue76
 t76:= Tryz.underlying77
 a76:= Tryz.isAgg77
 z76:= Tryz.sizeOf77
 v76:= Tryz.zeroValue77
 t85:= Tryz.underlying180
 a85:= Tryz.isAgg180
 z85:= Tryz.sizeOf180
 v85:= Tryz.zeroValue180
 t127:= Tryz.underlying123
 a127:= Tryz.isAgg123
 z127:= Tryz.sizeOf123
 v127:= Tryz.zeroValue123
 t143:= Tryz.underlying233
 a143:= Tryz.isAgg233
 z143:= Tryz.sizeOf233
 v143:= Tryz.zeroValue233
 t145:= Tryz.underlying235
 a145:= Tryz.isAgg235
 z145:= Tryz.sizeOf235
 v145:= Tryz.zeroValue235
 t167:= Tryz.underlying179
 a167:= Tryz.isAgg179
 z167:= Tryz.sizeOf179
 v167:= Tryz.zeroValue179
 t168:= Tryz.underlying182
 a168:= Tryz.isAgg182
 z168:= Tryz.sizeOf182
 v168:= Tryz.zeroValue182
 t171:= Tryz.underlying188
 a171:= Tryz.isAgg188
 z171:= Tryz.sizeOf188
 v171:= Tryz.zeroValue188
 t173:= Tryz.underlying192
 a173:= Tryz.isAgg192
 z173:= Tryz.sizeOf192
 v173:= Tryz.zeroValue192
 t175:= Tryz.underlying212
 a175:= Tryz.isAgg212
 z175:= Tryz.sizeOf212
 v175:= Tryz.zeroValue212
 t210:= Tryz.underlying215
 a210:= Tryz.isAgg215
 z210:= Tryz.sizeOf215
 v210:= Tryz.zeroValue215
 t212:= Tryz.underlying220
 a212:= Tryz.isAgg220
 z212:= Tryz.sizeOf220
 v212:= Tryz.zeroValue220
 t213:= Tryz.underlying221
 a213:= Tryz.isAgg221
 z213:= Tryz.sizeOf221
 t232:= Tryz.underlying247
 a232:= Tryz.isAgg247
 z232:= Tryz.sizeOf247
 v232:= Tryz.zeroValue247
 t233:= Tryz.underlying248
 a233:= Tryz.isAgg248
 z233:= Tryz.sizeOf248
 v233:= Tryz.zeroValue248
 g15:= by kernel_rfl
 g16:= by kernel_rfl
 g17:= by kernel_rfl
 g18:= by kernel_rfl
 g19:= by kernel_rfl
 t80:= Tryz.underlying79
 a80:= Tryz.isAgg79
 z80:= Tryz.sizeOf79
 v80:= Tryz.zeroValue79
 i0:= by kernel_rfl
 i2:= by kernel_rfl
 i3:= by kernel_rfl
 i4:= by kernel_rfl
 i5:= by kernel_rfl
 i9:= by kernel_rfl
 i20:= by kernel_rfl
 i21:= by kernel_rfl
 i37:= by kernel_rfl
 i46:= by kernel_rfl
 i51:= by kernel_rfl
 i53:= by kernel_rfl
 i75:= by kernel_rfl
 i76:= by kernel_rfl
 i80:= by kernel_rfl
 i85:= by kernel_rfl
 i127:= by kernel_rfl
 i143:= by kernel_rfl
 i145:= by kernel_rfl
 i167:= by kernel_rfl
 i168:= by kernel_rfl
 i171:= by kernel_rfl
 i173:= by kernel_rfl
 i175:= by kernel_rfl
 i210:= by kernel_rfl
 i212:= by kernel_rfl
 i232:= by kernel_rfl
 i233:= by kernel_rfl
 m15:= by kernel_rfl
 m16:= by kernel_rfl
 m17:= by kernel_rfl
 m18:= by kernel_rfl
 m19:= by kernel_rfl
 c0:= by kernel_rfl
 c2:= by kernel_rfl
 c3:= by kernel_rfl
 c4:= by kernel_rfl
 c5:= by kernel_rfl
 c9:= by kernel_rfl
 c20:= by kernel_rfl
 c21:= by kernel_rfl
 c37:= by kernel_rfl
 c46:= by kernel_rfl
 c51:= by kernel_rfl
 c53:= by kernel_rfl
 c75:= by kernel_rfl
 c76:= by kernel_rfl
 c80:= by kernel_rfl
 c85:= by kernel_rfl
 c127:= by kernel_rfl
 c143:= by kernel_rfl
 c145:= by kernel_rfl
 c167:= by kernel_rfl
 c168:= by kernel_rfl
 c171:= by kernel_rfl
 c173:= by kernel_rfl
 c175:= by kernel_rfl
 c210:= by kernel_rfl
 c212:= by kernel_rfl
 c213:= by kernel_rfl
 c232:= by kernel_rfl
 c233:= by kernel_rfl }
open Go.RowKit in
theorem Tryz.strconv_Atoi_ok (s:ByteArray) (hmax:s.size ≤ 9223372036854775806) (v:Int) (h:Lib.atoiAll s.data.toList = .ok v) (w:World):
  Calls Tryz.prog 114 #[.string s] w fun e w' => e = .returned (.tuple #[.int .i64 v,.nilIface]) ∧ (w' = w ∨ ∃ t,w' = Lib.bytesWorld w 5 t):= Any.strconv_Atoi_ok Tryz.laysC172 s hmax v h w
open Go.RowKit in
theorem Tryz.strconv_Atoi_range (s:ByteArray) (hlim:s.size ≤ 281474976710656) (h:Lib.atoiAll s.data.toList = .range) (ev:Value) (w:World) (hv:w.cell? ⟨3,0,none⟩ = some ev) (hev:ev = .nilIface ∨ ∃ te pe,ev = .iface te pe):
  Calls Tryz.prog 114 #[.string s] w fun e w' => ∃ N,e = .returned (.tuple #[.int .i64 (Lib.atoiSat s.data.toList),.iface 182 (.pointer (some ⟨N,0,none⟩))]) ∧ w.heap.size ≤ N ∧ w'.heap[N]? = some (.cells #[.string ⟨#[65,116,111,105]⟩,.string s,ev] 215 (0,0)) ∧ Below w.heap.size w w':= Any.strconv_Atoi_range Tryz.laysC172 s hlim h ev w hv hev
def Tryz.lays143_ren:Go.Shelf.Ren:= ⟨fun | 143 => 115 | 219 => 159 | 217 => 209 | 225 => 210 | 224 => 211 | 267 => 212 | 266 => 246 | 314 => 247 | n => n,fun | 9 => 9 | 3 => 3 | 4 => 4 | 5 => 5 | 46 => 177 | 146 => 208 | 51 => 207 | n => n,fun | 1 => 1 | n => n⟩
theorem Tryz.lays143:Go.Proofs.Lays.n143 Tryz.prog Tryz.lays143_ren:= {
 mixed:= by kernel_rfl
 f143:= Tryz.func115.trans (congrArg some (by kernel_rfl))
 f217:= Tryz.func209.trans (congrArg some (by kernel_rfl))
 f219:= Tryz.func159.trans (congrArg some (by kernel_rfl))
 f224:= Tryz.func211.trans (congrArg some (by kernel_rfl))
 f225:= Tryz.func210.trans (congrArg some (by kernel_rfl))
 f266:= Tryz.func246.trans (congrArg some (by kernel_rfl))
 f267:= Tryz.func212.trans (congrArg some (by kernel_rfl))
 f314:= Tryz.func247.trans (congrArg some (by kernel_rfl))
 t3:= Tryz.underlying3
 a3:= Tryz.isAgg3
 z3:= Tryz.sizeOf3
 v3:= Tryz.zeroValue3
 t4:= Tryz.underlying4
 a4:= Tryz.isAgg4
 z4:= Tryz.sizeOf4
 v4:= Tryz.zeroValue4
 t5:= Tryz.underlying5
 a5:= Tryz.isAgg5
 z5:= Tryz.sizeOf5
 v5:= Tryz.zeroValue5
 t9:= Tryz.underlying9
 a9:= Tryz.isAgg9
 z9:= Tryz.sizeOf9
 v9:= Tryz.zeroValue9
 t46:= Tryz.underlying177
 a46:= Tryz.isAgg177
 z46:= Tryz.sizeOf177
 v46:= Tryz.zeroValue177
 t51:= Tryz.underlying207
 a51:= Tryz.isAgg207
 z51:= Tryz.sizeOf207
 v51:= Tryz.zeroValue207
 t146:= Tryz.underlying208
 a146:= Tryz.isAgg208
 z146:= Tryz.sizeOf208
 v146:= Tryz.zeroValue208
 g1:= by kernel_rfl }
open Go.RowKit Go.Lib in
theorem Tryz.strings_Index (s sub:ByteArray) (m:Int) (w:World) (hs:s.size < 4294967281) (hm:w.cell? ⟨1,0,none⟩ = some (.int .i64 m)):
  Calls Tryz.prog 115 #[.string s,.string sub] w fun e w' => e = .returned (.int .i64 (Lib.index s.data.toList sub.data.toList)) ∧ w' = w:= Any.strings_Index Tryz.lays143 s sub m w hs hm
def Tryz.lays146_ren:Go.Shelf.Ren:= ⟨fun | 146 => 112 | 221 => 160 | 268 => 213 | 138 => 214 | 143 => 115 | 195 => 248 | 197 => 249 | 218 => 250 | 219 => 159 | 260 => 275 | 217 => 209 | 225 => 210 | 224 => 211 | 267 => 212 | 266 => 246 | 314 => 247 | n => n,fun | 9 => 9 | 31 => 58 | 3 => 3 | 4 => 4 | 0 => 0 | 105 => 210 | 21 => 21 | 5 => 5 | 46 => 177 | 119 => 242 | 139 => 245 | 138 => 244 | 146 => 208 | 51 => 207 | n => n,fun | 1 => 1 | 3 => 5 | 4 => 6 | n => n⟩
theorem Tryz.lays146:Go.Proofs.Lays.n146 Tryz.prog Tryz.lays146_ren:= {
 mixed:= by kernel_rfl
 f138:= Tryz.func214.trans (congrArg some (by kernel_rfl))
 f143:= Tryz.func115.trans (congrArg some (by kernel_rfl))
 f146:= Tryz.func112.trans (congrArg some (by kernel_rfl))
 f195:= Tryz.func248.trans (congrArg some (by kernel_rfl))
 f197:= Tryz.func249.trans (congrArg some (by kernel_rfl))
 f217:= Tryz.func209.trans (congrArg some (by kernel_rfl))
 f218:= Tryz.func250.trans (congrArg some (by kernel_rfl))
 f219:= Tryz.func159.trans (congrArg some (by kernel_rfl))
 f221:= Tryz.func160.trans (congrArg some (by kernel_rfl))
 f224:= Tryz.func211.trans (congrArg some (by kernel_rfl))
 f225:= Tryz.func210.trans (congrArg some (by kernel_rfl))
 f260:= Tryz.func275.trans (congrArg some (by kernel_rfl))
 f266:= Tryz.func246.trans (congrArg some (by kernel_rfl))
 f267:= Tryz.func212.trans (congrArg some (by kernel_rfl))
 f268:= Tryz.func213.trans (congrArg some (by kernel_rfl))
 f314:= Tryz.func247.trans (congrArg some (by kernel_rfl))
 t0:= Tryz.underlying0
 a0:= Tryz.isAgg0
 z0:= Tryz.sizeOf0
 v0:= Tryz.zeroValue0
 t3:= Tryz.underlying3
 a3:= Tryz.isAgg3
 z3:= Tryz.sizeOf3
 v3:= Tryz.zeroValue3
 t4:= Tryz.underlying4
 a4:= Tryz.isAgg4
 z4:= Tryz.sizeOf4
 v4:= Tryz.zeroValue4
 t5:= Tryz.underlying5
 a5:= Tryz.isAgg5
 z5:= Tryz.sizeOf5
 v5:= Tryz.zeroValue5
 t9:= Tryz.underlying9
 a9:= Tryz.isAgg9
 z9:= Tryz.sizeOf9
 v9:= Tryz.zeroValue9
 t21:= Tryz.underlying21
 a21:= Tryz.isAgg21
 z21:= Tryz.sizeOf21
 v21:= Tryz.zeroValue21
 t31:= Tryz.underlying58
 a31:= Tryz.isAgg58
 z31:= Tryz.sizeOf58
 v31:= Tryz.zeroValue58
 t46:= Tryz.underlying177
 a46:= Tryz.isAgg177
 z46:= Tryz.sizeOf177
 v46:= Tryz.zeroValue177
 t51:= Tryz.underlying207
 a51:= Tryz.isAgg207
 z51:= Tryz.sizeOf207
 v51:= Tryz.zeroValue207
 t105:= Tryz.underlying210
 a105:= Tryz.isAgg210
 z105:= Tryz.sizeOf210
 v105:= Tryz.zeroValue210
 t119:= Tryz.underlying242
 a119:= Tryz.isAgg242
 z119:= Tryz.sizeOf242
 t138:= Tryz.underlying244
 a138:= Tryz.isAgg244
 z138:= Tryz.sizeOf244
 v138:= Tryz.zeroValue244
 t139:= Tryz.underlying245
 a139:= Tryz.isAgg245
 z139:= Tryz.sizeOf245
 v139:= Tryz.zeroValue245
 t146:= Tryz.underlying208
 a146:= Tryz.isAgg208
 z146:= Tryz.sizeOf208
 v146:= Tryz.zeroValue208
 g1:= by kernel_rfl
 g3:= by kernel_rfl
 g4:= by kernel_rfl }
open Go.RowKit Go.Lib in
theorem Tryz.strings_Split (s sep:ByteArray) (m:Int) (w:World) (hs:s.size < 4294967281) (hm:w.cell? ⟨1,0,none⟩ = some (.int .i64 m)) (h1:1 ≤ sep.size):
  Calls Tryz.prog 112 #[.string s,.string sep] w fun e w' =>
   e = .returned (.slice (some ⟨w.heap.size,0,none⟩) (Lib.countB s sep + 1) (Lib.countB s sep + 1)) ∧ w' = w.alloc (.cells ((Lib.splitB sep 0 (Lib.countB s sep) s).map Value.string).toArray 9):= Any.strings_Split Tryz.lays146 (by kernel_rfl) s sep m w hs hm h1
end Go.Proofs
namespace Go.Proofs.Dev
open Go.RowKit
theorem Wo {w:World} {S:List Nat} {forb:Nat → Prop} (h:GB w S forb):∃ m:Int,w.cell? ⟨1,0,none⟩ = some (.int .i64 m):= by
 obtain ⟨u,h1,m,rfl⟩:= h.cell (g:= 1) (p:= sw) (by simp [gps])
 exact ⟨m,h1⟩
theorem Wp (s t:List UInt8) (hs:s.length < 2 ^ 30):SoundAt Tryz.prog 115 [.v (tx s),.v (tx t)] (.v (.int .i64 (Go.Lib.index s t))) [.bot,.bot]:= by
 refine gm (xs:= [tx s,tx t]) fun w S forb hg => ?_
 obtain ⟨m,hm⟩:= Wo hg
 refine (Tryz.strings_Index ⟨s.toArray⟩ ⟨t.toArray⟩ m w (by simp; omega) hm).mono ?_
 rintro e w' ⟨rfl,rfl⟩
 exact ⟨_,[],rfl,by rw [R]; exact ⟨rfl,rfl⟩,by simp,by simp,Kept.refl _ _ _⟩
theorem Wq (s:List UInt8) (c:UInt8) (hs:s.length < 2 ^ 30):SoundAt Tryz.prog 112 [.v (tx s),.v (tx [c])] (.os 1 (txs (D2 c s))) [.bot,.bot]:= by
 refine gm (xs:= [tx s,tx [c]]) fun w S forb hg => ?_
 obtain ⟨m,hm⟩:= Wo hg
 refine (Tryz.strings_Split ⟨s.toArray⟩ ⟨[c].toArray⟩ m w (by simp; omega) hm (by simp)).mono ?_
 rintro e w' ⟨rfl,rfl⟩
 have hb:= ew c s
 have hl:= Go.Lib.splitB_all ⟨[c].toArray⟩ (by simp) 0 _ ⟨s.toArray⟩ rfl
 have hlen:Go.Lib.countB ⟨s.toArray⟩ ⟨[c].toArray⟩ + 1 = (D2 c s).length:= by
  have:= congrArg List.length hb
  simp only [List.length_map] at this
  rw [← this,hl]
 rw [hb,hlen]
 have hcell:∀ j u,((D2 c s).map tx)[j]? = some u → (w.alloc (.cells ((D2 c s).map tx).toArray 9)).cell? ⟨w.heap.size,0 + j,none⟩ = some u:= by
  intro j u hj
  have e:(w.alloc (.cells ((D2 c s).map tx).toArray 9)).heap[w.heap.size]? = some (.cells ((D2 c s).map tx).toArray 9):= by
   show (w.heap.push _)[w.heap.size]? = _
   simp
  simp only [World.cell?,e,Nat.zero_add]
  simpa using hj
 refine ⟨_,[w.heap.size],rfl,?_,by simp,?_,?_⟩
 ·rw [R]
  refine ⟨some ⟨w.heap.size,0,none⟩,(D2 c s).length,by rw [PO],by rw [PO]; exact Nat.le_refl _,?_⟩
  right
  refine ⟨by omega,w.heap.size,0,(D2 c s).map tx,[],rfl,rfl,?_,?_,hcell,Z9 _,by rw [RR]; exact ga _ _⟩
  ·show w.heap.size < (w.heap.push _).size
   simp
  ·intro j hj
   have hj':j < (D2 c s).length:= by omega
   refine ⟨⟨tx (D2 c s)[j],hcell j _ (by simp [hj'])⟩,?_⟩
   have e:(w.alloc (.cells ((D2 c s).map tx).toArray 9)).heap[w.heap.size]? = some (.cells ((D2 c s).map tx).toArray 9):= by
    show (w.heap.push _)[w.heap.size]? = _
    simp
   show (w.alloc (.cells ((D2 c s).map tx).toArray 9)).frozen? ⟨w.heap.size,0 + j,none⟩ = false
   simp only [World.frozen?,e]
   simp
 ·intro x hx
  simp at hx
  subst hx
  exact ⟨by show w.heap.size < (w.heap.push _).size; simp,Nat.le_refl _⟩
 ·exact ⟨rfl,rfl,rfl,by show w.heap.size ≤ (w.heap.push _).size; simp,fun k hk _ => Mi w _ k hk,fun _ _ _ h => Xo h⟩
theorem l7 {c:UInt8}:∀ {l:List UInt8},(∀ j:Nat,l[j]? ≠ some c) → D2 c l = [l]
 | [],_ => rfl
 | x::l,h => by
   have h0:x ≠ c:= by have:= h 0; simpa using this
   rw [D2,if_neg h0,l7 (l:= l) (fun j => by have:= h (j + 1); simpa using this)]
theorem l8 {c:UInt8}:∀ {l:List UInt8} {i:Nat},l[i]? = some c → (∀ j:Nat,j < i → l[j]? ≠ some c) → D2 c l = l.take i::D2 c (l.drop (i + 1))
 | [],i,h,_ => by simp at h
 | x::l,0,h,_ => by
   have:x = c:= by simpa using h
   rw [D2,if_pos this]; simp
 | x::l,i + 1,h,h2 => by
   have h0:x ≠ c:= by have:= h2 0 (by omega); simpa using this
   rw [D2,if_neg h0,l8 (l:= l) (i:= i) (by simpa using h) (fun j hj => by have:= h2 (j + 1) (by omega); simpa using this)]
   simp
theorem cd (c:UInt8):∀ s:List UInt8,(D2 c s).length ≤ s.length + 1
 | [] => by simp [D2]
 | x::s => by
   have:= cd c s
   rw [D2]
   split
   ·simp; omega
   ·obtain ⟨p,ps,h⟩:= OE c s
    rw [h] at this ⊢
    simp at this ⊢; omega
theorem bE (s:List UInt8) (c:UInt8) (hs:s.length < 2 ^ 30):SoundAt Tryz.prog UU [.v (tx s),.v (.int .u8 (c.toNat:Int))] (.os 1 (txs (D2 c s))) [.bot,.bot]:= by
 refine AG (md:= mdT) (ms:= [false,false]) bC (by simp) ?_
 simp [UV]
 refine AF (fun m E H => ∃ (k f:Nat) (done:List (List UInt8)),m = s.length - k ∧ f ≤ k ∧ k ≤ s.length ∧ (∀ j:Nat,f ≤ j → j < k → s[j]? ≠ some c) ∧ done ++ D2 c (s.drop f) = D2 c s ∧ done.length ≤ k ∧ H = [some (.arr 1 (txs done))] ∧
  E = [(0,.v (tx s)),(1,.v (.int .u8 (c.toNat:Int))),(5,.ls 1 0 0 done.length),(6,.v (.int .i64 (f:Int))),(7,.v (.int .i64 (k:Int)))]) s.length ⟨0,0,[],by simp⟩ ?_
 rintro J hJ m E H ⟨k,f,done,rfl,hf,hk,hno,hc,hd,rfl,rfl⟩
 by_cases h:k < s.length
 ·by_cases he:s[k]? = some c
  ·have he':s[k] = c:= by rw [List.getElem?_eq_getElem h] at he; simpa using he
   have hcut:D2 c (s.drop f) = (s.drop f).take (k - f)::D2 c (s.drop (k + 1)):= by
    rw [l8 (i:= k - f) (by rw [List.getElem?_drop,show f + (k - f) = k by omega]; exact he) (fun j hj => by rw [List.getElem?_drop]; exact hno _ (by omega) (by omega))]
    rw [List.drop_drop,show f + (k - f + 1) = k + 1 by omega]
   have nx:= hJ (s.length - (k + 1)) [(0,.v (tx s)),(1,.v (.int .u8 (c.toNat:Int))),(5,.ls 1 0 0 (done.length + 1)),(6,.v (.int .i64 ((k:Int) + 1))),(7,.v (.int .i64 ((k:Int) + 1)))] [some (.arr 1 (txs done ++ [.v (tx ((s.drop f).take (k - f)))]))]
    ⟨k + 1,k + 1,done ++ [(s.drop f).take (k - f)],rfl,by omega,by omega,fun j h1 h2 => by omega,by rw [List.append_assoc,← hc,hcut]; rfl,by simp; omega,by rw [PP]; rfl,by simp⟩
   simp [Gn,h,he']
   exact ⟨⟨by omega,by omega⟩,⟨by omega,by omega⟩,⟨by omega,by omega⟩,_,by omega,nx⟩
  ·have he':¬ s[k] = c:= by rw [List.getElem?_eq_getElem h] at he; simpa using he
   have nx:= hJ (s.length - (k + 1)) [(0,.v (tx s)),(1,.v (.int .u8 (c.toNat:Int))),(5,.ls 1 0 0 done.length),(6,.v (.int .i64 (f:Int))),(7,.v (.int .i64 ((k:Int) + 1)))] [some (.arr 1 (txs done))]
    ⟨k + 1,f,done,rfl,by omega,by omega,fun j h1 h2 => by
     by_cases hj:j = k
     ·subst hj; exact he
     ·exact hno j h1 (by omega),hc,by omega,rfl,by simp⟩
   simp [Gn,h,he']
   exact ⟨⟨by omega,by omega⟩,_,by omega,nx⟩
 ·have hk':k = s.length:= by omega
  subst hk'
  have hcut:D2 c (s.drop f) = [s.drop f]:= by
   refine l7 fun j hj => ?_
   rw [List.getElem?_drop] at hj
   have:f + j < s.length:= (List.getElem?_eq_some_iff.1 hj).1
   exact hno _ (by omega) this hj
  rw [← hc,hcut,PP,bh]
  simp [Gn]
  refine ⟨by omega,⟨by omega,by omega⟩,?_⟩
  rw [List.take_of_length_le (by simp),List.take_of_length_le (l:= s.drop f) (by simp)]
theorem iz {s:List UInt8} {k:Nat} (n:Int) (h:k < s.length):Vg n (s.drop k) = if 48 ≤ s[k].toNat ∧ s[k].toNat ≤ 57 then Vg (10 * n + ((s[k].toNat:Int) - 48)) (s.drop (k + 1)) else none:= by
 rw [List.drop_eq_getElem_cons h,Vg]
set_option maxHeartbeats 1000000 in
theorem Wr (p:List UInt8) (hp:p.length < 2 ^ 30):SoundAt Tryz.prog O8 [.v (tx p)] (.v (.int .i64 (fW p))) [.bot]:= by
 refine AG (md:= mdT) (ms:= [false]) Wl (by simp) ?_
 simp [O9]
 refine AA (A7 (p.length:Int) 1 4) ?_
 by_cases h0:p.length = 0
 ·have e:¬ (1 ≤ (p.length:Int) ∧ (p.length:Int) ≤ 4):= by omega
  simp [fW,h0]
 by_cases h4:4 < p.length
 ·have e:¬ (1 ≤ (p.length:Int) ∧ (p.length:Int) ≤ 4):= by omega
  simp [fW,h4,e]
 have e:(1 ≤ (p.length:Int) ∧ (p.length:Int) ≤ 4):= by omega
 have hl:0 < p.length:= by omega
 have hhead:p.head? = some p[0]:= by rw [List.head?_eq_getElem?,List.getElem?_eq_getElem hl]
 have c48:((p[0].toNat:Int) = 48) ↔ p[0] = 48:= by
  have:= p9 p[0] 48
  simpa using this
 have loop:∀ Qc:AExit → ES → AN → Prop,(∀ E n,get E 2 = .v (.int .i64 0) ∨ True → get E 3 = .v (.int .i64 n) → Vg 0 p = some n → Qc (.exit 0) E []) → (∀ E,get E 2 = .v (.int .i64 (-1)) → Vg 0 p = none → Qc .ret E []) →
   CM [] [0,3,4] (awp Tryz.prog mdT B7) Qc [(0,.v (tx p)),(3,.v (.int .i64 0)),(4,.v (.int .i64 0))] []:= by
  intro Qc q1 q2
  refine AF (fun m E H => ∃ (k:Nat) (n:Int),m = p.length - k ∧ k ≤ p.length ∧ 0 ≤ n ∧ n < 10 ^ k ∧ Vg n (p.drop k) = Vg 0 p ∧ H = [] ∧ E = [(0,.v (tx p)),(3,.v (.int .i64 n)),(4,.v (.int .i64 (k:Int)))]) p.length ⟨0,0,by simp⟩ ?_
  rintro J hJ m E H ⟨k,n,rfl,hk,hn0,hn,hd,rfl,rfl⟩
  have h10:(10:Int) ^ k ≤ 10000:= by
   have:k = 0 ∨ k = 1 ∨ k = 2 ∨ k = 3 ∨ k = 4:= by omega
   rcases this with rfl | rfl | rfl | rfl | rfl <;> decide
  by_cases h:k < p.length
  ·rw [iz n h] at hd
   by_cases hc:48 ≤ p[k].toNat ∧ p[k].toNat ≤ 57
   ·rw [if_pos hc] at hd
    have a1:¬ ((p[k].toNat:Int) < 48):= by omega
    have a2:¬ ((57:Int) < (p[k].toNat:Int)):= by omega
    have nx:= hJ (p.length - (k + 1)) [(0,.v (tx p)),(3,.v (.int .i64 (10 * n + ((p[k].toNat:Int) - 48)))),(4,.v (.int .i64 ((k:Int) + 1)))] []
     ⟨k + 1,10 * n + ((p[k].toNat:Int) - 48),rfl,by omega,by omega,by rw [Int.pow_succ]; omega,hd,rfl,by simp⟩
    simp [B7,h,a1,a2]
    have hb:(p[k].toNat:Int) ≤ 57:= by omega
    have hb0:(48:Int) ≤ (p[k].toNat:Int):= by omega
    exact ⟨⟨by omega,by omega⟩,⟨by omega,by omega⟩,⟨by omega,by omega⟩,⟨by omega,by omega⟩,⟨by omega,by omega⟩,_,by omega,nx⟩
   ·rw [if_neg hc] at hd
    by_cases a1:(p[k].toNat:Int) < 48
    ·simp [B7,h,a1]
     exact q2 _ rfl hd.symm
    ·have a2:(57:Int) < (p[k].toNat:Int):= by omega
     simp [B7,h,a1,a2]
     exact q2 _ rfl hd.symm
  ·have hk':k = p.length:= by omega
   subst hk'
   rw [List.drop_length] at hd
   simp [B7]
   exact q1 _ n (.inr trivial) rfl hd.symm
 by_cases h1:1 < p.length
 ·by_cases hz:p[0] = 48
  ·have hg:(1:Int) < (p.length:Int):= by omega
   simp [fW,h0,h4,e,h1,hg,hl,hhead,hz]
  ·have hg:(1:Int) < (p.length:Int):= by omega
   have ed:fW p = (Vg 0 p).getD (-1):= by
    unfold fW
    rw [if_neg]
    rintro (h | h | ⟨_,h⟩)
    ·exact h0 h
    ·exact h4 h
    ·rw [hhead] at h; exact hz (by simpa using h)
   rw [ed]
   have c48':¬ ((p[0].toNat:Int) = 48):= fun h => hz (c48.1 h)
   simp [e,h1,hg,hz,hl,c48']
   refine loop _ ?_ ?_
   ·intro E n _ h3 hd
    simp [h3,hd]
   ·intro E h2 hd
    simp [h2,hd]
 ·have ed:fW p = (Vg 0 p).getD (-1):= by
   unfold fW
   rw [if_neg]
   rintro (h | h | ⟨h,_⟩)
   ·exact h0 h
   ·exact h4 h
   ·exact h1 h
  rw [ed]
  have hg:¬ (1:Int) < (p.length:Int):= by omega
  simp [e,h1,hg]
  refine loop _ ?_ ?_
  ·intro E n _ h3 hd
   simp [h3,hd]
  ·intro E h2 hd
   simp [h2,hd]
@[simp] abbrev ER:Nat:= 113
def BC:ACode:= .seq (.reg [.o 9 (.bin .lss 0) [.t 8,.t 7]]) <| .seq (.cond (.t 9) ( .skip) ( .exit 0)) <| .seq (.block 1 ( .seq (.reg [.m 10 8,.m 5 10]) <| .seq (.reg [.m 11 1,.m 12 0,.m 13 5,.o 14 (.iadr 1) [.t 12,.t 13],.l 15 14,.o 16 (.bin .eql 1) [.t 11,.t 15]]) <| .cond (.t 16) ( .seq (.reg [.m 17 5,.m 4 17]) <| .ret) ( .skip))) <| .reg [.o 18 (.bin .add 0) [.t 8,.k 1],.m 8 18]
def ET:ACode:= .seq (.reg [.o 4 .mv [.k 0]]) <| .seq (.seq (.reg [.m 6 0,.n 7 6,.o 8 .mv [.k 0]]) <| .block 0 ( .loop [(0,1)] [0,1,7,8] BC)) <| .seq (.reg [.o 4 .mv [.k (-1)]]) <| .ret
theorem JI:cFn Tryz.prog ER 19 [.t 4] ET:= ⟨Tryz.f113,_,Tryz.func113,rfl,by kernel_rfl,by kernel_rfl,by kernel_rfl,by kernel_rfl⟩
@[simp] abbrev PD:Nat:= 52
def Gt:ACode:= .seq (.seq (.reg [.f 14 0 5,.l 15 14,.o 16 (.bin .lss 0) [.t 15,.k 0]]) <| .cond (.t 16) ( .seq (.reg [.o 17 (.build dz []) [],.s (.store 3) [.t 2,.t 17],.o 3 .mv [.kb false]]) <| .ret) ( .skip)) <| .seq (.seq (.reg [.m 18 4,.n 19 18,.o 20 (.bin .gtr 0) [.t 19,.k 1]]) <| .cond (.t 20) ( .reg [.m 22 4,.o 23 (.iadr 1) [.t 22,.k 1],.l 24 23,.o 25 (.call 114 []) [.t 24],.m 21 25,.e 26 0 21,.e 27 1 21,.f 28 1 5,.s (.store 1) [.t 28,.t 26]]) ( .skip)) <| .seq (.seq (.reg [.m 29 4,.n 30 29,.o 31 (.bin .gtr 0) [.t 30,.k 2]]) <| .cond (.t 31) ( .reg [.m 32 4,.o 33 (.iadr 1) [.t 32,.k 2],.l 34 33,.o 35 (.call 115 []) [.c (.v (.string ⟨#[35,101,110,119,115]⟩)),.t 34],.o 36 (.mnx false) [.k 0,.t 35],.f 37 2 5,.s (.store 1) [.t 37,.t 36]]) ( .skip)) <| .seq (.seq (.reg [.la 38 3 5,.o 39 (.call 20 []) [.t 38],.m 40 0,.o 41 (.bin .neq 1) [.t 39,.t 40]]) <| .cond (.t 41) ( .seq (.reg [.o 42 (.build dz []) [],.s (.store 3) [.t 2,.t 42],.o 3 .mv [.kb false]]) <| .ret) ( .skip)) <| .seq (.reg [.la 43 3 5,.s (.store 3) [.t 2,.t 43],.o 3 .mv [.kb true]]) <| .ret
abbrev EU:Plan:= .al (.o 12 (.call 113 []) [.t 8,.t 11]) ( .take (.o 13 (.build dz [(0,1)]) [.t 12]) <| .al (.s (.store 3) [.t 5,.t 13]) ( .done))
abbrev LP:Plan:= .al (.o 8 (.load false 1) [.c (.vp 0 [.sl 0 1 [.v (.string ⟨#[108,97,121]⟩),.v (.string ⟨#[108,105,102,116]⟩),.v (.string ⟨#[102,108,105,112]⟩),.v (.string ⟨#[102,111,114,99,101]⟩),.v (.string ⟨#[98,97,99,107]⟩)]] 0)]) EU
abbrev LQ:Plan:= .alt (.o 12 (.call 113 []) [.t 8,.t 11]) ( .take (.o 13 (.build dz [(0,1)]) [.t 12]) <| .al (.o 5 (.alloc dz) []) ( .al (.s (.store 3) [.t 5,.t 13]) ( .done))) <| .al (.o 5 (.alloc dz) []) EU
def PE:ACode:= .seq (.reg [.o 2 (.alloc dz) [],.o 3 .mv [.kb false]]) <| .seq (.reg [.m 6 0,.o 7 (.call 112 []) [.t 6,.c (.v (.string ⟨#[32]⟩))],.m 4 7]) <| .seq (.draw ( .take (.m 9 4) <| .take (.o 10 (.iadr 1) [.t 9,.k 0]) <| .alt (.o 8 (.load false 1) [.c (.vp 0 [.sl 0 1 [.v (.string ⟨#[108,97,121]⟩),.v (.string ⟨#[108,105,102,116]⟩),.v (.string ⟨#[102,108,105,112]⟩),.v (.string ⟨#[102,111,114,99,101]⟩),.v (.string ⟨#[98,97,99,107]⟩)]] 0)]) ( .alt (.l 11 10) LQ <| .al (.o 5 (.alloc dz) []) ( .al (.l 11 10) EU)) <| .alt (.l 11 10) ( .alt (.o 8 (.load false 1) [.c (.vp 0 [.sl 0 1 [.v (.string ⟨#[108,97,121]⟩),.v (.string ⟨#[108,105,102,116]⟩),.v (.string ⟨#[102,108,105,112]⟩),.v (.string ⟨#[102,111,114,99,101]⟩),.v (.string ⟨#[98,97,99,107]⟩)]] 0)]) LQ <| .al (.o 5 (.alloc dz) []) LP) <| .al (.o 5 (.alloc dz) []) ( .alt (.o 8 (.load false 1) [.c (.vp 0 [.sl 0 1 [.v (.string ⟨#[108,97,121]⟩),.v (.string ⟨#[108,105,102,116]⟩),.v (.string ⟨#[102,108,105,112]⟩),.v (.string ⟨#[102,111,114,99,101]⟩),.v (.string ⟨#[98,97,99,107]⟩)]] 0)]) ( .al (.l 11 10) EU) <| .al (.l 11 10) LP))) <| .gc [] [0,2,4,5] Gt
theorem Ws:cFn Tryz.prog PD 44 [.c 2 true 3,.t 3] PE:= ⟨Tryz.f52,_,Tryz.func52,rfl,by kernel_rfl,by kernel_rfl,by kernel_rfl,by kernel_rfl⟩
@[simp] abbrev PF:Nat:= 56
abbrev Er:Plan:= .take (.o 22 (.bin .eql 1) [.t 17,.t 21]) <| .done
def DB:ACode:= .seq (.seq (.reg [.m 11 6,.o 12 (.bin .leq 0) [.t 11,.k 4]]) <| .cond (.t 12) ( .skip) ( .exit 0)) <| .seq (.block 1 ( .seq (.draw ( .take (.m 15 4) <| .take (.o 16 (.iadr 1) [.t 15,.k 0]) <| .take (.m 19 6) <| .alt (.l 17 16) ( .al (.o 18 (.bsl 1) [.c (.v (.string ⟨#[108,97,121]⟩)),.c (.v (.string ⟨#[108,105,102,116]⟩)),.c (.v (.string ⟨#[102,108,105,112]⟩)),.c (.v (.string ⟨#[102,111,114,99,101]⟩)),.c (.v (.string ⟨#[98,97,99,107]⟩))]) ( .take (.o 20 (.iadr 1) [.t 18,.t 19]) <| .al (.l 21 20) Er)) <| .al (.o 18 (.bsl 1) [.c (.v (.string ⟨#[108,97,121]⟩)),.c (.v (.string ⟨#[108,105,102,116]⟩)),.c (.v (.string ⟨#[102,108,105,112]⟩)),.c (.v (.string ⟨#[102,111,114,99,101]⟩)),.c (.v (.string ⟨#[98,97,99,107]⟩))]) ( .take (.o 20 (.iadr 1) [.t 18,.t 19]) <| .alt (.l 17 16) ( .al (.l 21 20) Er) <| .al (.l 21 20) ( .al (.l 17 16) Er)))) <| .cond (.t 22) ( .reg [.m 23 6,.f 24 0 5,.s (.store 1) [.t 24,.t 23]]) ( .skip))) <| .reg [.m 13 6,.o 14 (.bin .add 0) [.t 13,.k 1],.m 6 14]
def B8:ACode:= .seq (.seq (.reg [.m 33 7,.o 34 (.bin .leq 0) [.t 33,.k 4],.m 35 34,.mg 36 4 35 true,.g 37 (.len false) [.t 36] 35 true,.g 38 (.bin .gtr 0) [.t 37,.k 2] 35 true,.o 39 .pick [.t 35,.t 38,.kb false]]) <| .cond (.t 39) ( .skip) ( .exit 2)) <| .seq (.block 3 ( .seq (.draw ( .take (.m 42 4) <| .take (.o 43 (.iadr 1) [.t 42,.k 2]) <| .take (.m 45 7) <| .alt (.l 44 43) ( .al (.o 46 (.call 107 []) [.t 45]) ( .take (.o 47 (.bin .eql 1) [.t 44,.t 46]) <| .done)) <| .al (.o 46 (.call 107 []) [.t 45]) ( .al (.l 44 43) ( .take (.o 47 (.bin .eql 1) [.t 44,.t 46]) <| .done)))) <| .cond (.t 47) ( .reg [.m 48 7,.f 49 2 5,.s (.store 1) [.t 49,.t 48]]) ( .skip))) <| .reg [.m 40 7,.o 41 (.bin .add 0) [.t 40,.k 1],.m 7 41]
def PG:ACode:= .seq (.reg [.o 2 (.alloc dz) [],.o 3 .mv [.kb false]]) <| .seq (.reg [.m 8 0,.o 9 (.call 116 []) [.t 8,.c (.v (.int .u8 (32)))],.m 4 9]) <| .seq (.reg [.o 10 (.build dz [(0,1)]) [.k (-1)],.o 5 (.alloc dz) [],.s (.store 3) [.t 5,.t 10]]) <| .seq (.seq (.reg [.o 6 .mv [.k 0]]) <| .block 0 ( .loop [(4,1)] [0,2,4,5,6] DB)) <| .seq (.seq (.reg [.m 25 4,.n 26 25,.o 27 (.bin .gtr 0) [.t 26,.k 1]]) <| .cond (.t 27) ( .reg [.m 28 4,.o 29 (.iadr 1) [.t 28,.k 1],.l 30 29,.o 31 (.call 117 []) [.t 30],.f 32 1 5,.s (.store 1) [.t 32,.t 31]]) ( .skip)) <| .seq (.seq (.reg [.o 7 .mv [.k 1]]) <| .block 2 ( .loop [(4,1)] [0,2,4,5,7] B8)) <| .seq (.seq (.reg [.m 50 0,.o 51 (.bin .eql 1) [.t 50,.c (.v (.string ⟨#[]⟩))],.m 52 51,.g 53 (.load true 3) [.t 5] 52 false,.g 54 (.call 48 []) [.t 53] 52 false,.mg 55 0 52 false,.g 56 (.bin .neq 1) [.t 54,.t 55] 52 false,.o 57 .pick [.t 52,.kb true,.t 56]]) <| .cond (.t 57) ( .seq (.reg [.o 58 (.build dz []) [],.s (.store 3) [.t 2,.t 58],.o 3 .mv [.kb false]]) <| .ret) ( .skip)) <| .seq (.reg [.la 59 3 5,.s (.store 3) [.t 2,.t 59],.o 3 .mv [.kb true]]) <| .ret
theorem Wt:cFn Tryz.prog PF 60 [.c 2 true 3,.t 3] PG:= ⟨Tryz.f56,_,Tryz.func56,rfl,by kernel_rfl,by kernel_rfl,by kernel_rfl,by kernel_rfl⟩
def kAt (p:List UInt8):Nat → Int
 | 0 => -1
 | i + 1 => if p = DD i then (i:Int) else kAt p i
theorem n7 (p:List UInt8):kAt p 5 = Lt p:= by
 by_cases h0:p = DD 0
 ·subst h0; decide
 by_cases h1:p = DD 1
 ·subst h1; decide
 by_cases h2:p = DD 2
 ·subst h2; decide
 by_cases h3:p = DD 3
 ·subst h3; decide
 by_cases h4:p = DD 4
 ·subst h4; decide
 have e0:¬ p = DD ((0:Nat):Int):= h0
 have e1:¬ p = DD ((1:Nat):Int):= h1
 have e2:¬ p = DD ((2:Nat):Int):= h2
 have e3:¬ p = DD ((3:Nat):Int):= h3
 have e4:¬ p = DD ((4:Nat):Int):= h4
 rw [kAt,if_neg e4,kAt,if_neg e3,kAt,if_neg e2,kAt,if_neg e1,kAt,if_neg e0,kAt]
 simp [Lt,h0,h1,h2,h3,h4]
def wAt (p:List UInt8):Nat → Int
 | 0 => 0
 | i + 1 => if p = Pj (i + 1) then ((i:Int) + 1) else wAt p i
theorem n8 (p:List UInt8):wAt p 4 = nL p:= by
 by_cases h1:p = Pj 1
 ·subst h1; decide
 by_cases h2:p = Pj 2
 ·subst h2; decide
 by_cases h3:p = Pj 3
 ·subst h3; decide
 by_cases h4:p = Pj 4
 ·subst h4; decide
 have e1:¬ p = Pj (((0:Nat):Int) + 1):= h1
 have e2:¬ p = Pj (((1:Nat):Int) + 1):= h2
 have e3:¬ p = Pj (((2:Nat):Int) + 1):= h3
 have e4:¬ p = Pj (((3:Nat):Int) + 1):= h4
 rw [wAt,if_neg e4,wAt,if_neg e3,wAt,if_neg e2,wAt,if_neg e1,wAt]
 simp [nL,h1,h2,h3,h4]
abbrev rdE (s:List UInt8) (n:Nat) (t:Nat) (k:Nat):ES:= [(0,.v (tx s)),(2,.lp 0 0 0 0),(4,.ls 1 1 0 n),(5,.lp 0 2 0 0),(t,.v (.int .i64 (k:Int)))]
abbrev rdH (ps:List (List UInt8)) (a b c:Int):AN:= [some (.box [.v (.int .i64 0),.v (.int .i64 0),.v (.int .i64 0)]),some (.arr 1 (txs ps)),some (.box [.v (.int .i64 a),.v (.int .i64 b),.v (.int .i64 c)])]
set_option maxHeartbeats 8000000 in
theorem sc (s:List UInt8) (ps:List (List UInt8)) (h0:0 < ps.length) (Qc:AExit → ES → AN → Prop) (hq:Qc (.exit 0) (rdE s ps.length 6 5 ++ []) (rdH ps (Lt (nth ps 0)) 0 0) ∨ True)
  (hend:∀ E,get E 0 = .v (tx s) → get E 2 = .lp 0 0 0 0 → get E 4 = .ls 1 1 0 ps.length → get E 5 = .lp 0 2 0 0 → Qc (.exit 0) E (rdH ps (Lt (nth ps 0)) 0 0)):
  CM [(4,1)] [0,2,4,5,6] (awp Tryz.prog mdT DB) Qc (rdE s ps.length 6 0) (rdH ps (-1) 0 0):= by
 refine AF (fun m E H => ∃ k:Nat,m = 5 - k ∧ k ≤ 5 ∧ E = rdE s ps.length 6 k ∧ H = rdH ps (kAt (nth ps 0) k) 0 0) 5 ⟨0,rfl,by omega,rfl,rfl⟩ ?_
 rintro J hJ m E H ⟨k,rfl,hk,rfl,rfl⟩
 have hg:ps[0] = nth ps 0:= by simp [nth,h0]
 by_cases h5:k = 5
 ·subst h5
  rw [n7]
  simp [DB]
  exact hend _ rfl rfl rfl rfl
 have nx1:nth ps 0 = DD k → CL J (5 - k) (rdE s ps.length 6 (k + 1)) (rdH ps k 0 0):= fun e => ⟨_,by omega,hJ _ _ _ ⟨k + 1,rfl,by omega,rfl,by rw [kAt,if_pos e]⟩⟩
 have nx2:nth ps 0 ≠ DD k → CL J (5 - k) (rdE s ps.length 6 (k + 1)) (rdH ps (kAt (nth ps 0) k) 0 0):= fun e => ⟨_,by omega,hJ _ _ _ ⟨k + 1,rfl,by omega,rfl,by rw [kAt,if_neg e]⟩⟩
 generalize kAt (nth ps 0) k = q at *
 generalize nth ps 0 = x at *
 have:k = 0 ∨ k = 1 ∨ k = 2 ∨ k = 3 ∨ k = 4:= by omega
 by_cases e:x = DD (k:Int)
 ·have nx:= nx1 e
  clear nx1 nx2 hend hq
  rcases this with rfl | rfl | rfl | rfl | rfl <;>
  ·simp [DD] at e nx
   simp [DB,h0,hg,e]
   (repeat' first | exact nx | apply And.intro)
 ·have nx:= nx2 e
  clear nx1 nx2 hend hq
  rcases this with rfl | rfl | rfl | rfl | rfl <;>
  ·simp [DD] at e nx
   simp [DB,h0,hg,e]
   (repeat' first | exact nx | apply And.intro)
set_option maxHeartbeats 8000000 in
theorem qY (s:List UInt8) (ps:List (List UInt8)) (a b:Int) (hp:ps.length < 2 ^ 40) (Qc:AExit → ES → AN → Prop)
  (hend:∀ E,get E 0 = .v (tx s) → get E 2 = .lp 0 0 0 0 → get E 5 = .lp 0 2 0 0 → Qc (.exit 2) E (rdH ps a b (if 2 < ps.length then nL (nth ps 2) else 0))):
  CM [(4,1)] [0,2,4,5,7] (awp Tryz.prog mdT B8) Qc (rdE s ps.length 7 1) (rdH ps a b 0):= by
 by_cases h2:2 < ps.length
 case neg =>
  have h2':¬ (2:Int) < (ps.length:Int):= by omega
  refine AF (fun m E H => m = 0 ∧ E = rdE s ps.length 7 1 ∧ H = rdH ps a b 0) 0 ⟨rfl,rfl,rfl⟩ ?_
  rintro J hJ m E H ⟨rfl,rfl,rfl⟩
  simp only [if_neg h2] at hend
  simp [B8,h2']
  exact hend _ rfl rfl rfl
 have h2':(2:Int) < (ps.length:Int):= by omega
 rw [if_pos h2] at hend
 refine AF (fun m E H => ∃ k:Nat,m = 4 - k ∧ k ≤ 4 ∧ E = rdE s ps.length 7 (k + 1) ∧ H = rdH ps a b (wAt (nth ps 2) k)) 4 ⟨0,rfl,by omega,rfl,rfl⟩ ?_
 rintro J hJ m E H ⟨k,rfl,hk,rfl,rfl⟩
 have hg:ps[2] = nth ps 2:= by simp [nth,h2]
 by_cases h5:k = 4
 ·subst h5
  rw [n8]
  simp [B8]
  exact hend _ rfl rfl rfl
 have le:= Nn ((k:Int) + 1)
 have nx1:nth ps 2 = Pj ((k:Int) + 1) → CL J (4 - k) (rdE s ps.length 7 (k + 2)) (rdH ps a b ((k:Int) + 1)):= fun e => ⟨_,by omega,hJ _ _ _ ⟨k + 1,rfl,by omega,rfl,by rw [wAt,if_pos e]⟩⟩
 have nx2:nth ps 2 ≠ Pj ((k:Int) + 1) → CL J (4 - k) (rdE s ps.length 7 (k + 2)) (rdH ps a b (wAt (nth ps 2) k)):= fun e => ⟨_,by omega,hJ _ _ _ ⟨k + 1,rfl,by omega,rfl,by rw [wAt,if_neg e]⟩⟩
 have e2:((k + 2:Nat):Int) = (k:Int) + 1 + 1:= by omega
 simp only [rdE,e2] at nx1 nx2
 have hk4:(k:Int) + 1 ≤ 4:= by omega
 generalize wAt (nth ps 2) k = q at *
 generalize nth ps 2 = x at *
 generalize hlt:Pj ((k:Int) + 1) = y at *
 by_cases e:x = y
 ·have nx:= nx1 e
  simp [B8,h2,h2',hg,hk4]
  (repeat' first | omega | apply And.intro) <;>
  ·refine AA le ?_
   simp [e,h2,hg,nx]
   try omega
 ·have nx:= nx2 e
  simp [B8,h2,h2',hg,hk4]
  (repeat' first | omega | apply And.intro) <;>
  ·refine AA le ?_
   simp [e,h2,hg,nx]
   try omega
def E8:ACode:= .seq (.seq (.reg [.m 50 0,.o 51 (.bin .eql 1) [.t 50,.c (.v (.string ⟨#[]⟩))],.m 52 51,.g 53 (.load true 3) [.t 5] 52 false,.g 54 (.call 48 []) [.t 53] 52 false,.mg 55 0 52 false,.g 56 (.bin .neq 1) [.t 54,.t 55] 52 false,.o 57 .pick [.t 52,.kb true,.t 56]]) <| .cond (.t 57) ( .seq (.reg [.o 58 (.build dz []) [],.s (.store 3) [.t 2,.t 58],.o 3 .mv [.kb false]]) <| .ret) ( .skip)) <| .seq (.reg [.la 59 3 5,.s (.store 3) [.t 2,.t 59],.o 3 .mv [.kb true]]) <| .ret
def Fg (d:Int × Int × Int) (b:Bool):AV:= .tup [BG d,.v (.bool b)]
set_option maxHeartbeats 8000000 in
theorem BH (s:List UInt8) (hs:s.length < 2 ^ 30):SoundAt Tryz.prog PF [.v (tx s)] (Fg (Ci s) (Co s)) [.bot]:= by
 have cu:= bE s 32 hs
 have hlen:= cd 32 s
 obtain ⟨p,qs,hps⟩:= OE 32 s
 have h0:0 < (D2 32 s).length:= by rw [hps]; simp
 have dt:= KF (Vh s)
 have dx:Vh s = (Lt (nth (D2 32 s) 0),if 1 < (D2 32 s).length then fW (nth (D2 32 s) 1) else 0,if 2 < (D2 32 s).length then nL (nth (D2 32 s) 2) else 0):= rfl
 have rb:Co s = (decide (s ≠ []) && decide (Bu (Vh s) = s)):= rfl
 have rdd:Ci s = if Co s then Vh s else (0,0,0):= rfl
 have l1:= Wr (nth (D2 32 s) 1) (by have:= dV 32 s 1; omega)
 refine AG (md:= mdT) (ms:= [false]) Wt (by simp) ?_
 simp [PG]
 refine AA cu ?_
 generalize D2 32 s = ps at *
 simp
 refine sc s ps h0 _ (.inr trivial) ?_
 intro E e0 e2 e4 e5
 have tail:∀ (E:ES) (b:Int),(b = if 1 < ps.length then fW (nth ps 1) else 0) → get E 0 = .v (tx s) → get E 2 = .lp 0 0 0 0 → get E 5 = .lp 0 2 0 0 →
   awp Tryz.prog mdT E8 (Fin [RV.c 2 true 3,RV.t 3] 60 1 [false] (Fg (Ci s) (Co s)) [AV.bot]) E (rdH ps (Lt (nth ps 0)) b (if 2 < ps.length then nL (nth ps 2) else 0)):= by
  intro E b hb e0 e2 e5
  rw [← hb] at dx
  generalize (if 2 < ps.length then nL (nth ps 2) else 0) = c at *
  generalize Lt (nth ps 0) = a at *
  rw [dx] at dt rb rdd
  simp only [BG] at dt
  generalize Bu (a,b,c) = t at *
  by_cases hs0:s = []
  ·have rb':Co s = false:= by rw [rb]; simp [hs0]
   rw [rdd,rb']
   subst hs0
   simp [E8,e0,e2,e5,Fg,BG]
  ·by_cases ht:t = s
   ·have rb':Co s = true:= by rw [rb]; simp [hs0,ht]
    rw [rdd,rb']
    simp [E8,e0,e2,e5,hs0]
    refine AA dt ?_
    simp [ht,e0,e2,e5,Fg,BG]
   ·have rb':Co s = false:= by rw [rb]; simp [ht]
    rw [rdd,rb']
    simp [E8,e0,e2,e5,hs0]
    refine AA dt ?_
    simp [ht,e0,e2,e5,Fg,BG]
 by_cases h1:1 < ps.length
 ·have h1':(1:Int) < (ps.length:Int):= by omega
  have hg1:ps[1] = nth ps 1:= by simp [nth,h1]
  rw [if_pos h1] at tail
  simp [e0,e2,e4,e5,h1,h1',hg1]
  refine AA l1 ?_
  simp [e0,e2,e4,e5]
  refine qY s ps _ _ (by omega) _ ?_
  intro E' f0 f2 f5
  simp only [Vb,if_true,UB]
  exact tail E' _ rfl f0 f2 f5
 ·have h1':¬ (1:Int) < (ps.length:Int):= by omega
  rw [if_neg h1] at tail
  simp [e0,e2,e4,e5,h1,h1']
  refine qY s ps _ _ (by omega) _ ?_
  intro E' f0 f2 f5
  simp only [Vb,if_true,UB]
  exact tail E' _ rfl f0 f2 f5
end Go.Proofs.Dev
