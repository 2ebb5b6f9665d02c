/- Contracts of the functions of the program over slots and rows, each proved against the program itself; no condition beyond those that each theorem names. -/
import Derived.Test.YtfkmfobbgoflgaaGreatDoorAH
import Derived.Test.YtfkmfobbgoflgaaGreatDoorProg
import Derived.Test.YtfkmfobbgoflgaaGreatDoorBA
import Derived.Test.YtfkmfobbgoflgaaGreatDoorAZ
import Derived.Test.YtfkmfobbgoflgaaGreatDoorAQ
set_option linter.unusedSimpArgs false
set_option linter.unusedVariables false
set_option maxRecDepth 100000
namespace Go.Proofs.Dev
@[simp] abbrev Gv:Nat:= 39
def Et:ACode:= .seq (.seq (.reg [.m 15 7,.o 16 (.bin .gtr 0) [.t 15,.k 0]]) <| .cond (.t 16) ( .skip) ( .exit 0)) <| .seq (.block 1 ( .reg [.m 19 6,.m 20 4,.la 21 6 5,.o 22 (.call 97 []) [.t 20,.t 21],.o 23 (.bsl 1) [.t 22],.o 24 (.app 1 16 true) [.t 19,.t 23],.m 6 24])) <| .reg [.m 17 7,.o 18 (.bin .sub 0) [.t 17,.k 1],.m 7 18]
def LR:ACode:= .seq (.reg [.o 2 (.alloc bz) [],.o 3 .mv [.c (.os 1 [])]]) <| .seq (.reg [.m 8 0,.o 9 (.call 43 []) [.t 8],.m 4 9]) <| .seq (.reg [.m 10 4,.o 11 (.call 57 []) [.t 10,.k 12],.o 5 (.alloc bz) [],.s (.store 6) [.t 5,.t 11]]) <| .seq (.reg [.o 12 (.bsl 1) [],.m 6 12]) <| .seq (.seq (.reg [.m 13 4,.o 14 (.call 54 []) [.t 13,.k 9],.m 7 14]) <| .block 0 ( .loop [(6,1)] [2,4,5,6,7] Et)) <| .seq (.seq (.reg [.m 25 4,.o 26 (.call 45 []) [.t 25,.k 30]]) <| .cond (.t 26) ( .reg [.o 27 (.mksl 1 16 (.v (.string ⟨#[]⟩))) [.k 41,.k 41],.m 6 27]) ( .skip)) <| .seq (.reg [.la 28 6 5,.m 29 6,.s (.store 6) [.t 2,.t 28],.m 3 29]) <| .ret
theorem St:cFn Tryz.prog Gv 30 [.c 2 true 6,.t 3] LR:= ⟨Tryz.f39,_,Tryz.func39,rfl,by kernel_rfl,by kernel_rfl,by kernel_rfl,by kernel_rfl⟩
@[simp] abbrev Im:Nat:= 40
def Dv:ACode:= .seq (.seq (.reg [.m 11 5,.m 12 0,.n 13 12,.o 14 (.bin .lss 0) [.t 11,.t 13]]) <| .cond (.t 14) ( .skip) ( .exit 0)) <| .seq (.block 1 ( .seq (.draw ( .take (.m 17 0) <| .take (.m 18 5) <| .take (.o 19 (.iadr 1) [.t 17,.t 18]) <| .take (.m 21 1) <| .take (.m 22 5) <| .take (.o 23 (.iadr 1) [.t 21,.t 22]) <| .alt (.l 20 19) ( .al (.l 24 23) ( .take (.o 25 (.bin .neq 1) [.t 20,.t 24]) <| .done)) <| .al (.l 24 23) ( .al (.l 20 19) ( .take (.o 25 (.bin .neq 1) [.t 20,.t 24]) <| .done)))) <| .cond (.t 25) ( .seq (.reg [.o 4 .mv [.kb false]]) <| .ret) ( .skip))) <| .reg [.m 15 5,.o 16 (.bin .add 0) [.t 15,.k 1],.m 5 16]
def Ip:ACode:= .seq (.reg [.o 4 .mv [.kb false]]) <| .seq (.seq (.reg [.m 6 0,.n 7 6,.m 8 1,.n 9 8,.o 10 (.bin .neq 0) [.t 7,.t 9]]) <| .cond (.t 10) ( .seq (.reg [.o 4 .mv [.kb false]]) <| .ret) ( .skip)) <| .seq (.seq (.reg [.o 5 .mv [.k 0]]) <| .block 0 ( .loop [(0,1),(1,1)] [0,1,5] Dv)) <| .seq (.reg [.o 4 .mv [.kb true]]) <| .ret
theorem U8:cFn Tryz.prog Im 26 [.t 4] Ip:= ⟨Tryz.f40,_,Tryz.func40,rfl,by kernel_rfl,by kernel_rfl,by kernel_rfl,by kernel_rfl⟩
@[simp] abbrev Nq:Nat:= 8
def Fy:ACode:= .seq (.seq (.reg [.m 84 14,.m 85 6,.n 86 85,.o 87 (.bin .lss 0) [.t 84,.t 86]]) <| .cond (.t 87) ( .skip) ( .exit 0)) <| .seq (.block 1 ( .seq (.reg [.m 90 6,.m 91 14,.o 92 (.iadr 1) [.t 90,.t 91],.l 93 92,.o 94 (.bin .eql 1) [.t 93,.c (.v (.string ⟨#[]⟩))]]) <| .cond (.t 94) ( .seq (.reg [.o 2 .mv [.kb false]]) <| .ret) ( .skip))) <| .reg [.m 88 14,.o 89 (.bin .add 0) [.t 88,.k 1],.m 14 89]
abbrev AU:Plan:= .al (.g 126 (.call 42 []) [.t 123,.t 125] 119 true) ( .take (.g 127 (.bin .gtr 0) [.t 126,.k 0] 119 true) <| .take (.g 128 (.bin .eql 2) [.t 121,.t 127] 119 true) <| .take (.o 129 .pick [.t 119,.t 128,.kb false]) <| .take (.m 2 129) <| .done)
abbrev HO:Plan:= .al (.o 102 (.call 22 []) [.t 100,.t 101]) ( .take (.m 103 102) <| .take (.mg 105 11 103 true) <| .take (.mg 107 13 103 true) <| .take (.mg 109 6 103 true) <| .al (.g 104 (.bsl 1) [] 103 true) ( .al (.g 106 (.app 1 16 true) [.t 104,.t 105] 103 true) ( .al (.g 108 (.app 1 16 true) [.t 106,.t 107] 103 true) ( .al (.g 110 (.call 40 []) [.t 108,.t 109] 103 true) ( .take (.o 111 .pick [.t 103,.t 110,.kb false]) <| .take (.m 112 111) <| .take (.mg 113 6 112 true) <| .take (.g 114 (.len false) [.t 113] 112 true) <| .take (.mg 115 4 112 true) <| .take (.g 116 (.len false) [.t 115] 112 true) <| .take (.g 117 (.bin .eql 0) [.t 114,.t 116] 112 true) <| .take (.o 118 .pick [.t 112,.t 117,.kb false]) <| .take (.m 119 118) <| .take (.fg 122 0 3 119 true) <| .take (.fg 124 3 3 119 true) <| .alt (.g 120 (.load true 6) [.t 15] 119 true) ( .alt (.g 121 (.call 41 []) [.t 120] 119 true) ( .alt (.g 123 (.load true 3) [.t 122] 119 true) ( .al (.lg 125 124 119 true) AU) <| .al (.lg 125 124 119 true) ( .al (.g 123 (.load true 3) [.t 122] 119 true) AU)) <| .alt (.g 123 (.load true 3) [.t 122] 119 true) ( .alt (.g 121 (.call 41 []) [.t 120] 119 true) ( .al (.lg 125 124 119 true) AU) <| .al (.lg 125 124 119 true) ( .al (.g 121 (.call 41 []) [.t 120] 119 true) AU)) <| .al (.lg 125 124 119 true) ( .alt (.g 121 (.call 41 []) [.t 120] 119 true) ( .al (.g 123 (.load true 3) [.t 122] 119 true) AU) <| .al (.g 123 (.load true 3) [.t 122] 119 true) ( .al (.g 121 (.call 41 []) [.t 120] 119 true) AU))) <| .alt (.g 123 (.load true 3) [.t 122] 119 true) ( .alt (.g 120 (.load true 6) [.t 15] 119 true) ( .alt (.g 121 (.call 41 []) [.t 120] 119 true) ( .al (.lg 125 124 119 true) AU) <| .al (.lg 125 124 119 true) ( .al (.g 121 (.call 41 []) [.t 120] 119 true) AU)) <| .al (.lg 125 124 119 true) ( .al (.g 120 (.load true 6) [.t 15] 119 true) ( .al (.g 121 (.call 41 []) [.t 120] 119 true) AU))) <| .al (.lg 125 124 119 true) ( .alt (.g 120 (.load true 6) [.t 15] 119 true) ( .alt (.g 121 (.call 41 []) [.t 120] 119 true) ( .al (.g 123 (.load true 3) [.t 122] 119 true) AU) <| .al (.g 123 (.load true 3) [.t 122] 119 true) ( .al (.g 121 (.call 41 []) [.t 120] 119 true) AU)) <| .al (.g 123 (.load true 3) [.t 122] 119 true) ( .al (.g 120 (.load true 6) [.t 15] 119 true) ( .al (.g 121 (.call 41 []) [.t 120] 119 true) AU))))))))
def Fz:ACode:= .seq (.seq (.reg [.o 14 .mv [.k 0]]) <| .block 0 ( .loop [(4,1),(6,1),(11,1),(13,1)] [3,4,5,6,11,12,13,14] Fy)) <| .seq (.reg [.la 96 6 5,.o 97 (.call 19 []) [.t 96,.c (.v (.string ⟨#[101,110,100]⟩))],.m 95 97,.e 98 0 95,.e 99 1 95,.o 15 (.alloc bz) [],.s (.store 6) [.t 15,.t 98],.m 16 99]) <| .seq (.draw ( .alt (.la 100 6 12) ( .al (.la 101 6 5) HO) <| .al (.la 101 6 5) ( .al (.la 100 6 12) HO))) <| .ret
abbrev HP:Plan:= .al (.o 81 (.call 32 []) [.t 77,.t 80]) ( .take (.m 76 81) <| .take (.e 82 0 76) <| .take (.e 83 1 76) <| .al (.s (.store 6) [.t 12,.t 82]) ( .take (.m 13 83) <| .done))
def F0:ACode:= .seq (.draw ( .take (.m 78 4) <| .take (.m 79 9) <| .take (.o 80 (.slice 1 false true false false) [.t 78,.t 79]) <| .alt (.la 77 6 10) ( .alt (.o 81 (.call 32 []) [.t 77,.t 80]) ( .take (.m 76 81) <| .take (.e 82 0 76) <| .take (.e 83 1 76) <| .al (.o 12 (.alloc bz) []) ( .al (.s (.store 6) [.t 12,.t 82]) ( .take (.m 13 83) <| .done))) <| .al (.o 12 (.alloc bz) []) HP) <| .al (.o 12 (.alloc bz) []) ( .al (.la 77 6 10) HP))) <| .gc [] [3,4,5,6,11,12,13] Fz
abbrev KP:Plan:= .al (.o 73 (.call 32 []) [.t 69,.t 72]) ( .take (.m 68 73) <| .take (.e 74 0 68) <| .take (.e 75 1 68) <| .al (.s (.store 6) [.t 10,.t 74]) ( .take (.m 11 75) <| .done))
def Nr:ACode:= .seq (.reg [.o 2 .mv [.kb false]]) <| .seq (.seq (.reg [.m 17 0,.n 18 17,.o 19 (.bin .gtr 0) [.t 18,.k 1048576]]) <| .cond (.t 19) ( .seq (.reg [.o 2 .mv [.kb true]]) <| .ret) ( .skip)) <| .seq (.reg [.m 21 0,.o 22 (.call 39 []) [.t 21],.m 20 22,.e 23 0 20,.e 24 1 20,.o 3 (.alloc bz) [],.s (.store 6) [.t 3,.t 23],.m 4 24]) <| .seq (.reg [.la 26 6 3,.m 27 4,.o 28 (.call 32 []) [.t 26,.t 27],.m 25 28,.e 29 0 25,.e 30 1 25,.o 5 (.alloc bz) [],.s (.store 6) [.t 5,.t 29],.m 6 30]) <| .seq (.reg [.la 32 6 3,.m 33 4,.o 34 (.call 30 []) [.t 32,.t 33],.m 31 34,.e 35 0 31,.e 36 1 31,.o 7 (.alloc bz) [],.s (.store 6) [.t 7,.t 35],.m 8 36]) <| .seq (.seq (.reg [.la 37 6 5,.la 38 6 7,.o 39 (.call 22 []) [.t 37,.t 38],.o 40 (.un .not) [.t 39],.m 41 40,.mg 42 6 41 false,.mg 43 8 41 false,.g 44 (.call 40 []) [.t 42,.t 43] 41 false,.g 45 (.un .not) [.t 44] 41 false,.o 46 .pick [.t 41,.kb true,.t 45]]) <| .cond (.t 46) ( .seq (.reg [.o 2 .mv [.kb false]]) <| .ret) ( .skip)) <| .seq (.seq (.reg [.la 47 6 3,.o 48 (.call 18 []) [.t 47],.o 49 (.un .not) [.t 48],.m 50 49,.mg 51 4 50 false,.g 52 (.len false) [.t 51] 50 false,.g 53 (.bin .gtr 0) [.t 52,.k 40] 50 false,.o 54 .pick [.t 50,.kb true,.t 53]]) <| .cond (.t 54) ( .seq (.reg [.m 55 6,.n 56 55,.o 57 (.bin .eql 0) [.t 56,.k 0],.m 58 57,.g 59 (.load true 6) [.t 5] 58 true,.g 60 (.call 37 []) [.t 59] 58 true,.o 61 .pick [.t 58,.t 60,.kb false],.m 62 61,.g 63 (.call 12 []) [] 62 true,.o 64 .pick [.t 62,.t 63,.kb false],.m 2 64]) <| .ret) ( .skip)) <| .seq (.reg [.m 65 4,.n 66 65,.o 67 (.bin .quo 0) [.t 66,.k 2],.m 9 67]) <| .seq (.draw ( .take (.m 70 4) <| .take (.m 71 9) <| .take (.o 72 (.slice 1 false false true false) [.t 70,.t 71]) <| .alt (.la 69 6 3) ( .alt (.o 73 (.call 32 []) [.t 69,.t 72]) ( .take (.m 68 73) <| .take (.e 74 0 68) <| .take (.e 75 1 68) <| .al (.o 10 (.alloc bz) []) ( .al (.s (.store 6) [.t 10,.t 74]) ( .take (.m 11 75) <| .done))) <| .al (.o 10 (.alloc bz) []) KP) <| .al (.o 10 (.alloc bz) []) ( .al (.la 69 6 3) KP))) <| .gc [] [3,4,5,6,9,10,11] F0
theorem U9:cFn Tryz.prog Nq 130 [.t 2] Nr:= ⟨Tryz.f8,_,Tryz.func8,rfl,by kernel_rfl,by kernel_rfl,by kernel_rfl,by kernel_rfl⟩
open Go.RowKit
@[simp] def mdL (f:Nat):List Bool:= if f = BX then [true] else mdl f
def IZ (W T:Int) (cs:List Bool) (ds:List Int):List Int → List (List Int) → List (List UInt8) → List Int × List (List Int) × List (List UInt8)
 | ls,ps,[] => (ls,ps,[])
 | ls,ps,s::xs => let r:= BZ W T cs ds ls ps s; let q:= IZ W T cs ds r.1 r.2.1 xs; (q.1,q.2.1,r.2.2::q.2.2)
theorem T4 (W T:Int) (cs:List Bool) (ds:List Int):∀ (xs ys:List (List UInt8)) (ls:List Int) (ps:List (List Int)),
  IZ W T cs ds ls ps (xs ++ ys) = ((IZ W T cs ds (IZ W T cs ds ls ps xs).1 (IZ W T cs ds ls ps xs).2.1 ys).1,(IZ W T cs ds (IZ W T cs ds ls ps xs).1 (IZ W T cs ds ls ps xs).2.1 ys).2.1,
   (IZ W T cs ds ls ps xs).2.2 ++ (IZ W T cs ds (IZ W T cs ds ls ps xs).1 (IZ W T cs ds ls ps xs).2.1 ys).2.2)
 | [],ys,ls,ps => rfl
 | x::xs,ys,ls,ps => by
   rw [List.cons_append,IZ,IZ]
   simp only [T4 W T cs ds xs ys,List.cons_append]
theorem eG (W T:Int) (cs:List Bool) (ds:List Int) (xs:List (List UInt8)) (s:List UInt8) (ls:List Int) (ps:List (List Int)):
  IZ W T cs ds ls ps (xs ++ [s]) = (let q:= IZ W T cs ds ls ps xs; let r:= BZ W T cs ds q.1 q.2.1 s; (r.1,r.2.1,q.2.2 ++ [r.2.2])):= by
 rw [T4]; rfl
theorem jK {W T:Int} {cs:List Bool} {ds:List Int}:∀ (xs:List (List UInt8)) {ls:List Int} {ps:List (List Int)},Aj W T cs ds ls ps = true → Aj W T cs ds (IZ W T cs ds ls ps xs).1 (IZ W T cs ds ls ps xs).2.1 = true
 | [],_,_,h => h
 | x::xs,_,_,h => jK xs (Tx x h)
theorem Zd {W T:Int} {cs:List Bool} {ds:List Int}:∀ (xs:List (List UInt8)) (ls:List Int) (ps:List (List Int)),(IZ W T cs ds ls ps xs).2.2.length = xs.length
 | [],_,_ => rfl
 | x::xs,_,_ => by rw [IZ]; simp [Zd xs]
def W6 (W T:Int) (cs:List Bool) (ds ls:List Int) (ps:List (List Int)) (xs:List (List UInt8)):Bool:= Aj W T cs ds ls ps && decide (xs.length ≤ 40)
def oE (W T:Int) (cs:List Bool) (ds ls:List Int) (ps:List (List Int)) (xs:List (List UInt8)):AV:=
 if W6 W T cs ds ls ps xs = true then .tup [bkO W T cs ds (IZ W T cs ds ls ps xs).1 (IZ W T cs ds ls ps xs).2.1,.os 1 (txs (IZ W T cs ds ls ps xs).2.2)] else .tup [bkO 0 0 [] [] [] [],.os 1 []]
theorem T5 (ls:List (List UInt8)):SoundAt Tryz.prog BX [.os 1 (txs ls)] (.os 1 (txs ls)) [.bot]:= by
 refine AG (md:= mdL) (ms:= [false]) KN (by simp) ?_
 simp [Es]
theorem Ln (W T:Int) (cs:List Bool) (ds ls:List Int) (ps:List (List Int)) (xs:List (List UInt8)) (hc:cs.length ≤ 2 ^ 30) (hd:ds.length ≤ 2 ^ 30) (hl:ls.length ≤ 2 ^ 30) (hb:ps.length ≤ 2 ^ 30) (hp:∀ p ∈ ps,p.length ≤ 2 ^ 30) (hn:xs.length < 2 ^ 40) (hx:∀ x ∈ xs,x.length < 2 ^ 30):
  SoundAt Tryz.prog QV [bkA W T cs ds ls ps,.sl 1 1 (txs xs)] (oE W T cs ds ls ps xs) [.bot,.bot]:= by
 have hv:= Fj W T cs ds ls ps (by omega) (by omega) (by omega) (by omega) (fun p h => by have:= hp p h; omega)
 refine AG (md:= mdL) (ms:= [false,false]) Xl (by simp) ?_
 unfold oE W6
 cases h:Aj W T cs ds ls ps with
 | false =>
   rw [h] at hv
   simp [Hw]
   refine AA hv ?_
   simp
 | true =>
 rw [h] at hv
 by_cases h40:xs.length ≤ 40
 case neg =>
  have h41:(40:Int) < xs.length:= by omega
  simp [Hw,h40]
  refine AA hv ?_
  simp [h41]
 have h41:¬ (40:Int) < xs.length:= by omega
 obtain ⟨hf,h20,hpf⟩:= AW h
 obtain ⟨l36,ld,ll⟩:= CU hf
 have hcopy:= LM W T cs ds ls ps (by omega) (by omega) (by omega) (by omega) (fun p hp => by have:= CU (hpf p hp); omega)
 simp [Hw,h40]
 refine AA hv ?_
 simp [h41]
 refine AA hcopy ?_
 simp
 refine AF (fun m E H => ∃ (i:Nat) (l:List Int) (p:List (List Int)) (as':List (List UInt8)),m = xs.length - i ∧ i ≤ xs.length ∧ IZ W T cs ds ls ps (xs.take i) = (l,p,as') ∧ as'.length = i ∧ Aj W T cs ds l p = true ∧
  E = [(4,.lp 0 0 0 0),(6,.lp 0 1 0 0),(7,.ls 1 2 0 as'.length),(21,.sl 1 1 (txs xs)),(22,.v (.int .i64 xs.length)),(23,.v (.int .i64 i))] ∧
  H = [some (.box [.v (.int .i64 0),.v (.int .i64 0),.os 1 [],.os 1 [],.os 1 [],.os 1 []]),some (.box [.v (.int .i64 W),.v (.int .i64 T),.ls 1 3 0 cs.length,.ls 1 4 0 ds.length,.ls 1 5 0 l.length,.ls 1 6 0 p.length]),
    some (.arr 1 (txs as')),some (.arr 1 (AC cs)),some (.arr 1 (AB ds)),some (.arr 1 (AB l)),some (.arr 1 (oss p))]) xs.length ⟨0,ls,ps,[],by simp,by omega,by simp [IZ],rfl,h,by simp,by simp⟩ ?_
 rintro J hJ m E H ⟨i,l,p,as',rfl,hi,hr,hai,hbk,rfl,rfl⟩
 have htl:(AB l).take l.length = AB l:= AE l
 have hto:(oss p).take p.length = oss p:= List.take_of_length_le (by simp [oss])
 by_cases hlt:i < xs.length
 ·have hln:= Np W T cs ds l p xs[i] hbk (hx _ (List.getElem_mem hlt))
  have hbk2:= Tx xs[i] hbk
  have hr2:IZ W T cs ds ls ps (xs.take (i + 1)) = ((BZ W T cs ds l p xs[i]).1,(BZ W T cs ds l p xs[i]).2.1,as' ++ [(BZ W T cs ds l p xs[i]).2.2]):= by
   rw [List.take_succ_eq_append_getElem hlt,eG,hr]
  have hat:att xs (i:Int) = xs[i]:= by simp [att,hlt]
  generalize BZ W T cs ds l p xs[i] = r at *
  obtain ⟨l2,p2,a⟩:= r
  have htl2:(AB l2).take l2.length = AB l2:= AE l2
  have hto2:(oss p2).take p2.length = oss p2:= List.take_of_length_le (by simp [oss])
  simp only at hln hbk2 hr2
  have ap:txs as' ++ [.v (tx a)] = txs (as' ++ [a]):= by simp [txs]
  have nx:= hJ (xs.length - (i + 1)) _ _ ⟨i + 1,l2,p2,as' ++ [a],rfl,hlt,hr2,by simp [hai],hbk2,rfl,rfl⟩
  rw [List.length_append,List.length_singleton,← ap] at nx
  simp only [Int.natCast_add,Int.cast_ofNat_Int] at nx
  simp [Hp,hlt,hat]
  refine AA hln ?_
  simp
  exact ⟨by omega,by omega,_,by omega,nx⟩
 ·have:i = xs.length:= by omega
  subst this
  rw [List.take_length] at hr
  have cl:= T5 as'
  have tk:(txs as').take as'.length = txs as':= List.take_of_length_le (by simp)
  simp [Hp,hr]
  (repeat' first | omega | apply And.intro) <;>
  ·refine AA cl ?_
   simp [htl,hto,tk]
set_option maxHeartbeats 4000000 in
theorem Xn (W T:Int) (cs:List Bool) (ds ls:List Int) (ps:List (List Int)) (xs:List (List UInt8)) (hc:cs.length ≤ 2 ^ 30) (hd:ds.length ≤ 2 ^ 30) (hl:ls.length ≤ 2 ^ 30) (hb:ps.length ≤ 2 ^ 30) (hp:∀ p ∈ ps,p.length ≤ 2 ^ 30) (hn:xs.length < 2 ^ 40) (hx:∀ x ∈ xs,x.length < 2 ^ 30):
  SoundAt Tryz.prog QU [bkA W T cs ds ls ps,.sl 1 1 (txs xs)] (oE W T cs ds ls ps xs) [.bot,.bot]:= by
 have hv:= BK W T cs ds ls ps (by omega) (by omega) (by omega) (by omega) (fun p h => by have:= hp p h; omega)
 refine AG (md:= mdL) (ms:= [false,false]) Xk (by simp) ?_
 unfold oE W6
 cases h:Aj W T cs ds ls ps with
 | false =>
   rw [h] at hv
   simp [Hv]
   refine AA hv ?_
   simp
 | true =>
 rw [h] at hv
 by_cases h40:xs.length ≤ 40
 case neg =>
  have h41:(40:Int) < xs.length:= by omega
  simp [Hv,h40]
  refine AA hv ?_
  simp [h41]
 have h41:¬ (40:Int) < xs.length:= by omega
 have hcopy:= A9 h
 simp [Hv,h40]
 refine AA hv ?_
 simp [h41]
 refine AA hcopy ?_
 simp
 refine AF (fun m E H => ∃ (i:Nat) (l:List Int) (p:List (List Int)) (as':List (List UInt8)),m = xs.length - i ∧ i ≤ xs.length ∧ IZ W T cs ds ls ps (xs.take i) = (l,p,as') ∧ as'.length = i ∧ Aj W T cs ds l p = true ∧
  E = [(1,.sl 1 1 (txs xs)),(4,.lp 0 0 0 0),(6,.ls 1 1 0 as'.length),(7,.lp 0 2 0 0),(8,.v (.int .i64 i))] ∧
  H = [some (.box [.v (.int .i64 0),.v (.int .i64 0),.os 1 [],.os 1 [],.os 1 [],.os 1 []]),some (.arr 1 (txs as')),some (.box [.v (.int .i64 W),.v (.int .i64 T),.ls 1 3 0 cs.length,.ls 1 4 0 ds.length,.ls 1 5 0 l.length,.ls 1 6 0 p.length]),
    some (.arr 1 (AC cs)),some (.arr 1 (AB ds)),some (.arr 1 (AB l)),some (.arr 1 (oss p))]) xs.length ⟨0,ls,ps,[],by simp,by omega,by simp [IZ],rfl,h,by simp,by simp⟩ ?_
 rintro J hJ m E H ⟨i,l,p,as',rfl,hi,hr,hai,hbk,rfl,rfl⟩
 have htl:(AB l).take l.length = AB l:= AE l
 have hto:(oss p).take p.length = oss p:= List.take_of_length_le (by simp [oss])
 by_cases hlt:i < xs.length
 ·obtain ⟨b1,b2,b3,b4,b5,_⟩:= FP hbk
  have hln:= PK W T cs ds l p xs[i] (by omega) (by omega) (by omega) (by omega) (fun q hq => by have:= b5 q hq; omega) (hx _ (List.getElem_mem hlt))
  unfold W5 at hln
  rw [hbk] at hln
  simp only [if_true] at hln
  have hbk2:= Tx xs[i] hbk
  have hr2:IZ W T cs ds ls ps (xs.take (i + 1)) = ((BZ W T cs ds l p xs[i]).1,(BZ W T cs ds l p xs[i]).2.1,as' ++ [(BZ W T cs ds l p xs[i]).2.2]):= by
   rw [List.take_succ_eq_append_getElem hlt,eG,hr]
  have hat:att xs (i:Int) = xs[i]:= by simp [att,hlt]
  generalize BZ W T cs ds l p xs[i] = r at *
  obtain ⟨l2,p2,a⟩:= r
  have htl2:(AB l2).take l2.length = AB l2:= AE l2
  have hto2:(oss p2).take p2.length = oss p2:= List.take_of_length_le (by simp [oss])
  simp only at hln hbk2 hr2
  have ap:txs as' ++ [.v (tx a)] = txs (as' ++ [a]):= by simp [txs]
  have nx:= hJ (xs.length - (i + 1)) _ _ ⟨i + 1,l2,p2,as' ++ [a],rfl,hlt,hr2,by simp [hai],hbk2,rfl,rfl⟩
  rw [List.length_append,List.length_singleton,← ap] at nx
  simp only [Int.natCast_add,Int.cast_ofNat_Int] at nx
  simp [Ho,hlt,hat]
  (repeat' first | omega | apply And.intro) <;>
  ·refine AA hln ?_
   simp
   exact ⟨by omega,by omega,_,by omega,nx⟩
 ·have:i = xs.length:= by omega
  subst this
  rw [List.take_length] at hr
  have tk:(txs as').take as'.length = txs as':= List.take_of_length_le (by simp)
  simp [Ho,hr,htl,hto,tk]
theorem jL (n:Int):RU n ≠ []:= by
 unfold RU
 split <;> simp
theorem oG {W T:Int} {cs:List Bool} {ds ls:List Int} (h:¬ JF W T cs ds ls < 0) (hf:Ad W T cs ds ls = true):Dw (0,JF W T cs ds ls,Mt W T cs ds ls) = true:= by
 obtain ⟨l36,ld,ll⟩:= CU hf
 cases hx:Ax W T cs ds ls with
 | none => exact absurd (by simp [JF,hx]) h
 | some x =>
   obtain ⟨_,hs,hh⟩:= UL hx
   obtain ⟨fx,fu⟩:= K9 hs
   obtain ⟨hr,hd,hy,ho⟩:= AM hf
   obtain ⟨_,_,hyx,_⟩:= AM fx
   have e1:JF W T cs ds ls = JE W T cs ds ls:= by simp [JF,hx]
   rw [e1] at h ⊢
   obtain ⟨k,hk,hc1,hc2⟩:∃ k:Nat,k < ls.length ∧ JE W T cs ds ls = k ∧ atb cs k = true:= by
    unfold JE at h ⊢
    split at h
    ·rename_i h1
     rw [if_pos h1]
     rcases CY cs ls with h2 | ⟨k,hk,he,hc,hz⟩
     ·omega
     ·exact ⟨k,hk,he,hc⟩
    ·rename_i h1
     rw [if_neg h1]
     rcases FX W T cs ds ls with h2 | ⟨k,hk,he,hc,_⟩
     ·omega
     ·exact ⟨k,hk,he,hc⟩
   have hlx:= AY hyx
   have e2:Mt W T cs ds ls = ati x k:= by
    have:¬ (k:Int) < 0:= by omega
    simp [Mt,hx,hc1,this]
   have hnz:ati x k ≠ 0:= by
    simp only [H9,CN] at fu
    have:= fu k (by omega)
    simp only [It,hc2] at this
    intro e
    simp [e] at this
   obtain ⟨w1,w4,_⟩:= DF hyx (show k < x.length by omega) hnz
   rw [hc1,e2]
   have:(k:Int) ≤ 99:= by omega
   simp [Dw,TD,this,w1,w4]
theorem oH {W T:Int} {cs:List Bool} {ds ls:List Int} {ps:List (List Int)} (s:List UInt8) (h:Aj W T cs ds ls ps = true):(BZ W T cs ds ls ps s).2.2 ≠ []:= by
 obtain ⟨hf,h20,hpf⟩:= AW h
 obtain ⟨hr,hdg,hy,ho⟩:= AM hf
 have y1:∀ b,fZ b ≠ []:= fun b => by cases b <;> simp [fZ]
 have y2:∀ b,okT b ≠ []:= fun b => by cases b <;> simp [okT]
 unfold BZ
 split
 ·exact y2 _
 split
 ·show (if _ then U7 else [111,107]) ≠ []
  split <;> simp [U7]
 show mC W T cs ds ls ps s ≠ []
 unfold mC
 split
 ·exact kB ls hr
 split
 ·exact kC hr hdg
 split
 ·exact jL _
 split
 ·exact jL _
 split
 ·exact y1 _
 split
 ·exact y1 _
 split
 ·split
  ·simp [U7]
  ·rename_i hc
   exact (Vi (oG hc hf)).2
 ·simp
theorem jM {W T:Int} {cs:List Bool} {ds:List Int}:∀ (xs:List jU) {ls l:List Int} {ps p:List (List Int)},Sp W T cs ds ls ps xs = some (l,p) → (jV W T cs ds ls ps xs).1 = l ∧ (jV W T cs ds ls ps xs).2.1 = p
 | [],ls,l,ps,p,h => by
   simp only [Sp,Option.some.injEq,Prod.mk.injEq] at h
   exact h
 | x::xs,ls,l,ps,p,h => by
   simp only [Sp] at h
   split at h
   ·exact jM xs h
   ·cases h
theorem fT {W T:Int} {cs:List Bool} {ds ls:List Int} {ps:List (List Int)} (h:Aj W T cs ds ls ps = true):
  WC W T cs ds (BZ W T cs ds ls ps [101,110,100]).1 (BZ W T cs ds ls ps [101,110,100]).2.1 = decide (0 < cH W T cs ds):= by
 obtain ⟨hf,h20,hpf⟩:= AW h
 obtain ⟨hr,hdg,hy,ho⟩:= AM hf
 have eN:cH W T cs ds = (CE W T cs ds).length:= by simp [cH,hr,hdg]
 have el:BZ W T cs ds ls ps [101,110,100] = ((jV W T cs ds ls ps (YO W T cs ds ls)).1,(jV W T cs ds ls ps (YO W T cs ds ls)).2.1,if YO W T cs ds ls = [] then U7 else [111,107]):= by
  simp only [BZ,W4,if_true,Bool.false_eq_true,if_false]
 rw [el,eN]
 simp only
 cases hs:bK W T cs ds (Ac cs) with
 | true =>
   obtain ⟨x,hx⟩:∃ x,Ax W T cs ds (Ac cs) = some x:= by
    unfold bK at hs
    exact Option.isSome_iff_exists.1 hs
   obtain ⟨_,hx2,_⟩:= UL hx
   obtain ⟨f1,f2⟩:= K9 hx2
   obtain ⟨p2,a1,a2⟩:= nr h f1
   have ex:YO W T cs ds ls = d7 ls x:= by simp [YO,hs,ZV,hx]
   rw [ex]
   obtain ⟨r1,r2⟩:= jM _ a1
   rw [r1,r2,WC,a2,f2]
   have hm:= mem_sols.2 hx2
   have:0 < (CE W T cs ds).length:= List.length_pos_of_mem hm
   simp
   omega
 | false =>
   have ex:YO W T cs ds ls = []:= by simp [YO,hs]
   rw [ex]
   show WC W T cs ds ls ps = _
   have hno:∀ p,CB W T cs ds p = true → False:= by
    intro p hp
    have:= (ae (W:= W) (T:= T) (cs:= cs) (ds:= ds) (ls:= Ac cs)).2 ⟨Wi hr hdg,p,hp,hasB_iff.2 fun j hj => .inl (PS cs j)⟩
    unfold bK at hs
    rw [this] at hs
    cases hs
   have hz:(CE W T cs ds).length = 0:= by
    cases he:CE W T cs ds with
    | nil => rfl
    | cons p q => exact (hno p (mem_sols.1 (by rw [he]; simp))).elim
   rw [hz,WC,h]
   cases hfl:H9 cs ls with
   | false => rfl
   | true => exact (hno ls (by rw [CB,hf,hfl]; rfl)).elim
@[simp] def qh (f:Nat):List Bool:= if f = Gv then [true] else rc f
theorem mD {W T:Int} {cs:List Bool} {ds:List Int}:∀ (xs:List (List UInt8)) {ls:List Int} {ps:List (List Int)},Aj W T cs ds ls ps = true → ∀ x ∈ (IZ W T cs ds ls ps xs).2.2,x ≠ []
 | [],_,_,_,x,hx => by simp [IZ] at hx
 | y::ys,_,_,h,x,hx => by
   rw [IZ] at hx
   rcases List.mem_cons.1 hx with rfl | hx
   ·exact oH y h
   ·exact mD ys (Tx y h) x hx
theorem eI {ls:List (List UInt8)} {i:Nat} (h:i < ls.length):att ls (i:Int) = ls[i]:= by simp [att,h]
theorem Ns (xs ys:List (List UInt8)) (ha:xs.length < 2 ^ 40):
  SoundAt Tryz.prog Im [.sl 1 1 (txs xs),.sl 1 1 (txs ys)] (.v (.bool (decide (xs = ys)))) [.bot,.bot]:= by
 refine AG (md:= qh) (ms:= [false,false]) U8 (by simp) ?_
 by_cases hl:xs.length = ys.length
 case neg =>
  have h1:¬ xs = ys:= fun e => hl (by rw [e])
  have h2:¬ (xs.length:Int) = (ys.length:Int):= by omega
  simp [Ip,h1,h2,hl]
 simp [Ip,hl]
 refine AF (fun m E H => ∃ i:Nat,m = xs.length - i ∧ i ≤ xs.length ∧ xs.take i = ys.take i ∧ H = [] ∧ E = [(0,.sl 1 1 (txs xs)),(1,.sl 1 1 (txs ys)),(5,.v (.int .i64 i))]) xs.length ⟨0,by simp⟩ ?_
 rintro J hJ m E H ⟨i,rfl,hi,he,rfl,rfl⟩
 by_cases h:i < xs.length
 ·have h2:i < ys.length:= by omega
  have a1:= eI h
  have a2:= eI h2
  by_cases e:xs[i] = ys[i]
  ·have nx:= hJ (xs.length - (i + 1)) [(0,.sl 1 1 (txs xs)),(1,.sl 1 1 (txs ys)),(5,.v (.int .i64 ((i:Int) + 1)))] [] ⟨i + 1,rfl,h,by rw [List.take_succ_eq_append_getElem h,List.take_succ_eq_append_getElem h2,he,e],rfl,by simp⟩
   simp [Dv,h,h2,a1,a2,e]
   exact ⟨by omega,_,by omega,nx⟩
  ·have h1:¬ xs = ys:= fun e2 => e (by subst e2; rfl)
   simp [Dv,h,h2,a1,a2,e,h1]
 ·have:i = xs.length:= by omega
  subst this
  rw [List.take_length,List.take_of_length_le (by omega)] at he
  simp [Dv,he]
def mE (r:AV) (ups:List AV):Prop:= ∃ (W T:Int) (cs:List Bool) (ds ls:List Int) (ps:List (List Int)) (xs:List (List UInt8)),cs.length ≤ 37 ∧ ds.length ≤ 38 ∧ ls.length ≤ 38 ∧ ps.length ≤ 21 ∧ (∀ x ∈ ps,x.length ≤ 37) ∧ xs.length ≤ 41 ∧ (∀ x ∈ xs,x.length ≤ 20) ∧
 r = .tup [bkO W T cs ds ls ps,.os 1 (txs xs)] ∧ ups = [.bot]
set_option maxHeartbeats 2000000 in
theorem Su (bs:List Int) (hb:bs.length ≤ 2 ^ 60) (hB:Byt bs):SoundSet Tryz.prog Gv [.sl 0 1 (u8s bs)] mE:= by
 have hB':= dN hB 2000
 have hb':(bs.take 2000).length ≤ 2000:= by rw [List.length_take]; exact Nat.min_le_left _ _
 refine KW (md:= qh) (ms:= [false]) St (by simp) ?_
 simp [LR]
 refine AA (P6 bs hb) ?_
 generalize bs.take 2000 = bt at *
 simp
 refine AJ (QO bt 0 12 hb' hB' (by omega) (by omega) (by omega)) [1] (by simp) (by simp) (by simp) ?_
 rintro _ _ ⟨W,T,cs,ds,ls,ps,q,h1,h2,h3,h4,h5,hq,rfl,rfl⟩
 have t1:(oss ps).take ps.length = oss ps:= List.take_of_length_le (by simp [oss])
 simp
 refine AJ (AD bt q 9 hb' hB' (by omega)) [1] (by simp) (by simp) (by simp) ?_
 rintro _ _ ⟨x,x0,x1,rfl,rfl⟩
 obtain ⟨m,rfl⟩:∃ m:Nat,x = m:= ⟨x.toNat,by omega⟩
 simp
 refine AF (fun b E H => ∃ (q2:Nat) (xs:List (List UInt8)),b ≤ m ∧ q2 + b * 20 ≤ q + 1 + m * 20 ∧ xs.length + b = m ∧ (∀ x ∈ xs,x.length ≤ 20) ∧ E = [(2,.lp 0 0 0 0),(4,.lp 0 1 0 0),(5,.lp 0 2 0 0),(6,.ls 1 3 0 xs.length),(7,.v (.int .i64 b))] ∧
  H = [some (.box [.v (.int .i64 0),.v (.int .i64 0),.os 1 [],.os 1 [],.os 1 [],.os 1 []]),some (.box [.sl 0 1 (u8s bt),.v (.int .i64 q2)]),some (.box (bL 4 W T cs ds ls ps)),some (.arr 1 (txs xs)),some (.arr 1 (AC cs)),some (.arr 1 (AB ds)),some (.arr 1 (AB ls)),some (.arr 1 (oss ps))]) m
  ⟨q + 1,[],Nat.le_refl _,Nat.le_refl _,by simp,by simp,by simp,by simp⟩ ?_
 rintro J hJ b E H ⟨q2,xs,hbm,hq2,hxl,hxs,rfl,rfl⟩
 by_cases h0:b = 0
 ·subst h0
  have fin:∀ ys:List (List UInt8),ys.length ≤ 41 → (∀ x ∈ ys,x.length ≤ 20) → mE (.tup [bkO W T cs ds ls ps,.os 1 (txs ys)]) [.bot]:= fun ys y1 y2 => ⟨W,T,cs,ds,ls,ps,ys,h1,h2,h3,h4,h5,y1,y2,rfl,rfl⟩
  have t3:(txs xs).take xs.length = txs xs:= List.take_of_length_le (by simp)
  simp [Et]
  refine AJ (Cl bt q2 30 hb' hB' (by omega) (by omega)) [1] (by simp) (by simp) (by simp) ?_
  rintro _ _ ⟨o,q3,rfl,hq3,rfl⟩
  cases o with
  | true =>
    obtain ⟨ys,hy⟩:∃ ys:List (List UInt8),ys = List.replicate 41 []:= ⟨_,rfl⟩
    have er:List.replicate 41 (AV.v (.string ⟨#[]⟩)) = txs ys:= by rw [hy]; simp [txs]
    have yl:ys.length = 41:= by rw [hy]; rfl
    have y2:∀ x ∈ ys,x.length ≤ 20:= by intro x hx; rw [hy] at hx; obtain rfl:= List.eq_of_mem_replicate hx; simp
    have t4:(txs ys).take 41 = txs ys:= List.take_of_length_le (by simp [yl])
    clear hy
    simp [er]
    refine ⟨_,_,fin ys (by omega) y2,?_⟩
    simp [t1,t4,yl]
  | false =>
    simp
    refine ⟨_,_,fin xs (by omega) hxs,?_⟩
    simp [t1,t3]
 have h0':0 < b:= by omega
 have eb:((b - 1:Nat):Int) = (b:Int) - 1:= by omega
 have ln:= QX bt q2 W T cs ds ls ps hb' hB' (by omega) (by omega) (by omega) (by omega) (by omega)
 simp [Et,h0']
 refine AJ ln [1] (by simp) (by simp) (by simp) ?_
 rintro _ _ ⟨t,q3,ht,hq3,rfl,rfl⟩
 have ap:txs xs ++ [.v (tx t)] = txs (xs ++ [t]):= by simp [txs]
 simp [ap]
 exact ⟨by omega,by omega,b - 1,by omega,hJ _ _ _ ⟨q3,xs ++ [t],by omega,by omega,by simp; omega,by intro x hx; simp at hx; rcases hx with h | rfl; exact hxs x h; exact ht,by simp [eb],by simp⟩⟩
set_option maxHeartbeats 4000000 in
theorem sv (W T:Int) (cs:List Bool) (ds ls lC lE:List Int) (ps pC pE:List (List Int)) (xs sS sA sC:List (List UInt8)) (sE:List UInt8) (N:Int) (hc:cs.length ≤ 37) (hd:ds.length ≤ 38) (hxl:xs.length ≤ 41) (hS:sA ++ sC = sS) (hl:sS.length = xs.length) (nes:∀ x ∈ sS,x ≠ [])
  (fiv:SoundAt Tryz.prog KK [bkA W T cs ds lC pC,.v (tx [101,110,100])] (.tup [bkO W T cs ds lE pE,.v (tx sE)]) [.bot,.bot])
  (sm:SoundAt Tryz.prog KA [bkA W T cs ds lC pC,bkA W T cs ds lC pC] (.v (.bool true)) [.bot,.bot])
  (st:SoundAt Tryz.prog Im [.sl 1 1 (txs sS),.sl 1 1 (txs sS)] (.v (.bool (decide (sS = sS)))) [.bot,.bot])
  (bsv:SoundAt Tryz.prog HY [bkA W T cs ds lE pE] (.v (.bool (decide (0 < N)))) [.bot])
  (smn:SoundAt Tryz.prog FL [.agg [.v (.int .i64 W),.v (.int .i64 T),.sl 1 1 (AC cs)],.sl 1 1 (AB ds)] (.v (.int .i64 N)) [.bot,.bot]):
  awp Tryz.prog qh Fz (Fin [RV.t 2] 130 1 [false] (.v (.bool true)) [.bot])
   [(3,.lp 0 0 0 0),(4,.ls 1 1 0 xs.length),(5,.lp 0 2 0 0),(6,.ls 1 3 0 sS.length),(11,.ls 1 4 0 sA.length),(12,.lp 0 5 0 0),(13,.ls 1 6 0 sC.length)]
   [some (.box (bL 7 W T cs ds ls ps)),some (.arr 1 (txs xs)),some (.box (bL 11 W T cs ds lC pC)),some (.arr 1 (txs sS)),some (.arr 1 (txs sA)),some (.box (bL 15 W T cs ds lC pC)),some (.arr 1 (txs sC)),
    some (.arr 1 (AC cs)),some (.arr 1 (AB ds)),some (.arr 1 (AB ls)),some (.arr 1 (oss ps)),some (.arr 1 (AC cs)),some (.arr 1 (AB ds)),some (.arr 1 (AB lC)),some (.arr 1 (oss pC)),some (.arr 1 (AC cs)),some (.arr 1 (AB ds)),some (.arr 1 (AB lC)),some (.arr 1 (oss pC))]:= by
 have tkA:(txs sA).take sA.length = txs sA:= List.take_of_length_le (by simp)
 have tkC:(txs sC).take sC.length = txs sC:= List.take_of_length_le (by simp)
 have tkS:(txs sS).take sS.length = txs sS:= List.take_of_length_le (by simp)
 have tkX:(txs sS).take xs.length = txs sS:= by rw [← hl]; exact tkS
 have eAC:txs sA ++ txs sC = txs sS:= by rw [← hS]; simp [txs]
 have lAC:sA.length + sC.length = sS.length:= by rw [← hS]; simp
 simp [Fz]
 refine AF (fun m E H => ∃ i:Nat,m = sS.length - i ∧ i ≤ sS.length ∧ E = [(3,.lp 0 0 0 0),(4,.ls 1 1 0 xs.length),(5,.lp 0 2 0 0),(6,.ls 1 3 0 sS.length),(11,.ls 1 4 0 sA.length),(12,.lp 0 5 0 0),(13,.ls 1 6 0 sC.length),(14,.v (.int .i64 i))] ∧
  H = [some (.box (bL 7 W T cs ds ls ps)),some (.arr 1 (txs xs)),some (.box (bL 11 W T cs ds lC pC)),some (.arr 1 (txs sS)),some (.arr 1 (txs sA)),some (.box (bL 15 W T cs ds lC pC)),some (.arr 1 (txs sC)),
      some (.arr 1 (AC cs)),some (.arr 1 (AB ds)),some (.arr 1 (AB ls)),some (.arr 1 (oss ps)),some (.arr 1 (AC cs)),some (.arr 1 (AB ds)),some (.arr 1 (AB lC)),some (.arr 1 (oss pC)),some (.arr 1 (AC cs)),some (.arr 1 (AB ds)),some (.arr 1 (AB lC)),some (.arr 1 (oss pC))]) sS.length ⟨0,by simp⟩ ?_
 rintro J hJ m E H ⟨i,rfl,hi,rfl,rfl⟩
 by_cases h:i < sS.length
 ·have ne:= nes sS[i] (List.getElem_mem h)
  have hg:(txs sS)[i]? = some (.v (tx sS[i])):= by simp [txs,h]
  have nx:= hJ (sS.length - (i + 1)) _ _ ⟨i + 1,rfl,h,rfl,rfl⟩
  simp only [Int.natCast_add,Int.cast_ofNat_Int] at nx
  simp [Fy,h,hg,ne]
  exact ⟨by omega,_,by omega,nx⟩
 ·have:i = sS.length:= by omega
  subst this
  simp [Fy]
  refine AA fiv ?_
  simp
  (repeat' first | omega | apply And.intro) <;>
  ·refine AA sm ?_
   simp [tkA,tkC,eAC,lAC]
   refine ⟨⟨by omega,by omega⟩,⟨by omega,by omega⟩,?_⟩
   refine AA st ?_
   simp [tkX,tkS,hl]
   (repeat' first | omega | apply And.intro | (refine AA bsv ?_; simp) | (refine AA smn ?_; simp))
set_option maxHeartbeats 4000000 in
theorem ci (bs:List Int) (hB:Byt bs):SoundAt Tryz.prog Nq [.sl 0 1 (u8s bs)] (.v (.bool true)) [.bot]:= by
 refine AG (md:= qh) (ms:= [false]) U9 (by simp) ?_
 simp [Nr]
 refine fun hsz => ?_
 refine AJ (Su bs (by omega) hB) [] (by simp) (by simp) (by simp) ?_
 rintro _ _ ⟨W,T,cs,ds,ls,ps,xs,h1,h2,h3,h4,h5,hxl,hxs,rfl,rfl⟩
 have h5a:∀ x ∈ ps,x.length ≤ 2 ^ 30:= fun x hx => by have:= h5 x hx; omega
 have h5b:∀ x ∈ ps,x.length < 2 ^ 40:= fun x hx => by have:= h5 x hx; omega
 have hx30:∀ x ∈ xs,x.length < 2 ^ 30:= fun x hx => by have:= hxs x hx; omega
 have one:= Ln W T cs ds ls ps xs (by omega) (by omega) (by omega) (by omega) h5a (by omega) hx30
 have two:= Xn W T cs ds ls ps xs (by omega) (by omega) (by omega) (by omega) h5a (by omega) hx30
 have val:= BK W T cs ds ls ps (by omega) (by omega) (by omega) (by omega) h5b
 have tkx:(txs xs).take xs.length = txs xs:= List.take_of_length_le (by simp)
 have zb:∀ b:Bool,W6 W T cs ds ls ps xs = false → Aj W T cs ds ls ps = b → SoundAt Tryz.prog Fi [bkA W T cs ds ls ps] (.v (.bool b)) [.bot]:= fun b _ e => by rw [← e]; exact val
 unfold oE at one two
 cases ok:W6 W T cs ds ls ps xs with
 | false =>
   rw [ok] at one two
   simp only [Bool.false_eq_true,if_false] at one two
   have sm:= Cf 0 0 [] [] [] [] 0 0 [] [] [] [] (by simp) (by simp) (by simp) (by simp) (by simp)
   have nb:= Sl 0 0 [] [] [] [] (by simp) (by simp) (by simp) (by simp) (by simp)
   have st:= Ns [] [] (by simp)
   rw [MZ] at sm nb
   simp
   refine AA one ?_
   simp
   refine AA two ?_
   simp
   refine AA sm ?_
   simp
   refine AA st ?_
   simp
   refine AA val ?_
   cases hv:Aj W T cs ds ls ps with
   | false =>
     simp
     refine AA nb ?_
     simp
     refine AA Ot ?_
     simp
   | true =>
     have h40:(40:Int) < xs.length:= by simp [W6,hv] at ok; omega
     simp [h40]
     refine AA nb ?_
     simp
     refine AA Ot ?_
     simp
 | true =>
   rw [ok] at one two
   simp only [if_true] at one two
   have ok':= ok
   simp only [W6,Bool.and_eq_true,decide_eq_true_eq] at ok'
   obtain ⟨hv,h40⟩:= ok'
   rw [hv] at val
   have hv2:= jK xs hv
   obtain ⟨h,hh⟩:∃ h:Nat,xs.length / 2 = h:= ⟨_,rfl⟩
   have hq2:(xs.length:Int) / 2 = (h:Int):= by omega
   have hle:h ≤ xs.length:= by omega
   have ap:= T4 W T cs ds (xs.take h) (xs.drop h) ls ps
   rw [List.take_append_drop] at ap
   have okA:W6 W T cs ds ls ps (xs.take h) = true:= by simp [W6,hv]; omega
   have thr:= Ln W T cs ds ls ps (xs.take h) (by omega) (by omega) (by omega) (by omega) h5a (by simp; omega) (fun x hx => hx30 x (List.mem_of_mem_take hx))
   unfold oE at thr
   rw [if_pos okA] at thr
   have hvA:= jK (xs.take h) hv
   obtain ⟨a1,a2,a3,a4,a5,_⟩:= FP hvA
   have okC:W6 W T cs ds (IZ W T cs ds ls ps (xs.take h)).1 (IZ W T cs ds ls ps (xs.take h)).2.1 (xs.drop h) = true:= by simp [W6,hvA]; omega
   have fou:= Ln W T cs ds (IZ W T cs ds ls ps (xs.take h)).1 (IZ W T cs ds ls ps (xs.take h)).2.1 (xs.drop h) (by omega) (by omega) (by omega) (by omega) (fun x hx => by have:= a5 x hx; omega) (by simp; omega) (fun x hx => hx30 x (List.mem_of_mem_drop hx))
   unfold oE at fou
   rw [if_pos okC] at fou
   have las:= Zd (W:= W) (T:= T) (cs:= cs) (ds:= ds) xs ls ps
   have laA:= Zd (W:= W) (T:= T) (cs:= cs) (ds:= ds) (xs.take h) ls ps
   have laC:= Zd (W:= W) (T:= T) (cs:= cs) (ds:= ds) (xs.drop h) (IZ W T cs ds ls ps (xs.take h)).1 (IZ W T cs ds ls ps (xs.take h)).2.1
   obtain ⟨b1,b2,b3,b4,b5,_⟩:= FP hv2
   have b5':∀ x ∈ (IZ W T cs ds ls ps xs).2.1,x.length < 2 ^ 40:= fun x hx => by have:= b5 x hx; omega
   have fiv:= KM W T cs ds (IZ W T cs ds ls ps xs).1 (IZ W T cs ds ls ps xs).2.1 [101,110,100] (by omega) (by omega) (by omega) (by omega) (fun x hx => by have:= b5 x hx; omega) (by decide)
   unfold W5 at fiv
   rw [if_pos hv2] at fiv
   have hvE:= Tx [101,110,100] hv2
   have eE:= fT hv2
   obtain ⟨e1,e2,e3,e4,e5,_⟩:= FP hvE
   have bsv:= TS W T cs ds (BZ W T cs ds (IZ W T cs ds ls ps xs).1 (IZ W T cs ds ls ps xs).2.1 [101,110,100]).1 (BZ W T cs ds (IZ W T cs ds ls ps xs).1 (IZ W T cs ds ls ps xs).2.1 [101,110,100]).2.1 (by omega) (by omega) (by omega) (by omega) (fun x hx => by have:= e5 x hx; omega)
   rw [eE] at bsv
   have smn:= Pa W T cs ds (by omega) (by omega)
   have nes:∀ x ∈ (IZ W T cs ds ls ps xs).2.2,x ≠ []:= mD xs hv
   generalize BZ W T cs ds (IZ W T cs ds ls ps xs).1 (IZ W T cs ds ls ps xs).2.1 [101,110,100] = rE at *
   generalize IZ W T cs ds (IZ W T cs ds ls ps (xs.take h)).1 (IZ W T cs ds ls ps (xs.take h)).2.1 (xs.drop h) = rC at *
   generalize IZ W T cs ds ls ps (xs.take h) = rA at *
   generalize IZ W T cs ds ls ps xs = rS at *
   subst ap
   obtain ⟨lA,pA,sA⟩:= rA
   obtain ⟨lC,pC,sC⟩:= rC
   obtain ⟨lE,pE,sE⟩:= rE
   simp only at *
   have sm:= Cf W T cs ds lC pC W T cs ds lC pC (by omega) (by omega) (by omega) (by omega) b5'
   rw [MZ] at sm
   generalize hS:sA ++ sC = sS at *
   have st:= Ns sS sS (by omega)
   have tkA:(txs sA).take sA.length = txs sA:= List.take_of_length_le (by simp)
   have tkC:(txs sC).take sC.length = txs sC:= List.take_of_length_le (by simp)
   have tkS:(txs sS).take sS.length = txs sS:= List.take_of_length_le (by simp)
   have eAC:txs sA ++ txs sC = txs sS:= by rw [← hS]; simp [txs]
   have lAC:sA.length + sC.length = sS.length:= by rw [← hS]; simp
   have etx:(txs xs).take h = txs (xs.take h):= by simp [txs]
   have edx:(txs xs).drop h = txs (xs.drop h):= by simp [txs]
   have etd:(txs (xs.drop h)).take (xs.length - h) = txs (xs.drop h):= List.take_of_length_le (by simp)
   have fin1:= sv W T cs ds ls lC lE ps pC pE xs sS sA sC sE (cH W T cs ds) (by omega) (by omega) hxl hS (by omega) nes fiv sm st bsv smn
   simp only [bL] at fin1
   have fin2:awp Tryz.prog qh F0 (Fin [RV.t 2] 130 1 [false] (.v (.bool true)) [.bot])
     [(3,.lp 0 0 0 0),(4,.ls 1 1 0 xs.length),(5,.lp 0 2 0 0),(6,.ls 1 3 0 sS.length),(9,.v (.int .i64 h)),(10,.lp 0 4 0 0),(11,.ls 1 5 0 sA.length)]
     [some (.box (bL 6 W T cs ds ls ps)),some (.arr 1 (txs xs)),some (.box (bL 10 W T cs ds lC pC)),some (.arr 1 (txs sS)),some (.box (bL 14 W T cs ds lA pA)),some (.arr 1 (txs sA)),
      some (.arr 1 (AC cs)),some (.arr 1 (AB ds)),some (.arr 1 (AB ls)),some (.arr 1 (oss ps)),some (.arr 1 (AC cs)),some (.arr 1 (AB ds)),some (.arr 1 (AB lC)),some (.arr 1 (oss pC)),some (.arr 1 (AC cs)),some (.arr 1 (AB ds)),some (.arr 1 (AB lA)),some (.arr 1 (oss pA))]:= by
    simp [F0,hle]
    (repeat' first | omega | apply And.intro) <;>
    ·refine AA fou ?_
     simp [edx,hle,etd]
     exact fin1
   simp only [bL] at fin2
   simp
   refine AA one ?_
   simp
   refine AA two ?_
   simp
   refine AA sm ?_
   simp
   refine AA st ?_
   simp
   refine AA val ?_
   simp [show ¬ (40:Int) < xs.length by omega,hq2,hle]
   (repeat' first | omega | apply And.intro) <;>
   ·refine AA thr ?_
    simp [etx,hle]
    exact fin2
end Go.Proofs.Dev
