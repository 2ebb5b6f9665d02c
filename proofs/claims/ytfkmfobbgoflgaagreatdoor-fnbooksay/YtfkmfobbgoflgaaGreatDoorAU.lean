/- Contracts of the functions of the program over slots and rows, each proved against the program itself; no condition beyond those that each theorem names. -/
import Derived.Test.YtfkmfobbgoflgaaGreatDoorAT
import Derived.Test.YtfkmfobbgoflgaaGreatDoorProg
import Derived.Test.YtfkmfobbgoflgaaGreatDoorAL
import Derived.Test.YtfkmfobbgoflgaaGreatDoorAP
import Derived.Test.YtfkmfobbgoflgaaGreatDoorAH
import Derived.Test.YtfkmfobbgoflgaaGreatDoorAQ
import Derived.Test.YtfkmfobbgoflgaaGreatDoorAI
import Derived.Test.YtfkmfobbgoflgaaGreatDoorAR
set_option linter.unusedSimpArgs false
set_option linter.unusedVariables false
set_option maxRecDepth 100000
namespace Go.Proofs.Dev
theorem iY {W T c:Int} (w1:1 ≤ W) (t1:1 ≤ T) (h:XY W T c = true):0 ≤ c ∧ c ≤ dy W T - 1:= by
 simp only [XY,decide_eq_true_eq] at h
 refine ⟨h.1,?_⟩
 have e:= Int.mul_ediv_add_emod c (W + 1)
 have m2:= Int.emod_lt_of_pos c (show 0 < W + 1 by omega)
 have h2:(W + 1) * (c / (W + 1)) ≤ (W + 1) * T:= Int.mul_le_mul_of_nonneg_left (by omega) (by omega)
 unfold dy
 rw [Int.mul_add,Int.mul_one]
 omega
theorem lu {W T:Int} {cs:List Bool} {ls:List Int} {c:Int} (hr:Am W T cs = true) (hy:AR W T cs ls = true) (h0:0 ≤ c):
  (sqB W T cs c && (Tf W ls c || upB W ls c)) = Gz W T ls c:= by
 obtain ⟨w1,w2,t1,t2,l1,_⟩:= BT hr
 cases hf:Gz W T ls c with
 | true =>
   obtain ⟨⟨a1,a2,a3,a4⟩,_⟩:= iW hr hy hf
   have hf2:= hf
   simp only [Gz,Bool.and_eq_true] at hf2
   obtain ⟨x,y,x0,x1,y0,y1,e,ex,ey⟩:= au w1 hf2.1
   have hm:(y + 1) * W = y * W + W:= by rw [Int.add_mul,Int.one_mul]
   rw [e] at a1 a2 a3 a4
   rw [hf2.2,Bool.and_true]
   simp only [sqB,dw,ex,ey,Bool.and_eq_true,decide_eq_true_eq]
   refine ⟨⟨⟨⟨by omega,by omega,?_⟩,by omega,by omega,?_⟩,by omega,by omega,?_⟩,by omega,by omega,?_⟩
   ·rw [show (y + 1 - 1) * W + (x + 1 - 1) = y * W + x by rw [show y + 1 - 1 = y by omega]; omega]; exact a1
   ·rw [show (y + 1 - 1) * W + (x + 1) = y * W + x + 1 by rw [show y + 1 - 1 = y by omega]; omega]; exact a2
   ·rw [show (y + 1) * W + (x + 1 - 1) = y * W + x + W by omega]; exact a3
   ·rw [show (y + 1) * W + (x + 1) = y * W + x + W + 1 by omega]; exact a4
 | false =>
   cases hs:sqB W T cs c with
   | false => rfl
   | true =>
     have hm:= iX h0 hs
     simp only [Gz,hm,Bool.true_and] at hf
     simp [hf]
def lv (W T:Int) (cs:List Bool) (ls:List Int) (c:Int):Bool:= (Am W T cs && AR W T cs ls) && Gz W T ls c
theorem QH (W T:Int) (cs:List Bool) (ls:List Int) (c:Int) (hb:cs.length < 2 ^ 40) (hl:ls.length < 2 ^ 40):
  SoundAt Tryz.prog P8 [.agg [.v (.int .i64 W),.v (.int .i64 T),.sl 1 1 (AC cs)],.sl 1 1 (AB ls),.v (.int .i64 c)] (.v (.bool (lv W T cs ls c))) [.bot,.bot,.bot]:= by
 refine AG (md:= md5) (ms:= [false,false,false]) XU (by simp) ?_
 simp [P9]
 refine AA (Bl W T cs ls hb hl) ?_
 unfold lv
 cases hq:(Am W T cs && AR W T cs ls) with
 | false => simp
 | true =>
 simp only [Bool.and_eq_true] at hq
 obtain ⟨hr,hy⟩:= hq
 obtain ⟨w1,w2,t1,t2,l1,_⟩:= BT hr
 have h36:= Ab hr
 have hlen:= AY hy
 have hc:= YH w1 w2 t1 t2
 have cm:= Hh W T cs hb
 rw [if_pos hr] at cm
 simp
 refine AA cm ?_
 simp
 refine ⟨by omega,?_⟩
 by_cases hin:0 ≤ c ∧ c ≤ dy W T - 1
 case neg =>
  have hf:Gz W T ls c = false:= by
   cases hf:Gz W T ls c with
   | false => rfl
   | true =>
     simp only [Gz,Bool.and_eq_true] at hf
     exact absurd (iY w1 t1 hf.1) hin
  refine AA (Ex (x:= c) (lo:= 0) (hi:= dy W T - 1) hin) ?_
  simp [hf]
 refine AA (Dc (x:= c) (lo:= 0) (hi:= dy W T - 1) hin) ?_
 simp
 have sq:= O3 W T cs c hr hin.1 (by omega)
 have me:= lu (c:= c) hr hy hin.1
 cases hs:sqB W T cs c with
 | false =>
   have hff:Gz W T ls c = false:= by rw [← me,hs]; rfl
   rw [if_neg (by rw [hs]; decide)] at sq
   refine AA sq ?_
   simp [hff]
 | true =>
   have hff:Gz W T ls c = (Tf W ls c || upB W ls c):= by rw [← me,hs]; rfl
   rw [if_pos hs] at sq
   have hm:= cS w1 (iX hin.1 hs)
   rw [hff]
   refine AA sq ?_
   have q0:= hm.1
   have q1:swI W c < ls.length:= by omega
   have q2:0 ≤ swI W c + W:= by omega
   have q3:swI W c + W < ls.length:= by omega
   have q4:0 ≤ swI W c + 1:= by omega
   have q5:swI W c + 1 < ls.length:= by omega
   unfold Tf upB
   by_cases e1:ati ls (swI W c) = 1
   ·have e2:¬ ati ls (swI W c) = 2:= by omega
    simp [q0,q1,q2,q3,q4,q5,e1,e2]
   ·by_cases e2:ati ls (swI W c) = 2
    ·simp [q0,q1,q2,q3,q4,q5,e1,e2]
     by_cases e3:ati ls (swI W c + 1) = 2 <;> simp [e3]
    ·simp [q0,q1,q2,q3,q4,q5,e1,e2]
theorem iZ {ls:List Int} {a W:Int} (h0:0 ≤ a) (hW:2 ≤ W) (p q r s:Int):(((ls.set a.toNat p).set (a + W).toNat r).set (a + 1).toNat q).set (a + W + 1).toNat s = Tg ls a W p q r s:= by
 unfold Tg
 rw [List.set_comm _ _ (show (a + W).toNat ≠ (a + 1).toNat by omega)]
def nj (W T:Int) (cs:List Bool) (ls:List Int) (c:Int):List Int:= if (Am W T cs && AR W T cs ls) = true then Ik W T ls c else []
set_option maxHeartbeats 1000000 in
theorem XZ (W T:Int) (cs:List Bool) (ls:List Int) (c:Int) (hb:cs.length < 2 ^ 40) (hl:ls.length < 2 ^ 40):
  SoundAt Tryz.prog QA [.agg [.v (.int .i64 W),.v (.int .i64 T),.sl 1 1 (AC cs)],.sl 1 1 (AB ls),.v (.int .i64 c)]
   (.tup [.os 1 (AB (nj W T cs ls c)),.v (.bool (lv W T cs ls c))]) [.bot,.bot,.bot]:= by
 refine AG (md:= md5) (ms:= [false,false,false]) XV (by simp) ?_
 simp [QB]
 refine AA (Bl W T cs ls hb hl) ?_
 have may:= QH W T cs ls c hb hl
 unfold lv nj at *
 cases hq:(Am W T cs && AR W T cs ls) with
 | false => simp
 | true =>
 rw [hq] at may
 rw [if_pos rfl]
 simp only [Bool.and_eq_true] at hq
 obtain ⟨hr,hy⟩:= hq
 obtain ⟨w1,w2,t1,t2,l1,_⟩:= BT hr
 have h36:= Ab hr
 have hlen:= AY hy
 simp
 refine ⟨by omega,?_⟩
 cases hf:Gz W T ls c with
 | false =>
   rw [hf] at may
   refine AA may ?_
   have e:Ik W T ls c = ls:= by unfold Ik; rw [hf]; rfl
   simp [e]
 | true =>
   rw [hf] at may
   refine AA may ?_
   have hf2:= hf
   simp only [Gz,Bool.and_eq_true] at hf2
   have hW2:2 ≤ W:= by
    obtain ⟨x,y,x0,x1,_⟩:= au w1 hf2.1
    omega
   have hc0:= (iY w1 t1 hf2.1)
   have hcor:= YH w1 w2 t1 t2
   have me:= lu (c:= c) hr hy hc0.1
   rw [hf] at me
   have hs:sqB W T cs c = true:= by
    simp only [Bool.and_eq_true] at me
    exact me.1
   have sq:= O3 W T cs c hr hc0.1 (by omega)
   rw [if_pos hs] at sq
   have hm:= cS w1 hf2.1
   have q0:= hm.1
   have q1:swI W c < ls.length:= by omega
   have q2:0 ≤ swI W c + W:= by omega
   have q3:swI W c + W < ls.length:= by omega
   have q4:0 ≤ swI W c + 1:= by omega
   have q5:swI W c + 1 < ls.length:= by omega
   have q6:0 ≤ swI W c + W + 1:= by omega
   have q7:swI W c + W + 1 < ls.length:= by omega
   simp
   refine AA sq ?_
   by_cases hF:Tf W ls c = true
   ·have e:Ik W T ls c = Tg ls (swI W c) W 2 2 4 4:= by unfold Ik; rw [if_pos hf,if_pos hF]
    have hF2:= hF
    simp only [Tf,Bool.and_eq_true,decide_eq_true_eq] at hF2
    have ht:(AB (Tg ls (swI W c) W 2 2 4 4)).take ls.length = AB (Tg ls (swI W c) W 2 2 4 4):= List.take_of_length_le (by simp [Dl])
    unfold Tg at ht e
    simp [q0,q1,q2,q3,q4,q5,q6,q7,hF2.1,EA,e,ht]
   ·have e:Ik W T ls c = Tg ls (swI W c) W 1 3 1 3:= by unfold Ik; rw [if_pos hf,if_neg hF]
    have hU:upB W ls c = true:= by
     have:= hf2.2
     simp only [Bool.or_eq_true] at this
     exact this.resolve_left hF
    simp only [upB,Bool.and_eq_true,decide_eq_true_eq] at hU
    have hn1:¬ ati ls (swI W c) = 1:= by omega
    have ht:(AB (Tg ls (swI W c) W 1 3 1 3)).take ls.length = AB (Tg ls (swI W c) W 1 3 1 3):= List.take_of_length_le (by simp [Dl])
    have e4:= iZ (ls:= ls) q0 hW2 1 3 1 3
    simp [q0,q1,q2,q3,q4,q5,q6,q7,hU.1,hn1,EA,e,e4,ht,Dl]
def Fv (W T:Int) (cs:List Bool) (ls:List Int) (n:Nat):List Int:= (List.range n).flatMap fun k:Nat => if lv W T cs ls k then [(k:Int)] else []
theorem UQ (W T:Int) (cs:List Bool) (ls:List Int) (n:Nat):Fv W T cs ls (n + 1) = Fv W T cs ls n ++ if lv W T cs ls n then [(n:Int)] else []:= by simp [Fv,List.range_succ]
theorem Le (W T:Int) (cs:List Bool) (ls:List Int):∀ n,(Fv W T cs ls n).length ≤ n
 | 0 => by simp [Fv]
 | n + 1 => by
   have:= Le W T cs ls n
   rw [UQ]; split <;> simp <;> omega
theorem cV {W T:Int} {cs:List Bool} {ls:List Int} {n:Nat} {x:Int} (h:x ∈ Fv W T cs ls n):0 ≤ x ∧ x < n:= by
 simp only [Fv,List.mem_flatMap,List.mem_range] at h
 obtain ⟨k,hk,h⟩:= h
 split at h
 ·simp at h; omega
 ·simp at h
def cW (W T:Int) (cs:List Bool):Nat:= if Am W T cs = true then (dy W T).toNat else 0
theorem ia (W T:Int) (cs:List Bool):cW W T cs ≤ 49:= by
 unfold cW; split
 ·rename_i hr
  obtain ⟨w1,w2,t1,t2,_⟩:= BT hr
  have:= YH w1 w2 t1 t2
  omega
 ·omega
def aw (W T:Int) (cs:List Bool) (ls:List Int):List Int:= Fv W T cs ls (cW W T cs)
theorem Xa (W T:Int) (cs:List Bool) (ls:List Int) (hb:cs.length < 2 ^ 40) (hl:ls.length < 2 ^ 40):
  SoundAt Tryz.prog QE [.agg [.v (.int .i64 W),.v (.int .i64 T),.sl 1 1 (AC cs)],.sl 1 1 (AB ls)] (.os 1 (AB (aw W T cs ls))) [.bot,.bot]:= by
 refine AG (md:= md5) (ms:= [false,false]) XX (by simp) ?_
 have cm:= Hh W T cs hb
 have h49:= ia W T cs
 have hcor:∀ k:Nat,((k:Int) < if Am W T cs = true then dy W T else -1) ↔ k < cW W T cs:= by
  intro k
  unfold cW
  split
  ·rename_i hr
   obtain ⟨w1,w2,t1,t2,_⟩:= BT hr
   have:= YH w1 w2 t1 t2
   omega
  ·omega
 simp [QF]
 refine AF (fun m E H => ∃ i:Nat,m = cW W T cs - i ∧ i ≤ cW W T cs ∧ E = [(1,.sl 1 1 (AB ls)),(2,.lp 0 0 0 0),(5,.ls 1 1 0 (Fv W T cs ls i).length),(6,.v (.int .i64 i))] ∧
  H = [some (.box [.v (.int .i64 W),.v (.int .i64 T),.sl 1 1 (AC cs)]),some (.arr 1 (AB (Fv W T cs ls i)))]) (cW W T cs) ⟨0,rfl,by omega,by simp [Fv],by simp [Fv]⟩ ?_
 rintro J hJ m E H ⟨i,rfl,hi,rfl,rfl⟩
 have hfl:= Le W T cs ls i
 have hc:= hcor i
 have may:= QH W T cs ls i hb hl
 have hstep:= UQ W T cs ls i
 simp [MS]
 refine AA cm ?_
 by_cases h:i < cW W T cs
 ·have hc2:= hc.2 h
  simp [hc2]
  refine AA may ?_
  cases hm:lv W T cs ls i with
  | false =>
    rw [hm] at hstep
    simp at hstep
    simp
    exact ⟨by omega,_,by omega,hJ _ _ _ ⟨i + 1,rfl,h,by simp [hstep],by simp [hstep]⟩⟩
  | true =>
    rw [hm] at hstep
    simp at hstep
    simp
    exact ⟨by omega,by omega,_,by omega,hJ _ _ _ ⟨i + 1,rfl,h,by simp [hstep],by simp [hstep,EY,dJ]⟩⟩
 ·have hc2:¬ ((i:Int) < if Am W T cs = true then dy W T else -1):= fun h2 => h (hc.1 h2)
  have:i = cW W T cs:= by omega
  subst this
  have ht:(AB (Fv W T cs ls (cW W T cs))).take (Fv W T cs ls (cW W T cs)).length = AB (Fv W T cs ls (cW W T cs)):= AE _
  simp [hc2,aw,ht]
def HI:BCode:= .seq (.base (.reg [.o 2 .box [.t 0],.o 4 (.alloc [.v (.int .i64 (0)),.v (.int .i64 (0)),.v (.int .i64 (0)),.v (.int .i64 (0))]) [],.o 5 .mv [.kb false]])) <| .seq (.calm [(false,.m 9 1),(false,.f 10 0 2),(false,.l 11 10),(false,.o 12 (.bin .add 0) [.t 11,.k 1]),(true,.o 13 (.bin .rem 0) [.t 9,.t 12]),(false,.m 14 1),(false,.f 15 0 2),(false,.l 16 15),(false,.o 17 (.bin .add 0) [.t 16,.k 1]),(true,.o 18 (.bin .quo 0) [.t 14,.t 17]),(false,.m 6 13),(false,.m 7 18)]) <| .base (BB)
theorem O4:j6 Tryz.prog FO 59 [.c 4 true 4,.t 5] HI:= ⟨Tryz.f238,_,Tryz.func238,rfl,by kernel_rfl,by kernel_rfl,by kernel_rfl,by kernel_rfl⟩
@[simp] abbrev LL:Nat:= 60
abbrev GA:Plan:= .take (.o 41 (.iadr 1) [.t 37,.t 38]) <| .al (.s (.store 1) [.t 41,.t 40]) ( .done)
def DA:ACode:= .seq (.reg [.o 32 (.bin .lss 0) [.t 31,.t 30]]) <| .seq (.cond (.t 32) ( .skip) ( .exit 0)) <| .seq (.block 1 ( .seq (.reg [.m 33 31,.o 34 (.iadr 1) [.t 29,.t 31],.l 35 34,.m 4 33,.m 5 35]) <| .draw ( .take (.f 36 5 3) <| .take (.m 38 4) <| .take (.m 39 5) <| .alt (.l 37 36) ( .al (.o 40 (.call 126 []) [.t 39]) GA) <| .al (.o 40 (.call 126 []) [.t 39]) ( .al (.l 37 36) GA)))) <| .reg [.o 42 (.bin .add 0) [.t 31,.k 1],.m 31 42]
def IY:ACode:= .seq (.seq (.reg [.f 28 5 1,.l 29 28,.n 30 29,.o 31 .mv [.k 0]]) <| .block 0 ( .loop [(29,1)] [2,3,29,30,31] DA)) <| .seq (.reg [.la 43 6 3,.s (.store 6) [.t 2,.t 43]]) <| .ret
abbrev Dm:Plan:= .take (.o 27 (.build bz [(0,3),(3,1),(4,1),(5,1)]) [.t 16,.t 19,.t 22,.t 26]) <| .al (.s (.store 6) [.t 3,.t 27]) ( .done)
abbrev CS:Plan:= .al (.o 22 (.call 126 []) [.t 21]) Dm
abbrev Dn:Plan:= .alt (.o 22 (.call 126 []) [.t 21]) ( .take (.o 27 (.build bz [(0,3),(3,1),(4,1),(5,1)]) [.t 16,.t 19,.t 22,.t 26]) <| .al (.o 3 (.alloc bz) []) ( .al (.s (.store 6) [.t 3,.t 27]) ( .done))) <| .al (.o 3 (.alloc bz) []) CS
abbrev Dp:Plan:= .alt (.o 22 (.call 126 []) [.t 21]) ( .al (.o 26 (.mksl 1 24 (.os 1 [])) [.t 25,.t 25]) Dm) <| .al (.o 26 (.mksl 1 24 (.os 1 [])) [.t 25,.t 25]) CS
abbrev CT:Plan:= .al (.o 19 (.call 126 []) [.t 18]) CS
abbrev Gj:Plan:= .al (.o 15 (.call 125 []) [.t 14]) ( .take (.o 16 (.build rz [(0,1),(1,1),(2,1)]) [.t 8,.t 11,.t 15]) <| .al (.o 19 (.call 126 []) [.t 18]) CS)
def I1:BCode:= .seq (.base (.reg [.o 1 .box [.t 0],.o 2 (.alloc bz) []])) <| .frz 1 <| .seq (.early [.f 6 0 1,.f 7 0 6,.l 8 7,.f 9 0 1,.f 10 1 9,.l 11 10,.f 12 0 1,.f 13 2 12,.l 14 13,.f 17 3 1,.l 18 17,.f 20 4 1,.l 21 20,.f 23 5 1,.l 24 23,.n 25 24] ( .alt (.o 15 (.call 125 []) [.t 14]) ( .take (.o 16 (.build rz [(0,1),(1,1),(2,1)]) [.t 8,.t 11,.t 15]) <| .alt (.o 19 (.call 126 []) [.t 18]) ( .alt (.o 22 (.call 126 []) [.t 21]) ( .alt (.o 26 (.mksl 1 24 (.os 1 [])) [.t 25,.t 25]) ( .take (.o 27 (.build bz [(0,3),(3,1),(4,1),(5,1)]) [.t 16,.t 19,.t 22,.t 26]) <| .al (.o 3 (.alloc bz) []) ( .al (.s (.store 6) [.t 3,.t 27]) ( .done))) <| .al (.o 3 (.alloc bz) []) ( .al (.o 26 (.mksl 1 24 (.os 1 [])) [.t 25,.t 25]) Dm)) <| .alt (.o 26 (.mksl 1 24 (.os 1 [])) [.t 25,.t 25]) Dn <| .al (.o 3 (.alloc bz) []) Dp) <| .alt (.o 26 (.mksl 1 24 (.os 1 [])) [.t 25,.t 25]) ( .alt (.o 19 (.call 126 []) [.t 18]) Dn <| .al (.o 3 (.alloc bz) []) CT) <| .al (.o 3 (.alloc bz) []) ( .alt (.o 19 (.call 126 []) [.t 18]) Dp <| .al (.o 26 (.mksl 1 24 (.os 1 [])) [.t 25,.t 25]) CT)) <| .alt (.o 26 (.mksl 1 24 (.os 1 [])) [.t 25,.t 25]) ( .alt (.o 15 (.call 125 []) [.t 14]) ( .take (.o 16 (.build rz [(0,1),(1,1),(2,1)]) [.t 8,.t 11,.t 15]) <| .alt (.o 19 (.call 126 []) [.t 18]) Dn <| .al (.o 3 (.alloc bz) []) CT) <| .al (.o 3 (.alloc bz) []) Gj) <| .al (.o 3 (.alloc bz) []) ( .alt (.o 15 (.call 125 []) [.t 14]) ( .take (.o 16 (.build rz [(0,1),(1,1),(2,1)]) [.t 8,.t 11,.t 15]) <| .alt (.o 19 (.call 126 []) [.t 18]) Dp <| .al (.o 26 (.mksl 1 24 (.os 1 [])) [.t 25,.t 25]) CT) <| .al (.o 26 (.mksl 1 24 (.os 1 [])) [.t 25,.t 25]) Gj))) <| .base (.gc [] [1,2,3] IY)
theorem Sc:j6 Tryz.prog LL 44 [.c 2 true 6] I1:= ⟨Tryz.f60,_,Tryz.func60,rfl,by kernel_rfl,by kernel_rfl,by kernel_rfl,by kernel_rfl⟩
def arV (a b c d:Int):AV:= .agg [.v (.int .i64 a),.v (.int .i64 b),.v (.int .i64 c),.v (.int .i64 d)]
def arR (W T c:Int):AV:= if XY W T c = true then .tup [arV (swI W c) (swI W c + 1) (swI W c + W) (swI W c + W + 1),.v (.bool true)] else .tup [arV 0 0 0 0,.v (.bool false)]
theorem I2 (W T:Int) (cs:List Bool) (c:Int) (hr:Am W T cs = true) (h1:c ≤ 9223372036854775807):
  SoundAt Tryz.prog FO [.agg [.v (.int .i64 W),.v (.int .i64 T),.sl 1 1 (AC cs)],.v (.int .i64 c)] (arR W T c) [.bot,.bot]:= by
 obtain ⟨w1,w2,t1,t2,l1,_⟩:= BT hr
 have h36:= Ab hr
 have w0:1 ≤ W + 1:= by omega
 by_cases h0:0 ≤ c
 case neg =>
  have hm:XY W T c = false:= by simp [XY]; omega
  have hc:c < 0:= by omega
  refine X6 (md:= md0) (ms:= [false,false]) O4 (by simp) ?_
  simp [HI]
  refine ⟨by omega,?_⟩
  refine dT (.inr rfl) ?_
  simp [j7,w0]
  refine ⟨by omega,?_⟩
  refine dT (.inl rfl) ?_
  simp [j7,w0,BB,hc,arR,hm,arV]
 have m1:= Int.emod_nonneg c (show W + 1 ≠ 0 by omega)
 have m2:= Int.emod_lt_of_pos c (show 0 < W + 1 by omega)
 have m3:= Int.ediv_nonneg h0 (show 0 ≤ W + 1 by omega)
 have m4:= Int.ediv_le_self (W + 1) h0
 refine AG (md:= md0) (ms:= [false,false]) Pd (by simp) ?_
 have hsw:= @cS W T c w1
 have hsd:swI W c = (c / (W + 1) - 1) * W + c % (W + 1) - 1:= rfl
 have hc:¬ c < 0:= by omega
 by_cases hx:1 ≤ c % (W + 1) ∧ c % (W + 1) ≤ W - 1
 case neg =>
  have hm:XY W T c = false:= by simp [XY]; omega
  simp [DI,h0,w0]
  (repeat' first | omega | apply And.intro) <;>
  ·simp [BB,hc]
   refine ⟨by omega,?_⟩
   refine AA (Ea (x:= c % (W + 1)) (lo:= 1) (hi:= W - 1) hx) ?_
   simp [arR,hm,arV]
 by_cases hy:1 ≤ c / (W + 1) ∧ c / (W + 1) ≤ T - 1
 case neg =>
  have hm:XY W T c = false:= by simp [XY]; omega
  simp [DI,h0,w0]
  (repeat' first | omega | apply And.intro) <;>
  ·simp [BB,hc]
   refine ⟨by omega,?_⟩
   refine AA (A8 (x:= c % (W + 1)) (lo:= 1) (hi:= W - 1) hx) ?_
   simp
   refine ⟨by omega,?_⟩
   refine AA (Ea (x:= c / (W + 1)) (lo:= 1) (hi:= T - 1) hy) ?_
   simp [arR,hm,arV]
 have hm:XY W T c = true:= by simp [XY]; omega
 have hs:= hsw hm
 have hz:swI W c = (c / (W + 1) - 1) * W + c % (W + 1) - 1:= hsd
 rw [hz] at hs
 simp [DI,h0,w0]
 (repeat' first | omega | apply And.intro) <;>
 ·simp [BB,hc]
  refine ⟨by omega,?_⟩
  refine AA (A8 (x:= c % (W + 1)) (lo:= 1) (hi:= W - 1) hx) ?_
  simp
  refine ⟨by omega,?_⟩
  refine AA (A8 (x:= c / (W + 1)) (lo:= 1) (hi:= T - 1) hy) ?_
  simp [arR,hm,arV,hz]
  generalize (c / (W + 1) - 1) * W = z at *
  (repeat' first | omega | rfl | apply And.intro)
@[simp] theorem kU {P:Program} {md:Nat → List Bool} {K:ES → AN → Prop} {E:ES} {H:AN} {dst:Option Nat} {k:AK} {xs:List Opd} {s:Nat} {w:Bool} {os:List AOper} {p:Plan}:
  JA P md (⟨dst,k,xs,some (s,w)⟩::os) p K E H = (aE ⟨dst,k,xs,some (s,w)⟩ E ∧ G0 P md ⟨dst,k,xs,some (s,w)⟩ s w (JA P md os p K) E H (get E s)):= (rfl)
set_option maxHeartbeats 4000000 in
theorem Mz (W T:Int) (cs:List Bool) (ls:List Int) (c:Int) (hr:Am W T cs = true) (hl:ls.length = cs.length) (h1:c ≤ 9223372036854775807):
  SoundAt Tryz.prog Gi [.agg [.v (.int .i64 W),.v (.int .i64 T),.sl 1 1 (AC cs)],.sl 1 1 (AB ls),.v (.int .i64 c)]
   (.tup [.v (.bool (XY W T c && Tf W ls c)),.v (.bool (XY W T c && upB W ls c))]) [.bot,.bot,.bot]:= by
 obtain ⟨w1,w2,t1,t2,l1,_⟩:= BT hr
 have h36:= Ab hr
 have ar:= I2 W T cs c hr h1
 refine X6 (md:= md0) (ms:= [false,false,false]) Mx (by simp) ?_
 simp [Ff]
 refine AA ar ?_
 cases hm:XY W T c with
 | false => simp [arR,hm,arV]
 | true =>
   have hs:= cS w1 hm
   have q0:= hs.1
   have q1:swI W c < ls.length:= by omega
   have q2:0 ≤ swI W c + W:= by omega
   have q3:swI W c + W < ls.length:= by omega
   have q4:0 ≤ swI W c + 1:= by omega
   have q5:swI W c + 1 < ls.length:= by omega
   simp [arR,hm,arV]
   refine X7 rfl rfl rfl ?_
   unfold Tf upB
   by_cases e1:ati ls (swI W c) = 1
   ·have e2:¬ ati ls (swI W c) = 2:= by omega
    simp [q0,q1,q2,q3,q4,q5,e1,e2]
    by_cases e3:ati ls (swI W c + W) = 1 <;> simp [e3]
   ·by_cases e2:ati ls (swI W c) = 2
    ·simp [q0,q1,q2,q3,q4,q5,e1,e2]
     by_cases e3:ati ls (swI W c + 1) = 2 <;> simp [e3]
    ·simp [q0,q1,q2,q3,q4,q5,e1,e2]
set_option maxHeartbeats 4000000 in
theorem Sd (W T:Int) (cs:List Bool) (ls:List Int) (c:Int) (hr:Am W T cs = true) (hl:ls.length = cs.length) (h1:c ≤ 9223372036854775807):
  SoundAt Tryz.prog LK [.agg [.v (.int .i64 W),.v (.int .i64 T),.sl 1 1 (AC cs)],.sl 1 1 (AB ls),.v (.int .i64 c)]
   (.tup [.os 1 (AB (Ik W T ls c)),.v (.bool (Gz W T ls c))]) [.bot,.bot,.bot]:= by
 obtain ⟨w1,w2,t1,t2,l1,_⟩:= BT hr
 have h36:= Ab hr
 have ar:= I2 W T cs c hr h1
 have fl:= Mz W T cs ls c hr hl h1
 refine X6 (md:= md0) (ms:= [false,false,false]) Sa (by simp) ?_
 simp [I0]
 refine AA (Aq ls (by omega)) ?_
 simp
 refine AA fl ?_
 simp
 refine AA ar ?_
 have htl:(AB ls).take ls.length = AB ls:= AE ls
 cases hm:XY W T c with
 | false =>
   have e:Ik W T ls c = ls:= by simp [Ik,Gz,hm]
   have e2:Gz W T ls c = false:= by simp [Gz,hm]
   simp [arR,hm,arV,e,e2]
   refine X7 rfl rfl rfl ?_
   simp [htl]
 | true =>
   have hs:= cS w1 hm
   have hW2:2 ≤ W:= by
    obtain ⟨x,y,x0,x1,_⟩:= au w1 hm
    omega
   have q0:= hs.1
   have q1:swI W c < ls.length:= by omega
   have q2:0 ≤ swI W c + W:= by omega
   have q3:swI W c + W < ls.length:= by omega
   have q4:0 ≤ swI W c + 1:= by omega
   have q5:swI W c + 1 < ls.length:= by omega
   have q6:0 ≤ swI W c + W + 1:= by omega
   have q7:swI W c + W + 1 < ls.length:= by omega
   simp [arR,hm,arV]
   refine X7 rfl rfl rfl ?_
   cases hF:Tf W ls c with
   | true =>
     have e2:Gz W T ls c = true:= by simp [Gz,hm,hF]
     have e:Ik W T ls c = Tg ls (swI W c) W 2 2 4 4:= by unfold Ik; rw [if_pos e2,if_pos hF]
     have ht:(AB (Tg ls (swI W c) W 2 2 4 4)).take ls.length = AB (Tg ls (swI W c) W 2 2 4 4):= List.take_of_length_le (by simp [Dl])
     have hlen:= Dl ls (swI W c) W 2 2 4 4
     rw [e,e2]
     unfold Tg at *
     simp [q0,q1,q2,q3,q4,q5,q6,q7,EA,ht]
   | false =>
     cases hU:upB W ls c with
     | true =>
       have e2:Gz W T ls c = true:= by simp [Gz,hm,hU]
       have e:Ik W T ls c = Tg ls (swI W c) W 1 3 1 3:= by unfold Ik; rw [if_pos e2,if_neg (by rw [hF]; decide)]
       have ht:(AB (Tg ls (swI W c) W 1 3 1 3)).take ls.length = AB (Tg ls (swI W c) W 1 3 1 3):= List.take_of_length_le (by simp [Dl])
       rw [e,e2]
       unfold Tg at *
       simp [q0,q1,q2,q3,q4,q5,q6,q7,EA,ht]
     | false =>
       have e2:Gz W T ls c = false:= by simp [Gz,hF,hU]
       have e:Ik W T ls c = ls:= by simp [Ik,e2]
       rw [e,e2]
       simp [htl]
theorem Xb (W T:Int) (cs:List Bool) (ls:List Int) (k:Nat) (hr:Am W T cs = true) (hy:AR W T cs ls = true) (hk:k < ls.length):
  SoundAt Tryz.prog Hs [.agg [.v (.int .i64 W),.v (.int .i64 T),.sl 1 1 (AC cs)],.sl 1 1 (AB ls),.v (.int .i64 k)]
   (if ati ls k = 0 then .tup [.os 1 (AB ls),.v (.bool false)] else .tup [.os 1 (AB (KU W T ls k)),.v (.bool true)]) [.bot,.bot,.bot]:= by
 refine AG (md:= md5) (ms:= [false,false,false]) P3 (by simp) ?_
 have h36:= Ab hr
 have hl:= AY hy
 simp [Lb]
 refine AA (Bl W T cs ls (by omega) (by omega)) ?_
 simp [hr,hy]
 refine ⟨by omega,by omega,?_⟩
 refine AA (Dc (x:= k) (lo:= 0) (hi:= (ls.length:Int) - 1) (by omega)) ?_
 by_cases hz:ati ls k = 0
 ·simp [hk,hz]
 obtain ⟨t,e,ht,htk,_⟩:= TZ hr hy hk hz
 have eL:KU W T ls k = (ls.set t 0).set k 0:= by unfold KU; rw [e]; simp
 rw [eL]
 have one:= Db W T cs k (ati ls k) hr (by omega) (by omega)
 rw [e] at one
 simp [hk,hz]
 (repeat' first | assumption | omega | apply And.intro) <;>
 ·refine AA one ?_
  have htk2:(AB ((ls.set t 0).set k 0)).take ls.length = AB ((ls.set t 0).set k 0):= List.take_of_length_le (by simp)
  simp [ht,hk,EA,MJ,htk2]
theorem nk {us:List Value} (h:∀ u ∈ us,u.oneCell' = true):okL (Lo us) = true:= by
 induction us with
 | nil => simp [Lo]
 | cons u us ih =>
   have h1:= h u (by simp)
   have h2:= ih fun x hx => h x (by simp [hx])
   show (okE (.v u) && okL (Lo us)) = true
   rw [h2,Bool.and_true]
   exact h1
@[simp] theorem rZ (us:List Value):(Lo us).take us.length = Lo us:= List.take_of_length_le (by simp)
theorem Pe (us:List Value) (hn:us.length < 2 ^ 40) (h1:∀ u ∈ us,u.oneCell' = true):
  SoundAt Tryz.prog Fp [.sl 0 1 (Lo us)] (.os 1 (Lo us)) [.bot]:= by
 refine AG (md:= md3) (ms:= [false]) Qz (by simp) ?_
 simp [Jj]
 simp [nk h1]
 refine ⟨fun _ => by omega,fun e => ⟨by omega,by rw [e]; rfl⟩⟩
theorem Th (us:List Value):SoundAt Tryz.prog GX [.os 1 (Lo us)] (.os 1 (Lo us)) [.bot]:= by
 refine AG (md:= md3) (ms:= [false]) K8 (by simp) ?_
 simp [GY]
theorem kV (us:List Value):noVL (Lo us) = true:= by
 induction us with
 | nil => rfl
 | cons u us ih => show (noV (.v u) && noVL (Lo us)) = true; rw [ih]; rfl
theorem Sf (us:List Value) (hn:us.length < 2 ^ 40) (h1:∀ u ∈ us,u.oneCell' = true):
  SoundAt Tryz.prog Fp [.sl 1 1 (Lo us)] (.os 1 (Lo us)) [.bot]:= by
 refine SoundAt.lift (n:= 1) (fun C S us hr => noOL_ok _ S us rfl hr) (by simp [noV,kV]) ?_
 have:= Pe us hn h1
 simpa [vwL,vw,WA] using this
theorem Uy (us:List Value) (hn:us.length < 2 ^ 40) (h1:∀ u ∈ us,u.oneCell' = true):
  SoundAt Tryz.prog L4 [.sl 1 1 (Lo us)] (.os 1 (Lo us)) [.bot]:= by
 refine AG (md:= md3) (ms:= [false]) Te (by simp) ?_
 simp [L5]
 refine AA (Sf us hn h1) ?_
 simp [WA]
 refine AA (Th us) ?_
 simp
def Ti (d:Int × Int × Int):Bool:=
 if d.1 = 0 then true else if d.1 = 1 ∨ d.1 = 2 then decide (d.2.2 = 0) else if d.1 = 3 ∨ d.1 = 4 then decide (d.2.1 = 0 ∧ d.2.2 = 0) else false
theorem Tj (d:Int × Int × Int):SoundAt Tryz.prog Hf [BG d] (.v (.bool (Ti d))) [.bot]:= by
 obtain ⟨k,s,w⟩:= d
 refine AG (md:= md3) (ms:= [false]) MR (by simp [BG]) ?_
 by_cases h0:k = 0 <;> by_cases h1:k = 1 <;> by_cases h2:k = 2 <;> by_cases h3:k = 3 <;> by_cases h4:k = 4 <;> by_cases hs:s = 0 <;> by_cases hw:w = 0 <;> first | (exfalso; omega) | (simp [Hg,BG,Ti,h0,h1,h2,h3,h4,hs,hw])
theorem WZ (d:Int × Int × Int):SoundAt Tryz.prog J5 [BG d] (.v (.bool (Ti d))) [.bot]:= by
 obtain ⟨k,s,w⟩:= d
 refine AG (md:= md3) (ms:= [false]) O2 (by simp [BG]) ?_
 by_cases h0:k = 0 <;> by_cases h1:k = 1 <;> by_cases h2:k = 2 <;> by_cases h3:k = 3 <;> by_cases h4:k = 4 <;> by_cases hs:s = 0 <;> by_cases hw:w = 0 <;> first | (exfalso; omega) | (simp [J6,BG,Ti,h0,h1,h2,h3,h4,hs,hw])
theorem SoundAt.none0 {P:Program} {f n:Nat} {avs:List AV} {x:Value} (h:SoundAt P f avs (.tup [.os 1 [],.v x]) (List.replicate n .bot)):SoundAt P f avs (.tup [.sl 0 1 [],.v x]) (List.replicate n .bot):= by
 intro w forb us S hr hnd hsz hforb
 refine Calls.mono (h w forb us S hr hnd hsz hforb) ?_
 rintro e w' ⟨v,S',he,hv,hnd',hmem,hk⟩
 rw [RL] at hv
 obtain ⟨S1,S2,u,us',rfl,hu,h1,h2⟩:= hv
 cases hu
 obtain ⟨rfl,h4⟩:= be n h2
 refine ⟨v,[],he,?_,List.nodup_nil,by simp,hk⟩
 rw [RL]
 refine ⟨[],[],v,us,rfl,rfl,?_,h4 _⟩
 rw [R] at h1 ⊢
 obtain ⟨vs,hvs,h1⟩:= h1
 refine ⟨vs,hvs,?_⟩
 rw [RL] at h1 ⊢
 obtain ⟨A1,A2,u1,us1,_,rfl,a1,a2⟩:= h1
 rw [RL] at a2
 obtain ⟨A3,A4,u2,us2,_,rfl,a3,a4⟩:= a2
 rw [RL] at a4
 obtain ⟨_,rfl⟩:= a4
 refine ⟨[],[],u1,[u2],rfl,rfl,?_,?_⟩
 ·rw [R] at a1
  obtain ⟨a,cap,h5,h6,_⟩:= a1
  show R (YY w' [] forb) (.sl 0 1 []) [] u1
  rw [R]
  exact ⟨rfl,a,cap,h5,h6,.inl rfl⟩
 ·rw [RL]
  refine ⟨[],[],u2,[],rfl,rfl,?_,by rw [RL]; exact ⟨rfl,rfl⟩⟩
  rw [R] at a3
  rw [R]
  exact ⟨rfl,a3.2⟩
def ZV (W T:Int) (cs:List Bool) (ds ls:List Int):List Int:= (Ax W T cs ds ls).getD []
def bK (W T:Int) (cs:List Bool) (ds ls:List Int):Bool:= (Ax W T cs ds ls).isSome
theorem Sg (W T:Int) (cs:List Bool) (ds ls:List Int) (hb:cs.length < 2 ^ 40) (hd:ds.length < 2 ^ 40) (hl:ls.length < 2 ^ 40):
  SoundAt Tryz.prog Hc [.agg [.v (.int .i64 W),.v (.int .i64 T),.sl 1 1 (AC cs)],.sl 1 1 (AB ds),.sl 1 1 (AB ls)] (.tup [.sl 0 1 (AB (ZV W T cs ds ls)),.v (.bool (bK W T cs ds ls))]) [.bot,.bot,.bot]:= by
 have h:= MI W T cs ds ls hb hd hl
 cases hx:Ax W T cs ds ls with
 | none =>
   rw [hx] at h
   simp only [ZV,bK,hx]
   exact SoundAt.none0 (n:= 3) h
 | some x =>
   rw [hx] at h
   simp only [ZV,bK,hx]
   exact h
@[simp] theorem lx (c:Nat) (ps:List (List Int)):(sls c ps).take ps.length = sls c ps:= List.take_of_length_le (by simp)
@[simp] abbrev MT:Nat:= 125
def MU:ACode:= .seq (.reg [.o 2 .mv [.c (.os 1 [])]]) <| .seq (.reg [.m 3 0,.o 4 (.call 174 []) [.t 3],.o 5 (.call 173 []) [.t 4],.m 2 5]) <| .ret
theorem Tk:cFn Tryz.prog MT 6 [.t 2] MU:= ⟨Tryz.f125,_,Tryz.func125,rfl,by kernel_rfl,by kernel_rfl,by kernel_rfl,by kernel_rfl⟩
@[simp] abbrev GC:Nat:= 174
def GD:ACode:= .seq (.reg [.o 2 .mv [.c (.os 1 [])]]) <| .seq (.seq (.reg [.m 3 0,.o 4 (.nilq false) [.t 3]]) <| .cond (.t 4) ( .seq (.reg [.o 2 .mv [.c (.os 1 [])]]) <| .ret) ( .skip)) <| .seq (.reg [.o 5 (.bsl 1) [],.m 6 0,.o 7 (.app 1 1 true) [.t 5,.t 6],.m 2 7]) <| .ret
theorem MV:cFn Tryz.prog GC 8 [.t 2] GD:= ⟨Tryz.f174,_,Tryz.func174,rfl,by kernel_rfl,by kernel_rfl,by kernel_rfl,by kernel_rfl⟩
@[simp] abbrev Gk:Nat:= 173
def Gl:ACode:= .seq (.reg [.o 2 .mv [.c (.os 1 [])]]) <| .seq (.reg [.m 3 0,.m 4 0,.n 5 4,.m 6 0,.n 7 6,.o 8 (.slice 1 false false true true) [.t 3,.t 5,.t 7],.m 2 8]) <| .ret
theorem M0:cFn Tryz.prog Gk 9 [.t 2] Gl:= ⟨Tryz.f173,_,Tryz.func173,rfl,by kernel_rfl,by kernel_rfl,by kernel_rfl,by kernel_rfl⟩
@[simp] abbrev QI:Nat:= 119
abbrev Dq:Plan:= .alt (.o 21 (.app 1 8 true) [.t 19,.t 20]) (.alt (.o 23 (.call 146 []) [.t 22]) (.take (.o 25 (.build bz [(0,3),(3,1),(4,1),(5,1)]) [.t 18,.t 21,.t 23,.t 24]) (.alt (.s (.store 6) [.t 4,.t 25]) .done .stop)) .stop) .stop
abbrev J7:Plan:= .alt (.o 21 (.app 1 8 true) [.t 19,.t 20]) (.alt (.o 23 (.call 146 []) [.t 22]) (.alt (.o 24 (.bsl 1) []) (.take (.o 25 (.build bz [(0,3),(3,1),(4,1),(5,1)]) [.t 18,.t 21,.t 23,.t 24]) (.alt (.s (.store 6) [.t 4,.t 25]) .done .stop)) .stop) (.alt (.o 24 (.bsl 1) []) (.alt (.o 23 (.call 146 []) [.t 22]) (.take (.o 25 (.build bz [(0,3),(3,1),(4,1),(5,1)]) [.t 18,.t 21,.t 23,.t 24]) (.alt (.s (.store 6) [.t 4,.t 25]) .done .stop)) .stop) .stop)) (.alt (.o 24 (.bsl 1) []) Dq .stop)
abbrev Dr:Plan:= .alt (.o 17 (.app 1 1 true) [.t 14,.t 16]) (.take (.o 18 (.build rz [(0,1),(1,1),(2,1)]) [.t 11,.t 13,.t 17]) Dq) .stop
abbrev J8:Plan:= .alt (.o 17 (.app 1 1 true) [.t 14,.t 16]) (.take (.o 18 (.build rz [(0,1),(1,1),(2,1)]) [.t 11,.t 13,.t 17]) (.alt (.o 19 (.bsl 1) []) Dq .stop)) (.alt (.o 19 (.bsl 1) []) Dr .stop)
abbrev J9:Plan:= .alt (.o 17 (.app 1 1 true) [.t 14,.t 16]) (.take (.o 18 (.build rz [(0,1),(1,1),(2,1)]) [.t 11,.t 13,.t 17]) J7) (.alt (.o 24 (.bsl 1) []) Dr .stop)
def Ng:BCode:= (.early [.f 10 0 2,.l 11 10,.f 12 1 2,.l 13 12,.f 15 2 2,.l 16 15,.m 20 1,.la 22 3 2] (.alt (.o 14 (.bsl 1) []) (.alt (.o 17 (.app 1 1 true) [.t 14,.t 16]) (.take (.o 18 (.build rz [(0,1),(1,1),(2,1)]) [.t 11,.t 13,.t 17]) (.alt (.o 19 (.bsl 1) []) J7 (.alt (.o 24 (.bsl 1) []) (.alt (.o 19 (.bsl 1) []) Dq .stop) .stop))) (.alt (.o 19 (.bsl 1) []) J9 (.alt (.o 24 (.bsl 1) []) J8 .stop))) (.alt (.o 19 (.bsl 1) []) (.alt (.o 14 (.bsl 1) []) J9 (.alt (.o 24 (.bsl 1) []) (.alt (.o 14 (.bsl 1) []) Dr .stop) .stop)) (.alt (.o 24 (.bsl 1) []) (.alt (.o 14 (.bsl 1) []) J8 (.alt (.o 19 (.bsl 1) []) (.alt (.o 14 (.bsl 1) []) Dr .stop) .stop)) .stop))))
def QJ:BCode:= (.seq (.base (.reg [.o 2 .box [.t 0],.o 4 (.alloc bz) []])) (.seq (.base (.seq (.reg [.la 5 3 2,.m 6 1,.o 7 (.call 121 []) [.t 5,.t 6],.o 8 (.un .not) [.t 7]]) (.cond (.t 8) (.seq (.reg [.o 9 (.build bz []) [],.s (.store 6) [.t 4,.t 9]]) .ret) .skip))) (.seq (.frz 2 Ng) (.base .ret))))
theorem Xc:j6 Tryz.prog QI 26 [(RV.c 4 true 6)] QJ:= ⟨Tryz.f119,_,Tryz.func119,rfl,by kernel_rfl,by kernel_rfl,by kernel_rfl,by kernel_rfl⟩
theorem Q0 (xs:List Bool) (hx:xs.length < 2 ^ 40):SoundAt Tryz.prog GC [.sl 1 1 (AC xs)] (.os 1 (AC xs)) [.bot]:= by
 refine AG (md:= md0) (ms:= [false]) MV (by simp) ?_
 simp [GD]
 refine ⟨fun h => by omega,fun h => ?_⟩
 subst h
 simp
theorem Sh (xs:List Bool):SoundAt Tryz.prog Gk [.os 1 (AC xs)] (.os 1 (AC xs)) [.bot]:= by
 refine AG (md:= md0) (ms:= [false]) M0 (by simp) ?_
 simp [Gl]
theorem Tl (xs:List Bool) (hx:xs.length < 2 ^ 40):SoundAt Tryz.prog MT [.sl 1 1 (AC xs)] (.os 1 (AC xs)) [.bot]:= by
 refine AG (md:= md0) (ms:= [false]) Tk (by simp) ?_
 simp [MU]
 refine AA (Q0 xs hx) ?_
 simp
 refine AA (Sh xs) ?_
 simp
def kW (W T:Int) (cs:List Bool) (ds:List Int):AV:= if (Am W T cs && B4 cs ds) = true then bkO W T cs ds (Ac cs) [] else bkO 0 0 [] [] [] []
set_option maxHeartbeats 4000000 in
theorem Lf (W T:Int) (cs:List Bool) (ds:List Int) (hb:cs.length < 2 ^ 40) (hd:ds.length < 2 ^ 40):
  SoundAt Tryz.prog QI [.agg [.v (.int .i64 W),.v (.int .i64 T),.sl 1 1 (AC cs)],.sl 1 1 (AB ds)] (kW W T cs ds) [.bot,.bot]:= by
 refine X6 (md:= md0) (ms:= [false,false]) Xc (by simp) ?_
 simp [QJ]
 refine AA (Cu W T cs ds hb hd) ?_
 cases hv:(Am W T cs && B4 cs ds) with
 | false => simp [kW,hv]
 | true =>
 have hr:Am W T cs = true:= by simp only [Bool.and_eq_true] at hv; exact hv.1
 simp [kW,hv]
 refine X7 rfl rfl rfl ?_
 have one:= Ej W T cs hb
 rw [if_pos hr] at one
 simp [Ng]
 (repeat' first | assumption | omega | apply And.intro) <;>
 ·refine AA one ?_
  simp
theorem Wa (W T:Int) (cs:List Bool) (ls:List Int) (c:Int) (hr:Am W T cs = true) (hy:AR W T cs ls = true):
  SoundAt Tryz.prog Hs [.agg [.v (.int .i64 W),.v (.int .i64 T),.sl 1 1 (AC cs)],.sl 1 1 (AB ls),.v (.int .i64 c)]
   (.tup [.os 1 (AB (Uu W T cs ls c)),.v (.bool (NY W T cs ls c))]) [.bot,.bot,.bot]:= by
 have hl:= AY hy
 have h36:= Ab hr
 by_cases hin:0 ≤ c ∧ c < ls.length
 ·have:= Xb W T cs ls c.toNat hr hy (by omega)
  rw [show ((c.toNat:Nat):Int) = c by omega] at this
  by_cases hz:ati ls c = 0
  ·have e:D6 ls c = false:= by simp [D6,hz]
   rw [if_pos hz] at this
   simpa [Uu,NY,hr,hy,e] using this
  ·have e:D6 ls c = true:= by simp [D6,hz,hin]
   rw [if_neg hz] at this
   simpa [Uu,NY,hr,hy,e] using this
 ·have e:D6 ls c = false:= by simp [D6]; omega
  refine AG (md:= md5) (ms:= [false,false,false]) P3 (by simp) ?_
  simp [Lb,Uu,NY,hr,hy,e]
  refine AA (Bl W T cs ls (by omega) (by omega)) ?_
  simp [hr,hy]
  refine ⟨by omega,by omega,?_⟩
  refine AA (Ex (x:= c) (lo:= 0) (hi:= (ls.length:Int) - 1) (by omega)) ?_
  simp
def Hi (W T:Int) (cs:List Bool) (ds ls:List Int) (kind spot way:Int):List Int:=
 if kind = 0 then Au W T cs ls spot way else if kind = 1 then (if D6 ls spot = true then KU W T ls spot else ls) else if kind = 2 then Ik W T ls spot else if kind = 3 then BN W T cs ds ls else []
def Q1 (W T:Int) (cs:List Bool) (ds ls:List Int) (kind spot way:Int):Bool:=
 if kind = 0 then Av W T cs ls spot way else if kind = 1 then D6 ls spot else if kind = 2 then Gz W T ls spot else if kind = 3 then decide (BN W T cs ds ls ≠ ls) else false
def doI (W T:Int) (cs:List Bool) (ds ls:List Int) (ps:List (List Int)) (kind spot way:Int):Bool × List Int × List (List Int):=
 Jk (Ti (kind,spot,way)) kind ls ps (Hi W T cs ds ls kind spot way) (Q1 W T cs ds ls kind spot way && Ad W T cs ds (Hi W T cs ds ls kind spot way))
theorem Nh (W T:Int) (cs:List Bool) (ds ls:List Int):(BN W T cs ds ls).length = ls.length:= by unfold BN; rw [NC]
theorem UR (W T:Int) (cs:List Bool) (ds ls:List Int) (kind spot way:Int):(Hi W T cs ds ls kind spot way).length ≤ ls.length:= by
 unfold Hi
 split
 ·rw [Lc]; exact Nat.le_refl _
 split
 ·split
  ·rw [IP]; exact Nat.le_refl _
  ·exact Nat.le_refl _
 split
 ·rw [aq]; exact Nat.le_refl _
 split
 ·rw [Nh]; exact Nat.le_refl _
 ·simp
theorem AW {W T:Int} {cs:List Bool} {ds ls:List Int} {ps:List (List Int)} (h:Aj W T cs ds ls ps = true):
  Ad W T cs ds ls = true ∧ ps.length ≤ 20 ∧ ∀ p ∈ ps,Ad W T cs ds p = true:= by
 simp only [Aj,XK,Bool.and_eq_true,decide_eq_true_eq,CN] at h
 refine ⟨h.1.1,h.1.2,fun p hp => ?_⟩
 obtain ⟨i,hi,rfl⟩:= List.mem_iff_getElem.1 hp
 have:= h.2 i hi
 rwa [Ih hi] at this
theorem cX {W T:Int} {cs:List Bool} {ds ls:List Int} {ps:List (List Int)} (h1:Ad W T cs ds ls = true) (h2:ps.length ≤ 20) (h3:∀ p ∈ ps,Ad W T cs ds p = true):Aj W T cs ds ls ps = true:= by
 simp only [Aj,XK,Bool.and_eq_true,decide_eq_true_eq,CN]
 refine ⟨⟨h1,h2⟩,fun i hi => ?_⟩
 rw [Ih hi]
 exact h3 _ (List.getElem_mem hi)
theorem CU {W T:Int} {cs:List Bool} {ds ls:List Int} (h:Ad W T cs ds ls = true):cs.length ≤ 36 ∧ ds.length = cs.length ∧ ls.length = cs.length:= by
 obtain ⟨hr,hd,hy,_⟩:= AM h
 have hd2:= hd
 simp only [B4,Bool.and_eq_true,decide_eq_true_eq] at hd2
 exact ⟨Ab hr,hd2.1,AY hy⟩
theorem PU {k s w:Int} (h:Ti (k,s,w) = true):k = 0 ∨ k = 1 ∨ k = 2 ∨ k = 3 ∨ k = 4:= by
 unfold Ti at h
 simp only at h
 split at h
 ·omega
 split at h
 ·omega
 split at h
 ·omega
 ·cases h
theorem fM {ls q:List Int} {qs:List (List Int)} {n:List Int} {b:Bool}:Jk true 4 ls (qs ++ [q]) n b = (true,q,qs):= by simp [Jk]
theorem fO {ls:List Int} {n:List Int} {b:Bool}:Jk true 4 ls [] n b = (false,ls,[]):= by simp [Jk]
theorem M1 (W T:Int) (cs:List Bool) (ds ls:List Int) (ps:List (List Int)) (kind spot way:Int)
  (hc:cs.length ≤ 40) (hd:ds.length ≤ 40) (hl:ls.length ≤ 40) (hps:ps.length ≤ 40) (hp:∀ p ∈ ps,p.length ≤ 40):
  SoundAt Tryz.prog Gh [bkA W T cs ds ls ps,Nx kind spot way]
   (.tup [if Aj W T cs ds ls ps = true then bkO W T cs ds (doI W T cs ds ls ps kind spot way).2.1 (doI W T cs ds ls ps kind spot way).2.2 else bkO 0 0 [] [] [] [],.v (.bool (Aj W T cs ds ls ps && (doI W T cs ds ls ps kind spot way).1))]) [.bot,.bot]:= by
 have hv:= BK W T cs ds ls ps (by omega) (by omega) (by omega) (by omega) (fun p h => by have:= hp p h; omega)
 cases ok:Aj W T cs ds ls ps with
 | false =>
   rw [ok] at hv
   refine AG (md:= md5) (ms:= [false,false]) SY (by simp) ?_
   simp [JG]
   refine AA hv ?_
   simp
 | true =>
 rw [ok] at hv
 obtain ⟨hf,h20,hpf⟩:= AW ok
 obtain ⟨hr,hdg,hy,ho⟩:= AM hf
 obtain ⟨l36,ld,ll⟩:= CU hf
 have hnl:= UR W T cs ds ls kind spot way
 have hnew:= Lf W T cs ds (by omega) (by omega)
 have enew:kW W T cs ds = bkO W T cs ds (Ac cs) []:= by simp [kW,hr,hdg]
 rw [enew] at hnew
 have hcopy:= QC QD W T cs ds ls (Ac cs) ps hc hd hl (by omega) hp (by simp [Ac]; omega) hnew
 have hnamed:= WZ (kind,spot,way)
 refine SoundSet.at (SoundSet.mono ?_ (XT SY W T cs ds ls ps kind spot way hc hd hl h20 hp true (Ti (kind,spot,way)) (Hi W T cs ds ls kind spot way) (Q1 W T cs ds ls kind spot way)
  (if Am W T cs && AR W T cs (Hi W T cs ds ls kind spot way) then (KT (Hi W T cs ds ls kind spot way):Int) else -1) (if Am W T cs && AR W T cs ls then (KT ls:Int) else -1) hv (fun _ => hcopy) hnamed
  ?_ ?_ ?_ ?_ (Jq W T cs _ (by omega) (by omega)) (Jq W T cs ls (by omega) (by omega)) ?_ (by omega)
  (fun r ups => r = .tup [bkO W T cs ds (doI W T cs ds ls ps kind spot way).2.1 (doI W T cs ds ls ps kind spot way).2.2,.v (.bool (doI W T cs ds ls ps kind spot way).1)] ∧ ups = [.bot,.bot]) ?_ ?_ ?_ ?_ ?_ ?_))
 ·rintro r ups ⟨rfl,rfl⟩
  exact ⟨by simp,rfl⟩
 ·rintro _ rfl
  have:= C2 W T cs ls spot way hr hy
  simpa [Hi,Q1] using this
 ·rintro _ rfl
  have:= Wa W T cs ls spot hr hy
  simpa [Hi,Q1,Uu,NY,hr,hy] using this
 ·rintro _ rfl
  have:= XZ W T cs ls spot (by omega) (by omega)
  simpa [Hi,Q1,nj,lv,hr,hy] using this
 ·rintro _ rfl
  have:= V8 W T cs ds ls (by omega) (by omega) (by omega)
  simpa [Hi,Q1,R6,hf] using this
 ·rintro _ rfl
  have h1:= ZU hf
  have h2:= (Px hf).1
  obtain ⟨_,_,hy2,_⟩:= AM h2
  simp only [Q1,Hi]
  simp [hr,hy,hy2]
  by_cases hq:BN W T cs ds ls = ls
  ·have:¬ KT ls < KT (BN W T cs ds ls):= fun h => h1.1 h hq
   simp [hq]
  ·simp [hq,h1.2 hq]
 ·intro h; cases h
 ·intro _ hn
  have e:doI W T cs ds ls ps kind spot way = (false,ls,ps):= by simp [doI,Jk,hn]
  rw [e]; exact ⟨rfl,rfl⟩
 ·intro _ hn hk he
  have hk4:kind = 4:= by have:= PU hn; omega
  subst hk4 he
  have e:doI W T cs ds ls [] 4 spot way = (false,ls,[]):= by unfold doI; rw [hn,fO]
  rw [e]; exact ⟨rfl,rfl⟩
 ·intro _ hn hk q qs he
  have hk4:kind = 4:= by have:= PU hn; omega
  subst hk4 he
  have e:doI W T cs ds ls (qs ++ [q]) 4 spot way = (true,q,qs):= by unfold doI; rw [hn,fM]
  rw [e]; exact ⟨rfl,rfl⟩
 ·intro _ hn hk hb
  have e:doI W T cs ds ls ps kind spot way = (false,ls,ps):= by unfold doI; rw [hb]; simp [Jk]; omega
  rw [e]; exact ⟨rfl,rfl⟩
 ·intro _ hn hk hb
  have e:doI W T cs ds ls ps kind spot way = (true,Hi W T cs ds ls kind spot way,FY ls ps):= by unfold doI; rw [hb,hn]; simp [Jk]; omega
  rw [e]; exact ⟨rfl,rfl⟩
end Go.Proofs.Dev
