/- Contracts of the functions of the program over slots and rows, each proved against the program itself; no condition beyond those that each theorem names. -/
import Derived.Test.YtfkmfobbgoflgaaGreatDoorAK
import Derived.Test.YtfkmfobbgoflgaaGreatDoorAN
import Derived.Test.YtfkmfobbgoflgaaGreatDoorProg
import Derived.Test.YtfkmfobbgoflgaaGreatDoorAH
set_option linter.unusedSimpArgs false
set_option linter.unusedVariables false
set_option maxRecDepth 100000
namespace Go.Proofs.Dev
@[simp] def md3 (f:Nat):List Bool:= if f = 999999 then [true,false] else if f = Aw then [true] else md0 f
def BG (d:Int × Int × Int):AV:= .agg [.v (.int .i64 d.1),.v (.int .i64 d.2.1),.v (.int .i64 d.2.2)]
def dsA (xs:List (Int × Int × Int)):List AV:= xs.map BG
@[simp] theorem ot (xs:List (Int × Int × Int)):(dsA xs).length = xs.length:= by simp [dsA]
@[simp] theorem sL:dsA [] = []:= rfl
theorem PR (a b:List (Int × Int × Int)):dsA (a ++ b) = dsA a ++ dsA b:= by simp [dsA]
theorem nU {xs:List (Int × Int × Int)} {i:Nat} (h:i < xs.length):(dsA xs)[i]? = some (BG xs[i]):= by simp [dsA,h]
@[simp] theorem rW {xs:List (Int × Int × Int)} {i:Nat} (h:i < (dsA xs).length):(dsA xs)[i] = BG (xs[i]'(by simpa using h)):= by simp [dsA]
theorem dZ {xs:List (Int × Int × Int)} {i:Nat} (h:i < xs.length):(dsA xs)[i]? = some (.agg [.v (.int .i64 xs[i].1),.v (.int .i64 xs[i].2.1),.v (.int .i64 xs[i].2.2)]):= nU h
theorem SB (xs:List (Int × Int × Int)):SoundAt Tryz.prog Aw [.os 3 (dsA xs)] (.os 3 (dsA xs)) [.bot]:= by
 refine AG (md:= md3) (ms:= [false]) GU (by simp) ?_
 simp [C3]
 exact List.take_of_length_le (by simp)
theorem G9 (w:Int):SoundAt Tryz.prog Ae [.v (.int .i64 w)] (.v (.bool (decide (w = 1 ∨ w = 2)))) [.bot]:= by
 refine AG (md:= md3) (ms:= [false]) Ny (by simp) ?_
 by_cases h1:w = 1 <;> by_cases h2:w = 2 <;> simp [G8,h1,h2]
abbrev jU:= Int × Int × Int
def L8 (f:List Int → List (List Int) → jU → Bool × List Int × List (List Int)):List Int → List (List Int) → List jU → List Int × List (List Int) × Nat
 | ls,ps,[] => (ls,ps,0)
 | ls,ps,d::xs => let r:= f ls ps d; let q:= L8 f r.2.1 r.2.2 xs; (q.1,q.2.1,q.2.2 + if r.1 then 1 else 0)
theorem Qp (f:List Int → List (List Int) → jU → Bool × List Int × List (List Int)):∀ (xs:List jU) (ls:List Int) (ps:List (List Int)) (d:jU),
  L8 f ls ps (xs ++ [d]) = (let q:= L8 f ls ps xs; let r:= f q.1 q.2.1 d; (r.2.1,r.2.2,q.2.2 + if r.1 then 1 else 0))
 | [],ls,ps,d => by simp only [List.nil_append,L8,Nat.zero_add]; rfl
 | x::xs,ls,ps,d => by
   rw [List.cons_append,L8,L8]
   simp only [Qp f xs]
   simp only [Nat.add_right_comm]
def XK (W T:Int) (cs:List Bool) (ds:List Int) (ps:List (List Int)):Bool:= XB ps.length (fun k => Ad W T cs ds (pti ps k))
def Aj (W T:Int) (cs:List Bool) (ds ls:List Int) (ps:List (List Int)):Bool:= (Ad W T cs ds ls && decide (ps.length ≤ 20)) && XK W T cs ds ps
theorem BK (W T:Int) (cs:List Bool) (ds ls:List Int) (ps:List (List Int)) (hc:cs.length < 2 ^ 40) (hd:ds.length < 2 ^ 40) (hl:ls.length < 2 ^ 40) (hb:ps.length < 2 ^ 40) (hp:∀ p ∈ ps,p.length < 2 ^ 40):
  SoundAt Tryz.prog Fi [bkA W T cs ds ls ps] (.v (.bool (Aj W T cs ds ls ps))) [.bot]:= by
 refine AG (md:= md0) (ms:= [false]) Ue (by simp) ?_
 simp [ND]
 refine AF (fun m E H => ∃ i:Nat,m = ps.length - i ∧ i ≤ ps.length ∧ XB i (fun k => Ad W T cs ds (pti ps k)) = true ∧ H = [some (.box [.v (.int .i64 W),.v (.int .i64 T),.sl 1 1 (AC cs),.sl 1 1 (AB ds),.sl 1 1 (AB ls),.sl 1 1 (sls 1 ps)])] ∧ E = [(1,.lp 0 0 0 0),(3,.v (.int .i64 i))]) ps.length ⟨0,by simp [Hz]⟩ ?_
 rintro J hJ m E H ⟨i,rfl,hi,ha,rfl,rfl⟩
 by_cases h:i < ps.length
 case neg =>
  have:i = ps.length:= by omega
  subst this
  simp [Fo]
  refine AA (Bm W T cs ds ls hc hd hl) ?_
  simp [Aj,XK,ha]
  cases Ad W T cs ds ls <;> simp
  omega
 have one:= Bm W T cs ds (pti ps i) hc hd (hp _ (V9 h))
 have hno:Ad W T cs ds (pti ps i) = false → Aj W T cs ds ls ps = false:= by
  intro hf
  have:XK W T cs ds ps = false:= HS h hf
  simp [Aj,this]
 simp [Fo,h]
 (repeat' first | assumption | omega | apply And.intro) <;>
 ·refine AA one ?_
  cases hf:Ad W T cs ds (pti ps i) with
  | false => simp [hno hf]
  | true =>
    simp
    exact ⟨by omega,_,by omega,hJ _ _ _ ⟨i + 1,rfl,h,by rw [H3,ha,hf]; rfl,rfl,rfl⟩⟩
theorem SD (W T:Int) (cs:List Bool) (ds ls:List Int) (ps:List (List Int)) (p:List Int) (hc:cs.length < 2 ^ 40) (hd:ds.length < 2 ^ 40) (hp:p.length < 2 ^ 40):
  SoundAt Tryz.prog K3 [.sl 1 1 (AB p),.vp 1 [.v (.int .i64 W),.v (.int .i64 T),.sl 1 1 (AC cs),.sl 1 1 (AB ds),.sl 1 1 (AB ls),.sl 1 1 (sls 1 ps)] 0] (.v (.bool (!Ad W T cs ds p))) [.bot,.bot]:= by
 refine AG (md:= md0) (ms:= [false,false]) R7 (by simp) ?_
 simp [K4]
 refine AA (JC W T cs ds p hc hd hp) ?_
 simp
@[simp] def bkP (W T:Int) (cs:List Bool) (ds ls:List Int) (ps:List (List Int)):AV:= .vp 1 [.v (.int .i64 W),.v (.int .i64 T),.sl 1 1 (AC cs),.sl 1 1 (AB ds),.sl 1 1 (AB ls),.sl 1 1 (sls 1 ps)] 0
def TQ (W T:Int) (cs:List Bool) (ds:List Int) (ps:List (List Int)):Int:= Eg (fun k => !Ad W T cs ds (pti ps k)) ps.length
theorem SE (W T:Int) (cs:List Bool) (ds ls:List Int) (ps qs:List (List Int)) (hc:cs.length < 2 ^ 40) (hd:ds.length < 2 ^ 40) (hb:ps.length < 2 ^ 40) (hp:∀ p ∈ ps,p.length < 2 ^ 40):
  SoundAt Tryz.prog FD [.sl 1 1 (sls 1 ps),.fn 100 [bkP W T cs ds ls qs]] (.v (.int .i64 (TQ W T cs ds ps))) [.bot,.bot]:= by
 refine AG (md:= md0) (ms:= [false,false]) KS (by simp) ?_
 simp [FE]
 refine AF (fun m E H => ∃ i:Nat,m = ps.length - i ∧ i ≤ ps.length ∧ (∀ k:Nat,k < i → (!Ad W T cs ds (pti ps k)) = false) ∧ H = [] ∧ E = [(0,.sl 1 1 (sls 1 ps)),(1,.fn 100 [bkP W T cs ds ls qs]),(7,.v (.int .i64 ps.length)),(8,.v (.int .i64 i))]) ps.length ⟨0,by simp⟩ ?_
 rintro J hJ m E H ⟨i,rfl,hi,ha,rfl,rfl⟩
 by_cases h:i < ps.length
 case neg =>
  have:i = ps.length:= by omega
  subst this
  have e:TQ W T cs ds ps = -1:= CC ha
  simp [CD,e]
 have one:= SD W T cs ds ls qs (pti ps i) hc hd (hp _ (V9 h))
 simp [CD,h]
 refine ⟨by kernel_rfl,?_⟩
 refine AA one ?_
 cases hf:Ad W T cs ds (pti ps i) with
 | false =>
   have e:TQ W T cs ds ps = i:= CX h (by simp [hf]) ha
   simp [e]
 | true =>
   simp
   refine ⟨by omega,_,by omega,hJ _ _ _ ⟨i + 1,rfl,h,?_,rfl,rfl⟩⟩
   intro k hk
   rcases Nat.lt_or_ge k i with h1 | h1
   ·exact ha k h1
   ·have:k = i:= by omega
    subst this; simp [hf]
theorem Oa (W T:Int) (cs:List Bool) (ds ls:List Int) (ps qs:List (List Int)) (hc:cs.length < 2 ^ 40) (hd:ds.length < 2 ^ 40) (hb:ps.length < 2 ^ 40) (hp:∀ p ∈ ps,p.length < 2 ^ 40):
  SoundAt Tryz.prog Dx [.sl 1 1 (sls 1 ps),.fn 100 [bkP W T cs ds ls qs]] (.v (.bool (!XK W T cs ds ps))) [.bot,.bot]:= by
 refine AG (md:= md0) (ms:= [false,false]) Ig (by simp) ?_
 simp [Dy]
 refine AA (SE W T cs ds ls ps qs hc hd hb hp) ?_
 have e:decide (0 ≤ TQ W T cs ds ps) = !XK W T cs ds ps:= by
  cases hpb:XK W T cs ds ps with
  | true =>
    have h2:TQ W T cs ds ps = -1:= CC fun k hk => by
     have:= (CN _ _).1 hpb k hk
     simp [this]
    rw [h2]; rfl
  | false =>
    rcases OW (fun k => !Ad W T cs ds (pti ps k)) ps.length with h2 | ⟨k,hk,hx,h2⟩
    ·exfalso
     have:XK W T cs ds ps = true:= by
      rw [XK,CN]
      intro k hk
      cases hx:Ad W T cs ds (pti ps k) with
      | true => rfl
      | false =>
        exfalso
        have hm:∃ x ∈ List.range ps.length,(!Ad W T cs ds (pti ps x)) = true:= ⟨k,by simpa using hk,by simp [hx]⟩
        have hs:= List.find?_isSome.2 hm
        unfold Eg at h2
        split at h2
        ·omega
        ·rename_i h9; rw [h9] at hs; cases hs
     rw [this] at hpb; cases hpb
    ·have h3:TQ W T cs ds ps = k:= h2
     rw [h3]; simp
 simp [e]
theorem Fj (W T:Int) (cs:List Bool) (ds ls:List Int) (ps:List (List Int)) (hc:cs.length < 2 ^ 40) (hd:ds.length < 2 ^ 40) (hl:ls.length < 2 ^ 40) (hb:ps.length < 2 ^ 40) (hp:∀ p ∈ ps,p.length < 2 ^ 40):
  SoundAt Tryz.prog NE [bkA W T cs ds ls ps] (.v (.bool (Aj W T cs ds ls ps))) [.bot]:= by
 refine AG (md:= md0) (ms:= [false]) Uf (by simp) ?_
 simp [NF]
 refine AA (JC W T cs ds ls hc hd hl) ?_
 cases hf:Ad W T cs ds ls with
 | false => simp [Aj,hf]
 | true =>
 by_cases h20:ps.length ≤ 20
 case neg =>
  have h20':¬ (ps.length:Int) ≤ 20:= by omega
  simp [Aj,hf,h20,h20']
 have h20':(ps.length:Int) ≤ 20:= by omega
 simp [h20']
 refine AA (Oa W T cs ds ls ps ps hc hd hb hp) ?_
 simp [Aj,hf,h20]
theorem L9 {W T:Int} {cs:List Bool} {ds ls:List Int} {ps:List (List Int)} (h:Aj W T cs ds ls ps = true):Ad W T cs ds ls = true:= by
 simp only [Aj,Bool.and_eq_true] at h; exact h.1.1
def WC (W T:Int) (cs:List Bool) (ds ls:List Int) (ps:List (List Int)):Bool:= Aj W T cs ds ls ps && H9 cs ls
theorem TR (W T:Int) (cs:List Bool) (ds ls:List Int) (ps:List (List Int)) (hc:cs.length < 2 ^ 40) (hd:ds.length < 2 ^ 40) (hl:ls.length < 2 ^ 40) (hb:ps.length < 2 ^ 40) (hp:∀ p ∈ ps,p.length < 2 ^ 40):
  SoundAt Tryz.prog L0 [bkA W T cs ds ls ps] (.v (.bool (WC W T cs ds ls ps))) [.bot]:= by
 refine AG (md:= md0) (ms:= [false]) TM (by simp) ?_
 simp [L1]
 refine AA (BK W T cs ds ls ps hc hd hl hb hp) ?_
 cases hv:Aj W T cs ds ls ps with
 | false => simp [WC,hv]
 | true =>
 simp
 refine AA (OQ W T cs ds ls hc hd hl) ?_
 simp [WC,hv,CB,L9 hv]
theorem TS (W T:Int) (cs:List Bool) (ds ls:List Int) (ps:List (List Int)) (hc:cs.length < 2 ^ 40) (hd:ds.length < 2 ^ 40) (hl:ls.length < 2 ^ 40) (hb:ps.length < 2 ^ 40) (hp:∀ p ∈ ps,p.length < 2 ^ 40):
  SoundAt Tryz.prog HY [bkA W T cs ds ls ps] (.v (.bool (WC W T cs ds ls ps))) [.bot]:= by
 refine AG (md:= md0) (ms:= [false]) TN (by simp) ?_
 simp [L2]
 refine AA (Fj W T cs ds ls ps hc hd hl hb hp) ?_
 cases hv:Aj W T cs ds ls ps with
 | false => simp [WC,hv]
 | true =>
 simp
 refine AA (Ku W T cs ls hc (Nt (C1 (L9 hv))).2.2.1) ?_
 simp [WC,hv]
@[simp] abbrev NH:Nat:= 147
def NI:ACode:= .seq (.reg [.o 1 .box [.t 0],.o 2 .mv [.k 0]]) <| .seq (.seq (.reg [.la 3 3 1,.o 4 (.call 168 []) [.t 3],.o 5 (.un .not) [.t 4]]) <| .cond (.t 5) ( .seq (.reg [.o 2 .mv [.k (-1)]]) <| .ret) ( .skip)) <| .seq (.reg [.f 6 2 1,.l 7 6,.o 8 (.call 203 []) [.t 7],.m 2 8]) <| .ret
theorem Uh:cFn Tryz.prog NH 9 [.t 2] NI:= ⟨Tryz.f147,_,Tryz.func147,rfl,by kernel_rfl,by kernel_rfl,by kernel_rfl,by kernel_rfl⟩
@[simp] abbrev Ob:Nat:= 144
def C5:ACode:= .seq (.seq (.reg [.m 11 6,.m 12 1,.n 13 12,.o 14 (.bin .lss 0) [.t 11,.t 13]]) <| .cond (.t 14) ( .skip) ( .exit 0)) <| .seq (.block 1 ( .seq (.reg [.m 17 1,.m 18 6,.o 19 (.iadr 1) [.t 17,.t 18],.l 20 19,.o 21 (.bin .eql 0) [.t 20,.k 1],.m 22 21,.mg 23 1 22 false,.mg 24 6 22 false,.g 25 (.iadr 1) [.t 23,.t 24] 22 false,.lg 26 25 22 false,.g 27 (.bin .eql 0) [.t 26,.k 2] 22 false,.o 28 .pick [.t 22,.kb true,.t 27]]) <| .cond (.t 28) ( .reg [.m 29 5,.o 30 (.bin .add 0) [.t 29,.k 1],.m 5 30]) ( .skip))) <| .reg [.m 15 6,.o 16 (.bin .add 0) [.t 15,.k 1],.m 6 16]
def Oc:ACode:= .seq (.reg [.o 2 .box [.t 0],.o 4 .mv [.k 0]]) <| .seq (.seq (.reg [.la 7 3 2,.m 8 1,.o 9 (.call 122 []) [.t 7,.t 8],.o 10 (.un .not) [.t 9]]) <| .cond (.t 10) ( .seq (.reg [.o 4 .mv [.k (-1)]]) <| .ret) ( .skip)) <| .seq (.reg [.o 5 .mv [.k 0]]) <| .seq (.seq (.reg [.o 6 .mv [.k 0]]) <| .block 0 ( .loop [(1,1)] [1,5,6] C5)) <| .seq (.reg [.m 31 5,.m 4 31]) <| .ret
theorem WD:cFn Tryz.prog Ob 32 [.t 4] Oc:= ⟨Tryz.f144,_,Tryz.func144,rfl,by kernel_rfl,by kernel_rfl,by kernel_rfl,by kernel_rfl⟩
@[simp] abbrev WE:Nat:= 183
def LX:ACode:= .seq (.reg [.o 11 (.bin .lss 0) [.t 10,.t 9]]) <| .seq (.cond (.t 11) ( .skip) ( .exit 0)) <| .seq (.block 1 ( .seq (.reg [.o 12 (.iadr 1) [.t 8,.t 10],.l 13 12,.m 7 13]) <| .seq (.reg [.m 14 1,.m 15 7,.o 16 (.call 227 []) [.t 14,.t 15]]) <| .cond (.t 16) ( .reg [.m 17 5,.o 18 (.bin .add 0) [.t 17,.k 1],.m 5 18]) ( .skip))) <| .reg [.o 19 (.bin .add 0) [.t 10,.k 1],.m 10 19]
def WF:ACode:= .seq (.reg [.o 4 .mv [.k 0]]) <| .seq (.reg [.o 5 .mv [.k 0]]) <| .seq (.seq (.reg [.m 8 0,.n 9 8,.o 10 .mv [.k 0]]) <| .block 0 ( .loop [(1,1),(8,1)] [1,5,8,9,10] LX)) <| .seq (.reg [.m 20 5,.m 4 20]) <| .ret
theorem cF:cFn Tryz.prog WE 21 [.t 4] WF:= ⟨Tryz.f183,_,Tryz.func183,rfl,by kernel_rfl,by kernel_rfl,by kernel_rfl,by kernel_rfl⟩
@[simp] abbrev FZ:Nat:= 227
def Fa:ACode:= .seq (.reg [.o 4 .mv [.kb false]]) <| .seq (.reg [.m 5 0,.m 6 1,.o 7 (.call 258 []) [.t 5,.t 6],.o 8 (.bin .geq 0) [.t 7,.k 0],.m 4 8]) <| .ret
theorem LY:cFn Tryz.prog FZ 9 [.t 4] Fa:= ⟨Tryz.f227,_,Tryz.func227,rfl,by kernel_rfl,by kernel_rfl,by kernel_rfl,by kernel_rfl⟩
@[simp] abbrev HA:Nat:= 258
def Bo:ACode:= .seq (.reg [.o 9 (.bin .lss 0) [.t 8,.t 7]]) <| .seq (.cond (.t 9) ( .skip) ( .exit 0)) <| .seq (.block 1 ( .seq (.reg [.m 10 8,.m 5 10]) <| .seq (.reg [.m 11 1,.m 12 0,.m 13 5,.o 14 (.iadr 1) [.t 12,.t 13],.l 15 14,.o 16 (.bin .eql 0) [.t 11,.t 15]]) <| .cond (.t 16) ( .seq (.reg [.m 17 5,.m 4 17]) <| .ret) ( .skip))) <| .reg [.o 18 (.bin .add 0) [.t 8,.k 1],.m 8 18]
def HB:ACode:= .seq (.reg [.o 4 .mv [.k 0]]) <| .seq (.seq (.reg [.m 6 0,.n 7 6,.o 8 .mv [.k 0]]) <| .block 0 ( .loop [(0,1)] [0,1,7,8] Bo)) <| .seq (.reg [.o 4 .mv [.k (-1)]]) <| .ret
theorem Nz:cFn Tryz.prog HA 19 [.t 4] HB:= ⟨Tryz.f258,_,Tryz.func258,rfl,by kernel_rfl,by kernel_rfl,by kernel_rfl,by kernel_rfl⟩
@[simp] abbrev NJ:Nat:= 130
abbrev Cc:Plan:= .al (.o 14 (.call 183 []) [.t 12,.t 13]) ( .take (.o 15 (.bin .mul 0) [.k 2,.t 14]) <| .take (.o 16 (.bin .sub 0) [.t 8,.t 15]) <| .take (.m 2 16) <| .done)
abbrev Df:Plan:= .al (.o 8 (.call 109 []) [.t 7]) Cc
abbrev Jm:Plan:= .alt (.o 8 (.call 109 []) [.t 7]) ( .al (.o 13 (.bsl 1) [.k 1,.k 2]) Cc) <| .al (.o 13 (.bsl 1) [.k 1,.k 2]) Df
abbrev Jn:Plan:= .alt (.o 8 (.call 109 []) [.t 7]) ( .al (.l 12 11) Cc) <| .al (.l 12 11) Df
def NK:ACode:= .seq (.reg [.o 2 .mv [.k 0]]) <| .seq (.draw ( .take (.m 3 0) <| .take (.o 4 .nilck [.t 3]) <| .take (.f 5 0 4) <| .take (.f 6 2 5) <| .take (.m 9 0) <| .take (.o 10 .nilck [.t 9]) <| .take (.f 11 4 10) <| .alt (.l 7 6) ( .alt (.o 8 (.call 109 []) [.t 7]) ( .alt (.l 12 11) ( .al (.o 13 (.bsl 1) [.k 1,.k 2]) Cc) <| .al (.o 13 (.bsl 1) [.k 1,.k 2]) ( .al (.l 12 11) Cc)) <| .alt (.l 12 11) Jm <| .al (.o 13 (.bsl 1) [.k 1,.k 2]) Jn) <| .alt (.l 12 11) ( .alt (.l 7 6) Jm <| .al (.o 13 (.bsl 1) [.k 1,.k 2]) ( .al (.l 7 6) Df)) <| .al (.o 13 (.bsl 1) [.k 1,.k 2]) ( .alt (.l 7 6) Jn <| .al (.l 12 11) ( .al (.l 7 6) Df)))) <| .ret
theorem Ui:cFn Tryz.prog NJ 17 [.t 2] NK:= ⟨Tryz.f130,_,Tryz.func130,rfl,by kernel_rfl,by kernel_rfl,by kernel_rfl,by kernel_rfl⟩
@[simp] abbrev NL:Nat:= 79
abbrev Cd:Plan:= .al (.o 13 (.call 144 []) [.t 10,.t 12]) ( .take (.o 14 (.bin .mul 0) [.k 2,.t 13]) <| .take (.o 15 (.bin .sub 0) [.t 8,.t 14]) <| .take (.m 2 15) <| .done)
abbrev Dg:Plan:= .al (.o 8 (.call 147 []) [.t 7]) Cd
abbrev Jo:Plan:= .alt (.o 8 (.call 147 []) [.t 7]) ( .al (.la 10 3 9) Cd) <| .al (.la 10 3 9) Dg
abbrev Jp:Plan:= .alt (.o 8 (.call 147 []) [.t 7]) ( .al (.l 12 11) Cd) <| .al (.l 12 11) Dg
def NM:ACode:= .seq (.reg [.o 1 .box [.t 0],.o 2 .mv [.k 0]]) <| .seq (.seq (.reg [.la 3 6 1,.o 4 (.call 18 []) [.t 3],.o 5 (.un .not) [.t 4]]) <| .cond (.t 5) ( .seq (.reg [.o 2 .mv [.k (-1)]]) <| .ret) ( .skip)) <| .seq (.draw ( .take (.f 6 0 1) <| .take (.f 9 0 1) <| .take (.f 11 4 1) <| .alt (.la 7 3 6) ( .alt (.o 8 (.call 147 []) [.t 7]) ( .alt (.la 10 3 9) ( .al (.l 12 11) Cd) <| .al (.l 12 11) ( .al (.la 10 3 9) Cd)) <| .alt (.la 10 3 9) Jp <| .al (.l 12 11) Jo) <| .alt (.la 10 3 9) ( .alt (.la 7 3 6) Jp <| .al (.l 12 11) ( .al (.la 7 3 6) Dg)) <| .al (.l 12 11) ( .alt (.la 7 3 6) Jo <| .al (.la 10 3 9) ( .al (.la 7 3 6) Dg)))) <| .ret
theorem Uj:cFn Tryz.prog NL 16 [.t 2] NM:= ⟨Tryz.f79,_,Tryz.func79,rfl,by kernel_rfl,by kernel_rfl,by kernel_rfl,by kernel_rfl⟩
def N0 (x:Int):Bool:= decide (x = 1) || decide (x = 2)
def KT (ls:List Int):Nat:= ls.countP N0
theorem WG {ls:List Int} {i:Nat} (h:i < ls.length):KT (ls.take (i + 1)) = KT (ls.take i) + (if N0 (ati ls i) then 1 else 0):= by
 have e:ati ls i = ls[i]:= by simp [ati,h]
 rw [e,List.take_succ_eq_append_getElem h,KT,List.countP_append,List.countP_singleton]
 rfl
theorem ZA (ls:List Int):KT ls ≤ ls.length:= List.countP_le_length
theorem NN (W T:Int) (cs:List Bool) (hb:cs.length < 2 ^ 40):
  SoundAt Tryz.prog NH [.agg [.v (.int .i64 W),.v (.int .i64 T),.sl 1 1 (AC cs)]] (.v (.int .i64 (if Am W T cs then BM cs else -1))) [.bot]:= by
 refine AG (md:= md0) (ms:= [false]) Uh (by simp) ?_
 simp [NI]
 refine AA (Ao W T cs hb) ?_
 cases hr:Am W T cs with
 | false => simp
 | true =>
 simp
 refine AA (Pq cs hb) ?_
 simp
theorem Jq (W T:Int) (cs:List Bool) (ls:List Int) (hb:cs.length < 2 ^ 40) (hl:ls.length < 2 ^ 40):
  SoundAt Tryz.prog Ob [.agg [.v (.int .i64 W),.v (.int .i64 T),.sl 1 1 (AC cs)],.sl 1 1 (AB ls)] (.v (.int .i64 (if Am W T cs && AR W T cs ls then (KT ls:Int) else -1))) [.bot,.bot]:= by
 refine AG (md:= md0) (ms:= [false,false]) WD (by simp) ?_
 simp [Oc]
 refine AA (Bl W T cs ls hb hl) ?_
 cases hr:(Am W T cs && AR W T cs ls) with
 | false =>
   have:¬ (Am W T cs = true ∧ AR W T cs ls = true):= by simpa using hr
   simp [this]
 | true =>
 have:Am W T cs = true ∧ AR W T cs ls = true:= by simpa using hr
 simp [this]
 refine AF (fun m E H => ∃ i:Nat,m = ls.length - i ∧ i ≤ ls.length ∧ H = [] ∧ E = [(1,.sl 1 1 (AB ls)),(5,.v (.int .i64 (KT (ls.take i)))),(6,.v (.int .i64 i))]) ls.length ⟨0,by simp [KT]⟩ ?_
 rintro J hJ m E H ⟨i,rfl,hi,rfl,rfl⟩
 by_cases h:i < ls.length
 case neg =>
  have:i = ls.length:= by omega
  subst this
  simp [C5]
 have hs:= WG h
 have hle:KT (ls.take i) ≤ i:= by have:= ZA (ls.take i); simp at this; omega
 have next:∀ v:Int,v = KT (ls.take (i + 1)) → CL J (ls.length - i) [(1,.sl 1 1 (AB ls)),(5,.v (.int .i64 v)),(6,.v (.int .i64 (i + 1)))] []:= by
  rintro v rfl
  exact ⟨_,by omega,hJ _ _ _ ⟨i + 1,rfl,h,rfl,rfl⟩⟩
 by_cases e1:ati ls i = 1
 ·simp [N0,e1] at hs
  simp [C5,h,e1]
  exact ⟨by omega,by omega,next _ (by omega)⟩
 by_cases e2:ati ls i = 2
 ·simp [N0,e2] at hs
  simp [C5,h,e1,e2]
  exact ⟨by omega,by omega,next _ (by omega)⟩
 ·simp [N0,e1,e2] at hs
  simp [C5,h,e1,e2]
  exact ⟨by omega,next _ (by omega)⟩
theorem XL (xs:List Int) (x:Int) (hl:xs.length < 2 ^ 40):
  SoundAt Tryz.prog HA [.sl 1 1 (AB xs),.v (.int .i64 x)] (.v (.int .i64 (Eg (fun k => decide (x = ati xs k)) xs.length))) [.bot,.bot]:= by
 refine AG (md:= md0) (ms:= [false,false]) Nz (by simp) ?_
 simp [HB]
 refine AF (fun m E H => ∃ i:Nat,m = xs.length - i ∧ i ≤ xs.length ∧ (∀ k:Nat,k < i → decide (x = ati xs k) = false) ∧ H = [] ∧ E = [(0,.sl 1 1 (AB xs)),(1,.v (.int .i64 x)),(7,.v (.int .i64 xs.length)),(8,.v (.int .i64 i))]) xs.length ⟨0,by simp⟩ ?_
 rintro J hJ m E H ⟨i,rfl,hi,ha,rfl,rfl⟩
 by_cases h:i < xs.length
 case neg =>
  have:i = xs.length:= by omega
  subst this
  have e:Eg (fun k => decide (x = ati xs k)) xs.length = -1:= CC ha
  simp [Bo,e]
 by_cases hx:x = ati xs i
 ·have e:Eg (fun k => decide (x = ati xs k)) xs.length = i:= CX h (decide_eq_true hx) ha
  simp [Bo,h,e]
  exact fun n => absurd hx n
 ·simp [Bo,h,hx]
  refine ⟨by omega,_,by omega,hJ _ _ _ ⟨i + 1,rfl,h,?_,rfl,rfl⟩⟩
  intro k hk
  rcases Nat.lt_or_ge k i with h1 | h1
  ·exact ha k h1
  ·have:k = i:= by omega
   subst this; exact decide_eq_false hx
theorem Qq (x:Int):
  SoundAt Tryz.prog FZ [.sl 1 1 (AB [1,2]),.v (.int .i64 x)] (.v (.bool (N0 x))) [.bot,.bot]:= by
 refine AG (md:= md0) (ms:= [false,false]) LY (by simp) ?_
 simp [Fa]
 refine AA (XL [1,2] x (by simp)) ?_
 have e:decide (0 ≤ Eg (fun k:Nat => decide (x = ati [1,2] k)) 2) = N0 x:= by
  by_cases h1:x = 1
  ·rw [CX (k:= 0) (by omega) (by simp [h1,ati]) (by omega)]; simp [N0,h1]
  ·by_cases h2:x = 2
   ·have h0:∀ j:Nat,j < 1 → decide (x = ati [1,2] j) = false:= by
     intro j hj
     have:j = 0:= by omega
     subst this
     simp [ati,h1]
    rw [CX (k:= 1) (by omega) (by simp [h2,ati]) h0]
    simp [N0,h2]
   ·have h0:∀ j:Nat,j < 2 → decide (x = ati [1,2] j) = false:= by
     intro j hj
     have:j = 0 ∨ j = 1:= by omega
     rcases this with rfl | rfl <;> simp [ati,h1,h2]
    rw [CC h0]
    simp [N0,h1,h2]
 simp [e]
theorem ZB (ls:List Int) (hl:ls.length < 2 ^ 40):
  SoundAt Tryz.prog WE [.sl 1 1 (AB ls),.sl 1 1 (AB [1,2])] (.v (.int .i64 (KT ls))) [.bot,.bot]:= by
 refine AG (md:= md0) (ms:= [false,false]) cF (by simp) ?_
 simp [WF]
 refine AF (fun m E H => ∃ i:Nat,m = ls.length - i ∧ i ≤ ls.length ∧ H = [] ∧ E = [(1,.sl 1 1 (AB [1,2])),(5,.v (.int .i64 (KT (ls.take i)))),(8,.sl 1 1 (AB ls)),(9,.v (.int .i64 ls.length)),(10,.v (.int .i64 i))]) ls.length ⟨0,by simp [KT]⟩ ?_
 rintro J hJ m E H ⟨i,rfl,hi,rfl,rfl⟩
 by_cases h:i < ls.length
 case neg =>
  have:i = ls.length:= by omega
  subst this
  simp [LX]
 have hs:= WG h
 have hle:KT (ls.take i) ≤ i:= by have:= ZA (ls.take i); simp at this; omega
 have next:∀ v:Int,v = KT (ls.take (i + 1)) → CL J (ls.length - i) [(1,.sl 1 1 (AB [1,2])),(5,.v (.int .i64 v)),(8,.sl 1 1 (AB ls)),(9,.v (.int .i64 ls.length)),(10,.v (.int .i64 (i + 1)))] []:= by
  rintro v rfl
  exact ⟨_,by omega,hJ _ _ _ ⟨i + 1,rfl,h,rfl,rfl⟩⟩
 simp [LX,h]
 refine AA (Qq (ati ls i)) ?_
 cases hd:N0 (ati ls i) with
 | true =>
   simp [hd] at hs
   simp
   exact ⟨by omega,by omega,next _ (by omega)⟩
 | false =>
   simp [hd] at hs
   simp
   exact ⟨by omega,next _ (by omega)⟩
theorem Uk (W T:Int) (cs:List Bool) (ds ls:List Int) (ps:List (List Int)) (hc:cs.length < 2 ^ 40) (hl:ls.length < 2 ^ 40):
  SoundAt Tryz.prog NJ [bkP W T cs ds ls ps] (.v (.int .i64 (BM cs - 2 * KT ls))) [.bot]:= by
 refine AG (md:= md0) (ms:= [false]) Ui (by simp) ?_
 have h1:= JO cs
 have h2:= ZA ls
 have one:= Qi cs hc
 have two:= ZB ls hl
 have ei:AB [1,2] = [.v (.int .i64 1),.v (.int .i64 2)]:= rfl
 rw [ei] at two
 simp [NK,fV]
 (repeat' first | assumption | omega | apply And.intro)
 all_goals first
  | (refine AA one ?_; simp; (repeat' first | assumption | omega | apply And.intro) <;> (refine AA two ?_; simp; (repeat' first | assumption | omega | apply And.intro)))
  | (refine AA two ?_; simp; (repeat' first | assumption | omega | apply And.intro) <;> (refine AA one ?_; simp; (repeat' first | assumption | omega | apply And.intro)))
def gw (W T:Int) (cs:List Bool) (ds ls:List Int) (ps:List (List Int)):Int:= if Aj W T cs ds ls ps then BM cs - 2 * KT ls else -1
theorem Ul (W T:Int) (cs:List Bool) (ds ls:List Int) (ps:List (List Int)) (hc:cs.length < 2 ^ 40) (hd:ds.length < 2 ^ 40) (hl:ls.length < 2 ^ 40) (hb:ps.length < 2 ^ 40) (hp:∀ p ∈ ps,p.length < 2 ^ 40):
  SoundAt Tryz.prog NL [bkA W T cs ds ls ps] (.v (.int .i64 (gw W T cs ds ls ps))) [.bot]:= by
 refine AG (md:= md0) (ms:= [false]) Uj (by simp) ?_
 simp [NM]
 refine AA (BK W T cs ds ls ps hc hd hl hb hp) ?_
 cases hv:Aj W T cs ds ls ps with
 | false => simp [gw,hv]
 | true =>
 have h1:= JO cs
 have h2:= ZA ls
 have hok:= C1 (L9 hv)
 have hr:= (Nt hok).1
 have hly:AR W T cs ls = true:= by
  simp only [okB,Bool.and_eq_true] at hok; exact hok.2.2
 have one:= NN W T cs hc
 have two:= Jq W T cs ls hc hl
 rw [hr] at one
 rw [hr,hly] at two
 simp at one two
 have el:gw W T cs ds ls ps = BM cs - 2 * KT ls:= by simp [gw,hv]
 rw [el]
 simp
 (repeat' first | assumption | omega | apply And.intro)
 all_goals first
  | (refine AA one ?_; simp; (repeat' first | assumption | omega | apply And.intro) <;> (refine AA two ?_; simp; (repeat' first | assumption | omega | apply And.intro)))
  | (refine AA two ?_; simp; (repeat' first | assumption | omega | apply And.intro) <;> (refine AA one ?_; simp; (repeat' first | assumption | omega | apply And.intro)))
@[simp] abbrev Pv:Nat:= 222
def DS:ACode:= .seq (.seq (.reg [.m 6 5,.m 7 1,.n 8 7,.o 9 (.bin .lss 0) [.t 6,.t 8]]) <| .cond (.t 9) ( .skip) ( .exit 0)) <| .seq (.block 1 ( .seq (.reg [.f 12 2 2,.l 13 12,.m 14 5,.o 15 (.iadr 1) [.t 13,.t 14],.l 16 15,.m 17 16,.mg 18 1 17 true,.mg 19 5 17 true,.g 20 (.iadr 1) [.t 18,.t 19] 17 true,.lg 21 20 17 true,.g 22 (.bin .eql 0) [.t 21,.k 0] 17 true,.o 23 .pick [.t 17,.t 22,.kb false]]) <| .cond (.t 23) ( .seq (.reg [.m 24 5,.m 4 24]) <| .ret) ( .skip))) <| .reg [.m 10 5,.o 11 (.bin .add 0) [.t 10,.k 1],.m 5 11]
def Pw:ACode:= .seq (.reg [.o 2 .box [.t 0],.o 4 .mv [.k 0]]) <| .seq (.seq (.reg [.o 5 .mv [.k 0]]) <| .block 0 ( .loop [(1,1)] [1,2,5] DS)) <| .seq (.reg [.o 4 .mv [.k (-1)]]) <| .ret
theorem XM:cFn Tryz.prog Pv 25 [.t 4] Pw:= ⟨Tryz.f222,_,Tryz.func222,rfl,by kernel_rfl,by kernel_rfl,by kernel_rfl,by kernel_rfl⟩
@[simp] abbrev UF:Nat:= 274
def Jr:ACode:= .seq (.seq (.reg [.m 20 7,.o 21 (.bin .leq 0) [.t 20,.k 2]]) <| .cond (.t 21) ( .skip) ( .exit 0)) <| .seq (.block 1 ( .seq (.reg [.la 25 3 2,.m 26 1,.m 27 6,.m 28 7,.o 29 (.call 140 []) [.t 25,.t 26,.t 27,.t 28],.m 24 29,.e 30 0 24,.e 31 1 24,.m 8 30,.m 9 31]) <| .seq (.reg [.m 32 9]) <| .cond (.t 32) ( .reg [.m 33 5,.la 34 3 2,.m 35 8,.o 36 (.call 274 []) [.t 34,.t 35],.o 37 (.app 1 24 false) [.t 33,.t 36],.m 5 37]) ( .skip))) <| .reg [.m 22 7,.o 23 (.bin .add 0) [.t 22,.k 1],.m 7 23]
def Od:ACode:= .seq (.reg [.o 2 .box [.t 0],.o 4 .mv [.c (.os 1 [])]]) <| .seq (.reg [.o 10 (.bsl 1) [],.m 5 10]) <| .seq (.reg [.la 11 3 2,.m 12 1,.o 13 (.call 222 []) [.t 11,.t 12],.m 6 13]) <| .seq (.seq (.reg [.m 14 6,.o 15 (.bin .lss 0) [.t 14,.k 0]]) <| .cond (.t 15) ( .seq (.reg [.m 16 5,.m 17 1,.o 18 (.bsl 1) [.t 17],.o 19 (.app 1 24 false) [.t 16,.t 18],.m 4 19]) <| .ret) ( .skip)) <| .seq (.seq (.reg [.o 7 .mv [.k 1]]) <| .block 0 ( .loop [(1,1),(5,1)] [1,2,5,6,7] Jr)) <| .seq (.reg [.m 38 5,.m 4 38]) <| .ret
theorem UG:cFn Tryz.prog UF 39 [.t 4] Od:= ⟨Tryz.f274,_,Tryz.func274,rfl,by kernel_rfl,by kernel_rfl,by kernel_rfl,by kernel_rfl⟩
@[simp] abbrev Hb:Nat:= 244
abbrev FK:Plan:= .al (.o 10 (.call 274 []) [.t 7,.t 9]) ( .take (.m 2 10) <| .done)
def MA:ACode:= .seq (.reg [.o 1 .box [.t 0],.o 2 .mv [.c (.os 1 [])]]) <| .seq (.seq (.reg [.la 3 3 1,.o 4 (.call 168 []) [.t 3],.o 5 (.un .not) [.t 4]]) <| .cond (.t 5) ( .seq (.reg [.o 6 (.bsl 1) [],.m 2 6]) <| .ret) ( .skip)) <| .seq (.draw ( .alt (.la 7 3 1) ( .al (.la 8 3 1) ( .al (.o 9 (.call 146 []) [.t 8]) FK)) <| .al (.la 8 3 1) ( .alt (.la 7 3 1) ( .al (.o 9 (.call 146 []) [.t 8]) FK) <| .al (.o 9 (.call 146 []) [.t 8]) ( .al (.la 7 3 1) FK)))) <| .ret
theorem TT:cFn Tryz.prog Hb 11 [.t 2] MA:= ⟨Tryz.f244,_,Tryz.func244,rfl,by kernel_rfl,by kernel_rfl,by kernel_rfl,by kernel_rfl⟩
@[simp] abbrev Fq:Nat:= 202
def D5:ACode:= .seq (.seq (.reg [.m 11 7,.m 12 6,.n 13 12,.o 14 (.bin .lss 0) [.t 11,.t 13],.m 15 14,.g 16 (.load true 3) [.t 2] 15 true,.mg 17 1 15 true,.g 18 (.call 121 []) [.t 16,.t 17] 15 true,.o 19 .pick [.t 15,.t 18,.kb false]]) <| .cond (.t 19) ( .skip) ( .exit 0)) <| .seq (.block 1 ( .seq (.draw ( .take (.m 23 1) <| .take (.m 24 6) <| .take (.m 25 7) <| .take (.o 26 (.iadr 1) [.t 24,.t 25]) <| .alt (.la 22 3 2) ( .al (.l 27 26) ( .al (.o 28 (.call 148 []) [.t 22,.t 23,.t 27]) ( .done))) <| .al (.l 27 26) ( .al (.la 22 3 2) ( .al (.o 28 (.call 148 []) [.t 22,.t 23,.t 27]) ( .done))))) <| .cond (.t 28) ( .reg [.m 29 5,.m 30 6,.m 31 7,.o 32 (.iadr 1) [.t 30,.t 31],.l 33 32,.o 34 (.bsl 1) [.t 33],.o 35 (.app 1 24 false) [.t 29,.t 34],.m 5 35]) ( .skip))) <| .reg [.m 20 7,.o 21 (.bin .add 0) [.t 20,.k 1],.m 7 21]
def Js:ACode:= .seq (.reg [.o 2 .box [.t 0],.o 4 .mv [.c (.os 1 [])]]) <| .seq (.reg [.o 8 (.bsl 1) [],.m 5 8]) <| .seq (.reg [.la 9 3 2,.o 10 (.call 244 []) [.t 9],.m 6 10]) <| .seq (.seq (.reg [.o 7 .mv [.k 0]]) <| .block 0 ( .loop [(1,1),(5,1),(6,1)] [1,2,5,6,7] D5)) <| .seq (.reg [.m 36 5,.m 4 36]) <| .ret
theorem Qr:cFn Tryz.prog Fq 37 [.t 4] Js:= ⟨Tryz.f202,_,Tryz.func202,rfl,by kernel_rfl,by kernel_rfl,by kernel_rfl,by kernel_rfl⟩
@[simp] abbrev Oe:Nat:= 146
def Og:ACode:= .seq (.reg [.o 1 .box [.t 0],.o 2 .mv [.c (.os 1 [])]]) <| .seq (.seq (.reg [.la 3 3 1,.o 4 (.call 168 []) [.t 3],.o 5 (.un .not) [.t 4]]) <| .cond (.t 5) ( .seq (.reg [.o 6 (.bsl 1) [],.m 2 6]) <| .ret) ( .skip)) <| .seq (.reg [.f 7 2 1,.l 8 7,.n 9 8,.o 10 (.mksl 1 8 (.v (.int .i64 (0)))) [.t 9,.t 9],.m 2 10]) <| .ret
theorem WH:cFn Tryz.prog Oe 11 [.t 2] Og:= ⟨Tryz.f146,_,Tryz.func146,rfl,by kernel_rfl,by kernel_rfl,by kernel_rfl,by kernel_rfl⟩
@[simp] def md1 (f:Nat):List Bool:= if f = 274 then [false,true] else md0 f
def Bd (cs:List Bool) (ls:List Int) (k:Nat):Bool:= atb cs k && decide (ati ls k = 0)
def DW (cs:List Bool) (ls:List Int):Int:= Eg (Bd cs ls) ls.length
def allT (W T:Int) (cs:List Bool):Nat → List Int → List (List Int)
 | 0,ls => [ls]
 | n + 1,ls => if DW cs ls < 0 then [ls] else
     (if Av W T cs ls (DW cs ls) 1 then allT W T cs n (Bk W T ls (DW cs ls) 1) else []) ++
     (if Av W T cs ls (DW cs ls) 2 then allT W T cs n (Bk W T ls (DW cs ls) 2) else [])
theorem Jt (W T:Int) (cs:List Bool):∀ (n:Nat) (ls:List Int),(allT W T cs n ls).length ≤ 2 ^ n
 | 0,ls => by simp [allT]
 | n + 1,ls => by
   have h1:= Jt W T cs n (Bk W T ls (DW cs ls) 1)
   have h2:= Jt W T cs n (Bk W T ls (DW cs ls) 2)
   have h3:0 < 2 ^ n:= Nat.pow_pos (by omega)
   rw [allT]
   split
   ·simp only [List.length_singleton]; omega
   ·rw [List.length_append]
    have e1:(if Av W T cs ls (DW cs ls) 1 then allT W T cs n (Bk W T ls (DW cs ls) 1) else []).length ≤ 2 ^ n:= by
     split
     ·exact h1
     ·simp
    have e2:(if Av W T cs ls (DW cs ls) 2 then allT W T cs n (Bk W T ls (DW cs ls) 2) else []).length ≤ 2 ^ n:= by
     split
     ·exact h2
     ·simp
    omega
theorem CY (cs:List Bool) (ls:List Int):DW cs ls = -1 ∨ ∃ k:Nat,k < ls.length ∧ DW cs ls = k ∧ atb cs k = true ∧ ati ls k = 0:= by
 rcases OW (Bd cs ls) ls.length with h | ⟨k,hk,hp,he⟩
 ·left; exact h
 ·right
  simp only [Bd,Bool.and_eq_true,decide_eq_true_eq] at hp
  exact ⟨k,hk,he,hp.1,hp.2⟩
theorem Fb {W T:Int} {ls:List Int} {k:Nat} {way:Int} (hk:k < ls.length) (hz:ati ls k = 0) (h1:1 ≤ way) (h4:way ≤ 4):Bz (Bk W T ls k way) < Bz ls:= by
 have hb:CO way ≠ 0:= by
  have:= (F3 h1 h4).2
  omega
 refine Nat.lt_of_le_of_lt (UE hb) ?_
 exact K2 (by simpa using hk) (by simpa using hz) (by omega)
theorem Fc (W T:Int) (cs:List Bool) (ls:List Int) (hl:ls.length = cs.length) (hb:cs.length < 2 ^ 40):
  SoundAt Tryz.prog Pv [.agg [.v (.int .i64 W),.v (.int .i64 T),.sl 1 1 (AC cs)],.sl 1 1 (AB ls)] (.v (.int .i64 (DW cs ls))) [.bot,.bot]:= by
 refine AG (md:= md0) (ms:= [false,false]) XM (by simp) ?_
 simp [Pw]
 refine AF (fun m E H => ∃ i:Nat,m = ls.length - i ∧ i ≤ ls.length ∧ (∀ j:Nat,j < i → Bd cs ls j = false) ∧ H = [some (.box [.v (.int .i64 W),.v (.int .i64 T),.sl 1 1 (AC cs)])] ∧
  E = [(1,.sl 1 1 (AB ls)),(2,.lp 0 0 0 0),(5,.v (.int .i64 i))]) ls.length ⟨0,by simp⟩ ?_
 rintro J hJ m E H ⟨i,rfl,hi,ha,rfl,rfl⟩
 by_cases h:i < ls.length
 case neg =>
  have:i = ls.length:= by omega
  subst this
  have e:DW cs ls = -1:= CC ha
  simp [DS,e]
 have next:Bd cs ls i = false → CL J (ls.length - i) [(1,.sl 1 1 (AB ls)),(2,.lp 0 0 0 0),(5,.v (.int .i64 (i + 1)))]
   [some (.box [.v (.int .i64 W),.v (.int .i64 T),.sl 1 1 (AC cs)])]:= by
  intro hx
  refine ⟨_,by omega,hJ _ _ _ ⟨i + 1,rfl,h,?_,rfl,rfl⟩⟩
  intro j hj
  rcases Nat.lt_or_ge j i with h1 | h1
  ·exact ha j h1
  ·have:j = i:= by omega
   subst this; exact hx
 have h2:i < cs.length:= by omega
 cases hc:atb cs i with
 | false =>
   simp [DS,h,h2,hc]
   exact ⟨by omega,next (by simp [Bd,hc])⟩
 | true =>
 by_cases z:ati ls i = 0
 ·have e:DW cs ls = i:= CX h (by simp [Bd,hc,z]) ha
  simp [DS,h,h2,hc,z,e]
 ·simp [DS,h,h2,hc,z]
  exact ⟨by omega,next (by simp [Bd,z])⟩
theorem MB {W T:Int} {cs:List Bool} {ls:List Int} (n:Nat) (h:DW cs ls < 0):allT W T cs n ls = [ls]:= by
 cases n with
 | zero => rfl
 | succ n => simp [allT,h]
def Oh (W T:Int) (cs:List Bool) (n:Nat) (ls:List Int) (cell way:Int):List (List Int):= if Av W T cs ls cell way then allT W T cs n (Bk W T ls cell way) else []
def SF (W T:Int) (cs:List Bool) (n:Nat) (ls:List Int) (cell:Int) (i:Nat):List (List Int):= (List.range i).flatMap fun j:Nat => Oh W T cs n ls cell (j + 1)
theorem SG (W T:Int) (cs:List Bool) (n:Nat) (ls:List Int) (cell:Int) (i:Nat):SF W T cs n ls cell (i + 1) = SF W T cs n ls cell i ++ Oh W T cs n ls cell (i + 1):= by
 simp [SF,List.range_succ]
theorem aP (W T:Int) (cs:List Bool) (n:Nat) (ls:List Int) (cell way:Int):(Oh W T cs n ls cell way).length ≤ 2 ^ n:= by
 unfold Oh; split
 ·exact Jt ..
 ·simp
theorem Qs (W T:Int) (cs:List Bool) (n:Nat) (ls:List Int) (cell:Int):∀ i,(SF W T cs n ls cell i).length ≤ i * 2 ^ n
 | 0 => by simp [SF]
 | i + 1 => by
   have h1:= Qs W T cs n ls cell i
   have h2:= aP W T cs n ls cell (i + 1)
   rw [SG,List.length_append,Nat.succ_mul]
   omega
theorem MC {ls:List Int} {k:Nat} (h:k < ls.length) (hz:ati ls k = 0):0 < Bz ls:= by
 have:= K2 (v:= 1) h hz (by omega)
 omega
theorem aQ (W T:Int) (cs:List Bool) (hr:Am W T cs = true):∀ (n:Nat) (ls:List Int),n ≤ 36 → Bz ls ≤ n → AR W T cs ls = true →
  SoundAt Tryz.prog UF [.agg [.v (.int .i64 W),.v (.int .i64 T),.sl 1 1 (AC cs)],.os 1 (AB ls)] (.os 1 (oss (allT W T cs n ls))) [.bot,.bot]:= by
 intro n
 have h36:= Ab hr
 induction n with
 | zero =>
   intro ls hn hz hy
   have hl:ls.length = cs.length:= by simp only [AR,Bool.and_eq_true,decide_eq_true_eq] at hy; exact hy.1
   refine AG (md:= md1) (ms:= [false,false]) UG (by simp) ?_
   simp [Od]
   refine AA (Fc W T cs ls hl (by omega)) ?_
   rcases CY cs ls with h | ⟨k,hk,he,hc,hzk⟩
   ·simp [h,MB,TO]
   ·have:= MC hk hzk
    omega
 | succ n ih =>
   intro ls hn hz hy
   have hl:ls.length = cs.length:= by simp only [AR,Bool.and_eq_true,decide_eq_true_eq] at hy; exact hy.1
   refine AG (md:= md1) (ms:= [false,false]) UG (by simp) ?_
   simp [Od]
   refine AA (Fc W T cs ls hl (by omega)) ?_
   rcases CY cs ls with h | ⟨k,hk,he,hc,hzk⟩
   ·simp [h,MB,TO]
   have hk0:¬ (k:Int) < 0:= by omega
   have hall:allT W T cs (n + 1) ls = SF W T cs n ls k 2:= by
    rw [allT,he,if_neg hk0]
    simp [SF,Oh,List.range_succ]
   rw [hall]
   simp [he,hk0]
   refine AF (fun m E H => ∃ i:Nat,m = 2 - i ∧ i ≤ 2 ∧ H = [some (.arr 1 (AB ls)),some (.box [.v (.int .i64 W),.v (.int .i64 T),.sl 1 1 (AC cs)]),some (.arr 1 (oss (SF W T cs n ls k i)))] ∧
    E = [(1,.ls 1 0 0 ls.length),(2,.lp 0 1 0 0),(5,.ls 1 2 0 (SF W T cs n ls k i).length),(6,.v (.int .i64 k)),(7,.v (.int .i64 (i + 1)))]) 2 ⟨0,by simp [SF]⟩ ?_
   rintro J hJ m E H ⟨i,rfl,hi,rfl,rfl⟩
   by_cases h:i < 2
   case neg =>
    have:i = 2:= by omega
    subst this
    simp [Jr]
   have h':(i:Int) + 1 ≤ 2:= by omega
   have hsuc:= SG W T cs n ls k i
   have next:∀ (x:List (List Int)),Oh W T cs n ls k (i + 1) = x → CL J (2 - i) [(1,.ls 1 0 0 ls.length),(2,.lp 0 1 0 0),(5,.ls 1 2 0 ((SF W T cs n ls k i).length + x.length)),(6,.v (.int .i64 k)),(7,.v (.int .i64 (i + 1 + 1)))]
     [some (.arr 1 (AB ls)),some (.box [.v (.int .i64 W),.v (.int .i64 T),.sl 1 1 (AC cs)]),some (.arr 1 (oss (SF W T cs n ls k i) ++ oss x))]:= by
    intro x hx
    refine ⟨_,by omega,hJ _ _ _ ⟨i + 1,rfl,h,?_,?_⟩⟩
    ·rw [hsuc,hx,L3]
    ·rw [hsuc,hx,List.length_append]; rfl
   have one:= C2 W T cs ls k (i + 1) hr hy
   simp [Jr,h']
   refine AA one ?_
   cases hf:Av W T cs ls k (i + 1) with
   | false =>
     have nx:= next [] (by simp [Oh,hf])
     simp at nx
     simp
     exact ⟨by omega,nx⟩
   | true =>
     have el:Au W T cs ls k (i + 1) = Bk W T ls k (i + 1):= by simp [Au,hf]
     rw [el]
     have hy2:= KX hr hy hf
     have hz2:Bz (Bk W T ls k (i + 1)) < Bz ls:= Fb hk hzk (by omega) (by omega)
     have two:= ih (Bk W T ls k (i + 1)) (by omega) (by omega) hy2
     have nx:= next (allT W T cs n (Bk W T ls k (i + 1))) (by simp [Oh,hf])
     have hll:= AO W T ls k (i + 1)
     have htk:(AB (Bk W T ls k (i + 1))).take ls.length = AB (Bk W T ls k (i + 1)):= List.take_of_length_le (by simp [hll])
     have b1:= Jt W T cs n (Bk W T ls k (i + 1))
     have b0:2 ^ n ≤ 2 ^ 36:= Nat.pow_le_pow_right (by omega) (by omega)
     have b2:= Qs W T cs n ls k i
     have b3:i * 2 ^ n ≤ 2 * 2 ^ n:= Nat.mul_le_mul_right _ (by omega)
     have b4:(SF W T cs n ls k i).length + (allT W T cs n (Bk W T ls k (i + 1))).length ≤ 206158430208:= by omega
     simp [hll,htk]
     refine AA two ?_
     simp [hll,htk]
     exact ⟨by omega,by omega,nx⟩
def Ac (cs:List Bool):List Int:= List.replicate cs.length 0
theorem PS (cs:List Bool) (k:Int):ati (Ac cs) k = 0:= by
 unfold ati Ac
 rw [List.getD_eq_getElem?_getD,List.getElem?_replicate]
 split <;> rfl
theorem IM (W T:Int) (cs:List Bool):AR W T cs (Ac cs) = true:= by
 simp only [AR,Bool.and_eq_true,decide_eq_true_eq,CN]
 refine ⟨by simp [Ac],fun k _ => ?_⟩
 simp only [JP,decide_eq_true_eq]
 exact .inl (PS cs k)
theorem ZC (W T:Int) (cs:List Bool):∀ (n:Nat) (ls p:List Int),p ∈ allT W T cs n ls → p.length = ls.length
 | 0,ls,p,h => by simp [allT] at h; rw [h]
 | n + 1,ls,p,h => by
   rw [allT] at h
   split at h
   ·simp at h; rw [h]
   ·rw [List.mem_append] at h
    rcases h with h | h <;> split at h
    ·rw [ZC W T cs n _ p h,AO]
    ·cases h
    ·rw [ZC W T cs n _ p h,AO]
    ·cases h
def HC (W T:Int) (cs:List Bool):List (List Int):= if Am W T cs then allT W T cs cs.length (Ac cs) else []
theorem aR {W T:Int} {cs:List Bool} {p:List Int} (h:p ∈ HC W T cs):p.length = cs.length:= by
 unfold HC at h
 split at h
 ·rw [ZC W T cs _ _ p h]; simp [Ac]
 ·cases h
theorem UH {W T:Int} {cs:List Bool}:(HC W T cs).length ≤ 68719476736:= by
 unfold HC
 split
 ·rename_i hr
  have h1:= Jt W T cs cs.length (Ac cs)
  have h2:2 ^ cs.length ≤ 2 ^ 36:= Nat.pow_le_pow_right (by omega) (Ab hr)
  omega
 ·simp
theorem Ej (W T:Int) (cs:List Bool) (hb:cs.length < 2 ^ 40):
  SoundAt Tryz.prog Oe [.agg [.v (.int .i64 W),.v (.int .i64 T),.sl 1 1 (AC cs)]] (.os 1 (AB (if Am W T cs then Ac cs else []))) [.bot]:= by
 refine AG (md:= md0) (ms:= [false]) WH (by simp) ?_
 simp [Og]
 refine AA (Ao W T cs hb) ?_
 cases hr:Am W T cs with
 | false => simp
 | true =>
 simp [Ac,dL]
 exact ⟨by omega,List.take_of_length_le (by simp)⟩
theorem TU (W T:Int) (cs:List Bool) (hb:cs.length < 2 ^ 40):
  SoundAt Tryz.prog Hb [.agg [.v (.int .i64 W),.v (.int .i64 T),.sl 1 1 (AC cs)]] (.os 1 (oss (HC W T cs))) [.bot]:= by
 refine AG (md:= md1) (ms:= [false]) TT (by simp) ?_
 simp [MA]
 refine AA (Ao W T cs hb) ?_
 cases hr:Am W T cs with
 | false => simp [HC,hr]
 | true =>
 have one:= Ej W T cs hb
 rw [if_pos hr] at one
 have hn:(Ac cs).length = cs.length:= by simp [Ac]
 have hz:Bz (Ac cs) ≤ cs.length:= by have:= Hr (Ac cs); omega
 have two:= aQ W T cs hr cs.length (Ac cs) (Ab hr) hz (IM W T cs)
 have et:HC W T cs = allT W T cs cs.length (Ac cs):= by simp [HC,hr]
 have htk:(AB (Ac cs)).take cs.length = AB (Ac cs):= List.take_of_length_le (by simp [hn])
 rw [et]
 simp
 (repeat' first | assumption | omega | apply And.intro) <;>
 ·refine AA one ?_
  simp [hn,htk]
  (repeat' first | assumption | omega | apply And.intro) <;>
  ·refine AA two ?_
   simp [hn,htk]
def CE (W T:Int) (cs:List Bool) (ds:List Int):List (List Int):= if (Am W T cs && B4 cs ds) = true then (HC W T cs).filter (CB W T cs ds) else []
theorem cG {ps:List (List Int)} {i:Nat} (f:List Int → Bool) (h:i < ps.length):(ps.take (i + 1)).filter f = (ps.take i).filter f ++ if f (pti ps i) then [pti ps i] else []:= by
 rw [List.take_succ_eq_append_getElem h,List.filter_append,Ih h]
 congr 1
 cases hf:f ps[i] <;> simp [hf]
theorem qK {W T:Int} {cs:List Bool}:∀ (C:Ctx) (S:List Nat) (us:List Value),RL C [.agg [.v (.int .i64 W),.v (.int .i64 T),.sl 1 1 (AC cs)]] S us → S = []:= by
 intro C S us h
 rw [RL] at h
 obtain ⟨S1,S2,u,us',rfl,rfl,h1,h2⟩:= h
 rw [RL] at h2
 rw [R] at h1
 obtain ⟨vs,_,h1⟩:= h1
 rw [RL] at h1
 obtain ⟨A1,A2,_,_,rfl,_,a1,h1⟩:= h1
 rw [RL] at h1
 obtain ⟨A3,A4,_,_,rfl,_,a3,h1⟩:= h1
 rw [RL] at h1
 obtain ⟨A5,A6,_,_,rfl,_,a5,h1⟩:= h1
 rw [RL] at h1
 rw [R] at a1
 rw [R] at a3
 rw [R] at a5
 rw [a1.1,a3.1,a5.1,h1.1,h2.1]
 rfl
theorem SH (W T:Int) (cs:List Bool) (hb:cs.length < 2 ^ 40):
  SoundAt Tryz.prog Hb [.agg [.v (.int .i64 W),.v (.int .i64 T),.sl 1 1 (AC cs)]] (.sl 0 1 (sls 0 (HC W T cs))) [.bot]:= by
 have h:= SoundAt.frozen (n:= 1) qK (TU W T cs hb)
 simpa [vw] using h
theorem Qt (W T:Int) (cs:List Bool) (ds:List Int) (hb:cs.length < 2 ^ 40) (hd:ds.length < 2 ^ 40):
  SoundAt Tryz.prog Fq [.agg [.v (.int .i64 W),.v (.int .i64 T),.sl 1 1 (AC cs)],.sl 1 1 (AB ds)] (.os 1 (sls 0 (CE W T cs ds))) [.bot,.bot]:= by
 refine AG (md:= md1) (ms:= [false,false]) Qr (by simp) ?_
 simp [Js]
 refine AA (SH W T cs hb) ?_
 simp
 have hpv:= Cu W T cs ds hb hd
 have hmem:∀ p ∈ HC W T cs,p.length = cs.length:= fun p hp => aR hp
 have htl:= UH (W:= W) (T:= T) (cs:= cs)
 have esol:CE W T cs ds = if (Am W T cs && B4 cs ds) = true then (HC W T cs).filter (CB W T cs ds) else []:= rfl
 generalize HC W T cs = ts at *
 refine AF (fun m E H => ∃ i:Nat,m = ts.length - i ∧ i ≤ ts.length ∧ (i = 0 ∨ (Am W T cs && B4 cs ds) = true) ∧ H = [some (.box [.v (.int .i64 W),.v (.int .i64 T),.sl 1 1 (AC cs)]),some (.arr 1 (sls 0 ((ts.take i).filter (CB W T cs ds))))] ∧
  E = [(1,.sl 1 1 (AB ds)),(2,.lp 0 0 0 0),(5,.ls 1 1 0 ((ts.take i).filter (CB W T cs ds)).length),(6,.sl 0 1 (sls 0 ts)),(7,.v (.int .i64 i))]) ts.length ⟨0,by simp⟩ ?_
 rintro J hJ m E H ⟨i,rfl,hi,hp0,rfl,rfl⟩
 by_cases h:i < ts.length
 case neg =>
  have:i = ts.length:= by omega
  subst this
  have e2:(ts.take ts.length).filter (CB W T cs ds) = CE W T cs ds:= by
   rw [List.take_length,esol]
   rcases hp0 with h0 | h0
   ·have:ts = []:= List.eq_nil_of_length_eq_zero h0
    subst this
    simp
   ·rw [if_pos h0]
  rw [e2]
  simp [D5]
  exact List.take_of_length_le (by simp)
 simp [D5,h]
 refine AA hpv ?_
 cases hp:(Am W T cs && B4 cs ds) with
 | false =>
   have:i = 0:= by rcases hp0 with h0 | h0; exact h0; rw [hp] at h0; cases h0
   subst this
   have e2:CE W T cs ds = []:= by rw [esol,if_neg (by simp [hp])]
   simp [e2]
 | true =>
 have hr:Am W T cs = true:= by simp only [Bool.and_eq_true] at hp; exact hp.1
 have h36:= Ab hr
 have hpl:= hmem _ (V9 h)
 have one:= OQ W T cs ds (pti ts i) hb hd (by omega)
 have hsuc:= cG (CB W T cs ds) h
 have hlen:((ts.take i).filter (CB W T cs ds)).length ≤ i:= by
  refine Nat.le_trans (List.length_filter_le _ _) ?_
  rw [List.length_take]; omega
 simp [h]
 (repeat' first | assumption | omega | apply And.intro) <;>
 ·refine AA one ?_
  cases hs:CB W T cs ds (pti ts i) with
  | false =>
    rw [if_neg (by simp [hs]),List.append_nil] at hsuc
    simp [h]
    exact ⟨by omega,_,by omega,hJ _ _ _ ⟨i + 1,rfl,h,.inr hp,by rw [hsuc],by rw [hsuc]; rfl⟩⟩
  | true =>
    rw [if_pos hs] at hsuc
    simp [h]
    exact ⟨by omega,by omega,_,by omega,hJ _ _ _ ⟨i + 1,rfl,h,.inr hp,by rw [hsuc]; simp [sls],by rw [hsuc]; simp⟩⟩
def cH (W T:Int) (cs:List Bool) (ds:List Int):Int:= if (Am W T cs && B4 cs ds) = true then (CE W T cs ds).length else -1
theorem TV {p:Nat → Bool} {n:Nat} (h:Eg p n < 0):∀ j,j < n → p j = false:= by
 intro j hj
 cases hx:p j with
 | false => rfl
 | true =>
   exfalso
   have hm:∃ x ∈ List.range n,p x = true:= ⟨j,by simpa using hj,hx⟩
   have hs:= List.find?_isSome.2 hm
   unfold Eg at h
   split at h
   ·omega
   ·rename_i h9; rw [h9] at hs; cases hs
theorem UI {cs:List Bool} {ls:List Int} (hl:ls.length = cs.length) (h:DW cs ls < 0):H9 cs ls = true:= by
 rw [H9,CN]
 intro k hk
 have h1:= TV h k (by omega)
 simp only [Bd] at h1
 simp only [It,h1]
 rfl
theorem gx {W T:Int} {cs:List Bool} (hr:Am W T cs = true):∀ (n:Nat) (ls:List Int),Bz ls ≤ n → AR W T cs ls = true → ∀ p ∈ allT W T cs n ls,AR W T cs p = true ∧ H9 cs p = true:= by
 intro n
 induction n with
 | zero =>
   intro ls hz hy p hp
   have hl:ls.length = cs.length:= by simp only [AR,Bool.and_eq_true,decide_eq_true_eq] at hy; exact hy.1
   simp only [allT,List.mem_singleton] at hp
   subst hp
   refine ⟨hy,UI hl ?_⟩
   rcases CY cs p with h | ⟨k,hk,he,hc,hzk⟩
   ·omega
   ·have:= MC hk hzk
    omega
 | succ n ih =>
   intro ls hz hy p hp
   have hl:ls.length = cs.length:= by simp only [AR,Bool.and_eq_true,decide_eq_true_eq] at hy; exact hy.1
   rw [allT] at hp
   split at hp
   ·rename_i hb
    simp only [List.mem_singleton] at hp
    subst hp
    exact ⟨hy,UI hl hb⟩
   ·rename_i hb
    rcases CY cs ls with h | ⟨k,hk,he,hc,hzk⟩
    ·omega
    rw [he] at hp
    have step:∀ way:Int,1 ≤ way → way ≤ 4 → Av W T cs ls k way = true → p ∈ allT W T cs n (Bk W T ls k way) → AR W T cs p = true ∧ H9 cs p = true:= by
     intro way w1 w4 hf hm
     have hz2:Bz (Bk W T ls k way) < Bz ls:= Fb hk hzk w1 w4
     exact ih (Bk W T ls k way) (by omega) (KX hr hy hf) p hm
    rw [List.mem_append] at hp
    rcases hp with hp | hp
    ·split at hp
     ·rename_i hf; exact step 1 (by omega) (by omega) hf hp
     ·cases hp
    ·split at hp
     ·rename_i hf; exact step 2 (by omega) (by omega) hf hp
     ·cases hp
theorem aU {W T:Int} {cs:List Bool} {ds:List Int} (h:(Am W T cs && B4 cs ds) = true):CE W T cs ds = (HC W T cs).filter (fun t => LU (Bt W T ds t)):= by
 have hr:Am W T cs = true:= by simp only [Bool.and_eq_true] at h; exact h.1
 have hd:B4 cs ds = true:= by simp only [Bool.and_eq_true] at h; exact h.2
 have hn:(Ac cs).length = cs.length:= by simp [Ac]
 have hz:Bz (Ac cs) ≤ cs.length:= by have:= Hr (Ac cs); omega
 rw [CE,if_pos h]
 apply List.filter_congr
 intro t ht
 rw [HC,if_pos hr] at ht
 obtain ⟨h1,h2⟩:= gx hr cs.length (Ac cs) hz (IM W T cs) t ht
 simp only [CB,Ad,okB,hr,hd,h1,h2,Bool.true_and,Bool.and_true]
end Go.Proofs.Dev
