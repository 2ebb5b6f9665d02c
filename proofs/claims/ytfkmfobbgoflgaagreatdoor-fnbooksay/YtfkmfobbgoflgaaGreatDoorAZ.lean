/- Contracts of the functions of the program over slots and rows, each proved against the program itself; no condition beyond those that each theorem names. -/
import Derived.Test.YtfkmfobbgoflgaaGreatDoorAY
import Derived.Test.YtfkmfobbgoflgaaGreatDoorAV
import Derived.Test.YtfkmfobbgoflgaaGreatDoorAW
import Derived.Test.YtfkmfobbgoflgaaGreatDoorAM
import Derived.Test.YtfkmfobbgoflgaaGreatDoorAQ
import Derived.Test.YtfkmfobbgoflgaaGreatDoorAX
import Derived.Test.YtfkmfobbgoflgaaGreatDoorAJ
import Derived.Test.YtfkmfobbgoflgaaGreatDoorAK
import Derived.Test.YtfkmfobbgoflgaaGreatDoorProg
import Derived.Test.YtfkmfobbgoflgaaGreatDoorAN
import Derived.Test.YtfkmfobbgoflgaaGreatDoorAO
set_option linter.unusedSimpArgs false
set_option linter.unusedVariables false
set_option maxRecDepth 100000
namespace Go.Proofs.Dev
open Go.RowKit
theorem fS (W T:Int) (cs:List Bool) (ls:List Int) (k:Int) (h0:0 ≤ k) (h1:k < ls.length) (hl:ls.length = cs.length) (hw:aH ls):
  SoundAt Tryz.prog Md [.v (.int .i64 k),.vp 1 [.v (.int .i64 W),.v (.int .i64 T),.sl 1 1 (AC cs)] 0,.vp 1 [.sl 1 1 (AB ls)] 0] (.v (.int .u8 (toI (sgW cs ls k.toNat)))) [.bot,.bot,.bot]:= by
 refine AG (md:= mdT) (ms:= [false,false,false]) Tw (by simp) ?_
 obtain ⟨w0,w1⟩:= hw k h0 h1
 have hk:k < (cs.length:Int):= by omega
 have ek:((k.toNat:Nat):Int) = k:= by omega
 unfold sgW
 rw [ek]
 cases hb:atb cs k with
 | false => simp [Hn,h0,h1,hk,hb,toI]
 | true =>
   have hc5:ati ls k = 0 ∨ ati ls k = 1 ∨ ati ls k = 2 ∨ ati ls k = 3 ∨ ati ls k = 4:= by omega
   rcases hc5 with h5 | h5 | h5 | h5 | h5 <;> simp [Hn,h0,h1,hk,hb,h5,rV,toI,bO]
abbrev rlF (W T:Int) (cs:List Bool) (ls:List Int):AV:= .fn 181 [.vp 1 [.v (.int .i64 W),.v (.int .i64 T),.sl 1 1 (AC cs)] 0,.vp 1 [.sl 1 1 (AB ls)] 0]
abbrev rlE (W T:Int) (cs:List Bool) (ls:List Int) (k:Nat) (y:Int):ES:= [(1,rlF W T cs ls),(2,.lp 0 0 0 0),(5,.ls 1 1 0 k),(6,.v (.int .i64 y))]
abbrev so (W T:Nat) (cs:List Bool) (ls:List Int) (k:Nat) (y x:Int):ES:= [(1,rlF W T cs ls),(2,.lp 0 0 0 0),(5,.ls 1 1 0 k),(6,.v (.int .i64 y)),(7,.ls 1 2 0 W),(20,.v (.int .i64 W)),(21,.v (.int .i64 x))]
set_option maxHeartbeats 2000000 in
theorem sr (W T:Nat) (cs:List Bool) (ls:List Int) (rs:List (List UInt8)) (y:Nat) (hW:W ≤ 6) (hT:T ≤ 6) (hy:y < T) (hl:cs.length = T * W) (hll:ls.length = cs.length) (hw:aH ls) (Qc:AExit → ES → AN → Prop)
  (hend:∀ E,get E 1 = rlF W T cs ls → get E 2 = .lp 0 0 0 0 → get E 5 = .ls 1 1 0 rs.length → get E 6 = .v (.int .i64 y) → get E 7 = .ls 1 2 0 W →
   Qc (.exit 2) E [some (.box [.v (.int .i64 W),.v (.int .i64 T),.sl 1 1 (AC cs)]),some (.arr 1 (txs rs)),some (.arr 1 (u8s ((OH (sgW cs ls) W y).map toI)))]):
  CM [(5,1),(7,1)] [1,2,5,6,7,20,21] (awp Tryz.prog mdT Ah) Qc (so W T cs ls rs.length y 0) [some (.box [.v (.int .i64 W),.v (.int .i64 T),.sl 1 1 (AC cs)]),some (.arr 1 (txs rs)),some (.arr 1 (List.replicate W (.v (.int .u8 0))))]:= by
 rw [jA]
 refine AF (fun m E H => ∃ x:Nat,m = W - x ∧ x ≤ W ∧ E = so W T cs ls rs.length y x ∧ H = [some (.box [.v (.int .i64 W),.v (.int .i64 T),.sl 1 1 (AC cs)]),some (.arr 1 (txs rs)),some (.arr 1 (u8s (part 0 toI W 0 x (OH (sgW cs ls) W y) [])))]) W ⟨0,by simp [bF,full]⟩ ?_
 rintro J hJ m E H ⟨x,rfl,hx,rfl,rfl⟩
 by_cases h:x < W
 ·have h':(x:Int) < (W:Int):= by omega
  have hxr:x < (OH (sgW cs ls) W y).length:= by simp [h]
  have hc:= Yo (T:= T) hy h
  have hp:T * W ≤ 6 * 6:= Nat.mul_le_mul hT hW
  have e1:(y:Int) * (W:Int) = ((y * W:Nat):Int):= by simp
  have q0:(0:Int) ≤ (y:Int) * (W:Int):= by rw [e1]; omega
  have q1:(y:Int) * (W:Int) ≤ 36:= by rw [e1]; omega
  have q2:((y:Int) * (W:Int) + (x:Int)) < (ls.length:Int):= by rw [e1]; omega
  have e2:((y:Int) * (W:Int) + (x:Int)) = ((y * W + x:Nat):Int):= by rw [Int.natCast_add,e1]
  have sg:= fS W T cs ls ((y:Int) * (W:Int) + (x:Int)) (by omega) q2 hll hw
  have es:sgW cs ls ((y:Int) * (W:Int) + (x:Int)).toNat = (OH (sgW cs ls) W y)[x]:= by
   rw [e2]; simp only [OH,List.getElem_map,List.getElem_range,Int.toNat_natCast]
  rw [es] at sg
  have st:= eD (0:Int) toI W 0 x (OH (sgW cs ls) W y) [] (by simp) hxr
  have l1:= Ww (0:Int) toI W 0 x (OH (sgW cs ls) W y) [] (by simp) hx
  simp only [Nat.zero_mul,Nat.zero_add,List.length_nil,Nat.add_zero] at st l1
  have nx:= hJ (W - (x + 1)) (so W T cs ls rs.length y ((x:Int) + 1)) _ ⟨x + 1,rfl,h,by simp,rfl⟩
  rw [← st] at nx
  generalize part 0 toI W 0 x (OH (sgW cs ls) W y) [] = X at *
  generalize toI (OH (sgW cs ls) W y)[x] = z at *
  have hX:x < X.length:= by omega
  have qf:gB Tryz.prog 181 = true:= by kernel_rfl
  simp [Ah,h',hX,qf,h]
  refine ⟨by omega,by omega,?_⟩
  refine AA sg ?_
  simp [i8,hX,h]
  exact ⟨by omega,_,by omega,nx⟩
 ·have:x = W:= by omega
  subst this
  rw [eC _ _ _ _ _ _ (by simp)]
  simp [Ah,full]
  apply hend <;> rfl
set_option maxHeartbeats 2000000 in
theorem U6 (W T:Nat) (cs:List Bool) (ls:List Int) (hr:Am W T cs = true) (hll:ls.length = cs.length) (hw:aH ls):
  SoundAt Tryz.prog D8 [.agg [.v (.int .i64 W),.v (.int .i64 T),.sl 1 1 (AC cs)],rlF W T cs ls] (.v (tx (FG 47 (H4 (sgW cs ls) W T)))) [.bot,.bot]:= by
 refine AG (md:= mdT) (ms:= [false,false]) HL (by simp) ?_
 have hr':= hr
 simp only [Am,decide_eq_true_eq] at hr'
 obtain ⟨w1,w2,t1,t2,hl,_⟩:= hr'
 have hW6:W ≤ 6:= by omega
 have hT6:T ≤ 6:= by omega
 have hl':cs.length = T * W:= by
  have:(cs.length:Int) = ((T * W:Nat):Int):= by rw [hl,Int.natCast_mul,Int.mul_comm]
  exact Int.ofNat.inj this
 have tot:= Vm (sgW cs ls) T (W:= W)
 have hp:T * (W + 1) ≤ 6 * 7:= Nat.mul_le_mul hT6 (by omega)
 have jn:= QR (H4 (sgW cs ls) W T) 47 (by simp; omega) (by omega)
 simp [D9]
 refine ⟨by omega,?_⟩
 refine AF (fun m E H => ∃ (n:Nat) (rs:List (List UInt8)),n = m ∧ n ≤ T ∧ rs ++ H4 (sgW cs ls) W n = H4 (sgW cs ls) W T ∧ E = rlE W T cs ls rs.length ((n:Int) - 1) ∧
  H = [some (.box [.v (.int .i64 W),.v (.int .i64 T),.sl 1 1 (AC cs)]),some (.arr 1 (txs rs))]) T ⟨T,[],by simp⟩ ?_
 rintro J hJ m E H ⟨n,rs,rfl,hn,ho,rfl,rfl⟩
 cases n with
 | zero =>
   have ho':rs = H4 (sgW cs ls) W T:= by simpa [H4] using ho
   subst ho'
   rw [KZ]
   have tk:List.take T (txs (H4 (sgW cs ls) W T)) = txs (H4 (sgW cs ls) W T):= List.take_of_length_le (by simp)
   simp [BJ]
   refine AA jn ?_
   simp [tk]
 | succ n =>
   have la:rs.length ≤ 6:= by have:= congrArg List.length ho; rw [List.length_append,KZ,KZ] at this; omega
   have e1:((n + 1:Nat):Int) - 1 = (n:Int):= by omega
   have w0:(0:Int) ≤ (W:Int):= by omega
   rw [e1]
   have nx:= hJ n (rlE W T cs ls (rs ++ [OH (sgW cs ls) W n]).length ((n:Int) - 1)) _ ⟨n,rs ++ [OH (sgW cs ls) W n],rfl,by omega,by rw [← ho,H4]; simp,rfl,rfl⟩
   rw [PP,bh,List.length_append,List.length_singleton] at nx
   have body:= sr W T cs ls rs n hW6 hT6 (by omega) hl' hll hw
   simp [BJ,w0]
   refine ⟨by omega,?_⟩
   refine body _ ?_
   intro E g1 g2 g5 g6 g7
   have tk:List.take W (u8s ((OH (sgW cs ls) W n).map toI)) = u8s ((OH (sgW cs ls) W n).map toI):= List.take_of_length_le (by simp)
   have hst:= mB (OH (sgW cs ls) W n)
   have hrw:W ≤ (OH (sgW cs ls) W n).length:= by simp
   generalize OH (sgW cs ls) W n = row at *
   rw [List.map_map] at hst
   simp [g1,g2,g5,g6,g7,tk,hst,hrw,kv]
   exact ⟨by omega,by omega,_,by omega,nx⟩
theorem W3 (W T:Int) (cs:List Bool) (ls:List Int) (hr:Am W T cs = true) (hy:AR W T cs ls = true):
  SoundAt Tryz.prog PI [.agg [.v (.int .i64 W),.v (.int .i64 T),.sl 1 1 (AC cs)],.sl 1 1 (AB ls)] (.v (tx (Vo W T cs ls))) [.bot,.bot]:= by
 have hr':= hr
 simp only [Am,decide_eq_true_eq] at hr'
 obtain ⟨w,rfl⟩:∃ w:Nat,W = w:= ⟨W.toNat,by omega⟩
 obtain ⟨t,rfl⟩:∃ t:Nat,T = t:= ⟨T.toNat,by omega⟩
 have hll:ls.length = cs.length:= by simp only [AR,Bool.and_eq_true,decide_eq_true_eq] at hy; exact hy.1
 have hp2:(w:Int) * t ≤ 36:= by
  have:w * t ≤ 6 * 6:= Nat.mul_le_mul (by omega) (by omega)
  have e:(w:Int) * t = ((w * t:Nat):Int):= by simp
  omega
 have pv:= Mv w t cs ls (by omega) (by omega)
 rw [hr,hy] at pv
 have rt:= U6 w t cs ls hr hll (aI hy)
 refine AG (md:= mdT) (ms:= [false,false]) Wz (by simp) ?_
 rw [Vo]
 simp only [Int.toNat_natCast]
 simp [PJ]
 refine AA pv ?_
 simp
 refine AA rt ?_
 simp
def fZ (b:Bool):List UInt8:= if b then [121,101,115] else [110,111]
def okT (b:Bool):List UInt8:= if b then [111,107] else [110,111]
def U7:List UInt8:= [110,111,110,101]
def mC (W T:Int) (cs:List Bool) (ds ls:List Int) (ps:List (List Int)) (s:List UInt8):List UInt8:=
 if s = [115,104,111,119] then Vo W T cs ls else
 if s = [100,105,103,105,116,115] then TF W T cs ds else
 if s = [108,101,102,116] then RU (BM cs - 2 * KT ls) else
 if s = [112,97,115,116] then RU ps.length else
 if s = [115,111,108,118,101,100] then fZ (H9 cs ls) else
 if s = [100,101,97,100] then fZ (Ud W T cs ds ls) else
 if s = [104,105,110,116] then (if JF W T cs ds ls < 0 then U7 else Bu (0,JF W T cs ds ls,Mt W T cs ds ls)) else
 [119,104,97,116]
def YO (W T:Int) (cs:List Bool) (ds ls:List Int):List jU:= if bK W T cs ds (Ac cs) = true then d7 ls (ZV W T cs ds (Ac cs)) else []
def BZ (W T:Int) (cs:List Bool) (ds ls:List Int) (ps:List (List Int)) (s:List UInt8):List Int × List (List Int) × List UInt8:=
 if Co s = true then ((doI W T cs ds ls ps (Ci s).1 (Ci s).2.1 (Ci s).2.2).2.1,(doI W T cs ds ls ps (Ci s).1 (Ci s).2.1 (Ci s).2.2).2.2,okT (doI W T cs ds ls ps (Ci s).1 (Ci s).2.1 (Ci s).2.2).1) else
 if s = [101,110,100] then ((jV W T cs ds ls ps (YO W T cs ds ls)).1,(jV W T cs ds ls ps (YO W T cs ds ls)).2.1,if YO W T cs ds ls = [] then U7 else [111,107]) else
 (ls,ps,mC W T cs ds ls ps s)
theorem Tx {W T:Int} {cs:List Bool} {ds ls:List Int} {ps:List (List Int)} (s:List UInt8) (h:Aj W T cs ds ls ps = true):Aj W T cs ds (BZ W T cs ds ls ps s).1 (BZ W T cs ds ls ps s).2.1 = true:= by
 unfold BZ
 split
 ·exact cY _ _ _ h
 split
 ·exact lz _ _ _ h
 ·exact h
theorem jC {W T:Int} {cs:List Bool} {ds ls:List Int} {ps:List (List Int)} (s:List UInt8) (h:(BZ W T cs ds ls ps s).2.2 ≠ [111,107]):(BZ W T cs ds ls ps s).1 = ls ∧ (BZ W T cs ds ls ps s).2.1 = ps:= by
 unfold BZ at h ⊢
 split
 ·rename_i hr
  rw [if_pos hr] at h
  cases hd:(doI W T cs ds ls ps (Ci s).1 (Ci s).2.1 (Ci s).2.2).1 with
  | true => rw [hd] at h; exact absurd rfl h
  | false => rw [iq hd]; exact ⟨rfl,rfl⟩
 rename_i hr
 rw [if_neg hr] at h
 split
 ·rename_i he
  rw [if_pos he] at h
  by_cases hx:YO W T cs ds ls = []
  ·rw [hx]; exact ⟨rfl,rfl⟩
  ·rw [if_neg hx] at h; exact absurd rfl h
 ·exact ⟨rfl,rfl⟩
theorem jD {s:List UInt8} (h:Co s = true):0 ≤ (Ci s).2.1 ∧ (Ci s).2.1 ≤ 99:= by
 have:= (Vk h).2
 simp only [Dw,Bool.and_eq_true,decide_eq_true_eq] at this
 exact this.1.2
@[simp] def mdl (f:Nat):List Bool:= if f = 65 ∨ f = Al then [true,false] else []
theorem YP (b:Bool):SoundAt Tryz.prog YM [.v (.bool b)] (.v (tx (fZ b))) [.bot]:= by
 refine AG (md:= mdl) (ms:= [false]) fR (by simp) ?_
 cases b <;> simp [YN,fZ]
theorem oB (W T:Int) (cs:List Bool) (ds ls:List Int) (ps:List (List Int)) (s:List UInt8) (h:Aj W T cs ds ls ps = true) (hs:s.length < 2 ^ 30) (hr:Co s = true):
  SoundAt Tryz.prog Al [Pu W T cs ds ls ps,.v (tx s)] (.v (tx (BZ W T cs ds ls ps s).2.2)) [Pu W T cs ds (BZ W T cs ds ls ps s).1 (BZ W T cs ds ls ps s).2.1,.bot]:= by
 have rd:= BI s hs
 have dd:= QN W T cs ds ls ps (Ci s).1 (Ci s).2.1 (Ci s).2.2 h (by have:= jD hr; omega)
 refine AG (md:= mdl) (ms:= [true,false]) BA (by simp) ?_
 rw [hr] at rd
 simp only [BZ,hr,if_true]
 simp only [Fg,BG] at rd
 generalize Ci s = d at *
 generalize doI W T cs ds ls ps d.1 d.2.1 d.2.2 = r at *
 obtain ⟨b,l2,p2⟩:= r
 have htl:(AB l2).take l2.length = AB l2:= AE l2
 have hto:(oss p2).take p2.length = oss p2:= List.take_of_length_le (by simp [oss])
 simp [Ar]
 refine AA rd ?_
 simp
 refine AA dd ?_
 cases b <;> simp [okT,htl,hto]
theorem W4:Co [101,110,100] = false:= by decide
theorem ZY:Co [115,104,111,119] = false:= by decide
theorem Sr:Co [100,105,103,105,116,115] = false:= by decide
theorem ZZ:Co [108,101,102,116] = false:= by decide
theorem Za:Co [112,97,115,116] = false:= by decide
theorem Ss:Co [115,111,108,118,101,100] = false:= by decide
theorem Zb:Co [100,101,97,100] = false:= by decide
theorem Zc:Co [104,105,110,116] = false:= by decide
theorem Ch {s:List UInt8} (h:Co s = false):Ci s = (0,0,0):= by simp [Ci,h]
theorem cf {W T:Int} {cs:List Bool} {ds ls:List Int} {ps:List (List Int)} (h:Aj W T cs ds ls ps = true):qX W T cs ds ls ps = YO W T cs ds ls:= by
 obtain ⟨hf,_,_⟩:= AW h
 obtain ⟨hr,_,_,_⟩:= AM hf
 have eb:Xg W T cs = Ac cs:= by simp [Xg,hr]
 unfold qX YO
 rw [h,eb]
 rfl
theorem eF {W T:Int} {cs:List Bool} {ds ls:List Int} {ps:List (List Int)} (h:Aj W T cs ds ls ps = true):0 ≤ (BM cs:Int) - 2 * KT ls:= by
 obtain ⟨hf,_,_⟩:= AW h
 obtain ⟨hr,_,hy,_⟩:= AM hf
 have:= ca hr hy
 omega
theorem ko (W T:Int) (cs:List Bool) (ds ls:List Int) (ps:List (List Int)) (h:Aj W T cs ds ls ps = true):
  SoundAt Tryz.prog Al [Pu W T cs ds ls ps,.v (tx [101,110,100])] (.v (tx (BZ W T cs ds ls ps [101,110,100]).2.2)) [Pu W T cs ds (BZ W T cs ds ls ps [101,110,100]).1 (BZ W T cs ds ls ps [101,110,100]).2.1,.bot]:= by
 have rd:= BI [101,110,100] (by decide)
 have ed:= Pf W T cs ds ls ps h
 have ee:(if bK W T cs ds (Ac cs) = true then d7 ls (ZV W T cs ds (Ac cs)) else []) = YO W T cs ds ls:= rfl
 rw [ee] at ed
 rw [W4,Ch W4] at rd
 simp only [Fg,BG] at rd
 simp only [BZ,W4,if_true,Bool.false_eq_true,if_false]
 refine AG (md:= mdl) (ms:= [true,false]) BA (by simp) ?_
 have hsp:∀ d ∈ YO W T cs ds ls,d.2.1 ≤ 9223372036854775807:= by
  intro d hd
  unfold YO at hd
  split at hd
  ·rename_i hsb
   have:= ix hd
   obtain ⟨hf,_,_⟩:= AW h
   obtain ⟨hr,_,_,_⟩:= AM hf
   have l36:= Ab hr
   have:= (Tq h hsb).2.1
   omega
  ·simp at hd
 have hx72:(YO W T cs ds ls).length ≤ 72:= by rw [← cf h]; exact Wk W T cs ds ls ps
 generalize YO W T cs ds ls = xs at *
 have htl:(AB ls).take ls.length = AB ls:= AE ls
 have hto:(oss ps).take ps.length = oss ps:= List.take_of_length_le (by simp [oss])
 simp [Ar]
 refine AA rd ?_
 simp
 refine AA ed ?_
 simp
 refine AF (fun m E H => ∃ (i:Nat) (l:List Int) (p:List (List Int)) (n:Nat),m = xs.length - i ∧ i ≤ xs.length ∧ L8 (qW W T cs ds) ls ps (xs.take i) = (l,p,n) ∧ Aj W T cs ds l p = true ∧
  E = [(0,.lp 0 0 0 0),(7,.ls 3 1 0 xs.length),(26,.ls 3 1 0 xs.length),(27,.v (.int .i64 xs.length)),(28,.v (.int .i64 i)),(126,.lp 0 0 0 0)] ∧
  H = [some (.box [.v (.int .i64 W),.v (.int .i64 T),.ls 1 2 0 cs.length,.ls 1 3 0 ds.length,.ls 1 4 0 l.length,.ls 1 5 0 p.length]),some (.arr 3 (dsA xs)),
    some (.arr 1 (AC cs)),some (.arr 1 (AB ds)),some (.arr 1 (AB l)),some (.arr 1 (oss p))]) xs.length ⟨0,ls,ps,0,by simp,by omega,by simp [L8],h,by simp,by simp⟩ ?_
 rintro J hJ m E H ⟨i,l,p,n,rfl,hi,hrr,hb,rfl,rfl⟩
 have htl:(AB l).take l.length = AB l:= AE l
 have hto:(oss p).take p.length = oss p:= List.take_of_length_le (by simp [oss])
 by_cases hlt:i < xs.length
 ·have hd:= QN W T cs ds l p xs[i].1 xs[i].2.1 xs[i].2.2 hb (hsp _ (List.getElem_mem hlt))
  have hb2:= cY xs[i].1 xs[i].2.1 xs[i].2.2 hb
  have hr2:L8 (qW W T cs ds) ls ps (xs.take (i + 1)) = ((doI W T cs ds l p xs[i].1 xs[i].2.1 xs[i].2.2).2.1,(doI W T cs ds l p xs[i].1 xs[i].2.1 xs[i].2.2).2.2,n + if (doI W T cs ds l p xs[i].1 xs[i].2.1 xs[i].2.2).1 then 1 else 0):= by
   rw [List.take_succ_eq_append_getElem hlt,Qp,hrr]
  generalize doI W T cs ds l p xs[i].1 xs[i].2.1 xs[i].2.2 = r at *
  obtain ⟨b,l2,p2⟩:= r
  have htl2:(AB l2).take l2.length = AB l2:= AE l2
  have hto2:(oss p2).take p2.length = oss p2:= List.take_of_length_le (by simp [oss])
  simp only at hd hb2 hr2
  have hg:= dZ hlt
  simp [Du,hlt,hg,BG]
  refine AA hd ?_
  simp
  exact ⟨by omega,_,by omega,hJ _ _ _ ⟨i + 1,l2,p2,_,rfl,hlt,hr2,hb2,by simp,by simp⟩⟩
 ·have:i = xs.length:= by omega
  subst this
  rw [List.take_length] at hrr
  have e:jV W T cs ds ls ps xs = (l,p,n):= hrr
  rw [e]
  by_cases hx:xs = []
  ·simp [Du,hx,htl,hto,U7]
  ·have hx0:¬ xs.length = 0:= fun e => hx (List.eq_nil_of_length_eq_zero e)
   simp [Du,hx,hx0,htl,hto]
theorem jE (W T:Int) (cs:List Bool) (ds ls:List Int) (ps:List (List Int)) (h:Aj W T cs ds ls ps = true):
  SoundAt Tryz.prog Al [Pu W T cs ds ls ps,.v (tx [115,104,111,119])] (.v (tx (Vo W T cs ls))) [Pu W T cs ds ls ps,.bot]:= by
 obtain ⟨hf,h20,hpf⟩:= AW h
 obtain ⟨hr,hdg,hy,ho⟩:= AM hf
 have rd:= BI [115,104,111,119] (by decide)
 have lt:= W3 W T cs ls hr hy
 rw [ZY,Ch ZY] at rd
 simp only [Fg,BG] at rd
 generalize Vo W T cs ls = t at *
 have htl:(AB ls).take ls.length = AB ls:= AE ls
 have hto:(oss ps).take ps.length = oss ps:= List.take_of_length_le (by simp [oss])
 refine AG (md:= mdl) (ms:= [true,false]) BA (by simp) ?_
 simp [Ar]
 refine AA rd ?_
 simp
 (repeat' first | omega | apply And.intro) <;>
 ·refine AA lt ?_
  simp [htl,hto]
theorem cg (W T:Int) (cs:List Bool) (ds ls:List Int) (ps:List (List Int)) (h:Aj W T cs ds ls ps = true):
  SoundAt Tryz.prog Al [Pu W T cs ds ls ps,.v (tx [100,105,103,105,116,115])] (.v (tx (TF W T cs ds))) [Pu W T cs ds ls ps,.bot]:= by
 obtain ⟨hf,h20,hpf⟩:= AW h
 obtain ⟨hr,hdg,hy,ho⟩:= AM hf
 obtain ⟨l36,ld,ll⟩:= CU hf
 have rd:= BI [100,105,103,105,116,115] (by decide)
 obtain ⟨w,rfl⟩:∃ w:Nat,W = w:= ⟨W.toNat,by have:= hr; simp only [Am,decide_eq_true_eq] at this; omega⟩
 obtain ⟨t,rfl⟩:∃ t:Nat,T = t:= ⟨T.toNat,by have:= hr; simp only [Am,decide_eq_true_eq] at this; omega⟩
 have pt:= Tv w t cs ds (by omega) (by omega)
 rw [Sr,Ch Sr] at rd
 simp only [Fg,BG] at rd
 have htl:(AB ls).take ls.length = AB ls:= AE ls
 have hto:(oss ps).take ps.length = oss ps:= List.take_of_length_le (by simp [oss])
 generalize TF w t cs ds = x at *
 refine AG (md:= mdl) (ms:= [true,false]) BA (by simp) ?_
 simp [Ar]
 refine AA rd ?_
 simp
 (repeat' first | omega | apply And.intro) <;>
 ·refine AA pt ?_
  simp [htl,hto]
theorem jF (W T:Int) (cs:List Bool) (ds ls:List Int) (ps:List (List Int)) (h:Aj W T cs ds ls ps = true):
  SoundAt Tryz.prog Al [Pu W T cs ds ls ps,.v (tx [108,101,102,116])] (.v (tx (RU (BM cs - 2 * KT ls)))) [Pu W T cs ds ls ps,.bot]:= by
 obtain ⟨hf,h20,hpf⟩:= AW h
 obtain ⟨hr,hdg,hy,ho⟩:= AM hf
 obtain ⟨l36,ld,ll⟩:= CU hf
 have rd:= BI [108,101,102,116] (by decide)
 have lf:= Uk W T cs ds ls ps (by omega) (by omega)
 have h0:= eF h
 have h1:= JO cs
 have it:= Lk ((BM cs:Int) - 2 * KT ls) h0 (by omega)
 rw [ZZ,Ch ZZ] at rd
 simp only [Fg,BG] at rd
 have htl:(AB ls).take ls.length = AB ls:= AE ls
 have hto:(oss ps).take ps.length = oss ps:= List.take_of_length_le (by simp [oss])
 refine AG (md:= mdl) (ms:= [true,false]) BA (by simp) ?_
 simp [Ar]
 refine AA rd ?_
 simp
 refine AA lf ?_
 simp
 refine AA it ?_
 simp [htl,hto]
theorem jG (W T:Int) (cs:List Bool) (ds ls:List Int) (ps:List (List Int)) (h:Aj W T cs ds ls ps = true):
  SoundAt Tryz.prog Al [Pu W T cs ds ls ps,.v (tx [112,97,115,116])] (.v (tx (RU (ps.length:Int)))) [Pu W T cs ds ls ps,.bot]:= by
 obtain ⟨hf,h20,hpf⟩:= AW h
 obtain ⟨hr,hdg,hy,ho⟩:= AM hf
 obtain ⟨l36,ld,ll⟩:= CU hf
 have rd:= BI [112,97,115,116] (by decide)
 have it:= Lk (ps.length:Int) (by omega) (by omega)
 rw [Za,Ch Za] at rd
 simp only [Fg,BG] at rd
 have htl:(AB ls).take ls.length = AB ls:= AE ls
 have hto:(oss ps).take ps.length = oss ps:= List.take_of_length_le (by simp [oss])
 refine AG (md:= mdl) (ms:= [true,false]) BA (by simp) ?_
 simp [Ar]
 refine AA rd ?_
 simp
 refine AA it ?_
 simp [htl,hto]
theorem ch (W T:Int) (cs:List Bool) (ds ls:List Int) (ps:List (List Int)) (h:Aj W T cs ds ls ps = true):
  SoundAt Tryz.prog Al [Pu W T cs ds ls ps,.v (tx [115,111,108,118,101,100])] (.v (tx (fZ (H9 cs ls)))) [Pu W T cs ds ls ps,.bot]:= by
 obtain ⟨hf,h20,hpf⟩:= AW h
 obtain ⟨hr,hdg,hy,ho⟩:= AM hf
 obtain ⟨l36,ld,ll⟩:= CU hf
 have rd:= BI [115,111,108,118,101,100] (by decide)
 have fu:= Ku W T cs ls (by omega) ll
 have ye:= YP (H9 cs ls)
 rw [Ss,Ch Ss] at rd
 simp only [Fg,BG] at rd
 have htl:(AB ls).take ls.length = AB ls:= AE ls
 have hto:(oss ps).take ps.length = oss ps:= List.take_of_length_le (by simp [oss])
 refine AG (md:= mdl) (ms:= [true,false]) BA (by simp) ?_
 simp [Ar]
 refine AA rd ?_
 simp
 (repeat' first | omega | apply And.intro) <;>
 ·refine AA fu ?_
  simp
  refine AA ye ?_
  simp [htl,hto]
theorem jH (W T:Int) (cs:List Bool) (ds ls:List Int) (ps:List (List Int)) (h:Aj W T cs ds ls ps = true):
  SoundAt Tryz.prog Al [Pu W T cs ds ls ps,.v (tx [100,101,97,100])] (.v (tx (fZ (Ud W T cs ds ls)))) [Pu W T cs ds ls ps,.bot]:= by
 obtain ⟨hf,h20,hpf⟩:= AW h
 obtain ⟨hr,hdg,hy,ho⟩:= AM hf
 obtain ⟨l36,ld,ll⟩:= CU hf
 have rd:= BI [100,101,97,100] (by decide)
 have fu:= cD W T cs ds ls (by omega) (by omega) (by omega)
 have ye:= YP (Ud W T cs ds ls)
 rw [Zb,Ch Zb] at rd
 simp only [Fg,BG] at rd
 have htl:(AB ls).take ls.length = AB ls:= AE ls
 have hto:(oss ps).take ps.length = oss ps:= List.take_of_length_le (by simp [oss])
 refine AG (md:= mdl) (ms:= [true,false]) BA (by simp) ?_
 simp [Ar]
 refine AA rd ?_
 simp
 (repeat' first | omega | apply And.intro) <;>
 ·refine AA fu ?_
  simp
  refine AA ye ?_
  simp [htl,hto]
theorem jI (W T:Int) (cs:List Bool) (ds ls:List Int) (ps:List (List Int)) (h:Aj W T cs ds ls ps = true):
  SoundAt Tryz.prog Al [Pu W T cs ds ls ps,.v (tx [104,105,110,116])] (.v (tx (if JF W T cs ds ls < 0 then U7 else Bu (0,JF W T cs ds ls,Mt W T cs ds ls)))) [Pu W T cs ds ls ps,.bot]:= by
 obtain ⟨hf,h20,hpf⟩:= AW h
 obtain ⟨hr,hdg,hy,ho⟩:= AM hf
 obtain ⟨l36,ld,ll⟩:= CU hf
 have rd:= BI [104,105,110,116] (by decide)
 have hi:= ZJ W T cs ds ls (by omega) (by omega) (by omega)
 have dt:= PC (0,JF W T cs ds ls,Mt W T cs ds ls)
 simp only [BG] at dt
 rw [Zc,Ch Zc] at rd
 simp only [Fg,BG] at rd
 have htl:(AB ls).take ls.length = AB ls:= AE ls
 have hto:(oss ps).take ps.length = oss ps:= List.take_of_length_le (by simp [oss])
 generalize JF W T cs ds ls = c at *
 generalize Mt W T cs ds ls = x at *
 refine AG (md:= mdl) (ms:= [true,false]) BA (by simp) ?_
 simp [Ar]
 refine AA rd ?_
 simp
 (repeat' first | omega | apply And.intro) <;>
 ·refine AA hi ?_
  by_cases hc:c < 0
  ·simp [hc,htl,hto,U7]
  ·simp [hc]
   refine AA dt ?_
   simp [htl,hto]
theorem Np (W T:Int) (cs:List Bool) (ds ls:List Int) (ps:List (List Int)) (s:List UInt8) (h:Aj W T cs ds ls ps = true) (hs:s.length < 2 ^ 30):
  SoundAt Tryz.prog Al [Pu W T cs ds ls ps,.v (tx s)] (.v (tx (BZ W T cs ds ls ps s).2.2)) [Pu W T cs ds (BZ W T cs ds ls ps s).1 (BZ W T cs ds ls ps s).2.1,.bot]:= by
 cases hr:Co s with
 | true => exact oB W T cs ds ls ps s h hs hr
 | false =>
 by_cases h0:s = [101,110,100]
 ·subst h0; exact ko W T cs ds ls ps h
 have e:BZ W T cs ds ls ps s = (ls,ps,mC W T cs ds ls ps s):= by simp [BZ,hr,h0]
 rw [e]
 simp only [mC]
 by_cases h1:s = [115,104,111,119]
 ·subst h1; exact jE W T cs ds ls ps h
 rw [if_neg h1]
 by_cases h2:s = [100,105,103,105,116,115]
 ·subst h2; exact cg W T cs ds ls ps h
 rw [if_neg h2]
 by_cases h3:s = [108,101,102,116]
 ·subst h3; exact jF W T cs ds ls ps h
 rw [if_neg h3]
 by_cases h4:s = [112,97,115,116]
 ·subst h4; exact jG W T cs ds ls ps h
 rw [if_neg h4]
 by_cases h5:s = [115,111,108,118,101,100]
 ·subst h5; exact ch W T cs ds ls ps h
 rw [if_neg h5]
 by_cases h6:s = [100,101,97,100]
 ·subst h6; exact jH W T cs ds ls ps h
 rw [if_neg h6]
 by_cases h7:s = [104,105,110,116]
 ·subst h7; exact jI W T cs ds ls ps h
 rw [if_neg h7]
 have rd:= BI s hs
 rw [hr,Ch hr] at rd
 simp only [Fg,BG] at rd
 have htl:(AB ls).take ls.length = AB ls:= AE ls
 have hto:(oss ps).take ps.length = oss ps:= List.take_of_length_le (by simp [oss])
 refine AG (md:= mdl) (ms:= [true,false]) BA (by simp) ?_
 simp [Ar]
 refine AA rd ?_
 simp [h0,h1,h2,h3,h4,h5,h6,h7,htl,hto]
theorem Ll (b:Bool) (s:List UInt8):SoundAt Tryz.prog QS [.v (.bool b),.v (tx s)] (.v (tx (if b then s else [110,111]))) [.bot,.bot]:= by
 refine AG (md:= mdl) (ms:= [false,false]) Xj (by simp) ?_
 cases b <;> simp [QT]
theorem A9 {W T:Int} {cs:List Bool} {ds ls:List Int} {ps:List (List Int)} (h:Aj W T cs ds ls ps = true):SoundAt Tryz.prog Ht [bkA W T cs ds ls ps] (bkO W T cs ds ls ps) [.bot]:= by
 obtain ⟨hf,h20,hpf⟩:= AW h
 obtain ⟨hr,hdg,hy,ho⟩:= AM hf
 obtain ⟨l36,ld,ll⟩:= CU hf
 have hnew:= Lf W T cs ds (by omega) (by omega)
 have enew:kW W T cs ds = bkO W T cs ds (Ac cs) []:= by simp [kW,hr,hdg]
 rw [enew] at hnew
 exact QC QD W T cs ds ls (Ac cs) ps (by omega) (by omega) (by omega) (by omega) (fun p hp => by have:= CU (hpf p hp); omega) (by simp [Ac]; omega) hnew
def W5 (mk:List Int → List (List Int) → AV) (no:AV) (W T:Int) (cs:List Bool) (ds ls:List Int) (ps:List (List Int)) (s:List UInt8):AV:=
 if Aj W T cs ds ls ps = true then .tup [mk (BZ W T cs ds ls ps s).1 (BZ W T cs ds ls ps s).2.1,.v (tx (BZ W T cs ds ls ps s).2.2)] else .tup [no,.v (tx [])]
theorem KM (W T:Int) (cs:List Bool) (ds ls:List Int) (ps:List (List Int)) (s:List UInt8) (hc:cs.length ≤ 2 ^ 30) (hd:ds.length ≤ 2 ^ 30) (hl:ls.length ≤ 2 ^ 30) (hb:ps.length ≤ 2 ^ 30) (hp:∀ p ∈ ps,p.length ≤ 2 ^ 30) (hs:s.length < 2 ^ 30):
  SoundAt Tryz.prog KK [bkA W T cs ds ls ps,.v (tx s)] (W5 (bkO W T cs ds) (bkO 0 0 [] [] [] []) W T cs ds ls ps s) [.bot,.bot]:= by
 have hv:= Fj W T cs ds ls ps (by omega) (by omega) (by omega) (by omega) (fun p h => by have:= hp p h; omega)
 refine AG (md:= mdl) (ms:= [false,false]) W0 (by simp) ?_
 unfold W5
 cases h:Aj W T cs ds ls ps with
 | false =>
   rw [h] at hv
   simp [KL]
   refine AA hv ?_
   simp
 | true =>
   rw [h] at hv
   obtain ⟨hf,h20,hpf⟩:= AW h
   obtain ⟨l36,ld,ll⟩:= CU hf
   have hcopy:= LM W T cs ds ls ps (by omega) (by omega) (by omega) (by omega) (fun p hp => by have:= CU (hpf p hp); omega)
   have hln:= Np W T cs ds ls ps s h hs
   generalize BZ W T cs ds ls ps s = r at *
   obtain ⟨l2,p2,t⟩:= r
   have htl:(AB l2).take l2.length = AB l2:= AE l2
   have hto:(oss p2).take p2.length = oss p2:= List.take_of_length_le (by simp [oss])
   simp [KL]
   refine AA hv ?_
   simp
   refine AA hcopy ?_
   simp
   refine AA hln ?_
   simp [htl,hto]
theorem FP {W T:Int} {cs:List Bool} {ds ls:List Int} {ps:List (List Int)} (h:Aj W T cs ds ls ps = true):cs.length ≤ 36 ∧ ds.length ≤ 36 ∧ ls.length ≤ 36 ∧ ps.length ≤ 20 ∧ (∀ p ∈ ps,p.length ≤ 40) ∧
  SoundAt Tryz.prog Fi [bkA W T cs ds ls ps] (.v (.bool true)) [.bot]:= by
 obtain ⟨hf,h20,hpf⟩:= AW h
 obtain ⟨l36,ld,ll⟩:= CU hf
 have hpl:∀ p ∈ ps,p.length ≤ 40:= fun p hp => by have:= CU (hpf p hp); omega
 have val:= BK W T cs ds ls ps (by omega) (by omega) (by omega) (by omega) (fun p hp => by have:= hpl p hp; omega)
 rw [h] at val
 exact ⟨l36,by omega,by omega,h20,hpl,val⟩
theorem tJ (W T:Int) (cs:List Bool) (ds ls:List Int) (ps:List (List Int)) (s:List UInt8) (h:Aj W T cs ds ls ps = true) (hs:s.length < 2 ^ 30) (hr:Co s = true):
  SoundAt Tryz.prog Az [bkA W T cs ds ls ps,.v (tx s)] (.tup [bkO W T cs ds (BZ W T cs ds ls ps s).1 (BZ W T cs ds ls ps s).2.1,.v (tx (BZ W T cs ds ls ps s).2.2)]) [.bot,.bot]:= by
 obtain ⟨hc,hd,hl,hb,hp,val⟩:= FP h
 have rd:= BH s hs
 have cp:= A9 h
 have dd:= M1 W T cs ds ls ps (Ci s).1 (Ci s).2.1 (Ci s).2.2 (by omega) (by omega) (by omega) (by omega) hp
 rw [h] at dd
 simp only [if_true,Bool.true_and] at dd
 have wd:= Ll (doI W T cs ds ls ps (Ci s).1 (Ci s).2.1 (Ci s).2.2).1 [111,107]
 refine AG (md:= mdl) (ms:= [false,false]) A0 (by simp) ?_
 rw [hr] at rd
 simp only [BZ,hr,if_true]
 simp only [Fg,BG] at rd
 generalize Ci s = d at *
 generalize doI W T cs ds ls ps d.1 d.2.1 d.2.2 = r at *
 obtain ⟨b,l2,p2⟩:= r
 have htl:(AB l2).take l2.length = AB l2:= AE l2
 have hto:(oss p2).take p2.length = oss p2:= List.take_of_length_le (by simp [oss])
 simp [Ap]
 refine AA val ?_
 simp
 refine AA rd ?_
 simp
 refine AA cp ?_
 simp
 refine AA dd ?_
 simp
 (repeat' first | omega | apply And.intro) <;>
 ·refine AA wd ?_
  cases b <;> simp [htl,hto,okT]
theorem qa (W T:Int) (cs:List Bool) (ds ls:List Int) (ps:List (List Int)) (h:Aj W T cs ds ls ps = true):
  SoundAt Tryz.prog Az [bkA W T cs ds ls ps,.v (tx [115,104,111,119])] (.tup [bkO W T cs ds ls ps,.v (tx (Vo W T cs ls))]) [.bot,.bot]:= by
 obtain ⟨hc,hd,hl,hb,hp,val⟩:= FP h
 obtain ⟨hf,h20,hpf⟩:= AW h
 obtain ⟨hr,hdg,hy,ho⟩:= AM hf
 have rd:= BH [115,104,111,119] (by decide)
 have cp:= A9 h
 have lt:= W1 W T cs ls hr hy
 rw [ZY,Ch ZY] at rd
 simp only [Fg,BG] at rd
 have htl:(AB ls).take ls.length = AB ls:= AE ls
 have hto:(oss ps).take ps.length = oss ps:= List.take_of_length_le (by simp [oss])
 generalize Vo W T cs ls = x at *
 refine AG (md:= mdl) (ms:= [false,false]) A0 (by simp) ?_
 simp [Ap]
 refine AA val ?_
 simp
 refine AA rd ?_
 simp
 refine AA cp ?_
 simp
 (repeat' first | omega | apply And.intro) <;>
 ·refine AA lt ?_
  simp [htl,hto]
theorem kp (W T:Int) (cs:List Bool) (ds ls:List Int) (ps:List (List Int)) (h:Aj W T cs ds ls ps = true):
  SoundAt Tryz.prog Az [bkA W T cs ds ls ps,.v (tx [100,105,103,105,116,115])] (.tup [bkO W T cs ds ls ps,.v (tx (TF W T cs ds))]) [.bot,.bot]:= by
 obtain ⟨hc,hd,hl,hb,hp,val⟩:= FP h
 obtain ⟨hf,h20,hpf⟩:= AW h
 obtain ⟨hr,hdg,hy,ho⟩:= AM hf
 have rd:= BH [100,105,103,105,116,115] (by decide)
 have cp:= A9 h
 obtain ⟨w,rfl⟩:∃ w:Nat,W = w:= ⟨W.toNat,by have:= hr; simp only [Am,decide_eq_true_eq] at this; omega⟩
 obtain ⟨t,rfl⟩:∃ t:Nat,T = t:= ⟨T.toNat,by have:= hr; simp only [Am,decide_eq_true_eq] at this; omega⟩
 have pt:= Tu w t cs ds (by omega) (by omega) (by have:= hr; simp only [Am,decide_eq_true_eq] at this; omega)
 rw [Sr,Ch Sr] at rd
 simp only [Fg,BG] at rd
 have htl:(AB ls).take ls.length = AB ls:= AE ls
 have hto:(oss ps).take ps.length = oss ps:= List.take_of_length_le (by simp [oss])
 generalize TF w t cs ds = x at *
 refine AG (md:= mdl) (ms:= [false,false]) A0 (by simp) ?_
 simp [Ap]
 refine AA val ?_
 simp
 refine AA rd ?_
 simp
 refine AA cp ?_
 simp
 (repeat' first | omega | apply And.intro) <;>
 ·refine AA pt ?_
  simp [htl,hto]
theorem qb (W T:Int) (cs:List Bool) (ds ls:List Int) (ps:List (List Int)) (h:Aj W T cs ds ls ps = true):
  SoundAt Tryz.prog Az [bkA W T cs ds ls ps,.v (tx [108,101,102,116])] (.tup [bkO W T cs ds ls ps,.v (tx (RU (BM cs - 2 * KT ls)))]) [.bot,.bot]:= by
 obtain ⟨hc,hd,hl,hb,hp,val⟩:= FP h
 obtain ⟨hf,h20,hpf⟩:= AW h
 obtain ⟨hr,hdg,hy,ho⟩:= AM hf
 have rd:= BH [108,101,102,116] (by decide)
 have cp:= A9 h
 have lf:= Ul W T cs ds ls ps (by omega) (by omega) (by omega) (by omega) (fun p hp1 => by have:= hp p hp1; omega)
 simp only [gw,h,if_true] at lf
 have h0:= eF h
 have h1:= JO cs
 have it:= Gs ((BM cs:Int) - 2 * KT ls) h0 (by omega)
 rw [ZZ,Ch ZZ] at rd
 simp only [Fg,BG] at rd
 have htl:(AB ls).take ls.length = AB ls:= AE ls
 have hto:(oss ps).take ps.length = oss ps:= List.take_of_length_le (by simp [oss])
 refine AG (md:= mdl) (ms:= [false,false]) A0 (by simp) ?_
 simp [Ap]
 refine AA val ?_
 simp
 refine AA rd ?_
 simp
 refine AA cp ?_
 simp
 (repeat' first | omega | apply And.intro) <;>
 ·refine AA lf ?_
  simp
  (repeat' first | omega | apply And.intro) <;>
  ·refine AA it ?_
   simp [htl,hto]
theorem qc (W T:Int) (cs:List Bool) (ds ls:List Int) (ps:List (List Int)) (h:Aj W T cs ds ls ps = true):
  SoundAt Tryz.prog Az [bkA W T cs ds ls ps,.v (tx [112,97,115,116])] (.tup [bkO W T cs ds ls ps,.v (tx (RU (ps.length:Int)))]) [.bot,.bot]:= by
 obtain ⟨hc,hd,hl,hb,hp,val⟩:= FP h
 obtain ⟨hf,h20,hpf⟩:= AW h
 obtain ⟨hr,hdg,hy,ho⟩:= AM hf
 have rd:= BH [112,97,115,116] (by decide)
 have cp:= A9 h
 have it:= Gs (ps.length:Int) (by omega) (by omega)
 rw [Za,Ch Za] at rd
 simp only [Fg,BG] at rd
 have htl:(AB ls).take ls.length = AB ls:= AE ls
 have hto:(oss ps).take ps.length = oss ps:= List.take_of_length_le (by simp [oss])
 refine AG (md:= mdl) (ms:= [false,false]) A0 (by simp) ?_
 simp [Ap]
 refine AA val ?_
 simp
 refine AA rd ?_
 simp
 refine AA cp ?_
 simp
 (repeat' first | omega | apply And.intro) <;>
 ·refine AA it ?_
  simp [htl,hto]
theorem kq (W T:Int) (cs:List Bool) (ds ls:List Int) (ps:List (List Int)) (h:Aj W T cs ds ls ps = true):
  SoundAt Tryz.prog Az [bkA W T cs ds ls ps,.v (tx [115,111,108,118,101,100])] (.tup [bkO W T cs ds ls ps,.v (tx (fZ (H9 cs ls)))]) [.bot,.bot]:= by
 obtain ⟨hc,hd,hl,hb,hp,val⟩:= FP h
 obtain ⟨hf,h20,hpf⟩:= AW h
 obtain ⟨hr,hdg,hy,ho⟩:= AM hf
 have rd:= BH [115,111,108,118,101,100] (by decide)
 have cp:= A9 h
 have fu:= TR W T cs ds ls ps (by omega) (by omega) (by omega) (by omega) (fun p hp1 => by have:= hp p hp1; omega)
 simp only [WC,h,Bool.true_and] at fu
 have ye:= Ll (H9 cs ls) [121,101,115]
 rw [Ss,Ch Ss] at rd
 simp only [Fg,BG] at rd
 have htl:(AB ls).take ls.length = AB ls:= AE ls
 have hto:(oss ps).take ps.length = oss ps:= List.take_of_length_le (by simp [oss])
 refine AG (md:= mdl) (ms:= [false,false]) A0 (by simp) ?_
 simp [Ap]
 refine AA val ?_
 simp
 refine AA rd ?_
 simp
 refine AA cp ?_
 simp
 (repeat' first | omega | apply And.intro) <;>
 ·refine AA fu ?_
  simp
  (repeat' first | omega | apply And.intro) <;>
  ·refine AA ye ?_
   simp [htl,hto,fZ]
set_option maxHeartbeats 4000000 in
theorem qd (W T:Int) (cs:List Bool) (ds ls:List Int) (ps:List (List Int)) (h:Aj W T cs ds ls ps = true):
  SoundAt Tryz.prog Az [bkA W T cs ds ls ps,.v (tx [100,101,97,100])] (.tup [bkO W T cs ds ls ps,.v (tx (fZ (Ud W T cs ds ls)))]) [.bot,.bot]:= by
 obtain ⟨hc,hd,hl,hb,hp,val⟩:= FP h
 obtain ⟨hf,h20,hpf⟩:= AW h
 obtain ⟨hr,hdg,hy,ho⟩:= AM hf
 have rd:= BH [100,101,97,100] (by decide)
 have cp:= A9 h
 have fu:= cE W T cs ds ls (by omega) (by omega) (by omega)
 have ye:= Ll (Ud W T cs ds ls) [121,101,115]
 rw [Zb,Ch Zb] at rd
 simp only [Fg,BG] at rd
 have htl:(AB ls).take ls.length = AB ls:= AE ls
 have hto:(oss ps).take ps.length = oss ps:= List.take_of_length_le (by simp [oss])
 refine AG (md:= mdl) (ms:= [false,false]) A0 (by simp) ?_
 simp [Ap]
 refine AA val ?_
 simp
 refine AA rd ?_
 simp
 refine AA cp ?_
 simp
 (repeat' first | omega | apply And.intro) <;>
 ·refine AA fu ?_
  simp
  (repeat' first | omega | apply And.intro) <;>
  ·refine AA ye ?_
   simp [htl,hto,fZ]
set_option maxHeartbeats 4000000 in
theorem qe (W T:Int) (cs:List Bool) (ds ls:List Int) (ps:List (List Int)) (h:Aj W T cs ds ls ps = true):
  SoundAt Tryz.prog Az [bkA W T cs ds ls ps,.v (tx [104,105,110,116])] (.tup [bkO W T cs ds ls ps,.v (tx (if JF W T cs ds ls < 0 then U7 else Bu (0,JF W T cs ds ls,Mt W T cs ds ls)))]) [.bot,.bot]:= by
 obtain ⟨hc,hd,hl,hb,hp,val⟩:= FP h
 obtain ⟨hf,h20,hpf⟩:= AW h
 obtain ⟨hr,hdg,hy,ho⟩:= AM hf
 have rd:= BH [104,105,110,116] (by decide)
 have cp:= A9 h
 have hi:= ZK W T cs ds ls (by omega) (by omega) (by omega)
 have dt:= KF (0,JF W T cs ds ls,Mt W T cs ds ls)
 simp only [BG] at dt
 rw [Zc,Ch Zc] at rd
 simp only [Fg,BG] at rd
 have htl:(AB ls).take ls.length = AB ls:= AE ls
 have hto:(oss ps).take ps.length = oss ps:= List.take_of_length_le (by simp [oss])
 generalize JF W T cs ds ls = c at *
 generalize Mt W T cs ds ls = x at *
 refine AG (md:= mdl) (ms:= [false,false]) A0 (by simp) ?_
 simp [Ap]
 refine AA val ?_
 simp
 refine AA rd ?_
 simp
 refine AA cp ?_
 simp
 (repeat' first | omega | apply And.intro) <;>
 ·refine AA hi ?_
  by_cases hc:c < 0
  ·simp [hc,htl,hto,U7]
  ·simp [hc]
   (repeat' first | omega | apply And.intro) <;>
   ·refine AA dt ?_
    simp [htl,hto]
set_option maxHeartbeats 4000000 in
theorem su (W T:Int) (cs:List Bool) (ds ls:List Int) (ps:List (List Int)) (h:Aj W T cs ds ls ps = true):
  SoundAt Tryz.prog Az [bkA W T cs ds ls ps,.v (tx [101,110,100])] (.tup [bkO W T cs ds (BZ W T cs ds ls ps [101,110,100]).1 (BZ W T cs ds ls ps [101,110,100]).2.1,.v (tx (BZ W T cs ds ls ps [101,110,100]).2.2)]) [.bot,.bot]:= by
 obtain ⟨hc,hd,hl,hb,hp,val⟩:= FP h
 have rd:= BH [101,110,100] (by decide)
 have cp:= A9 h
 have ed:= Wh W T cs ds ls ps (by omega) (by omega) (by omega) (by omega) (fun p hp1 => by have:= hp p hp1; omega)
 rw [cf h] at ed
 have hx72:(YO W T cs ds ls).length ≤ 72:= by rw [← cf h]; exact Wk W T cs ds ls ps
 rw [W4,Ch W4] at rd
 simp only [Fg,BG] at rd
 simp only [BZ,W4,if_true,Bool.false_eq_true,if_false]
 refine AG (md:= mdl) (ms:= [false,false]) A0 (by simp) ?_
 generalize YO W T cs ds ls = xs at *
 simp [Ap]
 refine AA val ?_
 simp
 refine AA rd ?_
 simp
 refine AA cp ?_
 simp
 refine AA ed ?_
 simp
 refine AF (fun m E H => ∃ (i:Nat) (l:List Int) (p:List (List Int)) (n:Nat),m = xs.length - i ∧ i ≤ xs.length ∧ L8 (qW W T cs ds) ls ps (xs.take i) = (l,p,n) ∧ Aj W T cs ds l p = true ∧
  E = [(4,.lp 0 0 0 0),(8,.lp 0 1 0 0),(11,.ls 3 2 0 xs.length),(12,.v (.int .i64 i))] ∧
  H = [some (.box [.v (.int .i64 0),.v (.int .i64 0),.os 1 [],.os 1 [],.os 1 [],.os 1 []]),some (.box [.v (.int .i64 W),.v (.int .i64 T),.ls 1 3 0 cs.length,.ls 1 4 0 ds.length,.ls 1 5 0 l.length,.ls 1 6 0 p.length]),some (.arr 3 (dsA xs)),
    some (.arr 1 (AC cs)),some (.arr 1 (AB ds)),some (.arr 1 (AB l)),some (.arr 1 (oss p))]) xs.length ⟨0,ls,ps,0,by simp,by omega,by simp [L8],h,by simp,by simp⟩ ?_
 rintro J hJ m E H ⟨i,l,p,n,rfl,hi,hrr,hbk,rfl,rfl⟩
 have htl:(AB l).take l.length = AB l:= AE l
 have hto:(oss p).take p.length = oss p:= List.take_of_length_le (by simp [oss])
 by_cases hlt:i < xs.length
 ·obtain ⟨hc2,hd2,hl2,hb2,hp2,_⟩:= FP hbk
  have hdo:= M1 W T cs ds l p xs[i].1 xs[i].2.1 xs[i].2.2 (by omega) (by omega) (by omega) (by omega) hp2
  rw [hbk] at hdo
  simp only [if_true,Bool.true_and] at hdo
  have hbk2:= cY xs[i].1 xs[i].2.1 xs[i].2.2 hbk
  have hr2:L8 (qW W T cs ds) ls ps (xs.take (i + 1)) = ((doI W T cs ds l p xs[i].1 xs[i].2.1 xs[i].2.2).2.1,(doI W T cs ds l p xs[i].1 xs[i].2.1 xs[i].2.2).2.2,n + if (doI W T cs ds l p xs[i].1 xs[i].2.1 xs[i].2.2).1 then 1 else 0):= by
   rw [List.take_succ_eq_append_getElem hlt,Qp,hrr]
  generalize doI W T cs ds l p xs[i].1 xs[i].2.1 xs[i].2.2 = r at *
  obtain ⟨b,l2,p2⟩:= r
  have htl2:(AB l2).take l2.length = AB l2:= AE l2
  have hto2:(oss p2).take p2.length = oss p2:= List.take_of_length_le (by simp [oss])
  simp only at hdo hbk2 hr2
  have hg:= dZ hlt
  simp [EB,hlt,hg,BG]
  (repeat' first | omega | apply And.intro) <;>
  ·refine AA hdo ?_
   simp
   exact ⟨by omega,_,by omega,hJ _ _ _ ⟨i + 1,l2,p2,_,rfl,hlt,hr2,hbk2,by simp,by simp⟩⟩
 ·have:i = xs.length:= by omega
  subst this
  rw [List.take_length] at hrr
  have e:jV W T cs ds ls ps xs = (l,p,n):= hrr
  rw [e]
  by_cases hx:xs = []
  ·simp [EB,hx,htl,hto,U7]
  ·have hx0:¬ xs.length = 0:= fun e => hx (List.eq_nil_of_length_eq_zero e)
   simp [EB,hx,hx0,htl,hto]
set_option maxHeartbeats 4000000 in
theorem PK (W T:Int) (cs:List Bool) (ds ls:List Int) (ps:List (List Int)) (s:List UInt8) (hc:cs.length ≤ 2 ^ 30) (hd:ds.length ≤ 2 ^ 30) (hl:ls.length ≤ 2 ^ 30) (hb:ps.length ≤ 2 ^ 30) (hp:∀ p ∈ ps,p.length ≤ 2 ^ 30) (hs:s.length < 2 ^ 30):
  SoundAt Tryz.prog Az [bkA W T cs ds ls ps,.v (tx s)] (W5 (bkO W T cs ds) (bkO 0 0 [] [] [] []) W T cs ds ls ps s) [.bot,.bot]:= by
 unfold W5
 cases h:Aj W T cs ds ls ps with
 | false =>
   have hv:= BK W T cs ds ls ps (by omega) (by omega) (by omega) (by omega) (fun p h => by have:= hp p h; omega)
   rw [h] at hv
   refine AG (md:= mdl) (ms:= [false,false]) A0 (by simp) ?_
   simp [Ap]
   refine AA hv ?_
   simp
 | true =>
 rw [if_pos rfl]
 cases hr:Co s with
 | true => exact tJ W T cs ds ls ps s h hs hr
 | false =>
 by_cases h0:s = [101,110,100]
 ·subst h0; exact su W T cs ds ls ps h
 have e:BZ W T cs ds ls ps s = (ls,ps,mC W T cs ds ls ps s):= by simp [BZ,hr,h0]
 rw [e]
 simp only [mC]
 by_cases h1:s = [115,104,111,119]
 ·subst h1; exact qa W T cs ds ls ps h
 rw [if_neg h1]
 by_cases h2:s = [100,105,103,105,116,115]
 ·subst h2; exact kp W T cs ds ls ps h
 rw [if_neg h2]
 by_cases h3:s = [108,101,102,116]
 ·subst h3; exact qb W T cs ds ls ps h
 rw [if_neg h3]
 by_cases h4:s = [112,97,115,116]
 ·subst h4; exact qc W T cs ds ls ps h
 rw [if_neg h4]
 by_cases h5:s = [115,111,108,118,101,100]
 ·subst h5; exact kq W T cs ds ls ps h
 rw [if_neg h5]
 by_cases h6:s = [100,101,97,100]
 ·subst h6; exact qd W T cs ds ls ps h
 rw [if_neg h6]
 by_cases h7:s = [104,105,110,116]
 ·subst h7; exact qe W T cs ds ls ps h
 rw [if_neg h7]
 obtain ⟨_,_,_,_,_,val⟩:= FP h
 have rd:= BH s hs
 have cp:= A9 h
 rw [hr,Ch hr] at rd
 simp only [Fg,BG] at rd
 have htl:(AB ls).take ls.length = AB ls:= AE ls
 have hto:(oss ps).take ps.length = oss ps:= List.take_of_length_le (by simp [oss])
 refine AG (md:= mdl) (ms:= [false,false]) A0 (by simp) ?_
 simp [Ap]
 refine AA val ?_
 simp
 refine AA rd ?_
 simp
 refine AA cp ?_
 simp [h0,h1,h2,h3,h4,h5,h6,h7,htl,hto]
@[simp] abbrev Ty:Nat:= 44
@[simp] abbrev N4:Nat:= 9
@[simp] def mdJ (f:Nat):List Bool:= if f = 999999 then [true,false] else if f = Aw then [true] else []
end Go.Proofs.Dev
