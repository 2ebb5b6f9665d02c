/- Contracts of the functions of the program over slots and rows, each proved against the program itself; no condition beyond those that each theorem names. -/
import Derived.Test.YtfkmfobbgoflgaaGreatDoorAP
import Derived.Test.YtfkmfobbgoflgaaGreatDoorAH
import Derived.Shelf.Bits.Mul64
import Derived.Ground.NamesProg
import Derived.Test.YtfkmfobbgoflgaaGreatDoorProg
import Derived.Test.YtfkmfobbgoflgaaGreatDoorAK
import Derived.Test.YtfkmfobbgoflgaaGreatDoorAN
import Derived.Test.YtfkmfobbgoflgaaGreatDoorAM
set_option linter.unusedSimpArgs false
set_option linter.unusedVariables false
set_option maxRecDepth 100000
namespace Go.Proofs.Dev
theorem aX:∀ xs:List Int,noVL (AB xs) = true
 | [] => by simp [noVL]
 | x::xs => by show (noV (.v (.int .i64 x)) && noVL (AB xs)) = true; rw [aX xs]; simp [noV]
theorem df:∀ ps:List (List Int),noVL (oss ps) = true
 | [] => by simp [noVL]
 | p::ps => by show (noV (.os 1 (AB p)) && noVL (oss ps)) = true; rw [df ps]; simp [noV,aX]
theorem SN (ps:List (List Int)):SoundAt Tryz.prog GX [.os 1 (oss ps)] (.os 1 (oss ps)) [.bot]:= by
 refine AG (md:= md0) (ms:= [false]) K8 (by simp) ?_
 simp [GY]
theorem MH (W T:Int) (cs:List Bool) (ds ls:List Int) (hok:okB W T cs ds ls = true):
  SoundAt Tryz.prog Dh [.agg [.v (.int .i64 W),.v (.int .i64 T),.sl 0 1 (AC cs)],.sl 0 1 (AB ds),.sl 0 1 (AB ls)] (.os 1 (oss (Gx W T ds (allT W T cs cs.length ls)))) [.bot,.bot,.bot]:= by
 refine AG (md:= md2) (ms:= [false,false,false]) Ms (by simp) ?_
 have hok':= hok
 simp only [okB,Bool.and_eq_true] at hok'
 obtain ⟨hr,hd,hy⟩:= hok'
 have h36:= Ab hr
 have hl:= AY hy
 have hz:Bz ls ≤ cs.length:= by have:= Hr ls; omega
 have hpow:2 ^ cs.length ≤ 2 ^ 36:= Nat.pow_le_pow_right (by omega) h36
 have each:= cI W T cs ds hr hd cs.length ls [] hz hy (by simp only [List.length_nil,Nat.zero_add]; exact Nat.le_trans hpow (by decide))
 rw [nP,List.nil_append] at each
 simp [GW]
 (repeat' first | assumption | omega | apply And.intro) <;>
 ·refine AA (Aq ls (by omega)) ?_
  simp
  (repeat' first | assumption | omega | apply And.intro) <;>
  ·refine AA each ?_
   simp [FF]
   refine AA (SN (Gx W T ds (allT W T cs cs.length ls))) ?_
   simp
theorem GZ (W T:Int) (cs:List Bool) (ds ls:List Int) (hok:okB W T cs ds ls = true):
  SoundAt Tryz.prog Dh [.agg [.v (.int .i64 W),.v (.int .i64 T),.sl 1 1 (AC cs)],.sl 1 1 (AB ds),.sl 1 1 (AB ls)] (.os 1 (oss (Gx W T ds (allT W T cs cs.length ls)))) [.bot,.bot,.bot]:= by
 refine SoundAt.lift (n:= 3) (fun C S us hr => noOL_ok _ S us rfl hr) (by simp [noV,df]) ?_
 have h:= MH W T cs ds ls hok
 simpa [vwL,vw] using h
theorem fB {W T:Int} {cs:List Bool} {ds:List Int} (h:(Am W T cs && B4 cs ds) = true):Gx W T ds (allT W T cs cs.length (Ac cs)) = CE W T cs ds:= by
 have hr:Am W T cs = true:= by simp only [Bool.and_eq_true] at h; exact h.1
 rw [aU h,HC,if_pos hr]; rfl
theorem Qx (W T:Int) (cs:List Bool) (ds:List Int) (hb:cs.length < 2 ^ 40) (hd:ds.length < 2 ^ 40):
  SoundAt Tryz.prog Jv [.agg [.v (.int .i64 W),.v (.int .i64 T),.sl 1 1 (AC cs)],.sl 1 1 (AB ds)] (.os 1 (oss (CE W T cs ds))) [.bot,.bot]:= by
 refine AG (md:= md0) (ms:= [false,false]) Qu (by simp) ?_
 simp [Jw]
 refine AA (ED W T cs ds hb hd) ?_
 cases hv:(Am W T cs && B4 cs ds) with
 | false =>
   have e:CE W T cs ds = []:= by rw [CE,if_neg (by simp [hv])]
   simp [e]
 | true =>
 have hr:Am W T cs = true:= by simp only [Bool.and_eq_true] at hv; exact hv.1
 have hdg:B4 cs ds = true:= by simp only [Bool.and_eq_true] at hv; exact hv.2
 have hdl:ds.length = cs.length:= by simp only [B4,Bool.and_eq_true,decide_eq_true_eq] at hdg; exact hdg.1
 have sol:= GZ W T cs ds (Ac cs) (by simp only [okB,hr,hdg,IM,Bool.and_self])
 rw [fB hv] at sol
 have en:AB (List.replicate ds.length 0) = AB (Ac cs):= by rw [hdl]; rfl
 simp [dL]
 (repeat' first | assumption | omega | apply And.intro) <;>
 ·rw [en]
  refine AA sol ?_
  have htk:(AB (Ac cs)).take ds.length = AB (Ac cs):= List.take_of_length_le (by simp [Ac,hdl])
  have hnl:(Ac cs).length = ds.length:= by simp [Ac,hdl]
  simp [htk,hnl]
theorem Pa (W T:Int) (cs:List Bool) (ds:List Int) (hb:cs.length < 2 ^ 40) (hd:ds.length < 2 ^ 40):
  SoundAt Tryz.prog FL [.agg [.v (.int .i64 W),.v (.int .i64 T),.sl 1 1 (AC cs)],.sl 1 1 (AB ds)] (.v (.int .i64 (cH W T cs ds))) [.bot,.bot]:= by
 refine AG (md:= md0) (ms:= [false,false]) PZ (by simp) ?_
 simp [Iy]
 refine AA (ED W T cs ds hb hd) ?_
 cases hv:(Am W T cs && B4 cs ds) with
 | false => simp [cH,hv]
 | true =>
 simp
 refine AA (Qx W T cs ds hb hd) ?_
 simp [cH,hv]
def Ax (W T:Int) (cs:List Bool) (ds ls:List Int):Option (List Int):= if Ad W T cs ds ls then (CE W T cs ds).find? (Ia ls) else none
def ou:Option (List Int) → AV
 | some x => .tup [.sl 0 1 (AB x),.v (.bool true)]
 | none => .tup [.os 1 [],.v (.bool false)]
def hZ:Option (List Int) → AV
 | some x => .tup [.os 1 (AB x),.v (.bool true)]
 | none => .tup [.os 1 [],.v (.bool false)]
theorem dg {W T:Int} {cs:List Bool} {ds p:List Int} (h:p ∈ CE W T cs ds):p.length = cs.length:= by
 unfold CE at h
 split at h
 ·exact aR (List.mem_filter.1 h).1
 ·cases h
theorem cJ {W T:Int} {cs:List Bool} {ds:List Int}:(CE W T cs ds).length ≤ 68719476736:= by
 unfold CE
 split
 ·exact Nat.le_trans (List.length_filter_le _ _) UH
 ·simp
theorem kN {ps:List (List Int)} {p:List Int → Bool} {i:Nat} (h:i < ps.length) (ha:∀ j:Nat,j < i → p (pti ps j) = false) (hp:p (pti ps i) = true):ps.find? p = some (pti ps i):= by
 rw [List.find?_eq_some_iff_getElem]
 refine ⟨hp,i,h,(Ih h).symm,fun j hj => ?_⟩
 have h2:= ha j hj
 rw [Ih (by omega)] at h2
 simp [h2]
theorem iA {ps:List (List Int)} {p:List Int → Bool} (ha:∀ j:Nat,j < ps.length → p (pti ps j) = false):ps.find? p = none:= by
 rw [List.find?_eq_none]
 intro x hx
 obtain ⟨j,hj,rfl⟩:= List.getElem_of_mem hx
 have h2:= ha j hj
 rw [Ih hj] at h2
 simp [h2]
def aY (ls p:List Int) (n:Nat):Bool:= XB n fun k => decide (ati ls k = 0) || decide (ati p k = ati ls k)
theorem fC (ls p:List Int) (n:Nat):aY ls p (n + 1) = (aY ls p n && (decide (ati ls n = 0) || decide (ati p n = ati ls n))):= by simp [aY,H3]
theorem iB (ls p:List Int):aY ls p ls.length = Ia ls p:= rfl
theorem Pb (W T:Int) (cs:List Bool) (ds:List Int) (hb:cs.length < 2 ^ 40) (hd:ds.length < 2 ^ 40):
  SoundAt Tryz.prog Fq [.agg [.v (.int .i64 W),.v (.int .i64 T),.sl 1 1 (AC cs)],.sl 1 1 (AB ds)] (.sl 0 1 (sls 0 (CE W T cs ds))) [.bot,.bot]:= by
 have h:= SoundAt.frozen (n:= 2) (fun C S us hr => noOL_ok _ S us rfl hr) (Qt W T cs ds hb hd)
 simpa [vw] using h
theorem MI (W T:Int) (cs:List Bool) (ds ls:List Int) (hb:cs.length < 2 ^ 40) (hd:ds.length < 2 ^ 40) (hl:ls.length < 2 ^ 40):
  SoundAt Tryz.prog Hc [.agg [.v (.int .i64 W),.v (.int .i64 T),.sl 1 1 (AC cs)],.sl 1 1 (AB ds),.sl 1 1 (AB ls)] (ou (Ax W T cs ds ls)) [.bot,.bot,.bot]:= by
 refine AG (md:= md0) (ms:= [false,false,false]) TX (by simp) ?_
 simp [MG]
 refine AA (Pb W T cs ds hb hd) ?_
 simp
 refine AF (fun m E H => ∃ i:Nat,m = (CE W T cs ds).length - i ∧ i ≤ (CE W T cs ds).length ∧ (∀ j:Nat,j < i → Ia ls (pti (CE W T cs ds) j) = false) ∧ H = [some (.box [.v (.int .i64 W),.v (.int .i64 T),.sl 1 1 (AC cs)])] ∧
  E = [(1,.sl 1 1 (AB ds)),(2,.sl 1 1 (AB ls)),(3,.lp 0 0 0 0),(8,.sl 0 1 (sls 0 (CE W T cs ds))),(9,.v (.int .i64 i))]) (CE W T cs ds).length ⟨0,by simp⟩ ?_
 rintro J hJ m E H ⟨i,rfl,hi,ha,rfl,rfl⟩
 by_cases h:i < (CE W T cs ds).length
 case neg =>
  have e:Ax W T cs ds ls = none:= by
   unfold Ax; split
   ·exact iA fun j hj => ha j (by omega)
   ·rfl
  have hi':i = (CE W T cs ds).length:= by omega
  simp [FM,e,ou,hi']
 simp [FM,h]
 refine AA (Bm W T cs ds ls hb hd hl) ?_
 cases hf:Ad W T cs ds ls with
 | false =>
   have e:Ax W T cs ds ls = none:= by simp [Ax,hf]
   simp [e,ou]
 | true =>
 obtain ⟨hr,e1,e2,_⟩:= Nt (C1 hf)
 have hpl:(pti (CE W T cs ds) i).length = cs.length:= dg (V9 h)
 simp
 refine AF (fun m E H => ∃ j:Nat,m = ls.length - j ∧ j ≤ ls.length ∧ H = [some (.box [.v (.int .i64 W),.v (.int .i64 T),.sl 1 1 (AC cs)])] ∧
  E = [(1,.sl 1 1 (AB ds)),(2,.sl 1 1 (AB ls)),(3,.lp 0 0 0 0),(8,.sl 0 1 (sls 0 (CE W T cs ds))),(9,.v (.int .i64 i)),(10,.v (.bool (aY ls (pti (CE W T cs ds) i) j))),(11,.v (.int .i64 j))]) ls.length ⟨0,by simp [aY,Hz]⟩ ?_
 rintro J2 hJ2 m2 E2 H2 ⟨j,rfl,hj,rfl,rfl⟩
 by_cases h2:j < ls.length
 case neg =>
  have hj':j = ls.length:= by omega
  subst hj'
  rw [iB]
  cases hh:Ia ls (pti (CE W T cs ds) i) with
  | true =>
    have e:Ax W T cs ds ls = some (pti (CE W T cs ds) i):= by
     unfold Ax
     rw [if_pos hf]
     exact kN h ha hh
    simp [BF,e,ou,h]
  | false =>
    simp [BF]
    refine ⟨by have:= cJ (W:= W) (T:= T) (cs:= cs) (ds:= ds); omega,?_⟩
    refine ⟨_,by omega,hJ _ _ _ ⟨i + 1,rfl,h,?_,rfl,rfl⟩⟩
    intro k hk
    rcases Nat.lt_or_ge k i with h1 | h1
    ·exact ha k h1
    ·have:k = i:= by omega
     subst this; exact hh
 have hs:= fC ls (pti (CE W T cs ds) i) j
 have next:∀ b:Bool,aY ls (pti (CE W T cs ds) i) (j + 1) = b → CL J2 (ls.length - j) [(1,.sl 1 1 (AB ds)),(2,.sl 1 1 (AB ls)),(3,.lp 0 0 0 0),(8,.sl 0 1 (sls 0 (CE W T cs ds))),(9,.v (.int .i64 i)),(10,.v (.bool b)),(11,.v (.int .i64 (j + 1)))]
   [some (.box [.v (.int .i64 W),.v (.int .i64 T),.sl 1 1 (AC cs)])]:= by
  rintro b rfl
  exact ⟨_,by omega,hJ2 _ _ _ ⟨j + 1,rfl,h2,rfl,rfl⟩⟩
 have hjp:j < (pti (CE W T cs ds) i).length:= by omega
 cases hh:aY ls (pti (CE W T cs ds) i) j with
 | false =>
   have n:= next false (by rw [hs,hh]; rfl)
   simp [BF,h2]
   exact ⟨by omega,n⟩
 | true =>
 by_cases z:ati ls j = 0
 ·have n:= next true (by rw [hs,hh,z]; rfl)
  simp [BF,h2,z]
  exact ⟨by omega,n⟩
 by_cases ez:ati (pti (CE W T cs ds) i) j = ati ls j
 ·have n:= next true (by rw [hs,hh,ez]; simp)
  simp [BF,h2,z,h,hjp,ez]
  exact ⟨by omega,n⟩
 ·have n:= next (ati (pti (CE W T cs ds) i) j == ati ls j) (by rw [hs,hh]; simp [z,ez])
  simp [BF,h2,z,h,hjp]
  exact ⟨by omega,n⟩
theorem Jz (W T:Int) (cs:List Bool) (ds ls:List Int) (hok:okB W T cs ds ls = true):
  SoundAt Tryz.prog Jx [.agg [.v (.int .i64 W),.v (.int .i64 T),.sl 1 1 (AC cs)],.sl 1 1 (AB ds),.sl 1 1 (AB ls)] (hZ ((CE W T cs ds).find? (Ia ls))) [.bot,.bot,.bot]:= by
 refine AG (md:= md0) (ms:= [false,false,false]) Qw (by simp) ?_
 simp [Jy]
 refine AA (GZ W T cs ds ls hok) ?_
 have e:Gx W T ds (allT W T cs cs.length ls) = (CE W T cs ds).filter (Ia ls):= kI hok
 rw [← List.head?_filter,← e]
 cases hp:Gx W T ds (allT W T cs cs.length ls) with
 | nil => simp [hZ]
 | cons p ps =>
   have h0:¬ ((ps.length:Int) + 1 = 0):= by omega
   simp [hZ,h0]
   refine Z3 rfl rfl rfl ?_
   intro u
   simp [RJ]
theorem TY (W T:Int) (cs:List Bool) (ds ls:List Int) (hb:cs.length < 2 ^ 40) (hd:ds.length < 2 ^ 40) (hl:ls.length < 2 ^ 40):
  SoundAt Tryz.prog ME [.agg [.v (.int .i64 W),.v (.int .i64 T),.sl 1 1 (AC cs)],.sl 1 1 (AB ds),.sl 1 1 (AB ls)] (hZ (Ax W T cs ds ls)) [.bot,.bot,.bot]:= by
 refine AG (md:= md0) (ms:= [false,false,false]) TW (by simp) ?_
 simp [MF]
 refine AA (JC W T cs ds ls hb hd hl) ?_
 cases hf:Ad W T cs ds ls with
 | false => simp [Ax,hf,hZ]
 | true =>
 simp
 refine AA (Jz W T cs ds ls (C1 hf)) ?_
 have e:Ax W T cs ds ls = (CE W T cs ds).find? (Ia ls):= by simp [Ax,hf]
 rw [e]
 cases hr:(CE W T cs ds).find? (Ia ls) with
 | none => simp [hZ]
 | some x => simp [hZ]
def JE (W T:Int) (cs:List Bool) (ds ls:List Int):Int:= if aO W T cs ds ls < 0 then DW cs ls else aO W T cs ds ls
def JF (W T:Int) (cs:List Bool) (ds ls:List Int):Int:= if (Ax W T cs ds ls).isSome = true then JE W T cs ds ls else -1
def Mt (W T:Int) (cs:List Bool) (ds ls:List Int):Int:= match Ax W T cs ds ls with
 | some x => if JE W T cs ds ls < 0 then 0 else ati x (JE W T cs ds ls)
 | none => 0
theorem Mu {W T:Int} {cs:List Bool} {ds ls x:List Int} (h:Ax W T cs ds ls = some x):Ad W T cs ds ls = true ∧ x.length = cs.length:= by
 unfold Ax at h
 split at h
 ·rename_i hf
  exact ⟨hf,dg (List.mem_of_find?_eq_some h)⟩
 ·cases h
theorem WN (W T:Int) (cs:List Bool) (ds ls:List Int):JE W T cs ds ls = -1 ∨ ∃ k:Nat,k < ls.length ∧ JE W T cs ds ls = k:= by
 unfold JE
 split
 ·rcases CY cs ls with h | ⟨k,hk,he,_⟩
  ·exact .inl h
  ·exact .inr ⟨k,hk,he⟩
 ·rename_i h1
  rcases FX W T cs ds ls with h | ⟨k,hk,he,_⟩
  ·omega
  ·exact .inr ⟨k,hk,he⟩
theorem ZJ (W T:Int) (cs:List Bool) (ds ls:List Int) (hb:cs.length < 2 ^ 40) (hd:ds.length < 2 ^ 40) (hl:ls.length < 2 ^ 40):
  SoundAt Tryz.prog SJ [.agg [.v (.int .i64 W),.v (.int .i64 T),.sl 1 1 (AC cs)],.sl 1 1 (AB ds),.sl 1 1 (AB ls)] (.tup [.v (.int .i64 (JF W T cs ds ls)),.v (.int .i64 (Mt W T cs ds ls))]) [.bot,.bot,.bot]:= by
 refine AG (md:= md0) (ms:= [false,false,false]) ZH (by simp) ?_
 simp [SK]
 refine AA (TY W T cs ds ls hb hd hl) ?_
 cases hx:Ax W T cs ds ls with
 | none => simp [hZ,JF,Mt,hx]
 | some x =>
 obtain ⟨hf,hxl⟩:= Mu hx
 have hok:= C1 hf
 obtain ⟨hr,e1,e2,_⟩:= Nt hok
 have eh1:JF W T cs ds ls = JE W T cs ds ls:= by simp [JF,hx]
 have eh2:Mt W T cs ds ls = if JE W T cs ds ls < 0 then 0 else ati x (JE W T cs ds ls):= by simp [Mt,hx]
 rw [eh1,eh2]
 simp [hZ]
 refine AA (Fn W T cs ds ls 1 hok) ?_
 have e0:Eg (K1 W T cs ds ls 1) ls.length = aO W T cs ds ls:= rfl
 rw [e0]
 simp
 refine AF (fun m E H => ∃ (i:Nat) (c:Int),m = ls.length - i ∧ i ≤ ls.length ∧ (c = JE W T cs ds ls ∧ 0 ≤ c ∨ c = -1 ∧ aO W T cs ds ls < 0 ∧ ∀ j:Nat,j < i → Bd cs ls j = false) ∧
  H = [some (.box [.v (.int .i64 W),.v (.int .i64 T),.sl 1 1 (AC cs)]),some (.arr 1 (AB x))] ∧
  E = [(2,.sl 1 1 (AB ls)),(3,.lp 0 0 0 0),(8,.ls 1 1 0 x.length),(10,.v (.int .i64 c)),(11,.v (.int .i64 i))]) ls.length ⟨0,aO W T cs ds ls,by simp,by simp,?_,by simp,by simp⟩ ?_
 ·rcases FX W T cs ds ls with h | ⟨k,hk,he,_⟩
  ·right; exact ⟨h,by omega,by omega⟩
  ·left; refine ⟨by rw [JE,if_neg (by omega)],by omega⟩
 rintro J hJ m E H ⟨i,c,rfl,hi,hc,rfl,rfl⟩
 rcases hc with ⟨rfl,hc0⟩ | ⟨rfl,ho,hbr⟩
 ·
  rcases WN W T cs ds ls with h | ⟨k,hk,he⟩
  ·omega
  rw [he]
  have hkx:k < x.length:= by omega
  have hk0:¬ (k:Int) < 0:= by omega
  simp [Fk,hk0,hkx]
 by_cases h:i < ls.length
 case neg =>
  have hi':i = ls.length:= by omega
  subst hi'
  have he:JE W T cs ds ls = -1:= by
   rw [JE,if_pos ho]; exact CC hbr
  simp [Fk,he]
 have one:= K0 W T cs ls i (by omega) e2
 have hii:(i:Int) < cs.length:= by omega
 simp [Fk,h]
 refine AA one ?_
 cases hb2:Bd cs ls i with
 | true =>
   have hb':decide (0 ≤ (i:Int) ∧ (i:Int) < cs.length ∧ atb cs i = true ∧ ati ls i = 0) = true:= by
    simp [Bd] at hb2 ⊢; exact ⟨by omega,hb2⟩
   rw [hb']
   simp
   have he:JE W T cs ds ls = i:= by rw [JE,if_pos ho]; exact CX h hb2 hbr
   exact ⟨by omega,_,by omega,hJ _ _ _ ⟨i + 1,i,rfl,h,.inl ⟨he.symm,by omega⟩,rfl,rfl⟩⟩
 | false =>
   have hb':decide (0 ≤ (i:Int) ∧ (i:Int) < cs.length ∧ atb cs i = true ∧ ati ls i = 0) = false:= by
    simp [Bd] at hb2 ⊢; intro _; exact hb2
   rw [hb']
   simp
   refine ⟨by omega,_,by omega,hJ _ _ _ ⟨i + 1,-1,rfl,h,.inr ⟨rfl,ho,?_⟩,rfl,rfl⟩⟩
   intro j hj
   rcases Nat.lt_or_ge j i with h1 | h1
   ·exact hbr j h1
   ·have:j = i:= by omega
    subst this; exact hb2
theorem ZK (W T:Int) (cs:List Bool) (ds ls:List Int) (hb:cs.length < 2 ^ 40) (hd:ds.length < 2 ^ 40) (hl:ls.length < 2 ^ 40):
  SoundAt Tryz.prog SL [.agg [.v (.int .i64 W),.v (.int .i64 T),.sl 1 1 (AC cs)],.sl 1 1 (AB ds),.sl 1 1 (AB ls)] (.tup [.v (.int .i64 (JF W T cs ds ls)),.v (.int .i64 (Mt W T cs ds ls))]) [.bot,.bot,.bot]:= by
 refine AG (md:= md0) (ms:= [false,false,false]) ZI (by simp) ?_
 simp [SM]
 refine AA (MI W T cs ds ls hb hd hl) ?_
 cases hx:Ax W T cs ds ls with
 | none =>
   have eh1:JF W T cs ds ls = -1:= by simp [JF,hx]
   have eh2:Mt W T cs ds ls = 0:= by simp [Mt,hx]
   rw [eh1,eh2]
   simp [ou]
   refine AF (fun m E H => H = [some (.box [.v (.int .i64 W),.v (.int .i64 T),.sl 1 1 (AC cs)]),some (.arr 1 [])] ∧
    E = [(1,.sl 1 1 (AB ds)),(2,.sl 1 1 (AB ls)),(3,.lp 0 0 0 0),(8,.ls 1 1 0 0),(9,.v (.bool false)),(10,.v (.int .i64 (-1))),(11,.v (.int .i64 0))]) 0 ⟨by simp,by simp⟩ ?_
   rintro J hJ m E H ⟨rfl,rfl⟩
   simp [CF]
   (repeat' first | omega | apply And.intro | intro _) <;>
   ·refine AF (fun m E H => H = [some (.box [.v (.int .i64 W),.v (.int .i64 T),.sl 1 1 (AC cs)]),some (.arr 1 [])] ∧
     E = [(1,.sl 1 1 (AB ds)),(2,.sl 1 1 (AB ls)),(3,.lp 0 0 0 0),(8,.ls 1 1 0 0),(9,.v (.bool false)),(10,.v (.int .i64 (-1))),(12,.v (.int .i64 (ls.length - 1)))]) 0 ⟨rfl,rfl⟩ ?_
    rintro J hJ m E H ⟨rfl,rfl⟩
    by_cases h:(0:Int) ≤ ls.length - 1
    ·simp [Ck,h]
    ·simp [Ck,h]
 | some x =>
 obtain ⟨hf,hxl⟩:= Mu hx
 have hok:= C1 hf
 obtain ⟨hr,e1,e2,_⟩:= Nt hok
 have eh1:JF W T cs ds ls = JE W T cs ds ls:= by simp [JF,hx]
 have eh2:Mt W T cs ds ls = if JE W T cs ds ls < 0 then 0 else ati x (JE W T cs ds ls):= by simp [Mt,hx]
 rw [eh1,eh2]
 simp [ou]
 refine AF (fun m E H => ∃ (i:Nat) (c:Int),m = ls.length - i ∧ i ≤ ls.length ∧ (c = DW cs ls ∧ 0 ≤ c ∨ c = -1 ∧ ∀ j:Nat,j < i → Bd cs ls j = false) ∧
  H = [some (.box [.v (.int .i64 W),.v (.int .i64 T),.sl 1 1 (AC cs)])] ∧
  E = [(1,.sl 1 1 (AB ds)),(2,.sl 1 1 (AB ls)),(3,.lp 0 0 0 0),(8,.sl 0 1 (AB x)),(9,.v (.bool true)),(10,.v (.int .i64 c)),(11,.v (.int .i64 i))]) ls.length ⟨0,-1,by simp⟩ ?_
 rintro J hJ m E H ⟨i,c,rfl,hi,hc,rfl,rfl⟩
 by_cases h:i < ls.length
 case pos =>
  have next:∀ c':Int,(c' = DW cs ls ∧ 0 ≤ c' ∨ c' = -1 ∧ ∀ j:Nat,j < i + 1 → Bd cs ls j = false) → CL J (ls.length - i) [(1,.sl 1 1 (AB ds)),(2,.sl 1 1 (AB ls)),(3,.lp 0 0 0 0),(8,.sl 0 1 (AB x)),(9,.v (.bool true)),(10,.v (.int .i64 c')),(11,.v (.int .i64 (i + 1)))]
    [some (.box [.v (.int .i64 W),.v (.int .i64 T),.sl 1 1 (AC cs)])]:= by
   intro c' hc'
   exact ⟨_,by omega,hJ _ _ _ ⟨i + 1,c',rfl,h,hc',rfl,rfl⟩⟩
  have h2:i < cs.length:= by omega
  rcases hc with ⟨rfl,hc0⟩ | ⟨rfl,hbr⟩
  ·have hc1:¬ DW cs ls < 0:= by omega
   simp [CF,h,hc1]
   exact ⟨by omega,next _ (.inl ⟨rfl,hc0⟩)⟩
  have up:Bd cs ls i = false → ∀ j:Nat,j < i + 1 → Bd cs ls j = false:= by
   intro hx2 j hj
   rcases Nat.lt_or_ge j i with h1 | h1
   ·exact hbr j h1
   ·have:j = i:= by omega
    subst this; exact hx2
  cases hcc:atb cs i with
  | false =>
    simp [CF,h,h2,hcc]
    exact ⟨by omega,next _ (.inr ⟨rfl,up (by simp [Bd,hcc])⟩)⟩
  | true =>
  by_cases z:ati ls i = 0
  ·have he:DW cs ls = i:= CX h (by simp [Bd,hcc,z]) hbr
   simp [CF,h,h2,hcc,z]
   exact ⟨by omega,next _ (.inl ⟨he.symm,by omega⟩)⟩
  ·simp [CF,h,h2,hcc,z]
   exact ⟨by omega,next _ (.inr ⟨rfl,up (by simp [Bd,z])⟩)⟩
 have hi':i = ls.length:= by omega
 subst hi'
 have hcb:c = DW cs ls:= by
  rcases hc with ⟨h1,_⟩ | ⟨h1,h2⟩
  ·exact h1
  ·rw [h1]; exact (CC h2).symm
 subst hcb
 clear hJ hc
 simp [CF]
 refine ⟨by omega,?_⟩
 refine AF (fun m E H => ∃ (i:Nat) (c:Int),m = i ∧ i ≤ ls.length ∧ (c = DW cs ls ∧ (∀ j:Nat,i ≤ j → j < ls.length → K1 W T cs ds ls 1 j = false) ∨ ∃ j:Nat,i ≤ j ∧ j < ls.length ∧ c = j ∧ K1 W T cs ds ls 1 j = true ∧ ∀ j':Nat,i ≤ j' → j' < j → K1 W T cs ds ls 1 j' = false) ∧
  H = [some (.box [.v (.int .i64 W),.v (.int .i64 T),.sl 1 1 (AC cs)])] ∧
  E = [(1,.sl 1 1 (AB ds)),(2,.sl 1 1 (AB ls)),(3,.lp 0 0 0 0),(8,.sl 0 1 (AB x)),(9,.v (.bool true)),(10,.v (.int .i64 c)),(12,.v (.int .i64 ((i:Int) - 1)))]) ls.length ⟨ls.length,DW cs ls,rfl,Nat.le_refl _,.inl ⟨rfl,fun j h1 h2 => by omega⟩,rfl,rfl⟩ ?_
 rintro J hJ m E H ⟨i,c,rfl,hi,hc,rfl,rfl⟩
 cases m with
 | zero =>
   have hcc:c = JE W T cs ds ls:= by
    rcases hc with ⟨h1,h2⟩ | ⟨j,h1,h2,h3,h4,h5⟩
    ·have ho:aO W T cs ds ls = -1:= CC fun j hj => h2 j (by omega) hj
     rw [h1,JE,if_pos (by omega)]
    ·have ho:aO W T cs ds ls = j:= CX h2 h4 fun j' hj' => h5 j' (by omega) hj'
     rw [h3,JE,if_neg (by omega),ho]
   subst hcc
   rcases WN W T cs ds ls with h | ⟨k,hk,he⟩
   ·simp [Ck,h]
   ·have hkx:k < x.length:= by omega
    have hk0:¬ (k:Int) < 0:= by omega
    simp [Ck,he,hk0,hkx]
 | succ i =>
   have h:i < ls.length:= by omega
   have two:= Ie W T cs ds ls i hb hd hl
   have ho:R4 W T cs ds ls i = HX W T cs ds ls i:= by simp [R4,hf]
   rw [ho] at two
   have hop:(HX W T cs ds ls i).length ≤ 4:= F5 ..
   have ei:((i:Int) + 1 - 1) = i:= by omega
   have next:∀ c':Int,(c' = DW cs ls ∧ (∀ j:Nat,i ≤ j → j < ls.length → K1 W T cs ds ls 1 j = false) ∨ ∃ j:Nat,i ≤ j ∧ j < ls.length ∧ c' = j ∧ K1 W T cs ds ls 1 j = true ∧ ∀ j':Nat,i ≤ j' → j' < j → K1 W T cs ds ls 1 j' = false) →
     CL J (i + 1) [(1,.sl 1 1 (AB ds)),(2,.sl 1 1 (AB ls)),(3,.lp 0 0 0 0),(8,.sl 0 1 (AB x)),(9,.v (.bool true)),(10,.v (.int .i64 c')),(12,.v (.int .i64 ((i:Int) - 1)))]
     [some (.box [.v (.int .i64 W),.v (.int .i64 T),.sl 1 1 (AC cs)])]:= by
    intro c' hc'
    exact ⟨_,by omega,hJ _ _ _ ⟨i,c',rfl,by omega,hc',rfl,rfl⟩⟩
   simp [Ck,ei]
   refine AA two ?_
   by_cases hn:(HX W T cs ds ls i).length = 1
   ·have hbare:0 ≤ (i:Int) ∧ (i:Int) < cs.length ∧ atb cs i = true ∧ ati ls i = 0:= by
     apply Decidable.byContradiction
     intro hx
     rw [X8 W T cs ds ls i hx] at hn
     simp at hn
    have hh:K1 W T cs ds ls 1 i = true:= by simp [K1,hbare.2.2.1,hbare.2.2.2,hn]
    simp [hn]
    exact ⟨by omega,next _ (.inr ⟨i,Nat.le_refl _,h,rfl,hh,fun j' h1 h2 => by omega⟩)⟩
   ·have hn':¬ ((HX W T cs ds ls i).length:Int) = 1:= by omega
    have hh:K1 W T cs ds ls 1 i = false:= by simp [K1,hn']
    simp [hn']
    refine ⟨by omega,next _ ?_⟩
    rcases hc with ⟨h1,h2⟩ | ⟨j,h1,h2,h3,h4,h5⟩
    ·refine .inl ⟨h1,fun j hj1 hj2 => ?_⟩
     rcases Nat.lt_or_ge i j with h6 | h6
     ·exact h2 j h6 hj2
     ·have:j = i:= by omega
      subst this; exact hh
    ·refine .inr ⟨j,by omega,h2,h3,h4,fun j' hj1 hj2 => ?_⟩
     rcases Nat.lt_or_ge i j' with h6 | h6
     ·exact h5 j' h6 hj2
     ·have:j' = i:= by omega
      subst this; exact hh
theorem dh:∀ {l m:List Int},l.Nodup → (∀ x ∈ l,x ∈ m) → l.length ≤ m.length
 | [],m,_,_ => by simp
 | x::l,m,hn,hs => by
   rw [List.nodup_cons] at hn
   have hx:x ∈ m:= hs x (by simp)
   have h1:= dh (l:= l) (m:= m.erase x) hn.2 (fun y hy => by
    rw [List.mem_erase_of_ne (by intro e; subst e; exact hn.1 hy)]
    exact hs y (by simp [hy]))
   rw [List.length_erase_of_mem hx] at h1
   have:0 < m.length:= List.length_pos_of_mem hx
   simp only [List.length_cons]; omega
theorem iC {W T:Int} {ds a b:List Int} (hl:a.length = b.length) (h:∀ k:Nat,k < a.length → ati a k = 0 ∨ ati b k = ati a k):List.Sublist (Bt W T ds a) (Bt W T ds b):= by
 have:∀ n,n ≤ a.length → List.Sublist (BE W T ds a n) (BE W T ds b n):= by
  intro n
  induction n with
  | zero => intro _; simp [BE]
  | succ n ih =>
    intro hn
    rw [F2,F2]
    rcases h n (by omega) with h0 | h0
    ·rw [if_neg (by omega)]
     exact (ih (by omega)).append (List.nil_sublist _)
    ·rw [h0]
     exact (ih (by omega)).append (List.Sublist.refl _)
 have e:= this a.length (Nat.le_refl _)
 unfold Bt
 rw [← hl]; exact e
theorem ZL {a b:List Int} (h:List.Sublist a b) (hb:LU b = true):LU a = true:= by
 simp only [LU,decide_eq_true_eq] at hb ⊢
 exact h.nodup hb
theorem WO {W T:Int} {ds a b:List Int} (hl:a.length = b.length) (h:Ia a b = true):List.Sublist (Bt W T ds a) (Bt W T ds b):=
 iC hl fun k hk => hasB_iff.1 h k hk
theorem aZ {a b c:List Int} (hl:a.length = b.length) (h1:Ia a b = true) (h2:Ia b c = true):Ia a c = true:= by
 rw [hasB_iff] at *
 intro k hk
 rcases h1 k hk with h | h
 ·exact .inl h
 ·rcases h2 k (by omega) with h3 | h3
  ·left; omega
  ·right; omega
def KU (W T:Int) (ls:List Int) (cell:Int):List Int:= (ls.set (AH W T cell (ati ls cell)).toNat 0).set cell.toNat 0
theorem IP (W T:Int) (ls:List Int) (cell:Int):(KU W T ls cell).length = ls.length:= by simp [KU]
theorem TZ {W T:Int} {cs:List Bool} {ls:List Int} {k:Nat} (hr:Am W T cs = true) (hy:AR W T cs ls = true) (hk:k < ls.length) (hv:ati ls k ≠ 0):
  ∃ t:Nat,AH W T k (ati ls k) = t ∧ t < ls.length ∧ t ≠ k ∧ ∀ j:Nat,ati (KU W T ls k) j = if j = k then 0 else if j = t then 0 else ati ls j:= by
 obtain ⟨w1,w2,t1,t2,l1,_⟩:= BT hr
 have hl:= AY hy
 obtain ⟨v1,v4,g3,g4,g5,g6⟩:= DF hy hk hv
 obtain ⟨_,_,_,b4,b5⟩:= Cn (W:= W) (T:= T) (k:= k) (way:= ati ls k) w1 (by omega) (by omega) g4
 refine ⟨(AH W T k (ati ls k)).toNat,by omega,by omega,by omega,fun j => ?_⟩
 unfold KU
 rw [OD (by simpa using hk),OD (by omega)]
 simp
theorem cK {W T:Int} {cs:List Bool} {ls:List Int} {k:Nat} (hr:Am W T cs = true) (hy:AR W T cs ls = true) (hk:k < ls.length) (hv:ati ls k ≠ 0):AR W T cs (KU W T ls k) = true:= by
 obtain ⟨w1,w2,t1,t2,l1,_⟩:= BT hr
 have hl:= AY hy
 obtain ⟨t,e,ht,htk,hat⟩:= TZ hr hy hk hv
 obtain ⟨v1,v4,g3,g4,g5,g6⟩:= DF hy hk hv
 have sb:= Cn (W:= W) (T:= T) (k:= k) (way:= ati ls k) w1 (by omega) (by omega) g4
 rw [e] at g6 sb
 simp only [AR,Bool.and_eq_true,decide_eq_true_eq,CN,IP]
 refine ⟨hl,fun j hj => ?_⟩
 simp only [JP,decide_eq_true_eq]
 rw [hat j]
 by_cases e1:j = k
 ·rw [if_pos e1]; exact .inl rfl
 rw [if_neg e1]
 by_cases e2:j = t
 ·rw [if_pos e2]; exact .inl rfl
 rw [if_neg e2]
 by_cases e3:ati ls j = 0
 ·exact .inl e3
 right
 obtain ⟨u1,u4,q3,q4,q5,q6⟩:= DF hy hj e3
 have sj:= Cn (W:= W) (T:= T) (k:= j) (way:= ati ls j) w1 (by omega) (by omega) q4
 obtain ⟨s,hs⟩:∃ s:Nat,AH W T j (ati ls j) = s:= ⟨(AH W T j (ati ls j)).toNat,by omega⟩
 rw [hs] at q4 q5 q6 sj ⊢
 refine ⟨u1,u4,q3,q4,q5,?_⟩
 rw [hat s]
 have n1:s ≠ k:= by
  intro h
  subst h
  have h2:= sj.1
  rw [← q6,e] at h2
  omega
 have n2:s ≠ t:= by
  intro h
  subst h
  have h2:= sj.1
  rw [← q6,g6,sb.1] at h2
  omega
 rw [if_neg n1,if_neg n2]; exact q6
theorem di {W T:Int} {cs:List Bool} {ls:List Int} {k:Nat} (hr:Am W T cs = true) (hy:AR W T cs ls = true) (hk:k < ls.length) (hv:ati ls k ≠ 0):Ia (KU W T ls k) ls = true:= by
 obtain ⟨t,e,ht,htk,hat⟩:= TZ hr hy hk hv
 rw [hasB_iff]
 intro j _
 rw [hat j]
 by_cases e1:j = k
 ·rw [if_pos e1]; exact .inl rfl
 rw [if_neg e1]
 by_cases e2:j = t
 ·rw [if_pos e2]; exact .inl rfl
 rw [if_neg e2]; exact .inr rfl
theorem AM {W T:Int} {cs:List Bool} {ds ls:List Int} (h:Ad W T cs ds ls = true):Am W T cs = true ∧ B4 cs ds = true ∧ AR W T cs ls = true ∧ LU (Bt W T ds ls) = true:= by
 simp only [Ad,okB,Bool.and_eq_true] at h
 exact ⟨h.1.1,h.1.2.1,h.1.2.2,h.2⟩
theorem cL {W T:Int} {cs:List Bool} {ds ls:List Int} (h1:Am W T cs = true) (h2:B4 cs ds = true) (h3:AR W T cs ls = true) (h4:LU (Bt W T ds ls) = true):Ad W T cs ds ls = true:= by
 simp only [Ad,okB,Bool.and_eq_true]
 exact ⟨⟨h1,h2,h3⟩,h4⟩
theorem iD {W T:Int} {cs:List Bool} {ds ls:List Int} {k:Nat} (h:Ad W T cs ds ls = true) (hk:k < ls.length) (hv:ati ls k ≠ 0):Ad W T cs ds (KU W T ls k) = true:= by
 obtain ⟨h1,h2,h3,h4⟩:= AM h
 exact cL h1 h2 (cK h1 h3 hk hv) (ZL (WO (IP ..) (di h1 h3 hk hv)) h4)
theorem fD (W T:Int) (ds ls:List Int):(Bt W T ds ls).length = KT ls:= by
 have:∀ n,n ≤ ls.length → (BE W T ds ls n).length = KT (ls.take n):= by
  intro n
  induction n with
  | zero => intro _; simp [BE,KT]
  | succ n ih =>
    intro hn
    rw [F2,List.length_append,ih (by omega),WG (by omega)]
    congr 1
    by_cases h:ati ls n = 1 ∨ ati ls n = 2
    ·rw [if_pos h]
     have:N0 (ati ls n) = true:= by simpa [N0] using h
     simp [this]
    ·rw [if_neg h]
     have:N0 (ati ls n) = false:= by simpa [N0] using h
     simp [this]
 have e:= this ls.length (Nat.le_refl _)
 rw [List.take_length] at e
 exact e
theorem kO {W T:Int} {cs:List Bool} {ls:List Int} {k:Nat} {way:Int} (hr:Am W T cs = true) (hl:ls.length = cs.length) (hf:Av W T cs ls k way = true):Ia ls (Bk W T ls k way) = true:= by
 obtain ⟨t,e,t1,t2,t3,_,_,_,_,z1,z2,hat⟩:= Ey hr hl hf
 rw [hasB_iff]
 intro j hj
 rw [hat j]
 by_cases e1:j = t
 ·subst e1; exact .inl z2
 by_cases e2:j = k
 ·subst e2; exact .inl z1
 rw [if_neg e1,if_neg e2]; exact .inr rfl
theorem dk {ls:List Int} {i:Nat} {v:Int} (h:i < ls.length) (hz:ati ls i = 0):KT (ls.set i v) = KT ls + if N0 v then 1 else 0:= by
 have he:ls[i] = 0:= by simpa [ati,h] using hz
 unfold KT
 rw [List.countP_set h,he]
 simp [N0]
theorem kP {W T:Int} {cs:List Bool} {ls:List Int} {k:Nat} {way:Int} (hr:Am W T cs = true) (hl:ls.length = cs.length) (hf:Av W T cs ls k way = true):KT (Bk W T ls k way) = KT ls + 1:= by
 obtain ⟨t,e,t1,t2,t3,v1,v4,_,_,z1,z2,hat⟩:= Ey hr hl hf
 unfold Bk
 have h1:ati (ls.set k way) t = 0:= by rw [OD t2,if_neg t3]; exact z2
 rw [e]
 simp only [Int.toNat_natCast]
 rw [dk (by simpa using t1) h1,dk t2 z1]
 have:way = 1 ∨ way = 2 ∨ way = 3 ∨ way = 4:= by omega
 rcases this with rfl | rfl | rfl | rfl <;> simp [N0,CO]
theorem aa (W T:Int) (cs:List Bool) (ds ls:List Int) (cell:Int):HX W T cs ds ls cell = [1,2,3,4].filter (R3 W T cs ds ls cell):= by
 simp only [HX,ID,List.range_succ,List.range_zero,List.nil_append,List.flatMap_append,List.flatMap_cons,List.flatMap_nil,List.append_nil,List.filter_cons,List.filter_nil]
 cases h1:R3 W T cs ds ls cell 1 <;> cases h2:R3 W T cs ds ls cell 2 <;> cases h3:R3 W T cs ds ls cell 3 <;> cases h4:R3 W T cs ds ls cell 4 <;> simp [h1,h2,h3,h4]
theorem opts_mem {W T:Int} {cs:List Bool} {ds ls:List Int} {cell x:Int}:x ∈ HX W T cs ds ls cell ↔ R3 W T cs ds ls cell x = true ∧ 1 ≤ x ∧ x ≤ 4:= by
 rw [aa,List.mem_filter]
 simp only [List.mem_cons,List.not_mem_nil,or_false]
 constructor
 ·rintro ⟨h1,h2⟩; exact ⟨h2,by omega,by omega⟩
 ·rintro ⟨h1,h2,h3⟩; exact ⟨by omega,h1⟩
theorem K9 {W T:Int} {cs:List Bool} {ds p:List Int} (h:CB W T cs ds p = true):Ad W T cs ds p = true ∧ H9 cs p = true:= by
 simpa only [CB,Bool.and_eq_true] using h
theorem iE {cs:List Bool} {p:List Int} (h:H9 cs p = true) {k:Nat} (hk:k < cs.length) (hc:atb cs k = true):ati p k ≠ 0:= by
 rw [H9,CN] at h
 have:= h k hk
 simpa [It,hc] using this
theorem iG {cs:List Bool} {p:List Int} (hl:p.length = cs.length) (h:H9 cs p = true):DW cs p < 0:= by
 rcases CY cs p with h1 | ⟨k,hk,he,hc,hz⟩
 ·omega
 ·exact absurd hz (iE h (by omega) hc)
theorem mem_sols {W T:Int} {cs:List Bool} {ds p:List Int}:p ∈ CE W T cs ds ↔ CB W T cs ds p = true:= by
 constructor
 ·intro h
  unfold CE at h
  split at h
  ·exact (List.mem_filter.1 h).2
  ·cases h
 ·intro h
  obtain ⟨hf,hfull⟩:= K9 h
  obtain ⟨hr,hd,hy,ho⟩:= AM hf
  have hl:= AY hy
  have hz:Bz p ≤ cs.length:= by have:= Hr p; omega
  have hn:(Ac cs).length = cs.length:= by simp [Ac]
  have hzn:Bz (Ac cs) ≤ cs.length:= by have:= Hr (Ac cs); omega
  have e:= WK hr cs.length (Ac cs) p cs.length hzn hz (IM W T cs) hy (hasB_iff.2 fun k _ => .inl (PS cs k))
  rw [MB _ (iG hl hfull)] at e
  have hm:p ∈ (allT W T cs cs.length (Ac cs)).filter (Ia p):= by rw [e]; simp
  unfold CE
  rw [if_pos (by simp [hr,hd]),List.mem_filter]
  refine ⟨?_,h⟩
  rw [HC,if_pos hr]
  exact (List.mem_filter.1 hm).1
theorem fF {W T:Int} {cs:List Bool} {ds ls p:List Int} {k:Nat} (hy:AR W T cs ls = true) (hp:CB W T cs ds p = true) (hs:Ia ls p = true) (hk:k < cs.length) (hc:atb cs k = true) (hz:ati ls k = 0):
  R3 W T cs ds ls k (ati p k) = true ∧ 1 ≤ ati p k ∧ ati p k ≤ 4 ∧ Ia (Bk W T ls k (ati p k)) p = true:= by
 obtain ⟨hf,hfull⟩:= K9 hp
 obtain ⟨hr,hd,hyp,ho⟩:= AM hf
 have hl:= AY hy
 have hlp:= AY hyp
 obtain ⟨w1,w2,t1,t2,l1,_⟩:= BT hr
 have hv:= iE hfull hk hc
 obtain ⟨v1,v4,g3,g4,g5,g6⟩:= DF hyp (k:= k) (by omega) hv
 obtain ⟨v,hvv⟩:∃ v,ati p k = v:= ⟨_,rfl⟩
 rw [hvv] at v1 v4 g4 g5 g6 hv ⊢
 have sb:= Cn (W:= W) (T:= T) (k:= k) (way:= v) w1 (by omega) (by omega) g4
 obtain ⟨t,ht⟩:∃ t:Nat,AH W T k v = t:= ⟨(AH W T k v).toNat,by omega⟩
 have hzt:ati ls t = 0:= by
  rcases hasB_iff.1 hs t (by omega) with h | h
  ·exact h
  ·exfalso
   rw [ht] at g6
   have:= WI hr hy (k:= k) (t:= t) (way:= v) (by omega) ht (by rw [← h]; exact g6)
   omega
 have hfree:Av W T cs ls k v = true:= by
  simp only [Av,decide_eq_true_eq]
  exact ⟨by omega,by omega,g4,hc,g5,hz,by rw [ht]; exact hzt⟩
 have hh:= gy hr hl hfree hs hvv g6
 refine ⟨?_,v1,v4,hh⟩
 simp only [R3,Bool.and_eq_true]
 exact ⟨hfree,ZL (WO (by rw [AO]; omega) hh) ho⟩
theorem ae {W T:Int} {cs:List Bool} {ds ls:List Int}:(Ax W T cs ds ls).isSome = true ↔ Ad W T cs ds ls = true ∧ ∃ p,CB W T cs ds p = true ∧ Ia ls p = true:= by
 unfold Ax
 split
 ·rename_i hf
  rw [List.find?_isSome]
  constructor
  ·rintro ⟨p,hp,h⟩; exact ⟨hf,p,mem_sols.1 hp,h⟩
  ·rintro ⟨_,p,hp,h⟩; exact ⟨p,mem_sols.2 hp,h⟩
 ·rename_i hf
  simp [hf]
theorem UL {W T:Int} {cs:List Bool} {ds ls x:List Int} (h:Ax W T cs ds ls = some x):Ad W T cs ds ls = true ∧ CB W T cs ds x = true ∧ Ia ls x = true:= by
 unfold Ax at h
 split at h
 ·rename_i hf
  exact ⟨hf,mem_sols.1 (List.mem_of_find?_eq_some h),List.find?_some h⟩
 ·cases h
theorem fG {W T:Int} {cs:List Bool} {ds ls p:List Int} (hy:AR W T cs ls = true) (hp:CB W T cs ds p = true) (hs:Ia ls p = true):Ia (Ba W T cs ds ls) p = true:= by
 have hl:= AY hy
 rcases FX W T cs ds ls with h | ⟨k,hk,he,hc,hz,hol,hob,hw⟩
 ·rw [Ba,if_pos (by omega)]; exact hs
 ·rw [Ba,he,if_neg (by omega)]
  obtain ⟨o1,o2,o3,o4⟩:= fF hy hp hs (by omega) hc hz
  have hm:ati p k ∈ HX W T cs ds ls k:= opts_mem.2 ⟨o1,o2,o3⟩
  rw [hol,List.mem_singleton] at hm
  rw [← hm]; exact o4
theorem fH {W T:Int} {cs:List Bool} {ds ls:List Int} (hr:Am W T cs = true) (hl:ls.length = cs.length):Ia ls (Ba W T cs ds ls) = true:= by
 rcases FX W T cs ds ls with h | ⟨k,hk,he,hc,hz,hol,hob,hw⟩
 ·rw [Ba,if_pos (by omega)]; exact MD ls
 ·rw [Ba,he,if_neg (by omega)]
  exact kO hr hl (R5 hob)
theorem cM {W T:Int} {cs:List Bool} {ds ls:List Int} (hr:Am W T cs = true) (hl:ls.length = cs.length) (hb:CP W T cs ds ls = true):KT (Ba W T cs ds ls) = KT ls + 1:= by
 rcases FX W T cs ds ls with h | ⟨k,hk,he,hc,hz,hol,hob,hw⟩
 ·simp [CP,h] at hb
 ·rw [Ba,he,if_neg (by omega)]
  exact kP hr hl (R5 hob)
theorem Ok {W T:Int} {cs:List Bool} {ds:List Int}:∀ (n:Nat) (ls:List Int),Bz ls ≤ n → Ad W T cs ds ls = true →
  Ad W T cs ds (BD W T cs ds n ls) = true ∧ Ia ls (BD W T cs ds n ls) = true ∧ CP W T cs ds (BD W T cs ds n ls) = false ∧
  ∀ p,CB W T cs ds p = true → Ia ls p = true → Ia (BD W T cs ds n ls) p = true
 | 0,ls,hz,hf => by
   refine ⟨hf,MD ls,?_,fun p _ h => h⟩
   cases hb:CP W T cs ds (BD W T cs ds 0 ls) with
   | false => rfl
   | true =>
     have:= OX hb
     rw [BD] at this
     omega
 | n + 1,ls,hz,hf => by
   rw [BD]
   obtain ⟨hr,hd,hy,ho⟩:= AM hf
   split
   ·rename_i hb
    have hz2:= OX hb
    obtain ⟨i1,i2,i3,i4⟩:= Ok n (Ba W T cs ds ls) (by omega) (Mo hf)
    exact ⟨i1,aZ (by rw [JD]) (fH hr (AY hy)) i2,i3,fun p hp hs => i4 p hp (fG hy hp hs)⟩
   ·rename_i hb
    exact ⟨hf,MD ls,by simpa using hb,fun p _ h => h⟩
theorem Px {W T:Int} {cs:List Bool} {ds ls:List Int} (hf:Ad W T cs ds ls = true):
  Ad W T cs ds (BN W T cs ds ls) = true ∧ Ia ls (BN W T cs ds ls) = true ∧ CP W T cs ds (BN W T cs ds ls) = false ∧
  ∀ p,CB W T cs ds p = true → Ia ls p = true → Ia (BN W T cs ds ls) p = true:=
 Ok ls.length ls (Hr ls) hf
end Go.Proofs.Dev
namespace Go.Proofs
open Go.Shelf
namespace Dev
end Dev
end Go.Proofs
namespace Go.Proofs.Dev
def prL:List (Int × Int):= (List.range 7).flatMap fun a => (List.range' a (7 - a)).map fun b:Nat => ((a:Int),(b:Int))
def stN (a:Nat):Nat:= a * (15 - a) / 2
theorem kQ {a:Nat} (h:a < 7):stN (a + 1) = stN a + (7 - a) ∧ stN a + (7 - a) ≤ 28:= by
 have:∀ a < 7,stN (a + 1) = stN a + (7 - a) ∧ stN a + (7 - a) ≤ 28:= by decide
 exact this a h
theorem qO {a b:Nat} (h:a < 7) (hb:b < 7 - a):prL[stN a + b]? = some ((a:Int),((a + b:Nat):Int)):= by
 have:∀ a < 7,∀ b < 7 - a,prL[stN a + b]? = some ((a:Int),((a + b:Nat):Int)):= by decide
 exact this a h b hb
def rX (n:Nat):Int × Int:= prL.getD n (0,0)
def qP (ls:List Int) (k:Nat):Bool:= decide (ati ls k = 1 ∨ ati ls k = 2)
def Um (ls:List Int):Nat → Nat
 | 0 => 0
 | i + 1 => Um ls i + if qP ls i then 1 else 0
def rY (out:List Int) (i j:Nat) (p:Int × Int):List Int:= (out.set i p.1).set j p.2
def fX (W T:Int) (ls:List Int) (fr:Nat):Nat → List Int
 | 0 => List.replicate ls.length (-1)
 | i + 1 => if qP ls i then rY (fX W T ls fr i) i (AH W T i (ati ls i)).toNat (rX ((fr + Um ls i) % 28)) else fX W T ls fr i
def mkI (W T:Int) (cs:List Bool) (ls:List Int) (fr:Int):List Int:=
 if (Am W T cs && AR W T cs ls && H9 cs ls && decide (0 ≤ fr ∧ fr ≤ 27)) = true then fX W T ls fr.toNat ls.length else []
theorem dl (ls:List Int):∀ i,Um ls i ≤ i
 | 0 => Nat.le_refl _
 | i + 1 => by have:= dl ls i; simp only [Um]; split <;> omega
theorem Qy (W T:Int) (ls:List Int) (fr:Nat):∀ i,(fX W T ls fr i).length = ls.length
 | 0 => by simp [fX]
 | i + 1 => by
   have:= Qy W T ls fr i
   simp only [fX]; split
   ·simp [rY,this]
   ·exact this
theorem fI (W T:Int) (cs:List Bool) (ls:List Int) (fr:Int):(mkI W T cs ls fr).length ≤ ls.length:= by
 unfold mkI; split
 ·simp [Qy]
 ·simp
theorem qQ {a N:Nat} (h:N < 28) (h2:stN a ≤ N) (h7:a ≤ 7):a < 7:= by
 have e:stN 7 = 28:= by decide
 rcases Nat.lt_or_ge a 7 with h | h
 ·exact h
 ·have:a = 7:= by omega
  subst this; omega
theorem fJ {W T:Int} {cs:List Bool} {ls:List Int} (hr:Am W T cs = true) (hy:AR W T cs ls = true) {k:Nat} (hk:k < ls.length) (hw:ati ls k = 1 ∨ ati ls k = 2):
  0 ≤ AH W T k (ati ls k) ∧ AH W T k (ati ls k) < cs.length:= by
 obtain ⟨w1,w2,t1,t2,l1,_⟩:= BT hr
 simp only [AR,Bool.and_eq_true,decide_eq_true_eq,CN] at hy
 obtain ⟨hl,hy⟩:= hy
 have p1:= hy k hk
 have hst:= Da (T:= T) (k:= k) (way:= ati ls k) w1 (by omega) (by omega)
 simp only [JP,decide_eq_true_eq] at p1
 rcases p1 with p1 | ⟨_,_,pc,p0,pt,_⟩
 ·omega
 ·omega
theorem Ta (W T:Int) (cs:List Bool) (ls:List Int) (fr:Int) (hb:cs.length < 2 ^ 40) (hl:ls.length < 2 ^ 40):
  SoundAt Tryz.prog L6 [.agg [.v (.int .i64 W),.v (.int .i64 T),.sl 1 1 (AC cs)],.sl 1 1 (AB ls),.v (.int .i64 fr)] (.os 1 (AB (mkI W T cs ls fr))) [.bot,.bot,.bot]:= by
 refine AG (md:= md0) (ms:= [false,false,false]) TP (by simp) ?_
 simp [L7]
 refine AA (OP W T cs ls hb hl) ?_
 cases hp:(Am W T cs && AR W T cs ls && H9 cs ls) with
 | false => simp [mkI,hp]
 | true =>
 simp
 refine AA (A7 fr 0 27) ?_
 by_cases hx:0 ≤ fr ∧ fr ≤ 27
 case neg =>
  have hx2:(decide (0 ≤ fr) && decide (fr ≤ 27)) = false:= by simp; omega
  simp [hx2,mkI,hx]
 obtain ⟨f,rfl⟩:∃ f:Nat,fr = f:= ⟨fr.toNat,by omega⟩
 have hrl:= hp
 simp only [Bool.and_eq_true] at hrl
 obtain ⟨⟨hr,hy⟩,hfull⟩:= hrl
 have hlen:ls.length = cs.length:= by simp only [AR,Bool.and_eq_true,decide_eq_true_eq] at hy; exact hy.1
 have h36:= Ab hr
 have hmk:mkI W T cs ls f = fX W T ls f ls.length:= by simp [mkI,hp,hx]
 rw [hmk]
 simp [hx]
 refine AF (fun m E H => ∃ i:Nat,m = ls.length - i ∧ i ≤ ls.length ∧ H = [some (.box [.v (.int .i64 W),.v (.int .i64 T),.sl 1 1 (AC cs)]),some (.arr 1 (AB (List.replicate i (-1))))] ∧
  E = [(1,.sl 1 1 (AB ls)),(2,.v (.int .i64 f)),(3,.lp 0 0 0 0),(7,.ls 1 1 0 i),(8,.v (.int .i64 i))]) ls.length ⟨0,by simp⟩ ?_
 rintro J hJ m E H ⟨i,rfl,hi,rfl,rfl⟩
 by_cases h:i < ls.length
 ·simp [FI,h]
  refine ⟨by omega,by omega,_,by omega,hJ _ _ _ ⟨i + 1,rfl,h,?_,by simp⟩⟩
  rw [List.replicate_succ',EY]; rfl
 have:i = ls.length:= by omega
 subst this
 simp [FI]
 clear hJ J
 refine AF (fun m E H => ∃ i:Nat,m = ls.length - i ∧ i ≤ ls.length ∧ H = [some (.box [.v (.int .i64 W),.v (.int .i64 T),.sl 1 1 (AC cs)]),some (.arr 1 (AB (fX W T ls f i)))] ∧
  E = [(1,.sl 1 1 (AB ls)),(2,.v (.int .i64 ((f + Um ls i:Nat):Int))),(3,.lp 0 0 0 0),(7,.ls 1 1 0 ls.length),(9,.v (.int .i64 i))]) ls.length ⟨0,by simp [fX,Um]⟩ ?_
 rintro J hJ m E H ⟨i,rfl,hi,rfl,rfl⟩
 have hml:= Qy W T ls f i
 by_cases h:i < ls.length
 case neg =>
  have:i = ls.length:= by omega
  subst this
  simp [DH,hml]
  exact List.take_of_length_le (by simp [hml])
 by_cases hd:qP ls i = true
 case neg =>
  have hw:¬ (ati ls i = 1 ∨ ati ls i = 2):= by simpa [qP] using hd
  have hw1:¬ ati ls i = 1:= fun e => hw (.inl e)
  have hw2:¬ ati ls i = 2:= fun e => hw (.inr e)
  simp [DH,h,hw1,hw2]
  refine ⟨by omega,_,by omega,hJ _ _ _ ⟨i + 1,rfl,h,?_,?_⟩⟩ <;> simp [fX,Um,hd]
 have hw:ati ls i = 1 ∨ ati ls i = 2:= by simpa [qP] using hd
 have hdn:= dl ls i
 obtain ⟨o1,o2⟩:= fJ hr hy h hw
 have one:= Db W T cs i (ati ls i) hr (by omega) (by omega)
 generalize hto:AH W T i (ati ls i) = to at *
 generalize hout:fX W T ls f i = out at *
 generalize hN:(f + Um ls i) % 28 = N at *
 have hN28:N < 28:= by omega
 have next:CL J (ls.length - i) [(1,.sl 1 1 (AB ls)),(2,.v (.int .i64 ((f:Int) + (Um ls i:Nat) + 1))),(3,.lp 0 0 0 0),(7,.ls 1 1 0 ls.length),(9,.v (.int .i64 (i + 1)))]
   [some (.box [.v (.int .i64 W),.v (.int .i64 T),.sl 1 1 (AC cs)]),some (.arr 1 (AB (rY out i to.toNat (rX N))))]:= by
  refine ⟨_,by omega,hJ _ _ _ ⟨i + 1,rfl,h,?_,?_⟩⟩
  ·simp [fX,hd,hto,hout,hN]
  ·simp [Um,hd,Int.add_assoc]
 have hNi:((f:Int) + (Um ls i:Nat)) % 28 = (N:Int):= by omega
 rcases hw with hw | hw <;> rw [hw] at one <;>
 ·simp [DH,h,hw,hNi]
  refine ⟨by omega,?_⟩
  refine AF (fun b E H => ∃ a:Nat,a < 7 ∧ stN a + b = N ∧ H = [some (.box [.v (.int .i64 W),.v (.int .i64 T),.sl 1 1 (AC cs)]),some (.arr 1 (AB out))] ∧
   E = [(1,.sl 1 1 (AB ls)),(2,.v (.int .i64 ((f:Int) + (Um ls i:Nat)))),(3,.lp 0 0 0 0),(7,.ls 1 1 0 ls.length),(9,.v (.int .i64 i)),(10,.v (.int .i64 b)),(11,.v (.int .i64 a))]) N ⟨0,by omega,by simp [stN],rfl,by simp⟩ ?_
  rintro J2 hJ2 b E H ⟨a,ha,hab,rfl,rfl⟩
  by_cases hb6:a + b ≤ 6
  case neg =>
   have hb6':(6:Int) - a < b:= by omega
   have hs:= kQ ha
   have ha7:= qQ (a:= a + 1) hN28 (by omega) (by omega)
   have e1:((b:Int) - (6 - (a:Int) + 1)) = ((b - (7 - a):Nat):Int):= by omega
   simp [FJ,hb6',e1]
   refine ⟨by omega,by omega,by omega,by omega,b - (7 - a),by omega,hJ2 _ _ _ ⟨a + 1,ha7,by omega,rfl,?_⟩⟩
   simp
  have hb6':¬ (6:Int) - a < b:= by omega
  have hpr:rX N = ((a:Int),((a + b:Nat):Int)):= by simp only [rX,List.getD_eq_getElem?_getD,← hab,qO ha (by omega:b < 7 - a),Option.getD_some]
  rw [hpr] at next
  simp [rY] at next
  have hio:i < out.length:= by omega
  have hto2:to < out.length:= by omega
  simp [FJ,hb6',hio,hml,h]
  refine ⟨by omega,?_⟩
  simp [Jl,h,hw,EA]
  (repeat' first | omega | apply And.intro) <;>
  ·refine AA one ?_
   simp [o1,hml,EA]
   exact ⟨by omega,by omega,by omega,next⟩
theorem Mv (W T:Int) (cs:List Bool) (ls:List Int) (hb:cs.length < 2 ^ 40) (hl:ls.length < 2 ^ 40):
  SoundAt Tryz.prog R8 [.agg [.v (.int .i64 W),.v (.int .i64 T),.sl 1 1 (AC cs)],.sl 1 1 (AB ls)] (.v (.bool (Am W T cs && AR W T cs ls))) [.bot,.bot]:= by
 refine AG (md:= md0) (ms:= [false,false]) Y9 (by simp) ?_
 simp [R9]
 refine AA (GQ W T cs hb) ?_
 cases hr:Am W T cs with
 | false => simp
 | true =>
 simp
 refine AA (Ko W T cs ls hr hl) ?_
 simp
end Go.Proofs.Dev
