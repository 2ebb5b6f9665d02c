/- Contracts of the functions of the program over slots and rows, each proved against the program itself; no condition beyond those that each theorem names. -/
import Derived.Test.YtfkmfobbgoflgaaGreatDoorAR
import Derived.Test.YtfkmfobbgoflgaaGreatDoorProg
import Derived.Test.YtfkmfobbgoflgaaGreatDoorAH
set_option linter.unusedSimpArgs false
set_option linter.unusedVariables false
set_option maxRecDepth 100000
namespace Go.Proofs.Dev
theorem Gb (W T:Int) (cs:List Bool) (hb:cs.length < 2 ^ 40):
  SoundAt Tryz.prog LC [.agg [.v (.int .i64 W),.v (.int .i64 T),.sl 1 1 (AC cs)]] (.v (.int .i64 (tmI W T cs))) [.bot]:= by
 refine AG (md:= md0) (ms:= [false]) SR (by simp) ?_
 simp [LD]
 refine AA (Ao W T cs hb) ?_
 cases hr:Am W T cs with
 | false => simp [tmI,hr]
 | true =>
 have h36:= Ab hr
 obtain ⟨w1,w2,t1,t2,l1,_⟩:= BT hr
 simp
 refine AF (fun m E H => ∃ (c:Nat) (P:List (Nat × Nat)),m = cs.length - c ∧ c ≤ cs.length ∧ OkP W T (Gy cs) cs.length c (Q7 W T cs.length 0 (Gy cs)) P ∧
  H = [XQ W T cs,some (.arr 1 (AB (fsL P))),some (.arr 1 (AB (snL P)))] ∧
  E = [(1,.lp 0 0 0 0),(3,.ls 1 1 0 P.length),(4,.ls 1 2 0 P.length),(5,.v (.int .i64 c))]) cs.length ⟨0,[(0,1)],rfl,by omega,g8 w1,by simp [fsL,snL,AB],by simp⟩ ?_
 rintro J hJ m E H ⟨c,P,rfl,hc',hP,rfl,rfl⟩
 by_cases hc:c < cs.length
 ·simp [Ek,hc]
  refine sO W T cs hr c _ hc P hP rfl rfl ?_
  intro Q hQ
  simp
  exact ⟨by omega,_,by omega,hJ _ _ _ ⟨c + 1,Q,rfl,hc,nZ hP hQ,rfl,by simp⟩⟩
 have:c = cs.length:= by omega
 subst this
 obtain ⟨e1,e2⟩:= na hP
 have hPs:Mh (fun _ => 1) P ≤ 2 ^ 36:= Nat.le_trans hP.sum (Nat.pow_le_pow_right (by omega) h36)
 have hPl:P.length ≤ 2 ^ 36:= Nat.le_trans hP.len (Nat.pow_le_pow_right (by omega) h36)
 have hfin:tmI W T cs = ((Mh (fun _ => 1) P:Nat):Int):= by rw [tmI,if_pos hr,e2]
 rw [hfin]
 simp [Ek]
 clear hJ J
 refine AF (fun m E H => ∃ k:Nat,m = P.length - k ∧ k ≤ P.length ∧
  H = [some (.arr 1 (AB (fsL P))),some (.arr 1 (AB (snL P)))] ∧
  E = [(3,.ls 1 0 0 P.length),(4,.ls 1 1 0 P.length),(16,.v (.int .i64 (Mh (fun _ => 1) (P.take k)))),(17,.v (.int .i64 k))]) P.length ⟨0,by simp [Mh]⟩ ?_
 rintro J hJ m E H ⟨k,rfl,hk',rfl,rfl⟩
 by_cases hk:k < P.length
 ·have h0:ati (fsL P) k = 0:= by
   rw [iH hk]
   have:= e1 P[k] (List.getElem_mem hk)
   omega
  have h1:= iI hk
  have h2:Mh (fun _ => 1) (P.take (k + 1)) = Mh (fun _ => 1) (P.take k) + P[k].2:= by
   rw [List.take_succ_eq_append_getElem hk,Ju]; simp [Mh]
  have h3:= aW (fun _ => 1) P (k + 1)
  simp [El,hk,h0,h1]
  exact ⟨by omega,by omega,_,by omega,hJ _ _ _ ⟨k + 1,rfl,hk,rfl,by rw [h2]; simp⟩⟩
 ·have:k = P.length:= by omega
  subst this
  simp [El]
theorem SX:∀ (cs:List Bool) (i:Nat),BM (cs.set i false) ≤ BM cs
 | [],i => by simp
 | c::cs,0 => by simp [BM]
 | c::cs,i + 1 => by have:= SX cs i; simp [BM]; omega
def N1 (cs:List Bool) (xs:List Int):List Bool:= xs.foldl (fun cs x => cs.set x.toNat false) cs
@[simp] theorem Ou:∀ (xs:List Int) (cs:List Bool),(N1 cs xs).length = cs.length
  | [],cs => rfl
  | x::xs,cs => by
    have:= Ou xs (cs.set x.toNat false)
    unfold N1 at this ⊢
    rw [List.foldl_cons,this]; simp
theorem YE:∀ (xs:List Int) (cs:List Bool),BM (N1 cs xs) ≤ BM cs
 | [],cs => Nat.le_refl _
 | x::xs,cs => by
   have:= YE xs (cs.set x.toNat false)
   have h2:= SX cs x.toNat
   unfold N1 at this ⊢
   rw [List.foldl_cons]; omega
theorem iK {W T:Int} {cs:List Bool} (xs:List Int) (hr:Am W T cs = true):Am W T (N1 cs xs) = true:= by
 obtain ⟨w1,w2,t1,t2,l1,m⟩:= BT hr
 have:= YE xs cs
 simp only [Am,decide_eq_true_eq]
 exact ⟨w1,w2,t1,t2,by rw [Ou]; exact l1,by omega⟩
theorem fL {cs:List Bool} {xs:List Int} {k:Nat} (h:k < xs.length):N1 cs (xs.take (k + 1)) = (N1 cs (xs.take k)).set (ati xs k).toNat false:= by
 unfold N1
 rw [List.take_succ_eq_append_getElem h,List.foldl_append]
 simp [ati,h]
theorem dn:∀ (xs:List Int) (cs:List Bool) (i:Nat),(∀ x ∈ xs,0 ≤ x) → atb (N1 cs xs) i = (atb cs i && !decide ((i:Int) ∈ xs))
 | [],cs,i,_ => by simp [N1]
 | x::xs,cs,i,hx => by
   have ih:= dn xs (cs.set x.toNat false) i (fun y hy => hx y (by simp [hy]))
   have h0:= hx x (by simp)
   unfold N1 at ih ⊢
   rw [List.foldl_cons,ih]
   have e:atb (cs.set x.toNat false) i = (atb cs i && !decide ((i:Int) = x)):= by
    simp only [atb,Int.toNat_natCast,List.getD_eq_getElem?_getD,List.getElem?_set]
    by_cases h:x.toNat = i
    ·have h2:(i:Int) = x:= by omega
     rw [if_pos h]
     by_cases h3:x.toNat < cs.length
     ·simp [h2,h3]
     ·simp [h2,h3]
    ·have h2:¬ (i:Int) = x:= by omega
     rw [if_neg h]; simp [h2]
   rw [e]
   by_cases h1:(i:Int) = x
   ·simp [h1]
   ·simp [h1]
theorem ZQ (W T:Int) (cs:List Bool) (xs:List Int) (hb:cs.length < 2 ^ 40) (hl:xs.length < 2 ^ 40) (hx:∀ x ∈ xs,0 ≤ x ∧ x < cs.length):
  SoundAt Tryz.prog SS [.agg [.v (.int .i64 W),.v (.int .i64 T),.sl 1 1 (AC cs)],.sl 1 1 (AB xs)] (.agg [.v (.int .i64 W),.v (.int .i64 T),.os 1 (AC (N1 cs xs))]) [.bot,.bot]:= by
 refine X6 (md:= md0) (ms:= [false,false]) ZN (by simp) ?_
 simp [On]
 refine X7 rfl rfl rfl ?_
 simp
 refine ⟨by omega,?_⟩
 simp [NX]
 refine AF (fun m E H => ∃ k:Nat,m = xs.length - k ∧ k ≤ xs.length ∧
  H = [some (.box [.v (.int .i64 0),.v (.int .i64 0),.os 1 []]),some (.box [.v (.int .i64 W),.v (.int .i64 T),.ls 1 2 0 cs.length]),some (.arr 1 (AC (N1 cs (xs.take k))))] ∧
  E = [(1,.sl 1 1 (AB xs)),(4,.lp 0 0 0 0),(5,.lp 0 1 0 0),(6,.v (.int .i64 k))]) xs.length ⟨0,by simp [N1]⟩ ?_
 rintro J hJ m E H ⟨k,rfl,hk',rfl,rfl⟩
 by_cases hk:k < xs.length
 case neg =>
  have:k = xs.length:= by omega
  subst this
  simp [Ij]
  exact List.take_of_length_le (by simp)
 have hin:ati xs k ∈ xs:= by simp [ati,hk]
 obtain ⟨h0,h1⟩:= hx _ hin
 have hstep:= fL (cs:= cs) hk
 simp [Ij,hk,h0,h1,Z4]
 refine ⟨by omega,_,by omega,hJ _ _ _ ⟨k + 1,rfl,hk,by rw [hstep],by simp⟩⟩
def Zh (ls:List Int) (n:Nat):List Int:= (List.range n).flatMap fun k:Nat => if ati ls k = 0 then [] else [(k:Int)]
theorem ak (ls:List Int) (n:Nat):Zh ls (n + 1) = Zh ls n ++ if ati ls n = 0 then [] else [(n:Int)]:= by simp [Zh,List.range_succ]
theorem WR (ls:List Int):∀ n,(Zh ls n).length ≤ n
 | 0 => by simp [Zh]
 | n + 1 => by have:= WR ls n; rw [ak]; split <;> simp <;> omega
theorem covL_mem {ls:List Int} {n:Nat} {x:Int}:x ∈ Zh ls n ↔ ∃ k:Nat,k < n ∧ ati ls k ≠ 0 ∧ x = k:= by
 simp only [Zh,List.mem_flatMap,List.mem_range]
 constructor
 ·rintro ⟨k,hk,hx⟩
  split at hx
  ·cases hx
  ·rename_i h; exact ⟨k,hk,h,by simpa using hx⟩
 ·rintro ⟨k,hk,h,rfl⟩
  exact ⟨k,hk,by rw [if_neg h]; simp⟩
def W7 (W T:Int) (cs:List Bool) (ls:List Int):Nat:= Q7 W T cs.length 0 (Bd cs ls)
def kS (W T:Int) (cs:List Bool) (ls:List Int):Int:= tmI W T (N1 cs (Zh ls ls.length))
theorem kT {W T:Int} {cs:List Bool} {ls:List Int} (hr:Am W T cs = true) (hl:ls.length = cs.length):kS W T cs ls = ((W7 W T cs ls:Nat):Int):= by
 rw [kS,tmI,if_pos (iK _ hr),Ou,W7]
 congr 1
 apply Ez
 intro i _
 have h:= dn (Zh ls ls.length) cs i (fun x hx => by obtain ⟨k,_,_,rfl⟩:= covL_mem.1 hx; omega)
 unfold Gy
 rw [h]
 by_cases hi:i < cs.length
 ·by_cases hz:ati ls i = 0
  ·have:¬ ((i:Int) ∈ Zh ls ls.length):= by
    intro hm
    obtain ⟨k,_,h1,h2⟩:= covL_mem.1 hm
    have:k = i:= by omega
    subst this; exact h1 hz
   simp [Bd,hz,this]
  ·have:(i:Int) ∈ Zh ls ls.length:= covL_mem.2 ⟨i,by omega,hz,rfl⟩
   simp [Bd,hz,this]
 ·have:= dm (cs:= cs) i (by omega)
  unfold Gy at this
  simp [Bd,this]
theorem ZR (W T:Int) (cs:List Bool) (ls:List Int) (hb:cs.length < 2 ^ 40) (hl:ls.length ≤ cs.length):
  SoundAt Tryz.prog ST [.agg [.v (.int .i64 W),.v (.int .i64 T),.sl 1 1 (AC cs)],.sl 1 1 (AB ls)] (.v (.int .i64 (kS W T cs ls))) [.bot,.bot]:= by
 refine AG (md:= md0) (ms:= [false,false]) ZO (by simp) ?_
 simp [SU]
 refine AF (fun m E H => ∃ k:Nat,m = ls.length - k ∧ k ≤ ls.length ∧
  H = [some (.box [.v (.int .i64 W),.v (.int .i64 T),.sl 1 1 (AC cs)]),some (.arr 1 (AB (Zh ls k)))] ∧
  E = [(1,.sl 1 1 (AB ls)),(2,.lp 0 0 0 0),(5,.ls 1 1 0 (Zh ls k).length),(6,.v (.int .i64 k))]) ls.length ⟨0,by simp [Zh]⟩ ?_
 rintro J hJ m E H ⟨k,rfl,hk',rfl,rfl⟩
 have hcl:= WR ls k
 by_cases hk:k < ls.length
 case neg =>
  have:k = ls.length:= by omega
  subst this
  simp [Fl]
  refine AA (ZQ W T cs (Zh ls ls.length) hb (by omega) ?_) ?_
  ·intro x hx
   obtain ⟨j,hj,_,rfl⟩:= covL_mem.1 hx
   omega
  simp
  refine AA (Gb W T (N1 cs (Zh ls ls.length)) (by simpa using hb)) ?_
  have htk:(AC (N1 cs (Zh ls ls.length))).take cs.length = AC (N1 cs (Zh ls ls.length)):= List.take_of_length_le (by simp)
  simp [kS,htk]
 have hs:= ak ls k
 by_cases hz:ati ls k = 0
 ·rw [if_pos hz,List.append_nil] at hs
  simp [Fl,hk,hz]
  exact ⟨by omega,_,by omega,hJ _ _ _ ⟨k + 1,rfl,hk,by rw [hs],by rw [hs]; simp⟩⟩
 ·rw [if_neg hz] at hs
  simp [Fl,hk,hz]
  refine ⟨by omega,by omega,_,by omega,hJ _ _ _ ⟨k + 1,rfl,hk,?_,?_⟩⟩
  ·rw [hs,EY]; rfl
  ·rw [hs]; simp
theorem iL {W T:Int} {cs:List Bool} {ls:List Int} {k:Nat} (hr:Am W T cs = true) (hy:AR W T cs ls = true) (hb:DW cs ls = k):
  W7 W T cs ls = (if Av W T cs ls k 1 = true then W7 W T cs (Bk W T ls k 1) else 0) + (if Av W T cs ls k 2 = true then W7 W T cs (Bk W T ls k 2) else 0):= by
 rcases CY cs ls with h | ⟨k',hk,he,hc,hz⟩
 ·omega
 have:k' = k:= by omega
 subst this
 have hzp:= MC hk hz
 obtain ⟨m,hm⟩:∃ m,Bz ls = m + 1:= ⟨Bz ls - 1,by omega⟩
 unfold W7
 rw [da hr (m + 1) ls (by omega) hy,allT,if_neg (by omega),hb,List.length_append]
 have one:∀ way:Int,way = 1 ∨ way = 2 → (if Av W T cs ls k' way = true then allT W T cs m (Bk W T ls k' way) else []).length = if Av W T cs ls k' way = true then Q7 W T cs.length 0 (Bd cs (Bk W T ls k' way)) else 0:= by
  intro way hw
  split
  ·rename_i hf
   have:= Fb (W:= W) (T:= T) (way:= way) hk hz (by omega) (by omega)
   rw [da hr m _ (by omega) (KX hr hy hf)]
  ·rfl
 rw [one 1 (.inl rfl),one 2 (.inr rfl)]
def ZS (n:Nat) (r:AV) (ups:List AV):Prop:= ∃ (ls:List Int) (b:Bool),ls.length ≤ n ∧ r = .tup [.os 1 (AB ls),.v (.bool b)] ∧ ups = [.bot,.bot]
theorem WS (W T:Int) (cs:List Bool) (rank:Int) (hb:cs.length < 2 ^ 40):
  SoundSet Tryz.prog Oo [.agg [.v (.int .i64 W),.v (.int .i64 T),.sl 1 1 (AC cs)],.v (.int .i64 rank)] (ZS cs.length):= by
 refine KW (md:= md0) (ms:= [false,false]) WQ (by simp) ?_
 simp [Oq]
 refine AA (Ao W T cs hb) ?_
 cases hr:Am W T cs with
 | false => simp [bZ,ZS]
 | true =>
 have h36:= Ab hr
 simp
 refine AA (Gb W T cs hb) ?_
 have hcnt:tmI W T cs = ((W7 W T cs (Ac cs):Nat):Int):= by
  rw [tmI,if_pos hr,W7]
  congr 1
  apply Ez
  intro i _
  simp [Gy,Bd,PS]
 have hle:W7 W T cs (Ac cs) ≤ 2 ^ 36:= Nat.le_trans (WL _ _ _) (Nat.pow_le_pow_right (by omega) h36)
 rw [hcnt]
 simp
 refine ⟨by omega,?_⟩
 refine AA (A7 rank 0 (((W7 W T cs (Ac cs):Nat):Int) - 1)) ?_
 by_cases hx:0 ≤ rank ∧ rank ≤ ((W7 W T cs (Ac cs):Nat):Int) - 1
 case neg =>
  have hx2:(decide (0 ≤ rank) && decide (rank ≤ ((W7 W T cs (Ac cs):Nat):Int) - 1)) = false:= by simp; omega
  simp [hx2,bZ,ZS]
 obtain ⟨rk,rfl⟩:∃ rk:Nat,rank = rk:= ⟨rank.toNat,by omega⟩
 have hx2:(rk:Int) ≤ ((W7 W T cs (Ac cs):Nat):Int) - 1:= hx.2
 simp [hx2]
 refine AA (Ej W T cs hb) ?_
 have hn:(Ac cs).length = cs.length:= by simp [Ac]
 simp [hr]
 refine AA (Fc W T cs (Ac cs) hn hb) ?_
 simp
 refine AF (fun m E H => ∃ (rk:Nat) (now:List Int),m = Bz now ∧ AR W T cs now = true ∧ rk < W7 W T cs now ∧
  H = [some (.box [.v (.int .i64 W),.v (.int .i64 T),.sl 1 1 (AC cs)]),some (.arr 1 (AB now))] ∧
  E = [(1,.v (.int .i64 rk)),(2,.lp 0 0 0 0),(6,.ls 1 1 0 now.length),(7,.v (.int .i64 (DW cs now)))]) (Bz (Ac cs)) ⟨rk,Ac cs,rfl,IM W T cs,by omega,rfl,by simp⟩ ?_
 rintro J hJ m E H ⟨rk,now,rfl,hy,hlt,rfl,rfl⟩
 have hnl:= AY hy
 rcases CY cs now with hneg | ⟨k,hk,he,hc,hz⟩
 ·simp [Ga,hneg,bZ,ZS]
  exact ⟨now,by omega,rfl⟩
 have hsplit:= iL hr hy he
 have hle2:W7 W T cs now ≤ 2 ^ 36:= Nat.le_trans (WL _ _ _) (Nat.pow_le_pow_right (by omega) h36)
 have goon:∀ (way:Int) (rk2:Nat),way = 1 ∨ way = 2 → Av W T cs now k way = true → rk2 < W7 W T cs (Bk W T now k way) →
   CL J (Bz now) [(1,.v (.int .i64 rk2)),(2,.lp 0 0 0 0),(6,.ls 1 1 0 now.length),(7,.v (.int .i64 (DW cs (Bk W T now k way))))]
    [some (.box [.v (.int .i64 W),.v (.int .i64 T),.sl 1 1 (AC cs)]),some (.arr 1 (AB (Bk W T now k way)))]:= by
  intro way rk2 hw hf hlt2
  exact ⟨_,Fb hk hz (by omega) (by omega),hJ _ _ _ ⟨rk2,_,rfl,KX hr hy hf,hlt2,rfl,by simp [AO]⟩⟩
 have first2:= Fc W T cs (Bk W T now k 2) (by rw [AO]; exact hnl) hb
 have two (hf2:Av W T cs now k 2 = true):= C2 W T cs now k 2 hr hy
 have l2 (hf2:Av W T cs now k 2 = true):Au W T cs now k 2 = Bk W T now k 2:= by simp [Au,hf2]
 have ll:∀ way:Int,(Bk W T now k way).length = now.length:= fun way => AO ..
 have tk:∀ way:Int,(AB (Bk W T now k way)).take now.length = AB (Bk W T now k way):= fun way => List.take_of_length_le (by simp [ll])
 simp [Ga,he]
 refine AA (C2 W T cs now k 1 hr hy) ?_
 simp
 cases hf1:Av W T cs now k 1 with
 | false =>
   have hf2:Av W T cs now k 2 = true:= by
    cases h:Av W T cs now k 2 with
    | true => rfl
    | false => simp [hf1,h] at hsplit; omega
   simp [hf1,hf2] at hsplit
   simp
   refine ⟨by omega,?_⟩
   refine AA (two hf2) ?_
   rw [l2 hf2,hf2]
   simp
   refine AA first2 ?_
   simp [ll,tk]
   exact goon 2 rk (.inr rfl) hf2 (by omega)
 | true =>
   have l1':Au W T cs now k 1 = Bk W T now k 1:= by simp [Au,hf1]
   have first1:= Fc W T cs (Bk W T now k 1) (by rw [AO]; exact hnl) hb
   rw [l1']
   simp
   refine AA (ZR W T cs (Bk W T now k 1) hb (by rw [AO]; omega)) ?_
   rw [kT hr (by rw [AO]; exact hnl)]
   by_cases hm:rk < W7 W T cs (Bk W T now k 1)
   ·have hm':¬ W7 W T cs (Bk W T now k 1) ≤ rk:= by omega
    simp [hm']
    refine AA first1 ?_
    simp [ll,tk]
    exact goon 1 rk (.inl rfl) hf1 hm
   ·have hm':W7 W T cs (Bk W T now k 1) ≤ rk:= by omega
    have hf2:Av W T cs now k 2 = true:= by
     cases h:Av W T cs now k 2 with
     | true => rfl
     | false => simp [hf1,h] at hsplit; omega
    simp [hf1,hf2] at hsplit
    simp [hm']
    refine ⟨by omega,?_⟩
    refine AA (two hf2) ?_
    rw [l2 hf2,hf2]
    simp
    refine AA first2 ?_
    simp [ll,tk]
    have e:(rk:Int) - (W7 W T cs (Bk W T now k 1):Nat) = ((rk - W7 W T cs (Bk W T now k 1):Nat):Int):= by omega
    rw [e]
    exact goon 2 (rk - W7 W T cs (Bk W T now k 1)) (.inr rfl) hf2 (by omega)
@[simp] abbrev NZ:Nat:= 254
abbrev D7:Plan:= .al (.o 45 (.app 1 1 true) [.t 39,.t 44]) ( .take (.f 46 2 5) <| .al (.s (.store 1) [.t 46,.t 45]) ( .done))
def Be:ACode:= .seq (.seq (.reg [.m 29 7,.f 30 0 5,.l 31 30,.f 32 1 5,.l 33 32,.o 34 (.bin .mul 0) [.t 31,.t 33],.o 35 (.bin .lss 0) [.t 29,.t 34]]) <| .cond (.t 35) ( .skip) ( .exit 0)) <| .seq (.block 1 ( .draw ( .take (.f 38 2 5) <| .take (.m 40 0) <| .take (.m 42 6) <| .alt (.l 39 38) ( .al (.o 41 (.call 54 []) [.t 40,.k 10]) ( .take (.o 43 (.bin .leq 0) [.t 41,.t 42]) <| .al (.o 44 (.bsl 1) [.t 43]) D7)) <| .al (.o 41 (.call 54 []) [.t 40,.k 10]) ( .take (.o 43 (.bin .leq 0) [.t 41,.t 42]) <| .alt (.l 39 38) ( .al (.o 44 (.bsl 1) [.t 43]) D7) <| .al (.o 44 (.bsl 1) [.t 43]) ( .al (.l 39 38) D7))))) <| .reg [.m 36 7,.o 37 (.bin .add 0) [.t 36,.k 1],.m 7 37]
def Bf:ACode:= .seq (.seq (.reg [.m 53 8,.o 54 (.bin .lss 0) [.t 53,.k 36]]) <| .cond (.t 54) ( .skip) ( .exit 3)) <| .seq (.block 4 ( .reg [.f 57 2 5,.l 58 57,.o 59 (.bsl 1) [.kb true],.o 60 (.app 1 1 true) [.t 58,.t 59],.f 61 2 5,.s (.store 1) [.t 61,.t 60]])) <| .reg [.m 55 8,.o 56 (.bin .add 0) [.t 55,.k 1],.m 8 56]
def Na:ACode:= .seq (.reg [.o 4 (.alloc rz) []]) <| .seq (.reg [.m 9 0,.o 10 (.call 54 []) [.t 9,.k 6],.o 11 (.bin .add 0) [.k 1,.t 10],.m 12 0,.o 13 (.call 54 []) [.t 12,.k 6],.o 14 (.bin .add 0) [.k 1,.t 13],.o 15 (.build rz [(0,1),(1,1)]) [.t 11,.t 14],.o 5 (.alloc rz) [],.s (.store 3) [.t 5,.t 15]]) <| .seq (.seq (.reg [.f 16 0 5,.l 17 16,.f 18 1 5,.l 19 18,.o 20 (.bin .mul 0) [.t 17,.t 19],.o 21 (.bin .gtr 0) [.t 20,.k 24]]) <| .cond (.t 21) ( .reg [.f 22 0 5,.l 23 22,.o 24 (.bin .quo 0) [.k 24,.t 23],.f 25 1 5,.s (.store 1) [.t 25,.t 24]]) ( .skip)) <| .seq (.reg [.m 26 0,.o 27 (.call 54 []) [.t 26,.k 8],.o 28 (.bin .add 0) [.k 2,.t 27],.m 6 28]) <| .seq (.seq (.reg [.o 7 .mv [.k 0]]) <| .block 0 ( .loop [] [0,1,4,5,6,7,73] Be)) <| .seq (.seq (.reg [.m 47 0,.m 48 1,.o 49 (.call 45 []) [.t 47,.t 48]]) <| .cond (.t 49) ( .seq (.reg [.m 50 0,.o 51 (.call 54 []) [.t 50,.k 3]]) <| .block 2 ( .seq (.reg [.o 63 (.bin .eql 0) [.t 51,.k 0],.m 62 63]) <| .cond (.t 62) ( .reg [.f 64 2 5,.l 65 64,.o 66 (.bsl 1) [.kb true],.o 67 (.app 1 1 true) [.t 65,.t 66],.f 68 2 5,.s (.store 1) [.t 68,.t 67]]) ( .seq (.reg [.o 70 (.bin .eql 0) [.t 51,.k 1],.m 69 70]) <| .cond (.t 69) ( .seq (.reg [.o 71 (.build rz []) [],.s (.store 3) [.t 4,.t 71]]) <| .ret) ( .seq (.reg [.o 52 (.build rz [(0,1),(1,1)]) [.k 6,.k 6],.s (.store 3) [.t 5,.t 52]]) <| .seq (.reg [.o 8 .mv [.k 0]]) <| .block 3 ( .loop [] [4,5,8,73] Bf))))) ( .skip)) <| .seq (.reg [.la 72 3 5,.s (.store 3) [.t 4,.t 72]]) <| .ret
theorem Uv:cFn Tryz.prog NZ 73 [.c 4 true 3] Na:= ⟨Tryz.f254,_,Tryz.func254,rfl,by kernel_rfl,by kernel_rfl,by kernel_rfl,by kernel_rfl⟩
@[simp] abbrev Ov:Nat:= 255
abbrev Em:Plan:= .al (.o 40 (.call 140 []) [.t 32,.t 33,.t 34,.t 39]) ( .take (.m 31 40) <| .take (.e 41 0 31) <| .take (.e 42 1 31) <| .take (.m 8 41) <| .take (.m 9 42) <| .done)
abbrev IU:Plan:= .take (.o 38 (.iadr 1) [.t 35,.t 37]) <| .al (.l 39 38) Em
abbrev IV:Plan:= .take (.o 38 (.iadr 1) [.t 35,.t 37]) <| .alt (.la 32 3 5) ( .al (.l 39 38) Em) <| .al (.l 39 38) ( .al (.la 32 3 5) Em)
abbrev IW:Plan:= .al (.o 35 (.bsl 1) [.k 1,.k 2,.k 3,.k 4]) IU
abbrev IX:Plan:= .al (.o 37 (.call 54 []) [.t 36,.k 4]) IU
def Gc:ACode:= .seq (.seq (.reg [.m 25 7,.m 26 6,.n 27 26,.o 28 (.bin .lss 0) [.t 25,.t 27]]) <| .cond (.t 28) ( .skip) ( .exit 0)) <| .seq (.block 1 ( .seq (.draw ( .take (.m 33 6) <| .take (.m 34 7) <| .take (.m 36 0) <| .alt (.la 32 3 5) ( .alt (.o 35 (.bsl 1) [.k 1,.k 2,.k 3,.k 4]) IX <| .al (.o 37 (.call 54 []) [.t 36,.k 4]) IW) <| .alt (.o 35 (.bsl 1) [.k 1,.k 2,.k 3,.k 4]) ( .alt (.la 32 3 5) IX <| .al (.o 37 (.call 54 []) [.t 36,.k 4]) IV) <| .al (.o 37 (.call 54 []) [.t 36,.k 4]) ( .alt (.la 32 3 5) IW <| .al (.o 35 (.bsl 1) [.k 1,.k 2,.k 3,.k 4]) IV))) <| .seq (.reg [.m 43 9]) <| .cond (.t 43) ( .reg [.m 44 8,.m 6 44]) ( .skip))) <| .reg [.m 29 7,.o 30 (.bin .add 0) [.t 29,.k 1],.m 7 30]
def Gd:ACode:= .seq (.seq (.reg [.m 51 11,.o 52 (.bin .leq 0) [.t 51,.k 2]]) <| .cond (.t 52) ( .skip) ( .exit 4)) <| .seq (.block 5 ( .seq (.reg [.la 56 3 5,.m 57 6,.m 58 10,.m 59 11,.o 60 (.call 140 []) [.t 56,.t 57,.t 58,.t 59],.m 55 60,.e 61 0 55,.e 62 1 55,.m 12 61,.m 13 62]) <| .seq (.reg [.m 63 13]) <| .cond (.t 63) ( .reg [.m 64 12,.m 6 64]) ( .skip))) <| .reg [.m 53 11,.o 54 (.bin .add 0) [.t 53,.k 1],.m 11 54]
def Ge:ACode:= .seq (.seq (.reg [.m 45 10,.m 46 6,.n 47 46,.o 48 (.bin .lss 0) [.t 45,.t 47]]) <| .cond (.t 48) ( .skip) ( .exit 2)) <| .seq (.block 3 ( .seq (.reg [.o 11 .mv [.k 1]]) <| .block 4 ( .loop [(6,1)] [4,5,6,10,11,87] Gd))) <| .reg [.m 49 10,.o 50 (.bin .add 0) [.t 49,.k 1],.m 10 50]
abbrev En:Plan:= .al (.o 84 (.app 1 1 true) [.t 77,.t 83]) ( .take (.f 85 2 14) <| .al (.s (.store 1) [.t 85,.t 84]) ( .done))
def EL:ACode:= .seq (.seq (.reg [.m 70 15,.m 71 6,.n 72 71,.o 73 (.bin .lss 0) [.t 70,.t 72]]) <| .cond (.t 73) ( .skip) ( .exit 6)) <| .seq (.block 7 ( .draw ( .take (.f 76 2 14) <| .take (.m 78 6) <| .take (.m 79 15) <| .take (.o 80 (.iadr 1) [.t 78,.t 79]) <| .alt (.l 77 76) ( .al (.l 81 80) ( .take (.o 82 (.bin .neq 0) [.t 81,.k 0]) <| .al (.o 83 (.bsl 1) [.t 82]) En)) <| .al (.l 81 80) ( .take (.o 82 (.bin .neq 0) [.t 81,.k 0]) <| .alt (.l 77 76) ( .al (.o 83 (.bsl 1) [.t 82]) En) <| .al (.o 83 (.bsl 1) [.t 82]) ( .al (.l 77 76) En))))) <| .reg [.m 74 15,.o 75 (.bin .add 0) [.t 74,.k 1],.m 15 75]
def Ow:ACode:= .seq (.reg [.o 4 (.alloc rz) []]) <| .seq (.reg [.m 16 0,.m 17 1,.o 18 (.call 254 []) [.t 16,.t 17],.o 5 (.alloc rz) [],.s (.store 3) [.t 5,.t 18]]) <| .seq (.seq (.reg [.la 19 3 5,.o 20 (.call 168 []) [.t 19],.o 21 (.un .not) [.t 20]]) <| .cond (.t 21) ( .seq (.reg [.la 22 3 5,.s (.store 3) [.t 4,.t 22]]) <| .ret) ( .skip)) <| .seq (.reg [.la 23 3 5,.o 24 (.call 146 []) [.t 23],.m 6 24]) <| .seq (.seq (.reg [.o 7 .mv [.k 0]]) <| .block 0 ( .loop [(6,1)] [0,4,5,6,7,87] Gc)) <| .seq (.seq (.reg [.o 10 .mv [.k 0]]) <| .block 2 ( .loop [(6,1)] [4,5,6,10,87] Ge)) <| .seq (.reg [.f 65 0 5,.l 66 65,.f 67 1 5,.l 68 67,.o 69 (.build rz [(0,1),(1,1)]) [.t 66,.t 68],.o 14 (.alloc rz) [],.s (.store 3) [.t 14,.t 69]]) <| .seq (.seq (.reg [.o 15 .mv [.k 0]]) <| .block 6 ( .loop [(6,1)] [4,6,14,15,87] EL)) <| .seq (.reg [.la 86 3 14,.s (.store 3) [.t 4,.t 86]]) <| .ret
theorem WT:cFn Tryz.prog Ov 87 [.c 4 true 3] Ow:= ⟨Tryz.f255,_,Tryz.func255,rfl,by kernel_rfl,by kernel_rfl,by kernel_rfl,by kernel_rfl⟩
@[simp] abbrev P4:Nat:= 220
abbrev CZ:Plan:= .al (.o 19 (.call 221 []) [.t 13,.t 18]) ( .al (.s (.store 3) [.t 4,.t 19]) ( .done))
abbrev E3:Plan:= .take (.o 17 (.iadr 1) [.t 14,.t 16]) <| .alt (.l 13 12) ( .al (.l 18 17) CZ) <| .al (.l 18 17) ( .al (.l 13 12) CZ)
abbrev Ca:Plan:= .take (.o 17 (.iadr 1) [.t 14,.t 16]) <| .al (.l 18 17) CZ
abbrev ML:Plan:= .take (.o 17 (.iadr 1) [.t 14,.t 16]) <| .alt (.o 9 (.bsl 1) [.k 2,.k 3,.k 4,.k 4,.k 6]) ( .take (.o 12 (.iadr 1) [.t 9,.t 11]) <| .alt (.l 13 12) ( .al (.l 18 17) CZ) <| .al (.l 18 17) ( .al (.l 13 12) CZ)) <| .al (.l 18 17) ( .al (.o 9 (.bsl 1) [.k 2,.k 3,.k 4,.k 4,.k 6]) ( .take (.o 12 (.iadr 1) [.t 9,.t 11]) <| .al (.l 13 12) CZ))
abbrev MM:Plan:= .take (.o 12 (.iadr 1) [.t 9,.t 11]) <| .alt (.l 13 12) ( .alt (.o 14 (.bsl 1) [.k 2,.k 3,.k 4]) ( .al (.o 16 (.call 54 []) [.t 15,.k 3]) Ca) <| .al (.o 16 (.call 54 []) [.t 15,.k 3]) ( .al (.o 14 (.bsl 1) [.k 2,.k 3,.k 4]) Ca)) <| .alt (.o 14 (.bsl 1) [.k 2,.k 3,.k 4]) ( .alt (.l 13 12) ( .al (.o 16 (.call 54 []) [.t 15,.k 3]) Ca) <| .al (.o 16 (.call 54 []) [.t 15,.k 3]) E3) <| .al (.o 16 (.call 54 []) [.t 15,.k 3]) ( .alt (.l 13 12) ( .al (.o 14 (.bsl 1) [.k 2,.k 3,.k 4]) Ca) <| .al (.o 14 (.bsl 1) [.k 2,.k 3,.k 4]) E3)
abbrev Hd:Plan:= .take (.o 12 (.iadr 1) [.t 9,.t 11]) <| .alt (.l 13 12) ( .al (.o 16 (.call 54 []) [.t 15,.k 3]) Ca) <| .al (.o 16 (.call 54 []) [.t 15,.k 3]) E3
abbrev MN:Plan:= .alt (.o 9 (.bsl 1) [.k 2,.k 3,.k 4,.k 4,.k 6]) Hd <| .al (.o 16 (.call 54 []) [.t 15,.k 3]) ML
def P5:ACode:= .seq (.reg [.o 4 (.alloc rz) []]) <| .seq (.seq (.reg [.m 5 0,.o 6 (.call 54 []) [.t 5,.k 4]]) <| .block 0 ( .seq (.reg [.o 8 (.bin .eql 0) [.t 6,.k 0],.m 7 8]) <| .cond (.t 7) ( .seq (.draw ( .take (.m 10 0) <| .take (.m 15 0) <| .alt (.o 9 (.bsl 1) [.k 2,.k 3,.k 4,.k 4,.k 6]) ( .alt (.o 11 (.call 54 []) [.t 10,.k 5]) MM <| .al (.o 14 (.bsl 1) [.k 2,.k 3,.k 4]) ( .al (.o 11 (.call 54 []) [.t 10,.k 5]) Hd)) <| .alt (.o 11 (.call 54 []) [.t 10,.k 5]) ( .alt (.o 9 (.bsl 1) [.k 2,.k 3,.k 4,.k 4,.k 6]) MM <| .alt (.o 14 (.bsl 1) [.k 2,.k 3,.k 4]) MN <| .al (.o 16 (.call 54 []) [.t 15,.k 3]) ( .alt (.o 9 (.bsl 1) [.k 2,.k 3,.k 4,.k 4,.k 6]) ( .take (.o 12 (.iadr 1) [.t 9,.t 11]) <| .alt (.l 13 12) ( .al (.o 14 (.bsl 1) [.k 2,.k 3,.k 4]) Ca) <| .al (.o 14 (.bsl 1) [.k 2,.k 3,.k 4]) E3) <| .al (.o 14 (.bsl 1) [.k 2,.k 3,.k 4]) ML)) <| .al (.o 14 (.bsl 1) [.k 2,.k 3,.k 4]) ( .alt (.o 9 (.bsl 1) [.k 2,.k 3,.k 4,.k 4,.k 6]) ( .al (.o 11 (.call 54 []) [.t 10,.k 5]) Hd) <| .al (.o 11 (.call 54 []) [.t 10,.k 5]) MN))) <| .ret) ( .seq (.reg [.o 21 (.bin .eql 0) [.t 6,.k 1],.m 20 21]) <| .cond (.t 20) ( .seq (.reg [.m 22 0,.m 23 1,.o 24 (.call 254 []) [.t 22,.t 23],.s (.store 3) [.t 4,.t 24]]) <| .ret) ( .skip)))) <| .seq (.reg [.m 25 0,.m 26 1,.o 27 (.call 255 []) [.t 25,.t 26],.s (.store 3) [.t 4,.t 27]]) <| .ret
theorem XR:cFn Tryz.prog P4 28 [.c 4 true 3] P5:= ⟨Tryz.f220,_,Tryz.func220,rfl,by kernel_rfl,by kernel_rfl,by kernel_rfl,by kernel_rfl⟩
@[simp] abbrev Ox:Nat:= 163
def Gf:ACode:= .seq (.reg [.la 28 3 5,.s (.store 3) [.t 4,.t 28]]) <| .ret
abbrev B5:Plan:= .al (.o 27 (.call 221 []) [.t 21,.t 26]) ( .al (.s (.store 3) [.t 4,.t 27]) ( .done))
abbrev EM:Plan:= .take (.o 25 (.iadr 1) [.t 22,.t 24]) <| .alt (.l 21 20) ( .al (.l 26 25) B5) <| .al (.l 26 25) ( .al (.l 21 20) B5)
abbrev B6:Plan:= .take (.o 25 (.iadr 1) [.t 22,.t 24]) <| .al (.l 26 25) B5
abbrev LE:Plan:= .take (.o 25 (.iadr 1) [.t 22,.t 24]) <| .alt (.o 17 (.bsl 1) [.k 2,.k 4,.k 4,.k 5]) ( .take (.o 20 (.iadr 1) [.t 17,.t 19]) <| .alt (.l 21 20) ( .al (.l 26 25) B5) <| .al (.l 26 25) ( .al (.l 21 20) B5)) <| .al (.l 26 25) ( .al (.o 17 (.bsl 1) [.k 2,.k 4,.k 4,.k 5]) ( .take (.o 20 (.iadr 1) [.t 17,.t 19]) <| .al (.l 21 20) B5))
abbrev LF:Plan:= .take (.o 20 (.iadr 1) [.t 17,.t 19]) <| .alt (.l 21 20) ( .alt (.o 22 (.bsl 1) [.k 2,.k 3]) ( .al (.o 24 (.call 54 []) [.t 23,.k 2]) B6) <| .al (.o 24 (.call 54 []) [.t 23,.k 2]) ( .al (.o 22 (.bsl 1) [.k 2,.k 3]) B6)) <| .alt (.o 22 (.bsl 1) [.k 2,.k 3]) ( .alt (.l 21 20) ( .al (.o 24 (.call 54 []) [.t 23,.k 2]) B6) <| .al (.o 24 (.call 54 []) [.t 23,.k 2]) EM) <| .al (.o 24 (.call 54 []) [.t 23,.k 2]) ( .alt (.l 21 20) ( .al (.o 22 (.bsl 1) [.k 2,.k 3]) B6) <| .al (.o 22 (.bsl 1) [.k 2,.k 3]) EM)
abbrev Gg:Plan:= .take (.o 20 (.iadr 1) [.t 17,.t 19]) <| .alt (.l 21 20) ( .al (.o 24 (.call 54 []) [.t 23,.k 2]) B6) <| .al (.o 24 (.call 54 []) [.t 23,.k 2]) EM
abbrev LG:Plan:= .alt (.o 17 (.bsl 1) [.k 2,.k 4,.k 4,.k 5]) Gg <| .al (.o 24 (.call 54 []) [.t 23,.k 2]) LE
def Oy:ACode:= .seq (.reg [.o 4 (.alloc rz) []]) <| .seq (.reg [.m 6 0,.m 7 1,.o 8 (.call 220 []) [.t 6,.t 7],.o 5 (.alloc rz) [],.s (.store 3) [.t 5,.t 8]]) <| .seq (.seq (.reg [.la 9 3 5,.o 10 (.call 147 []) [.t 9],.o 11 (.bin .gtr 0) [.t 10,.k 16],.m 12 11,.mg 13 0 12 true,.g 14 (.call 54 []) [.t 13,.k 12] 12 true,.g 15 (.bin .gtr 0) [.t 14,.k 0] 12 true,.o 16 .pick [.t 12,.t 15,.kb false]]) <| .cond (.t 16) ( .seq (.draw ( .take (.m 18 0) <| .take (.m 23 0) <| .alt (.o 17 (.bsl 1) [.k 2,.k 4,.k 4,.k 5]) ( .alt (.o 19 (.call 54 []) [.t 18,.k 4]) LF <| .al (.o 22 (.bsl 1) [.k 2,.k 3]) ( .al (.o 19 (.call 54 []) [.t 18,.k 4]) Gg)) <| .alt (.o 19 (.call 54 []) [.t 18,.k 4]) ( .alt (.o 17 (.bsl 1) [.k 2,.k 4,.k 4,.k 5]) LF <| .alt (.o 22 (.bsl 1) [.k 2,.k 3]) LG <| .al (.o 24 (.call 54 []) [.t 23,.k 2]) ( .alt (.o 17 (.bsl 1) [.k 2,.k 4,.k 4,.k 5]) ( .take (.o 20 (.iadr 1) [.t 17,.t 19]) <| .alt (.l 21 20) ( .al (.o 22 (.bsl 1) [.k 2,.k 3]) B6) <| .al (.o 22 (.bsl 1) [.k 2,.k 3]) EM) <| .al (.o 22 (.bsl 1) [.k 2,.k 3]) LE)) <| .al (.o 22 (.bsl 1) [.k 2,.k 3]) ( .alt (.o 17 (.bsl 1) [.k 2,.k 4,.k 4,.k 5]) ( .al (.o 19 (.call 54 []) [.t 18,.k 4]) Gg) <| .al (.o 19 (.call 54 []) [.t 18,.k 4]) LG))) <| .ret) ( .skip)) <| .gc [] [4,5,29] Gf
theorem WU:cFn Tryz.prog Ox 29 [.c 4 true 3] Oy:= ⟨Tryz.f163,_,Tryz.func163,rfl,by kernel_rfl,by kernel_rfl,by kernel_rfl,by kernel_rfl⟩
@[simp] abbrev Nb:Nat:= 118
def Bg:ACode:= .seq (.seq (.reg [.m 43 11,.f 44 2 6,.l 45 44,.n 46 45,.o 47 (.bin .lss 0) [.t 43,.t 46]]) <| .cond (.t 47) ( .skip) ( .exit 0)) <| .seq (.block 1 ( .seq (.reg [.f 50 2 6,.l 51 50,.m 52 11,.o 53 (.iadr 1) [.t 51,.t 52],.l 54 53]) <| .cond (.t 54) ( .reg [.m 55 9,.m 56 0,.m 57 10,.o 58 (.mnx true) [.t 57,.k 7],.o 59 (.call 54 []) [.t 56,.t 58],.o 60 (.bsl 1) [.t 59],.o 61 (.app 1 8 true) [.t 55,.t 60],.m 9 61]) ( .reg [.m 62 9,.o 63 (.bsl 1) [.k (-1)],.o 64 (.app 1 8 true) [.t 62,.t 63],.m 9 64]))) <| .reg [.m 48 11,.o 49 (.bin .add 0) [.t 48,.k 1],.m 11 49]
def Ft:ACode:= .seq (.seq (.reg [.m 32 8,.o 33 (.un .not) [.t 32],.m 34 33,.mg 35 0 34 false,.g 36 (.call 54 []) [.t 35,.k 3] 34 false,.g 37 (.bin .eql 0) [.t 36,.k 0] 34 false,.o 38 .pick [.t 34,.kb true,.t 37]]) <| .cond (.t 38) ( .seq (.reg [.o 39 (.bsl 1) [],.m 9 39]) <| .seq (.reg [.m 40 0,.o 41 (.call 54 []) [.t 40,.k 6],.o 42 (.bin .add 0) [.k 2,.t 41],.m 10 42]) <| .seq (.reg [.o 11 .mv [.k 0]]) <| .block 0 ( .loop [(9,1)] [0,1,4,6,9,10,11,87] Bg)) ( .skip)) <| .seq (.seq (.reg [.m 65 0,.m 66 1,.o 67 (.bin .mul 0) [.k 2,.t 66],.o 68 (.call 45 []) [.t 65,.t 67],.m 69 68,.mg 70 9 69 true,.g 71 (.len false) [.t 70] 69 true,.g 72 (.bin .gtr 0) [.t 71,.k 0] 69 true,.o 73 .pick [.t 69,.t 72,.kb false]]) <| .cond (.t 73) ( .reg [.m 74 9,.m 75 0,.m 76 9,.n 77 76,.o 78 (.call 54 []) [.t 75,.t 77],.o 79 (.bsl 1) [.k (-1),.k 7,.k 0],.m 80 0,.o 81 (.call 54 []) [.t 80,.k 3],.o 82 (.iadr 1) [.t 79,.t 81],.l 83 82,.o 84 (.iadr 1) [.t 74,.t 78],.s (.store 1) [.t 84,.t 83]]) ( .skip)) <| .seq (.reg [.la 85 3 6,.m 86 9,.s (.store 3) [.t 4,.t 85],.m 5 86]) <| .ret
abbrev HF:Plan:= .al (.o 31 (.call 166 []) [.t 27,.t 28,.t 30]) ( .take (.m 9 31) <| .done)
def Fu:ACode:= .seq (.draw ( .take (.m 28 7) <| .take (.m 29 0) <| .alt (.la 27 3 6) ( .al (.o 30 (.call 54 []) [.t 29,.k 28]) HF) <| .al (.o 30 (.call 54 []) [.t 29,.k 28]) ( .al (.la 27 3 6) HF))) <| .gc [] [0,1,4,6,8,9,87] Ft
abbrev Dk:Plan:= .al (.o 21 (.call 165 []) [.t 20]) ( .take (.o 22 (.mnx false) [.t 21,.k 1]) <| .take (.o 23 (.bin .rem 0) [.t 19,.t 22]) <| .al (.o 24 (.call 164 []) [.t 17,.t 23]) ( .take (.m 16 24) <| .take (.e 25 0 16) <| .take (.e 26 1 16) <| .take (.m 7 25) <| .take (.m 8 26) <| .done))
abbrev J3:Plan:= .alt (.la 17 3 6) Dk <| .al (.o 21 (.call 165 []) [.t 20]) ( .take (.o 22 (.mnx false) [.t 21,.k 1]) <| .take (.o 23 (.bin .rem 0) [.t 19,.t 22]) <| .al (.la 17 3 6) ( .al (.o 24 (.call 164 []) [.t 17,.t 23]) ( .take (.m 16 24) <| .take (.e 25 0 16) <| .take (.e 26 1 16) <| .take (.m 7 25) <| .take (.m 8 26) <| .done)))
abbrev J4:Plan:= .al (.o 19 (.call 54 []) [.t 18,.k 256]) Dk
def Nc:ACode:= .seq (.reg [.o 4 (.alloc rz) [],.o 5 .mv [.c (.os 1 [])]]) <| .seq (.reg [.m 12 0,.m 13 1,.o 14 (.bin .mul 0) [.k 2,.t 13],.o 15 (.call 163 []) [.t 12,.t 14],.o 6 (.alloc rz) [],.s (.store 3) [.t 6,.t 15]]) <| .seq (.draw ( .take (.m 18 0) <| .alt (.la 17 3 6) ( .alt (.o 19 (.call 54 []) [.t 18,.k 256]) ( .al (.la 20 3 6) Dk) <| .al (.la 20 3 6) J4) <| .alt (.o 19 (.call 54 []) [.t 18,.k 256]) ( .alt (.la 17 3 6) ( .al (.la 20 3 6) Dk) <| .al (.la 20 3 6) J3) <| .al (.la 20 3 6) ( .alt (.la 17 3 6) J4 <| .al (.o 19 (.call 54 []) [.t 18,.k 256]) J3))) <| .gc [] [0,1,4,6,7,8,87] Fu
theorem Uw:cFn Tryz.prog Nb 87 [.c 4 true 3,.t 5] Nc:= ⟨Tryz.f118,_,Tryz.func118,rfl,by kernel_rfl,by kernel_rfl,by kernel_rfl,by kernel_rfl⟩
@[simp] def md5 (f:Nat):List Bool:= if f = 54 ∨ f = 45 ∨ f = 254 ∨ f = 255 ∨ f = 220 ∨ f = 999999 ∨ f = 163 ∨ f = 118 then [true,false] else if f = 999999 ∨ f = 999999 ∨ f = 43 ∨ f = 999999 ∨ f = 999999 ∨ f = 999999 ∨ f = 999999 ∨ f = 999999 ∨ f = 999999 ∨ f = 999999 ∨ f = 999999 ∨ f = 999999 ∨ f = 999999 ∨ f = 999999 then [true] else if f = 999999 then [false,true] else md0 f
def rdC (bs:List Int) (p:Nat):List AV:= [.sl 0 1 (u8s bs),.v (.int .i64 p)]
def rdA (bs:List Int) (p:Nat):AV:= .op (rdC bs p)
attribute [simp] fV rdA rdC
theorem AJ {P:Program} {K:ES → AN → Prop} {E:ES} {H:AN} {f:Nat} {ms:List Bool} {avs:List AV} {dst:Option Nat} {ts:List AV} {post:AV → List AV → Prop} (hs:SoundSet P f ts post) (ks:List Nat)
  (h1:W9 H avs ms = some ks) (h2:ks.Nodup) (h3:Lq H (AL ks H) ks.isEmpty avs ms = some ts) (h4:∀ r ups,post r ups → ∃ p,Qd avs ms ups (Hx r H.length).2.2 = some p ∧
   K (Ev (if ks.isEmpty then E else CG E) dst (Hx r H.length).1) (CA ((Hx r H.length).2.1 ++ p.1) (S6 (p.2 - H.length) (AL ks (if ks.isEmpty then H else BL H))))):GH P f ms avs E H dst K:=
 jv hs ⟨ks,h1,h2,h3,h4⟩
def Tc (bs:List Int) (n:Int) (p:Nat) (r:AV) (ups:List AV):Prop:= ∃ x:Int,0 ≤ x ∧ (x < n ∨ x = 0) ∧ r = .v (.int .i64 x) ∧ ups = [rdA bs (p + 1),.bot]
theorem AD (bs:List Int) (p:Nat) (n:Int) (hb:bs.length ≤ 2000) (hB:Byt bs) (hp:p < 2 ^ 40):
  SoundSet Tryz.prog DU [rdA bs p,.v (.int .i64 n)] (Tc bs n p):= by
 refine gj (md:= md5) (ms:= [true,false]) Tb (by simp) (F:= bZ [.t 4] 99 2 [true,false] (Tc bs n p)) (fun _ _ _ h => h) ?_
 have p1:((p:Int) + 1 - 1) = p:= by omega
 have fin:∀ x:Int,0 ≤ x → (x < n ∨ x = 0) → ∀ E:ES,get E 4 = .v (.int .i64 x) → get E 99 = .lp 0 0 0 0 → get E 100 = .v (.int .i64 n) →
   bZ [RV.t 4] 99 2 [true,false] (Tc bs n p) AExit.ret E [some (Row.box [AV.sl 0 1 (u8s bs),AV.v (Value.int IntKind.i64 ((p:Int) + 1))])]:= by
  intro x h0 h1 E e4 e99 e100
  refine ⟨.v (.int .i64 x),[rdA bs (p + 1),.bot],⟨x,h0,h1,rfl,rfl⟩,?_⟩
  simp [e4,e99,e100,rdA,rdC]
 by_cases hn:n < 1
 ·simp [Ce,rdA,rdC,hn]
  exact ⟨by omega,fin 0 (by omega) (.inr rfl) _ (by simp) (by simp) (by simp)⟩
 by_cases hz:bs = []
 ·subst hz
  simp [Ce,rdA,rdC,hn]
  exact ⟨by omega,fin 0 (by omega) (.inr rfl) _ (by simp) (by simp) (by simp)⟩
 have hz2:¬ (bs.length:Int) = 0:= by
  intro h; exact hz (List.eq_nil_of_length_eq_zero (by omega))
 by_cases hl:p < bs.length
 ·have hb1:= gX hB p
  simp [Ce,rdA,rdC,hn,hz,hl,hz2,p1]
  refine ⟨by omega,by omega,by omega,by omega,fin (ati bs p % n) (Int.emod_nonneg _ (by omega)) (.inl (Int.emod_lt_of_pos _ (by omega))) _ (by simp) (by simp) (by simp)⟩
 have m1:= Int.emod_nonneg (p:Int) hz2
 have m2:= Int.emod_lt_of_pos (p:Int) (show 0 < (bs.length:Int) by omega)
 have m3:= Int.emod_nonneg ((p:Int) * 7 + 3) hz2
 have m4:= Int.emod_lt_of_pos ((p:Int) * 7 + 3) (show 0 < (bs.length:Int) by omega)
 have m5:= Int.ediv_nonneg (show 0 ≤ (p:Int) by omega) (show 0 ≤ (bs.length:Int) by omega)
 have m6:= Int.ediv_le_self (bs.length:Int) (show 0 ≤ (p:Int) by omega)
 have b1:= gX hB ((p:Int) % bs.length)
 have b2:= gX hB (((p:Int) * 7 + 3) % bs.length)
 simp [Ce,rdA,rdC,hn,hz,hl,hz2,p1]
 generalize ati bs ((p:Int) % bs.length) = A at *
 generalize ati bs (((p:Int) * 7 + 3) % bs.length) = B at *
 generalize (p:Int) / bs.length = D at *
 generalize hX:A * 131 + B * 1117 + (p:Int) * 29 + D * 53 = X at *
 (repeat' first | omega | apply And.intro)
 have hx0:0 ≤ ((X.toNat ^^^ (X / 64).toNat:Nat):Int):= by omega
 exact fin (((X.toNat ^^^ (X / 64).toNat:Nat):Int) % n) (Int.emod_nonneg _ (by omega)) (.inl (Int.emod_lt_of_pos _ (by omega))) _ (by simp) (by simp) (by simp)
def qR (bs:List Int) (p:Nat) (r:AV) (ups:List AV):Prop:= ∃ (b:Bool) (q:Nat),r = .v (.bool b) ∧ q ≤ p + 1 ∧ ups = [rdA bs q,.bot]
theorem Cl (bs:List Int) (p:Nat) (n:Int) (hb:bs.length ≤ 2000) (hB:Byt bs) (hp:p < 2 ^ 40) (hn:n < 2 ^ 40):
  SoundSet Tryz.prog NU [rdA bs p,.v (.int .i64 n)] (qR bs p):= by
 refine KW (md:= md5) (ms:= [true,false]) Uq (by simp) ?_
 by_cases h:0 < n
 ·simp [Ii,h]
  refine AJ (AD bs p n hb hB hp) [0] (by simp) (by simp) (by simp) ?_
  rintro _ _ ⟨x,h0,h1,rfl,rfl⟩
  simp
  refine ⟨by omega,?_⟩
  refine ⟨.v (.bool (x == n - 1)),[rdA bs (p + 1),.bot],⟨_,p + 1,rfl,Nat.le_refl _,rfl⟩,?_⟩
  simp
 ·simp [Ii,h]
  refine ⟨.v (.bool false),[rdA bs p,.bot],⟨_,p,rfl,by omega,rfl⟩,?_⟩
  simp
theorem P6 (bs:List Int) (hb:bs.length ≤ 2 ^ 60):
  SoundAt Tryz.prog P0 [.sl 0 1 (u8s bs)] (rdA (bs.take 2000) 0) [.bot]:= by
 refine nG (md:= md5) (ms:= [false]) XO (by simp) ?_
 by_cases h:2000 < bs.length
 ·have h':(2000:Int) < bs.length:= by omega
  have h2:(2000:Int) ≤ bs.length:= by omega
  simp [La,h',h2,dM]
  omega
 ·have h':¬ (2000:Int) < bs.length:= by omega
  have e:bs.take 2000 = bs:= List.take_of_length_le (by omega)
  simp [La,h',e]
def MO (W T:Int) (cs:List Bool):AV:= .agg [.v (.int .i64 W),.v (.int .i64 T),.os 1 (AC cs)]
def P7 (bs:List Int) (p d:Nat) (r:AV) (ups:List AV):Prop:= ∃ (W T:Int) (cs:List Bool) (q:Nat),r = MO W T cs ∧ cs.length ≤ 37 ∧ 0 ≤ W ∧ W ≤ 6 ∧ 0 ≤ T ∧ T ≤ 24 ∧ q ≤ p + d ∧ ups = [rdA bs q,.bot]
def Pc (W T:Int) (id:Nat) (cs:List Bool):List (Option Row):= if cs = [] then [some (.box [.v (.int .i64 W),.v (.int .i64 T),.os 1 []])] else [some (.box [.v (.int .i64 W),.v (.int .i64 T),.ls 1 id 0 cs.length]),some (.arr 1 (AC cs))]
def LH:ACode:= .seq (.seq (.reg [.o 7 .mv [.k 0]]) <| .block 0 ( .loop [] [0,1,4,5,6,7,73] Be)) <| .seq (.seq (.reg [.m 47 0,.m 48 1,.o 49 (.call 45 []) [.t 47,.t 48]]) <| .cond (.t 49) ( .seq (.reg [.m 50 0,.o 51 (.call 54 []) [.t 50,.k 3]]) <| .block 2 ( .seq (.reg [.o 63 (.bin .eql 0) [.t 51,.k 0],.m 62 63]) <| .cond (.t 62) ( .reg [.f 64 2 5,.l 65 64,.o 66 (.bsl 1) [.kb true],.o 67 (.app 1 1 true) [.t 65,.t 66],.f 68 2 5,.s (.store 1) [.t 68,.t 67]]) ( .seq (.reg [.o 70 (.bin .eql 0) [.t 51,.k 1],.m 69 70]) <| .cond (.t 69) ( .seq (.reg [.o 71 (.build rz []) [],.s (.store 3) [.t 4,.t 71]]) <| .ret) ( .seq (.reg [.o 52 (.build rz [(0,1),(1,1)]) [.k 6,.k 6],.s (.store 3) [.t 5,.t 52]]) <| .seq (.reg [.o 8 .mv [.k 0]]) <| .block 3 ( .loop [] [4,5,8,73] Bf))))) ( .skip)) <| .seq (.reg [.la 72 3 5,.s (.store 3) [.t 4,.t 72]]) <| .ret
theorem dp (bs:List Int) (p q:Nat) (hq:q ≤ p + 100):CM [] [4,5,8,73] (awp Tryz.prog md5 Bf)
  (OA 3 (OA 2 (Yb (awp Tryz.prog md5 (.seq (.reg [.la 72 3 5,.s (.store 3) [.t 4,.t 72]]) .ret) (bZ [RV.c 4 true 3] 73 2 [true,false] (P7 bs p 100))) (bZ [RV.c 4 true 3] 73 2 [true,false] (P7 bs p 100)))))
  [(4,.lp 0 0 0 0),(5,.lp 0 1 0 0),(8,.v (.int .i64 0)),(73,.lp 0 2 0 0)]
  [some (.box [.v (.int .i64 0),.v (.int .i64 0),.os 1 []]),some (.box [.v (.int .i64 6),.v (.int .i64 6),.os 1 []]),some (.box [.sl 0 1 (u8s bs),.v (.int .i64 (q:Int))])]:= by
 refine AF (fun m E H => ∃ i:Nat,m = 36 - i ∧ i ≤ 36 ∧ E = [(4,.lp 0 0 0 0),(5,.lp 0 1 0 0),(8,.v (.int .i64 i)),(73,.lp 0 2 0 0)] ∧
  H = if i = 0 then [some (.box [.v (.int .i64 0),.v (.int .i64 0),.os 1 []]),some (.box [.v (.int .i64 6),.v (.int .i64 6),.os 1 []]),some (.box [.sl 0 1 (u8s bs),.v (.int .i64 (q:Int))])]
    else [some (.box [.v (.int .i64 0),.v (.int .i64 0),.os 1 []]),some (.box [.v (.int .i64 6),.v (.int .i64 6),.ls 1 3 0 i]),some (.box [.sl 0 1 (u8s bs),.v (.int .i64 (q:Int))]),some (.arr 1 (AC (List.replicate i true)))]) 36 ⟨0,rfl,by omega,by simp,by simp⟩ ?_
 rintro J hJ m E H ⟨i,rfl,hi,rfl,rfl⟩
 by_cases h:i < 36
 ·have h':(i:Int) < 36:= by omega
  by_cases h0:i = 0
  ·subst h0
   simp [Bf]
   exact ⟨_,by omega,hJ _ _ _ ⟨1,rfl,by omega,by simp,by simp [AC]⟩⟩
  ·have e:AC (List.replicate i true) ++ [.v (.bool true)] = AC (List.replicate (i + 1) true):= by rw [List.replicate_succ',Hy]; rfl
   simp [Bf,h',h0,e]
   exact ⟨by omega,by omega,_,by omega,hJ _ _ _ ⟨i + 1,rfl,h,by simp,by simp⟩⟩
 ·have:i = 36:= by omega
  subst this
  simp [Bf]
  refine ⟨_,_,⟨6,6,List.replicate 36 true,q,rfl,by simp,by omega,by omega,by omega,by omega,hq,rfl⟩,?_⟩
  simp [MO]
  rfl
theorem dq (bs:List Int) (p:Nat) (n W T:Int) (hb:bs.length ≤ 2000) (hB:Byt bs) (hp:p < 2 ^ 39) (hn:n < 2 ^ 39) (hW:1 ≤ W ∧ W ≤ 6) (hT:0 ≤ T ∧ T ≤ 24) (hm:0 ≤ W * T ∧ W * T ≤ 36) (E:ES) (P2:Int) (hP2:P2 = ((p + 1 + 1:Nat):Int))
  (e0:get E 0 = .lp 0 0 0 0) (e1:get E 1 = .v (.int .i64 n)) (e4:get E 4 = .lp 0 1 0 0) (e5:get E 5 = .lp 0 2 0 0) (e73:get E 73 = .lp 0 0 0 0):
  GH Tryz.prog 54 [true,false] [AV.lp 0 0 0 0,AV.v (Value.int IntKind.i64 8)] E
   [some (Row.box [AV.sl 0 1 (u8s bs),AV.v (Value.int IntKind.i64 P2)]),some (Row.box [AV.v (Value.int IntKind.i64 0),AV.v (Value.int IntKind.i64 0),AV.os 1 []]),some (Row.box [AV.v (Value.int IntKind.i64 W),AV.v (Value.int IntKind.i64 T),AV.os 1 []])]
   (some 27)
   (Iq Tryz.prog md5
    [{ dst:= some 28,k:= AK.bin BinOp.add 0,xs:= [Opd.c (AV.v (Value.int IntKind.i64 2)),Opd.t 27],guard:= none },{ dst:= some 6,k:= AK.mv,xs:= [Opd.t 28],guard:= none }]
    (awp Tryz.prog md5 LH (bZ [RV.c 4 true 3] 73 2 [true,false] (P7 bs p 100)))):= by
 subst hP2
 refine AJ (AD bs (p + 1 + 1) 8 hb hB (by omega)) [0] (by simp) (by simp) (by simp) ?_
 rintro _ _ ⟨z,z0,z1,rfl,rfl⟩
 simp [LH,AP,e0,e1,e4,e5,e73]
 refine ⟨by omega,?_⟩
 obtain ⟨N,hN⟩:∃ N:Nat,W * T = N:= ⟨(W * T).toNat,by omega⟩
 refine AF (fun m E H => ∃ (i q:Nat) (cs:List Bool),m = N - i ∧ i ≤ N ∧ cs.length = i ∧ q ≤ p + 3 + i ∧
  H = some (.box [.sl 0 1 (u8s bs),.v (.int .i64 q)])::some (.box [.v (.int .i64 0),.v (.int .i64 0),.os 1 []])::Pc W T 3 cs ∧
  E = [(0,.lp 0 0 0 0),(1,.v (.int .i64 n)),(4,.lp 0 1 0 0),(5,.lp 0 2 0 0),(6,.v (.int .i64 (2 + z))),(7,.v (.int .i64 i)),(73,.lp 0 0 0 0)]) N ⟨0,p + 1 + 1 + 1,[],rfl,by omega,rfl,by omega,by simp [Pc],by simp⟩ ?_
 rintro J hJ m E H ⟨i,q,cs,rfl,hi,hlen,hq,rfl,rfl⟩
 by_cases h:i < N
 ·have h':(i:Int) < W * T:= by omega
  have next:∀ c:Bool,CL J (N - i) [(0,.lp 0 0 0 0),(1,.v (.int .i64 n)),(4,.lp 0 1 0 0),(5,.lp 0 2 0 0),(6,.v (.int .i64 (2 + z))),(7,.v (.int .i64 (i + 1))),(73,.lp 0 0 0 0)]
    (some (.box [.sl 0 1 (u8s bs),.v (.int .i64 (q + 1))])::some (.box [.v (.int .i64 0),.v (.int .i64 0),.os 1 []])::Pc W T 3 (cs ++ [c])):= by
   intro c
   exact ⟨_,by omega,hJ _ _ _ ⟨i + 1,q + 1,cs ++ [c],rfl,h,by simp [hlen],by omega,by simp,by simp⟩⟩
  by_cases hc:cs = []
  ·subst hc
   simp [Be,Pc,h']
   (repeat' first | omega | apply And.intro) <;>
   ·refine AJ (AD bs q 10 hb hB (by omega)) [0] (by simp) (by simp) (by simp) ?_
    rintro _ _ ⟨x,x0,x1,rfl,rfl⟩
    simp
    have n2:= next (decide (x ≤ 2 + z))
    simp [Pc,AC] at n2
    exact ⟨by omega,n2⟩
  ·have hcl:¬ cs.length = 0:= fun h => hc (List.eq_nil_of_length_eq_zero h)
   simp [Be,Pc,h',hc]
   (repeat' first | omega | apply And.intro) <;>
   ·refine AJ (AD bs q 10 hb hB (by omega)) [0] (by simp) (by simp) (by simp) ?_
    rintro _ _ ⟨x,x0,x1,rfl,rfl⟩
    simp
    have n2:= next (decide (x ≤ 2 + z))
    simp [Pc,Hy,Vc] at n2
    (repeat' first | omega | assumption | apply And.intro)
 have:i = N:= by omega
 subst this
 have h':¬ (i:Int) < W * T:= by omega
 have fin:∀ (W2 T2:Int) (cs2:List Bool) (q2:Nat),cs2.length ≤ 37 → 0 ≤ W2 → W2 ≤ 6 → 0 ≤ T2 → T2 ≤ 24 → q2 ≤ p + 100 → P7 bs p 100 (MO W2 T2 cs2) [rdA bs q2,.bot]:=
  fun W2 T2 cs2 q2 a1 a2 a3 a4 a5 a6 => ⟨W2,T2,cs2,q2,rfl,a1,a2,a3,a4,a5,a6,rfl⟩
 by_cases hc:cs = []
 ·subst hc
  simp [Be,Pc,h']
  refine ⟨by omega,?_⟩
  refine AJ (Cl bs q n hb hB (by omega) (by omega)) [0] (by simp) (by simp) (by simp) ?_
  rintro _ _ ⟨b,q2,rfl,hq2,rfl⟩
  cases b with
  | false =>
    simp
    refine ⟨_,_,fin W T [] q2 (by simp) (by omega) (by omega) (by omega) (by omega) (by omega),?_⟩
    simp [MO]
  | true =>
  simp
  refine AJ (AD bs q2 3 hb hB (by omega)) [0] (by simp) (by simp) (by simp) ?_
  rintro _ _ ⟨x,x0,x1,rfl,rfl⟩
  by_cases c0:x = 0
  ·simp [c0]
   refine ⟨_,_,fin W T [true] (q2 + 1) (by simp) (by omega) (by omega) (by omega) (by omega) (by omega),?_⟩
   simp [MO,AC]
  by_cases c1:x = 1
  ·simp [c1]
   refine ⟨_,_,fin 0 0 [] (q2 + 1) (by simp) (by omega) (by omega) (by omega) (by omega) (by omega),?_⟩
   simp [MO,AC]
  simp [c0,c1]
  exact dp bs p (q2 + 1) (by omega)
 ·have hcl:¬ cs.length = 0:= fun h => hc (List.eq_nil_of_length_eq_zero h)
  simp [Be,Pc,h',hc]
  refine ⟨by omega,?_⟩
  refine AJ (Cl bs q n hb hB (by omega) (by omega)) [0] (by simp) (by simp) (by simp) ?_
  rintro _ _ ⟨b,q2,rfl,hq2,rfl⟩
  cases b with
  | false =>
    simp
    refine ⟨_,_,fin W T cs q2 (by omega) (by omega) (by omega) (by omega) (by omega) (by omega),?_⟩
    simp [MO]
  | true =>
  simp
  refine AJ (AD bs q2 3 hb hB (by omega)) [0] (by simp) (by simp) (by simp) ?_
  rintro _ _ ⟨x,x0,x1,rfl,rfl⟩
  by_cases c0:x = 0
  ·simp [c0]
   refine ⟨by omega,?_⟩
   refine ⟨_,_,fin W T (cs ++ [true]) (q2 + 1) (by simp; omega) (by omega) (by omega) (by omega) (by omega) (by omega),?_⟩
   simp [MO,Hy,Vc]
   exact List.take_of_length_le (by simp)
  by_cases c1:x = 1
  ·simp [c1]
   refine ⟨_,_,fin 0 0 [] (q2 + 1) (by simp) (by omega) (by omega) (by omega) (by omega) (by omega),?_⟩
   simp [MO,AC]
  simp [c0,c1]
  exact dp bs p (q2 + 1) (by omega)
theorem Nd (bs:List Int) (p:Nat) (n:Int) (hb:bs.length ≤ 2000) (hB:Byt bs) (hp:p < 2 ^ 39) (hn:n < 2 ^ 39):
  SoundSet Tryz.prog NZ [rdA bs p,.v (.int .i64 n)] (P7 bs p 100):= by
 refine KW (md:= md5) (ms:= [true,false]) Uv (by simp) ?_
 simp [Na]
 refine AJ (AD bs p 6 hb hB (by omega)) [0] (by simp) (by simp) (by simp) ?_
 rintro _ _ ⟨x,x0,x1,rfl,rfl⟩
 simp
 refine ⟨by omega,?_⟩
 refine AJ (AD bs (p + 1) 6 hb hB (by omega)) [0] (by simp) (by simp) (by simp) ?_
 rintro _ _ ⟨y,y0,y1,rfl,rfl⟩
 simp
 have hW:1 ≤ 1 + x ∧ 1 + x ≤ 6:= by omega
 have hY:1 ≤ 1 + y ∧ 1 + y ≤ 6:= by omega
 have hm0:0 ≤ (1 + x) * (1 + y):= Int.mul_nonneg (by omega) (by omega)
 have hm1:(1 + x) * (1 + y) ≤ 6 * 6:= Int.mul_le_mul hW.2 hY.2 (by omega) (by omega)
 refine ⟨by omega,by omega,?_⟩
 have hT1:0 ≤ 24 / (1 + x) ∧ 24 / (1 + x) ≤ 24:= ⟨Int.ediv_nonneg (by omega) (by omega),Int.ediv_le_self _ (by omega)⟩
 have hT2:(1 + x) * (24 / (1 + x)) ≤ 24:= Int.mul_ediv_self_le (by omega)
 have hT3:0 ≤ (1 + x) * (24 / (1 + x)):= Int.mul_nonneg (by omega) hT1.1
 obtain ⟨T1,hTe1⟩:∃ T,24 / (1 + x) = T:= ⟨_,rfl⟩
 obtain ⟨T2,hTe2⟩:∃ T,1 + y = T:= ⟨_,rfl⟩
 obtain ⟨W,hWe⟩:∃ W,1 + x = W:= ⟨_,rfl⟩
 rw [hTe1,hWe] at hT2 hT3
 rw [hTe1] at hT1
 rw [hWe] at hTe1
 rw [hTe2,hWe] at hm0 hm1
 rw [hTe2] at hY
 rw [hWe] at hW
 simp only [hWe,hTe1,hTe2]
 clear hTe1 hTe2 hWe
 have e2:(p:Int) + 1 + 1 = ((p + 1 + 1:Nat):Int):= by simp
 refine ⟨fun hgt => ⟨by omega,?_⟩,fun hgt => ?_⟩
 ·refine dq bs p n W T1 hb hB hp hn hW hT1 ⟨hT3,by omega⟩ _ _ e2 ?_ ?_ ?_ ?_ ?_ <;> rfl
 ·refine dq bs p n W T2 hb hB hp hn hW ⟨by omega,by omega⟩ ⟨hm0,hm1⟩ _ _ e2 ?_ ?_ ?_ ?_ ?_ <;> rfl
theorem Nf (W T:Int) (hW:0 ≤ W ∧ W ≤ 100) (hT:0 ≤ T ∧ T ≤ 100):
  SoundAt Tryz.prog NV [.v (.int .i64 W),.v (.int .i64 T)] (if fY W T = true then MO W T (nf W T) else MO 0 0 []) [.bot,.bot]:= by
 refine AG (md:= md5) (ms:= [false,false]) Ur (by simp) ?_
 have p0:0 ≤ W * T:= Int.mul_nonneg hW.1 hT.1
 have p1:W * T ≤ 100 * 100:= Int.mul_le_mul hW.2 hT.2 hT.1 (by omega)
 simp [NW]
 refine AA (A7 W 1 6) ?_
 by_cases h1:1 ≤ W ∧ W ≤ 6
 case neg =>
  have h1':(decide (1 ≤ W) && decide (W ≤ 6)) = false:= by simp; omega
  have hb:fY W T = false:= by simp [fY]; omega
  simp [h1',hb,MO]
 simp [h1]
 refine AA (A7 T 1 6) ?_
 by_cases h2:1 ≤ T ∧ T ≤ 6
 case neg =>
  have h2':(decide (1 ≤ T) && decide (T ≤ 6)) = false:= by simp; omega
  have hb:fY W T = false:= by simp [fY]; omega
  simp [h2',hb,MO]
 simp [h2]
 refine ⟨by omega,?_⟩
 by_cases h3:24 < W * T
 ·have hb:fY W T = false:= by simp [fY]; omega
  have h3':¬ W * T ≤ 24:= by omega
  simp [h3,h3',hb,MO]
 have hb:fY W T = true:= by simp [fY]; omega
 have h3':W * T ≤ 24:= by omega
 simp [h3,h3',hb]
 obtain ⟨N,hN⟩:∃ N:Nat,W * T = N:= ⟨(W * T).toNat,by omega⟩
 have hL:nf W T = List.replicate N true:= by unfold nf; congr 1; omega
 rw [hL]
 refine AF (fun m E H => ∃ i:Nat,m = N - i ∧ i ≤ N ∧ E = [(0,.v (.int .i64 W)),(1,.v (.int .i64 T)),(4,.lp 0 0 0 0),(5,.lp 0 1 0 0),(6,.v (.int .i64 i))] ∧
  H = some (.box [.v (.int .i64 0),.v (.int .i64 0),.os 1 []])::Pc W T 2 (List.replicate i true)) N ⟨0,rfl,by omega,by simp,by simp [Pc]⟩ ?_
 rintro J hJ m E H ⟨i,rfl,hi,rfl,rfl⟩
 by_cases h:i < N
 ·have h':(i:Int) < W * T:= by omega
  by_cases h0:i = 0
  ·subst h0
   have h'':(0:Int) < W * T:= by simpa using h'
   simp [Dj,Pc,h'']
   refine ⟨by omega,_,by omega,hJ _ _ _ ⟨1,rfl,by omega,by simp,by simp [Pc,AC]⟩⟩
  ·have e:AC (List.replicate i true) ++ [.v (.bool true)] = AC (List.replicate (i + 1) true):= by rw [List.replicate_succ',Hy]; rfl
   simp [Dj,Pc,h',h0,e]
   exact ⟨by omega,by omega,by omega,_,by omega,hJ _ _ _ ⟨i + 1,rfl,h,by simp,by simp [Pc]⟩⟩
 ·have:i = N:= by omega
  subst this
  have h':¬ (i:Int) < W * T:= by omega
  have h0:¬ i = 0:= by
   intro h0
   subst h0
   have:1 * 1 ≤ W * T:= Int.mul_le_mul h1.1 h2.1 (by omega) (by omega)
   omega
  simp [Dj,Pc,h',h0,MO]
  exact ⟨by omega,List.take_of_length_le (by simp)⟩
theorem tF {x:Int} (h0:0 ≤ x) (h1:x < 4):([AV.v (.int .i64 1),AV.v (.int .i64 2),AV.v (.int .i64 3),AV.v (.int .i64 4)]:List AV)[x.toNat]? = some (.v (.int .i64 (x + 1))):= by
 obtain rfl | rfl | rfl | rfl:x = 0 ∨ x = 1 ∨ x = 2 ∨ x = 3:= by omega
 all_goals rfl
theorem sP {x:Int} (h0:0 ≤ x) (h1:x < 4) (h:x.toNat < ([AV.v (.int .i64 1),AV.v (.int .i64 2),AV.v (.int .i64 3),AV.v (.int .i64 4)]:List AV).length):([AV.v (.int .i64 1),AV.v (.int .i64 2),AV.v (.int .i64 3),AV.v (.int .i64 4)]:List AV)[x.toNat]'h = .v (.int .i64 (x + 1)):= by
 have:= tF h0 h1
 rw [List.getElem?_eq_getElem h] at this
 exact Option.some.inj this
theorem YF {W T:Int} {cs:List Bool} {ls:List Int} {cell way:Int} (hr:Am W T cs = true) (hy:AR W T cs ls = true):AR W T cs (Au W T cs ls cell way) = true:= by
 unfold Au
 split
 ·rename_i h; exact KX hr hy h
 ·exact hy
theorem Lc {W T:Int} {cs:List Bool} {ls:List Int} {cell way:Int}:(Au W T cs ls cell way).length = ls.length:= by
 unfold Au
 split
 ·exact AO ..
 ·rfl
theorem WV (bs:List Int) (p:Nat) (n:Int) (hb:bs.length ≤ 2000) (hB:Byt bs) (hp:p < 2 ^ 38) (hn:n < 2 ^ 39):
  SoundSet Tryz.prog Ov [rdA bs p,.v (.int .i64 n)] (P7 bs p 200):= by
 refine KW (md:= md5) (ms:= [true,false]) WT (by simp) ?_
 simp [Ow]
 refine AJ (Nd bs p n hb hB (by omega) hn) [0] (by simp) (by simp) (by simp) ?_
 rintro _ _ ⟨W,T,cs,q,rfl,hcs,w0,w6,t0,t24,hq,rfl⟩
 simp [MO]
 refine AA (Ao W T cs (by omega)) ?_
 cases hr:Am W T cs with
 | false =>
   simp
   refine ⟨_,_,⟨W,T,cs,q,rfl,hcs,w0,w6,t0,t24,by omega,rfl⟩,?_⟩
   simp [MO]
 | true =>
 simp
 refine AA (Ej W T cs (by omega)) ?_
 simp [hr]
 have h36:= Ab hr
 have hn0:(Ac cs).length = cs.length:= by simp [Ac]
 rw [hn0]
 refine AF (fun m E H => ∃ (i q:Nat) (ls:List Int),m = cs.length - i ∧ i ≤ cs.length ∧ q ≤ p + 100 + i ∧ AR W T cs ls = true ∧
  E = [(0,.lp 0 0 0 0),(4,.lp 0 1 0 0),(5,.lp 0 2 0 0),(6,.ls 1 3 0 cs.length),(7,.v (.int .i64 i)),(87,.lp 0 0 0 0)] ∧
  H = [some (.box [.sl 0 1 (u8s bs),.v (.int .i64 q)]),some (.box [.v (.int .i64 0),.v (.int .i64 0),.os 1 []]),some (.box [.v (.int .i64 W),.v (.int .i64 T),.ls 1 4 0 cs.length]),some (.arr 1 (AB ls)),some (.arr 1 (AC cs))]) cs.length
  ⟨0,q,Ac cs,rfl,by omega,by omega,IM W T cs,by simp,by simp⟩ ?_
 rintro J hJ m E H ⟨i,q,ls,rfl,hi,hq2,hy,rfl,rfl⟩
 have hlen:= AY hy
 by_cases h:i < cs.length
 ·have next:∀ x:Int,CL J (cs.length - i) [(0,.lp 0 0 0 0),(4,.lp 0 1 0 0),(5,.lp 0 2 0 0),(6,.ls 1 3 0 cs.length),(7,.v (.int .i64 (i + 1))),(87,.lp 0 0 0 0)]
    [some (.box [.sl 0 1 (u8s bs),.v (.int .i64 (q + 1))]),some (.box [.v (.int .i64 0),.v (.int .i64 0),.os 1 []]),some (.box [.v (.int .i64 W),.v (.int .i64 T),.ls 1 4 0 cs.length]),some (.arr 1 (AB (Au W T cs ls i x))),some (.arr 1 (AC cs))]:=
   fun x => ⟨_,by omega,hJ _ _ _ ⟨i + 1,q + 1,Au W T cs ls i x,rfl,h,by omega,YF hr hy,by simp,by simp⟩⟩
  simp [Gc,h]
  (repeat' first | omega | apply And.intro) <;>
  ·refine AJ (AD bs q 4 hb hB (by omega)) [0] (by simp) (by simp) (by simp) ?_
   rintro _ _ ⟨x,x0,x1,rfl,rfl⟩
   have x4:x < 4:= by omega
   have hg:= sP x0 x4
   have one:= C2 W T cs ls i (x + 1) hr hy
   have n2:= next (x + 1)
   have hl1:(Au W T cs ls i (x + 1)).length = cs.length:= by rw [Lc]; exact hlen
   have htk:(AB ls).take cs.length = AB ls:= List.take_of_length_le (by simp [hlen])
   simp [x0,x4,hg]
   (repeat' first | omega | apply And.intro) <;>
   ·refine AA one ?_
    simp [hlen,htk]
    cases hf:Av W T cs ls i (x + 1) with
    | false =>
      have e:Au W T cs ls i (x + 1) = ls:= by simp [Au,hf]
      rw [e] at n2
      simp
      exact ⟨by omega,n2⟩
    | true =>
      simp [hl1]
      exact ⟨by omega,n2⟩
 have:i = cs.length:= by omega
 subst this
 simp [Gc]
 clear hJ J
 refine AF (fun m E H => ∃ (i:Nat) (ls:List Int),m = cs.length - i ∧ i ≤ cs.length ∧ AR W T cs ls = true ∧
  E = [(4,.lp 0 0 0 0),(5,.lp 0 1 0 0),(6,.ls 1 2 0 cs.length),(10,.v (.int .i64 i)),(87,.lp 0 3 0 0)] ∧
  H = [some (.box [.v (.int .i64 0),.v (.int .i64 0),.os 1 []]),some (.box [.v (.int .i64 W),.v (.int .i64 T),.ls 1 4 0 cs.length]),some (.arr 1 (AB ls)),some (.box [.sl 0 1 (u8s bs),.v (.int .i64 q)]),some (.arr 1 (AC cs))]) cs.length
  ⟨0,ls,rfl,by omega,hy,by simp,by simp⟩ ?_
 clear hy hlen
 rintro J hJ m E H ⟨i,ls,rfl,hi,hy,rfl,rfl⟩
 by_cases h:i < cs.length
 ·simp [Ge,h]
  refine AF (fun m E H => ∃ (j:Nat) (ls:List Int),m = 2 - j ∧ j ≤ 2 ∧ AR W T cs ls = true ∧
   E = [(4,.lp 0 0 0 0),(5,.lp 0 1 0 0),(6,.ls 1 2 0 cs.length),(10,.v (.int .i64 i)),(11,.v (.int .i64 ((j + 1:Nat):Int))),(87,.lp 0 3 0 0)] ∧
   H = [some (.box [.v (.int .i64 0),.v (.int .i64 0),.os 1 []]),some (.box [.v (.int .i64 W),.v (.int .i64 T),.ls 1 4 0 cs.length]),some (.arr 1 (AB ls)),some (.box [.sl 0 1 (u8s bs),.v (.int .i64 q)]),some (.arr 1 (AC cs))]) 2
   ⟨0,ls,rfl,by omega,hy,by simp,by simp⟩ ?_
  clear hy ls
  rintro J2 hJ2 m2 E2 H2 ⟨j,ls,rfl,hj,hy,rfl,rfl⟩
  have hlen:= AY hy
  by_cases hj2:j < 2
  ·have one:= C2 W T cs ls i (j + 1) hr hy
   have hl1:(Au W T cs ls i (j + 1)).length = cs.length:= by rw [Lc]; exact hlen
   have htk:(AB ls).take cs.length = AB ls:= List.take_of_length_le (by simp [hlen])
   have hj':(j:Int) + 1 ≤ 2:= by omega
   simp [Gd,hj']
   refine AA one ?_
   simp [hlen,htk]
   cases hf:Av W T cs ls i (j + 1) with
   | false =>
     simp
     exact ⟨by omega,_,by omega,hJ2 _ _ _ ⟨j + 1,ls,rfl,by omega,hy,by simp,rfl⟩⟩
   | true =>
     simp [hl1]
     exact ⟨by omega,_,by omega,hJ2 _ _ _ ⟨j + 1,Au W T cs ls i (j + 1),rfl,by omega,YF hr hy,by simp,rfl⟩⟩
  ·have hj':¬ (j:Int) + 1 ≤ 2:= by omega
   simp [Gd,hj']
   exact ⟨by omega,_,by omega,hJ _ _ _ ⟨i + 1,ls,rfl,h,hy,by simp,rfl⟩⟩
 have:i = cs.length:= by omega
 subst this
 have hlen:= AY hy
 simp [Ge]
 clear hJ J
 refine AF (fun m E H => ∃ (i:Nat) (out:List Bool),m = cs.length - i ∧ i ≤ cs.length ∧ out.length = i ∧
  E = [(4,.lp 0 0 0 0),(6,.ls 1 1 0 cs.length),(14,.lp 0 2 0 0),(15,.v (.int .i64 i)),(87,.lp 0 3 0 0)] ∧
  H = if out = [] then [some (.box [.v (.int .i64 0),.v (.int .i64 0),.os 1 []]),some (.arr 1 (AB ls)),some (.box [.v (.int .i64 W),.v (.int .i64 T),.os 1 []]),some (.box [.sl 0 1 (u8s bs),.v (.int .i64 q)])]
    else [some (.box [.v (.int .i64 0),.v (.int .i64 0),.os 1 []]),some (.arr 1 (AB ls)),some (.box [.v (.int .i64 W),.v (.int .i64 T),.ls 1 4 0 out.length]),some (.box [.sl 0 1 (u8s bs),.v (.int .i64 q)]),some (.arr 1 (AC out))]) cs.length
  ⟨0,[],rfl,by omega,rfl,by simp,by simp⟩ ?_
 rintro J hJ m E H ⟨i,out,rfl,hi,hol,rfl,rfl⟩
 by_cases h:i < cs.length
 ·have hil:i < ls.length:= by omega
  by_cases ho:out = []
  ·subst ho
   simp at hol
   subst hol
   simp [EL,h,hil]
   exact ⟨_,by omega,hJ _ _ _ ⟨1,[ati ls 0 != 0],rfl,by omega,rfl,by simp,by simp [AC]⟩⟩
  ·simp [EL,h,hil,ho]
   have n2:CL J (cs.length - i) [(4,.lp 0 0 0 0),(6,.ls 1 1 0 cs.length),(14,.lp 0 2 0 0),(15,.v (.int .i64 (i + 1))),(87,.lp 0 3 0 0)]
     [some (.box [.v (.int .i64 0),.v (.int .i64 0),.os 1 []]),some (.arr 1 (AB ls)),some (.box [.v (.int .i64 W),.v (.int .i64 T),.ls 1 4 0 (out.length + 1)]),some (.box [.sl 0 1 (u8s bs),.v (.int .i64 q)]),some (.arr 1 (AC out ++ [.v (.bool (ati ls i != 0))]))]:=
    ⟨_,by omega,hJ _ _ _ ⟨i + 1,out ++ [ati ls i != 0],rfl,h,by simp [hol],by simp,by simp [Hy,Vc]⟩⟩
   (repeat' first | omega | assumption | apply And.intro)
 have:i = cs.length:= by omega
 subst this
 have hne:¬ out = []:= by
  intro h0
  obtain ⟨w1,w2,t1,t2,l1,_⟩:= BT hr
  have:1 * 1 ≤ W * T:= Int.mul_le_mul w1 t1 (by omega) (by omega)
  rw [h0] at hol; simp at hol; omega
 simp [EL,hne]
 refine ⟨_,_,⟨W,T,out,q,rfl,by omega,w0,w6,t0,t24,by omega,rfl⟩,?_⟩
 have htk:(AC out).take cs.length = AC out:= List.take_of_length_le (by simp [hol])
 simp [MO,hol,htk]
theorem iM {bs:List Int} {p d q:Nat} {W T:Int} (hq:q ≤ p + d) (hW:0 ≤ W) (hT:0 ≤ T):
  ∃ (W' T':Int) (cs:List Bool),(if fY W T = true then MO W T (nf W T) else MO 0 0 []) = MO W' T' cs ∧ P7 bs p d (MO W' T' cs) [rdA bs q,.bot]:= by
 by_cases h:fY W T = true
 ·rw [if_pos h]
  simp only [fY,decide_eq_true_eq] at h
  exact ⟨W,T,nf W T,rfl,W,T,nf W T,q,rfl,by simp [nf]; omega,by omega,by omega,by omega,by omega,hq,rfl⟩
 ·rw [if_neg h]
  exact ⟨0,0,[],rfl,0,0,[],q,rfl,by simp,by omega,by omega,by omega,by omega,hq,rfl⟩
abbrev n5:List AV:= [AV.v (.int .i64 2),AV.v (.int .i64 3),AV.v (.int .i64 4),AV.v (.int .i64 4),AV.v (.int .i64 6)]
abbrev n3:List AV:= [AV.v (.int .i64 2),AV.v (.int .i64 3),AV.v (.int .i64 4)]
theorem sQ {x:Int} (h0:0 ≤ x) (h1:x < 5):∃ v:Int,0 ≤ v ∧ v ≤ 100 ∧ ∀ h:x.toNat < n5.length,n5[x.toNat]'h = .v (.int .i64 v):= by
 obtain rfl | rfl | rfl | rfl | rfl:x = 0 ∨ x = 1 ∨ x = 2 ∨ x = 3 ∨ x = 4:= by omega
 ·exact ⟨2,by omega,by omega,fun _ => rfl⟩
 ·exact ⟨3,by omega,by omega,fun _ => rfl⟩
 ·exact ⟨4,by omega,by omega,fun _ => rfl⟩
 ·exact ⟨4,by omega,by omega,fun _ => rfl⟩
 ·exact ⟨6,by omega,by omega,fun _ => rfl⟩
theorem sR {x:Int} (h0:0 ≤ x) (h1:x < 3):∃ v:Int,0 ≤ v ∧ v ≤ 100 ∧ ∀ h:x.toNat < n3.length,n3[x.toNat]'h = .v (.int .i64 v):= by
 obtain rfl | rfl | rfl:x = 0 ∨ x = 1 ∨ x = 2:= by omega
 ·exact ⟨2,by omega,by omega,fun _ => rfl⟩
 ·exact ⟨3,by omega,by omega,fun _ => rfl⟩
 ·exact ⟨4,by omega,by omega,fun _ => rfl⟩
set_option maxHeartbeats 4000000 in
theorem XS (bs:List Int) (p:Nat) (n:Int) (hb:bs.length ≤ 2000) (hB:Byt bs) (hp:p < 2 ^ 37) (hn:n < 2 ^ 39):
  SoundSet Tryz.prog P4 [rdA bs p,.v (.int .i64 n)] (P7 bs p 300):= by
 refine KW (md:= md5) (ms:= [true,false]) XR (by simp) ?_
 simp [P5]
 refine AJ (AD bs p 4 hb hB (by omega)) [0] (by simp) (by simp) (by simp) ?_
 rintro _ _ ⟨x,x0,x1,rfl,rfl⟩
 by_cases c0:x = 0
 ·simp [c0]
  (repeat' first | omega | apply And.intro) <;>
  ·refine AJ (AD bs (p + 1) 5 hb hB (by omega)) [0] (by simp) (by simp) (by simp) ?_
   rintro _ _ ⟨y,y0,y1,rfl,rfl⟩
   have y5:y < 5:= by omega
   obtain ⟨v,v0,v1,hv⟩:= sQ y0 y5
   simp [y0,y5,hv]
   (repeat' first | omega | apply And.intro) <;>
   ·refine AJ (AD bs (p + 1 + 1) 3 hb hB (by omega)) [0] (by simp) (by simp) (by simp) ?_
    rintro _ _ ⟨z,z0,z1,rfl,rfl⟩
    have z3:z < 3:= by omega
    obtain ⟨u,u0,u1,hu⟩:= sR z0 z3
    simp [y0,y5,hv,z0,z3,hu]
    (repeat' first | omega | apply And.intro) <;>
    ·refine AA (Nf v u ⟨v0,v1⟩ ⟨u0,u1⟩) ?_
     obtain ⟨W',T',cs',e,hset⟩:= iM (bs:= bs) (p:= p) (d:= 300) (q:= p + 1 + 1 + 1) (W:= v) (T:= u) (by omega) v0 u0
     rw [e]
     simp [MO]
     refine ⟨_,_,hset,?_⟩
     simp [MO]
 by_cases c1:x = 1
 ·simp [c1]
  refine AJ (Nd bs (p + 1) n hb hB (by omega) hn) [0] (by simp) (by simp) (by simp) ?_
  rintro _ _ ⟨W,T,cs,q,rfl,hcs,w0,w6,t0,t24,hq,rfl⟩
  simp [MO]
  refine ⟨_,_,⟨W,T,cs,q,rfl,hcs,w0,w6,t0,t24,by omega,rfl⟩,?_⟩
  simp [MO]
 simp [c0,c1]
 refine AJ (WV bs (p + 1) n hb hB (by omega) hn) [0] (by simp) (by simp) (by simp) ?_
 rintro _ _ ⟨W,T,cs,q,rfl,hcs,w0,w6,t0,t24,hq,rfl⟩
 simp [MO]
 refine ⟨_,_,⟨W,T,cs,q,rfl,hcs,w0,w6,t0,t24,by omega,rfl⟩,?_⟩
 simp [MO]
abbrev n4:List AV:= [AV.v (.int .i64 2),AV.v (.int .i64 4),AV.v (.int .i64 4),AV.v (.int .i64 5)]
abbrev n2:List AV:= [AV.v (.int .i64 2),AV.v (.int .i64 3)]
theorem sT {x:Int} (h0:0 ≤ x) (h1:x < 4):∃ v:Int,0 ≤ v ∧ v ≤ 100 ∧ ∀ h:x.toNat < n4.length,n4[x.toNat]'h = .v (.int .i64 v):= by
 obtain rfl | rfl | rfl | rfl:x = 0 ∨ x = 1 ∨ x = 2 ∨ x = 3:= by omega
 ·exact ⟨2,by omega,by omega,fun _ => rfl⟩
 ·exact ⟨4,by omega,by omega,fun _ => rfl⟩
 ·exact ⟨4,by omega,by omega,fun _ => rfl⟩
 ·exact ⟨5,by omega,by omega,fun _ => rfl⟩
theorem sU {x:Int} (h0:0 ≤ x) (h1:x < 2):∃ v:Int,0 ≤ v ∧ v ≤ 100 ∧ ∀ h:x.toNat < n2.length,n2[x.toNat]'h = .v (.int .i64 v):= by
 obtain rfl | rfl:x = 0 ∨ x = 1:= by omega
 ·exact ⟨2,by omega,by omega,fun _ => rfl⟩
 ·exact ⟨3,by omega,by omega,fun _ => rfl⟩
set_option maxHeartbeats 4000000 in
theorem WW (bs:List Int) (p:Nat) (n:Int) (hb:bs.length ≤ 2000) (hB:Byt bs) (hp:p < 2 ^ 36) (hn:n < 2 ^ 39):
  SoundSet Tryz.prog Ox [rdA bs p,.v (.int .i64 n)] (P7 bs p 400):= by
 refine KW (md:= md5) (ms:= [true,false]) WU (by simp) ?_
 simp [Oy]
 refine AJ (XS bs p n hb hB (by omega) hn) [0] (by simp) (by simp) (by simp) ?_
 rintro _ _ ⟨W,T,cs,q,rfl,hcs,w0,w6,t0,t24,hq,rfl⟩
 simp [MO]
 refine AA (NN W T cs (by omega)) ?_
 have fin:∀ q2:Nat,q2 ≤ p + 400 → P7 bs p 400 (MO W T cs) [rdA bs q2,.bot]:= fun q2 h => ⟨W,T,cs,q2,rfl,hcs,w0,w6,t0,t24,h,rfl⟩
 generalize hm:(if Am W T cs = true then (BM cs:Int) else -1) = M
 by_cases hM:16 < M
 ·simp [hM]
  refine AJ (AD bs q 12 hb hB (by omega)) [0] (by simp) (by simp) (by simp) ?_
  rintro _ _ ⟨x,x0,x1,rfl,rfl⟩
  by_cases hx:0 < x
  ·simp [hx]
   (repeat' first | omega | apply And.intro) <;>
   ·refine AJ (AD bs (q + 1) 4 hb hB (by omega)) [0] (by simp) (by simp) (by simp) ?_
    rintro _ _ ⟨y,y0,y1,rfl,rfl⟩
    have y4:y < 4:= by omega
    obtain ⟨v,v0,v1,hv⟩:= sT y0 y4
    simp [y0,y4,hv]
    (repeat' first | omega | apply And.intro) <;>
    ·refine AJ (AD bs (q + 1 + 1) 2 hb hB (by omega)) [0] (by simp) (by simp) (by simp) ?_
     rintro _ _ ⟨z,z0,z1,rfl,rfl⟩
     have z2:z < 2:= by omega
     obtain ⟨u,u0,u1,hu⟩:= sU z0 z2
     simp [y0,y4,hv,z0,z2,hu]
     (repeat' first | omega | apply And.intro) <;>
     ·refine AA (Nf v u ⟨v0,v1⟩ ⟨u0,u1⟩) ?_
      obtain ⟨W',T',cs',e,hset⟩:= iM (bs:= bs) (p:= p) (d:= 400) (q:= q + 1 + 1 + 1) (W:= v) (T:= u) (by omega) v0 u0
      rw [e]
      simp [MO]
      refine ⟨_,_,hset,?_⟩
      simp [MO]
  ·simp [hx,Gf]
   refine ⟨_,_,fin (q + 1) (by omega),?_⟩
   simp [MO]
 ·simp [hM,Gf]
  refine ⟨_,_,fin q (by omega),?_⟩
  simp [MO]
end Go.Proofs.Dev
