/- Contracts of the functions of the program over slots and rows, each proved against the program itself; no condition beyond those that each theorem names. -/
import Derived.Test.YtfkmfobbgoflgaaGreatDoorAO
import Derived.Test.YtfkmfobbgoflgaaGreatDoorProg
import Derived.Test.YtfkmfobbgoflgaaGreatDoorAH
set_option linter.unusedSimpArgs false
set_option linter.unusedVariables false
set_option maxRecDepth 100000
namespace Go.Proofs.Dev
def Ia (ls p:List Int):Bool:= XB ls.length fun k => decide (ati ls k = 0) || decide (ati p k = ati ls k)
theorem hasB_iff {ls p:List Int}:Ia ls p = true ↔ ∀ k:Nat,k < ls.length → ati ls k = 0 ∨ ati p k = ati ls k:= by
 simp only [Ia,CN,Bool.or_eq_true,decide_eq_true_eq]
theorem MD (ls:List Int):Ia ls ls = true:= hasB_iff.2 fun _ _ => .inr rfl
theorem YB {p:Nat → Bool} {n k:Nat} (h:Eg p n = k):∀ j,j < k → p j = false:= by
 intro j hj
 unfold Eg at h
 split at h
 ·rename_i k' hk
  rw [List.find?_range_eq_some] at hk
  have:k' = k:= by omega
  subst this
  have:= hk.2.2 j hj
  simpa using this
 ·omega
theorem nV {W T:Int} {ls:List Int} {cell way:Int} (hc:cell.toNat < ls.length) (hto:(AH W T cell way).toNat < ls.length) (j:Nat):
  ati (Bk W T ls cell way) j = if j = (AH W T cell way).toNat then CO way else if j = cell.toNat then way else ati ls j:= by
 unfold Bk
 rw [OD (by simpa using hto),OD hc]
theorem Ey {W T:Int} {cs:List Bool} {ls:List Int} {k:Nat} {way:Int} (hr:Am W T cs = true) (hl:ls.length = cs.length) (hf:Av W T cs ls k way = true):
  ∃ t:Nat,AH W T k way = t ∧ t < ls.length ∧ k < ls.length ∧ t ≠ k ∧ 1 ≤ way ∧ way ≤ 4 ∧ AH W T t (CO way) = k ∧ atb cs t = true ∧ ati ls k = 0 ∧ ati ls t = 0 ∧
    ∀ j:Nat,ati (Bk W T ls k way) j = if j = t then CO way else if j = k then way else ati ls j:= by
 obtain ⟨w1,w2,t1,t2,l1,_⟩:= BT hr
 simp only [Av,decide_eq_true_eq] at hf
 obtain ⟨f0,f1,f2,f3,f4,f5,f6⟩:= hf
 obtain ⟨b1,b2,b3,b4,b5⟩:= Cn (T:= T) w1 f0 (by omega) f2
 have e:AH W T k way = ((AH W T k way).toNat:Nat):= by omega
 refine ⟨(AH W T k way).toNat,e,by omega,by omega,by omega,b2,b3,by rw [← e]; exact b1,by rw [← e]; exact f4,f5,by rw [← e]; exact f6,?_⟩
 intro j
 rw [nV (by omega) (by omega)]
 simp
theorem ZD {W T:Int} {cs:List Bool} (hr:Am W T cs = true):∀ (n:Nat) (ls:List Int),ls.length = cs.length → ∀ p ∈ allT W T cs n ls,Ia ls p = true:= by
 intro n
 induction n with
 | zero =>
   intro ls hl p hp
   simp only [allT,List.mem_singleton] at hp
   subst hp; exact MD p
 | succ n ih =>
   intro ls hl p hp
   rw [allT] at hp
   split at hp
   ·simp only [List.mem_singleton] at hp
    subst hp; exact MD p
   rcases CY cs ls with h | ⟨k,hk,he,hc,hzk⟩
   ·omega
   rw [he] at hp
   have step:∀ way:Int,Av W T cs ls k way = true → p ∈ allT W T cs n (Bk W T ls k way) → Ia ls p = true:= by
    intro way hf hm
    obtain ⟨t,e,t1,t2,t3,_,_,_,_,z1,z2,hat⟩:= Ey hr hl hf
    have h1:= hasB_iff.1 (ih _ (by rw [AO]; exact hl) p hm)
    rw [hasB_iff]
    intro j hj
    have h2:= h1 j (by rw [AO]; exact hj)
    rw [hat j] at h2
    by_cases e1:j = t
    ·subst e1; exact .inl z2
    by_cases e2:j = k
    ·subst e2; exact .inl z1
    rw [if_neg e1,if_neg e2] at h2
    exact h2
   rw [List.mem_append] at hp
   rcases hp with hp | hp
   ·split at hp
    ·rename_i hf; exact step 1 hf hp
    ·cases hp
   ·split at hp
    ·rename_i hf; exact step 2 hf hp
    ·cases hp
theorem nW {a b:List Int} (hl:a.length = b.length) (h:∀ k:Nat,k < a.length → ati a k = ati b k):a = b:= by
 apply List.ext_getElem hl
 intro i h1 h2
 have:= h i h1
 simpa [ati,h1,h2] using this
theorem DF {W T:Int} {cs:List Bool} {ls:List Int} (hy:AR W T cs ls = true) {k:Nat} (hk:k < ls.length) (hv:ati ls k ≠ 0):
  1 ≤ ati ls k ∧ ati ls k ≤ 4 ∧ atb cs k = true ∧ 0 ≤ AH W T k (ati ls k) ∧ atb cs (AH W T k (ati ls k)) = true ∧ ati ls (AH W T k (ati ls k)) = CO (ati ls k):= by
 simp only [AR,Bool.and_eq_true,decide_eq_true_eq,CN] at hy
 have:= hy.2 k hk
 simp only [JP,decide_eq_true_eq] at this
 rcases this with h | h
 ·exact absurd h hv
 ·exact h
theorem AY {W T:Int} {cs:List Bool} {ls:List Int} (hy:AR W T cs ls = true):ls.length = cs.length:= by
 simp only [AR,Bool.and_eq_true,decide_eq_true_eq] at hy; exact hy.1
theorem WI {W T:Int} {cs:List Bool} {ls:List Int} (hr:Am W T cs = true) (hy:AR W T cs ls = true) {k t:Nat} {way:Int} (hk:k < ls.length) (ht:AH W T k way = t) (hv:ati ls t = CO way):ati ls k = way:= by
 obtain ⟨w1,w2,t1,t2,l1,_⟩:= BT hr
 have hl:= AY hy
 obtain ⟨b1,b2,b3,b4,b5⟩:= Cn (W:= W) (T:= T) (k:= k) (way:= way) w1 (by omega) (by omega) (by omega)
 obtain ⟨c1,c2,c3⟩:= F3 b2 b3
 obtain ⟨_,_,_,_,_,g⟩:= DF hy (k:= t) (by omega) (by omega)
 rw [hv,← ht,b1,c1] at g
 exact g
theorem gy {W T:Int} {cs:List Bool} {b ls:List Int} {k:Nat} {way:Int} (hr:Am W T cs = true) (hb:b.length = cs.length) (hf:Av W T cs b k way = true) (hs:Ia b ls = true) (h1:ati ls k = way) (h2:ati ls (AH W T k way) = CO way):
  Ia (Bk W T b k way) ls = true:= by
 obtain ⟨t,e,t1,t2,t3,_,_,_,_,z1,z2,hat⟩:= Ey hr hb hf
 rw [e] at h2
 rw [hasB_iff] at hs ⊢
 intro j hj
 rw [AO] at hj
 rw [hat j]
 by_cases e1:j = t
 ·subst e1; rw [if_pos rfl]; exact .inr h2
 rw [if_neg e1]
 by_cases e2:j = k
 ·subst e2; rw [if_pos rfl]; exact .inr h1
 rw [if_neg e2]
 exact hs j hj
theorem gz {W T:Int} {cs:List Bool} {b ls:List Int} (hyb:AR W T cs b = true) (hyl:AR W T cs ls = true) (hs:Ia b ls = true) (h:DW cs b < 0):ls = b:= by
 have hbl:= AY hyb
 have hll:= AY hyl
 refine nW (by omega) fun k hk => ?_
 rcases hasB_iff.1 hs k (by omega) with h1 | h1
 ·have h2:= TV h k (by omega)
  by_cases hv:ati ls k = 0
  ·omega
  ·obtain ⟨_,_,g,_⟩:= DF hyl hk hv
   simp [Bd,h1,g] at h2
 ·exact h1
theorem WJ {W T:Int} {cs:List Bool} {b ls:List Int} (m n:Nat) (hyb:AR W T cs b = true) (hyl:AR W T cs ls = true) (hs:Ia b ls = true) (h:DW cs b < 0):
  (allT W T cs m b).filter (Ia ls) = allT W T cs n ls:= by
 have e:= gz hyb hyl hs h
 subst e
 rw [MB _ h,MB _ h]
 simp [MD]
theorem WK {W T:Int} {cs:List Bool} (hr:Am W T cs = true):∀ (m:Nat) (b ls:List Int) (n:Nat),Bz b ≤ m → Bz ls ≤ n → AR W T cs b = true → AR W T cs ls = true → Ia b ls = true →
  (allT W T cs m b).filter (Ia ls) = allT W T cs n ls:= by
 obtain ⟨w1,w2,t1,t2,l1,_⟩:= BT hr
 intro m
 induction m with
 | zero =>
   intro b ls n hzb hzl hyb hyl hs
   rcases CY cs b with h | ⟨k,hk,he,hc,hzk⟩
   ·exact WJ 0 n hyb hyl hs (by omega)
   ·have:= MC hk hzk
    omega
 | succ m ih =>
   intro b ls n hzb hzl hyb hyl hs
   rcases CY cs b with h | ⟨k,hk,he,hc,hzk⟩
   ·exact WJ (m + 1) n hyb hyl hs (by omega)
   have hbl:= AY hyb
   have hll:= AY hyl
   have hk0:¬ (k:Int) < 0:= by omega
   have hmin:∀ j,j < k → Bd cs b j = false:= YB he
   rw [allT,he,if_neg hk0,List.filter_append]
   by_cases hv:ati ls k = 0
   ·have hbk:DW cs ls = k:= by
     refine CX (by omega) (by simp [Bd,hc,hv]) (fun j hj => ?_)
     have h1:= hmin j hj
     rcases hasB_iff.1 hs j (by omega) with h2 | h2
     ·simp [Bd,h2] at h1
      simp [Bd,h1]
     ·simp only [Bd] at h1 ⊢
      rw [h2]; exact h1
    have hzp:= MC (ls:= ls) (k:= k) (by omega) hv
    obtain ⟨n',rfl⟩:∃ n',n = n' + 1:= ⟨n - 1,by omega⟩
    have stepA:∀ way:Int,1 ≤ way → way ≤ 4 → (if Av W T cs b k way then allT W T cs m (Bk W T b k way) else []).filter (Ia ls) = (if Av W T cs ls k way then allT W T cs n' (Bk W T ls k way) else []):= by
     intro way v1 v4
     by_cases hf:Av W T cs ls k way = true
     ·obtain ⟨t,e,a1,a2,a3,_,_,a6,a7,z1,z2,hat⟩:= Ey hr hll hf
      have hfb:Av W T cs b k way = true:= by
       simp only [Av,decide_eq_true_eq] at hf ⊢
       obtain ⟨f0,f1,f2,f3,f4,f5,f6⟩:= hf
       refine ⟨f0,by omega,f2,f3,f4,hzk,?_⟩
       rw [e]
       rcases hasB_iff.1 hs t (by omega) with h2 | h2
       ·exact h2
       ·rw [← h2]; exact z2
      rw [if_pos hf,if_pos hfb]
      have hzb':Bz (Bk W T b k way) < Bz b:= Fb hk hzk v1 v4
      have hzl':Bz (Bk W T ls k way) < Bz ls:= Fb (by omega) hv v1 v4
      obtain ⟨t',e',_,_,_,_,_,_,_,y1,y2,hatb⟩:= Ey hr hbl hfb
      have et:t' = t:= by omega
      subst et
      have hs':Ia (Bk W T b k way) (Bk W T ls k way) = true:= by
       rw [hasB_iff]
       intro j hj
       rw [AO] at hj
       rw [hatb j,hat j]
       by_cases e1:j = t'
       ·rw [if_pos e1,if_pos e1]; exact .inr rfl
       by_cases e2:j = k
       ·rw [if_neg e1,if_neg e1,if_pos e2,if_pos e2]; exact .inr rfl
       rw [if_neg e1,if_neg e1,if_neg e2,if_neg e2]
       exact hasB_iff.1 hs j hj
      rw [← ih _ _ n' (by omega) (by omega) (KX hr hyb hfb) (KX hr hyl hf) hs']
      apply List.filter_congr
      intro p hp
      have hp1:= hasB_iff.1 (ZD hr m _ (by rw [AO]; exact hbl) p hp)
      rw [Bool.eq_iff_iff,hasB_iff,hasB_iff]
      constructor
      ·intro h j hj
       rw [AO] at hj
       rw [hat j]
       by_cases e1:j = t'
       ·have h5:= hp1 j (by rw [AO]; omega)
        rw [hatb j,if_pos e1] at h5
        rw [if_pos e1]; exact h5
       by_cases e2:j = k
       ·have h5:= hp1 j (by rw [AO]; omega)
        rw [hatb j,if_neg e1,if_pos e2] at h5
        rw [if_neg e1,if_pos e2]; exact h5
       rw [if_neg e1,if_neg e2]
       exact h j hj
      ·intro h j hj
       have h3:= h j (by rw [AO]; exact hj)
       rw [hat j] at h3
       by_cases e1:j = t'
       ·subst e1; exact .inl z2
       by_cases e2:j = k
       ·subst e2; exact .inl z1
       rw [if_neg e1,if_neg e2] at h3
       exact h3
     ·rw [if_neg hf]
      by_cases hfb:Av W T cs b k way = true
      ·rw [if_pos hfb,List.filter_eq_nil_iff]
       intro p hp hh
       obtain ⟨t,e,a1,a2,a3,_,_,a6,a7,y1,y2,hatb⟩:= Ey hr hbl hfb
       have hp1:= hasB_iff.1 (ZD hr m _ (by rw [AO]; exact hbl) p hp) t (by rw [AO]; exact a1)
       rw [hatb t,if_pos rfl] at hp1
       have hb4:= (F3 v1 v4).2
       have hpt:ati p t = CO way:= by omega
       have hlt:ati ls t ≠ 0:= by
        intro h0
        apply hf
        simp only [Av,decide_eq_true_eq] at hfb ⊢
        obtain ⟨f0,f1,f2,f3,f4,_,_⟩:= hfb
        refine ⟨f0,f1,f2,f3,f4,hv,?_⟩
        rw [e]; exact h0
       have hl2:= hasB_iff.1 hh t (by omega)
       have hl3:ati ls t = CO way:= by omega
       have:= WI hr hyl (k:= k) (t:= t) (way:= way) (by omega) e hl3
       omega
      ·rw [if_neg hfb]; rfl
    rw [stepA 1 (by omega) (by omega),stepA 2 (by omega) (by omega),allT.eq_2,hbk,if_neg hk0]
   ·obtain ⟨v1,v4,g3,g4,g5,g6⟩:= DF hyl (k:= k) (by omega) hv
    obtain ⟨v,hvv⟩:∃ v,ati ls k = v:= ⟨_,rfl⟩
    rw [hvv] at v1 v4 g4 g5 g6 hv
    obtain ⟨_,_,_,_,b5⟩:= Cn (W:= W) (T:= T) (k:= k) (way:= v) w1 (by omega) (by omega) g4
    obtain ⟨t,ht⟩:∃ t:Nat,AH W T k v = t:= ⟨(AH W T k v).toNat,by omega⟩
    have hbt:ati b t = 0:= by
     rcases hasB_iff.1 hs t (by omega) with h | h
     ·exact h
     ·exfalso
      rw [ht] at g6
      have:= WI hr hyb (k:= k) (t:= t) (way:= v) hk ht (by rw [← h]; exact g6)
      omega
    have h12:v = 1 ∨ v = 2:= by
     by_cases h3:v ≤ 2
     ·omega
     exfalso
     have hlt:t < k:= by
      unfold AH at ht
      have h4:v = 3 ∨ v = 4:= by omega
      rcases h4 with rfl | rfl
      ·simp at ht
       split at ht <;> omega
      ·simp at ht
       split at ht <;> omega
     have h1:= hmin t hlt
     rw [ht] at g5
     simp [Bd,g5] at h1
     exact h1 hbt
    have hfb:Av W T cs b k v = true:= by
     simp only [Av,decide_eq_true_eq]
     exact ⟨by omega,by omega,g4,hc,g5,hzk,by rw [ht]; exact hbt⟩
    have hzb':Bz (Bk W T b k v) < Bz b:= Fb hk hzk v1 v4
    have hA:= ih (Bk W T b k v) ls n (by omega) hzl (KX hr hyb hfb) hyl (gy hr hbl hfb hs hvv g6)
    have other:∀ w:Int,w ≠ v → (if Av W T cs b k w then allT W T cs m (Bk W T b k w) else []).filter (Ia ls) = []:= by
     intro w hw
     split
     ·rename_i hfw
      rw [List.filter_eq_nil_iff]
      intro p hp hh
      obtain ⟨t',e,a1,a2,a3,a4,a5,_,_,_,_,hatb⟩:= Ey hr hbl hfw
      have hp1:= hasB_iff.1 (ZD hr m _ (by rw [AO]; exact hbl) p hp) k (by rw [AO]; exact hk)
      rw [hatb k,if_neg (fun e => a3 e.symm),if_pos rfl] at hp1
      have h7:= hasB_iff.1 hh k (by omega)
      rw [hvv] at h7
      omega
     ·rfl
    rcases h12 with rfl | rfl
    ·rw [other 2 (by omega),if_pos hfb,hA,List.append_nil]
    ·rw [other 1 (by omega),if_pos hfb,hA,List.nil_append]
theorem kI {W T:Int} {cs:List Bool} {ds ls:List Int} (hok:okB W T cs ds ls = true):(allT W T cs cs.length ls).filter (fun t => LU (Bt W T ds t)) = (CE W T cs ds).filter (Ia ls):= by
 have hok':= hok
 simp only [okB,Bool.and_eq_true] at hok'
 obtain ⟨hr,hd,hy⟩:= hok'
 have hl:= AY hy
 have hz:Bz ls ≤ cs.length:= by have:= Hr ls; omega
 have hn:(Ac cs).length = cs.length:= by simp [Ac]
 have hzn:Bz (Ac cs) ≤ cs.length:= by have:= Hr (Ac cs); omega
 rw [aU (by simp only [hr,hd,Bool.and_self]),HC,if_pos hr,List.filter_filter]
 rw [← WK hr cs.length (Ac cs) ls cs.length hzn hz (IM W T cs) hy (hasB_iff.2 fun k _ => .inl (PS cs k)),List.filter_filter]
 congr 1
 funext t
 exact Bool.and_comm _ _
def clr (G:Nat → Bool) (j:Nat):Nat → Bool:= fun i => G i && !(decide (i = j))
def Q7 (W T:Int):Nat → Nat → (Nat → Bool) → Nat
 | 0,_,_ => 1
 | f + 1,c,G => if G c = true then (if 0 ≤ AH W T c 1 ∧ G (c + 1) = true then Q7 W T f (c + 1) (clr G (c + 1)) else 0) + (if 0 ≤ AH W T c 2 ∧ G (c + W.toNat) = true then Q7 W T f (c + 1) (clr G (c + W.toNat)) else 0)
   else Q7 W T f (c + 1) G
theorem Ez {W T:Int}:∀ (f c:Nat) {G G':Nat → Bool},(∀ i,c ≤ i → G i = G' i) → Q7 W T f c G = Q7 W T f c G'
 | 0,_,_,_,_ => rfl
 | f + 1,c,G,G',h => by
   have h1:= Ez (W:= W) (T:= T) f (c + 1) (G:= G) (G':= G') (fun i hi => h i (by omega))
   have h2:= Ez (W:= W) (T:= T) f (c + 1) (G:= clr G (c + 1)) (G':= clr G' (c + 1)) (fun i hi => by simp [clr,h i (by omega)])
   have h3:= Ez (W:= W) (T:= T) f (c + 1) (G:= clr G (c + W.toNat)) (G':= clr G' (c + W.toNat)) (fun i hi => by simp [clr,h i (by omega)])
   simp only [Q7,h c (Nat.le_refl c),h (c + 1) (by omega),h (c + W.toNat) (by omega),h1,h2,h3]
theorem Oi {W T:Int} (f:Nat) {G:Nat → Bool}:∀ (d c:Nat),(∀ i,c ≤ i → i < c + d → G i = false) → Q7 W T (f + d) c G = Q7 W T f (c + d) G
 | 0,c,_ => rfl
 | d + 1,c,h => by
   have h0:= h c (Nat.le_refl c) (by omega)
   have h1:= Oi (W:= W) (T:= T) f d (c + 1) (fun i h2 h3 => h i (by omega) (by omega))
   rw [show f + (d + 1) = (f + d) + 1 by omega,Q7,if_neg (by simp [h0]),h1,show c + 1 + d = c + (d + 1) by omega]
theorem WL {W T:Int}:∀ (f c:Nat) (G:Nat → Bool),Q7 W T f c G ≤ 2 ^ f
 | 0,_,_ => by simp [Q7]
 | f + 1,c,G => by
   have h1:= WL (W:= W) (T:= T) f (c + 1) G
   have h2:= WL (W:= W) (T:= T) f (c + 1) (clr G (c + 1))
   have h3:= WL (W:= W) (T:= T) f (c + 1) (clr G (c + W.toNat))
   rw [Q7,Nat.pow_succ]
   split
   ·split <;> split <;> omega
   ·omega
theorem qL {W T:Int} {c:Nat} (h:0 ≤ AH W T c 1):AH W T c 1 = ((c + 1:Nat):Int):= by
 unfold AH at h ⊢
 by_cases hc:(c:Int) % W < W - 1
 ·simp [hc]
 ·simp [hc] at h
theorem qM {W T:Int} {c:Nat} (hW:1 ≤ W) (h:0 ≤ AH W T c 2):AH W T c 2 = ((c + W.toNat:Nat):Int):= by
 unfold AH at h ⊢
 by_cases hc:(c:Int) / W < T - 1
 ·simp [hc]; omega
 ·simp [hc] at h
theorem da {W T:Int} {cs:List Bool} (hr:Am W T cs = true):∀ (n:Nat) (ls:List Int),Bz ls ≤ n → AR W T cs ls = true → Q7 W T cs.length 0 (Bd cs ls) = (allT W T cs n ls).length:= by
 obtain ⟨w1,w2,t1,t2,l1,_⟩:= BT hr
 intro n
 induction n with
 | zero =>
   intro ls hz hy
   have hlen:ls.length = cs.length:= by simp only [AR,Bool.and_eq_true,decide_eq_true_eq] at hy; exact hy.1
   have hf:∀ i,0 ≤ i → i < 0 + cs.length → Bd cs ls i = false:= by
    intro i _ hi
    cases hb:Bd cs ls i with
    | false => rfl
    | true =>
      simp only [Bd,Bool.and_eq_true,decide_eq_true_eq] at hb
      have:= K2 (ls:= ls) (i:= i) (v:= 1) (by omega) hb.2 (by omega)
      omega
   have:= Oi (W:= W) (T:= T) 0 cs.length 0 hf
   rw [Nat.zero_add] at this
   rw [this]; simp [Q7,allT]
 | succ n ih =>
   intro ls hz hy
   have hlen:ls.length = cs.length:= by simp only [AR,Bool.and_eq_true,decide_eq_true_eq] at hy; exact hy.1
   rcases CY cs ls with hb | ⟨c,hc,hb,hcs,hls⟩
   ·have hf:∀ i,0 ≤ i → i < 0 + cs.length → Bd cs ls i = false:= by
     intro i _ hi
     exact TV (p:= Bd cs ls) (n:= ls.length) (by unfold DW at hb; omega) i (by omega)
    have:= Oi (W:= W) (T:= T) 0 cs.length 0 hf
    rw [Nat.zero_add] at this
    rw [this]; simp [Q7,allT,hb]
   have hmin:= YB (by unfold DW at hb; exact hb)
   have hGc:Bd cs ls c = true:= by simp [Bd,hcs,hls]
   obtain ⟨m,hm⟩:∃ m,cs.length = (m + 1) + c:= ⟨cs.length - c - 1,by omega⟩
   have hskip:= Oi (W:= W) (T:= T) (m + 1) (G:= Bd cs ls) c 0 (fun i _ hi => hmin i (by omega))
   rw [← hm,Nat.zero_add] at hskip
   rw [hskip,Q7,if_pos hGc,allT]
   have hneg:¬ DW cs ls < 0:= by omega
   rw [if_neg hneg,List.length_append,hb]
   have one:∀ (way d:Nat),(way = 1 ∨ way = 2) → (0 ≤ AH W T c way → AH W T c way = ((c + d:Nat):Int)) → 1 ≤ d →
     (if 0 ≤ AH W T c way ∧ Bd cs ls (c + d) = true then Q7 W T m (c + 1) (clr (Bd cs ls) (c + d)) else 0) = (if Av W T cs ls c way = true then allT W T cs n (Bk W T ls c way) else []).length:= by
    intro way d hw hst hd
    have hfree:Av W T cs ls c way = true ↔ (0 ≤ AH W T c way ∧ Bd cs ls (c + d) = true):= by
     simp only [Av,decide_eq_true_eq,Bd,Bool.and_eq_true]
     constructor
     ·rintro ⟨_,_,h2,_,h4,_,h6⟩
      have e:= hst h2
      rw [e] at h4 h6
      exact ⟨h2,h4,h6⟩
     ·rintro ⟨h2,h4,h6⟩
      have e:= hst h2
      rw [e]
      exact ⟨by omega,by omega,by omega,hcs,h4,hls,h6⟩
    by_cases hfr:Av W T cs ls c way = true
    ·rw [if_pos hfr,if_pos (hfree.1 hfr)]
     have h2:= (hfree.1 hfr).1
     have e:= hst h2
     have hlt:= (Cn (T:= T) (k:= c) (way:= way) w1 (by omega) (by omega) h2).2.2.2.2
     have hto:(AH W T c way).toNat < ls.length:= by omega
     have hzz:= Fb (W:= W) (T:= T) (ls:= ls) (k:= c) (way:= way) hc hls (by omega) (by omega)
     rw [← ih (Bk W T ls c way) (by omega) (KX hr hy hfr)]
     obtain ⟨t,et,_,_,_,v1,v4,_,_,_,_,hA⟩:= Ey hr hlen hfr
     have etd:t = c + d:= by omega
     have hat:∀ i:Nat,Bd cs (Bk W T ls c way) i = (Bd cs ls i && !decide (i = c) && !decide (i = c + d)):= by
      intro i
      have hbk:CO way ≠ 0:= by
       have:= (F3 v1 v4).2
       omega
      simp only [Bd,hA i]
      by_cases e1:i = t
      ·have e3:i = c + d:= by omega
       rw [if_pos e1]; simp [hbk,e3]
      ·have e3:¬ i = c + d:= by omega
       by_cases e2:i = c
       ·have hw0:(way:Int) ≠ 0:= by omega
        have hw1:¬ way = 0:= by omega
        rw [if_neg e1,if_pos e2]; simp [hw1,e2]
       ·rw [if_neg e1,if_neg e2]; simp [e2,e3]
     have hsk:= Oi (W:= W) (T:= T) m (G:= Bd cs (Bk W T ls c way)) (c + 1) 0 (fun i _ hi => by
      rw [hat]
      by_cases e1:i = c
      ·simp [e1]
      ·rw [hmin i (by omega)]; rfl)
     rw [Nat.zero_add,show m + (c + 1) = cs.length by omega] at hsk
     rw [hsk]
     apply Ez
     intro i hi
     rw [hat]
     have e2:¬ i = c:= by omega
     simp [clr,e2]
    ·rw [if_neg hfr,if_neg (fun h => hfr (hfree.2 h))]
     rfl
   have h1:= one 1 1 (.inl rfl) (fun h => qL h) (by omega)
   have h2:= one 2 W.toNat (.inr rfl) (fun h => qM w1 h) (by omega)
   have e1:((1:Nat):Int) = 1:= rfl
   have e2:((2:Nat):Int) = 2:= rfl
   rw [e1] at h1
   rw [e2] at h2
   rw [h1,h2]
def Zg (F:Nat → Bool) (c s:Nat):Nat → Bool:= fun i => F i && !(s.testBit (i - c))
def Mp (W T:Int) (F:Nat → Bool) (c s:Nat):List Nat:=
 if s % 2 = 1 ∨ F c = false then [s / 2] else
  (if 0 ≤ AH W T c 1 ∧ F (c + 1) = true ∧ s / 2 % 2 = 0 then [s / 2 + 1] else []) ++ (if 0 ≤ AH W T c 2 ∧ F (c + W.toNat) = true then [s / 2 + 2 ^ (W.toNat - 1)] else [])
theorem ZE (s i c:Nat) (h:c + 1 ≤ i):(s / 2).testBit (i - (c + 1)) = s.testBit (i - c):= by
 rw [show i - c = (i - (c + 1)) + 1 by omega,Nat.testBit_succ]
theorem kJ {x:Nat} (h:x % 2 = 0) (j:Nat):(x + 1).testBit j = (decide (j = 0) || x.testBit j):= by
 cases j with
 | zero => rw [Nat.testBit_zero]; simp; omega
 | succ j => rw [Nat.testBit_succ,Nat.testBit_succ,show (x + 1) / 2 = x / 2 by omega]; simp
theorem nX {x k:Nat} (h:x < 2 ^ k) (j:Nat):(x + 2 ^ k).testBit j = (decide (j = k) || x.testBit j):= by
 rw [Nat.add_comm]
 rcases Nat.lt_trichotomy j k with h1 | h1 | h1
 ·rw [Nat.testBit_two_pow_add_gt h1]; simp; omega
 ·subst h1; rw [Nat.testBit_two_pow_add_eq,Nat.testBit_lt_two_pow h]; simp
 ·have e1:(2 ^ k + x) < 2 ^ j:= by
   have:2 ^ (k + 1) ≤ 2 ^ j:= Nat.pow_le_pow_right (by omega) (by omega)
   rw [Nat.pow_succ] at this
   omega
  rw [Nat.testBit_lt_two_pow e1,Nat.testBit_lt_two_pow (by omega)]; simp; omega
theorem kK {W T:Int} (hW:1 ≤ W) (F:Nat → Bool) (f c s:Nat) (hs:s < 2 ^ W.toNat):
  ((Mp W T F c s).map fun o => Q7 W T f (c + 1) (Zg F (c + 1) o)).sum = Q7 W T (f + 1) c (Zg F c s):= by
 have hw:W.toNat = (W.toNat - 1) + 1:= by omega
 have hs2:s / 2 < 2 ^ (W.toNat - 1):= by rw [hw,Nat.pow_succ] at hs; omega
 have hzero:s.testBit 0 = decide (s % 2 = 1):= by rw [Nat.testBit_zero]
 unfold Mp
 by_cases h:s % 2 = 1 ∨ F c = false
 ·rw [if_pos h]
  have hG:¬ Zg F c s c = true:= by
   simp only [Zg,Nat.sub_self,hzero]
   rcases h with h | h <;> simp [h]
  rw [Q7,if_neg hG]
  simp only [List.map_cons,List.map_nil,List.sum_cons,List.sum_nil,Nat.add_zero]
  apply Ez
  intro i hi
  simp only [Zg,ZE s i c hi]
 ·rw [if_neg h]
  have h1:s % 2 = 0:= by omega
  have h2:F c = true:= by
   cases hF:F c with
   | true => rfl
   | false => exact absurd (.inr hF) h
  have hG:Zg F c s c = true:= by simp only [Zg,Nat.sub_self,hzero,h2]; simp; omega
  have hGe:Zg F c s (c + 1) = (F (c + 1) && decide (s / 2 % 2 = 0)):= by
   simp only [Zg,show c + 1 - c = 0 + 1 by omega,Nat.testBit_succ,Nat.testBit_zero]
   congr 1
   rcases Nat.mod_two_eq_zero_or_one (s / 2) with h3 | h3 <;> simp [h3]
  have hGn:Zg F c s (c + W.toNat) = F (c + W.toNat):= by
   simp only [Zg,show c + W.toNat - c = W.toNat by omega,Nat.testBit_lt_two_pow hs]; simp
  rw [Q7,if_pos hG,List.map_append,List.sum_append,hGe,hGn]
  congr 1
  ·by_cases h3:0 ≤ AH W T c 1 ∧ F (c + 1) = true ∧ s / 2 % 2 = 0
   ·rw [if_pos h3,if_pos (by simp [h3.1,h3.2.1,h3.2.2])]
    simp only [List.map_cons,List.map_nil,List.sum_cons,List.sum_nil,Nat.add_zero]
    apply Ez
    intro i hi
    simp only [Zg,clr,kJ h3.2.2,ZE s i c hi]
    by_cases e:i = c + 1
    ·simp [e]
    ·have:¬ i - (c + 1) = 0:= by omega
     simp [e,this]
   ·rw [if_neg h3,if_neg (fun h4 => h3 (by simpa using h4))]
    rfl
  ·by_cases h3:0 ≤ AH W T c 2 ∧ F (c + W.toNat) = true
   ·rw [if_pos h3,if_pos h3]
    simp only [List.map_cons,List.map_nil,List.sum_cons,List.sum_nil,Nat.add_zero]
    apply Ez
    intro i hi
    simp only [Zg,clr,nX hs2,ZE s i c hi]
    by_cases e:i = c + W.toNat
    ·subst e
     have:c + W.toNat - (c + 1) = W.toNat - 1:= by omega
     simp [this]
    ·have:¬ i - (c + 1) = W.toNat - 1:= by omega
     simp [e,this]
   ·rw [if_neg h3,if_neg h3]
    rfl
theorem nY {W T:Int} (hW:1 ≤ W) {F:Nat → Bool} {n c s o:Nat} (hn:∀ i,n ≤ i → F i = false) (hc:c < n) (h1:s < 2 ^ W.toNat) (h2:s < 2 ^ (n - c)) (ho:o ∈ Mp W T F c s):o < 2 ^ W.toNat ∧ o < 2 ^ (n - (c + 1)):= by
 have hw:W.toNat = (W.toNat - 1) + 1:= by omega
 have hnc:n - c = (n - (c + 1)) + 1:= by omega
 have e1:2 ^ W.toNat = 2 ^ (W.toNat - 1) * 2:= by conv => lhs; rw [hw,Nat.pow_succ]
 have e2:2 ^ (n - c) = 2 ^ (n - (c + 1)) * 2:= by conv => lhs; rw [hnc,Nat.pow_succ]
 have p1:0 < 2 ^ (W.toNat - 1):= Nat.pow_pos (by omega)
 unfold Mp at ho
 split at ho
 ·simp at ho; subst ho; omega
 ·rcases List.mem_append.1 ho with ho | ho
  ·split at ho
   ·rename_i h
    simp at ho; subst ho
    have:c + 1 < n:= by
     rcases Nat.lt_or_ge (c + 1) n with h5 | h5
     ·exact h5
     ·rw [hn _ h5] at h; simp at h
    have e3:2 ^ (n - (c + 1)) = 2 ^ (n - (c + 1) - 1) * 2:= by rw [← Nat.pow_succ]; congr 1; omega
    have h6:= h.2.2
    have h7:s / 2 + 1 < 2 ^ W.toNat:= by omega
    refine ⟨h7,?_⟩
    omega
   ·cases ho
  ·split at ho
   ·rename_i h
    simp at ho; subst ho
    have:c + W.toNat < n:= by
     rcases Nat.lt_or_ge (c + W.toNat) n with h5 | h5
     ·exact h5
     ·rw [hn _ h5] at h; simp at h
    have h8:2 ^ W.toNat ≤ 2 ^ (n - (c + 1)):= Nat.pow_le_pow_right (by omega) (by omega)
    omega
   ·cases ho
theorem db {W T:Int} {F:Nat → Bool} {c s:Nat}:(Mp W T F c s).length ≤ 2:= by
 unfold Mp
 split
 ·simp
 ·rw [List.length_append]; split <;> split <;> simp
def YC:List (Nat × Nat) → Nat → Nat → List (Nat × Nat)
 | [],o,v => [(o,v)]
 | p::P,o,v => if p.1 = o then (o,p.2 + v)::P else p::YC P o v
def Mh (g:Nat → Nat) (P:List (Nat × Nat)):Nat:= (P.map fun p => p.2 * g p.1).sum
theorem aV (g:Nat → Nat):∀ (P:List (Nat × Nat)) (o v:Nat),Mh g (YC P o v) = Mh g P + v * g o
 | [],o,v => by simp [YC,Mh]
 | p::P,o,v => by
   have ih:= aV g P o v
   unfold Mh at ih ⊢
   simp only [YC]
   split
   ·rename_i h
    simp only [List.map_cons,List.sum_cons,h,Nat.add_mul]; omega
   ·simp only [List.map_cons,List.sum_cons,ih]; omega
theorem WM:∀ (P:List (Nat × Nat)) (o v:Nat),(YC P o v).length ≤ P.length + 1
 | [],o,v => by simp [YC]
 | p::P,o,v => by
   have ih:= WM P o v
   simp only [YC]; split <;> simp; omega
theorem dc:∀ (P:List (Nat × Nat)) (o v:Nat) (q:Nat × Nat),q ∈ YC P o v → q.1 = o ∨ ∃ p ∈ P,q.1 = p.1
 | [],o,v,q,h => by simp [YC] at h; left; rw [h]
 | p::P,o,v,q,h => by
   simp only [YC] at h
   split at h
   ·rcases List.mem_cons.1 h with h | h
    ·left; rw [h]
    ·right; exact ⟨q,List.mem_cons_of_mem _ h,rfl⟩
   ·rcases List.mem_cons.1 h with h | h
    ·right; exact ⟨p,by simp,by rw [h]⟩
    ·rcases dc P o v q h with h | ⟨p',h1,h2⟩
     ·left; exact h
     ·right; exact ⟨p',List.mem_cons_of_mem _ h1,h2⟩
theorem de:∀ {P:List (Nat × Nat)} {o:Nat} (v:Nat),(∀ p ∈ P,p.1 ≠ o) → YC P o v = P ++ [(o,v)]
 | [],o,v,_ => rfl
 | p::P,o,v,h => by
   simp only [YC]
   rw [if_neg (h p (by simp)),de v (fun q hq => h q (by simp [hq]))]; rfl
theorem g0:∀ {P:List (Nat × Nat)} {o i u:Nat} (v:Nat),P[i]? = some (o,u) → (∀ j,j < i → ∀ p,P[j]? = some p → p.1 ≠ o) → YC P o v = P.set i (o,u + v)
 | [],o,i,u,v,h,_ => by simp at h
 | p::P,o,0,u,v,h,_ => by
   simp at h
   simp [YC,h]
 | p::P,o,i + 1,u,v,h,h2 => by
   simp only [YC]
   rw [if_neg (h2 0 (by omega) p (by simp)),g0 v (i:= i) (u:= u) (by simpa using h) (fun j hj q hq => h2 (j + 1) (by omega) q (by simpa using hq))]
   rfl
def DT (P:List (Nat × Nat)) (os:List Nat) (v:Nat):List (Nat × Nat):= os.foldl (fun P o => YC P o v) P
theorem Mq (g:Nat → Nat) (v:Nat):∀ (os:List Nat) (P:List (Nat × Nat)),Mh g (DT P os v) = Mh g P + v * (os.map g).sum
 | [],P => by simp [DT]
 | o::os,P => by
   have:= Mq g v os (YC P o v)
   unfold DT at this ⊢
   rw [List.foldl_cons,this,aV,List.map_cons,List.sum_cons,Nat.mul_add]; omega
theorem Mr (v:Nat):∀ (os:List Nat) (P:List (Nat × Nat)),(DT P os v).length ≤ P.length + os.length
 | [],P => by simp [DT]
 | o::os,P => by
   have:= Mr v os (YC P o v)
   have h2:= WM P o v
   unfold DT at this ⊢
   rw [List.foldl_cons,List.length_cons]; omega
theorem YD (v:Nat):∀ (os:List Nat) (P:List (Nat × Nat)) (q:Nat × Nat),q ∈ DT P os v → q.1 ∈ os ∨ ∃ p ∈ P,q.1 = p.1
 | [],P,q,h => .inr ⟨q,h,rfl⟩
 | o::os,P,q,h => by
   rcases YD v os (YC P o v) q h with h | ⟨p,h1,h2⟩
   ·left; simp [h]
   ·rcases dc P o v p h1 with h3 | ⟨p',h3,h4⟩
    ·left; simp [h2,h3]
    ·right; exact ⟨p',h3,h2.trans h4⟩
structure OkP (W T:Int) (F:Nat → Bool) (n c tot:Nat) (P:List (Nat × Nat)):Prop where
 lt:∀ p ∈ P,p.1 < 2 ^ W.toNat ∧ p.1 < 2 ^ (n - c)
 tot:Mh (fun s => Q7 W T (n - c) c (Zg F c s)) P = tot
 sum:Mh (fun _ => 1) P ≤ 2 ^ c
 len:P.length ≤ 2 ^ c
structure MidP (W T:Int) (F:Nat → Bool) (n c:Nat) (P:List (Nat × Nat)) (k:Nat) (Q:List (Nat × Nat)):Prop where
 lt:∀ p ∈ Q,p.1 < 2 ^ W.toNat ∧ p.1 < 2 ^ (n - (c + 1))
 tot:Mh (fun s => Q7 W T (n - (c + 1)) (c + 1) (Zg F (c + 1) s)) Q = Mh (fun s => Q7 W T (n - c) c (Zg F c s)) (P.take k)
 sum:Mh (fun _ => 1) Q ≤ 2 * Mh (fun _ => 1) (P.take k)
 len:Q.length ≤ 2 * k
theorem ZF {α:Type}:∀ l:List α,(l.map fun _ => 1).sum = l.length
 | [] => rfl
 | x::l => by rw [List.map_cons,List.sum_cons,ZF l,List.length_cons]; omega
theorem Ju (g:Nat → Nat) (P Q:List (Nat × Nat)):Mh g (P ++ Q) = Mh g P + Mh g Q:= by simp [Mh]
theorem aW (g:Nat → Nat) (P:List (Nat × Nat)) (k:Nat):Mh g (P.take k) ≤ Mh g P:= by
 have:= Ju g (P.take k) (P.drop k)
 rw [List.take_append_drop] at this
 omega
theorem kL {W T:Int} {F:Nat → Bool} {n c:Nat} {P:List (Nat × Nat)}:MidP W T F n c P 0 []:= ⟨by simp,by simp [Mh],by simp [Mh],by simp⟩
theorem kM {W T:Int} {F:Nat → Bool} {n c tot k:Nat} {P Q:List (Nat × Nat)} {s v:Nat} (hW:1 ≤ W) (hn:∀ i,n ≤ i → F i = false) (hc:c < n) (hP:OkP W T F n c tot P) (hk:P[k]? = some (s,v)) (hQ:MidP W T F n c P k Q):
  MidP W T F n c P (k + 1) (DT Q (Mp W T F c s) v):= by
 have hmem:(s,v) ∈ P:= List.mem_of_getElem? hk
 have hlt:= hP.lt _ hmem
 have ht:P.take (k + 1) = P.take k ++ [(s,v)]:= by rw [List.take_add_one,hk]; rfl
 have hol:= db (W:= W) (T:= T) (F:= F) (c:= c) (s:= s)
 refine ⟨?_,?_,?_,?_⟩
 ·intro q hq
  rcases YD v _ _ q hq with h | ⟨p,h1,h2⟩
  ·exact nY hW hn hc hlt.1 hlt.2 h
  ·rw [h2]; exact hQ.lt p h1
 ·have e:n - c = (n - (c + 1)) + 1:= by omega
  rw [Mq,hQ.tot,ht,Ju,kK hW F (n - (c + 1)) c s hlt.1,← e]
  simp [Mh]
 ·rw [Mq,ht,Ju]
  have h1:= hQ.sum
  have h2:v * ((Mp W T F c s).map fun _ => 1).sum ≤ v * 2:= Nat.mul_le_mul_left _ (by rw [ZF]; exact hol)
  have h3:Mh (fun _ => 1) [(s,v)] = v:= by simp [Mh]
  omega
 ·have:= Mr v (Mp W T F c s) Q
  have:= hQ.len
  omega
theorem nZ {W T:Int} {F:Nat → Bool} {n c tot:Nat} {P Q:List (Nat × Nat)} (hP:OkP W T F n c tot P) (hQ:MidP W T F n c P P.length Q):OkP W T F n (c + 1) tot Q:= by
 have e:= List.take_length (l:= P)
 refine ⟨hQ.lt,?_,?_,?_⟩
 ·rw [hQ.tot,e,hP.tot]
 ·have h1:= hQ.sum
  have h2:= hP.sum
  rw [e] at h1
  rw [Nat.pow_succ]; omega
 ·have h1:= hQ.len
  have h2:= hP.len
  rw [Nat.pow_succ]; omega
theorem g8 {W T:Int} {F:Nat → Bool} {n:Nat} (hW:1 ≤ W):OkP W T F n 0 (Q7 W T n 0 F) [(0,1)]:= by
 refine ⟨?_,?_,?_,?_⟩
 ·intro p hp
  simp at hp; subst hp
  exact ⟨Nat.pow_pos (by omega),Nat.pow_pos (by omega)⟩
 ·have:Zg F 0 0 = F:= by funext i; simp [Zg]
  simp [Mh,this]
 ·simp [Mh]
 ·simp
theorem na {W T:Int} {F:Nat → Bool} {n tot:Nat} {P:List (Nat × Nat)} (hP:OkP W T F n n tot P):(∀ p ∈ P,p.1 = 0) ∧ Mh (fun _ => 1) P = tot:= by
 refine ⟨fun p hp => ?_,?_⟩
 ·have:= (hP.lt p hp).2
  rw [Nat.sub_self] at this
  simpa using this
 ·have:= hP.tot
  rw [Nat.sub_self] at this
  simpa [Q7] using this
@[simp] abbrev Fd:Nat:= 208
def Fe:ACode:= .seq (.reg [.o 5 .mv [.kb false]]) <| .seq (.seq (.reg [.la 6 3 1,.l 7 2,.m 8 0,.o 9 (.call 137 []) [.t 6,.t 7,.t 8]]) <| .cond (.t 9) ( .reg [.l 10 3,.m 11 0,.o 12 (.bsl 1) [.t 11],.o 13 (.app 1 24 false) [.t 10,.t 12],.s (.store 1) [.t 3,.t 13]]) ( .skip)) <| .seq (.reg [.o 5 .mv [.kb true]]) <| .ret
theorem LZ:cFn Tryz.prog Fd 14 [.t 5] Fe:= ⟨Tryz.f208,_,Tryz.func208,rfl,by kernel_rfl,by kernel_rfl,by kernel_rfl,by kernel_rfl⟩
@[simp] abbrev EJ:Nat:= 207
def B3:ACode:= .seq (.seq (.reg [.m 10 7,.m 11 1,.n 12 11,.o 13 (.bin .lss 0) [.t 10,.t 12],.m 14 13,.fg 15 2 3 14 true,.lg 16 15 14 true,.mg 17 7 14 true,.g 18 (.iadr 1) [.t 16,.t 17] 14 true,.lg 19 18 14 true,.g 20 (.un .not) [.t 19] 14 true,.mg 21 20 14 true,.mg 22 1 21 false,.mg 23 7 21 false,.g 24 (.iadr 1) [.t 22,.t 23] 21 false,.lg 25 24 21 false,.g 26 (.bin .neq 0) [.t 25,.k 0] 21 false,.g 27 .pick [.t 21,.kb true,.t 26] 14 true,.o 28 .pick [.t 14,.t 27,.kb false]]) <| .cond (.t 28) ( .skip) ( .exit 0)) <| .block 1 ( .reg [.m 29 7,.o 30 (.bin .add 0) [.t 29,.k 1],.m 7 30])
abbrev F6:Plan:= .al (.g 57 (.call 207 []) [.t 50,.t 55,.t 56] 49 true) ( .take (.g 58 (.un .not) [.t 57] 49 true) <| .take (.o 59 .pick [.t 49,.t 58,.kb false]) <| .done)
abbrev F7:Plan:= .al (.g 55 (.call 235 []) [.t 51,.t 52,.t 53,.t 54] 49 true) F6
def C6:ACode:= .seq (.reg [.o 41 (.bin .lss 0) [.t 40,.t 39]]) <| .seq (.cond (.t 41) ( .skip) ( .exit 2)) <| .seq (.block 3 ( .seq (.reg [.o 42 (.iadr 1) [.t 38,.t 40],.l 43 42,.m 9 43]) <| .seq (.draw ( .take (.m 45 1) <| .take (.m 46 7) <| .take (.m 47 9) <| .al (.la 44 3 3) ( .al (.o 48 (.call 234 []) [.t 44,.t 45,.t 46,.t 47]) ( .take (.m 49 48) <| .take (.mg 52 1 49 true) <| .take (.mg 53 7 49 true) <| .take (.mg 54 9 49 true) <| .take (.mg 56 2 49 true) <| .alt (.g 50 (.load true 3) [.t 3] 49 true) ( .al (.g 51 (.load true 3) [.t 3] 49 true) F7) <| .al (.g 51 (.load true 3) [.t 3] 49 true) ( .alt (.g 50 (.load true 3) [.t 3] 49 true) F7 <| .al (.g 55 (.call 235 []) [.t 51,.t 52,.t 53,.t 54] 49 true) ( .al (.g 50 (.load true 3) [.t 3] 49 true) F6)))))) <| .cond (.t 59) ( .seq (.reg [.o 6 .mv [.kb false]]) <| .ret) ( .skip))) <| .reg [.o 60 (.bin .add 0) [.t 40,.k 1],.m 40 60]
def K7:ACode:= .seq (.reg [.o 3 .box [.t 0],.o 6 .mv [.kb false]]) <| .seq (.reg [.o 7 .mv [.k 0]]) <| .seq (.block 0 ( .loop [(1,1)] [1,2,3,7,63] B3)) <| .seq (.seq (.reg [.m 31 7,.m 32 1,.n 33 32,.o 34 (.bin .eql 0) [.t 31,.t 33]]) <| .cond (.t 34) ( .seq (.reg [.m 35 2,.m 36 1,.o 37 (.callv []) [.t 35,.t 36],.m 6 37]) <| .ret) ( .skip)) <| .seq (.seq (.reg [.o 38 (.bsl 1) [.k 1,.k 2],.n 39 38,.o 40 .mv [.k 0]]) <| .block 2 ( .loop [(1,1),(38,1)] [1,2,3,7,38,39,40,63] C6)) <| .seq (.reg [.o 6 .mv [.kb true]]) <| .ret
theorem SI:cFn Tryz.prog EJ 61 [.t 6] K7:= ⟨Tryz.f207,_,Tryz.func207,rfl,by kernel_rfl,by kernel_rfl,by kernel_rfl,by kernel_rfl⟩
@[simp] abbrev Dh:Nat:= 157
def FF:ACode:= .seq (.reg [.l 13 7,.o 14 (.call 188 []) [.t 13],.m 6 14]) <| .ret
def GW:ACode:= .seq (.reg [.o 3 .box [.t 0],.o 4 .box [.t 1],.o 6 .mv [.c (.os 1 [])]]) <| .seq (.reg [.o 7 (.alloc [.os 1 []]) []]) <| .seq (.draw ( .take (.m 9 2) <| .take (.o 11 (.mkfn 208) [.t 3,.t 4,.t 7]) <| .alt (.la 8 3 3) ( .al (.o 10 (.call 126 []) [.t 9]) ( .al (.o 12 (.call 207 []) [.t 8,.t 10,.t 11]) ( .done))) <| .al (.o 10 (.call 126 []) [.t 9]) ( .al (.la 8 3 3) ( .al (.o 12 (.call 207 []) [.t 8,.t 10,.t 11]) ( .done))))) <| .gc [] [7] FF
theorem Ms:cFn Tryz.prog Dh 15 [.t 6] GW:= ⟨Tryz.f157,_,Tryz.func157,rfl,by kernel_rfl,by kernel_rfl,by kernel_rfl,by kernel_rfl⟩
@[simp] abbrev Jv:Nat:= 103
abbrev HD:Plan:= .al (.o 14 (.call 157 []) [.t 9,.t 10,.t 13]) ( .take (.m 4 14) <| .done)
def Jw:ACode:= .seq (.reg [.o 2 .box [.t 0],.o 4 .mv [.c (.os 1 [])]]) <| .seq (.seq (.reg [.la 5 3 2,.m 6 1,.o 7 (.call 102 []) [.t 5,.t 6],.o 8 (.un .not) [.t 7]]) <| .cond (.t 8) ( .seq (.reg [.o 4 .mv [.c (.os 1 [])]]) <| .ret) ( .skip)) <| .seq (.draw ( .take (.m 10 1) <| .take (.m 11 1) <| .take (.n 12 11) <| .alt (.la 9 3 2) ( .al (.o 13 (.mksl 1 8 (.v (.int .i64 (0)))) [.t 12,.t 12]) HD) <| .al (.o 13 (.mksl 1 8 (.v (.int .i64 (0)))) [.t 12,.t 12]) ( .al (.la 9 3 2) HD))) <| .ret
theorem Qu:cFn Tryz.prog Jv 15 [.t 4] Jw:= ⟨Tryz.f103,_,Tryz.func103,rfl,by kernel_rfl,by kernel_rfl,by kernel_rfl,by kernel_rfl⟩
@[simp] abbrev FL:Nat:= 42
def Iy:ACode:= .seq (.reg [.o 2 .box [.t 0],.o 4 .mv [.k 0]]) <| .seq (.seq (.reg [.la 5 3 2,.m 6 1,.o 7 (.call 102 []) [.t 5,.t 6],.o 8 (.un .not) [.t 7]]) <| .cond (.t 8) ( .seq (.reg [.o 4 .mv [.k (-1)]]) <| .ret) ( .skip)) <| .seq (.reg [.la 9 3 2,.m 10 1,.o 11 (.call 103 []) [.t 9,.t 10],.n 12 11,.m 4 12]) <| .ret
theorem PZ:cFn Tryz.prog FL 13 [.t 4] Iy:= ⟨Tryz.f42,_,Tryz.func42,rfl,by kernel_rfl,by kernel_rfl,by kernel_rfl,by kernel_rfl⟩
def g9 (W T:Int) (ds t:List Int):List (List Int):= if LU (Bt W T ds t) then [t] else []
@[simp] def md2 (f:Nat):List Bool:= if f = 207 then [false,true,true] else if f = 208 then [true,true,true,true] else md0 f
def Gx (W T:Int) (ds:List Int) (ps:List (List Int)):List (List Int):= ps.filter fun t => LU (Bt W T ds t)
theorem hD (W T:Int) (ds t:List Int):Gx W T ds [t] = g9 W T ds t:= by
 unfold Gx g9
 cases h:LU (Bt W T ds t) <;> simp [h]
theorem UJ (W T:Int) (ds:List Int) (a b:List (List Int)):Gx W T ds (a ++ b) = Gx W T ds a ++ Gx W T ds b:= by simp [Gx]
theorem UK (W T:Int) (ds:List Int) (a:List (List Int)):(Gx W T ds a).length ≤ a.length:= List.length_filter_le _ _
theorem Qv (W T:Int) (cs:List Bool) (ds t:List Int) (acc:List (List Int)) (hok:okB W T cs ds t = true) (ha:acc.length < 2 ^ 38):
  SoundAt Tryz.prog Fd [.os 1 (AB t),.op [.v (.int .i64 W),.v (.int .i64 T),.sl 0 1 (AC cs)],.op [.sl 0 1 (AB ds)],.op [.os 1 (oss acc)]]
   (.v (.bool true)) [.bot,.op [.v (.int .i64 W),.v (.int .i64 T),.sl 0 1 (AC cs)],.op [.sl 0 1 (AB ds)],.op [.os 1 (oss (acc ++ g9 W T ds t))]]:= by
 refine AG (md:= md0) (ms:= [false,true,true,true]) LZ (by simp) ?_
 simp [Fe]
 refine AA (EE W T cs ds t hok) ?_
 cases ho:LU (Bt W T ds t) with
 | false =>
   simp [g9,ho]
 | true =>
   simp [g9,ho]
   refine ⟨by omega,?_⟩
   rw [L3,TO]
   exact List.take_of_length_le (by simp)
@[simp] theorem qN (xs:List Int) (i:Nat) (h:i < (AB xs).length):(AB xs)[i] = .v (.int .i64 (ati xs i)):= by
  have h2:i < xs.length:= by simpa using h
  simp [AB,ati,h2]
theorem sM:gB Tryz.prog 208 = true:= by kernel_rfl
def ZG (W T:Int) (cs:List Bool) (ds ls:List Int) (acc:List (List Int)):AN:=
 [some (.arr 1 (AB ls)),some (.box [.v (.int .i64 W),.v (.int .i64 T),.sl 0 1 (AC cs)]),some (.box [.sl 0 1 (AB ds)]),some (.box [.ls 1 5 0 acc.length]),
  some (.box [.v (.int .i64 W),.v (.int .i64 T),.sl 1 1 (AC cs)]),some (.arr 1 (oss acc))]
def Oj (W T:Int) (cs:List Bool) (ds ls:List Int) (acc:List (List Int)):AN:=
 [some (.arr 1 (AB ls)),some (.box [.v (.int .i64 W),.v (.int .i64 T),.sl 0 1 (AC cs)]),some (.box [.sl 0 1 (AB ds)]),some (.box [.ls 1 6 0 acc.length]),
  some (.box [.v (.int .i64 W),.v (.int .i64 T),.sl 1 1 (AC cs)]),some (.arr 1 [.v (.int .i64 1),.v (.int .i64 2)]),some (.arr 1 (oss acc))]
theorem hO (W T:Int) (cs:List Bool) (ds:List Int) (hr:Am W T cs = true) (hd:B4 cs ds = true) (n:Nat)
  (ih:∀ m,n = m + 1 → ∀ (ls:List Int) (acc:List (List Int)),Bz ls ≤ m → AR W T cs ls = true → acc.length + 2 ^ m ≤ 2 ^ 37 →
   SoundAt Tryz.prog EJ [.agg [.v (.int .i64 W),.v (.int .i64 T),.sl 1 1 (AC cs)],.os 1 (AB ls),.fn 208 [.op [.v (.int .i64 W),.v (.int .i64 T),.sl 0 1 (AC cs)],.op [.sl 0 1 (AB ds)],.op [.os 1 (oss acc)]]]
    (.v (.bool true)) [.bot,.bot,.fn 208 [.op [.v (.int .i64 W),.v (.int .i64 T),.sl 0 1 (AC cs)],.op [.sl 0 1 (AB ds)],.op [.os 1 (oss (acc ++ Gx W T ds (allT W T cs m ls)))]]])
  (ls:List Int) (acc:List (List Int)) (hz:Bz ls ≤ n) (hy:AR W T cs ls = true) (ha:acc.length + 2 ^ n ≤ 2 ^ 37):
  SoundAt Tryz.prog EJ [.agg [.v (.int .i64 W),.v (.int .i64 T),.sl 1 1 (AC cs)],.os 1 (AB ls),.fn 208 [.op [.v (.int .i64 W),.v (.int .i64 T),.sl 0 1 (AC cs)],.op [.sl 0 1 (AB ds)],.op [.os 1 (oss acc)]]]
   (.v (.bool true)) [.bot,.bot,.fn 208 [.op [.v (.int .i64 W),.v (.int .i64 T),.sl 0 1 (AC cs)],.op [.sl 0 1 (AB ds)],.op [.os 1 (oss (acc ++ Gx W T ds (allT W T cs n ls)))]]]:= by
 have h36:= Ab hr
 have hl:ls.length = cs.length:= by simp only [AR,Bool.and_eq_true,decide_eq_true_eq] at hy; exact hy.1
 have hok:okB W T cs ds ls = true:= by simp only [okB,hr,hd,hy,Bool.and_self]
 have hp:0 < 2 ^ n:= Nat.pow_pos (by omega)
 have hac:acc.length < 2 ^ 38:= Nat.lt_of_le_of_lt (Nat.le_trans (Nat.le_add_right _ _) ha) (by decide)
 refine AG (md:= md2) (ms:= [false,false,true]) SI (by simp) ?_
 simp [K7]
 refine AF (fun m E H => ∃ i:Nat,m = ls.length - i ∧ i ≤ ls.length ∧ (∀ j:Nat,j < i → Bd cs ls j = false) ∧ H = ZG W T cs ds ls acc ∧
  E = [(1,.ls 1 0 0 ls.length),(2,.fn 208 [.lp 0 1 0 0,.lp 0 2 0 0,.lp 0 3 0 0]),(3,.lp 0 4 0 0),(7,.v (.int .i64 i)),(63,.fn 208 [.lp 0 1 0 0,.lp 0 2 0 0,.lp 0 3 0 0])]) ls.length ⟨0,by simp [ZG]⟩ ?_
 rintro J hJ m E H ⟨i,rfl,hi,hb,rfl,rfl⟩
 by_cases h:i < ls.length
 case neg =>
  have hi':i = ls.length:= by omega
  subst hi'
  have he:DW cs ls = -1:= CC hb
  simp [B3,ZG]
  refine ⟨sM,AA (Qv W T cs ds ls acc hok hac) ?_⟩
  simp [MB n (show DW cs ls < 0 by omega),hD]
  exact List.take_of_length_le (by simp)
 have next:Bd cs ls i = false → CL J (ls.length - i) [(1,.ls 1 0 0 ls.length),(2,.fn 208 [.lp 0 1 0 0,.lp 0 2 0 0,.lp 0 3 0 0]),(3,.lp 0 4 0 0),(7,.v (.int .i64 (i + 1))),(63,.fn 208 [.lp 0 1 0 0,.lp 0 2 0 0,.lp 0 3 0 0])]
   (ZG W T cs ds ls acc):= by
  intro hx
  refine ⟨_,by omega,hJ _ _ _ ⟨i + 1,rfl,h,?_,rfl,rfl⟩⟩
  intro j hj
  rcases Nat.lt_or_ge j i with h1 | h1
  ·exact hb j h1
  ·have:j = i:= by omega
   subst this; exact hx
 have h2:i < cs.length:= by omega
 cases hc:atb cs i with
 | false =>
   have nx:= next (by simp [Bd,hc])
   simp [ZG] at nx
   simp [B3,ZG,h,h2,hc]
   exact ⟨by omega,nx⟩
 | true =>
 by_cases z:ati ls i = 0
 case neg =>
  have nx:= next (by simp [Bd,z])
  simp [ZG] at nx
  simp [B3,ZG,h,h2,hc,z]
  exact ⟨by omega,nx⟩
 have he:DW cs ls = i:= CX h (by simp [Bd,hc,z]) hb
 have hzp:= MC h z
 obtain ⟨n',rfl⟩:∃ n',n = n' + 1:= ⟨n - 1,by omega⟩
 have hk0:¬ (i:Int) < 0:= by omega
 have hall:allT W T cs (n' + 1) ls = SF W T cs n' ls i 2:= by
  rw [allT,he,if_neg hk0]
  simp [SF,Oh,List.range_succ]
 rw [hall]
 have hne:¬ ((i:Int) = ls.length):= by omega
 simp [B3,ZG,h,h2,hc,z,hne]
 have b1:= Qs W T cs n' ls i
 have hpow:2 ^ (n' + 1) = 2 * 2 ^ n':= by rw [Nat.pow_succ]; omega
 refine AF (fun m E H => ∃ j:Nat,m = 2 - j ∧ j ≤ 2 ∧ H = Oj W T cs ds ls (acc ++ Gx W T ds (SF W T cs n' ls i j)) ∧
  E = [(1,.ls 1 0 0 ls.length),(2,.fn 208 [.lp 0 1 0 0,.lp 0 2 0 0,.lp 0 3 0 0]),(3,.lp 0 4 0 0),(7,.v (.int .i64 i)),(38,.ls 1 5 0 2),(39,.v (.int .i64 2)),(40,.v (.int .i64 j)),(63,.fn 208 [.lp 0 1 0 0,.lp 0 2 0 0,.lp 0 3 0 0])]) 2 ⟨0,by simp [Oj,SF,Gx]⟩ ?_
 rintro J2 hJ2 m2 E2 H2 ⟨j,rfl,hj,rfl,rfl⟩
 by_cases h3:j < 2
 case neg =>
  have:j = 2:= by omega
  subst this
  simp [C6,Oj]
  exact List.take_of_length_le (by simp)
 have h01:j = 0 ∨ j = 1:= by omega
 rcases h01 with rfl | rfl
 ·have hsuc:SF W T cs n' ls i (0 + 1) = SF W T cs n' ls i 0 ++ Oh W T cs n' ls i 1:= by simpa using SG W T cs n' ls i 0
  have bl:= b1 0
  have kl:= UK W T ds (SF W T cs n' ls i 0)
  have hlen:(acc ++ Gx W T ds (SF W T cs n' ls i 0)).length + 2 ^ n' ≤ 2 ^ 37:= by rw [List.length_append]; omega
  have next2:∀ x,Oh W T cs n' ls i 1 = x → CL J2 (2 - 0) [(1,.ls 1 0 0 ls.length),(2,.fn 208 [.lp 0 1 0 0,.lp 0 2 0 0,.lp 0 3 0 0]),(3,.lp 0 4 0 0),(7,.v (.int .i64 i)),(38,.ls 1 5 0 2),(39,.v (.int .i64 2)),(40,.v (.int .i64 1)),(63,.fn 208 [.lp 0 1 0 0,.lp 0 2 0 0,.lp 0 3 0 0])]
    (Oj W T cs ds ls ((acc ++ Gx W T ds (SF W T cs n' ls i 0)) ++ Gx W T ds x)):= by
   rintro x rfl
   refine ⟨_,by omega,hJ2 _ _ _ ⟨0 + 1,rfl,by omega,?_,rfl⟩⟩
   rw [hsuc,UJ,List.append_assoc]
  generalize hA:acc ++ Gx W T ds (SF W T cs n' ls i 0) = A at *
  simp [C6,Oj]
  refine AA (EG W T cs ls i 1 hr hl) ?_
  cases hf:Av W T cs ls i 1 with
  | false =>
    have nx:= next2 [] (by simp [Oh,hf])
    simp [Oj,Gx] at nx
    simp
    exact nx
  | true =>
    have nx:= next2 (allT W T cs n' (Bk W T ls i 1)) (by simp [Oh,hf])
    have hzl:Bz (Bk W T ls i 1) < Bz ls:= Fb h z (by omega) (by omega)
    have rcr:= ih n' rfl (Bk W T ls i 1) A (by omega) (KX hr hy hf) hlen
    have hll:= AO W T ls i 1
    simp [Oj] at nx
    simp
    (repeat' first | assumption | omega | apply And.intro) <;>
    ·refine AA (DQ W T cs ls i 1 hr hl hf) ?_
     simp [hll]
     (repeat' first | assumption | omega | apply And.intro) <;>
     ·refine AA rcr ?_
      simp [hll]
      exact nx
 ·have hsuc:SF W T cs n' ls i (1 + 1) = SF W T cs n' ls i 1 ++ Oh W T cs n' ls i 2:= by simpa using SG W T cs n' ls i 1
  have bl:= b1 1
  have kl:= UK W T ds (SF W T cs n' ls i 1)
  have hlen:(acc ++ Gx W T ds (SF W T cs n' ls i 1)).length + 2 ^ n' ≤ 2 ^ 37:= by rw [List.length_append]; omega
  have next2:∀ x,Oh W T cs n' ls i 2 = x → CL J2 (2 - 1) [(1,.ls 1 0 0 ls.length),(2,.fn 208 [.lp 0 1 0 0,.lp 0 2 0 0,.lp 0 3 0 0]),(3,.lp 0 4 0 0),(7,.v (.int .i64 i)),(38,.ls 1 5 0 2),(39,.v (.int .i64 2)),(40,.v (.int .i64 2)),(63,.fn 208 [.lp 0 1 0 0,.lp 0 2 0 0,.lp 0 3 0 0])]
    (Oj W T cs ds ls ((acc ++ Gx W T ds (SF W T cs n' ls i 1)) ++ Gx W T ds x)):= by
   rintro x rfl
   refine ⟨_,by omega,hJ2 _ _ _ ⟨1 + 1,rfl,by omega,?_,rfl⟩⟩
   rw [hsuc,UJ,List.append_assoc]
  generalize hA:acc ++ Gx W T ds (SF W T cs n' ls i 1) = A at *
  simp [C6,Oj]
  refine AA (EG W T cs ls i 2 hr hl) ?_
  cases hf:Av W T cs ls i 2 with
  | false =>
    have nx:= next2 [] (by simp [Oh,hf])
    simp [Oj,Gx] at nx
    simp
    exact nx
  | true =>
    have nx:= next2 (allT W T cs n' (Bk W T ls i 2)) (by simp [Oh,hf])
    have hzl:Bz (Bk W T ls i 2) < Bz ls:= Fb h z (by omega) (by omega)
    have rcr:= ih n' rfl (Bk W T ls i 2) A (by omega) (KX hr hy hf) hlen
    have hll:= AO W T ls i 2
    simp [Oj] at nx
    simp
    (repeat' first | assumption | omega | apply And.intro) <;>
    ·refine AA (DQ W T cs ls i 2 hr hl hf) ?_
     simp [hll]
     (repeat' first | assumption | omega | apply And.intro) <;>
     ·refine AA rcr ?_
      simp [hll]
      exact nx
theorem cI (W T:Int) (cs:List Bool) (ds:List Int) (hr:Am W T cs = true) (hd:B4 cs ds = true):∀ (n:Nat) (ls:List Int) (acc:List (List Int)),Bz ls ≤ n → AR W T cs ls = true → acc.length + 2 ^ n ≤ 2 ^ 37 →
  SoundAt Tryz.prog EJ [.agg [.v (.int .i64 W),.v (.int .i64 T),.sl 1 1 (AC cs)],.os 1 (AB ls),.fn 208 [.op [.v (.int .i64 W),.v (.int .i64 T),.sl 0 1 (AC cs)],.op [.sl 0 1 (AB ds)],.op [.os 1 (oss acc)]]]
   (.v (.bool true)) [.bot,.bot,.fn 208 [.op [.v (.int .i64 W),.v (.int .i64 T),.sl 0 1 (AC cs)],.op [.sl 0 1 (AB ds)],.op [.os 1 (oss (acc ++ Gx W T ds (allT W T cs n ls)))]]]:= by
 intro n
 induction n with
 | zero => intro ls acc h1 h2 h3; exact hO W T cs ds hr hd 0 (fun m h => by omega) ls acc h1 h2 h3
 | succ n ih =>
   intro ls acc h1 h2 h3
   refine hO W T cs ds hr hd (n + 1) (fun m h => ?_) ls acc h1 h2 h3
   have:m = n:= by omega
   subst this
   exact ih
@[simp] abbrev GX:Nat:= 188
def GY:ACode:= .seq (.reg [.o 2 .mv [.c (.os 1 [])]]) <| .seq (.reg [.m 3 0,.m 4 0,.n 5 4,.m 6 0,.n 7 6,.o 8 (.slice 1 false false true true) [.t 3,.t 5,.t 7],.m 2 8]) <| .ret
theorem K8:cFn Tryz.prog GX 9 [.t 2] GY:= ⟨Tryz.f188,_,Tryz.func188,rfl,by kernel_rfl,by kernel_rfl,by kernel_rfl,by kernel_rfl⟩
@[simp] abbrev Jx:Nat:= 177
def Jy:ACode:= .seq (.reg [.o 3 .box [.t 0],.o 6 .mv [.c (.os 1 [])],.o 7 .mv [.kb false]]) <| .seq (.reg [.la 9 3 3,.m 10 1,.m 11 2,.o 12 (.call 157 []) [.t 9,.t 10,.t 11],.m 8 12]) <| .seq (.seq (.reg [.m 13 8,.n 14 13,.o 15 (.bin .eql 0) [.t 14,.k 0]]) <| .cond (.t 15) ( .seq (.reg [.o 6 .mv [.c (.os 1 [])],.o 7 .mv [.kb false]]) <| .ret) ( .skip)) <| .seq (.own [(.op,.m 16 8),(.op,.o 17 (.iadr 1) [.t 16,.k 0]),(.take,.l 18 17),(.op,.m 6 18),(.op,.o 7 .mv [.kb true])]) <| .ret
theorem Qw:cFn Tryz.prog Jx 19 [.t 6,.t 7] Jy:= ⟨Tryz.f177,_,Tryz.func177,rfl,by kernel_rfl,by kernel_rfl,by kernel_rfl,by kernel_rfl⟩
@[simp] abbrev ME:Nat:= 185
def MF:ACode:= .seq (.reg [.o 3 .box [.t 0],.o 6 .mv [.c (.os 1 [])],.o 7 .mv [.kb false]]) <| .seq (.seq (.reg [.la 8 3 3,.m 9 1,.m 10 2,.o 11 (.call 98 []) [.t 8,.t 9,.t 10],.o 12 (.un .not) [.t 11]]) <| .cond (.t 12) ( .seq (.reg [.o 6 .mv [.c (.os 1 [])],.o 7 .mv [.kb false]]) <| .ret) ( .skip)) <| .seq (.reg [.la 13 3 3,.m 14 1,.m 15 2,.o 16 (.call 177 []) [.t 13,.t 14,.t 15],.e 17 0 16,.e 18 1 16,.m 6 17,.m 7 18]) <| .ret
theorem TW:cFn Tryz.prog ME 19 [.t 6,.t 7] MF:= ⟨Tryz.f185,_,Tryz.func185,rfl,by kernel_rfl,by kernel_rfl,by kernel_rfl,by kernel_rfl⟩
@[simp] abbrev SJ:Nat:= 133
def Fk:ACode:= .seq (.seq (.reg [.m 25 11,.m 26 2,.n 27 26,.o 28 (.bin .lss 0) [.t 25,.t 27],.m 29 28,.mg 30 10 29 true,.g 31 (.bin .lss 0) [.t 30,.k 0] 29 true,.o 32 .pick [.t 29,.t 31,.kb false]]) <| .cond (.t 32) ( .skip) ( .exit 0)) <| .seq (.block 1 ( .seq (.reg [.la 35 3 3,.m 36 2,.m 37 11,.o 38 (.call 186 []) [.t 35,.t 36,.t 37]]) <| .cond (.t 38) ( .reg [.m 39 11,.m 10 39]) ( .skip))) <| .reg [.m 33 11,.o 34 (.bin .add 0) [.t 33,.k 1],.m 11 34]
def SK:ACode:= .seq (.reg [.o 3 .box [.t 0],.o 6 .mv [.k 0],.o 7 .mv [.k 0]]) <| .seq (.reg [.la 13 3 3,.m 14 1,.m 15 2,.o 16 (.call 185 []) [.t 13,.t 14,.t 15],.m 12 16,.e 17 0 12,.e 18 1 12,.m 8 17,.m 9 18]) <| .seq (.seq (.reg [.m 19 9,.o 20 (.un .not) [.t 19]]) <| .cond (.t 20) ( .seq (.reg [.o 6 .mv [.k (-1)],.o 7 .mv [.k 0]]) <| .ret) ( .skip)) <| .seq (.reg [.la 21 3 3,.m 22 1,.m 23 2,.o 24 (.call 184 []) [.t 21,.t 22,.t 23,.k 1],.m 10 24]) <| .seq (.seq (.reg [.o 11 .mv [.k 0]]) <| .block 0 ( .loop [(2,1),(8,1)] [2,3,8,10,11] Fk)) <| .seq (.seq (.reg [.m 40 10,.o 41 (.bin .lss 0) [.t 40,.k 0]]) <| .cond (.t 41) ( .seq (.reg [.o 6 .mv [.k (-1)],.o 7 .mv [.k 0]]) <| .ret) ( .skip)) <| .seq (.draw ( .take (.m 42 10) <| .take (.m 43 8) <| .take (.m 44 10) <| .take (.o 45 (.iadr 1) [.t 43,.t 44]) <| .take (.m 6 42) <| .al (.l 46 45) ( .take (.m 7 46) <| .done))) <| .ret
theorem ZH:cFn Tryz.prog SJ 47 [.t 6,.t 7] SK:= ⟨Tryz.f133,_,Tryz.func133,rfl,by kernel_rfl,by kernel_rfl,by kernel_rfl,by kernel_rfl⟩
@[simp] abbrev Hc:Nat:= 145
abbrev Di:Plan:= .take (.g 52 (.bin .eql 0) [.t 47,.t 51] 40 false) <| .take (.g 53 .pick [.t 40,.kb true,.t 52] 34 true) <| .take (.o 54 .pick [.t 34,.t 53,.kb false]) <| .take (.m 10 54) <| .done
def BF:ACode:= .seq (.seq (.reg [.m 27 11,.m 28 2,.n 29 28,.o 30 (.bin .lss 0) [.t 27,.t 29]]) <| .cond (.t 30) ( .skip) ( .exit 2)) <| .seq (.block 3 ( .draw ( .take (.m 33 10) <| .take (.m 34 33) <| .take (.mg 35 2 34 true) <| .take (.mg 36 11 34 true) <| .take (.g 37 (.iadr 1) [.t 35,.t 36] 34 true) <| .al (.lg 38 37 34 true) ( .take (.g 39 (.bin .eql 0) [.t 38,.k 0] 34 true) <| .take (.mg 40 39 34 true) <| .take (.mg 41 8 40 false) <| .take (.mg 42 9 40 false) <| .take (.g 43 (.iadr 1) [.t 41,.t 42] 40 false) <| .take (.mg 45 11 40 false) <| .take (.mg 48 2 40 false) <| .take (.mg 49 11 40 false) <| .take (.g 50 (.iadr 1) [.t 48,.t 49] 40 false) <| .alt (.lg 44 43 40 false) ( .take (.g 46 (.iadr 1) [.t 44,.t 45] 40 false) <| .alt (.lg 47 46 40 false) ( .al (.lg 51 50 40 false) Di) <| .al (.lg 51 50 40 false) ( .al (.lg 47 46 40 false) Di)) <| .al (.lg 51 50 40 false) ( .al (.lg 44 43 40 false) ( .take (.g 46 (.iadr 1) [.t 44,.t 45] 40 false) <| .al (.lg 47 46 40 false) Di)))))) <| .reg [.m 31 11,.o 32 (.bin .add 0) [.t 31,.k 1],.m 11 32]
def FM:ACode:= .seq (.seq (.reg [.m 15 9,.m 16 8,.n 17 16,.o 18 (.bin .lss 0) [.t 15,.t 17],.m 19 18,.g 20 (.load true 3) [.t 3] 19 true,.mg 21 1 19 true,.mg 22 2 19 true,.g 23 (.call 59 []) [.t 20,.t 21,.t 22] 19 true,.o 24 .pick [.t 19,.t 23,.kb false]]) <| .cond (.t 24) ( .skip) ( .exit 0)) <| .seq (.block 1 ( .seq (.reg [.o 10 .mv [.kb true]]) <| .seq (.seq (.reg [.o 11 .mv [.k 0]]) <| .block 2 ( .loop [(1,1),(2,1),(8,1)] [1,2,3,8,9,10,11] BF)) <| .seq (.reg [.m 55 10]) <| .cond (.t 55) ( .seq (.reg [.m 56 8,.m 57 9,.o 58 (.iadr 1) [.t 56,.t 57],.l 59 58,.m 6 59,.o 7 .mv [.kb true]]) <| .ret) ( .skip))) <| .reg [.m 25 9,.o 26 (.bin .add 0) [.t 25,.k 1],.m 9 26]
def MG:ACode:= .seq (.reg [.o 3 .box [.t 0],.o 6 .mv [.c (.os 1 [])],.o 7 .mv [.kb false]]) <| .seq (.reg [.la 12 3 3,.m 13 1,.o 14 (.call 202 []) [.t 12,.t 13],.m 8 14]) <| .seq (.seq (.reg [.o 9 .mv [.k 0]]) <| .block 0 ( .loop [(1,1),(2,1),(8,1)] [1,2,3,8,9] FM)) <| .seq (.reg [.o 60 (.bsl 1) [],.m 6 60,.o 7 .mv [.kb false]]) <| .ret
theorem TX:cFn Tryz.prog Hc 61 [.t 6,.t 7] MG:= ⟨Tryz.f145,_,Tryz.func145,rfl,by kernel_rfl,by kernel_rfl,by kernel_rfl,by kernel_rfl⟩
@[simp] abbrev SL:Nat:= 82
def CF:ACode:= .seq (.seq (.reg [.m 20 11,.m 21 2,.n 22 21,.o 23 (.bin .lss 0) [.t 20,.t 22],.m 24 23,.mg 25 9 24 true,.o 26 .pick [.t 24,.t 25,.kb false]]) <| .cond (.t 26) ( .skip) ( .exit 0)) <| .seq (.block 1 ( .seq (.reg [.m 29 10,.o 30 (.bin .lss 0) [.t 29,.k 0],.m 31 30,.fg 32 2 3 31 true,.lg 33 32 31 true,.mg 34 11 31 true,.g 35 (.iadr 1) [.t 33,.t 34] 31 true,.lg 36 35 31 true,.o 37 .pick [.t 31,.t 36,.kb false],.m 38 37,.mg 39 2 38 true,.mg 40 11 38 true,.g 41 (.iadr 1) [.t 39,.t 40] 38 true,.lg 42 41 38 true,.g 43 (.bin .eql 0) [.t 42,.k 0] 38 true,.o 44 .pick [.t 38,.t 43,.kb false]]) <| .cond (.t 44) ( .reg [.m 45 11,.m 10 45]) ( .skip))) <| .reg [.m 27 11,.o 28 (.bin .add 0) [.t 27,.k 1],.m 11 28]
def Ck:ACode:= .seq (.seq (.reg [.m 49 12,.o 50 (.bin .geq 0) [.t 49,.k 0],.m 51 50,.mg 52 9 51 true,.o 53 .pick [.t 51,.t 52,.kb false]]) <| .cond (.t 53) ( .skip) ( .exit 2)) <| .seq (.block 3 ( .seq (.reg [.la 56 3 3,.m 57 1,.m 58 2,.m 59 12,.o 60 (.call 149 []) [.t 56,.t 57,.t 58,.t 59],.n 61 60,.o 62 (.bin .eql 0) [.t 61,.k 1]]) <| .cond (.t 62) ( .reg [.m 63 12,.m 10 63]) ( .skip))) <| .reg [.m 54 12,.o 55 (.bin .sub 0) [.t 54,.k 1],.m 12 55]
def SM:ACode:= .seq (.reg [.o 3 .box [.t 0],.o 6 .mv [.k 0],.o 7 .mv [.k 0]]) <| .seq (.reg [.la 14 3 3,.m 15 1,.m 16 2,.o 17 (.call 145 []) [.t 14,.t 15,.t 16],.m 13 17,.e 18 0 13,.e 19 1 13,.m 8 18,.m 9 19]) <| .seq (.reg [.o 10 .mv [.k (-1)]]) <| .seq (.seq (.reg [.o 11 .mv [.k 0]]) <| .block 0 ( .loop [(1,1),(2,1),(8,1)] [1,2,3,8,9,10,11] CF)) <| .seq (.seq (.reg [.m 46 2,.n 47 46,.o 48 (.bin .sub 0) [.t 47,.k 1],.m 12 48]) <| .block 2 ( .loop [(1,1),(2,1),(8,1)] [1,2,3,8,9,10,12] Ck)) <| .seq (.seq (.reg [.m 64 10,.o 65 (.bin .lss 0) [.t 64,.k 0]]) <| .cond (.t 65) ( .seq (.reg [.o 6 .mv [.k (-1)],.o 7 .mv [.k 0]]) <| .ret) ( .skip)) <| .seq (.draw ( .take (.m 66 10) <| .take (.m 67 8) <| .take (.m 68 10) <| .take (.o 69 (.iadr 1) [.t 67,.t 68]) <| .take (.m 6 66) <| .al (.l 70 69) ( .take (.m 7 70) <| .done))) <| .ret
theorem ZI:cFn Tryz.prog SL 71 [.t 6,.t 7] SM:= ⟨Tryz.f82,_,Tryz.func82,rfl,by kernel_rfl,by kernel_rfl,by kernel_rfl,by kernel_rfl⟩
end Go.Proofs.Dev
