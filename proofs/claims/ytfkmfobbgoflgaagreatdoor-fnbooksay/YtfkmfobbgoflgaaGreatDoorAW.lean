/- Contracts of the functions of the program over slots and rows, each proved against the program itself; no condition beyond those that each theorem names. -/
import Derived.Test.YtfkmfobbgoflgaaGreatDoorAU
import Derived.Test.YtfkmfobbgoflgaaGreatDoorAO
import Derived.Test.YtfkmfobbgoflgaaGreatDoorAQ
import Derived.Test.YtfkmfobbgoflgaaGreatDoorAV
import Derived.Test.YtfkmfobbgoflgaaGreatDoorAH
import Derived.Test.YtfkmfobbgoflgaaGreatDoorAK
import Derived.Test.YtfkmfobbgoflgaaGreatDoorProg
set_option linter.unusedSimpArgs false
set_option linter.unusedVariables false
set_option maxRecDepth 100000
namespace Go.Proofs.Dev
def Lj (ls ws:List Int) (k:Nat):List (Int × Int × Int):= if (ati ls k = 1 ∨ ati ls k = 2) ∧ ati ws k ≠ ati ls k then [(1,(k:Int),0)] else []
def Wf (ls ws:List Int) (k:Nat):List (Int × Int × Int):= if (ati ws k = 1 ∨ ati ws k = 2) ∧ ati ws k ≠ ati ls k then [(0,(k:Int),ati ws k)] else []
def Bb (ls ws:List Int) (n:Nat):List (Int × Int × Int):= (List.range n).flatMap (Lj ls ws)
def DZ (ls ws:List Int) (n:Nat):List (Int × Int × Int):= (List.range n).flatMap (Wf ls ws)
theorem LN (ls ws:List Int) (n:Nat):Bb ls ws (n + 1) = Bb ls ws n ++ Lj ls ws n:= by simp [Bb,List.range_succ]
theorem M2 (ls ws:List Int) (n:Nat):DZ ls ws (n + 1) = DZ ls ws n ++ Wf ls ws n:= by simp [DZ,List.range_succ]
theorem Hu (ls ws:List Int):∀ n,(Bb ls ws n).length ≤ n
 | 0 => by simp [Bb]
 | n + 1 => by
   have:= Hu ls ws n
   rw [LN,List.length_append]
   have:(Lj ls ws n).length ≤ 1:= by unfold Lj; split <;> simp
   omega
theorem JH (ls ws:List Int):∀ n,(DZ ls ws n).length ≤ n
 | 0 => by simp [DZ]
 | n + 1 => by
   have:= JH ls ws n
   rw [M2,List.length_append]
   have:(Wf ls ws n).length ≤ 1:= by unfold Wf; split <;> simp
   omega
def d7 (ls ws:List Int):List (Int × Int × Int):= Bb ls ws ws.length ++ DZ ls ws ws.length
def Xg (W T:Int) (cs:List Bool):List Int:= if Am W T cs then Ac cs else []
def qX (W T:Int) (cs:List Bool) (ds ls:List Int) (ps:List (List Int)):List (Int × Int × Int):=
 if (Aj W T cs ds ls ps && bK W T cs ds (Xg W T cs)) = true then d7 ls (ZV W T cs ds (Xg W T cs)) else []
theorem Wg (W T:Int) (cs:List Bool) (ds ls:List Int) (ps:List (List Int)) (ws:List Int) (sb:Bool) (hc:cs.length < 2 ^ 40) (hd:ds.length < 2 ^ 40) (hl:ls.length < 2 ^ 40) (hb:ps.length < 2 ^ 40) (hp:∀ p ∈ ps,p.length < 2 ^ 40)
  (hws:Aj W T cs ds ls ps = true → sb = true → ls.length = ws.length ∧ ws.length ≤ 36):
  awp Tryz.prog md3 EH (Fin [RV.t 2] 105 1 [false] (AV.os 3 (dsA (if (Aj W T cs ds ls ps && sb) = true then d7 ls ws else []))) [AV.bot])
   [(1,.lp 0 0 0 0),(3,.ls 3 1 0 0),(4,.sl 0 1 (AB ws)),(5,.v (.bool sb))]
   [some (.box [.v (.int .i64 W),.v (.int .i64 T),.sl 1 1 (AC cs),.sl 1 1 (AB ds),.sl 1 1 (AB ls),.sl 1 1 (sls 1 ps)]),some (.arr 3 [])]:= by
 cases sb with
 | false => simp [EH]
 | true =>
 simp [EH]
 refine AA (BK W T cs ds ls ps hc hd hl hb hp) ?_
 cases hbk:Aj W T cs ds ls ps with
 | false => simp
 | true =>
 obtain ⟨e1,e2⟩:= hws hbk rfl
 simp
 refine AF (fun m E H => ∃ i:Nat,m = ws.length - i ∧ i ≤ ws.length ∧ H = [some (.box [.v (.int .i64 W),.v (.int .i64 T),.sl 1 1 (AC cs),.sl 1 1 (AB ds),.sl 1 1 (AB ls),.sl 1 1 (sls 1 ps)]),some (.arr 3 (dsA (Bb ls ws i)))] ∧
  E = [(1,.lp 0 0 0 0),(3,.ls 3 1 0 (Bb ls ws i).length),(4,.sl 0 1 (AB ws)),(6,.v (.int .i64 i))]) ws.length ⟨0,by simp [Bb]⟩ ?_
 rintro J hJ m E H ⟨i,rfl,hi,rfl,rfl⟩
 have hlen:= Hu ls ws i
 have hsuc:= LN ls ws i
 by_cases h:i < ws.length
 ·have h2:i < ls.length:= by omega
  have nx1:Lj ls ws i = [] → CL J (ws.length - i) [(1,.lp 0 0 0 0),(3,.ls 3 1 0 (Bb ls ws i).length),(4,.sl 0 1 (AB ws)),(6,.v (.int .i64 (i + 1)))]
    [some (.box [.v (.int .i64 W),.v (.int .i64 T),.sl 1 1 (AC cs),.sl 1 1 (AB ds),.sl 1 1 (AB ls),.sl 1 1 (sls 1 ps)]),some (.arr 3 (dsA (Bb ls ws i)))]:=
   fun e => ⟨_,by omega,hJ _ _ _ ⟨i + 1,rfl,h,by rw [hsuc,e,List.append_nil],by rw [hsuc,e,List.append_nil]; rfl⟩⟩
  have nx2:Lj ls ws i = [(1,(i:Int),0)] → CL J (ws.length - i) [(1,.lp 0 0 0 0),(3,.ls 3 1 0 ((Bb ls ws i).length + 1)),(4,.sl 0 1 (AB ws)),(6,.v (.int .i64 (i + 1)))]
    [some (.box [.v (.int .i64 W),.v (.int .i64 T),.sl 1 1 (AC cs),.sl 1 1 (AB ds),.sl 1 1 (AB ls),.sl 1 1 (sls 1 ps)]),some (.arr 3 (dsA (Bb ls ws i) ++ [.agg [.v (.int .i64 1),.v (.int .i64 i),.v (.int .i64 0)]]))]:=
   fun e => ⟨_,by omega,hJ _ _ _ ⟨i + 1,rfl,h,by rw [hsuc,e,PR]; rfl,by rw [hsuc,e,List.length_append]; rfl⟩⟩
  have hio:i < 36:= by omega
  by_cases hw1:ati ls i = 1
  ·by_cases hw3:ati ws i = 1
   ·have nx:= nx1 (by simp [Lj,hw1,hw3])
    simp [BV,h,h2,hw1,hw3]
    exact ⟨by omega,nx⟩
   ·have nx:= nx2 (by simp [Lj,hw1,hw3])
    simp [BV,h,h2,hw1,hw3]
    exact ⟨by omega,by omega,nx⟩
  ·by_cases hw2:ati ls i = 2
   ·by_cases hw3:ati ws i = 2
    ·have nx:= nx1 (by simp [Lj,hw2,hw3])
     simp [BV,h,h2,hw2,hw3]
     exact ⟨by omega,nx⟩
    ·have nx:= nx2 (by simp [Lj,hw2,hw3])
     simp [BV,h,h2,hw2,hw3]
     exact ⟨by omega,by omega,nx⟩
   ·have nx:= nx1 (by simp [Lj,hw1,hw2])
    simp [BV,h,h2,hw1,hw2]
    exact ⟨by omega,nx⟩
 ·have:i = ws.length:= by omega
  subst this
  simp [BV]
  clear hJ J
  have hL:(Bb ls ws ws.length).length ≤ 36:= by omega
  have hE:d7 ls ws = Bb ls ws ws.length ++ DZ ls ws ws.length:= rfl
  rw [hE]
  generalize Bb ls ws ws.length = L at *
  refine AF (fun m E H => ∃ i:Nat,m = ws.length - i ∧ i ≤ ws.length ∧ H = [some (.box [.v (.int .i64 W),.v (.int .i64 T),.sl 1 1 (AC cs),.sl 1 1 (AB ds),.sl 1 1 (AB ls),.sl 1 1 (sls 1 ps)]),some (.arr 3 (dsA (L ++ DZ ls ws i)))] ∧
   E = [(1,.lp 0 0 0 0),(3,.ls 3 1 0 (L ++ DZ ls ws i).length),(4,.sl 0 1 (AB ws)),(7,.v (.int .i64 i))]) ws.length ⟨0,by simp [DZ]⟩ ?_
  rintro J hJ m E H ⟨i,rfl,hi,rfl,rfl⟩
  have hlen:(L ++ DZ ls ws i).length ≤ 36 + i:= by
   have:= JH ls ws i
   rw [List.length_append]; omega
  have hsuc:L ++ DZ ls ws (i + 1) = (L ++ DZ ls ws i) ++ Wf ls ws i:= by rw [M2,List.append_assoc]
  by_cases h:i < ws.length
  case neg =>
   have:i = ws.length:= by omega
   subst this
   simp only [BW]
   generalize L ++ DZ ls ws ws.length = M at *
   simp
   exact List.take_of_length_le (by simp)
  have h2:i < ls.length:= by omega
  generalize L ++ DZ ls ws i = M at *
  have nx1:Wf ls ws i = [] → CL J (ws.length - i) [(1,.lp 0 0 0 0),(3,.ls 3 1 0 M.length),(4,.sl 0 1 (AB ws)),(7,.v (.int .i64 (i + 1)))]
    [some (.box [.v (.int .i64 W),.v (.int .i64 T),.sl 1 1 (AC cs),.sl 1 1 (AB ds),.sl 1 1 (AB ls),.sl 1 1 (sls 1 ps)]),some (.arr 3 (dsA (M)))]:=
   fun e => ⟨_,by omega,hJ _ _ _ ⟨i + 1,rfl,h,by rw [hsuc,e,List.append_nil],by rw [hsuc,e,List.append_nil]; rfl⟩⟩
  have nx2:Wf ls ws i = [(0,(i:Int),ati ws i)] → CL J (ws.length - i) [(1,.lp 0 0 0 0),(3,.ls 3 1 0 (M.length + 1)),(4,.sl 0 1 (AB ws)),(7,.v (.int .i64 (i + 1)))]
    [some (.box [.v (.int .i64 W),.v (.int .i64 T),.sl 1 1 (AC cs),.sl 1 1 (AB ds),.sl 1 1 (AB ls),.sl 1 1 (sls 1 ps)]),some (.arr 3 (dsA (M) ++ [.agg [.v (.int .i64 0),.v (.int .i64 i),.v (.int .i64 (ati ws i))]]))]:=
   fun e => ⟨_,by omega,hJ _ _ _ ⟨i + 1,rfl,h,by rw [hsuc,e,PR]; rfl,by rw [hsuc,e,List.length_append]; rfl⟩⟩
  have hio:i < 36:= by omega
  by_cases hw1:ati ws i = 1
  ·by_cases hw3:ati ls i = 1
   ·have nx:= nx1 (by simp [Wf,hw1,hw3])
    simp [BW,h,h2,hw1,hw3]
    exact ⟨by omega,nx⟩
   ·have hw3':¬ (1:Int) = ati ls i:= fun e => hw3 e.symm
    have nx:= nx2 (by simp [Wf,hw1,hw3'])
    rw [hw1] at nx
    simp [BW,h,h2,hw1,hw3,hw3']
    exact ⟨by omega,by omega,nx⟩
  ·by_cases hw2:ati ws i = 2
   ·by_cases hw3:ati ls i = 2
    ·have nx:= nx1 (by simp [Wf,hw2,hw3])
     simp [BW,h,h2,hw2,hw3]
     exact ⟨by omega,nx⟩
    ·have hw3':¬ (2:Int) = ati ls i:= fun e => hw3 e.symm
     have nx:= nx2 (by simp [Wf,hw2,hw3'])
     rw [hw2] at nx
     simp [BW,h,h2,hw2,hw3,hw3']
     exact ⟨by omega,by omega,nx⟩
   ·have nx:= nx1 (by simp [Wf,hw1,hw2])
    simp [BW,h,h2,hw1,hw2]
    exact ⟨by omega,nx⟩
theorem Tq {W T:Int} {cs:List Bool} {ds ls:List Int} {ps:List (List Int)} {b:List Int} (h1:Aj W T cs ds ls ps = true) (h2:bK W T cs ds b = true):
  ls.length = (ZV W T cs ds b).length ∧ (ZV W T cs ds b).length ≤ 36 ∧ ds.length = cs.length:= by
 have hok:= Nt (C1 (L9 h1))
 unfold bK at h2
 unfold ZV
 cases hf:Ax W T cs ds b with
 | none => rw [hf] at h2; cases h2
 | some x =>
   have e:= (Mu hf).2
   have:= Ab hok.1
   simp only [Option.getD_some]
   exact ⟨by omega,by omega,hok.2.1⟩
theorem Wh (W T:Int) (cs:List Bool) (ds ls:List Int) (ps:List (List Int)) (hc:cs.length < 2 ^ 40) (hd:ds.length < 2 ^ 40) (hl:ls.length < 2 ^ 40) (hb:ps.length < 2 ^ 40) (hp:∀ p ∈ ps,p.length < 2 ^ 40):
  SoundAt Tryz.prog OY [bkA W T cs ds ls ps] (.os 3 (dsA (qX W T cs ds ls ps))) [.bot]:= by
 have tl:= Wg W T cs ds ls ps (ZV W T cs ds (Xg W T cs)) (bK W T cs ds (Xg W T cs)) hc hd hl hb hp (fun h1 h2 => ⟨(Tq h1 h2).1,(Tq h1 h2).2.1⟩)
 refine AG (md:= md3) (ms:= [false]) WB (by simp) ?_
 simp [OZ]
 (repeat' first | apply And.intro) <;>
 ·refine AA (Ej W T cs hc) ?_
  simp
  have hbl:(if Am W T cs = true then Ac cs else []).length < 2 ^ 40:= by split <;> simp [Ac] <;> omega
  (repeat' first | apply And.intro) <;>
  ·refine AA (Sg W T cs ds _ hc hd hbl) ?_
   simp
   exact tl
theorem YI {α β:Type} (c:α → Bool) (g:α → β):∀ l:List α,(l.flatMap fun k => if c k = true then [g k] else []) = (l.filter c).map g
 | [] => rfl
 | a::l => by
   rw [List.flatMap_cons,YI c g l,List.filter_cons]
   cases c a <;> simp
def ir (ls:List Int):List Nat:= (List.range ls.length).filter fun k => decide (ati ls k = 1 ∨ ati ls k = 2)
theorem domK_mem {ls:List Int} {k:Nat}:k ∈ ir ls ↔ k < ls.length ∧ (ati ls k = 1 ∨ ati ls k = 2):= by simp [ir]
theorem iu (W T:Int) (ds ls:List Int):Bt W T ds ls = (ir ls).map fun k:Nat => aB (ati ds k) (ati ds (AH W T k (ati ls k))):= by
 have:= YI (fun k:Nat => decide (ati ls k = 1 ∨ ati ls k = 2)) (fun k:Nat => aB (ati ds k) (ati ds (AH W T k (ati ls k)))) (List.range ls.length)
 simp only [decide_eq_true_eq] at this
 exact this
theorem Sm {W T:Int} {cs:List Bool} {ls:List Int} {k:Nat} (hr:Am W T cs = true) (hy:AR W T cs ls = true) (hk:k ∈ ir ls):
  ∃ t:Nat,AH W T k (ati ls k) = t ∧ t < cs.length ∧ k < cs.length ∧ k < t ∧ atb cs k = true ∧ atb cs t = true ∧ ati ls t = CO (ati ls k) ∧ AH W T t (ati ls t) = k:= by
 obtain ⟨w1,w2,t1,t2,l1,_⟩:= BT hr
 obtain ⟨hk1,hw⟩:= domK_mem.1 hk
 have hl:= AY hy
 obtain ⟨v1,v4,g3,g4,g5,g6⟩:= DF hy hk1 (by omega)
 have sb:= Cn (W:= W) (T:= T) (k:= k) (way:= ati ls k) w1 (by omega) (by omega) g4
 obtain ⟨t,ht⟩:∃ t:Nat,AH W T k (ati ls k) = t:= ⟨(AH W T k (ati ls k)).toNat,by omega⟩
 have hlt:(k:Int) < AH W T k (ati ls k):= by
  unfold AH at g4 ⊢
  rcases hw with h | h <;> rw [h] at g4 ⊢ <;> simp at g4 ⊢ <;> split at g4 <;> first | omega | (rename_i hc; rw [if_pos hc]; omega)
 rw [ht] at g5 g6 sb hlt
 exact ⟨t,ht,by omega,by omega,by omega,g3,g5,g6,by rw [g6]; exact sb.1⟩
theorem Tr {W T:Int} {cs:List Bool} {ls:List Int} {j:Nat} (hr:Am W T cs = true) (hy:AR W T cs ls = true) (hj:j < ls.length) (hw:3 ≤ ati ls j):
  ∃ k:Nat,AH W T j (ati ls j) = k ∧ k ∈ ir ls ∧ AH W T k (ati ls k) = j:= by
 obtain ⟨w1,w2,t1,t2,l1,_⟩:= BT hr
 have hl:= AY hy
 obtain ⟨v1,v4,g3,g4,g5,g6⟩:= DF hy hj (by omega)
 have sb:= Cn (W:= W) (T:= T) (k:= j) (way:= ati ls j) w1 (by omega) (by omega) g4
 obtain ⟨k,hk⟩:∃ k:Nat,AH W T j (ati ls j) = k:= ⟨(AH W T j (ati ls j)).toNat,by omega⟩
 rw [hk] at g6 sb
 have hb:CO (ati ls j) = 1 ∨ CO (ati ls j) = 2:= by unfold CO; omega
 refine ⟨k,hk,domK_mem.2 ⟨by omega,by omega⟩,by rw [g6]; exact sb.1⟩
def iv (cs:List Bool):List Nat:= (List.range cs.length).filter fun k:Nat => atb cs k
def iw (cs:List Bool) (ls:List Int):List Nat:= (List.range cs.length).filter fun k:Nat => atb cs k && decide (ati ls k = 0)
def toK (W T:Int) (ls:List Int):List Nat:= (ir ls).map fun k:Nat => (AH W T k (ati ls k)).toNat
theorem So (cs:List Bool):∀ n,n ≤ cs.length → BM (cs.take n) = ((List.range n).filter fun k:Nat => atb cs k).length
 | 0,_ => by simp [BM]
 | n + 1,h => by
   rw [Qg cs n (by omega),So cs n (by omega),List.range_succ,List.filter_append,List.length_append]
   congr 1
   by_cases hc:atb cs n = true <;> simp [hc]
theorem ay (cs:List Bool):(iv cs).length = BM cs:= by
 have:= So cs cs.length (Nat.le_refl _)
 rw [List.take_length] at this
 exact this.symm
theorem Q2 (n:Nat):(List.range n).Nodup:= List.nodup_range
theorem YJ (ls:List Int):(ir ls).Nodup:= (Q2 _).filter _
theorem O6 {α β:Type} {f:α → β}:∀ {l:List α},l.Nodup → (∀ x ∈ l,∀ y ∈ l,f x = f y → x = y) → (l.map f).Nodup
 | [],_,_ => by simp
 | a::l,hn,h => by
   rw [List.nodup_cons] at hn
   rw [List.map_cons,List.nodup_cons]
   refine ⟨?_,O6 hn.2 fun x hx y hy => h x (by simp [hx]) y (by simp [hy])⟩
   intro hm
   obtain ⟨y,hy,e⟩:= List.mem_map.1 hm
   have:= h y (by simp [hy]) a (by simp) e
   subst this
   exact hn.1 hy
theorem KB {α:Type}:∀ {l m:List α},l.Nodup → m.Nodup → (∀ x ∈ l,x ∉ m) → (l ++ m).Nodup
 | [],m,_,hm,_ => hm
 | a::l,m,hl,hm,h => by
   rw [List.nodup_cons] at hl
   rw [List.cons_append,List.nodup_cons]
   refine ⟨?_,KB hl.2 hm fun x hx => h x (by simp [hx])⟩
   intro hx
   rcases List.mem_append.1 hx with h1 | h1
   ·exact hl.1 h1
   ·exact h a (by simp) h1
theorem az {l m:List Nat} (hn:l.Nodup) (h:∀ x ∈ l,x ∈ m):l.length ≤ m.length:= by
 have h1:(l.map Int.ofNat).Nodup:= O6 hn fun x _ y _ e => by simp at e; omega
 have:= dh (m:= m.map Int.ofNat) h1 (by
  intro x hx
  obtain ⟨y,hy,rfl⟩:= List.mem_map.1 hx
  exact List.mem_map.2 ⟨y,h y hy,rfl⟩)
 simpa using this
theorem cZ (ls:List Int):(ir ls).length = KT ls:= by
 have h1:= fD 1 1 [] ls
 rw [iu,List.length_map] at h1
 exact h1
theorem ca {W T:Int} {cs:List Bool} {ls:List Int} (hr:Am W T cs = true) (hy:AR W T cs ls = true):BM cs = 2 * KT ls + (iw cs ls).length:= by
 have hl:= AY hy
 have to_mem:∀ t,t ∈ toK W T ls ↔ ∃ k,k ∈ ir ls ∧ (AH W T k (ati ls k)).toNat = t:= by intro t; simp [toK]
 have hto:(toK W T ls).Nodup:= by
  refine O6 (YJ ls) ?_
  intro x hx y hy2 e
  obtain ⟨t,e1,_,_,_,_,_,_,b1⟩:= Sm hr hy hx
  obtain ⟨s,e2,_,_,_,_,_,_,b2⟩:= Sm hr hy hy2
  rw [e1,e2] at e
  have:t = s:= by simpa using e
  subst this
  omega
 have hback:∀ t,t ∈ toK W T ls → t < cs.length ∧ atb cs t = true ∧ 3 ≤ ati ls t:= by
  intro t ht
  obtain ⟨k,hk,e⟩:= (to_mem t).1 ht
  obtain ⟨s,e1,h1,_,_,_,h5,h6,_⟩:= Sm hr hy hk
  rw [e1] at e
  have:s = t:= by simpa using e
  subst this
  refine ⟨h1,h5,?_⟩
  rw [h6]
  have:= (domK_mem.1 hk).2
  unfold CO; omega
 have hbare:∀ k,k ∈ iw cs ls ↔ k < cs.length ∧ atb cs k = true ∧ ati ls k = 0:= by intro k; simp [iw,and_assoc]
 have hcell:∀ k,k ∈ iv cs ↔ k < cs.length ∧ atb cs k = true:= by intro k; simp [iv]
 have hnd:(ir ls ++ (toK W T ls ++ iw cs ls)).Nodup:= by
  refine KB (YJ ls) (KB hto ((Q2 _).filter _) ?_) ?_
  ·intro x hx hb
   have h1:= (hback x hx).2.2
   have h2:= ((hbare x).1 hb).2.2
   omega
  ·intro x hx hm
   have h0:= (domK_mem.1 hx).2
   rcases List.mem_append.1 hm with h1 | h1
   ·have:= (hback x h1).2.2; omega
   ·have:= ((hbare x).1 h1).2.2; omega
 have hle:= az (m:= iv cs) hnd (by
  intro x hx
  rw [hcell]
  rcases List.mem_append.1 hx with h1 | h1
  ·obtain ⟨t,_,_,h2,_,h3,_⟩:= Sm hr hy h1
   exact ⟨h2,h3⟩
  ·rcases List.mem_append.1 h1 with h2 | h2
   ·exact ⟨(hback x h2).1,(hback x h2).2.1⟩
   ·exact ⟨((hbare x).1 h2).1,((hbare x).1 h2).2.1⟩)
 have hge:= az (l:= iv cs) (m:= ir ls ++ (toK W T ls ++ iw cs ls)) ((Q2 _).filter _) (by
  intro x hx
  obtain ⟨h1,h2⟩:= (hcell x).1 hx
  rw [List.mem_append,List.mem_append]
  by_cases hz:ati ls x = 0
  ·exact .inr (.inr ((hbare x).2 ⟨h1,h2,hz⟩))
  obtain ⟨v1,v4,_⟩:= DF hy (show x < ls.length by omega) hz
  by_cases hd:ati ls x = 1 ∨ ati ls x = 2
  ·exact .inl (domK_mem.2 ⟨by omega,hd⟩)
  obtain ⟨k,_,hk,e⟩:= Tr hr hy (show x < ls.length by omega) (by omega)
  exact .inr (.inl ((to_mem x).2 ⟨k,hk,by rw [e]; simp⟩)))
 simp only [List.length_append,ay,cZ,toK,List.length_map] at hle hge
 omega
def Sp (W T:Int) (cs:List Bool) (ds:List Int):List Int → List (List Int) → List (Int × Int × Int) → Option (List Int × List (List Int))
 | ls,ps,[] => some (ls,ps)
 | ls,ps,d::xs => if (doI W T cs ds ls ps d.1 d.2.1 d.2.2).1 = true then Sp W T cs ds (doI W T cs ds ls ps d.1 d.2.1 d.2.2).2.1 (doI W T cs ds ls ps d.1 d.2.1 d.2.2).2.2 xs else none
theorem LO (W T:Int) (cs:List Bool) (ds:List Int):∀ (xs ys:List (Int × Int × Int)) (ls:List Int) (ps:List (List Int)),
  Sp W T cs ds ls ps (xs ++ ys) = (Sp W T cs ds ls ps xs).bind fun r => Sp W T cs ds r.1 r.2 ys
 | [],ys,ls,ps => rfl
 | x::xs,ys,ls,ps => by
   rw [List.cons_append,Sp,Sp]
   split
   ·exact LO W T cs ds xs ys _ _
   ·rfl
theorem a8 {W T:Int} {cs:List Bool} {ds ls l2:List Int} {ps p2:List (List Int)} {k s w:Int} (h:doI W T cs ds ls ps k s w = (true,l2,p2)):Sp W T cs ds ls ps [(k,s,w)] = some (l2,p2):= by
 simp [Sp,h]
theorem ka {W T:Int} {cs:List Bool} {ds ls:List Int} {ps:List (List Int)} {n:Nat} (hf:Ad W T cs ds ls = true) (hn:n < ls.length) (hz:ati ls n ≠ 0):doI W T cs ds ls ps 1 n 0 = (true,KU W T ls n,FY ls ps):= by
 have h1:D6 ls n = true:= by simp [D6,hz,hn]
 have h2:= iD (k:= n) hf hn hz
 have h3:Ti (1,(n:Int),0) = true:= by simp [Ti]
 simp [doI,Jk,h3,Q1,Hi,h1,h2]
theorem nq {W T:Int} {cs:List Bool} {ds ls:List Int} {ps:List (List Int)} {n:Nat} {w:Int} (hb:Av W T cs ls n w = true) (hf:Ad W T cs ds (Bk W T ls n w) = true):doI W T cs ds ls ps 0 n w = (true,Bk W T ls n w,FY ls ps):= by
 have h3:Ti (0,(n:Int),w) = true:= by simp [Ti]
 simp [doI,Jk,h3,Q1,Hi,hb,Au,hf]
def P1 (ls ws A:List Int) (n:Nat):Prop:= Ia A ls = true ∧ ∀ j:Nat,j < ls.length → (ati ls j = 1 ∨ ati ls j = 2) → ati A j = if j < n ∧ ati ws j ≠ ati ls j then 0 else ati ls j
theorem YK {W T:Int} {cs:List Bool} {ds ls ws:List Int} {ps:List (List Int)} (hv:Aj W T cs ds ls ps = true):∀ n,n ≤ ls.length →
  ∃ A p,Sp W T cs ds ls ps (Bb ls ws n) = some (A,p) ∧ Aj W T cs ds A p = true ∧ P1 ls ws A n
 | 0,_ => ⟨ls,ps,rfl,hv,hasB_iff.2 fun j _ => .inr rfl,fun j _ _ => by simp⟩
 | n + 1,hn => by
   obtain ⟨A,p,e,hA,h1,h2⟩:= YK (ws:= ws) hv n (by omega)
   obtain ⟨hf,h20,hpf⟩:= AW hA
   obtain ⟨hr,hd,hy,ho⟩:= AM hf
   have hAl:= AY hy
   have hll:= AY (AM (AW hv).1).2.2.1
   rw [LN,LO,e]
   simp only [Option.bind_some]
   by_cases hc:(ati ls n = 1 ∨ ati ls n = 2) ∧ ati ws n ≠ ati ls n
   ·have el:Lj ls ws n = [(1,(n:Int),0)]:= by unfold Lj; rw [if_pos hc]
    have hAn:= h2 n (by omega) hc.1
    rw [if_neg (fun h => by omega)] at hAn
    have hz:ati A n ≠ 0:= by rw [hAn]; omega
    have hd1:= ka (ps:= p) hf (show n < A.length by omega) hz
    have hok:= cY (ps:= p) 1 n 0 hA
    rw [hd1] at hok
    obtain ⟨t,ht,htl,htn,hat⟩:= TZ hr hy (show n < A.length by omega) hz
    obtain ⟨_,_,_,_,_,g6⟩:= DF hy (show n < A.length by omega) hz
    rw [ht] at g6
    rw [el]
    refine ⟨_,_,a8 hd1,hok,aZ (by rw [IP]) (di hr hy (show n < A.length by omega) hz) h1,fun j hj hjd => ?_⟩
    rw [hat j]
    by_cases e1:j = n
    ·rw [if_pos e1,if_pos ⟨by omega,by rw [e1]; exact hc.2⟩]
    rw [if_neg e1]
    have hjA:= h2 j hj hjd
    have e2:j ≠ t:= by
     intro e2
     rw [← e2,hjA] at g6
     have:CO (ati A n) = 3 ∨ CO (ati A n) = 4:= by rw [hAn]; unfold CO; omega
     split at g6 <;> omega
    rw [if_neg e2,hjA]
    by_cases e3:j < n ∧ ati ws j ≠ ati ls j
    ·rw [if_pos e3,if_pos ⟨by omega,e3.2⟩]
    ·rw [if_neg e3,if_neg (fun h => e3 ⟨by omega,h.2⟩)]
   ·have el:Lj ls ws n = []:= by unfold Lj; rw [if_neg hc]
    rw [el]
    refine ⟨A,p,rfl,hA,h1,fun j hj hjd => ?_⟩
    rw [h2 j hj hjd]
    by_cases e3:j < n ∧ ati ws j ≠ ati ls j
    ·rw [if_pos e3,if_pos ⟨by omega,e3.2⟩]
    ·rw [if_neg e3,if_neg]
     rintro ⟨h3,h4⟩
     by_cases e4:j = n
     ·subst e4; exact hc ⟨hjd,h4⟩
     ·exact e3 ⟨by omega,h4⟩
theorem bA {W T:Int} {cs:List Bool} {A ws:List Int} (hr:Am W T cs = true) (hA:AR W T cs A = true) (hw:AR W T cs ws = true) (h:∀ j:Nat,j < A.length → (ati A j = 1 ∨ ati A j = 2) → ati ws j = ati A j):Ia A ws = true:= by
 have hAl:= AY hA
 have hwl:= AY hw
 rw [hasB_iff]
 intro j hj
 by_cases hz:ati A j = 0
 ·exact .inl hz
 right
 obtain ⟨v1,v4,_⟩:= DF hA hj hz
 by_cases hd:ati A j = 1 ∨ ati A j = 2
 ·exact h j hj hd
 obtain ⟨k,e1,hk,e2⟩:= Tr hr hA hj (by omega)
 obtain ⟨hk1,hk2⟩:= domK_mem.1 hk
 have hwk:= h k hk1 hk2
 obtain ⟨_,_,_,_,_,g6⟩:= DF hA hk1 (by omega)
 obtain ⟨_,_,_,_,_,q6⟩:= DF hw (show k < ws.length by omega) (by omega)
 rw [e2] at g6
 rw [hwk,e2] at q6
 rw [q6,g6]
def P2 (ls ws C:List Int) (n:Nat):Prop:= Ia C ws = true ∧ ∀ j:Nat,j < ws.length → (ati ws j = 1 ∨ ati ws j = 2) → ati C j = if j < n ∨ ati ls j = ati ws j then ati ws j else 0
theorem sY {W T:Int} {cs:List Bool} {ls ws A:List Int} (hr:Am W T cs = true) (hA:AR W T cs A = true) (hl:AR W T cs ls = true) (hw:AR W T cs ws = true) (h:P1 ls ws A ls.length):P2 ls ws A 0:= by
 obtain ⟨h1,h2⟩:= h
 have hAl:= AY hA
 have hll:= AY hl
 have hwl:= AY hw
 have hA1:= hasB_iff.1 h1
 have hhas:Ia A ws = true:= by
  refine bA hr hA hw fun j hj hd => ?_
  have e:= (hA1 j hj).resolve_left (by omega)
  have:= h2 j (by omega) (by rw [e]; exact hd)
  by_cases hne:ati ws j = ati ls j
  ·rw [hne,e]
  ·rw [if_pos ⟨by omega,hne⟩] at this; omega
 refine ⟨hhas,fun j hj hd => ?_⟩
 by_cases he:ati ls j = ati ws j
 ·rw [if_pos (.inr he)]
  have:= h2 j (by omega) (by rw [he]; exact hd)
  rw [if_neg (fun h => h.2 he.symm)] at this
  rw [this,he]
 ·rw [if_neg (by omega)]
  rcases hasB_iff.1 hhas j (by omega) with h0 | h0
  ·exact h0
  ·rcases hA1 j (by omega) with h3 | h3
   ·exact h3
   ·exfalso; rw [h0] at he; exact he h3
theorem bB {W T:Int} {cs:List Bool} {ds ls ws A:List Int} {ps:List (List Int)} (hA:Aj W T cs ds A ps = true) (hw:Ad W T cs ds ws = true) (h0:P2 ls ws A 0):∀ n,n ≤ ws.length →
  ∃ C p,Sp W T cs ds A ps (DZ ls ws n) = some (C,p) ∧ Aj W T cs ds C p = true ∧ P2 ls ws C n
 | 0,_ => ⟨A,ps,rfl,hA,h0⟩
 | n + 1,hn => by
   obtain ⟨C,p,e,hC,h1,h2⟩:= bB hA hw h0 n (by omega)
   obtain ⟨hf,h20,hpf⟩:= AW hC
   obtain ⟨hr,hd,hy,ho⟩:= AM hf
   obtain ⟨_,_,hwy,hwo⟩:= AM hw
   obtain ⟨w1,w2,t1,t2,l1,_⟩:= BT hr
   have hCl:= AY hy
   have hwl:= AY hwy
   rw [M2,LO,e]
   simp only [Option.bind_some]
   by_cases hc:(ati ws n = 1 ∨ ati ws n = 2) ∧ ati ws n ≠ ati ls n
   ·have el:Wf ls ws n = [(0,(n:Int),ati ws n)]:= by unfold Wf; rw [if_pos hc]
    have hCn:= h2 n (by omega) hc.1
    rw [if_neg (by omega)] at hCn
    obtain ⟨_,_,g3,g4,g5,g6⟩:= DF hwy (show n < ws.length by omega) (by omega)
    obtain ⟨b1,b2,b3,b4,b5⟩:= Cn (T:= T) (k:= n) (way:= ati ws n) w1 (by omega) (by omega) g4
    obtain ⟨k1,k2,k3⟩:= F3 b2 b3
    obtain ⟨t,ht⟩:∃ t:Nat,AH W T n (ati ws n) = t:= ⟨(AH W T n (ati ws n)).toNat,by omega⟩
    rw [ht] at g4 g5 g6 b1 b4 b5
    have hCt:ati C t = 0:= by
     rcases hasB_iff.1 h1 t (by omega) with h | h
     ·exact h
     ·exfalso
      have hne:ati C t ≠ 0:= by rw [← h,g6]; omega
      obtain ⟨_,_,_,_,_,q6⟩:= DF hy (show t < C.length by omega) hne
      rw [← h,g6,b1,hCn,k1] at q6
      omega
    have hfr:Av W T cs C n (ati ws n) = true:= cU (by omega) (by omega) ht g4 g3 g5 hCn hCt
    obtain ⟨m1,m2,m3⟩:= cT hr hy hfr ht
    have hhas:Ia (Bk W T C n (ati ws n)) ws = true:= by
     rw [hasB_iff]
     intro j hj
     rw [m3 j (by omega)]
     by_cases e1:(j:Int) = t
     ·rw [if_pos e1,e1,g6]; exact .inr rfl
     rw [if_neg e1]
     by_cases e2:(j:Int) = n
     ·rw [if_pos e2,e2]; exact .inr rfl
     rw [if_neg e2]
     exact hasB_iff.1 h1 j (by omega)
    have hfair:Ad W T cs ds (Bk W T C n (ati ws n)) = true:= cL hr hd m1 (ZL (WO (by rw [m2]; omega) hhas) hwo)
    have hd1:= nq (ps:= p) hfr hfair
    have hok:= cY (ps:= p) 0 n (ati ws n) hC
    rw [hd1] at hok
    rw [el]
    refine ⟨_,_,a8 hd1,hok,hhas,fun j hj hjd => ?_⟩
    rw [m3 j (by omega)]
    have e1:(j:Int) ≠ t:= by
     intro e1
     rw [e1,g6] at hjd
     have:CO (ati ws n) = 3 ∨ CO (ati ws n) = 4:= by unfold CO; omega
     omega
    rw [if_neg e1]
    by_cases e2:(j:Int) = n
    ·rw [if_pos e2,if_pos (by omega),e2]
    rw [if_neg e2,h2 j hj hjd]
    by_cases e3:j < n ∨ ati ls j = ati ws j
    ·rw [if_pos e3,if_pos (by omega)]
    ·rw [if_neg e3,if_neg (by omega)]
   ·have el:Wf ls ws n = []:= by unfold Wf; rw [if_neg hc]
    rw [el]
    refine ⟨C,p,rfl,hC,h1,fun j hj hjd => ?_⟩
    rw [h2 j hj hjd]
    by_cases e3:j < n ∨ ati ls j = ati ws j
    ·rw [if_pos e3,if_pos (by omega)]
    ·rw [if_neg e3]
     by_cases e4:j = n
     ·subst e4
      exact absurd ⟨hjd,fun h => e3 (.inr h.symm)⟩ hc
     ·rw [if_neg (by omega)]
theorem nr {W T:Int} {cs:List Bool} {ds ls ws:List Int} {ps:List (List Int)} (hv:Aj W T cs ds ls ps = true) (hw:Ad W T cs ds ws = true):
  ∃ p,Sp W T cs ds ls ps (d7 ls ws) = some (ws,p) ∧ Aj W T cs ds ws p = true:= by
 obtain ⟨hr,hd,hy,ho⟩:= AM (AW hv).1
 obtain ⟨_,_,hwy,hwo⟩:= AM hw
 have hll:= AY hy
 have hwl:= AY hwy
 obtain ⟨A,p,e1,hA,h1⟩:= YK (ws:= ws) hv ls.length (Nat.le_refl _)
 have hAy:= (AM (AW hA).1).2.2.1
 obtain ⟨C,p2,e2,hC,h2,h3⟩:= bB hA hw (sY hr hAy hy hwy h1) ws.length (Nat.le_refl _)
 have hCy:= (AM (AW hC).1).2.2.1
 have hCl:= AY hCy
 have e:C = ws:= by
  refine iT (by omega) fun j hj => ?_
  by_cases hz:ati ws j = 0
  ·rcases hasB_iff.1 h2 j hj with h | h
   ·rw [h,hz]
   ·exact h.symm
  by_cases hdj:ati ws j = 1 ∨ ati ws j = 2
  ·rw [h3 j (by omega) hdj,if_pos (.inl (by omega))]
  obtain ⟨v1,v4,_⟩:= DF hwy (show j < ws.length by omega) hz
  obtain ⟨k,f1,hk,f2⟩:= Tr hr hwy (show j < ws.length by omega) (by omega)
  obtain ⟨hk1,hk2⟩:= domK_mem.1 hk
  have hCk:= h3 k hk1 hk2
  rw [if_pos (.inl hk1)] at hCk
  obtain ⟨_,_,_,_,_,g6⟩:= DF hwy hk1 (by omega)
  obtain ⟨_,_,_,_,_,q6⟩:= DF hCy (show k < C.length by omega) (by omega)
  rw [f2] at g6
  rw [hCk,f2] at q6
  rw [q6,g6]
 subst e
 refine ⟨p2,?_,hC⟩
 unfold d7
 rw [show C.length = ls.length by omega] at *
 rw [LO,e1]
 exact e2
theorem QO (bs:List Int) (p:Nat) (n:Int) (hb:bs.length ≤ 2000) (hB:Byt bs) (hp:p < 2 ^ 33) (hn0:0 ≤ n) (hn:n < 2 ^ 20):
  SoundSet Tryz.prog Li [rdA bs p,.v (.int .i64 n)] (ii bs p 1000):= by
 refine KW (md:= md8) (ms:= [true,false]) Xe (by simp) ?_
 simp [QL]
 refine AJ (Ux bs p 0 hb hB (by omega) (by omega) (by omega)) [0] (by simp) (by simp) (by simp) ?_
 rintro _ _ ⟨W,T,cs,ds,q,rfl,hcs,hds,hq,rfl⟩
 simp [MO]
 refine AA (Lf W T cs ds (by omega) (by omega)) ?_
 obtain ⟨W2,T2,cs2,ds2,ls2,e,hk⟩:= qV W T cs ds
 rw [e]
 simp
 refine AJ (AD bs q 14 hb hB (by omega)) [0] (by simp) (by simp) (by simp) ?_
 rintro _ _ ⟨x,x0,x1,rfl,rfl⟩
 obtain ⟨m,rfl⟩:∃ m:Nat,x = m:= ⟨x.toNat,by omega⟩
 simp
 refine nn bs p (q + 1) n m W2 T2 cs2 ds2 ls2 [] hb hB (by omega) (by omega) (by omega) hk _ ?_
 intro q2 W T cs ds ls ps E hq2 hk e0 e1 e4 e7 e64
 obtain ⟨a1,a2,a3,a4,a5⟩:= Tm hk
 have t1:(oss ps).take ps.length = oss ps:= List.take_of_length_le (by simp [oss])
 have fin:∀ (W T:Int) (cs:List Bool) (ds ls:List Int) (ps:List (List Int)) (q3:Nat),cs.length ≤ 37 → ds.length ≤ 38 → ls.length ≤ 38 → ps.length ≤ 21 → (∀ x ∈ ps,x.length ≤ 37) → q3 ≤ q2 + 5 → ii bs p 1000 (bkO W T cs ds ls ps) [rdA bs q3,.bot]:=
  fun W T cs ds ls ps q3 h1 h2 h3 h4 h5 h6 => ⟨W,T,cs,ds,ls,ps,q3,h1,h2,h3,h4,h5,by omega,rfl,rfl⟩
 have a5':∀ x ∈ ps,x.length ≤ 37:= fun x hx => by have:= a5 x hx; omega
 simp [e0,e1]
 refine AJ (Cl bs q2 n hb hB (by omega) (by omega)) [0] (by simp) (by simp) (by simp) ?_
 rintro _ _ ⟨o,q3,rfl,hq3,rfl⟩
 cases o with
 | false =>
   simp [AP,e0,e4,e7,e64]
   refine ⟨_,_,fin W T cs ds ls ps q3 (by omega) (by omega) (by omega) (by omega) a5' (by omega),?_⟩
   simp [AP,e0,e1,e4,e7,e64,t1]
 | true =>
   simp [AP,e0,e4,e7,e64]
   refine AJ (AD bs q3 4 hb hB (by omega)) [0] (by simp) (by simp) (by simp) ?_
   rintro _ _ ⟨y,y0,y1,rfl,rfl⟩
   by_cases c0:y = 0
   ·have ea:AB ls ++ [.v (.int .i64 0)] = AB (ls ++ [0]):= by simp [AB]
    have t2:(AB (ls ++ [0])).take (ls.length + 1) = AB (ls ++ [0]):= List.take_of_length_le (by simp)
    simp [c0,AP,e0,e4,e7,e64,ea]
    refine ⟨by omega,_,_,fin W T cs ds (ls ++ [0]) ps (q3 + 1) (by omega) (by omega) (by simp; omega) (by omega) a5' (by omega),?_⟩
    simp [AP,e0,e1,e4,e7,e64,t1,t2]
   by_cases c1:y = 1
   ·have ea:oss ps ++ [.os 1 [.v (.int .i64 9)]] = oss (ps ++ [[9]]):= by simp [oss,AB]
    have t2:(oss (ps ++ [[9]])).take (ps.length + 1) = oss (ps ++ [[9]]):= List.take_of_length_le (by simp [oss])
    simp [c1,AP,e0,e4,e7,e64,ea]
    refine ⟨by omega,_,_,fin W T cs ds ls (ps ++ [[9]]) (q3 + 1) (by omega) (by omega) (by omega) (by simp; omega) (by intro x hx; simp at hx; rcases hx with h | rfl; exact a5' x h; simp) (by omega),?_⟩
    simp [AP,e0,e1,e4,e7,e64,t2]
   by_cases c2:y = 2
   ·simp [c0,c1,c2,AP,e0,e4,e7,e64]
    refine ⟨_,_,fin 0 0 [] [] [] [] (q3 + 1) (by simp) (by simp) (by simp) (by simp) (by simp) (by omega),?_⟩
    simp [AP,e0,e1,e4,e7,e64,oss]
   ·have ea:AB ds ++ [.v (.int .i64 0)] = AB (ds ++ [0]):= by simp [AB]
    have t2:(AB (ds ++ [0])).take (ds.length + 1) = AB (ds ++ [0]):= List.take_of_length_le (by simp)
    simp [c0,c1,c2,AP,e0,e4,e7,e64,ea]
    refine ⟨by omega,_,_,fin W T cs (ds ++ [0]) ls ps (q3 + 1) (by omega) (by simp; omega) (by omega) (by omega) a5' (by omega),?_⟩
    simp [AP,e0,e1,e4,e7,e64,t1,t2]
theorem Wi {W T:Int} {cs:List Bool} {ds:List Int} (hr:Am W T cs = true) (hd:B4 cs ds = true):Ad W T cs ds (Ac cs) = true:= by
 have hp:Bt W T ds (Ac cs) = []:= by
  simp [Bt,BE,PS]
 simp [Ad,okB,hr,hd,IM,hp,LU]
theorem fP {W T:Int} {cs:List Bool} {ds:List Int} (hr:Am W T cs = true) (hd:B4 cs ds = true):
  hZ ((CE W T cs ds).find? (Ia (Ac cs))) = .tup [.os 1 (AB (ZV W T cs ds (Ac cs))),.v (.bool (bK W T cs ds (Ac cs)))]:= by
 have e:Ax W T cs ds (Ac cs) = (CE W T cs ds).find? (Ia (Ac cs)):= by simp [Ax,Wi hr hd]
 simp only [ZV,bK,e]
 cases (CE W T cs ds).find? (Ia (Ac cs)) <;> simp [hZ]
theorem l0:gB Tryz.prog Ae = true:= by kernel_rfl
theorem Wj (W T:Int) (cs:List Bool) (ds ls:List Int) (ps:List (List Int)) (ws:List Int) (sb:Bool)
  (hws:sb = true → ls.length = ws.length ∧ ws.length ≤ 36):
  awp Tryz.prog md3 CQ (Fin [RV.t 2] 88 1 [false] (AV.os 3 (dsA (if sb = true then d7 ls ws else []))) [AV.bot])
   [(0,bkP W T cs ds ls ps),(3,.ls 1 0 0 ws.length),(4,.v (.bool sb))] [some (.arr 1 (AB ws))]:= by
 cases sb with
 | false => simp [CQ]
 | true =>
 obtain ⟨e1,e2⟩:= hws rfl
 simp [CQ,fV]
 refine AF (fun m E H => ∃ i:Nat,m = ls.length - i ∧ i ≤ ls.length ∧ H = [some (.arr 1 (AB ws)),some (.arr 3 (dsA (Bb ls ws i)))] ∧
  E = [(0,bkP W T cs ds ls ps),(3,.ls 1 0 0 ws.length),(5,.ls 3 1 0 (Bb ls ws i).length),(6,.fn Ae []),(34,.sl 1 1 (AB ls)),(35,.v (.int .i64 ls.length)),(36,.v (.int .i64 i))]) ls.length ⟨0,by simp [Bb]⟩ ?_
 rintro J hJ m E H ⟨i,rfl,hi,rfl,rfl⟩
 have hlen:= Hu ls ws i
 have hsuc:= LN ls ws i
 by_cases h:i < ls.length
 ·have h2:i < ws.length:= by omega
  have nx1:Lj ls ws i = [] → CL J (ls.length - i) [(0,bkP W T cs ds ls ps),(3,.ls 1 0 0 ws.length),(5,.ls 3 1 0 (Bb ls ws i).length),(6,.fn Ae []),(34,.sl 1 1 (AB ls)),(35,.v (.int .i64 ls.length)),(36,.v (.int .i64 (i + 1)))]
    [some (.arr 1 (AB ws)),some (.arr 3 (dsA (Bb ls ws i)))]:=
   fun e => ⟨_,by omega,hJ _ _ _ ⟨i + 1,rfl,h,by rw [hsuc,e,List.append_nil],by rw [hsuc,e,List.append_nil]; rfl⟩⟩
  have nx2:Lj ls ws i = [(1,(i:Int),0)] → CL J (ls.length - i) [(0,bkP W T cs ds ls ps),(3,.ls 1 0 0 ws.length),(5,.ls 3 1 0 ((Bb ls ws i).length + 1)),(6,.fn Ae []),(34,.sl 1 1 (AB ls)),(35,.v (.int .i64 ls.length)),(36,.v (.int .i64 (i + 1)))]
    [some (.arr 1 (AB ws)),some (.arr 3 (dsA (Bb ls ws i) ++ [.agg [.v (.int .i64 1),.v (.int .i64 i),.v (.int .i64 0)]]))]:=
   fun e => ⟨_,by omega,hJ _ _ _ ⟨i + 1,rfl,h,by rw [hsuc,e,PR]; rfl,by rw [hsuc,e,List.length_append]; rfl⟩⟩
  have hio:i < 36:= by omega
  simp at nx1 nx2
  simp [Dd,h,h2]
  refine ⟨l0,?_⟩
  refine AA (G9 (ati ls i)) ?_
  by_cases hw:ati ls i = 1 ∨ ati ls i = 2
  ·by_cases hw3:ati ws i = ati ls i
   ·have nx:= nx1 (by simp [Lj,hw3])
    simp [hw,hw3,h2]
    exact ⟨by omega,nx⟩
   ·have nx:= nx2 (by simp [Lj,hw,hw3])
    simp [hw,hw3,h2]
    exact ⟨by omega,by omega,nx⟩
  ·have nx:= nx1 (by simp only [Lj,hw,false_and,if_false])
   simp [hw,h2]
   exact ⟨by omega,nx⟩
 ·have:i = ls.length:= by omega
  subst this
  simp [Dd]
  clear hJ J
  have hL:(Bb ls ws ls.length).length ≤ 36:= by omega
  have hE:d7 ls ws = Bb ls ws ls.length ++ DZ ls ws ws.length:= by rw [e1]; rfl
  rw [hE]
  generalize Bb ls ws ls.length = L at *
  refine AF (fun m E H => ∃ i:Nat,m = ws.length - i ∧ i ≤ ws.length ∧ H = [some (.arr 3 (dsA (L ++ DZ ls ws i))),some (.arr 1 (AB ws))] ∧
   E = [(0,bkP W T cs ds ls ps),(5,.ls 3 0 0 (L ++ DZ ls ws i).length),(6,.fn Ae []),(58,.ls 1 1 0 ws.length),(59,.v (.int .i64 ws.length)),(60,.v (.int .i64 i))]) ws.length ⟨0,by simp [DZ]⟩ ?_
  rintro J hJ m E H ⟨i,rfl,hi,rfl,rfl⟩
  have hlen:(L ++ DZ ls ws i).length ≤ 36 + i:= by
   have:= JH ls ws i
   rw [List.length_append]; omega
  have hsuc:L ++ DZ ls ws (i + 1) = (L ++ DZ ls ws i) ++ Wf ls ws i:= by rw [M2,List.append_assoc]
  by_cases h:i < ws.length
  case neg =>
   have:i = ws.length:= by omega
   subst this
   simp only [De]
   generalize L ++ DZ ls ws ws.length = M at *
   simp
   refine AA (SB M) ?_
   simp
   exact List.take_of_length_le (by simp)
  have h2:i < ls.length:= by omega
  generalize L ++ DZ ls ws i = M at *
  have nx1:Wf ls ws i = [] → CL J (ws.length - i) [(0,bkP W T cs ds ls ps),(5,.ls 3 0 0 M.length),(6,.fn Ae []),(58,.ls 1 1 0 ws.length),(59,.v (.int .i64 ws.length)),(60,.v (.int .i64 (i + 1)))]
    [some (.arr 3 (dsA M)),some (.arr 1 (AB ws))]:=
   fun e => ⟨_,by omega,hJ _ _ _ ⟨i + 1,rfl,h,by rw [hsuc,e,List.append_nil],by rw [hsuc,e,List.append_nil]; rfl⟩⟩
  have nx2:Wf ls ws i = [(0,(i:Int),ati ws i)] → CL J (ws.length - i) [(0,bkP W T cs ds ls ps),(5,.ls 3 0 0 (M.length + 1)),(6,.fn Ae []),(58,.ls 1 1 0 ws.length),(59,.v (.int .i64 ws.length)),(60,.v (.int .i64 (i + 1)))]
    [some (.arr 3 (dsA M ++ [.agg [.v (.int .i64 0),.v (.int .i64 i),.v (.int .i64 (ati ws i))]])),some (.arr 1 (AB ws))]:=
   fun e => ⟨_,by omega,hJ _ _ _ ⟨i + 1,rfl,h,by rw [hsuc,e,PR]; rfl,by rw [hsuc,e,List.length_append]; rfl⟩⟩
  have hio:i < 36:= by omega
  simp at nx1 nx2
  simp [De,h,h2,fV]
  refine ⟨l0,?_⟩
  refine AA (G9 (ati ws i)) ?_
  by_cases hw:ati ws i = 1 ∨ ati ws i = 2
  ·by_cases hw3:ati ls i = ati ws i
   ·have nx:= nx1 (by simp [Wf,hw3])
    simp [hw,hw3,h2,fV]
    exact ⟨by omega,nx⟩
   ·have hw3':¬ ati ws i = ati ls i:= fun e => hw3 e.symm
    have nx:= nx2 (by simp [Wf,hw,hw3'])
    simp [hw,hw3,h2,fV]
    exact ⟨by omega,by omega,nx⟩
  ·have nx:= nx1 (by simp only [Wf,hw,false_and,if_false])
   simp [hw,h2,fV]
   exact ⟨by omega,nx⟩
theorem Pf (W T:Int) (cs:List Bool) (ds ls:List Int) (ps:List (List Int)) (hbk:Aj W T cs ds ls ps = true):
  SoundAt Tryz.prog Iw [bkP W T cs ds ls ps] (.os 3 (dsA (if bK W T cs ds (Ac cs) = true then d7 ls (ZV W T cs ds (Ac cs)) else []))) [.bot]:= by
 have hok:= C1 (L9 hbk)
 have hW:= Nt hok
 have hc36:= Ab hW.1
 have hdg:B4 cs ds = true:= by simp only [okB,Bool.and_eq_true] at hok; exact hok.2.1
 have hokn:= C1 (Wi hW.1 hdg)
 have hsv:= Jz W T cs ds (Ac cs) hokn
 rw [fP hW.1 hdg] at hsv
 have hzr:AB (Ac cs) = List.replicate ds.length (AV.v (.int .i64 0)):= by rw [hW.2.1]; simp [Ac,AB]
 have tl:= Wj W T cs ds ls ps (ZV W T cs ds (Ac cs)) (bK W T cs ds (Ac cs)) (fun h2 => ⟨(Tq hbk h2).1,(Tq hbk h2).2.1⟩)
 refine AG (md:= md3) (ms:= [false]) PY (by simp) ?_
 simp [Ix,fV]
 (repeat' first | omega | apply And.intro) <;>
 ·refine AA hsv ?_
  simp [hzr]
  exact ⟨by rw [← hzr]; simp,tl⟩
theorem ix {ls ws:List Int} {d:Int × Int × Int} (h:d ∈ d7 ls ws):d.2.1 ≤ ws.length:= by
 simp only [d7,Bb,DZ,List.mem_append,List.mem_flatMap,List.mem_range] at h
 rcases h with ⟨k,hk,h⟩ | ⟨k,hk,h⟩
 ·unfold Lj at h
  split at h
  ·simp at h; subst h; simp; omega
  ·simp at h
 ·unfold Wf at h
  split at h
  ·simp at h; subst h; simp; omega
  ·simp at h
theorem Wk (W T:Int) (cs:List Bool) (ds ls:List Int) (ps:List (List Int)):(qX W T cs ds ls ps).length ≤ 72:= by
 unfold qX
 split
 ·rename_i h
  simp only [Bool.and_eq_true] at h
  have e:= (Tq h.1 h.2).2.1
  have a:= Hu ls (ZV W T cs ds (Xg W T cs)) (ZV W T cs ds (Xg W T cs)).length
  have b:= JH ls (ZV W T cs ds (Xg W T cs)) (ZV W T cs ds (Xg W T cs)).length
  simp only [d7,List.length_append]
  omega
 ·simp
@[simp] theorem s9 (xs:List (Int × Int × Int)):vwL 1 (dsA xs) = dsA xs:= by
  induction xs with
  | nil => rfl
  | cons x xs ih =>
    show vwL 1 (BG x::dsA xs) = BG x::dsA xs
    simp only [vwL,ih,BG,vw]
@[simp] theorem sZ (xs:List (Int × Int × Int)):(dsA xs).take xs.length = dsA xs:= List.take_of_length_le (by simp)
@[simp] abbrev KC:Nat:= 78
abbrev Gm:Plan:= .take (.o 33 (.bin .add 1) [.t 26,.t 32]) <| .take (.m 2 33) <| .done
def KD:ACode:= .seq (.reg [.o 2 .mv [.c (.v (.string ⟨#[]⟩))]]) <| .seq (.seq (.reg [.m 3 0,.o 4 (.bin .lss 0) [.t 3,.k 0],.m 5 4,.mg 6 0 5 true,.mg 7 0 5 true,.g 8 (.un .neg) [.t 7] 5 true,.g 9 (.bin .eql 0) [.t 6,.t 8] 5 true,.o 10 .pick [.t 5,.t 9,.kb false]]) <| .cond (.t 10) ( .seq (.reg [.o 2 .mv [.c (.v (.string ⟨#[45,57,50,50,51,51,55,50,48,51,54,56,53,52,55,55,53,56,48,56]⟩))]]) <| .ret) ( .skip)) <| .seq (.seq (.reg [.m 11 0,.o 12 (.bin .lss 0) [.t 11,.k 0]]) <| .cond (.t 12) ( .seq (.reg [.m 13 0,.o 14 (.un .neg) [.t 13],.o 15 (.call 78 []) [.t 14],.o 16 (.bin .add 1) [.c (.v (.string ⟨#[45]⟩)),.t 15],.m 2 16]) <| .ret) ( .skip)) <| .seq (.seq (.reg [.m 17 0,.o 18 (.bin .lss 0) [.t 17,.k 10]]) <| .cond (.t 18) ( .seq (.reg [.m 19 0,.o 20 (.bin .add 0) [.k 48,.t 19],.o 21 (.conv .u8) [.t 20],.o 22 (.bsl 1) [.t 21],.o 23 .str [.t 22],.m 2 23]) <| .ret) ( .skip)) <| .seq (.draw ( .take (.m 24 0) <| .take (.o 25 (.bin .quo 0) [.t 24,.k 10]) <| .take (.m 27 0) <| .take (.o 28 (.bin .rem 0) [.t 27,.k 10]) <| .take (.o 29 (.bin .add 0) [.k 48,.t 28]) <| .take (.o 30 (.conv .u8) [.t 29]) <| .alt (.o 26 (.call 78 []) [.t 25]) ( .al (.o 31 (.bsl 1) [.t 30]) ( .al (.o 32 .str [.t 31]) Gm)) <| .al (.o 31 (.bsl 1) [.t 30]) ( .alt (.o 26 (.call 78 []) [.t 25]) ( .al (.o 32 .str [.t 31]) Gm) <| .al (.o 32 .str [.t 31]) ( .al (.o 26 (.call 78 []) [.t 25]) Gm)))) <| .ret
theorem O7:cFn Tryz.prog KC 34 [.t 2] KD:= ⟨Tryz.f78,_,Tryz.func78,rfl,by kernel_rfl,by kernel_rfl,by kernel_rfl,by kernel_rfl⟩
@[simp] abbrev UU:Nat:= 116
def Gn:ACode:= .seq (.seq (.reg [.m 9 7,.m 10 0,.o 11 (.len true) [.t 10],.o 12 (.bin .lss 0) [.t 9,.t 11]]) <| .cond (.t 12) ( .skip) ( .exit 0)) <| .seq (.block 1 ( .seq (.reg [.m 15 0,.m 16 7,.o 17 .sidx [.t 15,.t 16],.m 18 1,.o 19 (.bin .eql 0) [.t 17,.t 18]]) <| .cond (.t 19) ( .seq (.reg [.m 20 5,.m 21 0,.m 22 6,.m 23 7,.o 24 (.sslice true true) [.t 21,.t 22,.t 23],.o 25 (.bsl 1) [.t 24],.o 26 (.app 1 16 true) [.t 20,.t 25],.m 5 26]) <| .reg [.m 27 7,.o 28 (.bin .add 0) [.t 27,.k 1],.m 6 28]) ( .skip))) <| .reg [.m 13 7,.o 14 (.bin .add 0) [.t 13,.k 1],.m 7 14]
def UV:ACode:= .seq (.reg [.o 4 .mv [.c (.os 1 [])]]) <| .seq (.reg [.o 8 (.bsl 1) [],.m 5 8]) <| .seq (.reg [.o 6 .mv [.k 0]]) <| .seq (.seq (.reg [.o 7 .mv [.k 0]]) <| .block 0 ( .loop [(5,1)] [0,1,5,6,7] Gn)) <| .seq (.reg [.m 29 5,.m 30 0,.m 31 6,.o 32 (.sslice true false) [.t 30,.t 31],.o 33 (.bsl 1) [.t 32],.o 34 (.app 1 16 true) [.t 29,.t 33],.m 4 34]) <| .ret
theorem bC:cFn Tryz.prog UU 35 [.t 4] UV:= ⟨Tryz.f116,_,Tryz.func116,rfl,by kernel_rfl,by kernel_rfl,by kernel_rfl,by kernel_rfl⟩
@[simp] abbrev O8:Nat:= 117
def B7:ACode:= .seq (.seq (.reg [.m 19 4,.m 20 0,.o 21 (.len true) [.t 20],.o 22 (.bin .lss 0) [.t 19,.t 21]]) <| .cond (.t 22) ( .skip) ( .exit 0)) <| .seq (.block 1 ( .seq (.seq (.reg [.m 25 0,.m 26 4,.o 27 .sidx [.t 25,.t 26],.o 28 (.bin .lss 0) [.t 27,.c (.v (.int .u8 (48)))],.m 29 28,.mg 30 0 29 false,.mg 31 4 29 false,.g 32 .sidx [.t 30,.t 31] 29 false,.g 33 (.bin .gtr 0) [.t 32,.c (.v (.int .u8 (57)))] 29 false,.o 34 .pick [.t 29,.kb true,.t 33]]) <| .cond (.t 34) ( .seq (.reg [.o 2 .mv [.k (-1)]]) <| .ret) ( .skip)) <| .reg [.m 35 3,.o 36 (.bin .mul 0) [.k 10,.t 35],.m 37 0,.m 38 4,.o 39 .sidx [.t 37,.t 38],.o 40 (.bin .sub 0) [.t 39,.c (.v (.int .u8 (48)))],.o 41 (.conv .i64) [.t 40],.o 42 (.bin .add 0) [.t 36,.t 41],.m 3 42])) <| .reg [.m 23 4,.o 24 (.bin .add 0) [.t 23,.k 1],.m 4 24]
def O9:ACode:= .seq (.reg [.o 2 .mv [.k 0]]) <| .seq (.seq (.reg [.m 5 0,.o 6 (.len true) [.t 5],.o 7 (.call 106 []) [.t 6,.k 1,.k 4],.o 8 (.un .not) [.t 7],.m 9 8,.mg 10 0 9 false,.g 11 (.len true) [.t 10] 9 false,.g 12 (.bin .gtr 0) [.t 11,.k 1] 9 false,.mg 13 12 9 false,.mg 14 0 13 true,.g 15 .sidx [.t 14,.k 0] 13 true,.g 16 (.bin .eql 0) [.t 15,.c (.v (.int .u8 (48)))] 13 true,.g 17 .pick [.t 13,.t 16,.kb false] 9 false,.o 18 .pick [.t 9,.kb true,.t 17]]) <| .cond (.t 18) ( .seq (.reg [.o 2 .mv [.k (-1)]]) <| .ret) ( .skip)) <| .seq (.reg [.o 3 .mv [.k 0]]) <| .seq (.seq (.reg [.o 4 .mv [.k 0]]) <| .block 0 ( .loop [] [0,3,4] B7)) <| .seq (.reg [.m 43 3,.m 2 43]) <| .ret
theorem Wl:cFn Tryz.prog O8 44 [.t 2] O9:= ⟨Tryz.f117,_,Tryz.func117,rfl,by kernel_rfl,by kernel_rfl,by kernel_rfl,by kernel_rfl⟩
end Go.Proofs.Dev
