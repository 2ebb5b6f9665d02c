/- Contracts of the functions of the program over slots and rows, each proved against the program itself; no condition beyond those that each theorem names. -/
import Derived.Test.YtfkmfobbgoflgaaGreatDoorAO
import Derived.Test.YtfkmfobbgoflgaaGreatDoorAH
import Derived.Test.YtfkmfobbgoflgaaGreatDoorProg
set_option linter.unusedSimpArgs false
set_option linter.unusedVariables false
set_option maxRecDepth 100000
namespace Go.Proofs.Dev
@[simp] def md1 (f : Nat) : List Bool := if f = 274 then [false, true] else md0 f
def Ev (cs : List Bool) (ls : List Int) (k : Nat) : Bool := atb cs k && decide (ati ls k = 0)
def Eg (cs : List Bool) (ls : List Int) : Int := EC (Ev cs ls) ls.length
def allT (W T : Int) (cs : List Bool) : Nat → List Int → List (List Int)
 | 0, ls => [ls]
 | n + 1, ls => if Eg cs ls < 0 then [ls] else
     (if BU W T cs ls (Eg cs ls) 1 then allT W T cs n (C9 W T ls (Eg cs ls) 1) else []) ++
     (if BU W T cs ls (Eg cs ls) 2 then allT W T cs n (C9 W T ls (Eg cs ls) 2) else [])
theorem Ih (W T : Int) (cs : List Bool) : ∀ (n : Nat) (ls : List Int), (allT W T cs n ls).length ≤ 2 ^ n
 | 0, ls => by simp [allT]
 | n + 1, ls => by
   have h1 := Ih W T cs n (C9 W T ls (Eg cs ls) 1)
   have h2 := Ih W T cs n (C9 W T ls (Eg cs ls) 2)
   have h3 : 0 < 2 ^ n := Nat.pow_pos (by omega)
   rw [allT]
   split
   ·simp only [List.length_singleton]; omega
   ·rw [List.length_append]
    have e1 : (if BU W T cs ls (Eg cs ls) 1 then allT W T cs n (C9 W T ls (Eg cs ls) 1) else []).length ≤ 2 ^ n := by
     split
     ·exact h1
     ·simp
    have e2 : (if BU W T cs ls (Eg cs ls) 2 then allT W T cs n (C9 W T ls (Eg cs ls) 2) else []).length ≤ 2 ^ n := by
     split
     ·exact h2
     ·simp
    omega
theorem FJ (cs : List Bool) (ls : List Int) : Eg cs ls = -1 ∨ ∃ k : Nat, k < ls.length ∧ Eg cs ls = k ∧ atb cs k = true ∧ ati ls k = 0 := by
 rcases Ms (Ev cs ls) ls.length with h | ⟨k, hk, hp, he⟩
 ·left; exact h
 ·right
  simp only [Ev, Bool.and_eq_true, decide_eq_true_eq] at hp
  exact ⟨k, hk, he, hp.1, hp.2⟩
theorem Ii {W T : Int} {ls : List Int} {k : Nat} {way : Int} (hk : k < ls.length) (hz : ati ls k = 0) (h1 : 1 ≤ way) (h4 : way ≤ 4) : CI (C9 W T ls k way) < CI ls := by
 have hb : Cn way ≠ 0 := by
  have := (Hr h1 h4).2
  omega
 refine Nat.lt_of_le_of_lt (SB hb) ?_
 exact Mt (by simpa using hk) (by simpa using hz) (by omega)
theorem OW (W T : Int) (cs : List Bool) (ls : List Int) (hl : ls.length = cs.length) (hb : cs.length < 2 ^ 40) :
  SoundAt Tryz.prog OU [.agg [.v (.int .i64 W), .v (.int .i64 T), .sl 1 1 (AC cs)], .sl 1 1 (AB ls)] (.v (.int .i64 (Eg cs ls))) [.bot, .bot] := by
 refine AE (md := md0) (ms := [false, false]) VX (by simp) ?_
 simp [OV]
 refine AF (fun m E H => ∃ i : Nat, m = ls.length - i ∧ i ≤ ls.length ∧ (∀ j : Nat, j < i → Ev cs ls j = false) ∧ H = [some (.box [.v (.int .i64 W), .v (.int .i64 T), .sl 1 1 (AC cs)])] ∧
  E = [(1, .sl 1 1 (AB ls)), (2, .lp 0 0 0 0), (5, .v (.int .i64 i))]) ls.length ⟨0, by simp⟩ ?_
 rintro J hJ m E H ⟨i, rfl, hi, ha, rfl, rfl⟩
 by_cases h : i < ls.length
 case neg =>
  have : i = ls.length := by omega
  subst this
  have e : Eg cs ls = -1 := Bk ha
  simp [C2, e]
 have next : Ev cs ls i = false → C6 J (ls.length - i) [(1, .sl 1 1 (AB ls)), (2, .lp 0 0 0 0), (5, .v (.int .i64 (i + 1)))]
   [some (.box [.v (.int .i64 W), .v (.int .i64 T), .sl 1 1 (AC cs)])] := by
  intro hx
  refine ⟨_, by omega, hJ _ _ _ ⟨i + 1, rfl, h, ?_, rfl, rfl⟩⟩
  intro j hj
  rcases Nat.lt_or_ge j i with h1 | h1
  ·exact ha j h1
  ·have : j = i := by omega
   subst this; exact hx
 have h2 : i < cs.length := by omega
 cases hc : atb cs i with
 | false =>
   simp [C2, h, h2, hc]
   exact ⟨by omega, next (by simp [Ev, hc])⟩
 | true =>
 by_cases z : ati ls i = 0
 ·have e : Eg cs ls = i := B7 h (by simp [Ev, hc, z]) ha
  simp [C2, h, h2, hc, z, e]
 ·simp [C2, h, h2, hc, z]
  exact ⟨by omega, next (by simp [Ev, z])⟩
theorem M3 {W T : Int} {cs : List Bool} {ls : List Int} (n : Nat) (h : Eg cs ls < 0) : allT W T cs n ls = [ls] := by
 cases n with
 | zero => rfl
 | succ n => simp [allT, h]
def M4 (W T : Int) (cs : List Bool) (n : Nat) (ls : List Int) (cell way : Int) : List (List Int) := if BU W T cs ls cell way then allT W T cs n (C9 W T ls cell way) else []
def Qd (W T : Int) (cs : List Bool) (n : Nat) (ls : List Int) (cell : Int) (i : Nat) : List (List Int) := (List.range i).flatMap fun j : Nat => M4 W T cs n ls cell (j + 1)
theorem Qe (W T : Int) (cs : List Bool) (n : Nat) (ls : List Int) (cell : Int) (i : Nat) : Qd W T cs n ls cell (i + 1) = Qd W T cs n ls cell i ++ M4 W T cs n ls cell (i + 1) := by
 simp [Qd, List.range_succ]
theorem YW (W T : Int) (cs : List Bool) (n : Nat) (ls : List Int) (cell way : Int) : (M4 W T cs n ls cell way).length ≤ 2 ^ n := by
 unfold M4; split
 ·exact Ih ..
 ·simp
theorem PB (W T : Int) (cs : List Bool) (n : Nat) (ls : List Int) (cell : Int) : ∀ i, (Qd W T cs n ls cell i).length ≤ i * 2 ^ n
 | 0 => by simp [Qd]
 | i + 1 => by
   have h1 := PB W T cs n ls cell i
   have h2 := YW W T cs n ls cell (i + 1)
   rw [Qe, List.length_append, Nat.succ_mul]
   omega
theorem M5 {ls : List Int} {k : Nat} (h : k < ls.length) (hz : ati ls k = 0) : 0 < CI ls := by
 have := Mt (v := 1) h hz (by omega)
 omega
theorem YX (W T : Int) (cs : List Bool) (hr : A0 W T cs = true) : ∀ (n : Nat) (ls : List Int), n ≤ 36 → CI ls ≤ n → AO W T cs ls = true →
  SoundAt Tryz.prog SD [.agg [.v (.int .i64 W), .v (.int .i64 T), .sl 1 1 (AC cs)], .os 1 (AB ls)] (.os 1 (oss (allT W T cs n ls))) [.bot, .bot] := by
 intro n
 have h36 := AZ hr
 induction n with
 | zero =>
   intro ls hn hz hy
   have hl : ls.length = cs.length := by simp only [AO, Bool.and_eq_true, decide_eq_true_eq] at hy; exact hy.1
   refine AE (md := md1) (ms := [false, false]) SE (by simp) ?_
   simp [M0]
   refine AA (OW W T cs ls hl (by omega)) ?_
   rcases FJ cs ls with h | ⟨k, hk, he, hc, hzk⟩
   ·simp [h, M3, RZ]
   ·have := M5 hk hzk
    omega
 | succ n ih =>
   intro ls hn hz hy
   have hl : ls.length = cs.length := by simp only [AO, Bool.and_eq_true, decide_eq_true_eq] at hy; exact hy.1
   refine AE (md := md1) (ms := [false, false]) SE (by simp) ?_
   simp [M0]
   refine AA (OW W T cs ls hl (by omega)) ?_
   rcases FJ cs ls with h | ⟨k, hk, he, hc, hzk⟩
   ·simp [h, M3, RZ]
   have hk0 : ¬ (k : Int) < 0 := by omega
   have hall : allT W T cs (n + 1) ls = Qd W T cs n ls k 2 := by
    rw [allT, he, if_neg hk0]
    simp [Qd, M4, List.range_succ]
   rw [hall]
   simp [he, hk0]
   refine AF (fun m E H => ∃ i : Nat, m = 2 - i ∧ i ≤ 2 ∧ H = [some (.arr 1 (AB ls)), some (.box [.v (.int .i64 W), .v (.int .i64 T), .sl 1 1 (AC cs)]), some (.arr 1 (oss (Qd W T cs n ls k i)))] ∧
    E = [(1, .ls 1 0 0 ls.length), (2, .lp 0 1 0 0), (5, .ls 1 2 0 (Qd W T cs n ls k i).length), (6, .v (.int .i64 k)), (7, .v (.int .i64 (i + 1)))]) 2 ⟨0, by simp [Qd]⟩ ?_
   rintro J hJ m E H ⟨i, rfl, hi, rfl, rfl⟩
   by_cases h : i < 2
   case neg =>
    have : i = 2 := by omega
    subst this
    simp [Ie]
   have h' : (i : Int) + 1 ≤ 2 := by omega
   have hsuc := Qe W T cs n ls k i
   have next : ∀ (x : List (List Int)), M4 W T cs n ls k (i + 1) = x → C6 J (2 - i) [(1, .ls 1 0 0 ls.length), (2, .lp 0 1 0 0), (5, .ls 1 2 0 ((Qd W T cs n ls k i).length + x.length)), (6, .v (.int .i64 k)), (7, .v (.int .i64 (i + 1 + 1)))]
     [some (.arr 1 (AB ls)), some (.box [.v (.int .i64 W), .v (.int .i64 T), .sl 1 1 (AC cs)]), some (.arr 1 (oss (Qd W T cs n ls k i) ++ oss x))] := by
    intro x hx
    refine ⟨_, by omega, hJ _ _ _ ⟨i + 1, rfl, h, ?_, ?_⟩⟩
    ·rw [hsuc, hx, Kd]
    ·rw [hsuc, hx, List.length_append]; rfl
   have one := Hg W T cs ls k (i + 1) hr hy
   simp [Ie, h']
   refine AA one ?_
   cases hf : BU W T cs ls k (i + 1) with
   | false =>
     have nx := next [] (by simp [M4, hf])
     simp at nx
     simp
     exact ⟨by omega, nx⟩
   | true =>
     have el : CB W T cs ls k (i + 1) = C9 W T ls k (i + 1) := by simp [CB, hf]
     rw [el]
     have hy2 := N5 hr hy hf
     have hz2 : CI (C9 W T ls k (i + 1)) < CI ls := Ii hk hzk (by omega) (by omega)
     have two := ih (C9 W T ls k (i + 1)) (by omega) (by omega) hy2
     have nx := next (allT W T cs n (C9 W T ls k (i + 1))) (by simp [M4, hf])
     have hll := AL W T ls k (i + 1)
     have htk : (AB (C9 W T ls k (i + 1))).take ls.length = AB (C9 W T ls k (i + 1)) := List.take_of_length_le (by simp [hll])
     have b1 := Ih W T cs n (C9 W T ls k (i + 1))
     have b0 : 2 ^ n ≤ 2 ^ 36 := Nat.pow_le_pow_right (by omega) (by omega)
     have b2 := PB W T cs n ls k i
     have b3 : i * 2 ^ n ≤ 2 * 2 ^ n := Nat.mul_le_mul_right _ (by omega)
     have b4 : (Qd W T cs n ls k i).length + (allT W T cs n (C9 W T ls k (i + 1))).length ≤ 206158430208 := by omega
     simp [hll, htk]
     refine AA two ?_
     simp [hll, htk]
     exact ⟨by omega, by omega, nx⟩
def BO (cs : List Bool) : List Int := List.replicate cs.length 0
theorem XL (cs : List Bool) (k : Int) : ati (BO cs) k = 0 := by
 unfold ati BO
 rw [List.getD_eq_getElem?_getD, List.getElem?_replicate]
 split <;> rfl
theorem Qf (W T : Int) (cs : List Bool) : AO W T cs (BO cs) = true := by
 simp only [AO, Bool.and_eq_true, decide_eq_true_eq, Co]
 refine ⟨by simp [BO], fun k _ => ?_⟩
 simp only [J5, decide_eq_true_eq]
 exact .inl (XL cs k)
theorem XM (W T : Int) (cs : List Bool) : ∀ (n : Nat) (ls p : List Int), p ∈ allT W T cs n ls → p.length = ls.length
 | 0, ls, p, h => by simp [allT] at h; rw [h]
 | n + 1, ls, p, h => by
   rw [allT] at h
   split at h
   ·simp at h; rw [h]
   ·rw [List.mem_append] at h
    rcases h with h | h <;> split at h
    ·rw [XM W T cs n _ p h, AL]
    ·cases h
    ·rw [XM W T cs n _ p h, AL]
    ·cases h
def HT (W T : Int) (cs : List Bool) : List (List Int) := if A0 W T cs then allT W T cs cs.length (BO cs) else []
theorem YY {W T : Int} {cs : List Bool} {p : List Int} (h : p ∈ HT W T cs) : p.length = cs.length := by
 unfold HT at h
 split at h
 ·rw [XM W T cs _ _ p h]; simp [BO]
 ·cases h
theorem SF {W T : Int} {cs : List Bool} : (HT W T cs).length ≤ 68719476736 := by
 unfold HT
 split
 ·rename_i hr
  have h1 := Ih W T cs cs.length (BO cs)
  have h2 : 2 ^ cs.length ≤ 2 ^ 36 := Nat.pow_le_pow_right (by omega) (AZ hr)
  omega
 ·simp
theorem Ij (W T : Int) (cs : List Bool) (hb : cs.length < 2 ^ 40) :
  SoundAt Tryz.prog M1 [.agg [.v (.int .i64 W), .v (.int .i64 T), .sl 1 1 (AC cs)]] (.os 1 (AB (if A0 W T cs then BO cs else []))) [.bot] := by
 refine AE (md := md0) (ms := [false]) US (by simp) ?_
 simp [M2]
 refine AA (BG W T cs hb) ?_
 cases hr : A0 W T cs with
 | false => simp
 | true =>
 simp [BO, aA]
 exact ⟨by omega, List.take_of_length_le (by simp)⟩
theorem Rd (W T : Int) (cs : List Bool) (hb : cs.length < 2 ^ 40) :
  SoundAt Tryz.prog Gd [.agg [.v (.int .i64 W), .v (.int .i64 T), .sl 1 1 (AC cs)]] (.os 1 (oss (HT W T cs))) [.bot] := by
 refine AE (md := md1) (ms := [false]) Rc (by simp) ?_
 simp [Kj]
 refine AA (BG W T cs hb) ?_
 cases hr : A0 W T cs with
 | false => simp [HT, hr]
 | true =>
 have one := Ij W T cs hb
 rw [if_pos hr] at one
 have hn : (BO cs).length = cs.length := by simp [BO]
 have hz : CI (BO cs) ≤ cs.length := by have := Jf (BO cs); omega
 have two := YX W T cs hr cs.length (BO cs) (AZ hr) hz (Qf W T cs)
 have et : HT W T cs = allT W T cs cs.length (BO cs) := by simp [HT, hr]
 have htk : (AB (BO cs)).take cs.length = AB (BO cs) := List.take_of_length_le (by simp [hn])
 rw [et]
 simp
 (repeat' first | assumption | omega | apply And.intro) <;>
 ·refine AA one ?_
  simp [hn, htk]
  (repeat' first | assumption | omega | apply And.intro) <;>
  ·refine AA two ?_
   simp [hn, htk]
def DG (W T : Int) (cs : List Bool) (ds : List Int) : List (List Int) := if (A0 W T cs && Cg cs ds) = true then (HT W T cs).filter (Cx W T cs ds) else []
theorem ZW {ps : List (List Int)} {i : Nat} (f : List Int → Bool) (h : i < ps.length) : (ps.take (i + 1)).filter f = (ps.take i).filter f ++ if f (pti ps i) then [pti ps i] else [] := by
 rw [List.take_succ_eq_append_getElem h, List.filter_append, ED h]
 congr 1
 cases hf : f ps[i] <;> simp [hf]
theorem mH {W T : Int} {cs : List Bool} : ∀ (C : Ctx) (S : List Nat) (us : List Value), RL C [.agg [.v (.int .i64 W), .v (.int .i64 T), .sl 1 1 (AC cs)]] S us → S = [] := by
 intro C S us h
 rw [RL] at h
 obtain ⟨S1, S2, u, us', rfl, rfl, h1, h2⟩ := h
 rw [RL] at h2
 rw [R] at h1
 obtain ⟨vs, _, h1⟩ := h1
 rw [RL] at h1
 obtain ⟨A1, A2, _, _, rfl, _, a1, h1⟩ := h1
 rw [RL] at h1
 obtain ⟨A3, A4, _, _, rfl, _, a3, h1⟩ := h1
 rw [RL] at h1
 obtain ⟨A5, A6, _, _, rfl, _, a5, h1⟩ := h1
 rw [RL] at h1
 rw [R] at a1
 rw [R] at a3
 rw [R] at a5
 rw [a1.1, a3.1, a5.1, h1.1, h2.1]
 rfl
theorem Qg (W T : Int) (cs : List Bool) (hb : cs.length < 2 ^ 40) :
  SoundAt Tryz.prog Gd [.agg [.v (.int .i64 W), .v (.int .i64 T), .sl 1 1 (AC cs)]] (.sl 0 1 (sls 0 (HT W T cs))) [.bot] := by
 have h := SoundAt.frozen (n := 1) mH (Rd W T cs hb)
 simpa [vw] using h
theorem PC (W T : Int) (cs : List Bool) (ds : List Int) (hb : cs.length < 2 ^ 40) (hd : ds.length < 2 ^ 40) :
  SoundAt Tryz.prog E9 [.agg [.v (.int .i64 W), .v (.int .i64 T), .sl 1 1 (AC cs)], .sl 1 1 (AB ds)] (.os 1 (sls 0 (DG W T cs ds))) [.bot, .bot] := by
 refine AE (md := md1) (ms := [false, false]) PA (by simp) ?_
 simp [Ig]
 refine AA (Qg W T cs hb) ?_
 simp
 have hpv := CP W T cs ds hb hd
 have hmem : ∀ p ∈ HT W T cs, p.length = cs.length := fun p hp => YY hp
 have htl := SF (W := W) (T := T) (cs := cs)
 have esol : DG W T cs ds = if (A0 W T cs && Cg cs ds) = true then (HT W T cs).filter (Cx W T cs ds) else [] := rfl
 generalize HT W T cs = ts at *
 refine AF (fun m E H => ∃ i : Nat, m = ts.length - i ∧ i ≤ ts.length ∧ (i = 0 ∨ (A0 W T cs && Cg cs ds) = true) ∧ H = [some (.box [.v (.int .i64 W), .v (.int .i64 T), .sl 1 1 (AC cs)]), some (.arr 1 (sls 0 ((ts.take i).filter (Cx W T cs ds))))] ∧
  E = [(1, .sl 1 1 (AB ds)), (2, .lp 0 0 0 0), (5, .ls 1 1 0 ((ts.take i).filter (Cx W T cs ds)).length), (6, .sl 0 1 (sls 0 ts)), (7, .v (.int .i64 i))]) ts.length ⟨0, by simp⟩ ?_
 rintro J hJ m E H ⟨i, rfl, hi, hp0, rfl, rfl⟩
 by_cases h : i < ts.length
 case neg =>
  have : i = ts.length := by omega
  subst this
  have e2 : (ts.take ts.length).filter (Cx W T cs ds) = DG W T cs ds := by
   rw [List.take_length, esol]
   rcases hp0 with h0 | h0
   ·have : ts = [] := List.eq_nil_of_length_eq_zero h0
    subst this
    simp
   ·rw [if_pos h0]
  rw [e2]
  simp [De]
  exact List.take_of_length_le (by simp)
 simp [De, h]
 refine AA hpv ?_
 cases hp : (A0 W T cs && Cg cs ds) with
 | false =>
   have : i = 0 := by rcases hp0 with h0 | h0; exact h0; rw [hp] at h0; cases h0
   subst this
   have e2 : DG W T cs ds = [] := by rw [esol, if_neg (by simp [hp])]
   simp [e2]
 | true =>
 have hr : A0 W T cs = true := by simp only [Bool.and_eq_true] at hp; exact hp.1
 have h36 := AZ hr
 have hpl := hmem _ (LG h)
 have one := Mm W T cs ds (pti ts i) hb hd (by omega)
 have hsuc := ZW (Cx W T cs ds) h
 have hlen : ((ts.take i).filter (Cx W T cs ds)).length ≤ i := by
  refine Nat.le_trans (List.length_filter_le _ _) ?_
  rw [List.length_take]; omega
 simp [h]
 (repeat' first | assumption | omega | apply And.intro) <;>
 ·refine AA one ?_
  cases hs : Cx W T cs ds (pti ts i) with
  | false =>
    rw [if_neg (by simp [hs]), List.append_nil] at hsuc
    simp [h]
    exact ⟨by omega, _, by omega, hJ _ _ _ ⟨i + 1, rfl, h, .inr hp, by rw [hsuc], by rw [hsuc]; rfl⟩⟩
  | true =>
    rw [if_pos hs] at hsuc
    simp [h]
    exact ⟨by omega, by omega, _, by omega, hJ _ _ _ ⟨i + 1, rfl, h, .inr hp, by rw [hsuc]; simp [sls], by rw [hsuc]; simp⟩⟩
theorem WF {p : Nat → Bool} {n : Nat} (h : EC p n < 0) : ∀ j, j < n → p j = false := by
 intro j hj
 cases hx : p j with
 | false => rfl
 | true =>
   exfalso
   have hm : ∃ x ∈ List.range n, p x = true := ⟨j, by simpa using hj, hx⟩
   have hs := List.find?_isSome.2 hm
   unfold EC at h
   split at h
   ·omega
   ·rename_i h9; rw [h9] at hs; cases hs
theorem SG {cs : List Bool} {ls : List Int} (hl : ls.length = cs.length) (h : Eg cs ls < 0) : J7 cs ls = true := by
 rw [J7, Co]
 intro k hk
 have h1 := WF h k (by omega)
 simp only [Ev] at h1
 simp only [IG, h1]
 rfl
theorem dJ {W T : Int} {cs : List Bool} (hr : A0 W T cs = true) : ∀ (n : Nat) (ls : List Int), CI ls ≤ n → AO W T cs ls = true → ∀ p ∈ allT W T cs n ls, AO W T cs p = true ∧ J7 cs p = true := by
 intro n
 induction n with
 | zero =>
   intro ls hz hy p hp
   have hl : ls.length = cs.length := by simp only [AO, Bool.and_eq_true, decide_eq_true_eq] at hy; exact hy.1
   simp only [allT, List.mem_singleton] at hp
   subst hp
   refine ⟨hy, SG hl ?_⟩
   rcases FJ cs p with h | ⟨k, hk, he, hc, hzk⟩
   ·omega
   ·have := M5 hk hzk
    omega
 | succ n ih =>
   intro ls hz hy p hp
   have hl : ls.length = cs.length := by simp only [AO, Bool.and_eq_true, decide_eq_true_eq] at hy; exact hy.1
   rw [allT] at hp
   split at hp
   ·rename_i hb
    simp only [List.mem_singleton] at hp
    subst hp
    exact ⟨hy, SG hl hb⟩
   ·rename_i hb
    rcases FJ cs ls with h | ⟨k, hk, he, hc, hzk⟩
    ·omega
    rw [he] at hp
    have step : ∀ way : Int, 1 ≤ way → way ≤ 4 → BU W T cs ls k way = true → p ∈ allT W T cs n (C9 W T ls k way) → AO W T cs p = true ∧ J7 cs p = true := by
     intro way w1 w4 hf hm
     have hz2 : CI (C9 W T ls k way) < CI ls := Ii hk hzk w1 w4
     exact ih (C9 W T ls k way) (by omega) (N5 hr hy hf) p hm
    rw [List.mem_append] at hp
    rcases hp with hp | hp
    ·split at hp
     ·rename_i hf; exact step 1 (by omega) (by omega) hf hp
     ·cases hp
    ·split at hp
     ·rename_i hf; exact step 2 (by omega) (by omega) hf hp
     ·cases hp
theorem dK {W T : Int} {cs : List Bool} {ds : List Int} (h : (A0 W T cs && Cg cs ds) = true) : DG W T cs ds = (HT W T cs).filter (fun t => KP (B3 W T ds t)) := by
 have hr : A0 W T cs = true := by simp only [Bool.and_eq_true] at h; exact h.1
 have hd : Cg cs ds = true := by simp only [Bool.and_eq_true] at h; exact h.2
 have hn : (BO cs).length = cs.length := by simp [BO]
 have hz : CI (BO cs) ≤ cs.length := by have := Jf (BO cs); omega
 rw [DG, if_pos h]
 apply List.filter_congr
 intro t ht
 rw [HT, if_pos hr] at ht
 obtain ⟨h1, h2⟩ := dJ hr cs.length (BO cs) hz (Qf W T cs) t ht
 simp only [Cx, Af, okB, hr, hd, h1, h2, Bool.true_and, Bool.and_true]
def KD (ls p : List Int) : Bool := U6 ls.length fun k => decide (ati ls k = 0) || decide (ati p k = ati ls k)
theorem hasB_iff {ls p : List Int} : KD ls p = true ↔ ∀ k : Nat, k < ls.length → ati ls k = 0 ∨ ati p k = ati ls k := by
 simp only [KD, Co, Bool.or_eq_true, decide_eq_true_eq]
theorem Kk (ls : List Int) : KD ls ls = true := hasB_iff.2 fun _ _ => .inr rfl
theorem bP {p : Nat → Bool} {n k : Nat} (h : EC p n = k) : ∀ j, j < k → p j = false := by
 intro j hj
 unfold EC at h
 split at h
 ·rename_i k' hk
  rw [List.find?_range_eq_some] at hk
  have : k' = k := by omega
  subst this
  have := hk.2.2 j hj
  simpa using this
 ·omega
theorem je {W T : Int} {ls : List Int} {cell way : Int} (hc : cell.toNat < ls.length) (hto : (AJ W T cell way).toNat < ls.length) (j : Nat) :
  ati (C9 W T ls cell way) j = if j = (AJ W T cell way).toNat then Cn way else if j = cell.toNat then way else ati ls j := by
 unfold C9
 rw [MR (by simpa using hto), MR hc]
theorem FK {W T : Int} {cs : List Bool} {ls : List Int} {k : Nat} {way : Int} (hr : A0 W T cs = true) (hl : ls.length = cs.length) (hf : BU W T cs ls k way = true) :
  ∃ t : Nat, AJ W T k way = t ∧ t < ls.length ∧ k < ls.length ∧ t ≠ k ∧ 1 ≤ way ∧ way ≤ 4 ∧ AJ W T t (Cn way) = k ∧ atb cs t = true ∧ ati ls k = 0 ∧ ati ls t = 0 ∧
    ∀ j : Nat, ati (C9 W T ls k way) j = if j = t then Cn way else if j = k then way else ati ls j := by
 obtain ⟨w1, w2, t1, t2, l1, _⟩ := CM hr
 simp only [BU, decide_eq_true_eq] at hf
 obtain ⟨f0, f1, f2, f3, f4, f5, f6⟩ := hf
 obtain ⟨b1, b2, b3, b4, b5⟩ := DU (T := T) w1 f0 (by omega) f2
 have e : AJ W T k way = ((AJ W T k way).toNat : Nat) := by omega
 refine ⟨(AJ W T k way).toNat, e, by omega, by omega, by omega, b2, b3, by rw [← e]; exact b1, by rw [← e]; exact f4, f5, by rw [← e]; exact f6, ?_⟩
 intro j
 rw [je (by omega) (by omega)]
 simp
theorem XN {W T : Int} {cs : List Bool} (hr : A0 W T cs = true) : ∀ (n : Nat) (ls : List Int), ls.length = cs.length → ∀ p ∈ allT W T cs n ls, KD ls p = true := by
 intro n
 induction n with
 | zero =>
   intro ls hl p hp
   simp only [allT, List.mem_singleton] at hp
   subst hp; exact Kk p
 | succ n ih =>
   intro ls hl p hp
   rw [allT] at hp
   split at hp
   ·simp only [List.mem_singleton] at hp
    subst hp; exact Kk p
   rcases FJ cs ls with h | ⟨k, hk, he, hc, hzk⟩
   ·omega
   rw [he] at hp
   have step : ∀ way : Int, BU W T cs ls k way = true → p ∈ allT W T cs n (C9 W T ls k way) → KD ls p = true := by
    intro way hf hm
    obtain ⟨t, e, t1, t2, t3, _, _, _, _, z1, z2, hat⟩ := FK hr hl hf
    have h1 := hasB_iff.1 (ih _ (by rw [AL]; exact hl) p hm)
    rw [hasB_iff]
    intro j hj
    have h2 := h1 j (by rw [AL]; exact hj)
    rw [hat j] at h2
    by_cases e1 : j = t
    ·subst e1; exact .inl z2
    by_cases e2 : j = k
    ·subst e2; exact .inl z1
    rw [if_neg e1, if_neg e2] at h2
    exact h2
   rw [List.mem_append] at hp
   rcases hp with hp | hp
   ·split at hp
    ·rename_i hf; exact step 1 hf hp
    ·cases hp
   ·split at hp
    ·rename_i hf; exact step 2 hf hp
    ·cases hp
theorem jf {a b : List Int} (hl : a.length = b.length) (h : ∀ k : Nat, k < a.length → ati a k = ati b k) : a = b := by
 apply List.ext_getElem hl
 intro i h1 h2
 have := h i h1
 simpa [ati, h1, h2] using this
theorem Ik {W T : Int} {cs : List Bool} {ls : List Int} (hy : AO W T cs ls = true) {k : Nat} (hk : k < ls.length) (hv : ati ls k ≠ 0) :
  1 ≤ ati ls k ∧ ati ls k ≤ 4 ∧ atb cs k = true ∧ 0 ≤ AJ W T k (ati ls k) ∧ atb cs (AJ W T k (ati ls k)) = true ∧ ati ls (AJ W T k (ati ls k)) = Cn (ati ls k) := by
 simp only [AO, Bool.and_eq_true, decide_eq_true_eq, Co] at hy
 have := hy.2 k hk
 simp only [J5, decide_eq_true_eq] at this
 rcases this with h | h
 ·exact absurd h hv
 ·exact h
theorem Ap {W T : Int} {cs : List Bool} {ls : List Int} (hy : AO W T cs ls = true) : ls.length = cs.length := by
 simp only [AO, Bool.and_eq_true, decide_eq_true_eq] at hy; exact hy.1
theorem UT {W T : Int} {cs : List Bool} {ls : List Int} (hr : A0 W T cs = true) (hy : AO W T cs ls = true) {k t : Nat} {way : Int} (hk : k < ls.length) (ht : AJ W T k way = t) (hv : ati ls t = Cn way) : ati ls k = way := by
 obtain ⟨w1, w2, t1, t2, l1, _⟩ := CM hr
 have hl := Ap hy
 obtain ⟨b1, b2, b3, b4, b5⟩ := DU (W := W) (T := T) (k := k) (way := way) w1 (by omega) (by omega) (by omega)
 obtain ⟨c1, c2, c3⟩ := Hr b2 b3
 obtain ⟨_, _, _, _, _, g⟩ := Ik hy (k := t) (by omega) (by omega)
 rw [hv, ← ht, b1, c1] at g
 exact g
theorem dL {W T : Int} {cs : List Bool} {b ls : List Int} {k : Nat} {way : Int} (hr : A0 W T cs = true) (hb : b.length = cs.length) (hf : BU W T cs b k way = true) (hs : KD b ls = true) (h1 : ati ls k = way) (h2 : ati ls (AJ W T k way) = Cn way) :
  KD (C9 W T b k way) ls = true := by
 obtain ⟨t, e, t1, t2, t3, _, _, _, _, z1, z2, hat⟩ := FK hr hb hf
 rw [e] at h2
 rw [hasB_iff] at hs ⊢
 intro j hj
 rw [AL] at hj
 rw [hat j]
 by_cases e1 : j = t
 ·subst e1; rw [if_pos rfl]; exact .inr h2
 rw [if_neg e1]
 by_cases e2 : j = k
 ·subst e2; rw [if_pos rfl]; exact .inr h1
 rw [if_neg e2]
 exact hs j hj
theorem dM {W T : Int} {cs : List Bool} {b ls : List Int} (hyb : AO W T cs b = true) (hyl : AO W T cs ls = true) (hs : KD b ls = true) (h : Eg cs b < 0) : ls = b := by
 have hbl := Ap hyb
 have hll := Ap hyl
 refine jf (by omega) fun k hk => ?_
 rcases hasB_iff.1 hs k (by omega) with h1 | h1
 ·have h2 := WF h k (by omega)
  by_cases hv : ati ls k = 0
  ·omega
  ·obtain ⟨_, _, g, _⟩ := Ik hyl hk hv
   simp [Ev, h1, g] at h2
 ·exact h1
theorem UU {W T : Int} {cs : List Bool} {b ls : List Int} (m n : Nat) (hyb : AO W T cs b = true) (hyl : AO W T cs ls = true) (hs : KD b ls = true) (h : Eg cs b < 0) :
  (allT W T cs m b).filter (KD ls) = allT W T cs n ls := by
 have e := dM hyb hyl hs h
 subst e
 rw [M3 _ h, M3 _ h]
 simp [Kk]
theorem ZX {W T : Int} {cs : List Bool} (hr : A0 W T cs = true) : ∀ (m : Nat) (b ls : List Int) (n : Nat), CI b ≤ m → CI ls ≤ n → AO W T cs b = true → AO W T cs ls = true → KD b ls = true →
  (allT W T cs m b).filter (KD ls) = allT W T cs n ls := by
 obtain ⟨w1, w2, t1, t2, l1, _⟩ := CM hr
 intro m
 induction m with
 | zero =>
   intro b ls n hzb hzl hyb hyl hs
   rcases FJ cs b with h | ⟨k, hk, he, hc, hzk⟩
   ·exact UU 0 n hyb hyl hs (by omega)
   ·have := M5 hk hzk
    omega
 | succ m ih =>
   intro b ls n hzb hzl hyb hyl hs
   rcases FJ cs b with h | ⟨k, hk, he, hc, hzk⟩
   ·exact UU (m + 1) n hyb hyl hs (by omega)
   have hbl := Ap hyb
   have hll := Ap hyl
   have hk0 : ¬ (k : Int) < 0 := by omega
   have hmin : ∀ j, j < k → Ev cs b j = false := bP he
   rw [allT, he, if_neg hk0, List.filter_append]
   by_cases hv : ati ls k = 0
   ·have hbk : Eg cs ls = k := by
     refine B7 (by omega) (by simp [Ev, hc, hv]) (fun j hj => ?_)
     have h1 := hmin j hj
     rcases hasB_iff.1 hs j (by omega) with h2 | h2
     ·simp [Ev, h2] at h1
      simp [Ev, h1]
     ·simp only [Ev] at h1 ⊢
      rw [h2]; exact h1
    have hzp := M5 (ls := ls) (k := k) (by omega) hv
    obtain ⟨n', rfl⟩ : ∃ n', n = n' + 1 := ⟨n - 1, by omega⟩
    have stepA : ∀ way : Int, 1 ≤ way → way ≤ 4 → (if BU W T cs b k way then allT W T cs m (C9 W T b k way) else []).filter (KD ls) = (if BU W T cs ls k way then allT W T cs n' (C9 W T ls k way) else []) := by
     intro way v1 v4
     by_cases hf : BU W T cs ls k way = true
     ·obtain ⟨t, e, a1, a2, a3, _, _, a6, a7, z1, z2, hat⟩ := FK hr hll hf
      have hfb : BU W T cs b k way = true := by
       simp only [BU, decide_eq_true_eq] at hf ⊢
       obtain ⟨f0, f1, f2, f3, f4, f5, f6⟩ := hf
       refine ⟨f0, by omega, f2, f3, f4, hzk, ?_⟩
       rw [e]
       rcases hasB_iff.1 hs t (by omega) with h2 | h2
       ·exact h2
       ·rw [← h2]; exact z2
      rw [if_pos hf, if_pos hfb]
      have hzb' : CI (C9 W T b k way) < CI b := Ii hk hzk v1 v4
      have hzl' : CI (C9 W T ls k way) < CI ls := Ii (by omega) hv v1 v4
      obtain ⟨t', e', _, _, _, _, _, _, _, y1, y2, hatb⟩ := FK hr hbl hfb
      have et : t' = t := by omega
      subst et
      have hs' : KD (C9 W T b k way) (C9 W T ls k way) = true := by
       rw [hasB_iff]
       intro j hj
       rw [AL] at hj
       rw [hatb j, hat j]
       by_cases e1 : j = t'
       ·rw [if_pos e1, if_pos e1]; exact .inr rfl
       by_cases e2 : j = k
       ·rw [if_neg e1, if_neg e1, if_pos e2, if_pos e2]; exact .inr rfl
       rw [if_neg e1, if_neg e1, if_neg e2, if_neg e2]
       exact hasB_iff.1 hs j hj
      rw [← ih _ _ n' (by omega) (by omega) (N5 hr hyb hfb) (N5 hr hyl hf) hs']
      apply List.filter_congr
      intro p hp
      have hp1 := hasB_iff.1 (XN hr m _ (by rw [AL]; exact hbl) p hp)
      rw [Bool.eq_iff_iff, hasB_iff, hasB_iff]
      constructor
      ·intro h j hj
       rw [AL] at hj
       rw [hat j]
       by_cases e1 : j = t'
       ·have h5 := hp1 j (by rw [AL]; omega)
        rw [hatb j, if_pos e1] at h5
        rw [if_pos e1]; exact h5
       by_cases e2 : j = k
       ·have h5 := hp1 j (by rw [AL]; omega)
        rw [hatb j, if_neg e1, if_pos e2] at h5
        rw [if_neg e1, if_pos e2]; exact h5
       rw [if_neg e1, if_neg e2]
       exact h j hj
      ·intro h j hj
       have h3 := h j (by rw [AL]; exact hj)
       rw [hat j] at h3
       by_cases e1 : j = t'
       ·subst e1; exact .inl z2
       by_cases e2 : j = k
       ·subst e2; exact .inl z1
       rw [if_neg e1, if_neg e2] at h3
       exact h3
     ·rw [if_neg hf]
      by_cases hfb : BU W T cs b k way = true
      ·rw [if_pos hfb, List.filter_eq_nil_iff]
       intro p hp hh
       obtain ⟨t, e, a1, a2, a3, _, _, a6, a7, y1, y2, hatb⟩ := FK hr hbl hfb
       have hp1 := hasB_iff.1 (XN hr m _ (by rw [AL]; exact hbl) p hp) t (by rw [AL]; exact a1)
       rw [hatb t, if_pos rfl] at hp1
       have hb4 := (Hr v1 v4).2
       have hpt : ati p t = Cn way := by omega
       have hlt : ati ls t ≠ 0 := by
        intro h0
        apply hf
        simp only [BU, decide_eq_true_eq] at hfb ⊢
        obtain ⟨f0, f1, f2, f3, f4, _, _⟩ := hfb
        refine ⟨f0, f1, f2, f3, f4, hv, ?_⟩
        rw [e]; exact h0
       have hl2 := hasB_iff.1 hh t (by omega)
       have hl3 : ati ls t = Cn way := by omega
       have := UT hr hyl (k := k) (t := t) (way := way) (by omega) e hl3
       omega
      ·rw [if_neg hfb]; rfl
    rw [stepA 1 (by omega) (by omega), stepA 2 (by omega) (by omega), allT.eq_2, hbk, if_neg hk0]
   ·obtain ⟨v1, v4, g3, g4, g5, g6⟩ := Ik hyl (k := k) (by omega) hv
    obtain ⟨v, hvv⟩ : ∃ v, ati ls k = v := ⟨_, rfl⟩
    rw [hvv] at v1 v4 g4 g5 g6 hv
    obtain ⟨_, _, _, _, b5⟩ := DU (W := W) (T := T) (k := k) (way := v) w1 (by omega) (by omega) g4
    obtain ⟨t, ht⟩ : ∃ t : Nat, AJ W T k v = t := ⟨(AJ W T k v).toNat, by omega⟩
    have hbt : ati b t = 0 := by
     rcases hasB_iff.1 hs t (by omega) with h | h
     ·exact h
     ·exfalso
      rw [ht] at g6
      have := UT hr hyb (k := k) (t := t) (way := v) hk ht (by rw [← h]; exact g6)
      omega
    have h12 : v = 1 ∨ v = 2 := by
     by_cases h3 : v ≤ 2
     ·omega
     exfalso
     have hlt : t < k := by
      unfold AJ at ht
      have h4 : v = 3 ∨ v = 4 := by omega
      rcases h4 with rfl | rfl
      ·simp at ht
       split at ht <;> omega
      ·simp at ht
       split at ht <;> omega
     have h1 := hmin t hlt
     rw [ht] at g5
     simp [Ev, g5] at h1
     exact h1 hbt
    have hfb : BU W T cs b k v = true := by
     simp only [BU, decide_eq_true_eq]
     exact ⟨by omega, by omega, g4, hc, g5, hzk, by rw [ht]; exact hbt⟩
    have hzb' : CI (C9 W T b k v) < CI b := Ii hk hzk v1 v4
    have hA := ih (C9 W T b k v) ls n (by omega) hzl (N5 hr hyb hfb) hyl (dL hr hbl hfb hs hvv g6)
    have other : ∀ w : Int, w ≠ v → (if BU W T cs b k w then allT W T cs m (C9 W T b k w) else []).filter (KD ls) = [] := by
     intro w hw
     split
     ·rename_i hfw
      rw [List.filter_eq_nil_iff]
      intro p hp hh
      obtain ⟨t', e, a1, a2, a3, a4, a5, _, _, _, _, hatb⟩ := FK hr hbl hfw
      have hp1 := hasB_iff.1 (XN hr m _ (by rw [AL]; exact hbl) p hp) k (by rw [AL]; exact hk)
      rw [hatb k, if_neg (fun e => a3 e.symm), if_pos rfl] at hp1
      have h7 := hasB_iff.1 hh k (by omega)
      rw [hvv] at h7
      omega
     ·rfl
    rcases h12 with rfl | rfl
    ·rw [other 2 (by omega), if_pos hfb, hA, List.append_nil]
    ·rw [other 1 (by omega), if_pos hfb, hA, List.nil_append]
theorem fk {W T : Int} {cs : List Bool} {ds ls : List Int} (hok : okB W T cs ds ls = true) : (allT W T cs cs.length ls).filter (fun t => KP (B3 W T ds t)) = (DG W T cs ds).filter (KD ls) := by
 have hok' := hok
 simp only [okB, Bool.and_eq_true] at hok'
 obtain ⟨hr, hd, hy⟩ := hok'
 have hl := Ap hy
 have hz : CI ls ≤ cs.length := by have := Jf ls; omega
 have hn : (BO cs).length = cs.length := by simp [BO]
 have hzn : CI (BO cs) ≤ cs.length := by have := Jf (BO cs); omega
 rw [dK (by simp only [hr, hd, Bool.and_self]), HT, if_pos hr, List.filter_filter]
 rw [← ZX hr cs.length (BO cs) ls cs.length hzn hz (Qf W T cs) hy (hasB_iff.2 fun k _ => .inl (XL cs k)), List.filter_filter]
 congr 1
 funext t
 exact Bool.and_comm _ _
def clr (G : Nat → Bool) (j : Nat) : Nat → Bool := fun i => G i && !(decide (i = j))
def kX (W T : Int) : Nat → Nat → (Nat → Bool) → Nat
 | 0, _, _ => 1
 | f + 1, c, G => if G c = true then (if 0 ≤ AJ W T c 1 ∧ G (c + 1) = true then kX W T f (c + 1) (clr G (c + 1)) else 0) + (if 0 ≤ AJ W T c 2 ∧ G (c + W.toNat) = true then kX W T f (c + 1) (clr G (c + W.toNat)) else 0)
   else kX W T f (c + 1) G
def n5 (F : Nat → Bool) (c s : Nat) : Nat → Bool := fun i => F i && !(s.testBit (i - c))
def kY (g : Nat → Nat) (P : List (Nat × Nat)) : Nat := (P.map fun p => p.2 * g p.1).sum
structure OkP (W T : Int) (F : Nat → Bool) (n c tot : Nat) (P : List (Nat × Nat)) : Prop where
 lt : ∀ p ∈ P, p.1 < 2 ^ W.toNat ∧ p.1 < 2 ^ (n - c)
 tot : kY (fun s => kX W T (n - c) c (n5 F c s)) P = tot
 sum : kY (fun _ => 1) P ≤ 2 ^ c
 len : P.length ≤ 2 ^ c
structure MidP (W T : Int) (F : Nat → Bool) (n c : Nat) (P : List (Nat × Nat)) (k : Nat) (Q : List (Nat × Nat)) : Prop where
 lt : ∀ p ∈ Q, p.1 < 2 ^ W.toNat ∧ p.1 < 2 ^ (n - (c + 1))
 tot : kY (fun s => kX W T (n - (c + 1)) (c + 1) (n5 F (c + 1) s)) Q = kY (fun s => kX W T (n - c) c (n5 F c s)) (P.take k)
 sum : kY (fun _ => 1) Q ≤ 2 * kY (fun _ => 1) (P.take k)
 len : Q.length ≤ 2 * k
@[simp] abbrev Ew : Nat := 208
def Ex : ACode := .seq (.reg [.o 5 .mv [.kb false]]) <| .seq (.seq (.reg [.la 6 3 1, .l 7 2, .m 8 0, .o 9 (.call 137 []) [.t 6, .t 7, .t 8]]) <| .cond (.t 9) ( .reg [.l 10 3, .m 11 0, .o 12 (.bsl 1) [.t 11], .o 13 (.app 1 24 false) [.t 10, .t 12], .s (.store 1) [.t 3, .t 13]]) ( .skip)) <| .seq (.reg [.o 5 .mv [.kb true]]) <| .ret
theorem KE : cFn Tryz.prog Ew 14 [.t 5] Ex := ⟨Tryz.f208, _, Tryz.func208, rfl, by kernel_rfl, by kernel_rfl, by kernel_rfl, by kernel_rfl⟩
@[simp] abbrev Ds : Nat := 207
def Bf : ACode := .seq (.seq (.reg [.m 10 7, .m 11 1, .n 12 11, .o 13 (.bin .lss 0) [.t 10, .t 12], .m 14 13, .fg 15 2 3 14 true, .lg 16 15 14 true, .mg 17 7 14 true, .g 18 (.iadr 1) [.t 16, .t 17] 14 true, .lg 19 18 14 true, .g 20 (.un .not) [.t 19] 14 true, .mg 21 20 14 true, .mg 22 1 21 false, .mg 23 7 21 false, .g 24 (.iadr 1) [.t 22, .t 23] 21 false, .lg 25 24 21 false, .g 26 (.bin .neq 0) [.t 25, .k 0] 21 false, .g 27 .pick [.t 21, .kb true, .t 26] 14 true, .o 28 .pick [.t 14, .t 27, .kb false]]) <| .cond (.t 28) ( .skip) ( .exit 0)) <| .block 1 ( .reg [.m 29 7, .o 30 (.bin .add 0) [.t 29, .k 1], .m 7 30])
abbrev FL : Plan := .al (.g 57 (.call 207 []) [.t 50, .t 55, .t 56] 49 true) ( .take (.g 58 (.un .not) [.t 57] 49 true) <| .take (.o 59 .pick [.t 49, .t 58, .kb false]) <| .done)
abbrev FM : Plan := .al (.g 55 (.call 235 []) [.t 51, .t 52, .t 53, .t 54] 49 true) FL
def Ca : ACode := .seq (.reg [.o 41 (.bin .lss 0) [.t 40, .t 39]]) <| .seq (.cond (.t 41) ( .skip) ( .exit 2)) <| .seq (.block 3 ( .seq (.reg [.o 42 (.iadr 1) [.t 38, .t 40], .l 43 42, .m 9 43]) <| .seq (.draw ( .take (.m 45 1) <| .take (.m 46 7) <| .take (.m 47 9) <| .al (.la 44 3 3) ( .al (.o 48 (.call 234 []) [.t 44, .t 45, .t 46, .t 47]) ( .take (.m 49 48) <| .take (.mg 52 1 49 true) <| .take (.mg 53 7 49 true) <| .take (.mg 54 9 49 true) <| .take (.mg 56 2 49 true) <| .alt (.g 50 (.load true 3) [.t 3] 49 true) ( .al (.g 51 (.load true 3) [.t 3] 49 true) FM) <| .al (.g 51 (.load true 3) [.t 3] 49 true) ( .alt (.g 50 (.load true 3) [.t 3] 49 true) FM <| .al (.g 55 (.call 235 []) [.t 51, .t 52, .t 53, .t 54] 49 true) ( .al (.g 50 (.load true 3) [.t 3] 49 true) FL)))))) <| .cond (.t 59) ( .seq (.reg [.o 6 .mv [.kb false]]) <| .ret) ( .skip))) <| .reg [.o 60 (.bin .add 0) [.t 40, .k 1], .m 40 60]
def Jn : ACode := .seq (.reg [.o 3 .box [.t 0], .o 6 .mv [.kb false]]) <| .seq (.reg [.o 7 .mv [.k 0]]) <| .seq (.block 0 ( .loop [(1, 1)] [1, 2, 3, 7, 63] Bf)) <| .seq (.seq (.reg [.m 31 7, .m 32 1, .n 33 32, .o 34 (.bin .eql 0) [.t 31, .t 33]]) <| .cond (.t 34) ( .seq (.reg [.m 35 2, .m 36 1, .o 37 (.callv []) [.t 35, .t 36], .m 6 37]) <| .ret) ( .skip)) <| .seq (.seq (.reg [.o 38 (.bsl 1) [.k 1, .k 2], .n 39 38, .o 40 .mv [.k 0]]) <| .block 2 ( .loop [(1, 1), (38, 1)] [1, 2, 3, 7, 38, 39, 40, 63] Ca)) <| .seq (.reg [.o 6 .mv [.kb true]]) <| .ret
theorem Qh : cFn Tryz.prog Ds 61 [.t 6] Jn := ⟨Tryz.f207, _, Tryz.func207, rfl, by kernel_rfl, by kernel_rfl, by kernel_rfl, by kernel_rfl⟩
@[simp] abbrev DH : Nat := 157
def Ea : ACode := .seq (.reg [.l 13 7, .o 14 (.call 188 []) [.t 13], .m 6 14]) <| .ret
def Fl : ACode := .seq (.reg [.o 3 .box [.t 0], .o 4 .box [.t 1], .o 6 .mv [.c (.os 1 [])]]) <| .seq (.reg [.o 7 (.alloc [.os 1 []]) []]) <| .seq (.draw ( .take (.m 9 2) <| .take (.o 11 (.mkfn 208) [.t 3, .t 4, .t 7]) <| .alt (.la 8 3 3) ( .al (.o 10 (.call 126 []) [.t 9]) ( .al (.o 12 (.call 207 []) [.t 8, .t 10, .t 11]) ( .done))) <| .al (.o 10 (.call 126 []) [.t 9]) ( .al (.la 8 3 3) ( .al (.o 12 (.call 207 []) [.t 8, .t 10, .t 11]) ( .done))))) <| .gc [] [7] Ea
theorem LH : cFn Tryz.prog DH 15 [.t 6] Fl := ⟨Tryz.f157, _, Tryz.func157, rfl, by kernel_rfl, by kernel_rfl, by kernel_rfl, by kernel_rfl⟩
def dN (W T : Int) (ds t : List Int) : List (List Int) := if KP (B3 W T ds t) then [t] else []
end Go.Proofs.Dev
