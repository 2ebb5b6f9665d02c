/- Contracts of the functions of the program over slots and rows, each proved against the program itself; no condition beyond those that each theorem names. -/
import Derived.Test.YtfkmfobbgoflgaaGreatDoorAO
import Derived.Test.YtfkmfobbgoflgaaGreatDoorAH
import Derived.Test.YtfkmfobbgoflgaaGreatDoorProg
set_option linter.unusedSimpArgs false
set_option linter.unusedVariables false
set_option maxRecDepth 100000
namespace Go.Proofs.Dev
@[simp] def md1 (f : Nat) : List Bool := if f = 274 then [false, true] else md0 f
def Ep (cs : List Bool) (ls : List Int) (k : Nat) : Bool := atb cs k && decide (ati ls k = 0)
def Eb (cs : List Bool) (ls : List Int) : Int := D6 (Ep cs ls) ls.length
def allT (W T : Int) (cs : List Bool) : Nat → List Int → List (List Int)
 | 0, ls => [ls]
 | n + 1, ls => if Eb cs ls < 0 then [ls] else
     (if BU W T cs ls (Eb cs ls) 1 then allT W T cs n (C4 W T ls (Eb cs ls) 1) else []) ++
     (if BU W T cs ls (Eb cs ls) 2 then allT W T cs n (C4 W T ls (Eb cs ls) 2) else [])
theorem IW (W T : Int) (cs : List Bool) : ∀ (n : Nat) (ls : List Int), (allT W T cs n ls).length ≤ 2 ^ n
 | 0, ls => by simp [allT]
 | n + 1, ls => by
   have h1 := IW W T cs n (C4 W T ls (Eb cs ls) 1)
   have h2 := IW W T cs n (C4 W T ls (Eb cs ls) 2)
   have h3 : 0 < 2 ^ n := Nat.pow_pos (by omega)
   rw [allT]
   split
   ·simp only [List.length_singleton]; omega
   ·rw [List.length_append]
    have e1 : (if BU W T cs ls (Eb cs ls) 1 then allT W T cs n (C4 W T ls (Eb cs ls) 1) else []).length ≤ 2 ^ n := by
     split
     ·exact h1
     ·simp
    have e2 : (if BU W T cs ls (Eb cs ls) 2 then allT W T cs n (C4 W T ls (Eb cs ls) 2) else []).length ≤ 2 ^ n := by
     split
     ·exact h2
     ·simp
    omega
theorem FE (cs : List Bool) (ls : List Int) : Eb cs ls = -1 ∨ ∃ k : Nat, k < ls.length ∧ Eb cs ls = k ∧ atb cs k = true ∧ ati ls k = 0 := by
 rcases Md (Ep cs ls) ls.length with h | ⟨k, hk, hp, he⟩
 ·left; exact h
 ·right
  simp only [Ep, Bool.and_eq_true, decide_eq_true_eq] at hp
  exact ⟨k, hk, he, hp.1, hp.2⟩
theorem IX {W T : Int} {ls : List Int} {k : Nat} {way : Int} (hk : k < ls.length) (hz : ati ls k = 0) (h1 : 1 ≤ way) (h4 : way ≤ 4) : CH (C4 W T ls k way) < CH ls := by
 have hb : Ck way ≠ 0 := by
  have := (Hh h1 h4).2
  omega
 refine Nat.lt_of_le_of_lt (Rr hb) ?_
 exact Me (by simpa using hk) (by simpa using hz) (by omega)
theorem OD (W T : Int) (cs : List Bool) (ls : List Int) (hl : ls.length = cs.length) (hb : cs.length < 2 ^ 40) :
  SoundAt Tryz.prog OB [.agg [.v (.int .i64 W), .v (.int .i64 T), .sl 1 1 (AC cs)], .sl 1 1 (AB ls)] (.v (.int .i64 (Eb cs ls))) [.bot, .bot] := by
 refine AE (md := md0) (ms := [false, false]) VG (by simp) ?_
 simp [OC]
 refine AF (fun m E H => ∃ i : Nat, m = ls.length - i ∧ i ≤ ls.length ∧ (∀ j : Nat, j < i → Ep cs ls j = false) ∧ H = [some (.box [.v (.int .i64 W), .v (.int .i64 T), .sl 1 1 (AC cs)])] ∧
  E = [(1, .sl 1 1 (AB ls)), (2, .lp 0 0 0 0), (5, .v (.int .i64 i))]) ls.length ⟨0, by simp⟩ ?_
 rintro J hJ m E H ⟨i, rfl, hi, ha, rfl, rfl⟩
 by_cases h : i < ls.length
 case neg =>
  have : i = ls.length := by omega
  subst this
  have e : Eb cs ls = -1 := Bk ha
  simp [Cx, e]
 have next : Ep cs ls i = false → C2 J (ls.length - i) [(1, .sl 1 1 (AB ls)), (2, .lp 0 0 0 0), (5, .v (.int .i64 (i + 1)))]
   [some (.box [.v (.int .i64 W), .v (.int .i64 T), .sl 1 1 (AC cs)])] := by
  intro hx
  refine ⟨_, by omega, hJ _ _ _ ⟨i + 1, rfl, h, ?_, rfl, rfl⟩⟩
  intro j hj
  rcases Nat.lt_or_ge j i with h1 | h1
  ·exact ha j h1
  ·have : j = i := by omega
   subst this; exact hx
 have h2 : i < cs.length := by omega
 cases hc : atb cs i with
 | false =>
   simp [Cx, h, h2, hc]
   exact ⟨by omega, next (by simp [Ep, hc])⟩
 | true =>
 by_cases z : ati ls i = 0
 ·have e : Eb cs ls = i := B7 h (by simp [Ep, hc, z]) ha
  simp [Cx, h, h2, hc, z, e]
 ·simp [Cx, h, h2, hc, z]
  exact ⟨by omega, next (by simp [Ep, z])⟩
theorem Mo {W T : Int} {cs : List Bool} {ls : List Int} (n : Nat) (h : Eb cs ls < 0) : allT W T cs n ls = [ls] := by
 cases n with
 | zero => rfl
 | succ n => simp [allT, h]
def Mp (W T : Int) (cs : List Bool) (n : Nat) (ls : List Int) (cell way : Int) : List (List Int) := if BU W T cs ls cell way then allT W T cs n (C4 W T ls cell way) else []
def QJ (W T : Int) (cs : List Bool) (n : Nat) (ls : List Int) (cell : Int) (i : Nat) : List (List Int) := (List.range i).flatMap fun j : Nat => Mp W T cs n ls cell (j + 1)
theorem QK (W T : Int) (cs : List Bool) (n : Nat) (ls : List Int) (cell : Int) (i : Nat) : QJ W T cs n ls cell (i + 1) = QJ W T cs n ls cell i ++ Mp W T cs n ls cell (i + 1) := by
 simp [QJ, List.range_succ]
theorem YC (W T : Int) (cs : List Bool) (n : Nat) (ls : List Int) (cell way : Int) : (Mp W T cs n ls cell way).length ≤ 2 ^ n := by
 unfold Mp; split
 ·exact IW ..
 ·simp
theorem Ot (W T : Int) (cs : List Bool) (n : Nat) (ls : List Int) (cell : Int) : ∀ i, (QJ W T cs n ls cell i).length ≤ i * 2 ^ n
 | 0 => by simp [QJ]
 | i + 1 => by
   have h1 := Ot W T cs n ls cell i
   have h2 := YC W T cs n ls cell (i + 1)
   rw [QK, List.length_append, Nat.succ_mul]
   omega
theorem Mq {ls : List Int} {k : Nat} (h : k < ls.length) (hz : ati ls k = 0) : 0 < CH ls := by
 have := Me (v := 1) h hz (by omega)
 omega
theorem YD (W T : Int) (cs : List Bool) (hr : A0 W T cs = true) : ∀ (n : Nat) (ls : List Int), n ≤ 36 → CH ls ≤ n → AO W T cs ls = true →
  SoundAt Tryz.prog Rs [.agg [.v (.int .i64 W), .v (.int .i64 T), .sl 1 1 (AC cs)], .os 1 (AB ls)] (.os 1 (oss (allT W T cs n ls))) [.bot, .bot] := by
 intro n
 have h36 := AZ hr
 induction n with
 | zero =>
   intro ls hn hz hy
   have hl : ls.length = cs.length := by simp only [AO, Bool.and_eq_true, decide_eq_true_eq] at hy; exact hy.1
   refine AE (md := md1) (ms := [false, false]) Rt (by simp) ?_
   simp [Ml]
   refine AA (OD W T cs ls hl (by omega)) ?_
   rcases FE cs ls with h | ⟨k, hk, he, hc, hzk⟩
   ·simp [h, Mo, RF]
   ·have := Mq hk hzk
    omega
 | succ n ih =>
   intro ls hn hz hy
   have hl : ls.length = cs.length := by simp only [AO, Bool.and_eq_true, decide_eq_true_eq] at hy; exact hy.1
   refine AE (md := md1) (ms := [false, false]) Rt (by simp) ?_
   simp [Ml]
   refine AA (OD W T cs ls hl (by omega)) ?_
   rcases FE cs ls with h | ⟨k, hk, he, hc, hzk⟩
   ·simp [h, Mo, RF]
   have hk0 : ¬ (k : Int) < 0 := by omega
   have hall : allT W T cs (n + 1) ls = QJ W T cs n ls k 2 := by
    rw [allT, he, if_neg hk0]
    simp [QJ, Mp, List.range_succ]
   rw [hall]
   simp [he, hk0]
   refine AF (fun m E H => ∃ i : Nat, m = 2 - i ∧ i ≤ 2 ∧ H = [some (.arr 1 (AB ls)), some (.box [.v (.int .i64 W), .v (.int .i64 T), .sl 1 1 (AC cs)]), some (.arr 1 (oss (QJ W T cs n ls k i)))] ∧
    E = [(1, .ls 1 0 0 ls.length), (2, .lp 0 1 0 0), (5, .ls 1 2 0 (QJ W T cs n ls k i).length), (6, .v (.int .i64 k)), (7, .v (.int .i64 (i + 1)))]) 2 ⟨0, by simp [QJ]⟩ ?_
   rintro J hJ m E H ⟨i, rfl, hi, rfl, rfl⟩
   by_cases h : i < 2
   case neg =>
    have : i = 2 := by omega
    subst this
    simp [IU]
   have h' : (i : Int) + 1 ≤ 2 := by omega
   have hsuc := QK W T cs n ls k i
   have next : ∀ (x : List (List Int)), Mp W T cs n ls k (i + 1) = x → C2 J (2 - i) [(1, .ls 1 0 0 ls.length), (2, .lp 0 1 0 0), (5, .ls 1 2 0 ((QJ W T cs n ls k i).length + x.length)), (6, .v (.int .i64 k)), (7, .v (.int .i64 (i + 1 + 1)))]
     [some (.arr 1 (AB ls)), some (.box [.v (.int .i64 W), .v (.int .i64 T), .sl 1 1 (AC cs)]), some (.arr 1 (oss (QJ W T cs n ls k i) ++ oss x))] := by
    intro x hx
    refine ⟨_, by omega, hJ _ _ _ ⟨i + 1, rfl, h, ?_, ?_⟩⟩
    ·rw [hsuc, hx, KR]
    ·rw [hsuc, hx, List.length_append]; rfl
   have one := HY W T cs ls k (i + 1) hr hy
   simp [IU, h']
   refine AA one ?_
   cases hf : BU W T cs ls k (i + 1) with
   | false =>
     have nx := next [] (by simp [Mp, hf])
     simp at nx
     simp
     exact ⟨by omega, nx⟩
   | true =>
     have el : CB W T cs ls k (i + 1) = C4 W T ls k (i + 1) := by simp [CB, hf]
     rw [el]
     have hy2 := Nm hr hy hf
     have hz2 : CH (C4 W T ls k (i + 1)) < CH ls := IX hk hzk (by omega) (by omega)
     have two := ih (C4 W T ls k (i + 1)) (by omega) (by omega) hy2
     have nx := next (allT W T cs n (C4 W T ls k (i + 1))) (by simp [Mp, hf])
     have hll := AL W T ls k (i + 1)
     have htk : (AB (C4 W T ls k (i + 1))).take ls.length = AB (C4 W T ls k (i + 1)) := List.take_of_length_le (by simp [hll])
     have b1 := IW W T cs n (C4 W T ls k (i + 1))
     have b0 : 2 ^ n ≤ 2 ^ 36 := Nat.pow_le_pow_right (by omega) (by omega)
     have b2 := Ot W T cs n ls k i
     have b3 : i * 2 ^ n ≤ 2 * 2 ^ n := Nat.mul_le_mul_right _ (by omega)
     have b4 : (QJ W T cs n ls k i).length + (allT W T cs n (C4 W T ls k (i + 1))).length ≤ 206158430208 := by omega
     simp [hll, htk]
     refine AA two ?_
     simp [hll, htk]
     exact ⟨by omega, by omega, nx⟩
def BO (cs : List Bool) : List Int := List.replicate cs.length 0
theorem W5 (cs : List Bool) (k : Int) : ati (BO cs) k = 0 := by
 unfold ati BO
 rw [List.getD_eq_getElem?_getD, List.getElem?_replicate]
 split <;> rfl
theorem QL (W T : Int) (cs : List Bool) : AO W T cs (BO cs) = true := by
 simp only [AO, Bool.and_eq_true, decide_eq_true_eq, Cl]
 refine ⟨by simp [BO], fun k _ => ?_⟩
 simp only [Js, decide_eq_true_eq]
 exact .inl (W5 cs k)
theorem W6 (W T : Int) (cs : List Bool) : ∀ (n : Nat) (ls p : List Int), p ∈ allT W T cs n ls → p.length = ls.length
 | 0, ls, p, h => by simp [allT] at h; rw [h]
 | n + 1, ls, p, h => by
   rw [allT] at h
   split at h
   ·simp at h; rw [h]
   ·rw [List.mem_append] at h
    rcases h with h | h <;> split at h
    ·rw [W6 W T cs n _ p h, AL]
    ·cases h
    ·rw [W6 W T cs n _ p h, AL]
    ·cases h
def HL (W T : Int) (cs : List Bool) : List (List Int) := if A0 W T cs then allT W T cs cs.length (BO cs) else []
theorem YE {W T : Int} {cs : List Bool} {p : List Int} (h : p ∈ HL W T cs) : p.length = cs.length := by
 unfold HL at h
 split at h
 ·rw [W6 W T cs _ _ p h]; simp [BO]
 ·cases h
theorem Ru {W T : Int} {cs : List Bool} : (HL W T cs).length ≤ 68719476736 := by
 unfold HL
 split
 ·rename_i hr
  have h1 := IW W T cs cs.length (BO cs)
  have h2 : 2 ^ cs.length ≤ 2 ^ 36 := Nat.pow_le_pow_right (by omega) (AZ hr)
  omega
 ·simp
theorem IY (W T : Int) (cs : List Bool) (hb : cs.length < 2 ^ 40) :
  SoundAt Tryz.prog Mm [.agg [.v (.int .i64 W), .v (.int .i64 T), .sl 1 1 (AC cs)]] (.os 1 (AB (if A0 W T cs then BO cs else []))) [.bot] := by
 refine AE (md := md0) (ms := [false]) UB (by simp) ?_
 simp [Mn]
 refine AA (BG W T cs hb) ?_
 cases hr : A0 W T cs with
 | false => simp
 | true =>
 simp [BO, Zu]
 exact ⟨by omega, List.take_of_length_le (by simp)⟩
theorem RJ (W T : Int) (cs : List Bool) (hb : cs.length < 2 ^ 40) :
  SoundAt Tryz.prog GU [.agg [.v (.int .i64 W), .v (.int .i64 T), .sl 1 1 (AC cs)]] (.os 1 (oss (HL W T cs))) [.bot] := by
 refine AE (md := md1) (ms := [false]) RI (by simp) ?_
 simp [KX]
 refine AA (BG W T cs hb) ?_
 cases hr : A0 W T cs with
 | false => simp [HL, hr]
 | true =>
 have one := IY W T cs hb
 rw [if_pos hr] at one
 have hn : (BO cs).length = cs.length := by simp [BO]
 have hz : CH (BO cs) ≤ cs.length := by have := JU (BO cs); omega
 have two := YD W T cs hr cs.length (BO cs) (AZ hr) hz (QL W T cs)
 have et : HL W T cs = allT W T cs cs.length (BO cs) := by simp [HL, hr]
 have htk : (AB (BO cs)).take cs.length = AB (BO cs) := List.take_of_length_le (by simp [hn])
 rw [et]
 simp
 (repeat' first | assumption | omega | apply And.intro) <;>
 ·refine AA one ?_
  simp [hn, htk]
  (repeat' first | assumption | omega | apply And.intro) <;>
  ·refine AA two ?_
   simp [hn, htk]
def DB (W T : Int) (cs : List Bool) (ds : List Int) : List (List Int) := if (A0 W T cs && Cf cs ds) = true then (HL W T cs).filter (Ct W T cs ds) else []
theorem ZE {ps : List (List Int)} {i : Nat} (f : List Int → Bool) (h : i < ps.length) : (ps.take (i + 1)).filter f = (ps.take i).filter f ++ if f (pti ps i) then [pti ps i] else [] := by
 rw [List.take_succ_eq_append_getElem h, List.filter_append, D7 h]
 congr 1
 cases hf : f ps[i] <;> simp [hf]
theorem lj {W T : Int} {cs : List Bool} : ∀ (C : Ctx) (S : List Nat) (us : List Value), RL C [.agg [.v (.int .i64 W), .v (.int .i64 T), .sl 1 1 (AC cs)]] S us → S = [] := by
 intro C S us h
 rw [RL] at h
 obtain ⟨S1, S2, u, us', rfl, rfl, h1, h2⟩ := h
 rw [RL] at h2
 rw [R] at h1
 obtain ⟨vs, _, h1⟩ := h1
 rw [RL] at h1
 obtain ⟨A1, A2, _, _, rfl, _, a1, h1⟩ := h1
 rw [RL] at h1
 obtain ⟨A3, A4, _, _, rfl, _, a3, h1⟩ := h1
 rw [RL] at h1
 obtain ⟨A5, A6, _, _, rfl, _, a5, h1⟩ := h1
 rw [RL] at h1
 rw [R] at a1
 rw [R] at a3
 rw [R] at a5
 rw [a1.1, a3.1, a5.1, h1.1, h2.1]
 rfl
theorem QM (W T : Int) (cs : List Bool) (hb : cs.length < 2 ^ 40) :
  SoundAt Tryz.prog GU [.agg [.v (.int .i64 W), .v (.int .i64 T), .sl 1 1 (AC cs)]] (.sl 0 1 (sls 0 (HL W T cs))) [.bot] := by
 have h := SoundAt.frozen (n := 1) lj (RJ W T cs hb)
 simpa [vw] using h
theorem Ou (W T : Int) (cs : List Bool) (ds : List Int) (hb : cs.length < 2 ^ 40) (hd : ds.length < 2 ^ 40) :
  SoundAt Tryz.prog E4 [.agg [.v (.int .i64 W), .v (.int .i64 T), .sl 1 1 (AC cs)], .sl 1 1 (AB ds)] (.os 1 (sls 0 (DB W T cs ds))) [.bot, .bot] := by
 refine AE (md := md1) (ms := [false, false]) Oq (by simp) ?_
 simp [IV]
 refine AA (QM W T cs hb) ?_
 simp
 have hpv := CO W T cs ds hb hd
 have hmem : ∀ p ∈ HL W T cs, p.length = cs.length := fun p hp => YE hp
 have htl := Ru (W := W) (T := T) (cs := cs)
 have esol : DB W T cs ds = if (A0 W T cs && Cf cs ds) = true then (HL W T cs).filter (Ct W T cs ds) else [] := rfl
 generalize HL W T cs = ts at *
 refine AF (fun m E H => ∃ i : Nat, m = ts.length - i ∧ i ≤ ts.length ∧ (i = 0 ∨ (A0 W T cs && Cf cs ds) = true) ∧ H = [some (.box [.v (.int .i64 W), .v (.int .i64 T), .sl 1 1 (AC cs)]), some (.arr 1 (sls 0 ((ts.take i).filter (Ct W T cs ds))))] ∧
  E = [(1, .sl 1 1 (AB ds)), (2, .lp 0 0 0 0), (5, .ls 1 1 0 ((ts.take i).filter (Ct W T cs ds)).length), (6, .sl 0 1 (sls 0 ts)), (7, .v (.int .i64 i))]) ts.length ⟨0, by simp⟩ ?_
 rintro J hJ m E H ⟨i, rfl, hi, hp0, rfl, rfl⟩
 by_cases h : i < ts.length
 case neg =>
  have : i = ts.length := by omega
  subst this
  have e2 : (ts.take ts.length).filter (Ct W T cs ds) = DB W T cs ds := by
   rw [List.take_length, esol]
   rcases hp0 with h0 | h0
   ·have : ts = [] := List.eq_nil_of_length_eq_zero h0
    subst this
    simp
   ·rw [if_pos h0]
  rw [e2]
  simp [Da]
  exact List.take_of_length_le (by simp)
 simp [Da, h]
 refine AA hpv ?_
 cases hp : (A0 W T cs && Cf cs ds) with
 | false =>
   have : i = 0 := by rcases hp0 with h0 | h0; exact h0; rw [hp] at h0; cases h0
   subst this
   have e2 : DB W T cs ds = [] := by rw [esol, if_neg (by simp [hp])]
   simp [e2]
 | true =>
 have hr : A0 W T cs = true := by simp only [Bool.and_eq_true] at hp; exact hp.1
 have h36 := AZ hr
 have hpl := hmem _ (K3 h)
 have one := MX W T cs ds (pti ts i) hb hd (by omega)
 have hsuc := ZE (Ct W T cs ds) h
 have hlen : ((ts.take i).filter (Ct W T cs ds)).length ≤ i := by
  refine Nat.le_trans (List.length_filter_le _ _) ?_
  rw [List.length_take]; omega
 simp [h]
 (repeat' first | assumption | omega | apply And.intro) <;>
 ·refine AA one ?_
  cases hs : Ct W T cs ds (pti ts i) with
  | false =>
    rw [if_neg (by simp [hs]), List.append_nil] at hsuc
    simp [h]
    exact ⟨by omega, _, by omega, hJ _ _ _ ⟨i + 1, rfl, h, .inr hp, by rw [hsuc], by rw [hsuc]; rfl⟩⟩
  | true =>
    rw [if_pos hs] at hsuc
    simp [h]
    exact ⟨by omega, by omega, _, by omega, hJ _ _ _ ⟨i + 1, rfl, h, .inr hp, by rw [hsuc]; simp [sls], by rw [hsuc]; simp⟩⟩
theorem Vy {p : Nat → Bool} {n : Nat} (h : D6 p n < 0) : ∀ j, j < n → p j = false := by
 intro j hj
 cases hx : p j with
 | false => rfl
 | true =>
   exfalso
   have hm : ∃ x ∈ List.range n, p x = true := ⟨j, by simpa using hj, hx⟩
   have hs := List.find?_isSome.2 hm
   unfold D6 at h
   split at h
   ·omega
   ·rename_i h9; rw [h9] at hs; cases hs
theorem Rv {cs : List Bool} {ls : List Int} (hl : ls.length = cs.length) (h : Eb cs ls < 0) : Ju cs ls = true := by
 rw [Ju, Cl]
 intro k hk
 have h1 := Vy h k (by omega)
 simp only [Ep] at h1
 simp only [H6, h1]
 rfl
theorem cr {W T : Int} {cs : List Bool} (hr : A0 W T cs = true) : ∀ (n : Nat) (ls : List Int), CH ls ≤ n → AO W T cs ls = true → ∀ p ∈ allT W T cs n ls, AO W T cs p = true ∧ Ju cs p = true := by
 intro n
 induction n with
 | zero =>
   intro ls hz hy p hp
   have hl : ls.length = cs.length := by simp only [AO, Bool.and_eq_true, decide_eq_true_eq] at hy; exact hy.1
   simp only [allT, List.mem_singleton] at hp
   subst hp
   refine ⟨hy, Rv hl ?_⟩
   rcases FE cs p with h | ⟨k, hk, he, hc, hzk⟩
   ·omega
   ·have := Mq hk hzk
    omega
 | succ n ih =>
   intro ls hz hy p hp
   have hl : ls.length = cs.length := by simp only [AO, Bool.and_eq_true, decide_eq_true_eq] at hy; exact hy.1
   rw [allT] at hp
   split at hp
   ·rename_i hb
    simp only [List.mem_singleton] at hp
    subst hp
    exact ⟨hy, Rv hl hb⟩
   ·rename_i hb
    rcases FE cs ls with h | ⟨k, hk, he, hc, hzk⟩
    ·omega
    rw [he] at hp
    have step : ∀ way : Int, 1 ≤ way → way ≤ 4 → BU W T cs ls k way = true → p ∈ allT W T cs n (C4 W T ls k way) → AO W T cs p = true ∧ Ju cs p = true := by
     intro way w1 w4 hf hm
     have hz2 : CH (C4 W T ls k way) < CH ls := IX hk hzk w1 w4
     exact ih (C4 W T ls k way) (by omega) (Nm hr hy hf) p hm
    rw [List.mem_append] at hp
    rcases hp with hp | hp
    ·split at hp
     ·rename_i hf; exact step 1 (by omega) (by omega) hf hp
     ·cases hp
    ·split at hp
     ·rename_i hf; exact step 2 (by omega) (by omega) hf hp
     ·cases hp
theorem ct {W T : Int} {cs : List Bool} {ds : List Int} (h : (A0 W T cs && Cf cs ds) = true) : DB W T cs ds = (HL W T cs).filter (fun t => KD (B3 W T ds t)) := by
 have hr : A0 W T cs = true := by simp only [Bool.and_eq_true] at h; exact h.1
 have hd : Cf cs ds = true := by simp only [Bool.and_eq_true] at h; exact h.2
 have hn : (BO cs).length = cs.length := by simp [BO]
 have hz : CH (BO cs) ≤ cs.length := by have := JU (BO cs); omega
 rw [DB, if_pos h]
 apply List.filter_congr
 intro t ht
 rw [HL, if_pos hr] at ht
 obtain ⟨h1, h2⟩ := cr hr cs.length (BO cs) hz (QL W T cs) t ht
 simp only [Ct, Af, okB, hr, hd, h1, h2, Bool.true_and, Bool.and_true]
def J0 (ls p : List Int) : Bool := Uo ls.length fun k => decide (ati ls k = 0) || decide (ati p k = ati ls k)
theorem hasB_iff {ls p : List Int} : J0 ls p = true ↔ ∀ k : Nat, k < ls.length → ati ls k = 0 ∨ ati p k = ati ls k := by
 simp only [J0, Cl, Bool.or_eq_true, decide_eq_true_eq]
theorem KY (ls : List Int) : J0 ls ls = true := hasB_iff.2 fun _ _ => .inr rfl
theorem ay {p : Nat → Bool} {n k : Nat} (h : D6 p n = k) : ∀ j, j < k → p j = false := by
 intro j hj
 unfold D6 at h
 split at h
 ·rename_i k' hk
  rw [List.find?_range_eq_some] at hk
  have : k' = k := by omega
  subst this
  have := hk.2.2 j hj
  simpa using this
 ·omega
theorem jL {W T : Int} {ls : List Int} {cell way : Int} (hc : cell.toNat < ls.length) (hto : (AJ W T cell way).toNat < ls.length) (j : Nat) :
  ati (C4 W T ls cell way) j = if j = (AJ W T cell way).toNat then Ck way else if j = cell.toNat then way else ati ls j := by
 unfold C4
 rw [MD (by simpa using hto), MD hc]
theorem FF {W T : Int} {cs : List Bool} {ls : List Int} {k : Nat} {way : Int} (hr : A0 W T cs = true) (hl : ls.length = cs.length) (hf : BU W T cs ls k way = true) :
  ∃ t : Nat, AJ W T k way = t ∧ t < ls.length ∧ k < ls.length ∧ t ≠ k ∧ 1 ≤ way ∧ way ≤ 4 ∧ AJ W T t (Ck way) = k ∧ atb cs t = true ∧ ati ls k = 0 ∧ ati ls t = 0 ∧
    ∀ j : Nat, ati (C4 W T ls k way) j = if j = t then Ck way else if j = k then way else ati ls j := by
 obtain ⟨w1, w2, t1, t2, l1, _⟩ := CL hr
 simp only [BU, decide_eq_true_eq] at hf
 obtain ⟨f0, f1, f2, f3, f4, f5, f6⟩ := hf
 obtain ⟨b1, b2, b3, b4, b5⟩ := DQ (T := T) w1 f0 (by omega) f2
 have e : AJ W T k way = ((AJ W T k way).toNat : Nat) := by omega
 refine ⟨(AJ W T k way).toNat, e, by omega, by omega, by omega, b2, b3, by rw [← e]; exact b1, by rw [← e]; exact f4, f5, by rw [← e]; exact f6, ?_⟩
 intro j
 rw [jL (by omega) (by omega)]
 simp
theorem W7 {W T : Int} {cs : List Bool} (hr : A0 W T cs = true) : ∀ (n : Nat) (ls : List Int), ls.length = cs.length → ∀ p ∈ allT W T cs n ls, J0 ls p = true := by
 intro n
 induction n with
 | zero =>
   intro ls hl p hp
   simp only [allT, List.mem_singleton] at hp
   subst hp; exact KY p
 | succ n ih =>
   intro ls hl p hp
   rw [allT] at hp
   split at hp
   ·simp only [List.mem_singleton] at hp
    subst hp; exact KY p
   rcases FE cs ls with h | ⟨k, hk, he, hc, hzk⟩
   ·omega
   rw [he] at hp
   have step : ∀ way : Int, BU W T cs ls k way = true → p ∈ allT W T cs n (C4 W T ls k way) → J0 ls p = true := by
    intro way hf hm
    obtain ⟨t, e, t1, t2, t3, _, _, _, _, z1, z2, hat⟩ := FF hr hl hf
    have h1 := hasB_iff.1 (ih _ (by rw [AL]; exact hl) p hm)
    rw [hasB_iff]
    intro j hj
    have h2 := h1 j (by rw [AL]; exact hj)
    rw [hat j] at h2
    by_cases e1 : j = t
    ·subst e1; exact .inl z2
    by_cases e2 : j = k
    ·subst e2; exact .inl z1
    rw [if_neg e1, if_neg e2] at h2
    exact h2
   rw [List.mem_append] at hp
   rcases hp with hp | hp
   ·split at hp
    ·rename_i hf; exact step 1 hf hp
    ·cases hp
   ·split at hp
    ·rename_i hf; exact step 2 hf hp
    ·cases hp
theorem jM {a b : List Int} (hl : a.length = b.length) (h : ∀ k : Nat, k < a.length → ati a k = ati b k) : a = b := by
 apply List.ext_getElem hl
 intro i h1 h2
 have := h i h1
 simpa [ati, h1, h2] using this
theorem IZ {W T : Int} {cs : List Bool} {ls : List Int} (hy : AO W T cs ls = true) {k : Nat} (hk : k < ls.length) (hv : ati ls k ≠ 0) :
  1 ≤ ati ls k ∧ ati ls k ≤ 4 ∧ atb cs k = true ∧ 0 ≤ AJ W T k (ati ls k) ∧ atb cs (AJ W T k (ati ls k)) = true ∧ ati ls (AJ W T k (ati ls k)) = Ck (ati ls k) := by
 simp only [AO, Bool.and_eq_true, decide_eq_true_eq, Cl] at hy
 have := hy.2 k hk
 simp only [Js, decide_eq_true_eq] at this
 rcases this with h | h
 ·exact absurd h hv
 ·exact h
theorem Ao {W T : Int} {cs : List Bool} {ls : List Int} (hy : AO W T cs ls = true) : ls.length = cs.length := by
 simp only [AO, Bool.and_eq_true, decide_eq_true_eq] at hy; exact hy.1
theorem UC {W T : Int} {cs : List Bool} {ls : List Int} (hr : A0 W T cs = true) (hy : AO W T cs ls = true) {k t : Nat} {way : Int} (hk : k < ls.length) (ht : AJ W T k way = t) (hv : ati ls t = Ck way) : ati ls k = way := by
 obtain ⟨w1, w2, t1, t2, l1, _⟩ := CL hr
 have hl := Ao hy
 obtain ⟨b1, b2, b3, b4, b5⟩ := DQ (W := W) (T := T) (k := k) (way := way) w1 (by omega) (by omega) (by omega)
 obtain ⟨c1, c2, c3⟩ := Hh b2 b3
 obtain ⟨_, _, _, _, _, g⟩ := IZ hy (k := t) (by omega) (by omega)
 rw [hv, ← ht, b1, c1] at g
 exact g
theorem cw {W T : Int} {cs : List Bool} {b ls : List Int} {k : Nat} {way : Int} (hr : A0 W T cs = true) (hb : b.length = cs.length) (hf : BU W T cs b k way = true) (hs : J0 b ls = true) (h1 : ati ls k = way) (h2 : ati ls (AJ W T k way) = Ck way) :
  J0 (C4 W T b k way) ls = true := by
 obtain ⟨t, e, t1, t2, t3, _, _, _, _, z1, z2, hat⟩ := FF hr hb hf
 rw [e] at h2
 rw [hasB_iff] at hs ⊢
 intro j hj
 rw [AL] at hj
 rw [hat j]
 by_cases e1 : j = t
 ·subst e1; rw [if_pos rfl]; exact .inr h2
 rw [if_neg e1]
 by_cases e2 : j = k
 ·subst e2; rw [if_pos rfl]; exact .inr h1
 rw [if_neg e2]
 exact hs j hj
theorem cy {W T : Int} {cs : List Bool} {b ls : List Int} (hyb : AO W T cs b = true) (hyl : AO W T cs ls = true) (hs : J0 b ls = true) (h : Eb cs b < 0) : ls = b := by
 have hbl := Ao hyb
 have hll := Ao hyl
 refine jM (by omega) fun k hk => ?_
 rcases hasB_iff.1 hs k (by omega) with h1 | h1
 ·have h2 := Vy h k (by omega)
  by_cases hv : ati ls k = 0
  ·omega
  ·obtain ⟨_, _, g, _⟩ := IZ hyl hk hv
   simp [Ep, h1, g] at h2
 ·exact h1
theorem UD {W T : Int} {cs : List Bool} {b ls : List Int} (m n : Nat) (hyb : AO W T cs b = true) (hyl : AO W T cs ls = true) (hs : J0 b ls = true) (h : Eb cs b < 0) :
  (allT W T cs m b).filter (J0 ls) = allT W T cs n ls := by
 have e := cy hyb hyl hs h
 subst e
 rw [Mo _ h, Mo _ h]
 simp [KY]
theorem ZF {W T : Int} {cs : List Bool} (hr : A0 W T cs = true) : ∀ (m : Nat) (b ls : List Int) (n : Nat), CH b ≤ m → CH ls ≤ n → AO W T cs b = true → AO W T cs ls = true → J0 b ls = true →
  (allT W T cs m b).filter (J0 ls) = allT W T cs n ls := by
 obtain ⟨w1, w2, t1, t2, l1, _⟩ := CL hr
 intro m
 induction m with
 | zero =>
   intro b ls n hzb hzl hyb hyl hs
   rcases FE cs b with h | ⟨k, hk, he, hc, hzk⟩
   ·exact UD 0 n hyb hyl hs (by omega)
   ·have := Mq hk hzk
    omega
 | succ m ih =>
   intro b ls n hzb hzl hyb hyl hs
   rcases FE cs b with h | ⟨k, hk, he, hc, hzk⟩
   ·exact UD (m + 1) n hyb hyl hs (by omega)
   have hbl := Ao hyb
   have hll := Ao hyl
   have hk0 : ¬ (k : Int) < 0 := by omega
   have hmin : ∀ j, j < k → Ep cs b j = false := ay he
   rw [allT, he, if_neg hk0, List.filter_append]
   by_cases hv : ati ls k = 0
   ·have hbk : Eb cs ls = k := by
     refine B7 (by omega) (by simp [Ep, hc, hv]) (fun j hj => ?_)
     have h1 := hmin j hj
     rcases hasB_iff.1 hs j (by omega) with h2 | h2
     ·simp [Ep, h2] at h1
      simp [Ep, h1]
     ·simp only [Ep] at h1 ⊢
      rw [h2]; exact h1
    have hzp := Mq (ls := ls) (k := k) (by omega) hv
    obtain ⟨n', rfl⟩ : ∃ n', n = n' + 1 := ⟨n - 1, by omega⟩
    have stepA : ∀ way : Int, 1 ≤ way → way ≤ 4 → (if BU W T cs b k way then allT W T cs m (C4 W T b k way) else []).filter (J0 ls) = (if BU W T cs ls k way then allT W T cs n' (C4 W T ls k way) else []) := by
     intro way v1 v4
     by_cases hf : BU W T cs ls k way = true
     ·obtain ⟨t, e, a1, a2, a3, _, _, a6, a7, z1, z2, hat⟩ := FF hr hll hf
      have hfb : BU W T cs b k way = true := by
       simp only [BU, decide_eq_true_eq] at hf ⊢
       obtain ⟨f0, f1, f2, f3, f4, f5, f6⟩ := hf
       refine ⟨f0, by omega, f2, f3, f4, hzk, ?_⟩
       rw [e]
       rcases hasB_iff.1 hs t (by omega) with h2 | h2
       ·exact h2
       ·rw [← h2]; exact z2
      rw [if_pos hf, if_pos hfb]
      have hzb' : CH (C4 W T b k way) < CH b := IX hk hzk v1 v4
      have hzl' : CH (C4 W T ls k way) < CH ls := IX (by omega) hv v1 v4
      obtain ⟨t', e', _, _, _, _, _, _, _, y1, y2, hatb⟩ := FF hr hbl hfb
      have et : t' = t := by omega
      subst et
      have hs' : J0 (C4 W T b k way) (C4 W T ls k way) = true := by
       rw [hasB_iff]
       intro j hj
       rw [AL] at hj
       rw [hatb j, hat j]
       by_cases e1 : j = t'
       ·rw [if_pos e1, if_pos e1]; exact .inr rfl
       by_cases e2 : j = k
       ·rw [if_neg e1, if_neg e1, if_pos e2, if_pos e2]; exact .inr rfl
       rw [if_neg e1, if_neg e1, if_neg e2, if_neg e2]
       exact hasB_iff.1 hs j hj
      rw [← ih _ _ n' (by omega) (by omega) (Nm hr hyb hfb) (Nm hr hyl hf) hs']
      apply List.filter_congr
      intro p hp
      have hp1 := hasB_iff.1 (W7 hr m _ (by rw [AL]; exact hbl) p hp)
      rw [Bool.eq_iff_iff, hasB_iff, hasB_iff]
      constructor
      ·intro h j hj
       rw [AL] at hj
       rw [hat j]
       by_cases e1 : j = t'
       ·have h5 := hp1 j (by rw [AL]; omega)
        rw [hatb j, if_pos e1] at h5
        rw [if_pos e1]; exact h5
       by_cases e2 : j = k
       ·have h5 := hp1 j (by rw [AL]; omega)
        rw [hatb j, if_neg e1, if_pos e2] at h5
        rw [if_neg e1, if_pos e2]; exact h5
       rw [if_neg e1, if_neg e2]
       exact h j hj
      ·intro h j hj
       have h3 := h j (by rw [AL]; exact hj)
       rw [hat j] at h3
       by_cases e1 : j = t'
       ·subst e1; exact .inl z2
       by_cases e2 : j = k
       ·subst e2; exact .inl z1
       rw [if_neg e1, if_neg e2] at h3
       exact h3
     ·rw [if_neg hf]
      by_cases hfb : BU W T cs b k way = true
      ·rw [if_pos hfb, List.filter_eq_nil_iff]
       intro p hp hh
       obtain ⟨t, e, a1, a2, a3, _, _, a6, a7, y1, y2, hatb⟩ := FF hr hbl hfb
       have hp1 := hasB_iff.1 (W7 hr m _ (by rw [AL]; exact hbl) p hp) t (by rw [AL]; exact a1)
       rw [hatb t, if_pos rfl] at hp1
       have hb4 := (Hh v1 v4).2
       have hpt : ati p t = Ck way := by omega
       have hlt : ati ls t ≠ 0 := by
        intro h0
        apply hf
        simp only [BU, decide_eq_true_eq] at hfb ⊢
        obtain ⟨f0, f1, f2, f3, f4, _, _⟩ := hfb
        refine ⟨f0, f1, f2, f3, f4, hv, ?_⟩
        rw [e]; exact h0
       have hl2 := hasB_iff.1 hh t (by omega)
       have hl3 : ati ls t = Ck way := by omega
       have := UC hr hyl (k := k) (t := t) (way := way) (by omega) e hl3
       omega
      ·rw [if_neg hfb]; rfl
    rw [stepA 1 (by omega) (by omega), stepA 2 (by omega) (by omega), allT.eq_2, hbk, if_neg hk0]
   ·obtain ⟨v1, v4, g3, g4, g5, g6⟩ := IZ hyl (k := k) (by omega) hv
    obtain ⟨v, hvv⟩ : ∃ v, ati ls k = v := ⟨_, rfl⟩
    rw [hvv] at v1 v4 g4 g5 g6 hv
    obtain ⟨_, _, _, _, b5⟩ := DQ (W := W) (T := T) (k := k) (way := v) w1 (by omega) (by omega) g4
    obtain ⟨t, ht⟩ : ∃ t : Nat, AJ W T k v = t := ⟨(AJ W T k v).toNat, by omega⟩
    have hbt : ati b t = 0 := by
     rcases hasB_iff.1 hs t (by omega) with h | h
     ·exact h
     ·exfalso
      rw [ht] at g6
      have := UC hr hyb (k := k) (t := t) (way := v) hk ht (by rw [← h]; exact g6)
      omega
    have h12 : v = 1 ∨ v = 2 := by
     by_cases h3 : v ≤ 2
     ·omega
     exfalso
     have hlt : t < k := by
      unfold AJ at ht
      have h4 : v = 3 ∨ v = 4 := by omega
      rcases h4 with rfl | rfl
      ·simp at ht
       split at ht <;> omega
      ·simp at ht
       split at ht <;> omega
     have h1 := hmin t hlt
     rw [ht] at g5
     simp [Ep, g5] at h1
     exact h1 hbt
    have hfb : BU W T cs b k v = true := by
     simp only [BU, decide_eq_true_eq]
     exact ⟨by omega, by omega, g4, hc, g5, hzk, by rw [ht]; exact hbt⟩
    have hzb' : CH (C4 W T b k v) < CH b := IX hk hzk v1 v4
    have hA := ih (C4 W T b k v) ls n (by omega) hzl (Nm hr hyb hfb) hyl (cw hr hbl hfb hs hvv g6)
    have other : ∀ w : Int, w ≠ v → (if BU W T cs b k w then allT W T cs m (C4 W T b k w) else []).filter (J0 ls) = [] := by
     intro w hw
     split
     ·rename_i hfw
      rw [List.filter_eq_nil_iff]
      intro p hp hh
      obtain ⟨t', e, a1, a2, a3, a4, a5, _, _, _, _, hatb⟩ := FF hr hbl hfw
      have hp1 := hasB_iff.1 (W7 hr m _ (by rw [AL]; exact hbl) p hp) k (by rw [AL]; exact hk)
      rw [hatb k, if_neg (fun e => a3 e.symm), if_pos rfl] at hp1
      have h7 := hasB_iff.1 hh k (by omega)
      rw [hvv] at h7
      omega
     ·rfl
    rcases h12 with rfl | rfl
    ·rw [other 2 (by omega), if_pos hfb, hA, List.append_nil]
    ·rw [other 1 (by omega), if_pos hfb, hA, List.nil_append]
theorem fQ {W T : Int} {cs : List Bool} {ds ls : List Int} (hok : okB W T cs ds ls = true) : (allT W T cs cs.length ls).filter (fun t => KD (B3 W T ds t)) = (DB W T cs ds).filter (J0 ls) := by
 have hok' := hok
 simp only [okB, Bool.and_eq_true] at hok'
 obtain ⟨hr, hd, hy⟩ := hok'
 have hl := Ao hy
 have hz : CH ls ≤ cs.length := by have := JU ls; omega
 have hn : (BO cs).length = cs.length := by simp [BO]
 have hzn : CH (BO cs) ≤ cs.length := by have := JU (BO cs); omega
 rw [ct (by simp only [hr, hd, Bool.and_self]), HL, if_pos hr, List.filter_filter]
 rw [← ZF hr cs.length (BO cs) ls cs.length hzn hz (QL W T cs) hy (hasB_iff.2 fun k _ => .inl (W5 cs k)), List.filter_filter]
 congr 1
 funext t
 exact Bool.and_comm _ _
def clr (G : Nat → Bool) (j : Nat) : Nat → Bool := fun i => G i && !(decide (i = j))
def kE (W T : Int) : Nat → Nat → (Nat → Bool) → Nat
 | 0, _, _ => 1
 | f + 1, c, G => if G c = true then (if 0 ≤ AJ W T c 1 ∧ G (c + 1) = true then kE W T f (c + 1) (clr G (c + 1)) else 0) + (if 0 ≤ AJ W T c 2 ∧ G (c + W.toNat) = true then kE W T f (c + 1) (clr G (c + W.toNat)) else 0)
   else kE W T f (c + 1) G
def nh (F : Nat → Bool) (c s : Nat) : Nat → Bool := fun i => F i && !(s.testBit (i - c))
def kF (g : Nat → Nat) (P : List (Nat × Nat)) : Nat := (P.map fun p => p.2 * g p.1).sum
structure OkP (W T : Int) (F : Nat → Bool) (n c tot : Nat) (P : List (Nat × Nat)) : Prop where
 lt : ∀ p ∈ P, p.1 < 2 ^ W.toNat ∧ p.1 < 2 ^ (n - c)
 tot : kF (fun s => kE W T (n - c) c (nh F c s)) P = tot
 sum : kF (fun _ => 1) P ≤ 2 ^ c
 len : P.length ≤ 2 ^ c
structure MidP (W T : Int) (F : Nat → Bool) (n c : Nat) (P : List (Nat × Nat)) (k : Nat) (Q : List (Nat × Nat)) : Prop where
 lt : ∀ p ∈ Q, p.1 < 2 ^ W.toNat ∧ p.1 < 2 ^ (n - (c + 1))
 tot : kF (fun s => kE W T (n - (c + 1)) (c + 1) (nh F (c + 1) s)) Q = kF (fun s => kE W T (n - c) c (nh F c s)) (P.take k)
 sum : kF (fun _ => 1) Q ≤ 2 * kF (fun _ => 1) (P.take k)
 len : Q.length ≤ 2 * k
@[simp] abbrev Er : Nat := 208
def Es : ACode := .seq (.reg [.o 5 .mv [.kb false]]) <| .seq (.seq (.reg [.la 6 3 1, .l 7 2, .m 8 0, .o 9 (.call 137 []) [.t 6, .t 7, .t 8]]) <| .cond (.t 9) ( .reg [.l 10 3, .m 11 0, .o 12 (.bsl 1) [.t 11], .o 13 (.app 1 24 false) [.t 10, .t 12], .s (.store 1) [.t 3, .t 13]]) ( .skip)) <| .seq (.reg [.o 5 .mv [.kb true]]) <| .ret
theorem J1 : cFn Tryz.prog Er 14 [.t 5] Es := ⟨Tryz.f208, _, Tryz.func208, rfl, by kernel_rfl, by kernel_rfl, by kernel_rfl, by kernel_rfl⟩
@[simp] abbrev Dk : Nat := 207
def Bf : ACode := .seq (.seq (.reg [.m 10 7, .m 11 1, .n 12 11, .o 13 (.bin .lss 0) [.t 10, .t 12], .m 14 13, .fg 15 2 3 14 true, .lg 16 15 14 true, .mg 17 7 14 true, .g 18 (.iadr 1) [.t 16, .t 17] 14 true, .lg 19 18 14 true, .g 20 (.un .not) [.t 19] 14 true, .mg 21 20 14 true, .mg 22 1 21 false, .mg 23 7 21 false, .g 24 (.iadr 1) [.t 22, .t 23] 21 false, .lg 25 24 21 false, .g 26 (.bin .neq 0) [.t 25, .k 0] 21 false, .g 27 .pick [.t 21, .kb true, .t 26] 14 true, .o 28 .pick [.t 14, .t 27, .kb false]]) <| .cond (.t 28) ( .skip) ( .exit 0)) <| .block 1 ( .reg [.m 29 7, .o 30 (.bin .add 0) [.t 29, .k 1], .m 7 30])
abbrev FG : Plan := .al (.g 57 (.call 207 []) [.t 50, .t 55, .t 56] 49 true) ( .take (.g 58 (.un .not) [.t 57] 49 true) <| .take (.o 59 .pick [.t 49, .t 58, .kb false]) <| .done)
abbrev FH : Plan := .al (.g 55 (.call 235 []) [.t 51, .t 52, .t 53, .t 54] 49 true) FG
def CZ : ACode := .seq (.reg [.o 41 (.bin .lss 0) [.t 40, .t 39]]) <| .seq (.cond (.t 41) ( .skip) ( .exit 2)) <| .seq (.block 3 ( .seq (.reg [.o 42 (.iadr 1) [.t 38, .t 40], .l 43 42, .m 9 43]) <| .seq (.draw ( .take (.m 45 1) <| .take (.m 46 7) <| .take (.m 47 9) <| .al (.la 44 3 3) ( .al (.o 48 (.call 234 []) [.t 44, .t 45, .t 46, .t 47]) ( .take (.m 49 48) <| .take (.mg 52 1 49 true) <| .take (.mg 53 7 49 true) <| .take (.mg 54 9 49 true) <| .take (.mg 56 2 49 true) <| .alt (.g 50 (.load true 3) [.t 3] 49 true) ( .al (.g 51 (.load true 3) [.t 3] 49 true) FH) <| .al (.g 51 (.load true 3) [.t 3] 49 true) ( .alt (.g 50 (.load true 3) [.t 3] 49 true) FH <| .al (.g 55 (.call 235 []) [.t 51, .t 52, .t 53, .t 54] 49 true) ( .al (.g 50 (.load true 3) [.t 3] 49 true) FG)))))) <| .cond (.t 59) ( .seq (.reg [.o 6 .mv [.kb false]]) <| .ret) ( .skip))) <| .reg [.o 60 (.bin .add 0) [.t 40, .k 1], .m 40 60]
def Jc : ACode := .seq (.reg [.o 3 .box [.t 0], .o 6 .mv [.kb false]]) <| .seq (.reg [.o 7 .mv [.k 0]]) <| .seq (.block 0 ( .loop [(1, 1)] [1, 2, 3, 7, 63] Bf)) <| .seq (.seq (.reg [.m 31 7, .m 32 1, .n 33 32, .o 34 (.bin .eql 0) [.t 31, .t 33]]) <| .cond (.t 34) ( .seq (.reg [.m 35 2, .m 36 1, .o 37 (.callv []) [.t 35, .t 36], .m 6 37]) <| .ret) ( .skip)) <| .seq (.seq (.reg [.o 38 (.bsl 1) [.k 1, .k 2], .n 39 38, .o 40 .mv [.k 0]]) <| .block 2 ( .loop [(1, 1), (38, 1)] [1, 2, 3, 7, 38, 39, 40, 63] CZ)) <| .seq (.reg [.o 6 .mv [.kb true]]) <| .ret
theorem QN : cFn Tryz.prog Dk 61 [.t 6] Jc := ⟨Tryz.f207, _, Tryz.func207, rfl, by kernel_rfl, by kernel_rfl, by kernel_rfl, by kernel_rfl⟩
@[simp] abbrev DC : Nat := 157
def EV : ACode := .seq (.reg [.l 13 7, .o 14 (.call 188 []) [.t 13], .m 6 14]) <| .ret
def Fe : ACode := .seq (.reg [.o 3 .box [.t 0], .o 4 .box [.t 1], .o 6 .mv [.c (.os 1 [])]]) <| .seq (.reg [.o 7 (.alloc [.os 1 []]) []]) <| .seq (.draw ( .take (.m 9 2) <| .take (.o 11 (.mkfn 208) [.t 3, .t 4, .t 7]) <| .alt (.la 8 3 3) ( .al (.o 10 (.call 126 []) [.t 9]) ( .al (.o 12 (.call 207 []) [.t 8, .t 10, .t 11]) ( .done))) <| .al (.o 10 (.call 126 []) [.t 9]) ( .al (.la 8 3 3) ( .al (.o 12 (.call 207 []) [.t 8, .t 10, .t 11]) ( .done))))) <| .gc [] [7] EV
theorem K5 : cFn Tryz.prog DC 15 [.t 6] Fe := ⟨Tryz.f157, _, Tryz.func157, rfl, by kernel_rfl, by kernel_rfl, by kernel_rfl, by kernel_rfl⟩
def cz (W T : Int) (ds t : List Int) : List (List Int) := if KD (B3 W T ds t) then [t] else []
end Go.Proofs.Dev
