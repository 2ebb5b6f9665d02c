/- Contracts of the functions of the program over slots and rows, each proved against the program itself; no condition beyond those that each theorem names. -/
import Derived.Test.YtfkmfobbgoflgaaGreatDoorAO
import Derived.Test.YtfkmfobbgoflgaaGreatDoorAH
import Derived.Test.YtfkmfobbgoflgaaGreatDoorProg
set_option linter.unusedSimpArgs false
set_option linter.unusedVariables false
set_option maxRecDepth 100000
namespace Go.Proofs.Dev
@[simp] def md1 (f : Nat) : List Bool := if f = 274 then [false, true] else md0 f
def B5 (cs : List Bool) (ls : List Int) (k : Nat) : Bool := atb cs k && decide (ati ls k = 0)
def E8 (cs : List Bool) (ls : List Int) : Int := D6 (B5 cs ls) ls.length
def allT (W T : Int) (cs : List Bool) : Nat → List Int → List (List Int)
 | 0, ls => [ls]
 | n + 1, ls => if E8 cs ls < 0 then [ls] else
     (if Ap W T cs ls (E8 cs ls) 1 then allT W T cs n (B4 W T ls (E8 cs ls) 1) else []) ++
     (if Ap W T cs ls (E8 cs ls) 2 then allT W T cs n (B4 W T ls (E8 cs ls) 2) else [])
theorem O2 (W T : Int) (cs : List Bool) : ∀ (n : Nat) (ls : List Int), (allT W T cs n ls).length ≤ 2 ^ n
 | 0, ls => by simp [allT]
 | n + 1, ls => by
   have h1 := O2 W T cs n (B4 W T ls (E8 cs ls) 1)
   have h2 := O2 W T cs n (B4 W T ls (E8 cs ls) 2)
   have h3 : 0 < 2 ^ n := Nat.pow_pos (by omega)
   rw [allT]
   split
   ·simp only [List.length_singleton]; omega
   ·rw [List.length_append]
    have e1 : (if Ap W T cs ls (E8 cs ls) 1 then allT W T cs n (B4 W T ls (E8 cs ls) 1) else []).length ≤ 2 ^ n := by
     split
     ·exact h1
     ·simp
    have e2 : (if Ap W T cs ls (E8 cs ls) 2 then allT W T cs n (B4 W T ls (E8 cs ls) 2) else []).length ≤ 2 ^ n := by
     split
     ·exact h2
     ·simp
    omega
theorem EK (cs : List Bool) (ls : List Int) : E8 cs ls = -1 ∨ ∃ k : Nat, k < ls.length ∧ E8 cs ls = k ∧ atb cs k = true ∧ ati ls k = 0 := by
 rcases Mv (B5 cs ls) ls.length with h | ⟨k, hk, hp, he⟩
 ·left; exact h
 ·right
  simp only [B5, Bool.and_eq_true, decide_eq_true_eq] at hp
  exact ⟨k, hk, he, hp.1, hp.2⟩
theorem Fj {W T : Int} {ls : List Int} {k : Nat} {way : Int} (hk : k < ls.length) (hz : ati ls k = 0) (h1 : 1 ≤ way) (h4 : way ≤ 4) : B9 (B4 W T ls k way) < B9 ls := by
 have hb : Ca way ≠ 0 := by
  have := (GZ h1 h4).2
  omega
 refine Nat.lt_of_le_of_lt (Rr hb) ?_
 exact Jc (by simpa using hk) (by simpa using hz) (by omega)
theorem KE (W T : Int) (cs : List Bool) (ls : List Int) (hl : ls.length = cs.length) (hb : cs.length < 2 ^ 40) :
  SoundAt Tryz.prog OG [.agg [.v (.int .i64 W), .v (.int .i64 T), .sl 1 1 (AD cs)], .sl 1 1 (AC ls)] (.v (.int .i64 (E8 cs ls))) [.bot, .bot] := by
 refine AJ (md := md0) (ms := [false, false]) U8 (by simp) ?_
 simp [OH]
 refine AH (fun m E H => ∃ i : Nat, m = ls.length - i ∧ i ≤ ls.length ∧ (∀ j : Nat, j < i → B5 cs ls j = false) ∧ H = [some (.box [.v (.int .i64 W), .v (.int .i64 T), .sl 1 1 (AD cs)])] ∧
  E = [(1, .sl 1 1 (AC ls)), (2, .lp 0 0 0 0), (5, .v (.int .i64 i))]) ls.length ⟨0, by simp⟩ ?_
 rintro J hJ m E H ⟨i, rfl, hi, ha, rfl, rfl⟩
 by_cases h : i < ls.length
 case neg =>
  have : i = ls.length := by omega
  subst this
  have e : E8 cs ls = -1 := C6 ha
  simp [Ct, e]
 have next : B5 cs ls i = false → Cx J (ls.length - i) [(1, .sl 1 1 (AC ls)), (2, .lp 0 0 0 0), (5, .v (.int .i64 (i + 1)))]
   [some (.box [.v (.int .i64 W), .v (.int .i64 T), .sl 1 1 (AD cs)])] := by
  intro hx
  refine ⟨_, by omega, hJ _ _ _ ⟨i + 1, rfl, h, ?_, rfl, rfl⟩⟩
  intro j hj
  rcases Nat.lt_or_ge j i with h1 | h1
  ·exact ha j h1
  ·have : j = i := by omega
   subst this; exact hx
 have h2 : i < cs.length := by omega
 cases hc : atb cs i with
 | false =>
   simp [Ct, h, h2, hc]
   exact ⟨by omega, next (by simp [B5, hc])⟩
 | true =>
 by_cases z : ati ls i = 0
 ·have e : E8 cs ls = i := DT h (by simp [B5, hc, z]) ha
  simp [Ct, h, h2, hc, z, e]
 ·simp [Ct, h, h2, hc, z]
  exact ⟨by omega, next (by simp [B5, z])⟩
theorem T4 {W T : Int} {cs : List Bool} {ls : List Int} (n : Nat) (h : E8 cs ls < 0) : allT W T cs n ls = [ls] := by
 cases n with
 | zero => rfl
 | succ n => simp [allT, h]
def RH (W T : Int) (cs : List Bool) (n : Nat) (ls : List Int) (cell way : Int) : List (List Int) := if Ap W T cs ls cell way then allT W T cs n (B4 W T ls cell way) else []
def U9 (W T : Int) (cs : List Bool) (n : Nat) (ls : List Int) (cell : Int) (i : Nat) : List (List Int) := (List.range i).flatMap fun j : Nat => RH W T cs n ls cell (j + 1)
theorem T5 (W T : Int) (cs : List Bool) (n : Nat) (ls : List Int) (cell : Int) (i : Nat) : U9 W T cs n ls cell (i + 1) = U9 W T cs n ls cell i ++ RH W T cs n ls cell (i + 1) := by
 simp [U9, List.range_succ]
theorem YA (W T : Int) (cs : List Bool) (n : Nat) (ls : List Int) (cell way : Int) : (RH W T cs n ls cell way).length ≤ 2 ^ n := by
 unfold RH; split
 ·exact O2 ..
 ·simp
theorem T6 (W T : Int) (cs : List Bool) (n : Nat) (ls : List Int) (cell : Int) : ∀ i, (U9 W T cs n ls cell i).length ≤ i * 2 ^ n
 | 0 => by simp [U9]
 | i + 1 => by
   have h1 := T6 W T cs n ls cell i
   have h2 := YA W T cs n ls cell (i + 1)
   rw [T5, List.length_append, Nat.succ_mul]
   omega
theorem M4 {ls : List Int} {k : Nat} (h : k < ls.length) (hz : ati ls k = 0) : 0 < B9 ls := by
 have := Jc (v := 1) h hz (by omega)
 omega
def A5 (cs : List Bool) : List Int := List.replicate cs.length 0
theorem Sz (cs : List Bool) (k : Int) : ati (A5 cs) k = 0 := by
 unfold ati A5
 rw [List.getD_eq_getElem?_getD, List.getElem?_replicate]
 split <;> rfl
theorem M5 (W T : Int) (cs : List Bool) : AU W T cs (A5 cs) = true := by
 simp only [AU, Bool.and_eq_true, decide_eq_true_eq, CI]
 refine ⟨by simp [A5], fun k _ => ?_⟩
 simp only [ID, decide_eq_true_eq]
 exact .inl (Sz cs k)
theorem W7 (W T : Int) (cs : List Bool) : ∀ (n : Nat) (ls p : List Int), p ∈ allT W T cs n ls → p.length = ls.length
 | 0, ls, p, h => by simp [allT] at h; rw [h]
 | n + 1, ls, p, h => by
   rw [allT] at h
   split at h
   ·simp at h; rw [h]
   ·rw [List.mem_append] at h
    rcases h with h | h <;> split at h
    ·rw [W7 W T cs n _ p h, AN]
    ·cases h
    ·rw [W7 W T cs n _ p h, AN]
    ·cases h
def V2 (W T : Int) (cs : List Bool) : List (List Int) := if A3 W T cs then allT W T cs cs.length (A5 cs) else []
theorem dR {W T : Int} {cs : List Bool} {p : List Int} (h : p ∈ V2 W T cs) : p.length = cs.length := by
 unfold V2 at h
 split at h
 ·rw [W7 W T cs _ _ p h]; simp [A5]
 ·cases h
theorem Ia (W T : Int) (cs : List Bool) (hb : cs.length < 2 ^ 40) :
  SoundAt Tryz.prog M2 [.agg [.v (.int .i64 W), .v (.int .i64 T), .sl 1 1 (AD cs)]] (.os 1 (AC (if A3 W T cs then A5 cs else []))) [.bot] := by
 refine AJ (md := md0) (ms := [false]) Tz (by simp) ?_
 simp [M3]
 refine AA (An W T cs hb) ?_
 cases hr : A3 W T cs with
 | false => simp
 | true =>
 simp [A5, gB]
 exact ⟨by omega, List.take_of_length_le (by simp)⟩
def RI (W T : Int) (cs : List Bool) (ds : List Int) : List (List Int) := if (A3 W T cs && DV cs ds) = true then (V2 W T cs).filter (Mp W T cs ds) else []
theorem RJ {p : Nat → Bool} {n : Nat} (h : D6 p n < 0) : ∀ j, j < n → p j = false := by
 intro j hj
 cases hx : p j with
 | false => rfl
 | true =>
   exfalso
   have hm : ∃ x ∈ List.range n, p x = true := ⟨j, by simpa using hj, hx⟩
   have hs := List.find?_isSome.2 hm
   unfold D6 at h
   split at h
   ·omega
   ·rename_i h9; rw [h9] at hs; cases hs
theorem Rs {cs : List Bool} {ls : List Int} (hl : ls.length = cs.length) (h : E8 cs ls < 0) : LH cs ls = true := by
 rw [LH, CI]
 intro k hk
 have h1 := RJ h k (by omega)
 simp only [B5] at h1
 simp only [IP, h1]
 rfl
theorem dS {W T : Int} {cs : List Bool} (hr : A3 W T cs = true) : ∀ (n : Nat) (ls : List Int), B9 ls ≤ n → AU W T cs ls = true → ∀ p ∈ allT W T cs n ls, AU W T cs p = true ∧ LH cs p = true := by
 intro n
 induction n with
 | zero =>
   intro ls hz hy p hp
   have hl : ls.length = cs.length := by simp only [AU, Bool.and_eq_true, decide_eq_true_eq] at hy; exact hy.1
   simp only [allT, List.mem_singleton] at hp
   subst hp
   refine ⟨hy, Rs hl ?_⟩
   rcases EK cs p with h | ⟨k, hk, he, hc, hzk⟩
   ·omega
   ·have := M4 hk hzk
    omega
 | succ n ih =>
   intro ls hz hy p hp
   have hl : ls.length = cs.length := by simp only [AU, Bool.and_eq_true, decide_eq_true_eq] at hy; exact hy.1
   rw [allT] at hp
   split at hp
   ·rename_i hb
    simp only [List.mem_singleton] at hp
    subst hp
    exact ⟨hy, Rs hl hb⟩
   ·rename_i hb
    rcases EK cs ls with h | ⟨k, hk, he, hc, hzk⟩
    ·omega
    rw [he] at hp
    have step : ∀ way : Int, 1 ≤ way → way ≤ 4 → Ap W T cs ls k way = true → p ∈ allT W T cs n (B4 W T ls k way) → AU W T cs p = true ∧ LH cs p = true := by
     intro way w1 w4 hf hm
     have hz2 : B9 (B4 W T ls k way) < B9 ls := Fj hk hzk w1 w4
     exact ih (B4 W T ls k way) (by omega) (KW hr hy hf) p hm
    rw [List.mem_append] at hp
    rcases hp with hp | hp
    ·split at hp
     ·rename_i hf; exact step 1 (by omega) (by omega) hf hp
     ·cases hp
    ·split at hp
     ·rename_i hf; exact step 2 (by omega) (by omega) hf hp
     ·cases hp
theorem dT {W T : Int} {cs : List Bool} {ds : List Int} (h : (A3 W T cs && DV cs ds) = true) : RI W T cs ds = (V2 W T cs).filter (fun t => J9 (BZ W T ds t)) := by
 have hr : A3 W T cs = true := by simp only [Bool.and_eq_true] at h; exact h.1
 have hd : DV cs ds = true := by simp only [Bool.and_eq_true] at h; exact h.2
 have hn : (A5 cs).length = cs.length := by simp [A5]
 have hz : B9 (A5 cs) ≤ cs.length := by have := LJ (A5 cs); omega
 rw [RI, if_pos h]
 apply List.filter_congr
 intro t ht
 rw [V2, if_pos hr] at ht
 obtain ⟨h1, h2⟩ := dS hr cs.length (A5 cs) hz (M5 W T cs) t ht
 simp only [Mp, Ah, okB, hr, hd, h1, h2, Bool.true_and, Bool.and_true]
def Km (ls p : List Int) : Bool := Vp ls.length fun k => decide (ati ls k = 0) || decide (ati p k = ati ls k)
theorem hasB_iff {ls p : List Int} : Km ls p = true ↔ ∀ k : Nat, k < ls.length → ati ls k = 0 ∨ ati p k = ati ls k := by
 simp only [Km, CI, Bool.or_eq_true, decide_eq_true_eq]
theorem Kn (ls : List Int) : Km ls ls = true := hasB_iff.2 fun _ _ => .inr rfl
theorem V3 {p : Nat → Bool} {n k : Nat} (h : D6 p n = k) : ∀ j, j < k → p j = false := by
 intro j hj
 unfold D6 at h
 split at h
 ·rename_i k' hk
  rw [List.find?_range_eq_some] at hk
  have : k' = k := by omega
  subst this
  have := hk.2.2 j hj
  simpa using this
 ·omega
theorem kN {W T : Int} {ls : List Int} {cell way : Int} (hc : cell.toNat < ls.length) (hto : (AF W T cell way).toNat < ls.length) (j : Nat) :
  ati (B4 W T ls cell way) j = if j = (AF W T cell way).toNat then Ca way else if j = cell.toNat then way else ati ls j := by
 unfold B4
 rw [Mi (by simpa using hto), Mi hc]
theorem EL {W T : Int} {cs : List Bool} {ls : List Int} {k : Nat} {way : Int} (hr : A3 W T cs = true) (hl : ls.length = cs.length) (hf : Ap W T cs ls k way = true) :
  ∃ t : Nat, AF W T k way = t ∧ t < ls.length ∧ k < ls.length ∧ t ≠ k ∧ 1 ≤ way ∧ way ≤ 4 ∧ AF W T t (Ca way) = k ∧ atb cs t = true ∧ ati ls k = 0 ∧ ati ls t = 0 ∧
    ∀ j : Nat, ati (B4 W T ls k way) j = if j = t then Ca way else if j = k then way else ati ls j := by
 obtain ⟨w1, w2, t1, t2, l1, _⟩ := BI hr
 simp only [Ap, decide_eq_true_eq] at hf
 obtain ⟨f0, f1, f2, f3, f4, f5, f6⟩ := hf
 obtain ⟨b1, b2, b3, b4, b5⟩ := Co (T := T) w1 f0 (by omega) f2
 have e : AF W T k way = ((AF W T k way).toNat : Nat) := by omega
 refine ⟨(AF W T k way).toNat, e, by omega, by omega, by omega, b2, b3, by rw [← e]; exact b1, by rw [← e]; exact f4, f5, by rw [← e]; exact f6, ?_⟩
 intro j
 rw [kN (by omega) (by omega)]
 simp
theorem W8 {W T : Int} {cs : List Bool} (hr : A3 W T cs = true) : ∀ (n : Nat) (ls : List Int), ls.length = cs.length → ∀ p ∈ allT W T cs n ls, Km ls p = true := by
 intro n
 induction n with
 | zero =>
   intro ls hl p hp
   simp only [allT, List.mem_singleton] at hp
   subst hp; exact Kn p
 | succ n ih =>
   intro ls hl p hp
   rw [allT] at hp
   split at hp
   ·simp only [List.mem_singleton] at hp
    subst hp; exact Kn p
   rcases EK cs ls with h | ⟨k, hk, he, hc, hzk⟩
   ·omega
   rw [he] at hp
   have step : ∀ way : Int, Ap W T cs ls k way = true → p ∈ allT W T cs n (B4 W T ls k way) → Km ls p = true := by
    intro way hf hm
    obtain ⟨t, e, t1, t2, t3, _, _, _, _, z1, z2, hat⟩ := EL hr hl hf
    have h1 := hasB_iff.1 (ih _ (by rw [AN]; exact hl) p hm)
    rw [hasB_iff]
    intro j hj
    have h2 := h1 j (by rw [AN]; exact hj)
    rw [hat j] at h2
    by_cases e1 : j = t
    ·subst e1; exact .inl z2
    by_cases e2 : j = k
    ·subst e2; exact .inl z1
    rw [if_neg e1, if_neg e2] at h2
    exact h2
   rw [List.mem_append] at hp
   rcases hp with hp | hp
   ·split at hp
    ·rename_i hf; exact step 1 hf hp
    ·cases hp
   ·split at hp
    ·rename_i hf; exact step 2 hf hp
    ·cases hp
theorem kO {a b : List Int} (hl : a.length = b.length) (h : ∀ k : Nat, k < a.length → ati a k = ati b k) : a = b := by
 apply List.ext_getElem hl
 intro i h1 h2
 have := h i h1
 simpa [ati, h1, h2] using this
theorem Ib {W T : Int} {cs : List Bool} {ls : List Int} (hy : AU W T cs ls = true) {k : Nat} (hk : k < ls.length) (hv : ati ls k ≠ 0) :
  1 ≤ ati ls k ∧ ati ls k ≤ 4 ∧ atb cs k = true ∧ 0 ≤ AF W T k (ati ls k) ∧ atb cs (AF W T k (ati ls k)) = true ∧ ati ls (AF W T k (ati ls k)) = Ca (ati ls k) := by
 simp only [AU, Bool.and_eq_true, decide_eq_true_eq, CI] at hy
 have := hy.2 k hk
 simp only [ID, decide_eq_true_eq] at this
 rcases this with h | h
 ·exact absurd h hv
 ·exact h
theorem Aj {W T : Int} {cs : List Bool} {ls : List Int} (hy : AU W T cs ls = true) : ls.length = cs.length := by
 simp only [AU, Bool.and_eq_true, decide_eq_true_eq] at hy; exact hy.1
theorem T7 {W T : Int} {cs : List Bool} {ls : List Int} (hr : A3 W T cs = true) (hy : AU W T cs ls = true) {k t : Nat} {way : Int} (hk : k < ls.length) (ht : AF W T k way = t) (hv : ati ls t = Ca way) : ati ls k = way := by
 obtain ⟨w1, w2, t1, t2, l1, _⟩ := BI hr
 have hl := Aj hy
 obtain ⟨b1, b2, b3, b4, b5⟩ := Co (W := W) (T := T) (k := k) (way := way) w1 (by omega) (by omega) (by omega)
 obtain ⟨c1, c2, c3⟩ := GZ b2 b3
 obtain ⟨_, _, _, _, _, g⟩ := Ib hy (k := t) (by omega) (by omega)
 rw [hv, ← ht, b1, c1] at g
 exact g
theorem dU {W T : Int} {cs : List Bool} {b ls : List Int} {k : Nat} {way : Int} (hr : A3 W T cs = true) (hb : b.length = cs.length) (hf : Ap W T cs b k way = true) (hs : Km b ls = true) (h1 : ati ls k = way) (h2 : ati ls (AF W T k way) = Ca way) :
  Km (B4 W T b k way) ls = true := by
 obtain ⟨t, e, t1, t2, t3, _, _, _, _, z1, z2, hat⟩ := EL hr hb hf
 rw [e] at h2
 rw [hasB_iff] at hs ⊢
 intro j hj
 rw [AN] at hj
 rw [hat j]
 by_cases e1 : j = t
 ·subst e1; rw [if_pos rfl]; exact .inr h2
 rw [if_neg e1]
 by_cases e2 : j = k
 ·subst e2; rw [if_pos rfl]; exact .inr h1
 rw [if_neg e2]
 exact hs j hj
theorem dV {W T : Int} {cs : List Bool} {b ls : List Int} (hyb : AU W T cs b = true) (hyl : AU W T cs ls = true) (hs : Km b ls = true) (h : E8 cs b < 0) : ls = b := by
 have hbl := Aj hyb
 have hll := Aj hyl
 refine kO (by omega) fun k hk => ?_
 rcases hasB_iff.1 hs k (by omega) with h1 | h1
 ·have h2 := RJ h k (by omega)
  by_cases hv : ati ls k = 0
  ·omega
  ·obtain ⟨_, _, g, _⟩ := Ib hyl hk hv
   simp [B5, h1, g] at h2
 ·exact h1
theorem T8 {W T : Int} {cs : List Bool} {b ls : List Int} (m n : Nat) (hyb : AU W T cs b = true) (hyl : AU W T cs ls = true) (hs : Km b ls = true) (h : E8 cs b < 0) :
  (allT W T cs m b).filter (Km ls) = allT W T cs n ls := by
 have e := dV hyb hyl hs h
 subst e
 rw [T4 _ h, T4 _ h]
 simp [Kn]
theorem ZI {W T : Int} {cs : List Bool} (hr : A3 W T cs = true) : ∀ (m : Nat) (b ls : List Int) (n : Nat), B9 b ≤ m → B9 ls ≤ n → AU W T cs b = true → AU W T cs ls = true → Km b ls = true →
  (allT W T cs m b).filter (Km ls) = allT W T cs n ls := by
 obtain ⟨w1, w2, t1, t2, l1, _⟩ := BI hr
 intro m
 induction m with
 | zero =>
   intro b ls n hzb hzl hyb hyl hs
   rcases EK cs b with h | ⟨k, hk, he, hc, hzk⟩
   ·exact T8 0 n hyb hyl hs (by omega)
   ·have := M4 hk hzk
    omega
 | succ m ih =>
   intro b ls n hzb hzl hyb hyl hs
   rcases EK cs b with h | ⟨k, hk, he, hc, hzk⟩
   ·exact T8 (m + 1) n hyb hyl hs (by omega)
   have hbl := Aj hyb
   have hll := Aj hyl
   have hk0 : ¬ (k : Int) < 0 := by omega
   have hmin : ∀ j, j < k → B5 cs b j = false := V3 he
   rw [allT, he, if_neg hk0, List.filter_append]
   by_cases hv : ati ls k = 0
   ·have hbk : E8 cs ls = k := by
     refine DT (by omega) (by simp [B5, hc, hv]) (fun j hj => ?_)
     have h1 := hmin j hj
     rcases hasB_iff.1 hs j (by omega) with h2 | h2
     ·simp [B5, h2] at h1
      simp [B5, h1]
     ·simp only [B5] at h1 ⊢
      rw [h2]; exact h1
    have hzp := M4 (ls := ls) (k := k) (by omega) hv
    obtain ⟨n', rfl⟩ : ∃ n', n = n' + 1 := ⟨n - 1, by omega⟩
    have stepA : ∀ way : Int, 1 ≤ way → way ≤ 4 → (if Ap W T cs b k way then allT W T cs m (B4 W T b k way) else []).filter (Km ls) = (if Ap W T cs ls k way then allT W T cs n' (B4 W T ls k way) else []) := by
     intro way v1 v4
     by_cases hf : Ap W T cs ls k way = true
     ·obtain ⟨t, e, a1, a2, a3, _, _, a6, a7, z1, z2, hat⟩ := EL hr hll hf
      have hfb : Ap W T cs b k way = true := by
       simp only [Ap, decide_eq_true_eq] at hf ⊢
       obtain ⟨f0, f1, f2, f3, f4, f5, f6⟩ := hf
       refine ⟨f0, by omega, f2, f3, f4, hzk, ?_⟩
       rw [e]
       rcases hasB_iff.1 hs t (by omega) with h2 | h2
       ·exact h2
       ·rw [← h2]; exact z2
      rw [if_pos hf, if_pos hfb]
      have hzb' : B9 (B4 W T b k way) < B9 b := Fj hk hzk v1 v4
      have hzl' : B9 (B4 W T ls k way) < B9 ls := Fj (by omega) hv v1 v4
      obtain ⟨t', e', _, _, _, _, _, _, _, y1, y2, hatb⟩ := EL hr hbl hfb
      have et : t' = t := by omega
      subst et
      have hs' : Km (B4 W T b k way) (B4 W T ls k way) = true := by
       rw [hasB_iff]
       intro j hj
       rw [AN] at hj
       rw [hatb j, hat j]
       by_cases e1 : j = t'
       ·rw [if_pos e1, if_pos e1]; exact .inr rfl
       by_cases e2 : j = k
       ·rw [if_neg e1, if_neg e1, if_pos e2, if_pos e2]; exact .inr rfl
       rw [if_neg e1, if_neg e1, if_neg e2, if_neg e2]
       exact hasB_iff.1 hs j hj
      rw [← ih _ _ n' (by omega) (by omega) (KW hr hyb hfb) (KW hr hyl hf) hs']
      apply List.filter_congr
      intro p hp
      have hp1 := hasB_iff.1 (W8 hr m _ (by rw [AN]; exact hbl) p hp)
      rw [Bool.eq_iff_iff, hasB_iff, hasB_iff]
      constructor
      ·intro h j hj
       rw [AN] at hj
       rw [hat j]
       by_cases e1 : j = t'
       ·have h5 := hp1 j (by rw [AN]; omega)
        rw [hatb j, if_pos e1] at h5
        rw [if_pos e1]; exact h5
       by_cases e2 : j = k
       ·have h5 := hp1 j (by rw [AN]; omega)
        rw [hatb j, if_neg e1, if_pos e2] at h5
        rw [if_neg e1, if_pos e2]; exact h5
       rw [if_neg e1, if_neg e2]
       exact h j hj
      ·intro h j hj
       have h3 := h j (by rw [AN]; exact hj)
       rw [hat j] at h3
       by_cases e1 : j = t'
       ·subst e1; exact .inl z2
       by_cases e2 : j = k
       ·subst e2; exact .inl z1
       rw [if_neg e1, if_neg e2] at h3
       exact h3
     ·rw [if_neg hf]
      by_cases hfb : Ap W T cs b k way = true
      ·rw [if_pos hfb, List.filter_eq_nil_iff]
       intro p hp hh
       obtain ⟨t, e, a1, a2, a3, _, _, a6, a7, y1, y2, hatb⟩ := EL hr hbl hfb
       have hp1 := hasB_iff.1 (W8 hr m _ (by rw [AN]; exact hbl) p hp) t (by rw [AN]; exact a1)
       rw [hatb t, if_pos rfl] at hp1
       have hb4 := (GZ v1 v4).2
       have hpt : ati p t = Ca way := by omega
       have hlt : ati ls t ≠ 0 := by
        intro h0
        apply hf
        simp only [Ap, decide_eq_true_eq] at hfb ⊢
        obtain ⟨f0, f1, f2, f3, f4, _, _⟩ := hfb
        refine ⟨f0, f1, f2, f3, f4, hv, ?_⟩
        rw [e]; exact h0
       have hl2 := hasB_iff.1 hh t (by omega)
       have hl3 : ati ls t = Ca way := by omega
       have := T7 hr hyl (k := k) (t := t) (way := way) (by omega) e hl3
       omega
      ·rw [if_neg hfb]; rfl
    rw [stepA 1 (by omega) (by omega), stepA 2 (by omega) (by omega), allT.eq_2, hbk, if_neg hk0]
   ·obtain ⟨v1, v4, g3, g4, g5, g6⟩ := Ib hyl (k := k) (by omega) hv
    obtain ⟨v, hvv⟩ : ∃ v, ati ls k = v := ⟨_, rfl⟩
    rw [hvv] at v1 v4 g4 g5 g6 hv
    obtain ⟨_, _, _, _, b5⟩ := Co (W := W) (T := T) (k := k) (way := v) w1 (by omega) (by omega) g4
    obtain ⟨t, ht⟩ : ∃ t : Nat, AF W T k v = t := ⟨(AF W T k v).toNat, by omega⟩
    have hbt : ati b t = 0 := by
     rcases hasB_iff.1 hs t (by omega) with h | h
     ·exact h
     ·exfalso
      rw [ht] at g6
      have := T7 hr hyb (k := k) (t := t) (way := v) hk ht (by rw [← h]; exact g6)
      omega
    have h12 : v = 1 ∨ v = 2 := by
     by_cases h3 : v ≤ 2
     ·omega
     exfalso
     have hlt : t < k := by
      unfold AF at ht
      have h4 : v = 3 ∨ v = 4 := by omega
      rcases h4 with rfl | rfl
      ·simp at ht
       split at ht <;> omega
      ·simp at ht
       split at ht <;> omega
     have h1 := hmin t hlt
     rw [ht] at g5
     simp [B5, g5] at h1
     exact h1 hbt
    have hfb : Ap W T cs b k v = true := by
     simp only [Ap, decide_eq_true_eq]
     exact ⟨by omega, by omega, g4, hc, g5, hzk, by rw [ht]; exact hbt⟩
    have hzb' : B9 (B4 W T b k v) < B9 b := Fj hk hzk v1 v4
    have hA := ih (B4 W T b k v) ls n (by omega) hzl (KW hr hyb hfb) hyl (dU hr hbl hfb hs hvv g6)
    have other : ∀ w : Int, w ≠ v → (if Ap W T cs b k w then allT W T cs m (B4 W T b k w) else []).filter (Km ls) = [] := by
     intro w hw
     split
     ·rename_i hfw
      rw [List.filter_eq_nil_iff]
      intro p hp hh
      obtain ⟨t', e, a1, a2, a3, a4, a5, _, _, _, _, hatb⟩ := EL hr hbl hfw
      have hp1 := hasB_iff.1 (W8 hr m _ (by rw [AN]; exact hbl) p hp) k (by rw [AN]; exact hk)
      rw [hatb k, if_neg (fun e => a3 e.symm), if_pos rfl] at hp1
      have h7 := hasB_iff.1 hh k (by omega)
      rw [hvv] at h7
      omega
     ·rfl
    rcases h12 with rfl | rfl
    ·rw [other 2 (by omega), if_pos hfb, hA, List.append_nil]
    ·rw [other 1 (by omega), if_pos hfb, hA, List.nil_append]
theorem gU {W T : Int} {cs : List Bool} {ds ls : List Int} (hok : okB W T cs ds ls = true) : (allT W T cs cs.length ls).filter (fun t => J9 (BZ W T ds t)) = (RI W T cs ds).filter (Km ls) := by
 have hok' := hok
 simp only [okB, Bool.and_eq_true] at hok'
 obtain ⟨hr, hd, hy⟩ := hok'
 have hl := Aj hy
 have hz : B9 ls ≤ cs.length := by have := LJ ls; omega
 have hn : (A5 cs).length = cs.length := by simp [A5]
 have hzn : B9 (A5 cs) ≤ cs.length := by have := LJ (A5 cs); omega
 rw [dT (by simp only [hr, hd, Bool.and_self]), V2, if_pos hr, List.filter_filter]
 rw [← ZI hr cs.length (A5 cs) ls cs.length hzn hz (M5 W T cs) hy (hasB_iff.2 fun k _ => .inl (Sz cs k)), List.filter_filter]
 congr 1
 funext t
 exact Bool.and_comm _ _
def clr (G : Nat → Bool) (j : Nat) : Nat → Bool := fun i => G i && !(decide (i = j))
def PF (W T : Int) : Nat → Nat → (Nat → Bool) → Nat
 | 0, _, _ => 1
 | f + 1, c, G => if G c = true then (if 0 ≤ AF W T c 1 ∧ G (c + 1) = true then PF W T f (c + 1) (clr G (c + 1)) else 0) + (if 0 ≤ AF W T c 2 ∧ G (c + W.toNat) = true then PF W T f (c + 1) (clr G (c + W.toNat)) else 0)
   else PF W T f (c + 1) G
theorem EM {W T : Int} : ∀ (f c : Nat) {G G' : Nat → Bool}, (∀ i, c ≤ i → G i = G' i) → PF W T f c G = PF W T f c G'
 | 0, _, _, _, _ => rfl
 | f + 1, c, G, G', h => by
   have h1 := EM (W := W) (T := T) f (c + 1) (G := G) (G' := G') (fun i hi => h i (by omega))
   have h2 := EM (W := W) (T := T) f (c + 1) (G := clr G (c + 1)) (G' := clr G' (c + 1)) (fun i hi => by simp [clr, h i (by omega)])
   have h3 := EM (W := W) (T := T) f (c + 1) (G := clr G (c + W.toNat)) (G' := clr G' (c + W.toNat)) (fun i hi => by simp [clr, h i (by omega)])
   simp only [PF, h c (Nat.le_refl c), h (c + 1) (by omega), h (c + W.toNat) (by omega), h1, h2, h3]
theorem M6 {W T : Int} (f : Nat) {G : Nat → Bool} : ∀ (d c : Nat), (∀ i, c ≤ i → i < c + d → G i = false) → PF W T (f + d) c G = PF W T f (c + d) G
 | 0, c, _ => rfl
 | d + 1, c, h => by
   have h0 := h c (Nat.le_refl c) (by omega)
   have h1 := M6 (W := W) (T := T) f d (c + 1) (fun i h2 h3 => h i (by omega) (by omega))
   rw [show f + (d + 1) = (f + d) + 1 by omega, PF, if_neg (by simp [h0]), h1, show c + 1 + d = c + (d + 1) by omega]
theorem T9 {W T : Int} : ∀ (f c : Nat) (G : Nat → Bool), PF W T f c G ≤ 2 ^ f
 | 0, _, _ => by simp [PF]
 | f + 1, c, G => by
   have h1 := T9 (W := W) (T := T) f (c + 1) G
   have h2 := T9 (W := W) (T := T) f (c + 1) (clr G (c + 1))
   have h3 := T9 (W := W) (T := T) f (c + 1) (clr G (c + W.toNat))
   rw [PF, Nat.pow_succ]
   split
   ·split <;> split <;> omega
   ·omega
theorem nN {W T : Int} {c : Nat} (h : 0 ≤ AF W T c 1) : AF W T c 1 = ((c + 1 : Nat) : Int) := by
 unfold AF at h ⊢
 by_cases hc : (c : Int) % W < W - 1
 ·simp [hc]
 ·simp [hc] at h
theorem nO {W T : Int} {c : Nat} (hW : 1 ≤ W) (h : 0 ≤ AF W T c 2) : AF W T c 2 = ((c + W.toNat : Nat) : Int) := by
 unfold AF at h ⊢
 by_cases hc : (c : Int) / W < T - 1
 ·simp [hc]; omega
 ·simp [hc] at h
theorem Z9 {W T : Int} {cs : List Bool} (hr : A3 W T cs = true) : ∀ (n : Nat) (ls : List Int), B9 ls ≤ n → AU W T cs ls = true → PF W T cs.length 0 (B5 cs ls) = (allT W T cs n ls).length := by
 obtain ⟨w1, w2, t1, t2, l1, _⟩ := BI hr
 intro n
 induction n with
 | zero =>
   intro ls hz hy
   have hlen : ls.length = cs.length := by simp only [AU, Bool.and_eq_true, decide_eq_true_eq] at hy; exact hy.1
   have hf : ∀ i, 0 ≤ i → i < 0 + cs.length → B5 cs ls i = false := by
    intro i _ hi
    cases hb : B5 cs ls i with
    | false => rfl
    | true =>
      simp only [B5, Bool.and_eq_true, decide_eq_true_eq] at hb
      have := Jc (ls := ls) (i := i) (v := 1) (by omega) hb.2 (by omega)
      omega
   have := M6 (W := W) (T := T) 0 cs.length 0 hf
   rw [Nat.zero_add] at this
   rw [this]; simp [PF, allT]
 | succ n ih =>
   intro ls hz hy
   have hlen : ls.length = cs.length := by simp only [AU, Bool.and_eq_true, decide_eq_true_eq] at hy; exact hy.1
   rcases EK cs ls with hb | ⟨c, hc, hb, hcs, hls⟩
   ·have hf : ∀ i, 0 ≤ i → i < 0 + cs.length → B5 cs ls i = false := by
     intro i _ hi
     exact RJ (p := B5 cs ls) (n := ls.length) (by unfold E8 at hb; omega) i (by omega)
    have := M6 (W := W) (T := T) 0 cs.length 0 hf
    rw [Nat.zero_add] at this
    rw [this]; simp [PF, allT, hb]
   have hmin := V3 (by unfold E8 at hb; exact hb)
   have hGc : B5 cs ls c = true := by simp [B5, hcs, hls]
   obtain ⟨m, hm⟩ : ∃ m, cs.length = (m + 1) + c := ⟨cs.length - c - 1, by omega⟩
   have hskip := M6 (W := W) (T := T) (m + 1) (G := B5 cs ls) c 0 (fun i _ hi => hmin i (by omega))
   rw [← hm, Nat.zero_add] at hskip
   rw [hskip, PF, if_pos hGc, allT]
   have hneg : ¬ E8 cs ls < 0 := by omega
   rw [if_neg hneg, List.length_append, hb]
   have one : ∀ (way d : Nat), (way = 1 ∨ way = 2) → (0 ≤ AF W T c way → AF W T c way = ((c + d : Nat) : Int)) → 1 ≤ d →
     (if 0 ≤ AF W T c way ∧ B5 cs ls (c + d) = true then PF W T m (c + 1) (clr (B5 cs ls) (c + d)) else 0) = (if Ap W T cs ls c way = true then allT W T cs n (B4 W T ls c way) else []).length := by
    intro way d hw hst hd
    have hfree : Ap W T cs ls c way = true ↔ (0 ≤ AF W T c way ∧ B5 cs ls (c + d) = true) := by
     simp only [Ap, decide_eq_true_eq, B5, Bool.and_eq_true]
     constructor
     ·rintro ⟨_, _, h2, _, h4, _, h6⟩
      have e := hst h2
      rw [e] at h4 h6
      exact ⟨h2, h4, h6⟩
     ·rintro ⟨h2, h4, h6⟩
      have e := hst h2
      rw [e]
      exact ⟨by omega, by omega, by omega, hcs, h4, hls, h6⟩
    by_cases hfr : Ap W T cs ls c way = true
    ·rw [if_pos hfr, if_pos (hfree.1 hfr)]
     have h2 := (hfree.1 hfr).1
     have e := hst h2
     have hlt := (Co (T := T) (k := c) (way := way) w1 (by omega) (by omega) h2).2.2.2.2
     have hto : (AF W T c way).toNat < ls.length := by omega
     have hzz := Fj (W := W) (T := T) (ls := ls) (k := c) (way := way) hc hls (by omega) (by omega)
     rw [← ih (B4 W T ls c way) (by omega) (KW hr hy hfr)]
     obtain ⟨t, et, _, _, _, v1, v4, _, _, _, _, hA⟩ := EL hr hlen hfr
     have etd : t = c + d := by omega
     have hat : ∀ i : Nat, B5 cs (B4 W T ls c way) i = (B5 cs ls i && !decide (i = c) && !decide (i = c + d)) := by
      intro i
      have hbk : Ca way ≠ 0 := by
       have := (GZ v1 v4).2
       omega
      simp only [B5, hA i]
      by_cases e1 : i = t
      ·have e3 : i = c + d := by omega
       rw [if_pos e1]; simp [hbk, e3]
      ·have e3 : ¬ i = c + d := by omega
       by_cases e2 : i = c
       ·have hw0 : (way : Int) ≠ 0 := by omega
        have hw1 : ¬ way = 0 := by omega
        rw [if_neg e1, if_pos e2]; simp [hw1, e2]
       ·rw [if_neg e1, if_neg e2]; simp [e2, e3]
     have hsk := M6 (W := W) (T := T) m (G := B5 cs (B4 W T ls c way)) (c + 1) 0 (fun i _ hi => by
      rw [hat]
      by_cases e1 : i = c
      ·simp [e1]
      ·rw [hmin i (by omega)]; rfl)
     rw [Nat.zero_add, show m + (c + 1) = cs.length by omega] at hsk
     rw [hsk]
     apply EM
     intro i hi
     rw [hat]
     have e2 : ¬ i = c := by omega
     simp [clr, e2]
    ·rw [if_neg hfr, if_neg (fun h => hfr (hfree.2 h))]
     rfl
   have h1 := one 1 1 (.inl rfl) (fun h => nN h) (by omega)
   have h2 := one 2 W.toNat (.inr rfl) (fun h => nO w1 h) (by omega)
   have e1 : ((1 : Nat) : Int) = 1 := rfl
   have e2 : ((2 : Nat) : Int) = 2 := rfl
   rw [e1] at h1
   rw [e2] at h2
   rw [h1, h2]
def XT (F : Nat → Bool) (c s : Nat) : Nat → Bool := fun i => F i && !(s.testBit (i - c))
def LM (W T : Int) (F : Nat → Bool) (c s : Nat) : List Nat :=
 if s % 2 = 1 ∨ F c = false then [s / 2] else
  (if 0 ≤ AF W T c 1 ∧ F (c + 1) = true ∧ s / 2 % 2 = 0 then [s / 2 + 1] else []) ++ (if 0 ≤ AF W T c 2 ∧ F (c + W.toNat) = true then [s / 2 + 2 ^ (W.toNat - 1)] else [])
theorem W9 (s i c : Nat) (h : c + 1 ≤ i) : (s / 2).testBit (i - (c + 1)) = s.testBit (i - c) := by
 rw [show i - c = (i - (c + 1)) + 1 by omega, Nat.testBit_succ]
theorem gV {x : Nat} (h : x % 2 = 0) (j : Nat) : (x + 1).testBit j = (decide (j = 0) || x.testBit j) := by
 cases j with
 | zero => rw [Nat.testBit_zero]; simp; omega
 | succ j => rw [Nat.testBit_succ, Nat.testBit_succ, show (x + 1) / 2 = x / 2 by omega]; simp
theorem kP {x k : Nat} (h : x < 2 ^ k) (j : Nat) : (x + 2 ^ k).testBit j = (decide (j = k) || x.testBit j) := by
 rw [Nat.add_comm]
 rcases Nat.lt_trichotomy j k with h1 | h1 | h1
 ·rw [Nat.testBit_two_pow_add_gt h1]; simp; omega
 ·subst h1; rw [Nat.testBit_two_pow_add_eq, Nat.testBit_lt_two_pow h]; simp
 ·have e1 : (2 ^ k + x) < 2 ^ j := by
   have : 2 ^ (k + 1) ≤ 2 ^ j := Nat.pow_le_pow_right (by omega) (by omega)
   rw [Nat.pow_succ] at this
   omega
  rw [Nat.testBit_lt_two_pow e1, Nat.testBit_lt_two_pow (by omega)]; simp; omega
theorem gW {W T : Int} (hW : 1 ≤ W) (F : Nat → Bool) (f c s : Nat) (hs : s < 2 ^ W.toNat) :
  ((LM W T F c s).map fun o => PF W T f (c + 1) (XT F (c + 1) o)).sum = PF W T (f + 1) c (XT F c s) := by
 have hw : W.toNat = (W.toNat - 1) + 1 := by omega
 have hs2 : s / 2 < 2 ^ (W.toNat - 1) := by rw [hw, Nat.pow_succ] at hs; omega
 have hzero : s.testBit 0 = decide (s % 2 = 1) := by rw [Nat.testBit_zero]
 unfold LM
 by_cases h : s % 2 = 1 ∨ F c = false
 ·rw [if_pos h]
  have hG : ¬ XT F c s c = true := by
   simp only [XT, Nat.sub_self, hzero]
   rcases h with h | h <;> simp [h]
  rw [PF, if_neg hG]
  simp only [List.map_cons, List.map_nil, List.sum_cons, List.sum_nil, Nat.add_zero]
  apply EM
  intro i hi
  simp only [XT, W9 s i c hi]
 ·rw [if_neg h]
  have h1 : s % 2 = 0 := by omega
  have h2 : F c = true := by
   cases hF : F c with
   | true => rfl
   | false => exact absurd (.inr hF) h
  have hG : XT F c s c = true := by simp only [XT, Nat.sub_self, hzero, h2]; simp; omega
  have hGe : XT F c s (c + 1) = (F (c + 1) && decide (s / 2 % 2 = 0)) := by
   simp only [XT, show c + 1 - c = 0 + 1 by omega, Nat.testBit_succ, Nat.testBit_zero]
   congr 1
   rcases Nat.mod_two_eq_zero_or_one (s / 2) with h3 | h3 <;> simp [h3]
  have hGn : XT F c s (c + W.toNat) = F (c + W.toNat) := by
   simp only [XT, show c + W.toNat - c = W.toNat by omega, Nat.testBit_lt_two_pow hs]; simp
  rw [PF, if_pos hG, List.map_append, List.sum_append, hGe, hGn]
  congr 1
  ·by_cases h3 : 0 ≤ AF W T c 1 ∧ F (c + 1) = true ∧ s / 2 % 2 = 0
   ·rw [if_pos h3, if_pos (by simp [h3.1, h3.2.1, h3.2.2])]
    simp only [List.map_cons, List.map_nil, List.sum_cons, List.sum_nil, Nat.add_zero]
    apply EM
    intro i hi
    simp only [XT, clr, gV h3.2.2, W9 s i c hi]
    by_cases e : i = c + 1
    ·simp [e]
    ·have : ¬ i - (c + 1) = 0 := by omega
     simp [e, this]
   ·rw [if_neg h3, if_neg (fun h4 => h3 (by simpa using h4))]
    rfl
  ·by_cases h3 : 0 ≤ AF W T c 2 ∧ F (c + W.toNat) = true
   ·rw [if_pos h3, if_pos h3]
    simp only [List.map_cons, List.map_nil, List.sum_cons, List.sum_nil, Nat.add_zero]
    apply EM
    intro i hi
    simp only [XT, clr, kP hs2, W9 s i c hi]
    by_cases e : i = c + W.toNat
    ·subst e
     have : c + W.toNat - (c + 1) = W.toNat - 1 := by omega
     simp [this]
    ·have : ¬ i - (c + 1) = W.toNat - 1 := by omega
     simp [e, this]
   ·rw [if_neg h3, if_neg h3]
    rfl
theorem kQ {W T : Int} (hW : 1 ≤ W) {F : Nat → Bool} {n c s o : Nat} (hn : ∀ i, n ≤ i → F i = false) (hc : c < n) (h1 : s < 2 ^ W.toNat) (h2 : s < 2 ^ (n - c)) (ho : o ∈ LM W T F c s) : o < 2 ^ W.toNat ∧ o < 2 ^ (n - (c + 1)) := by
 have hw : W.toNat = (W.toNat - 1) + 1 := by omega
 have hnc : n - c = (n - (c + 1)) + 1 := by omega
 have e1 : 2 ^ W.toNat = 2 ^ (W.toNat - 1) * 2 := by conv => lhs; rw [hw, Nat.pow_succ]
 have e2 : 2 ^ (n - c) = 2 ^ (n - (c + 1)) * 2 := by conv => lhs; rw [hnc, Nat.pow_succ]
 have p1 : 0 < 2 ^ (W.toNat - 1) := Nat.pow_pos (by omega)
 unfold LM at ho
 split at ho
 ·simp at ho; subst ho; omega
 ·rcases List.mem_append.1 ho with ho | ho
  ·split at ho
   ·rename_i h
    simp at ho; subst ho
    have : c + 1 < n := by
     rcases Nat.lt_or_ge (c + 1) n with h5 | h5
     ·exact h5
     ·rw [hn _ h5] at h; simp at h
    have e3 : 2 ^ (n - (c + 1)) = 2 ^ (n - (c + 1) - 1) * 2 := by rw [← Nat.pow_succ]; congr 1; omega
    have h6 := h.2.2
    have h7 : s / 2 + 1 < 2 ^ W.toNat := by omega
    refine ⟨h7, ?_⟩
    omega
   ·cases ho
  ·split at ho
   ·rename_i h
    simp at ho; subst ho
    have : c + W.toNat < n := by
     rcases Nat.lt_or_ge (c + W.toNat) n with h5 | h5
     ·exact h5
     ·rw [hn _ h5] at h; simp at h
    have h8 : 2 ^ W.toNat ≤ 2 ^ (n - (c + 1)) := Nat.pow_le_pow_right (by omega) (by omega)
    omega
   ·cases ho
theorem aA {W T : Int} {F : Nat → Bool} {c s : Nat} : (LM W T F c s).length ≤ 2 := by
 unfold LM
 split
 ·simp
 ·rw [List.length_append]; split <;> split <;> simp
def V4 : List (Nat × Nat) → Nat → Nat → List (Nat × Nat)
 | [], o, v => [(o, v)]
 | p :: P, o, v => if p.1 = o then (o, p.2 + v) :: P else p :: V4 P o v
def LA (g : Nat → Nat) (P : List (Nat × Nat)) : Nat := (P.map fun p => p.2 * g p.1).sum
theorem YB (g : Nat → Nat) : ∀ (P : List (Nat × Nat)) (o v : Nat), LA g (V4 P o v) = LA g P + v * g o
 | [], o, v => by simp [V4, LA]
 | p :: P, o, v => by
   have ih := YB g P o v
   unfold LA at ih ⊢
   simp only [V4]
   split
   ·rename_i h
    simp only [List.map_cons, List.sum_cons, h, Nat.add_mul]; omega
   ·simp only [List.map_cons, List.sum_cons, ih]; omega
theorem UA : ∀ (P : List (Nat × Nat)) (o v : Nat), (V4 P o v).length ≤ P.length + 1
 | [], o, v => by simp [V4]
 | p :: P, o, v => by
   have ih := UA P o v
   simp only [V4]; split <;> simp; omega
theorem aB : ∀ (P : List (Nat × Nat)) (o v : Nat) (q : Nat × Nat), q ∈ V4 P o v → q.1 = o ∨ ∃ p ∈ P, q.1 = p.1
 | [], o, v, q, h => by simp [V4] at h; left; rw [h]
 | p :: P, o, v, q, h => by
   simp only [V4] at h
   split at h
   ·rcases List.mem_cons.1 h with h | h
    ·left; rw [h]
    ·right; exact ⟨q, List.mem_cons_of_mem _ h, rfl⟩
   ·rcases List.mem_cons.1 h with h | h
    ·right; exact ⟨p, by simp, by rw [h]⟩
    ·rcases aB P o v q h with h | ⟨p', h1, h2⟩
     ·left; exact h
     ·right; exact ⟨p', List.mem_cons_of_mem _ h1, h2⟩
theorem aC : ∀ {P : List (Nat × Nat)} {o : Nat} (v : Nat), (∀ p ∈ P, p.1 ≠ o) → V4 P o v = P ++ [(o, v)]
 | [], o, v, _ => rfl
 | p :: P, o, v, h => by
   simp only [V4]
   rw [if_neg (h p (by simp)), aC v (fun q hq => h q (by simp [hq]))]; rfl
theorem dW : ∀ {P : List (Nat × Nat)} {o i u : Nat} (v : Nat), P[i]? = some (o, u) → (∀ j, j < i → ∀ p, P[j]? = some p → p.1 ≠ o) → V4 P o v = P.set i (o, u + v)
 | [], o, i, u, v, h, _ => by simp at h
 | p :: P, o, 0, u, v, h, _ => by
   simp at h
   simp [V4, h]
 | p :: P, o, i + 1, u, v, h, h2 => by
   simp only [V4]
   rw [if_neg (h2 0 (by omega) p (by simp)), dW v (i := i) (u := u) (by simpa using h) (fun j hj q hq => h2 (j + 1) (by omega) q (by simpa using hq))]
   rfl
def Cu (P : List (Nat × Nat)) (os : List Nat) (v : Nat) : List (Nat × Nat) := os.foldl (fun P o => V4 P o v) P
theorem LN (g : Nat → Nat) (v : Nat) : ∀ (os : List Nat) (P : List (Nat × Nat)), LA g (Cu P os v) = LA g P + v * (os.map g).sum
 | [], P => by simp [Cu]
 | o :: os, P => by
   have := LN g v os (V4 P o v)
   unfold Cu at this ⊢
   rw [List.foldl_cons, this, YB, List.map_cons, List.sum_cons, Nat.mul_add]; omega
theorem LO (v : Nat) : ∀ (os : List Nat) (P : List (Nat × Nat)), (Cu P os v).length ≤ P.length + os.length
 | [], P => by simp [Cu]
 | o :: os, P => by
   have := LO v os (V4 P o v)
   have h2 := UA P o v
   unfold Cu at this ⊢
   rw [List.foldl_cons, List.length_cons]; omega
theorem V5 (v : Nat) : ∀ (os : List Nat) (P : List (Nat × Nat)) (q : Nat × Nat), q ∈ Cu P os v → q.1 ∈ os ∨ ∃ p ∈ P, q.1 = p.1
 | [], P, q, h => .inr ⟨q, h, rfl⟩
 | o :: os, P, q, h => by
   rcases V5 v os (V4 P o v) q h with h | ⟨p, h1, h2⟩
   ·left; simp [h]
   ·rcases aB P o v p h1 with h3 | ⟨p', h3, h4⟩
    ·left; simp [h2, h3]
    ·right; exact ⟨p', h3, h2.trans h4⟩
structure OkP (W T : Int) (F : Nat → Bool) (n c tot : Nat) (P : List (Nat × Nat)) : Prop where
 lt : ∀ p ∈ P, p.1 < 2 ^ W.toNat ∧ p.1 < 2 ^ (n - c)
 tot : LA (fun s => PF W T (n - c) c (XT F c s)) P = tot
 sum : LA (fun _ => 1) P ≤ 2 ^ c
 len : P.length ≤ 2 ^ c
structure MidP (W T : Int) (F : Nat → Bool) (n c : Nat) (P : List (Nat × Nat)) (k : Nat) (Q : List (Nat × Nat)) : Prop where
 lt : ∀ p ∈ Q, p.1 < 2 ^ W.toNat ∧ p.1 < 2 ^ (n - (c + 1))
 tot : LA (fun s => PF W T (n - (c + 1)) (c + 1) (XT F (c + 1) s)) Q = LA (fun s => PF W T (n - c) c (XT F c s)) (P.take k)
 sum : LA (fun _ => 1) Q ≤ 2 * LA (fun _ => 1) (P.take k)
 len : Q.length ≤ 2 * k
theorem XA {α : Type} : ∀ l : List α, (l.map fun _ => 1).sum = l.length
 | [] => rfl
 | x :: l => by rw [List.map_cons, List.sum_cons, XA l, List.length_cons]; omega
theorem Ic (g : Nat → Nat) (P Q : List (Nat × Nat)) : LA g (P ++ Q) = LA g P + LA g Q := by simp [LA]
theorem YC (g : Nat → Nat) (P : List (Nat × Nat)) (k : Nat) : LA g (P.take k) ≤ LA g P := by
 have := Ic g (P.take k) (P.drop k)
 rw [List.take_append_drop] at this
 omega
theorem gX {W T : Int} {F : Nat → Bool} {n c : Nat} {P : List (Nat × Nat)} : MidP W T F n c P 0 [] := ⟨by simp, by simp [LA], by simp [LA], by simp⟩
theorem gY {W T : Int} {F : Nat → Bool} {n c tot k : Nat} {P Q : List (Nat × Nat)} {s v : Nat} (hW : 1 ≤ W) (hn : ∀ i, n ≤ i → F i = false) (hc : c < n) (hP : OkP W T F n c tot P) (hk : P[k]? = some (s, v)) (hQ : MidP W T F n c P k Q) :
  MidP W T F n c P (k + 1) (Cu Q (LM W T F c s) v) := by
 have hmem : (s, v) ∈ P := List.mem_of_getElem? hk
 have hlt := hP.lt _ hmem
 have ht : P.take (k + 1) = P.take k ++ [(s, v)] := by rw [List.take_add_one, hk]; rfl
 have hol := aA (W := W) (T := T) (F := F) (c := c) (s := s)
 refine ⟨?_, ?_, ?_, ?_⟩
 ·intro q hq
  rcases V5 v _ _ q hq with h | ⟨p, h1, h2⟩
  ·exact kQ hW hn hc hlt.1 hlt.2 h
  ·rw [h2]; exact hQ.lt p h1
 ·have e : n - c = (n - (c + 1)) + 1 := by omega
  rw [LN, hQ.tot, ht, Ic, gW hW F (n - (c + 1)) c s hlt.1, ← e]
  simp [LA]
 ·rw [LN, ht, Ic]
  have h1 := hQ.sum
  have h2 : v * ((LM W T F c s).map fun _ => 1).sum ≤ v * 2 := Nat.mul_le_mul_left _ (by rw [XA]; exact hol)
  have h3 : LA (fun _ => 1) [(s, v)] = v := by simp [LA]
  omega
 ·have := LO v (LM W T F c s) Q
  have := hQ.len
  omega
theorem kR {W T : Int} {F : Nat → Bool} {n c tot : Nat} {P Q : List (Nat × Nat)} (hP : OkP W T F n c tot P) (hQ : MidP W T F n c P P.length Q) : OkP W T F n (c + 1) tot Q := by
 have e := List.take_length (l := P)
 refine ⟨hQ.lt, ?_, ?_, ?_⟩
 ·rw [hQ.tot, e, hP.tot]
 ·have h1 := hQ.sum
  have h2 := hP.sum
  rw [e] at h1
  rw [Nat.pow_succ]; omega
 ·have h1 := hQ.len
  have h2 := hP.len
  rw [Nat.pow_succ]; omega
theorem dX {W T : Int} {F : Nat → Bool} {n : Nat} (hW : 1 ≤ W) : OkP W T F n 0 (PF W T n 0 F) [(0, 1)] := by
 refine ⟨?_, ?_, ?_, ?_⟩
 ·intro p hp
  simp at hp; subst hp
  exact ⟨Nat.pow_pos (by omega), Nat.pow_pos (by omega)⟩
 ·have : XT F 0 0 = F := by funext i; simp [XT]
  simp [LA, this]
 ·simp [LA]
 ·simp
theorem kS {W T : Int} {F : Nat → Bool} {n tot : Nat} {P : List (Nat × Nat)} (hP : OkP W T F n n tot P) : (∀ p ∈ P, p.1 = 0) ∧ LA (fun _ => 1) P = tot := by
 refine ⟨fun p hp => ?_, ?_⟩
 ·have := (hP.lt p hp).2
  rw [Nat.sub_self] at this
  simpa using this
 ·have := hP.tot
  rw [Nat.sub_self] at this
  simpa [PF] using this
@[simp] abbrev Ev : Nat := 208
def Ew : ACode := .seq (.reg [.o 5 .mv [.kb false]]) <| .seq (.seq (.reg [.la 6 3 1, .l 7 2, .m 8 0, .o 9 (.call 137 []) [.t 6, .t 7, .t 8]]) <| .cond (.t 9) ( .reg [.l 10 3, .m 11 0, .o 12 (.bsl 1) [.t 11], .o 13 (.app 1 24 false) [.t 10, .t 12], .s (.store 1) [.t 3, .t 13]]) ( .skip)) <| .seq (.reg [.o 5 .mv [.kb true]]) <| .ret
theorem KF : cFn Tryz.prog Ev 14 [.t 5] Ew := ⟨Tryz.f208, _, Tryz.func208, rfl, by kernel_rfl, by kernel_rfl, by kernel_rfl, by kernel_rfl⟩
@[simp] abbrev Di : Nat := 207
def Bc : ACode := .seq (.seq (.reg [.m 10 7, .m 11 1, .n 12 11, .o 13 (.bin .lss 0) [.t 10, .t 12], .m 14 13, .fg 15 2 3 14 true, .lg 16 15 14 true, .mg 17 7 14 true, .g 18 (.iadr 1) [.t 16, .t 17] 14 true, .lg 19 18 14 true, .g 20 (.un .not) [.t 19] 14 true, .mg 21 20 14 true, .mg 22 1 21 false, .mg 23 7 21 false, .g 24 (.iadr 1) [.t 22, .t 23] 21 false, .lg 25 24 21 false, .g 26 (.bin .neq 0) [.t 25, .k 0] 21 false, .g 27 .pick [.t 21, .kb true, .t 26] 14 true, .o 28 .pick [.t 14, .t 27, .kb false]]) <| .cond (.t 28) ( .skip) ( .exit 0)) <| .block 1 ( .reg [.m 29 7, .o 30 (.bin .add 0) [.t 29, .k 1], .m 7 30])
abbrev FI : Plan := .al (.g 57 (.call 207 []) [.t 50, .t 55, .t 56] 49 true) ( .take (.g 58 (.un .not) [.t 57] 49 true) <| .take (.o 59 .pick [.t 49, .t 58, .kb false]) <| .done)
abbrev FJ : Plan := .al (.g 55 (.call 235 []) [.t 51, .t 52, .t 53, .t 54] 49 true) FI
def CS : ACode := .seq (.reg [.o 41 (.bin .lss 0) [.t 40, .t 39]]) <| .seq (.cond (.t 41) ( .skip) ( .exit 2)) <| .seq (.block 3 ( .seq (.reg [.o 42 (.iadr 1) [.t 38, .t 40], .l 43 42, .m 9 43]) <| .seq (.draw ( .take (.m 45 1) <| .take (.m 46 7) <| .take (.m 47 9) <| .al (.la 44 3 3) ( .al (.o 48 (.call 234 []) [.t 44, .t 45, .t 46, .t 47]) ( .take (.m 49 48) <| .take (.mg 52 1 49 true) <| .take (.mg 53 7 49 true) <| .take (.mg 54 9 49 true) <| .take (.mg 56 2 49 true) <| .alt (.g 50 (.load true 3) [.t 3] 49 true) ( .al (.g 51 (.load true 3) [.t 3] 49 true) FJ) <| .al (.g 51 (.load true 3) [.t 3] 49 true) ( .alt (.g 50 (.load true 3) [.t 3] 49 true) FJ <| .al (.g 55 (.call 235 []) [.t 51, .t 52, .t 53, .t 54] 49 true) ( .al (.g 50 (.load true 3) [.t 3] 49 true) FI)))))) <| .cond (.t 59) ( .seq (.reg [.o 6 .mv [.kb false]]) <| .ret) ( .skip))) <| .reg [.o 60 (.bin .add 0) [.t 40, .k 1], .m 40 60]
def Jf : ACode := .seq (.reg [.o 3 .box [.t 0], .o 6 .mv [.kb false]]) <| .seq (.reg [.o 7 .mv [.k 0]]) <| .seq (.block 0 ( .loop [(1, 1)] [1, 2, 3, 7, 63] Bc)) <| .seq (.seq (.reg [.m 31 7, .m 32 1, .n 33 32, .o 34 (.bin .eql 0) [.t 31, .t 33]]) <| .cond (.t 34) ( .seq (.reg [.m 35 2, .m 36 1, .o 37 (.callv []) [.t 35, .t 36], .m 6 37]) <| .ret) ( .skip)) <| .seq (.seq (.reg [.o 38 (.bsl 1) [.k 1, .k 2], .n 39 38, .o 40 .mv [.k 0]]) <| .block 2 ( .loop [(1, 1), (38, 1)] [1, 2, 3, 7, 38, 39, 40, 63] CS)) <| .seq (.reg [.o 6 .mv [.kb true]]) <| .ret
theorem QM : cFn Tryz.prog Di 61 [.t 6] Jf := ⟨Tryz.f207, _, Tryz.func207, rfl, by kernel_rfl, by kernel_rfl, by kernel_rfl, by kernel_rfl⟩
@[simp] abbrev DB : Nat := 157
def Ee : ACode := .seq (.reg [.l 13 7, .o 14 (.call 188 []) [.t 13], .m 6 14]) <| .ret
def Fk : ACode := .seq (.reg [.o 3 .box [.t 0], .o 4 .box [.t 1], .o 6 .mv [.c (.os 1 [])]]) <| .seq (.reg [.o 7 (.alloc [.os 1 []]) []]) <| .seq (.draw ( .take (.m 9 2) <| .take (.o 11 (.mkfn 208) [.t 3, .t 4, .t 7]) <| .alt (.la 8 3 3) ( .al (.o 10 (.call 126 []) [.t 9]) ( .al (.o 12 (.call 207 []) [.t 8, .t 10, .t 11]) ( .done))) <| .al (.o 10 (.call 126 []) [.t 9]) ( .al (.la 8 3 3) ( .al (.o 12 (.call 207 []) [.t 8, .t 10, .t 11]) ( .done))))) <| .gc [] [7] Ee
theorem LP : cFn Tryz.prog DB 15 [.t 6] Fk := ⟨Tryz.f157, _, Tryz.func157, rfl, by kernel_rfl, by kernel_rfl, by kernel_rfl, by kernel_rfl⟩
def dY (W T : Int) (ds t : List Int) : List (List Int) := if J9 (BZ W T ds t) then [t] else []
end Go.Proofs.Dev
