/- Contracts of the functions of the program over slots and rows, each proved against the program itself; no condition beyond those that each theorem names. -/
import Derived.Test.YtfkmfobbgoflgaaGreatDoorAQ
import Derived.Test.YtfkmfobbgoflgaaGreatDoorAT
import Derived.Test.YtfkmfobbgoflgaaGreatDoorProg
import Derived.Test.YtfkmfobbgoflgaaGreatDoorAL
import Derived.Test.YtfkmfobbgoflgaaGreatDoorAH
set_option linter.unusedSimpArgs false
set_option linter.unusedVariables false
set_option maxRecDepth 100000
namespace Go.Proofs.Dev
def swI (W c : Int) : Int := (c / (W + 1) - 1) * W + c % (W + 1) - 1
def Vf (W T c : Int) : Bool := decide (0 ≤ c ∧ 1 ≤ c % (W + 1) ∧ c % (W + 1) ≤ W - 1 ∧ 1 ≤ c / (W + 1) ∧ c / (W + 1) ≤ T - 1)
def Rj (W : Int) (ls : List Int) (c : Int) : Bool := decide (ati ls (swI W c) = 1) && decide (ati ls (swI W c + W) = 1)
def upB (W : Int) (ls : List Int) (c : Int) : Bool := decide (ati ls (swI W c) = 2) && decide (ati ls (swI W c + 1) = 2)
def F4 (W T : Int) (ls : List Int) (c : Int) : Bool := Vf W T c && (Rj W ls c || upB W ls c)
def Rk (ls : List Int) (a W : Int) (p q r s : Int) : List Int := (((ls.set a.toNat p).set (a + 1).toNat q).set (a + W).toNat r).set (a + W + 1).toNat s
def HI (W T : Int) (ls : List Int) (c : Int) : List Int :=
 if F4 W T ls c = true then (if Rj W ls c = true then Rk ls (swI W c) W 2 2 4 4 else Rk ls (swI W c) W 1 3 1 3) else ls
theorem DJ (ls : List Int) (a W p q r s : Int) : (Rk ls a W p q r s).length = ls.length := by simp [Rk]
theorem Ye (W T : Int) (ls : List Int) (c : Int) : (HI W T ls c).length = ls.length := by
 unfold HI; split
 ·split <;> exact DJ ..
 ·rfl
theorem Yf {W T c : Int} (hW : 1 ≤ W) (h : Vf W T c = true) :
  ∃ x y : Int, 0 ≤ x ∧ x + 1 < W ∧ 0 ≤ y ∧ y + 1 < T ∧ swI W c = y * W + x ∧ c % (W + 1) = x + 1 ∧ c / (W + 1) = y + 1 := by
 simp only [Vf, decide_eq_true_eq] at h
 refine ⟨c % (W + 1) - 1, c / (W + 1) - 1, by omega, by omega, by omega, by omega, ?_, by omega, by omega⟩
 unfold swI; omega
theorem Zd {W T c : Int} (hW : 1 ≤ W) (h : Vf W T c = true) : 0 ≤ swI W c ∧ swI W c + W + 1 < W * T := by
 obtain ⟨x, y, x0, x1, y0, y1, e, _⟩ := Yf hW h
 rw [e]
 have h1 : 0 ≤ y * W := Int.mul_nonneg y0 (by omega)
 have h2 : (y + 1 + 1) * W ≤ T * W := Int.mul_le_mul_of_nonneg_right (by omega) (by omega)
 have h3 : (y + 1 + 1) * W = y * W + W + W := by rw [Int.add_mul, Int.add_mul, Int.one_mul]
 rw [Int.mul_comm T W] at h2
 omega
theorem Np {xs : List Int} {i k : Int} {v : Int} (h0 : 0 ≤ i) (h : i < xs.length) (hk : 0 ≤ k) : ati (xs.set i.toNat v) k = if k = i then v else ati xs k := by
 have := MR (xs := xs) (i := i.toNat) (k := k.toNat) (v := v) (by omega)
 rw [show ((k.toNat : Nat) : Int) = k by omega] at this
 rw [this]
 by_cases e : k = i
 ·rw [if_pos e, if_pos (by omega)]
 ·rw [if_neg e, if_neg (by omega)]
theorem aQ {ls : List Int} {a W p q r s k : Int} (h0 : 0 ≤ a) (hW : 1 ≤ W) (h : a + W + 1 < ls.length) (hk : 0 ≤ k) :
  ati (Rk ls a W p q r s) k = if k = a + W + 1 then s else if k = a + W then r else if k = a + 1 then q else if k = a then p else ati ls k := by
 unfold Rk
 rw [Np (by omega) (by simp; omega) hk, Np (by omega) (by simp; omega) hk, Np (by omega) (by simp; omega) hk, Np (by omega) (by omega) hk]
theorem ji {xs ys : List Int} (hl : xs.length = ys.length) (h : ∀ k : Nat, k < xs.length → ati xs k = ati ys k) : xs = ys := by
 apply List.ext_getElem hl
 intro i h1 h2
 have := h i h1
 simpa [ati, h1, h2] using this
theorem dY {W T x y : Int} (hW : 1 ≤ W) (x0 : 0 ≤ x) (x1 : x + 1 < W) (y0 : 0 ≤ y) (y1 : y + 1 < T) :
  AJ W T (y * W + x) 1 = y * W + x + 1 ∧ AJ W T (y * W + x) 2 = y * W + x + W ∧ AJ W T (y * W + x + W) 1 = y * W + x + W + 1 ∧ AJ W T (y * W + x + 1) 2 = y * W + x + 1 + W := by
 have c1 := ZG (W := W) (x := x) (y := y) x0 (by omega)
 have c2 := ZG (W := W) (x := x + 1) (y := y) (by omega) (by omega)
 have c3 := ZG (W := W) (x := x) (y := y + 1) x0 (by omega)
 have hm : (y + 1) * W = y * W + W := by rw [Int.add_mul, Int.one_mul]
 rw [show (y + 1) * W + x = y * W + x + W by omega] at c3
 rw [show y * W + (x + 1) = y * W + x + 1 by omega] at c2
 refine ⟨?_, ?_, ?_, ?_⟩
 ·unfold AJ; rw [c1.1, if_pos ⟨rfl, by omega⟩]
 ·unfold AJ; rw [c1.2, if_neg (by omega), if_pos ⟨rfl, by omega⟩]
 ·unfold AJ; rw [c3.1, if_pos ⟨rfl, by omega⟩]
 ·unfold AJ; rw [c2.2, if_neg (by omega), if_pos ⟨rfl, by omega⟩]
theorem aR {W T : Int} {cs : List Bool} {ls : List Int} {k : Int} (hy : AO W T cs ls = true) (h0 : 0 ≤ k) (hk : k < ls.length) (hv : ati ls k ≠ 0) :
  1 ≤ ati ls k ∧ ati ls k ≤ 4 ∧ atb cs k = true ∧ 0 ≤ AJ W T k (ati ls k) ∧ atb cs (AJ W T k (ati ls k)) = true ∧ ati ls (AJ W T k (ati ls k)) = Cn (ati ls k) := by
 have e : ((k.toNat : Nat) : Int) = k := by omega
 have := Ik (k := k.toNat) hy (by omega) (by rw [e]; exact hv)
 rw [e] at this
 exact this
theorem aU {W T : Int} {cs : List Bool} {ls : List Int} {k t : Int} (hr : A0 W T cs = true) (hy : AO W T cs ls = true) (h0 : 0 ≤ k) (hk : k < ls.length) (hv : ati ls k ≠ 0) (ht : AJ W T k (ati ls k) = t) :
  AO W T cs (LL W T ls k) = true ∧ (LL W T ls k).length = ls.length ∧ ∀ j : Int, 0 ≤ j → ati (LL W T ls k) j = if j = k then 0 else if j = t then 0 else ati ls j := by
 have e : ((k.toNat : Nat) : Int) = k := by omega
 obtain ⟨t', h1, h2, h3, h4⟩ := XT (k := k.toNat) hr hy (by omega) (by rw [e]; exact hv)
 have h5 := dX (k := k.toNat) hr hy (by omega) (by rw [e]; exact hv)
 rw [e] at h1 h4 h5
 refine ⟨h5, M7 .., fun j hj => ?_⟩
 have := h4 j.toNat
 rw [show ((j.toNat : Nat) : Int) = j by omega] at this
 rw [this]
 by_cases e1 : j = k
 ·rw [if_pos (by omega), if_pos e1]
 ·rw [if_neg (by omega), if_neg e1]
  by_cases e2 : j = t
  ·rw [if_pos (by omega), if_pos e2]
  ·rw [if_neg (by omega), if_neg e2]
theorem dZ {W T : Int} {cs : List Bool} {ls : List Int} {k way t : Int} (hr : A0 W T cs = true) (hy : AO W T cs ls = true) (hf : BU W T cs ls k way = true) (ht : AJ W T k way = t) :
  AO W T cs (C9 W T ls k way) = true ∧ (C9 W T ls k way).length = ls.length ∧ ∀ j : Int, 0 ≤ j → ati (C9 W T ls k way) j = if j = t then Cn way else if j = k then way else ati ls j := by
 have hl := Ap hy
 obtain ⟨w1, w2, t1, t2, l1, _⟩ := CM hr
 have hf2 := hf
 simp only [BU, decide_eq_true_eq] at hf2
 obtain ⟨f0, f1, f2, f3, f4, f5, f6⟩ := hf2
 have sb := DU (W := W) (T := T) (k := k) (way := way) w1 f0 (by omega) f2
 refine ⟨N5 hr hy hf, AL .., fun j hj => ?_⟩
 subst ht
 unfold C9
 rw [Np f2 (by simp; omega) hj, Np f0 (by omega) hj]
theorem da {W T : Int} {cs : List Bool} {ls : List Int} {k way t : Int} (h0 : 0 ≤ k) (h1 : k < cs.length) (ht : AJ W T k way = t) (h2 : 0 ≤ t) (h3 : atb cs k = true) (h4 : atb cs t = true) (h5 : ati ls k = 0) (h6 : ati ls t = 0) : BU W T cs ls k way = true := by
 subst ht
 simp [BU, h0, h1, h2, h3, h4, h5, h6]
theorem db {W T : Int} {cs : List Bool} {ls l4 : List Int} {a p q r w v : Int} (hr : A0 W T cs = true) (hy : AO W T cs ls = true)
  (a0 : 0 ≤ a ∧ a < ls.length) (p0 : 0 ≤ p ∧ p < ls.length) (q0 : 0 ≤ q ∧ q < ls.length) (r0 : 0 ≤ r ∧ r < ls.length) (d1 : a ≠ p) (d2 : a ≠ q) (d3 : a ≠ r) (d4 : p ≠ q) (d5 : p ≠ r) (d6 : q ≠ r)
  (s1 : AJ W T a w = p) (s2 : AJ W T q w = r) (s3 : AJ W T a v = q) (s4 : AJ W T p v = r) (hw : w ≠ 0) (h1 : ati ls a = w) (h2 : ati ls q = w) (hl4 : l4.length = ls.length)
  (h4 : ∀ j : Int, 0 ≤ j → ati l4 j = if j = r then Cn v else if j = p then v else if j = q then Cn v else if j = a then v else ati ls j) :
  (atb cs a = true ∧ atb cs p = true ∧ atb cs q = true ∧ atb cs r = true) ∧ AO W T cs l4 = true := by
 have hl := Ap hy
 obtain ⟨_, _, a3, a4, a5, a6⟩ := aR hy a0.1 a0.2 (by rw [h1]; exact hw)
 obtain ⟨_, _, c3, c4, c5, c6⟩ := aR hy q0.1 q0.2 (by rw [h2]; exact hw)
 rw [h1, s1] at a4 a5 a6
 rw [h2, s2] at c4 c5 c6
 refine ⟨⟨a3, a5, c3, c5⟩, ?_⟩
 obtain ⟨g1, g2, g3⟩ := aU (k := a) (t := p) hr hy a0.1 a0.2 (by rw [h1]; exact hw) (by rw [h1, s1])
 generalize LL W T ls a = l1 at *
 have v1 : ati l1 q = w := by rw [g3 _ q0.1, if_neg (fun e => d2 e.symm), if_neg (fun e => d4 e.symm), h2]
 obtain ⟨k1, k2, k3⟩ := aU (k := q) (t := r) hr g1 q0.1 (by omega) (by rw [v1]; exact hw) (by rw [v1, s2])
 generalize LL W T l1 q = l2 at *
 have za : ati l2 a = 0 := by rw [k3 a a0.1, if_neg d2, if_neg d3, g3 a a0.1, if_pos rfl]
 have zp : ati l2 p = 0 := by rw [k3 p p0.1, if_neg d4, if_neg d5, g3 p p0.1, if_neg (fun e => d1 e.symm), if_pos rfl]
 have zq : ati l2 q = 0 := by rw [k3 q q0.1, if_pos rfl]
 have zr : ati l2 r = 0 := by rw [k3 r r0.1, if_neg (fun e => d6 e.symm), if_pos rfl]
 obtain ⟨m1, m2, m3⟩ := dZ (k := a) (way := v) (t := q) hr k1 (da a0.1 (by omega) s3 q0.1 a3 c3 za zq) s3
 generalize C9 W T l2 a v = l3 at *
 have yp : ati l3 p = 0 := by rw [m3 p p0.1, if_neg d4, if_neg (fun e => d1 e.symm), zp]
 have yr : ati l3 r = 0 := by rw [m3 r r0.1, if_neg (fun e => d6 e.symm), if_neg (fun e => d3 e.symm), zr]
 obtain ⟨n1, n2, n3⟩ := dZ (k := p) (way := v) (t := r) hr m1 (da p0.1 (by omega) s4 r0.1 a5 c5 yp yr) s4
 generalize C9 W T l3 p v = l5 at *
 have e : l4 = l5 := by
  refine ji (by omega) fun k hk => ?_
  rw [h4 k (by omega), n3 k (by omega)]
  by_cases e1 : (k : Int) = r
  ·rw [if_pos e1, if_pos e1]
  rw [if_neg e1, if_neg e1]
  by_cases e2 : (k : Int) = p
  ·rw [if_pos e2, if_pos e2]
  rw [if_neg e2, if_neg e2, m3 k (by omega)]
  by_cases e3 : (k : Int) = q
  ·rw [if_pos e3, if_pos e3]
  rw [if_neg e3, if_neg e3]
  by_cases e4 : (k : Int) = a
  ·rw [if_pos e4, if_pos e4]
  rw [if_neg e4, if_neg e4, k3 k (by omega), if_neg e3, if_neg e1, g3 k (by omega), if_neg e4, if_neg e2]
 rw [e]; exact n1
theorem dc {W T : Int} {cs : List Bool} {ls : List Int} {c : Int} (hr : A0 W T cs = true) (hy : AO W T cs ls = true) (hf : F4 W T ls c = true) :
  (atb cs (swI W c) = true ∧ atb cs (swI W c + 1) = true ∧ atb cs (swI W c + W) = true ∧ atb cs (swI W c + W + 1) = true) ∧ AO W T cs (HI W T ls c) = true := by
 obtain ⟨w1, w2, t1, t2, l1, _⟩ := CM hr
 have hl := Ap hy
 have hf2 := hf
 simp only [F4, Bool.and_eq_true, Bool.or_eq_true] at hf2
 obtain ⟨hm, hf3⟩ := hf2
 obtain ⟨s0, s1⟩ := Zd w1 hm
 obtain ⟨x, y, x0, x1, y0, y1, e, _⟩ := Yf w1 hm
 obtain ⟨q1, q2, q3, q4⟩ := dY (T := T) w1 x0 x1 y0 y1
 rw [← e] at q1 q2 q3 q4
 have hW2 : 2 ≤ W := by omega
 have key : HI W T ls c = if Rj W ls c = true then Rk ls (swI W c) W 2 2 4 4 else Rk ls (swI W c) W 1 3 1 3 := by unfold HI; rw [if_pos hf]
 rw [key]
 by_cases hF : Rj W ls c = true
 ·rw [if_pos hF]
  simp only [Rj, Bool.and_eq_true, decide_eq_true_eq] at hF
  generalize swI W c = a at *
  have := db (l4 := Rk ls a W 2 2 4 4) (a := a) (p := a + 1) (q := a + W) (r := a + W + 1) (w := 1) (v := 2) hr hy (by omega) (by omega) (by omega) (by omega) (by omega) (by omega) (by omega) (by omega) (by omega) (by omega)
   q1 q3 q2 (by rw [q4]; omega) (by decide) hF.1 hF.2 (DJ ..) (fun j hj => by
    rw [aQ s0 w1 (by omega) hj, show Cn 2 = 4 by decide]
    by_cases e1 : j = a + W + 1
    ·rw [if_pos e1, if_pos e1]
    rw [if_neg e1, if_neg e1]
    by_cases e2 : j = a + W
    ·rw [if_pos e2, if_neg (by omega), if_pos e2]
    rw [if_neg e2, if_neg e2])
  exact ⟨⟨this.1.1, this.1.2.1, this.1.2.2.1, this.1.2.2.2⟩, this.2⟩
 ·rw [if_neg hF]
  have hU : upB W ls c = true := hf3.resolve_left hF
  simp only [upB, Bool.and_eq_true, decide_eq_true_eq] at hU
  generalize swI W c = a at *
  have := db (l4 := Rk ls a W 1 3 1 3) (a := a) (p := a + W) (q := a + 1) (r := a + W + 1) (w := 2) (v := 1) hr hy (by omega) (by omega) (by omega) (by omega) (by omega) (by omega) (by omega) (by omega) (by omega) (by omega)
   q2 (by rw [q4]; omega) q1 q3 (by decide) hU.1 hU.2 (DJ ..) (fun j hj => by
    rw [aQ s0 w1 (by omega) hj, show Cn 1 = 3 by decide])
  exact ⟨⟨this.1.1, this.1.2.2.1, this.1.2.1, this.1.2.2.2⟩, this.2⟩
theorem Oi {W T : Int} {cs : List Bool} {ds : List Int} : ∀ (n : Nat) (ls : List Int), Af W T cs ds ls = true →
  JA ls ≤ JA (Au W T cs ds n ls) ∧ (Au W T cs ds n ls = ls ∨ JA ls < JA (Au W T cs ds n ls))
 | 0, ls, _ => ⟨Nat.le_refl _, .inl rfl⟩
 | n + 1, ls, hf => by
   obtain ⟨hr, hd, hy, ho⟩ := AR hf
   have hl := Ap hy
   unfold Au
   by_cases hb : Bu W T cs ds ls = true
   ·have h1 := Za (ds := ds) hr hl hb
    have h2 := Oi n (BN W T cs ds ls) (LE hf)
    simp only [hb, if_true]
    exact ⟨by omega, .inr (by omega)⟩
   ·have hb' : Bu W T cs ds ls = false := by simpa using hb
    simp [hb']
theorem XW {W T : Int} {cs : List Bool} {ds ls : List Int} (hf : Af W T cs ds ls = true) : (JA ls < JA (BA W T cs ds ls)) ↔ BA W T cs ds ls ≠ ls := by
 obtain ⟨h1, h2⟩ := Oi ls.length ls hf
 unfold BA at *
 constructor
 ·intro h e; rw [e] at h; omega
 ·intro h; exact h2.resolve_left h
def aV (W T : Int) (cs : List Bool) (x y : Int) : Bool := decide (0 ≤ x ∧ x ≤ W - 1) && (decide (0 ≤ y ∧ y ≤ T - 1) && atb cs (y * W + x))
theorem n7 {W T x y : Int} (h1 : 0 ≤ x ∧ x ≤ W - 1) (h2 : 0 ≤ y ∧ y ≤ T - 1) : 0 ≤ y * W ∧ y * W + x < W * T := by
 have a1 : 0 ≤ y * W := Int.mul_nonneg h2.1 (by omega)
 have a2 : (y + 1) * W ≤ T * W := Int.mul_le_mul_of_nonneg_right (by omega) (by omega)
 rw [Int.add_mul, Int.one_mul, Int.mul_comm T W] at a2
 omega
theorem LP (W T : Int) (cs : List Bool) (x y : Int) (hr : A0 W T cs = true) (hx : -9 ≤ x ∧ x ≤ 9 * 2 ^ 40) (hy : -9 ≤ y ∧ y ≤ 9 * 2 ^ 40) :
  SoundAt Tryz.prog UW [.agg [.v (.int .i64 W), .v (.int .i64 T), .sl 1 1 (AC cs)], .v (.int .i64 x), .v (.int .i64 y)] (.v (.bool (aV W T cs x y))) [.bot, .bot, .bot] := by
 obtain ⟨w1, w2, t1, t2, l1, _⟩ := CM hr
 have h36 := AZ hr
 refine AE (md := md5) (ms := [false, false, false]) Zc (by simp) ?_
 by_cases h1 : 0 ≤ x ∧ x ≤ W - 1
 ·by_cases h2 : 0 ≤ y ∧ y ≤ T - 1
  ·obtain ⟨m1, m2⟩ := n7 h1 h2
   simp [LN, aV, h1, h2]
   refine ⟨by omega, ?_⟩
   refine AA (DB (x := x) (lo := 0) (hi := W - 1) h1) ?_
   simp
   refine ⟨by omega, ?_⟩
   refine AA (DB (x := y) (lo := 0) (hi := T - 1) h2) ?_
   have n1 : 0 ≤ y * W + x := by omega
   have n2 : y * W + x < cs.length := by omega
   simp [n1, n2]
   omega
  ·simp [LN, aV, h1, h2]
   refine ⟨by omega, ?_⟩
   refine AA (DB (x := x) (lo := 0) (hi := W - 1) h1) ?_
   simp
   refine ⟨by omega, ?_⟩
   refine AA (ER (x := y) (lo := 0) (hi := T - 1) h2) ?_
   simp
 ·simp [LN, aV, h1]
  refine ⟨by omega, ?_⟩
  refine AA (ER (x := x) (lo := 0) (hi := W - 1) h1) ?_
  simp
def ec (W T : Int) : Int := (W + 1) * (T + 1)
theorem de {W T : Int} (w1 : 1 ≤ W) (w2 : W ≤ 6) (t1 : 1 ≤ T) (t2 : T ≤ 6) : 4 ≤ ec W T ∧ ec W T ≤ 49 := by
 have h1 : (2 : Int) * 2 ≤ (W + 1) * (T + 1) := Int.mul_le_mul (by omega) (by omega) (by omega) (by omega)
 have h2 : (W + 1) * (T + 1) ≤ 7 * 7 := Int.mul_le_mul (by omega) (by omega) (by omega) (by omega)
 unfold ec; omega
theorem Rl (W T : Int) (cs : List Bool) (hb : cs.length < 2 ^ 40) :
  SoundAt Tryz.prog Ks [.agg [.v (.int .i64 W), .v (.int .i64 T), .sl 1 1 (AC cs)]] (.v (.int .i64 (if A0 W T cs = true then ec W T else -1))) [.bot] := by
 refine AE (md := md5) (ms := [false]) Rh (by simp) ?_
 simp [Kt]
 refine AA (BG W T cs hb) ?_
 cases hr : A0 W T cs with
 | false => simp
 | true =>
   obtain ⟨w1, w2, t1, t2, l1, _⟩ := CM hr
   have := de w1 w2 t1 t2
   unfold ec at *
   simp
   omega
def sqB (W T : Int) (cs : List Bool) (c : Int) : Bool :=
 ((aV W T cs (c % (W + 1) - 1) (c / (W + 1) - 1) && aV W T cs (c % (W + 1)) (c / (W + 1) - 1)) && aV W T cs (c % (W + 1) - 1) (c / (W + 1))) && aV W T cs (c % (W + 1)) (c / (W + 1))
theorem df {W T : Int} {cs : List Bool} {c : Int} (h0 : 0 ≤ c) (h : sqB W T cs c = true) : Vf W T c = true := by
 simp only [sqB, aV, Bool.and_eq_true, decide_eq_true_eq] at h
 simp only [Vf, decide_eq_true_eq]
 omega
set_option maxHeartbeats 1000000 in
theorem ND (W T : Int) (cs : List Bool) (c : Int) (hr : A0 W T cs = true) (h0 : 0 ≤ c) (h1 : c < 2 ^ 40) :
  SoundAt Tryz.prog M9 [.agg [.v (.int .i64 W), .v (.int .i64 T), .sl 1 1 (AC cs)], .v (.int .i64 c)]
   (if sqB W T cs c = true then .tup [.v (.int .i64 (swI W c)), .v (.int .i64 (swI W c + 1)), .v (.int .i64 (swI W c + W)), .v (.int .i64 (swI W c + W + 1)), .v (.bool true)]
    else .tup [.v (.int .i64 0), .v (.int .i64 0), .v (.int .i64 0), .v (.int .i64 0), .v (.bool false)]) [.bot, .bot] := by
 obtain ⟨w1, w2, t1, t2, l1, _⟩ := CM hr
 have h36 := AZ hr
 have m1 := Int.emod_nonneg c (show W + 1 ≠ 0 by omega)
 have m2 := Int.emod_lt_of_pos c (show 0 < W + 1 by omega)
 have m3 := Int.ediv_nonneg h0 (show 0 ≤ W + 1 by omega)
 have m4 := Int.ediv_le_self (W + 1) h0
 have hs := @df W T cs c h0
 have c1 := LP W T cs (c % (W + 1) - 1) (c / (W + 1) - 1) hr (by omega) (by omega)
 have c2 := LP W T cs (c % (W + 1)) (c / (W + 1) - 1) hr (by omega) (by omega)
 have c3 := LP W T cs (c % (W + 1) - 1) (c / (W + 1)) hr (by omega) (by omega)
 have c4 := LP W T cs (c % (W + 1)) (c / (W + 1)) hr (by omega) (by omega)
 have hsw := @Zd W T c w1
 have hsd : swI W c = (c / (W + 1) - 1) * W + c % (W + 1) - 1 := rfl
 unfold sqB at *
 have w0 : 1 ≤ W + 1 := by omega
 refine AE (md := md5) (ms := [false, false]) UX (by simp) ?_
 simp [NA, h0, w0]
 generalize c % (W + 1) = x at *
 generalize c / (W + 1) = y at *
 refine ⟨by omega, by omega, by omega, by omega, ?_⟩
 refine AA c1 ?_
 cases b1 : aV W T cs (x - 1) (y - 1) with
 | false => simp
 | true =>
 simp
 refine ⟨by omega, ?_⟩
 refine AA c2 ?_
 cases b2 : aV W T cs x (y - 1) with
 | false => simp
 | true =>
 simp
 refine ⟨by omega, ?_⟩
 refine AA c3 ?_
 cases b3 : aV W T cs (x - 1) y with
 | false => simp
 | true =>
 simp
 refine AA c4 ?_
 cases b4 : aV W T cs x y with
 | false => simp
 | true =>
 have hm := hsw (hs (by simp [b1, b2, b3, b4]))
 rw [hsd] at hm
 rw [hsd]
 simp
 generalize (y - 1) * W = z at *
 (repeat' first | omega | rfl | apply And.intro)
theorem dg {W T c : Int} (w1 : 1 ≤ W) (t1 : 1 ≤ T) (h : Vf W T c = true) : 0 ≤ c ∧ c ≤ ec W T - 1 := by
 simp only [Vf, decide_eq_true_eq] at h
 refine ⟨h.1, ?_⟩
 have e := Int.mul_ediv_add_emod c (W + 1)
 have m2 := Int.emod_lt_of_pos c (show 0 < W + 1 by omega)
 have h2 : (W + 1) * (c / (W + 1)) ≤ (W + 1) * T := Int.mul_le_mul_of_nonneg_left (by omega) (by omega)
 unfold ec
 rw [Int.mul_add, Int.mul_one]
 omega
theorem gy {W T : Int} {cs : List Bool} {ls : List Int} {c : Int} (hr : A0 W T cs = true) (hy : AO W T cs ls = true) (h0 : 0 ≤ c) :
  (sqB W T cs c && (Rj W ls c || upB W ls c)) = F4 W T ls c := by
 obtain ⟨w1, w2, t1, t2, l1, _⟩ := CM hr
 cases hf : F4 W T ls c with
 | true =>
   obtain ⟨⟨a1, a2, a3, a4⟩, _⟩ := dc hr hy hf
   have hf2 := hf
   simp only [F4, Bool.and_eq_true] at hf2
   obtain ⟨x, y, x0, x1, y0, y1, e, ex, ey⟩ := Yf w1 hf2.1
   have hm : (y + 1) * W = y * W + W := by rw [Int.add_mul, Int.one_mul]
   rw [e] at a1 a2 a3 a4
   rw [hf2.2, Bool.and_true]
   simp only [sqB, aV, ex, ey, Bool.and_eq_true, decide_eq_true_eq]
   refine ⟨⟨⟨⟨by omega, by omega, ?_⟩, by omega, by omega, ?_⟩, by omega, by omega, ?_⟩, by omega, by omega, ?_⟩
   ·rw [show (y + 1 - 1) * W + (x + 1 - 1) = y * W + x by rw [show y + 1 - 1 = y by omega]; omega]; exact a1
   ·rw [show (y + 1 - 1) * W + (x + 1) = y * W + x + 1 by rw [show y + 1 - 1 = y by omega]; omega]; exact a2
   ·rw [show (y + 1) * W + (x + 1 - 1) = y * W + x + W by omega]; exact a3
   ·rw [show (y + 1) * W + (x + 1) = y * W + x + W + 1 by omega]; exact a4
 | false =>
   cases hs : sqB W T cs c with
   | false => rfl
   | true =>
     have hm := df h0 hs
     simp only [F4, hm, Bool.true_and] at hf
     simp [hf]
def mJ (W T : Int) (cs : List Bool) (ls : List Int) (c : Int) : Bool := (A0 W T cs && AO W T cs ls) && F4 W T ls c
theorem Vg (W T : Int) (cs : List Bool) (ls : List Int) (c : Int) (hb : cs.length < 2 ^ 40) (hl : ls.length < 2 ^ 40) :
  SoundAt Tryz.prog Ob [.agg [.v (.int .i64 W), .v (.int .i64 T), .sl 1 1 (AC cs)], .sl 1 1 (AB ls), .v (.int .i64 c)] (.v (.bool (mJ W T cs ls c))) [.bot, .bot, .bot] := by
 refine AE (md := md5) (ms := [false, false, false]) Vc (by simp) ?_
 simp [Oc]
 refine AA (BV W T cs ls hb hl) ?_
 unfold mJ
 cases hq : (A0 W T cs && AO W T cs ls) with
 | false => simp
 | true =>
 simp only [Bool.and_eq_true] at hq
 obtain ⟨hr, hy⟩ := hq
 obtain ⟨w1, w2, t1, t2, l1, _⟩ := CM hr
 have h36 := AZ hr
 have hlen := Ap hy
 have hc := de w1 w2 t1 t2
 have cm := Rl W T cs hb
 rw [if_pos hr] at cm
 simp
 refine AA cm ?_
 simp
 refine ⟨by omega, ?_⟩
 by_cases hin : 0 ≤ c ∧ c ≤ ec W T - 1
 case neg =>
  have hf : F4 W T ls c = false := by
   cases hf : F4 W T ls c with
   | false => rfl
   | true =>
     simp only [F4, Bool.and_eq_true] at hf
     exact absurd (dg w1 t1 hf.1) hin
  refine AA (ER (x := c) (lo := 0) (hi := ec W T - 1) hin) ?_
  simp [hf]
 refine AA (DB (x := c) (lo := 0) (hi := ec W T - 1) hin) ?_
 simp
 have sq := ND W T cs c hr hin.1 (by omega)
 have me := gy (c := c) hr hy hin.1
 cases hs : sqB W T cs c with
 | false =>
   have hff : F4 W T ls c = false := by rw [← me, hs]; rfl
   rw [if_neg (by rw [hs]; decide)] at sq
   refine AA sq ?_
   simp [hff]
 | true =>
   have hff : F4 W T ls c = (Rj W ls c || upB W ls c) := by rw [← me, hs]; rfl
   rw [if_pos hs] at sq
   have hm := Zd w1 (df hin.1 hs)
   rw [hff]
   refine AA sq ?_
   have q0 := hm.1
   have q1 : swI W c < ls.length := by omega
   have q2 : 0 ≤ swI W c + W := by omega
   have q3 : swI W c + W < ls.length := by omega
   have q4 : 0 ≤ swI W c + 1 := by omega
   have q5 : swI W c + 1 < ls.length := by omega
   unfold Rj upB
   by_cases e1 : ati ls (swI W c) = 1
   ·have e2 : ¬ ati ls (swI W c) = 2 := by omega
    simp [q0, q1, q2, q3, q4, q5, e1, e2]
   ·by_cases e2 : ati ls (swI W c) = 2
    ·simp [q0, q1, q2, q3, q4, q5, e1, e2]
     by_cases e3 : ati ls (swI W c + 1) = 2 <;> simp [e3]
    ·simp [q0, q1, q2, q3, q4, q5, e1, e2]
theorem dh {ls : List Int} {a W : Int} (h0 : 0 ≤ a) (hW : 2 ≤ W) (p q r s : Int) : (((ls.set a.toNat p).set (a + W).toNat r).set (a + 1).toNat q).set (a + W + 1).toNat s = Rk ls a W p q r s := by
 unfold Rk
 rw [List.set_comm _ _ (show (a + W).toNat ≠ (a + 1).toNat by omega)]
def jj (W T : Int) (cs : List Bool) (ls : List Int) (c : Int) : List Int := if (A0 W T cs && AO W T cs ls) = true then HI W T ls c else []
set_option maxHeartbeats 1000000 in
theorem Vh (W T : Int) (cs : List Bool) (ls : List Int) (c : Int) (hb : cs.length < 2 ^ 40) (hl : ls.length < 2 ^ 40) :
  SoundAt Tryz.prog Od [.agg [.v (.int .i64 W), .v (.int .i64 T), .sl 1 1 (AC cs)], .sl 1 1 (AB ls), .v (.int .i64 c)]
   (.tup [.os 1 (AB (jj W T cs ls c)), .v (.bool (mJ W T cs ls c))]) [.bot, .bot, .bot] := by
 refine AE (md := md5) (ms := [false, false, false]) Vd (by simp) ?_
 simp [Oe]
 refine AA (BV W T cs ls hb hl) ?_
 have may := Vg W T cs ls c hb hl
 unfold mJ jj at *
 cases hq : (A0 W T cs && AO W T cs ls) with
 | false => simp
 | true =>
 rw [hq] at may
 rw [if_pos rfl]
 simp only [Bool.and_eq_true] at hq
 obtain ⟨hr, hy⟩ := hq
 obtain ⟨w1, w2, t1, t2, l1, _⟩ := CM hr
 have h36 := AZ hr
 have hlen := Ap hy
 simp
 refine ⟨by omega, ?_⟩
 cases hf : F4 W T ls c with
 | false =>
   rw [hf] at may
   refine AA may ?_
   have e : HI W T ls c = ls := by unfold HI; rw [hf]; rfl
   simp [e]
 | true =>
   rw [hf] at may
   refine AA may ?_
   have hf2 := hf
   simp only [F4, Bool.and_eq_true] at hf2
   have hW2 : 2 ≤ W := by
    obtain ⟨x, y, x0, x1, _⟩ := Yf w1 hf2.1
    omega
   have hc0 := (dg w1 t1 hf2.1)
   have hcor := de w1 w2 t1 t2
   have me := gy (c := c) hr hy hc0.1
   rw [hf] at me
   have hs : sqB W T cs c = true := by
    simp only [Bool.and_eq_true] at me
    exact me.1
   have sq := ND W T cs c hr hc0.1 (by omega)
   rw [if_pos hs] at sq
   have hm := Zd w1 hf2.1
   have q0 := hm.1
   have q1 : swI W c < ls.length := by omega
   have q2 : 0 ≤ swI W c + W := by omega
   have q3 : swI W c + W < ls.length := by omega
   have q4 : 0 ≤ swI W c + 1 := by omega
   have q5 : swI W c + 1 < ls.length := by omega
   have q6 : 0 ≤ swI W c + W + 1 := by omega
   have q7 : swI W c + W + 1 < ls.length := by omega
   simp
   refine AA sq ?_
   by_cases hF : Rj W ls c = true
   ·have e : HI W T ls c = Rk ls (swI W c) W 2 2 4 4 := by unfold HI; rw [if_pos hf, if_pos hF]
    have hF2 := hF
    simp only [Rj, Bool.and_eq_true, decide_eq_true_eq] at hF2
    have ht : (AB (Rk ls (swI W c) W 2 2 4 4)).take ls.length = AB (Rk ls (swI W c) W 2 2 4 4) := List.take_of_length_le (by simp [DJ])
    unfold Rk at ht e
    simp [q0, q1, q2, q3, q4, q5, q6, q7, hF2.1, EP, e, ht]
   ·have e : HI W T ls c = Rk ls (swI W c) W 1 3 1 3 := by unfold HI; rw [if_pos hf, if_neg hF]
    have hU : upB W ls c = true := by
     have := hf2.2
     simp only [Bool.or_eq_true] at this
     exact this.resolve_left hF
    simp only [upB, Bool.and_eq_true, decide_eq_true_eq] at hU
    have hn1 : ¬ ati ls (swI W c) = 1 := by omega
    have ht : (AB (Rk ls (swI W c) W 1 3 1 3)).take ls.length = AB (Rk ls (swI W c) W 1 3 1 3) := List.take_of_length_le (by simp [DJ])
    have e4 := dh (ls := ls) q0 hW2 1 3 1 3
    simp [q0, q1, q2, q3, q4, q5, q6, q7, hU.1, hn1, EP, e, e4, ht, DJ]
def GJ : BCode := .seq (.base (.reg [.o 2 .box [.t 0], .o 4 (.alloc [.v (.int .i64 (0)), .v (.int .i64 (0)), .v (.int .i64 (0)), .v (.int .i64 (0))]) [], .o 5 .mv [.kb false]])) <| .seq (.calm [(false, .m 9 1), (false, .f 10 0 2), (false, .l 11 10), (false, .o 12 (.bin .add 0) [.t 11, .k 1]), (true, .o 13 (.bin .rem 0) [.t 9, .t 12]), (false, .m 14 1), (false, .f 15 0 2), (false, .l 16 15), (false, .o 17 (.bin .add 0) [.t 16, .k 1]), (true, .o 18 (.bin .quo 0) [.t 14, .t 17]), (false, .m 6 13), (false, .m 7 18)]) <| .base (Aq)
theorem NE : jN Tryz.prog Ek 59 [.c 4 true 4, .t 5] GJ := ⟨Tryz.f238, _, Tryz.func238, rfl, by kernel_rfl, by kernel_rfl, by kernel_rfl, by kernel_rfl⟩
@[simp] abbrev Ju : Nat := 60
abbrev FN : Plan := .take (.o 41 (.iadr 1) [.t 37, .t 38]) <| .al (.s (.store 1) [.t 41, .t 40]) ( .done)
def Cc : ACode := .seq (.reg [.o 32 (.bin .lss 0) [.t 31, .t 30]]) <| .seq (.cond (.t 32) ( .skip) ( .exit 0)) <| .seq (.block 1 ( .seq (.reg [.m 33 31, .o 34 (.iadr 1) [.t 29, .t 31], .l 35 34, .m 4 33, .m 5 35]) <| .draw ( .take (.f 36 5 3) <| .take (.m 38 4) <| .take (.m 39 5) <| .alt (.l 37 36) ( .al (.o 40 (.call 126 []) [.t 39]) FN) <| .al (.o 40 (.call 126 []) [.t 39]) ( .al (.l 37 36) FN)))) <| .reg [.o 42 (.bin .add 0) [.t 31, .k 1], .m 31 42]
def HB : ACode := .seq (.seq (.reg [.f 28 5 1, .l 29 28, .n 30 29, .o 31 .mv [.k 0]]) <| .block 0 ( .loop [(29, 1)] [2, 3, 29, 30, 31] Cc)) <| .seq (.reg [.la 43 6 3, .s (.store 6) [.t 2, .t 43]]) <| .ret
abbrev DK : Plan := .take (.o 27 (.build bz [(0, 3), (3, 1), (4, 1), (5, 1)]) [.t 16, .t 19, .t 22, .t 26]) <| .al (.s (.store 6) [.t 3, .t 27]) ( .done)
abbrev Bx : Plan := .al (.o 22 (.call 126 []) [.t 21]) DK
abbrev DL : Plan := .alt (.o 22 (.call 126 []) [.t 21]) ( .take (.o 27 (.build bz [(0, 3), (3, 1), (4, 1), (5, 1)]) [.t 16, .t 19, .t 22, .t 26]) <| .al (.o 3 (.alloc bz) []) ( .al (.s (.store 6) [.t 3, .t 27]) ( .done))) <| .al (.o 3 (.alloc bz) []) Bx
abbrev DM : Plan := .alt (.o 22 (.call 126 []) [.t 21]) ( .al (.o 26 (.mksl 1 24 (.os 1 [])) [.t 25, .t 25]) DK) <| .al (.o 26 (.mksl 1 24 (.os 1 [])) [.t 25, .t 25]) Bx
abbrev Bz : Plan := .al (.o 19 (.call 126 []) [.t 18]) Bx
abbrev Fp : Plan := .al (.o 15 (.call 125 []) [.t 14]) ( .take (.o 16 (.build rz [(0, 1), (1, 1), (2, 1)]) [.t 8, .t 11, .t 15]) <| .al (.o 19 (.call 126 []) [.t 18]) Bx)
def HW : BCode := .seq (.base (.reg [.o 1 .box [.t 0], .o 2 (.alloc bz) []])) <| .frz 1 <| .seq (.early [.f 6 0 1, .f 7 0 6, .l 8 7, .f 9 0 1, .f 10 1 9, .l 11 10, .f 12 0 1, .f 13 2 12, .l 14 13, .f 17 3 1, .l 18 17, .f 20 4 1, .l 21 20, .f 23 5 1, .l 24 23, .n 25 24] ( .alt (.o 15 (.call 125 []) [.t 14]) ( .take (.o 16 (.build rz [(0, 1), (1, 1), (2, 1)]) [.t 8, .t 11, .t 15]) <| .alt (.o 19 (.call 126 []) [.t 18]) ( .alt (.o 22 (.call 126 []) [.t 21]) ( .alt (.o 26 (.mksl 1 24 (.os 1 [])) [.t 25, .t 25]) ( .take (.o 27 (.build bz [(0, 3), (3, 1), (4, 1), (5, 1)]) [.t 16, .t 19, .t 22, .t 26]) <| .al (.o 3 (.alloc bz) []) ( .al (.s (.store 6) [.t 3, .t 27]) ( .done))) <| .al (.o 3 (.alloc bz) []) ( .al (.o 26 (.mksl 1 24 (.os 1 [])) [.t 25, .t 25]) DK)) <| .alt (.o 26 (.mksl 1 24 (.os 1 [])) [.t 25, .t 25]) DL <| .al (.o 3 (.alloc bz) []) DM) <| .alt (.o 26 (.mksl 1 24 (.os 1 [])) [.t 25, .t 25]) ( .alt (.o 19 (.call 126 []) [.t 18]) DL <| .al (.o 3 (.alloc bz) []) Bz) <| .al (.o 3 (.alloc bz) []) ( .alt (.o 19 (.call 126 []) [.t 18]) DM <| .al (.o 26 (.mksl 1 24 (.os 1 [])) [.t 25, .t 25]) Bz)) <| .alt (.o 26 (.mksl 1 24 (.os 1 [])) [.t 25, .t 25]) ( .alt (.o 15 (.call 125 []) [.t 14]) ( .take (.o 16 (.build rz [(0, 1), (1, 1), (2, 1)]) [.t 8, .t 11, .t 15]) <| .alt (.o 19 (.call 126 []) [.t 18]) DL <| .al (.o 3 (.alloc bz) []) Bz) <| .al (.o 3 (.alloc bz) []) Fp) <| .al (.o 3 (.alloc bz) []) ( .alt (.o 15 (.call 125 []) [.t 14]) ( .take (.o 16 (.build rz [(0, 1), (1, 1), (2, 1)]) [.t 8, .t 11, .t 15]) <| .alt (.o 19 (.call 126 []) [.t 18]) DM <| .al (.o 26 (.mksl 1 24 (.os 1 [])) [.t 25, .t 25]) Bz) <| .al (.o 26 (.mksl 1 24 (.os 1 [])) [.t 25, .t 25]) Fp))) <| .base (.gc [] [1, 2, 3] HB)
theorem Qu : jN Tryz.prog Ju 44 [.c 2 true 6] HW := ⟨Tryz.f60, _, Tryz.func60, rfl, by kernel_rfl, by kernel_rfl, by kernel_rfl, by kernel_rfl⟩
def arV (a b c d : Int) : AV := .agg [.v (.int .i64 a), .v (.int .i64 b), .v (.int .i64 c), .v (.int .i64 d)]
def arR (W T c : Int) : AV := if Vf W T c = true then .tup [arV (swI W c) (swI W c + 1) (swI W c + W) (swI W c + W + 1), .v (.bool true)] else .tup [arV 0 0 0 0, .v (.bool false)]
theorem HX (W T : Int) (cs : List Bool) (c : Int) (hr : A0 W T cs = true) (h1 : c ≤ 9223372036854775807) :
  SoundAt Tryz.prog Ek [.agg [.v (.int .i64 W), .v (.int .i64 T), .sl 1 1 (AC cs)], .v (.int .i64 c)] (arR W T c) [.bot, .bot] := by
 obtain ⟨w1, w2, t1, t2, l1, _⟩ := CM hr
 have h36 := AZ hr
 have w0 : 1 ≤ W + 1 := by omega
 by_cases h0 : 0 ≤ c
 case neg =>
  have hm : Vf W T c = false := by simp [Vf]; omega
  have hc : c < 0 := by omega
  refine YH (md := md0) (ms := [false, false]) NE (by simp) ?_
  simp [GJ]
  refine ⟨by omega, ?_⟩
  refine aH (.inr rfl) ?_
  simp [fY, w0]
  refine ⟨by omega, ?_⟩
  refine aH (.inl rfl) ?_
  simp [fY, w0, Aq, hc, arR, hm, arV]
 have m1 := Int.emod_nonneg c (show W + 1 ≠ 0 by omega)
 have m2 := Int.emod_lt_of_pos c (show 0 < W + 1 by omega)
 have m3 := Int.ediv_nonneg h0 (show 0 ≤ W + 1 by omega)
 have m4 := Int.ediv_le_self (W + 1) h0
 refine AE (md := md0) (ms := [false, false]) Nz (by simp) ?_
 have hsw := @Zd W T c w1
 have hsd : swI W c = (c / (W + 1) - 1) * W + c % (W + 1) - 1 := rfl
 have hc : ¬ c < 0 := by omega
 by_cases hx : 1 ≤ c % (W + 1) ∧ c % (W + 1) ≤ W - 1
 case neg =>
  have hm : Vf W T c = false := by simp [Vf]; omega
  simp [Cs, h0, w0]
  (repeat' first | omega | apply And.intro) <;>
  ·simp [Aq, hc]
   refine ⟨by omega, ?_⟩
   refine AA (D6 (x := c % (W + 1)) (lo := 1) (hi := W - 1) hx) ?_
   simp [arR, hm, arV]
 by_cases hy : 1 ≤ c / (W + 1) ∧ c / (W + 1) ≤ T - 1
 case neg =>
  have hm : Vf W T c = false := by simp [Vf]; omega
  simp [Cs, h0, w0]
  (repeat' first | omega | apply And.intro) <;>
  ·simp [Aq, hc]
   refine ⟨by omega, ?_⟩
   refine AA (A7 (x := c % (W + 1)) (lo := 1) (hi := W - 1) hx) ?_
   simp
   refine ⟨by omega, ?_⟩
   refine AA (D6 (x := c / (W + 1)) (lo := 1) (hi := T - 1) hy) ?_
   simp [arR, hm, arV]
 have hm : Vf W T c = true := by simp [Vf]; omega
 have hs := hsw hm
 have hz : swI W c = (c / (W + 1) - 1) * W + c % (W + 1) - 1 := hsd
 rw [hz] at hs
 simp [Cs, h0, w0]
 (repeat' first | omega | apply And.intro) <;>
 ·simp [Aq, hc]
  refine ⟨by omega, ?_⟩
  refine AA (A7 (x := c % (W + 1)) (lo := 1) (hi := W - 1) hx) ?_
  simp
  refine ⟨by omega, ?_⟩
  refine AA (A7 (x := c / (W + 1)) (lo := 1) (hi := T - 1) hy) ?_
  simp [arR, hm, arV, hz]
  generalize (c / (W + 1) - 1) * W = z at *
  (repeat' first | omega | rfl | apply And.intro)
@[simp] theorem ft {P : Program} {md : Nat → List Bool} {K : ES → AH → Prop} {E : ES} {H : AH} {dst : Option Nat} {k : AK} {xs : List Opd} {s : Nat} {w : Bool} {os : List AOper} {p : Plan} :
  Ha P md (⟨dst, k, xs, some (s, w)⟩ :: os) p K E H = (YF ⟨dst, k, xs, some (s, w)⟩ E ∧ F5 P md ⟨dst, k, xs, some (s, w)⟩ s w (Ha P md os p K) E H (get E s)) := (rfl)
set_option maxHeartbeats 4000000 in
theorem LQ (W T : Int) (cs : List Bool) (ls : List Int) (c : Int) (hr : A0 W T cs = true) (hl : ls.length = cs.length) (h1 : c ≤ 9223372036854775807) :
  SoundAt Tryz.prog Fo [.agg [.v (.int .i64 W), .v (.int .i64 T), .sl 1 1 (AC cs)], .sl 1 1 (AB ls), .v (.int .i64 c)]
   (.tup [.v (.bool (Vf W T c && Rj W ls c)), .v (.bool (Vf W T c && upB W ls c))]) [.bot, .bot, .bot] := by
 obtain ⟨w1, w2, t1, t2, l1, _⟩ := CM hr
 have h36 := AZ hr
 have ar := HX W T cs c hr h1
 refine YH (md := md0) (ms := [false, false, false]) LO (by simp) ?_
 simp [Ey]
 refine AA ar ?_
 cases hm : Vf W T c with
 | false => simp [arR, hm, arV]
 | true =>
   have hs := Zd w1 hm
   have q0 := hs.1
   have q1 : swI W c < ls.length := by omega
   have q2 : 0 ≤ swI W c + W := by omega
   have q3 : swI W c + W < ls.length := by omega
   have q4 : 0 ≤ swI W c + 1 := by omega
   have q5 : swI W c + 1 < ls.length := by omega
   simp [arR, hm, arV]
   refine YI rfl rfl rfl ?_
   unfold Rj upB
   by_cases e1 : ati ls (swI W c) = 1
   ·have e2 : ¬ ati ls (swI W c) = 2 := by omega
    simp [q0, q1, q2, q3, q4, q5, e1, e2]
    by_cases e3 : ati ls (swI W c + W) = 1 <;> simp [e3]
   ·by_cases e2 : ati ls (swI W c) = 2
    ·simp [q0, q1, q2, q3, q4, q5, e1, e2]
     by_cases e3 : ati ls (swI W c + 1) = 2 <;> simp [e3]
    ·simp [q0, q1, q2, q3, q4, q5, e1, e2]
set_option maxHeartbeats 4000000 in
theorem Qv (W T : Int) (cs : List Bool) (ls : List Int) (c : Int) (hr : A0 W T cs = true) (hl : ls.length = cs.length) (h1 : c ≤ 9223372036854775807) :
  SoundAt Tryz.prog Jt [.agg [.v (.int .i64 W), .v (.int .i64 T), .sl 1 1 (AC cs)], .sl 1 1 (AB ls), .v (.int .i64 c)]
   (.tup [.os 1 (AB (HI W T ls c)), .v (.bool (F4 W T ls c))]) [.bot, .bot, .bot] := by
 obtain ⟨w1, w2, t1, t2, l1, _⟩ := CM hr
 have h36 := AZ hr
 have ar := HX W T cs c hr h1
 have fl := LQ W T cs ls c hr hl h1
 refine YH (md := md0) (ms := [false, false, false]) Qt (by simp) ?_
 simp [HV]
 refine AA (Ag ls (by omega)) ?_
 simp
 refine AA fl ?_
 simp
 refine AA ar ?_
 have htl : (AB ls).take ls.length = AB ls := AD ls
 cases hm : Vf W T c with
 | false =>
   have e : HI W T ls c = ls := by simp [HI, F4, hm]
   have e2 : F4 W T ls c = false := by simp [F4, hm]
   simp [arR, hm, arV, e, e2]
   refine YI rfl rfl rfl ?_
   simp [htl]
 | true =>
   have hs := Zd w1 hm
   have hW2 : 2 ≤ W := by
    obtain ⟨x, y, x0, x1, _⟩ := Yf w1 hm
    omega
   have q0 := hs.1
   have q1 : swI W c < ls.length := by omega
   have q2 : 0 ≤ swI W c + W := by omega
   have q3 : swI W c + W < ls.length := by omega
   have q4 : 0 ≤ swI W c + 1 := by omega
   have q5 : swI W c + 1 < ls.length := by omega
   have q6 : 0 ≤ swI W c + W + 1 := by omega
   have q7 : swI W c + W + 1 < ls.length := by omega
   simp [arR, hm, arV]
   refine YI rfl rfl rfl ?_
   cases hF : Rj W ls c with
   | true =>
     have e2 : F4 W T ls c = true := by simp [F4, hm, hF]
     have e : HI W T ls c = Rk ls (swI W c) W 2 2 4 4 := by unfold HI; rw [if_pos e2, if_pos hF]
     have ht : (AB (Rk ls (swI W c) W 2 2 4 4)).take ls.length = AB (Rk ls (swI W c) W 2 2 4 4) := List.take_of_length_le (by simp [DJ])
     have hlen := DJ ls (swI W c) W 2 2 4 4
     rw [e, e2]
     unfold Rk at *
     simp [q0, q1, q2, q3, q4, q5, q6, q7, EP, ht]
   | false =>
     cases hU : upB W ls c with
     | true =>
       have e2 : F4 W T ls c = true := by simp [F4, hm, hU]
       have e : HI W T ls c = Rk ls (swI W c) W 1 3 1 3 := by unfold HI; rw [if_pos e2, if_neg (by rw [hF]; decide)]
       have ht : (AB (Rk ls (swI W c) W 1 3 1 3)).take ls.length = AB (Rk ls (swI W c) W 1 3 1 3) := List.take_of_length_le (by simp [DJ])
       rw [e, e2]
       unfold Rk at *
       simp [q0, q1, q2, q3, q4, q5, q6, q7, EP, ht]
     | false =>
       have e2 : F4 W T ls c = false := by simp [F4, hF, hU]
       have e : HI W T ls c = ls := by simp [HI, e2]
       rw [e, e2]
       simp [htl]
theorem Vi (W T : Int) (cs : List Bool) (ls : List Int) (k : Nat) (hr : A0 W T cs = true) (hy : AO W T cs ls = true) (hk : k < ls.length) :
  SoundAt Tryz.prog Gp [.agg [.v (.int .i64 W), .v (.int .i64 T), .sl 1 1 (AC cs)], .sl 1 1 (AB ls), .v (.int .i64 k)]
   (if ati ls k = 0 then .tup [.os 1 (AB ls), .v (.bool false)] else .tup [.os 1 (AB (LL W T ls k)), .v (.bool true)]) [.bot, .bot, .bot] := by
 refine AE (md := md5) (ms := [false, false, false]) Oa (by simp) ?_
 have h36 := AZ hr
 have hl := Ap hy
 simp [KG]
 refine AA (BV W T cs ls (by omega) (by omega)) ?_
 simp [hr, hy]
 refine ⟨by omega, by omega, ?_⟩
 refine AA (DB (x := k) (lo := 0) (hi := (ls.length : Int) - 1) (by omega)) ?_
 by_cases hz : ati ls k = 0
 ·simp [hk, hz]
 obtain ⟨t, e, ht, htk, _⟩ := XT hr hy hk hz
 have eL : LL W T ls k = (ls.set t 0).set k 0 := by unfold LL; rw [e]; simp
 rw [eL]
 have one := He W T cs k (ati ls k) hr (by omega) (by omega)
 rw [e] at one
 simp [hk, hz]
 (repeat' first | assumption | omega | apply And.intro) <;>
 ·refine AA one ?_
  have htk2 : (AB ((ls.set t 0).set k 0)).take ls.length = AB ((ls.set t 0).set k 0) := List.take_of_length_le (by simp)
  simp [ht, hk, EP, Kq, htk2]
theorem jk {us : List Value} (h : ∀ u ∈ us, u.oneCell' = true) : okL (KL us) = true := by
 induction us with
 | nil => simp [KL]
 | cons u us ih =>
   have h1 := h u (by simp)
   have h2 := ih fun x hx => h x (by simp [hx])
   show (okE (.v u) && okL (KL us)) = true
   rw [h2, Bool.and_true]
   exact h1
@[simp] theorem nJ (us : List Value) : (KL us).take us.length = KL us := List.take_of_length_le (by simp)
theorem N0 (us : List Value) (hn : us.length < 2 ^ 40) (h1 : ∀ u ∈ us, u.oneCell' = true) :
  SoundAt Tryz.prog E8 [.sl 0 1 (KL us)] (.os 1 (KL us)) [.bot] := by
 refine AE (md := md3) (ms := [false]) PF (by simp) ?_
 simp [IX]
 simp [jk h1]
 refine ⟨fun _ => by omega, fun e => ⟨by omega, by rw [e]; rfl⟩⟩
theorem Rm (us : List Value) : SoundAt Tryz.prog Fm [.os 1 (KL us)] (.os 1 (KL us)) [.bot] := by
 refine AE (md := md3) (ms := [false]) Jo (by simp) ?_
 simp [Fn]
theorem fv (us : List Value) : noVL (KL us) = true := by
 induction us with
 | nil => rfl
 | cons u us ih => show (noV (.v u) && noVL (KL us)) = true; rw [ih]; rfl
theorem Qw (us : List Value) (hn : us.length < 2 ^ 40) (h1 : ∀ u ∈ us, u.oneCell' = true) :
  SoundAt Tryz.prog E8 [.sl 1 1 (KL us)] (.os 1 (KL us)) [.bot] := by
 refine SoundAt.lift (n := 1) (fun C S us hr => noOL_ok _ S us rfl hr) (by simp [noV, fv]) ?_
 have := N0 us hn h1
 simpa [vwL, vw, UM] using this
theorem Sm (us : List Value) (hn : us.length < 2 ^ 40) (h1 : ∀ u ∈ us, u.oneCell' = true) :
  SoundAt Tryz.prog Kf [.sl 1 1 (KL us)] (.os 1 (KL us)) [.bot] := by
 refine AE (md := md3) (ms := [false]) Ri (by simp) ?_
 simp [Kg]
 refine AA (Qw us hn h1) ?_
 simp [UM]
 refine AA (Rm us) ?_
 simp
def XX (d : Int × Int × Int) : Bool :=
 if d.1 = 0 then true else if d.1 = 1 ∨ d.1 = 2 then decide (d.2.2 = 0) else if d.1 = 3 ∨ d.1 = 4 then decide (d.2.1 = 0 ∧ d.2.2 = 0) else false
theorem Rn (d : Int × Int × Int) : SoundAt Tryz.prog Gh [A8 d] (.v (.bool (XX d))) [.bot] := by
 obtain ⟨k, s, w⟩ := d
 refine AE (md := md3) (ms := [false]) Ku (by simp [A8]) ?_
 by_cases h0 : k = 0 <;> by_cases h1 : k = 1 <;> by_cases h2 : k = 2 <;> by_cases h3 : k = 3 <;> by_cases h4 : k = 4 <;> by_cases hs : s = 0 <;> by_cases hw : w = 0 <;> first | (exfalso; omega) | (simp [Gi, A8, XX, h0, h1, h2, h3, h4, hs, hw])
theorem UY (d : Int × Int × Int) : SoundAt Tryz.prog Iq [A8 d] (.v (.bool (XX d))) [.bot] := by
 obtain ⟨k, s, w⟩ := d
 refine AE (md := md3) (ms := [false]) NC (by simp [A8]) ?_
 by_cases h0 : k = 0 <;> by_cases h1 : k = 1 <;> by_cases h2 : k = 2 <;> by_cases h3 : k = 3 <;> by_cases h4 : k = 4 <;> by_cases hs : s = 0 <;> by_cases hw : w = 0 <;> first | (exfalso; omega) | (simp [Ir, A8, XX, h0, h1, h2, h3, h4, hs, hw])
theorem SoundAt.none0 {P : Program} {f n : Nat} {avs : List AV} {x : Value} (h : SoundAt P f avs (.tup [.os 1 [], .v x]) (List.replicate n .bot)) : SoundAt P f avs (.tup [.sl 0 1 [], .v x]) (List.replicate n .bot) := by
 intro w forb us S hr hnd hsz hforb
 refine Calls.mono (h w forb us S hr hnd hsz hforb) ?_
 rintro e w' ⟨v, S', he, hv, hnd', hmem, hk⟩
 rw [RL] at hv
 obtain ⟨S1, S2, u, us', rfl, hu, h1, h2⟩ := hv
 cases hu
 obtain ⟨rfl, h4⟩ := Y9 n h2
 refine ⟨v, [], he, ?_, List.nodup_nil, by simp, hk⟩
 rw [RL]
 refine ⟨[], [], v, us, rfl, rfl, ?_, h4 _⟩
 rw [R] at h1 ⊢
 obtain ⟨vs, hvs, h1⟩ := h1
 refine ⟨vs, hvs, ?_⟩
 rw [RL] at h1 ⊢
 obtain ⟨A1, A2, u1, us1, _, rfl, a1, a2⟩ := h1
 rw [RL] at a2
 obtain ⟨A3, A4, u2, us2, _, rfl, a3, a4⟩ := a2
 rw [RL] at a4
 obtain ⟨_, rfl⟩ := a4
 refine ⟨[], [], u1, [u2], rfl, rfl, ?_, ?_⟩
 ·rw [R] at a1
  obtain ⟨a, cap, h5, h6, _⟩ := a1
  show R (Xt w' [] forb) (.sl 0 1 []) [] u1
  rw [R]
  exact ⟨rfl, a, cap, h5, h6, .inl rfl⟩
 ·rw [RL]
  refine ⟨[], [], u2, [], rfl, rfl, ?_, by rw [RL]; exact ⟨rfl, rfl⟩⟩
  rw [R] at a3
  rw [R]
  exact ⟨rfl, a3.2⟩
def Xj (W T : Int) (cs : List Bool) (ds ls : List Int) : List Int := (BL W T cs ds ls).getD []
def bW (W T : Int) (cs : List Bool) (ds ls : List Int) : Bool := (BL W T cs ds ls).isSome
theorem Qx (W T : Int) (cs : List Bool) (ds ls : List Int) (hb : cs.length < 2 ^ 40) (hd : ds.length < 2 ^ 40) (hl : ls.length < 2 ^ 40) :
  SoundAt Tryz.prog Gf [.agg [.v (.int .i64 W), .v (.int .i64 T), .sl 1 1 (AC cs)], .sl 1 1 (AB ds), .sl 1 1 (AB ls)] (.tup [.sl 0 1 (AB (Xj W T cs ds ls)), .v (.bool (bW W T cs ds ls))]) [.bot, .bot, .bot] := by
 have h := Kp W T cs ds ls hb hd hl
 cases hx : BL W T cs ds ls with
 | none =>
   rw [hx] at h
   simp only [Xj, bW, hx]
   exact SoundAt.none0 (n := 3) h
 | some x =>
   rw [hx] at h
   simp only [Xj, bW, hx]
   exact h
theorem So (bs : List Int) (k : Int) (h0 : 0 ≤ k) (h1 : k < 2 ^ 60) (hb : bs.length < 2 ^ 40) :
  SoundAt Tryz.prog H4 [.os 1 (AB bs), .v (.int .i64 k)] (.v (.int .i64 (k + bs.length))) [.os 1 (AB (A9 bs.length k)), .bot] := by
 refine AE (md := md0) (ms := [true, false]) Mb (by simp) ?_
 simp [H5]
 refine AF (fun m E H => ∃ i : Nat, m = bs.length - i ∧ i ≤ bs.length ∧ H = [some (.arr 1 (AB (A9 i k ++ bs.drop i)))] ∧ E = [(0, .ls 1 0 0 bs.length), (1, .v (.int .i64 (k + i))), (5, .v (.int .i64 i)), (19, .ls 1 0 0 bs.length)]) bs.length ⟨0, by simp [A9]⟩ ?_
 rintro J hJ m E H ⟨i, rfl, hi, rfl, rfl⟩
 simp [FW]
 refine ⟨fun h => ?_, fun h => ?_⟩
 ·simp [h]
  have e : (AB (A9 i k ++ bs.drop i)).set i (.v (.int .i64 (k + i))) = AB (A9 (i + 1) k ++ bs.drop (i + 1)) := by
   rw [EP, Tz _ _ _ _ (by simp [A9]) h, A9, A9, List.range_succ, List.map_append]; rfl
  simp [A9] at e ⊢
  refine ⟨by omega, by omega, by omega, _, ?_, hJ _ _ _ ⟨i + 1, rfl, h, ?_, ?_⟩⟩
  ·omega
  ·simp [A9, e]
  ·simp; omega
 ·have : i = bs.length := by omega
  subst this
  simp [A9]
theorem Sp (n : Nat) (k : Int) (h0 : 0 ≤ k) (h1 : k < 2 ^ 60) (hb : n < 2 ^ 40) :
  SoundAt Tryz.prog H6 [.sl 1 1 (AB (A9 n k)), .v (.int .i64 k)] (.v (.int .i64 (k + n))) [.bot, .bot] := by
 refine AE (md := md0) (ms := [false, false]) Mc (by simp) ?_
 simp [H7]
 refine AF (fun m E H => ∃ i : Nat, m = n - i ∧ i ≤ n ∧ H = [] ∧ E = [(0, .sl 1 1 (AB (A9 n k))), (1, .v (.int .i64 (k + i))), (5, .v (.int .i64 i))]) n ⟨0, by simp⟩ ?_
 rintro J hJ m E H ⟨i, rfl, hi, rfl, rfl⟩
 simp [FX, FY]
 refine ⟨fun h => ?_, fun h => ?_⟩
 ·have e : ati (A9 n k) i = k + i := by simp [ati, A9, h]
  have hl := FY n k
  simp [e, h]
  refine ⟨by omega, by omega, _, by omega, hJ _ _ _ ⟨i + 1, rfl, h, rfl, ?_⟩⟩
  simp; omega
 ·have : i = n := by omega
  subst this
  simp
@[simp] theorem gz (c : Nat) (ps : List (List Int)) : (sls c ps).take ps.length = sls c ps := List.take_of_length_le (by simp)
def BM : Int → List (List Int) → List (List Int)
 | _, [] => []
 | k, p :: ps => A9 p.length k :: BM (k + p.length) ps
theorem di (p : List Int) (ps : List (List Int)) : Dn (p :: ps) = p.length + Dn ps := by simp [Dn]
theorem KI : ∀ (k : Int) (a b : List (List Int)), BM k (a ++ b) = BM k a ++ BM (k + Dn a) b
 | k, [], b => by simp [BM, Dn]
 | k, p :: a, b => by
   rw [List.cons_append, BM, BM, KI, di, List.cons_append, show k + (p.length : Int) + (Dn a : Int) = k + ((p.length + Dn a : Nat) : Int) by omega]
@[simp] theorem Vj : ∀ (k : Int) (a : List (List Int)), (BM k a).length = a.length
  | k, [] => by simp [BM]
  | k, p :: a => by simp [BM, Vj]
@[simp] theorem g8 (k : Int) (ps : List (List Int)) : (oss (BM k ps)).take ps.length = oss (BM k ps) := List.take_of_length_le (by simp)
theorem Yg {ps : List (List Int)} {i : Nat} (k : Int) (h : i < ps.length) : BM k (ps.take (i + 1)) = BM k (ps.take i) ++ [A9 (pti ps i).length (k + Dn (ps.take i))] := by
 rw [List.take_succ_eq_append_getElem h, KI, ED h]
 rfl
theorem bX {ps : List (List Int)} {i : Nat} (k : Int) (h : i < ps.length) : pti (BM k ps) i = A9 (pti ps i).length (k + Dn (ps.take i)) := by
 have e : BM k ps = BM k (ps.take i) ++ BM (k + Dn (ps.take i)) (ps.drop i) := by
  rw [← KI, List.take_append_drop]
 have hl : (ps.take i).length = i := by simp; omega
 rw [e, dD, List.getD_eq_getElem?_getD, List.getElem?_append_right (by simp [hl]), List.drop_eq_getElem_cons h]
 simp [hl, BM, ED h]
theorem Sq (ps : List (List Int)) (k : Int) (h0 : 0 ≤ k) (h1 : k + Dn ps < 2 ^ 60) (hb : ps.length < 2 ^ 40) (hp : ∀ p ∈ ps, p.length < 2 ^ 40) :
  SoundAt Tryz.prog Ls [.os 1 (oss ps), .v (.int .i64 k)] (.v (.int .i64 (k + Dn ps))) [.os 1 (oss (BM k ps)), .bot] := by
 refine AE (md := md0) (ms := [true, false]) Sj (by simp) ?_
 simp [Lt]
 refine AF (fun m E H => ∃ i : Nat, m = ps.length - i ∧ i ≤ ps.length ∧ H = [some (.arr 1 (oss (BM k (ps.take i) ++ ps.drop i)))] ∧
  E = [(0, .ls 1 0 0 ps.length), (1, .v (.int .i64 (k + Dn (ps.take i)))), (5, .v (.int .i64 i)), (19, .ls 1 0 0 ps.length)]) ps.length ⟨0, by simp [BM, Dn]⟩ ?_
 rintro J hJ m E H ⟨i, rfl, hi, rfl, rfl⟩
 by_cases h : i < ps.length
 case neg =>
  have : i = ps.length := by omega
  subst this
  simp [FA]
 have hs := QV h
 have hle := XF (ps := ps) (i := i + 1)
 have hpl := hp _ (LG h)
 have hX : (BM k (ps.take i)).length = i := by simp; omega
 have hget : (oss (BM k (ps.take i) ++ ps.drop i))[i]? = some (.os 1 (AB (pti ps i))) := by
  unfold oss
  rw [List.getElem?_map, List.getElem?_append_right (by omega), hX, Nat.sub_self, List.drop_eq_getElem_cons h, ED h]
  rfl
 simp [FA, h]
 refine TZ rfl rfl (by simpa using hget) ?_
 intro u
 simp [Oz]
 refine AA (So (pti ps i) (k + Dn (ps.take i)) (by omega) (by omega) hpl) ?_
 simp
 refine ⟨15, u, 0, i, _, 1, 1, _, rfl, rfl, rfl, List.getElem?_set_self (by simp; omega), by simp, rfl, by decide, ?_⟩
 simp [fD]
 have e1 : (oss (BM k (ps.take i) ++ ps.drop i)).set i (.os 1 (AB (A9 (pti ps i).length (k + Dn (ps.take i))))) = oss (BM k (ps.take (i + 1)) ++ ps.drop (i + 1)) := by
  rw [dC, Tz _ _ _ _ hX h, ← Yg k h]
 rw [e1]
 refine ⟨by omega, _, by omega, hJ _ _ _ ⟨i + 1, rfl, h, rfl, ?_⟩⟩
 have e2 : k + (Dn (ps.take i) : Int) + ((pti ps i).length : Int) = k + ((Dn (ps.take (i + 1)) : Nat) : Int) := by omega
 rw [e2]
 rfl
theorem Sr (ps : List (List Int)) (k : Int) (h0 : 0 ≤ k) (h1 : k + Dn ps < 2 ^ 60) (hb : ps.length < 2 ^ 40) (hp : ∀ p ∈ ps, p.length < 2 ^ 40) :
  SoundAt Tryz.prog Lu [.sl 1 1 (sls 1 (BM k ps)), .v (.int .i64 k)] (.v (.int .i64 (k + Dn ps))) [.bot, .bot] := by
 refine AE (md := md0) (ms := [false, false]) Sk (by simp) ?_
 simp [Lv]
 refine AF (fun m E H => ∃ i : Nat, m = ps.length - i ∧ i ≤ ps.length ∧ H = [] ∧
  E = [(0, .sl 1 1 (sls 1 (BM k ps))), (1, .v (.int .i64 (k + Dn (ps.take i)))), (5, .v (.int .i64 i))]) ps.length ⟨0, by simp [Dn]⟩ ?_
 rintro J hJ m E H ⟨i, rfl, hi, rfl, rfl⟩
 by_cases h : i < ps.length
 case neg =>
  have : i = ps.length := by omega
  subst this
  simp [FB]
 have hs := QV h
 have hle := XF (ps := ps) (i := i + 1)
 have hpl := hp _ (LG h)
 have one := Sp (pti ps i).length (k + Dn (ps.take i)) (by omega) (by omega) hpl
 rw [← bX k h] at one
 have hn : ¬ (k + (Dn (ps.take i) : Int) + ((pti ps i).length : Int) < 0) := by omega
 have e2 : k + (Dn (ps.take i) : Int) + ((pti ps i).length : Int) = k + ((Dn (ps.take (i + 1)) : Nat) : Int) := by omega
 simp [FB, h]
 refine AA one ?_
 simp [hn]
 refine ⟨by omega, _, by omega, hJ _ _ _ ⟨i + 1, rfl, h, rfl, ?_⟩⟩
 rw [e2]
 rfl
@[simp] abbrev Kv : Nat := 125
def Kw : ACode := .seq (.reg [.o 2 .mv [.c (.os 1 [])]]) <| .seq (.reg [.m 3 0, .o 4 (.call 174 []) [.t 3], .o 5 (.call 173 []) [.t 4], .m 2 5]) <| .ret
theorem Ro : cFn Tryz.prog Kv 6 [.t 2] Kw := ⟨Tryz.f125, _, Tryz.func125, rfl, by kernel_rfl, by kernel_rfl, by kernel_rfl, by kernel_rfl⟩
@[simp] abbrev FO : Nat := 174
def FP : ACode := .seq (.reg [.o 2 .mv [.c (.os 1 [])]]) <| .seq (.seq (.reg [.m 3 0, .o 4 (.nilq false) [.t 3]]) <| .cond (.t 4) ( .seq (.reg [.o 2 .mv [.c (.os 1 [])]]) <| .ret) ( .skip)) <| .seq (.reg [.o 5 (.bsl 1) [], .m 6 0, .o 7 (.app 1 1 true) [.t 5, .t 6], .m 2 7]) <| .ret
theorem Kx : cFn Tryz.prog FO 8 [.t 2] FP := ⟨Tryz.f174, _, Tryz.func174, rfl, by kernel_rfl, by kernel_rfl, by kernel_rfl, by kernel_rfl⟩
@[simp] abbrev Lx : Nat := 153
def It : ACode := .seq (.seq (.reg [.m 6 5, .m 7 0, .n 8 7, .o 9 (.bin .lss 0) [.t 6, .t 8]]) <| .cond (.t 9) ( .skip) ( .exit 0)) <| .seq (.block 1 ( .seq (.seq (.reg [.m 12 0, .m 13 5, .o 14 (.iadr 1) [.t 12, .t 13], .l 15 14, .m 16 1, .o 17 (.bin .rem 0) [.t 16, .k 3], .o 18 (.bin .eql 0) [.t 17, .k 0], .o 19 (.bin .neq 2) [.t 15, .t 18]]) <| .cond (.t 19) ( .seq (.reg [.o 4 .mv [.k (-1)]]) <| .ret) ( .skip)) <| .reg [.m 20 1, .o 21 (.bin .add 0) [.t 20, .k 1], .m 1 21])) <| .reg [.m 10 5, .o 11 (.bin .add 0) [.t 10, .k 1], .m 5 11]
def Ly : ACode := .seq (.reg [.o 4 .mv [.k 0]]) <| .seq (.seq (.reg [.o 5 .mv [.k 0]]) <| .block 0 ( .loop [(0, 1)] [0, 1, 5] It)) <| .seq (.reg [.m 22 1, .m 4 22]) <| .ret
theorem Ss : cFn Tryz.prog Lx 23 [.t 4] Ly := ⟨Tryz.f153, _, Tryz.func153, rfl, by kernel_rfl, by kernel_rfl, by kernel_rfl, by kernel_rfl⟩
@[simp] abbrev Ky : Nat := 92
def Kz : ACode := .seq (.reg [.o 2 .box [.t 0], .o 4 .mv [.k 0]]) <| .seq (.reg [.f 5 2 2, .l 6 5, .m 7 1, .o 8 (.call 153 []) [.t 6, .t 7], .m 1 8]) <| .seq (.seq (.reg [.m 9 1, .o 10 (.bin .lss 0) [.t 9, .k 0]]) <| .cond (.t 10) ( .seq (.reg [.o 4 .mv [.k (-1)]]) <| .ret) ( .skip)) <| .seq (.reg [.m 11 1, .m 4 11]) <| .ret
theorem Rp : cFn Tryz.prog Ky 12 [.t 4] Kz := ⟨Tryz.f92, _, Tryz.func92, rfl, by kernel_rfl, by kernel_rfl, by kernel_rfl, by kernel_rfl⟩
@[simp] abbrev NF : Nat := 28
def NG : ACode := .seq (.reg [.o 2 .box [.t 0], .o 4 .mv [.k 0]]) <| .seq (.reg [.f 5 0 2, .la 6 3 5, .m 7 1, .o 8 (.call 92 []) [.t 6, .t 7], .m 1 8]) <| .seq (.seq (.reg [.m 9 1, .o 10 (.bin .lss 0) [.t 9, .k 0]]) <| .cond (.t 10) ( .seq (.reg [.o 4 .mv [.k (-1)]]) <| .ret) ( .skip)) <| .seq (.reg [.f 11 3 2, .l 12 11, .m 13 1, .o 14 (.call 93 []) [.t 12, .t 13], .m 1 14]) <| .seq (.seq (.reg [.m 15 1, .o 16 (.bin .lss 0) [.t 15, .k 0]]) <| .cond (.t 16) ( .seq (.reg [.o 4 .mv [.k (-1)]]) <| .ret) ( .skip)) <| .seq (.reg [.f 17 4 2, .l 18 17, .m 19 1, .o 20 (.call 93 []) [.t 18, .t 19], .m 1 20]) <| .seq (.seq (.reg [.m 21 1, .o 22 (.bin .lss 0) [.t 21, .k 0]]) <| .cond (.t 22) ( .seq (.reg [.o 4 .mv [.k (-1)]]) <| .ret) ( .skip)) <| .seq (.reg [.f 23 5 2, .l 24 23, .m 25 1, .o 26 (.call 94 []) [.t 24, .t 25], .m 1 26]) <| .seq (.seq (.reg [.m 27 1, .o 28 (.bin .lss 0) [.t 27, .k 0]]) <| .cond (.t 28) ( .seq (.reg [.o 4 .mv [.k (-1)]]) <| .ret) ( .skip)) <| .seq (.reg [.m 29 1, .m 4 29]) <| .ret
theorem UZ : cFn Tryz.prog NF 30 [.t 4] NG := ⟨Tryz.f28, _, Tryz.func28, rfl, by kernel_rfl, by kernel_rfl, by kernel_rfl, by kernel_rfl⟩
@[simp] abbrev NH : Nat := 27
def NI : ACode := .seq (.reg [.o 2 .box [.t 0], .o 4 .mv [.k 0]]) <| .seq (.reg [.f 5 0 2, .la 6 3 5, .m 7 1, .o 8 (.call 89 []) [.t 6, .t 7], .m 1 8]) <| .seq (.reg [.f 9 3 2, .l 10 9, .m 11 1, .o 12 (.call 90 []) [.t 10, .t 11], .m 1 12]) <| .seq (.reg [.f 13 4 2, .l 14 13, .m 15 1, .o 16 (.call 90 []) [.t 14, .t 15], .m 1 16]) <| .seq (.reg [.f 17 5 2, .l 18 17, .m 19 1, .o 20 (.call 91 []) [.t 18, .t 19], .m 1 20]) <| .seq (.reg [.m 21 1, .m 4 21]) <| .ret
theorem Ua : cFn Tryz.prog NH 22 [.t 4] NI := ⟨Tryz.f27, _, Tryz.func27, rfl, by kernel_rfl, by kernel_rfl, by kernel_rfl, by kernel_rfl⟩
@[simp] abbrev Fq : Nat := 173
def Fr : ACode := .seq (.reg [.o 2 .mv [.c (.os 1 [])]]) <| .seq (.reg [.m 3 0, .m 4 0, .n 5 4, .m 6 0, .n 7 6, .o 8 (.slice 1 false false true true) [.t 3, .t 5, .t 7], .m 2 8]) <| .ret
theorem LR : cFn Tryz.prog Fq 9 [.t 2] Fr := ⟨Tryz.f173, _, Tryz.func173, rfl, by kernel_rfl, by kernel_rfl, by kernel_rfl, by kernel_rfl⟩
end Go.Proofs.Dev
