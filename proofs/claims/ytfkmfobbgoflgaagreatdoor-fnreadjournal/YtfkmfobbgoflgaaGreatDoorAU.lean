/- Contracts of the functions of the program over slots and rows, each proved against the program itself; no condition beyond those that each theorem names. -/
import Derived.Test.YtfkmfobbgoflgaaGreatDoorAQ
import Derived.Test.YtfkmfobbgoflgaaGreatDoorAT
import Derived.Test.YtfkmfobbgoflgaaGreatDoorProg
import Derived.Test.YtfkmfobbgoflgaaGreatDoorAL
import Derived.Test.YtfkmfobbgoflgaaGreatDoorAH
set_option linter.unusedSimpArgs false
set_option linter.unusedVariables false
set_option maxRecDepth 100000
namespace Go.Proofs.Dev
def swI (W c : Int) : Int := (c / (W + 1) - 1) * W + c % (W + 1) - 1
def VP (W T c : Int) : Bool := decide (0 ≤ c ∧ 1 ≤ c % (W + 1) ∧ c % (W + 1) ≤ W - 1 ∧ 1 ≤ c / (W + 1) ∧ c / (W + 1) ≤ T - 1)
def RS (W : Int) (ls : List Int) (c : Int) : Bool := decide (ati ls (swI W c) = 1) && decide (ati ls (swI W c + W) = 1)
def upB (W : Int) (ls : List Int) (c : Int) : Bool := decide (ati ls (swI W c) = 2) && decide (ati ls (swI W c + 1) = 2)
def F8 (W T : Int) (ls : List Int) (c : Int) : Bool := VP W T c && (RS W ls c || upB W ls c)
def RT (ls : List Int) (a W : Int) (p q r s : Int) : List Int := (((ls.set a.toNat p).set (a + 1).toNat q).set (a + W).toNat r).set (a + W + 1).toNat s
def HX (W T : Int) (ls : List Int) (c : Int) : List Int :=
 if F8 W T ls c = true then (if RS W ls c = true then RT ls (swI W c) W 2 2 4 4 else RT ls (swI W c) W 1 3 1 3) else ls
theorem DE (ls : List Int) (a W p q r s : Int) : (RT ls a W p q r s).length = ls.length := by simp [RT]
theorem YN (W T : Int) (ls : List Int) (c : Int) : (HX W T ls c).length = ls.length := by
 unfold HX; split
 ·split <;> exact DE ..
 ·rfl
theorem YO {W T c : Int} (hW : 1 ≤ W) (h : VP W T c = true) :
  ∃ x y : Int, 0 ≤ x ∧ x + 1 < W ∧ 0 ≤ y ∧ y + 1 < T ∧ swI W c = y * W + x ∧ c % (W + 1) = x + 1 ∧ c / (W + 1) = y + 1 := by
 simp only [VP, decide_eq_true_eq] at h
 refine ⟨c % (W + 1) - 1, c / (W + 1) - 1, by omega, by omega, by omega, by omega, ?_, by omega, by omega⟩
 unfold swI; omega
theorem ZQ {W T c : Int} (hW : 1 ≤ W) (h : VP W T c = true) : 0 ≤ swI W c ∧ swI W c + W + 1 < W * T := by
 obtain ⟨x, y, x0, x1, y0, y1, e, _⟩ := YO hW h
 rw [e]
 have h1 : 0 ≤ y * W := Int.mul_nonneg y0 (by omega)
 have h2 : (y + 1 + 1) * W ≤ T * W := Int.mul_le_mul_of_nonneg_right (by omega) (by omega)
 have h3 : (y + 1 + 1) * W = y * W + W + W := by rw [Int.add_mul, Int.add_mul, Int.one_mul]
 rw [Int.mul_comm T W] at h2
 omega
theorem Nt {xs : List Int} {i k : Int} {v : Int} (h0 : 0 ≤ i) (h : i < xs.length) (hk : 0 ≤ k) : ati (xs.set i.toNat v) k = if k = i then v else ati xs k := by
 have := Mi (xs := xs) (i := i.toNat) (k := k.toNat) (v := v) (by omega)
 rw [show ((k.toNat : Nat) : Int) = k by omega] at this
 rw [this]
 by_cases e : k = i
 ·rw [if_pos e, if_pos (by omega)]
 ·rw [if_neg e, if_neg (by omega)]
theorem aL {ls : List Int} {a W p q r s k : Int} (h0 : 0 ≤ a) (hW : 1 ≤ W) (h : a + W + 1 < ls.length) (hk : 0 ≤ k) :
  ati (RT ls a W p q r s) k = if k = a + W + 1 then s else if k = a + W then r else if k = a + 1 then q else if k = a then p else ati ls k := by
 unfold RT
 rw [Nt (by omega) (by simp; omega) hk, Nt (by omega) (by simp; omega) hk, Nt (by omega) (by simp; omega) hk, Nt (by omega) (by omega) hk]
theorem kZ {xs ys : List Int} (hl : xs.length = ys.length) (h : ∀ k : Nat, k < xs.length → ati xs k = ati ys k) : xs = ys := by
 apply List.ext_getElem hl
 intro i h1 h2
 have := h i h1
 simpa [ati, h1, h2] using this
theorem dv {W T x y : Int} (hW : 1 ≤ W) (x0 : 0 ≤ x) (x1 : x + 1 < W) (y0 : 0 ≤ y) (y1 : y + 1 < T) :
  AF W T (y * W + x) 1 = y * W + x + 1 ∧ AF W T (y * W + x) 2 = y * W + x + W ∧ AF W T (y * W + x + W) 1 = y * W + x + W + 1 ∧ AF W T (y * W + x + 1) 2 = y * W + x + 1 + W := by
 have c1 := Y0 (W := W) (x := x) (y := y) x0 (by omega)
 have c2 := Y0 (W := W) (x := x + 1) (y := y) (by omega) (by omega)
 have c3 := Y0 (W := W) (x := x) (y := y + 1) x0 (by omega)
 have hm : (y + 1) * W = y * W + W := by rw [Int.add_mul, Int.one_mul]
 rw [show (y + 1) * W + x = y * W + x + W by omega] at c3
 rw [show y * W + (x + 1) = y * W + x + 1 by omega] at c2
 refine ⟨?_, ?_, ?_, ?_⟩
 ·unfold AF; rw [c1.1, if_pos ⟨rfl, by omega⟩]
 ·unfold AF; rw [c1.2, if_neg (by omega), if_pos ⟨rfl, by omega⟩]
 ·unfold AF; rw [c3.1, if_pos ⟨rfl, by omega⟩]
 ·unfold AF; rw [c2.2, if_neg (by omega), if_pos ⟨rfl, by omega⟩]
theorem aM {W T : Int} {cs : List Bool} {ls : List Int} {k : Int} (hy : AU W T cs ls = true) (h0 : 0 ≤ k) (hk : k < ls.length) (hv : ati ls k ≠ 0) :
  1 ≤ ati ls k ∧ ati ls k ≤ 4 ∧ atb cs k = true ∧ 0 ≤ AF W T k (ati ls k) ∧ atb cs (AF W T k (ati ls k)) = true ∧ ati ls (AF W T k (ati ls k)) = Ca (ati ls k) := by
 have e : ((k.toNat : Nat) : Int) = k := by omega
 have := Ib (k := k.toNat) hy (by omega) (by rw [e]; exact hv)
 rw [e] at this
 exact this
theorem aN {W T : Int} {cs : List Bool} {ls : List Int} {k t : Int} (hr : A3 W T cs = true) (hy : AU W T cs ls = true) (h0 : 0 ≤ k) (hk : k < ls.length) (hv : ati ls k ≠ 0) (ht : AF W T k (ati ls k) = t) :
  AU W T cs (LR W T ls k) = true ∧ (LR W T ls k).length = ls.length ∧ ∀ j : Int, 0 ≤ j → ati (LR W T ls k) j = if j = k then 0 else if j = t then 0 else ati ls j := by
 have e : ((k.toNat : Nat) : Int) = k := by omega
 obtain ⟨t', h1, h2, h3, h4⟩ := XE (k := k.toNat) hr hy (by omega) (by rw [e]; exact hv)
 have h5 := dg (k := k.toNat) hr hy (by omega) (by rw [e]; exact hv)
 rw [e] at h1 h4 h5
 refine ⟨h5, M8 .., fun j hj => ?_⟩
 have := h4 j.toNat
 rw [show ((j.toNat : Nat) : Int) = j by omega] at this
 rw [this]
 by_cases e1 : j = k
 ·rw [if_pos (by omega), if_pos e1]
 ·rw [if_neg (by omega), if_neg e1]
  by_cases e2 : j = t
  ·rw [if_pos (by omega), if_pos e2]
  ·rw [if_neg (by omega), if_neg e2]
theorem dw {W T : Int} {cs : List Bool} {ls : List Int} {k way t : Int} (hr : A3 W T cs = true) (hy : AU W T cs ls = true) (hf : Ap W T cs ls k way = true) (ht : AF W T k way = t) :
  AU W T cs (B4 W T ls k way) = true ∧ (B4 W T ls k way).length = ls.length ∧ ∀ j : Int, 0 ≤ j → ati (B4 W T ls k way) j = if j = t then Ca way else if j = k then way else ati ls j := by
 have hl := Aj hy
 obtain ⟨w1, w2, t1, t2, l1, _⟩ := BI hr
 have hf2 := hf
 simp only [Ap, decide_eq_true_eq] at hf2
 obtain ⟨f0, f1, f2, f3, f4, f5, f6⟩ := hf2
 have sb := Co (W := W) (T := T) (k := k) (way := way) w1 f0 (by omega) f2
 refine ⟨KW hr hy hf, AN .., fun j hj => ?_⟩
 subst ht
 unfold B4
 rw [Nt f2 (by simp; omega) hj, Nt f0 (by omega) hj]
theorem dy {W T : Int} {cs : List Bool} {ls : List Int} {k way t : Int} (h0 : 0 ≤ k) (h1 : k < cs.length) (ht : AF W T k way = t) (h2 : 0 ≤ t) (h3 : atb cs k = true) (h4 : atb cs t = true) (h5 : ati ls k = 0) (h6 : ati ls t = 0) : Ap W T cs ls k way = true := by
 subst ht
 simp [Ap, h0, h1, h2, h3, h4, h5, h6]
theorem d7 {W T : Int} {cs : List Bool} {ls l4 : List Int} {a p q r w v : Int} (hr : A3 W T cs = true) (hy : AU W T cs ls = true)
  (a0 : 0 ≤ a ∧ a < ls.length) (p0 : 0 ≤ p ∧ p < ls.length) (q0 : 0 ≤ q ∧ q < ls.length) (r0 : 0 ≤ r ∧ r < ls.length) (d1 : a ≠ p) (d2 : a ≠ q) (d3 : a ≠ r) (d4 : p ≠ q) (d5 : p ≠ r) (d6 : q ≠ r)
  (s1 : AF W T a w = p) (s2 : AF W T q w = r) (s3 : AF W T a v = q) (s4 : AF W T p v = r) (hw : w ≠ 0) (h1 : ati ls a = w) (h2 : ati ls q = w) (hl4 : l4.length = ls.length)
  (h4 : ∀ j : Int, 0 ≤ j → ati l4 j = if j = r then Ca v else if j = p then v else if j = q then Ca v else if j = a then v else ati ls j) :
  (atb cs a = true ∧ atb cs p = true ∧ atb cs q = true ∧ atb cs r = true) ∧ AU W T cs l4 = true := by
 have hl := Aj hy
 obtain ⟨_, _, a3, a4, a5, a6⟩ := aM hy a0.1 a0.2 (by rw [h1]; exact hw)
 obtain ⟨_, _, c3, c4, c5, c6⟩ := aM hy q0.1 q0.2 (by rw [h2]; exact hw)
 rw [h1, s1] at a4 a5 a6
 rw [h2, s2] at c4 c5 c6
 refine ⟨⟨a3, a5, c3, c5⟩, ?_⟩
 obtain ⟨g1, g2, g3⟩ := aN (k := a) (t := p) hr hy a0.1 a0.2 (by rw [h1]; exact hw) (by rw [h1, s1])
 generalize LR W T ls a = l1 at *
 have v1 : ati l1 q = w := by rw [g3 _ q0.1, if_neg (fun e => d2 e.symm), if_neg (fun e => d4 e.symm), h2]
 obtain ⟨k1, k2, k3⟩ := aN (k := q) (t := r) hr g1 q0.1 (by omega) (by rw [v1]; exact hw) (by rw [v1, s2])
 generalize LR W T l1 q = l2 at *
 have za : ati l2 a = 0 := by rw [k3 a a0.1, if_neg d2, if_neg d3, g3 a a0.1, if_pos rfl]
 have zp : ati l2 p = 0 := by rw [k3 p p0.1, if_neg d4, if_neg d5, g3 p p0.1, if_neg (fun e => d1 e.symm), if_pos rfl]
 have zq : ati l2 q = 0 := by rw [k3 q q0.1, if_pos rfl]
 have zr : ati l2 r = 0 := by rw [k3 r r0.1, if_neg (fun e => d6 e.symm), if_pos rfl]
 obtain ⟨m1, m2, m3⟩ := dw (k := a) (way := v) (t := q) hr k1 (dy a0.1 (by omega) s3 q0.1 a3 c3 za zq) s3
 generalize B4 W T l2 a v = l3 at *
 have yp : ati l3 p = 0 := by rw [m3 p p0.1, if_neg d4, if_neg (fun e => d1 e.symm), zp]
 have yr : ati l3 r = 0 := by rw [m3 r r0.1, if_neg (fun e => d6 e.symm), if_neg (fun e => d3 e.symm), zr]
 obtain ⟨n1, n2, n3⟩ := dw (k := p) (way := v) (t := r) hr m1 (dy p0.1 (by omega) s4 r0.1 a5 c5 yp yr) s4
 generalize B4 W T l3 p v = l5 at *
 have e : l4 = l5 := by
  refine kZ (by omega) fun k hk => ?_
  rw [h4 k (by omega), n3 k (by omega)]
  by_cases e1 : (k : Int) = r
  ·rw [if_pos e1, if_pos e1]
  rw [if_neg e1, if_neg e1]
  by_cases e2 : (k : Int) = p
  ·rw [if_pos e2, if_pos e2]
  rw [if_neg e2, if_neg e2, m3 k (by omega)]
  by_cases e3 : (k : Int) = q
  ·rw [if_pos e3, if_pos e3]
  rw [if_neg e3, if_neg e3]
  by_cases e4 : (k : Int) = a
  ·rw [if_pos e4, if_pos e4]
  rw [if_neg e4, if_neg e4, k3 k (by omega), if_neg e3, if_neg e1, g3 k (by omega), if_neg e4, if_neg e2]
 rw [e]; exact n1
theorem d8 {W T : Int} {cs : List Bool} {ls : List Int} {c : Int} (hr : A3 W T cs = true) (hy : AU W T cs ls = true) (hf : F8 W T ls c = true) :
  (atb cs (swI W c) = true ∧ atb cs (swI W c + 1) = true ∧ atb cs (swI W c + W) = true ∧ atb cs (swI W c + W + 1) = true) ∧ AU W T cs (HX W T ls c) = true := by
 obtain ⟨w1, w2, t1, t2, l1, _⟩ := BI hr
 have hl := Aj hy
 have hf2 := hf
 simp only [F8, Bool.and_eq_true, Bool.or_eq_true] at hf2
 obtain ⟨hm, hf3⟩ := hf2
 obtain ⟨s0, s1⟩ := ZQ w1 hm
 obtain ⟨x, y, x0, x1, y0, y1, e, _⟩ := YO w1 hm
 obtain ⟨q1, q2, q3, q4⟩ := dv (T := T) w1 x0 x1 y0 y1
 rw [← e] at q1 q2 q3 q4
 have hW2 : 2 ≤ W := by omega
 have key : HX W T ls c = if RS W ls c = true then RT ls (swI W c) W 2 2 4 4 else RT ls (swI W c) W 1 3 1 3 := by unfold HX; rw [if_pos hf]
 rw [key]
 by_cases hF : RS W ls c = true
 ·rw [if_pos hF]
  simp only [RS, Bool.and_eq_true, decide_eq_true_eq] at hF
  generalize swI W c = a at *
  have := d7 (l4 := RT ls a W 2 2 4 4) (a := a) (p := a + 1) (q := a + W) (r := a + W + 1) (w := 1) (v := 2) hr hy (by omega) (by omega) (by omega) (by omega) (by omega) (by omega) (by omega) (by omega) (by omega) (by omega)
   q1 q3 q2 (by rw [q4]; omega) (by decide) hF.1 hF.2 (DE ..) (fun j hj => by
    rw [aL s0 w1 (by omega) hj, show Ca 2 = 4 by decide]
    by_cases e1 : j = a + W + 1
    ·rw [if_pos e1, if_pos e1]
    rw [if_neg e1, if_neg e1]
    by_cases e2 : j = a + W
    ·rw [if_pos e2, if_neg (by omega), if_pos e2]
    rw [if_neg e2, if_neg e2])
  exact ⟨⟨this.1.1, this.1.2.1, this.1.2.2.1, this.1.2.2.2⟩, this.2⟩
 ·rw [if_neg hF]
  have hU : upB W ls c = true := hf3.resolve_left hF
  simp only [upB, Bool.and_eq_true, decide_eq_true_eq] at hU
  generalize swI W c = a at *
  have := d7 (l4 := RT ls a W 1 3 1 3) (a := a) (p := a + W) (q := a + 1) (r := a + W + 1) (w := 2) (v := 1) hr hy (by omega) (by omega) (by omega) (by omega) (by omega) (by omega) (by omega) (by omega) (by omega) (by omega)
   q2 (by rw [q4]; omega) q1 q3 (by decide) hU.1 hU.2 (DE ..) (fun j hj => by
    rw [aL s0 w1 (by omega) hj, show Ca 1 = 3 by decide])
  exact ⟨⟨this.1.1, this.1.2.2.1, this.1.2.1, this.1.2.2.2⟩, this.2⟩
theorem OX {W T : Int} {cs : List Bool} {ds : List Int} : ∀ (n : Nat) (ls : List Int), Ah W T cs ds ls = true →
  Kl ls ≤ Kl (A0 W T cs ds n ls) ∧ (A0 W T cs ds n ls = ls ∨ Kl ls < Kl (A0 W T cs ds n ls))
 | 0, ls, _ => ⟨Nat.le_refl _, .inl rfl⟩
 | n + 1, ls, hf => by
   obtain ⟨hr, hd, hy, ho⟩ := Aw hf
   have hl := Aj hy
   unfold A0
   by_cases hb : Bt W T cs ds ls = true
   ·have h1 := ZL (ds := ds) hr hl hb
    have h2 := OX n (BJ W T cs ds ls) (LI hf)
    simp only [hb, if_true]
    exact ⟨by omega, .inr (by omega)⟩
   ·have hb' : Bt W T cs ds ls = false := by simpa using hb
    simp [hb']
theorem XN {W T : Int} {cs : List Bool} {ds ls : List Int} (hf : Ah W T cs ds ls = true) : (Kl ls < Kl (A9 W T cs ds ls)) ↔ A9 W T cs ds ls ≠ ls := by
 obtain ⟨h1, h2⟩ := OX ls.length ls hf
 unfold A9 at *
 constructor
 ·intro h e; rw [e] at h; omega
 ·intro h; exact h2.resolve_left h
def aO (W T : Int) (cs : List Bool) (x y : Int) : Bool := decide (0 ≤ x ∧ x ≤ W - 1) && (decide (0 ≤ y ∧ y ≤ T - 1) && atb cs (y * W + x))
theorem pR {W T x y : Int} (h1 : 0 ≤ x ∧ x ≤ W - 1) (h2 : 0 ≤ y ∧ y ≤ T - 1) : 0 ≤ y * W ∧ y * W + x < W * T := by
 have a1 : 0 ≤ y * W := Int.mul_nonneg h2.1 (by omega)
 have a2 : (y + 1) * W ≤ T * W := Int.mul_le_mul_of_nonneg_right (by omega) (by omega)
 rw [Int.add_mul, Int.one_mul, Int.mul_comm T W] at a2
 omega
theorem LV (W T : Int) (cs : List Bool) (x y : Int) (hr : A3 W T cs = true) (hx : -9 ≤ x ∧ x ≤ 9 * 2 ^ 40) (hy : -9 ≤ y ∧ y ≤ 9 * 2 ^ 40) :
  SoundAt Tryz.prog UJ [.agg [.v (.int .i64 W), .v (.int .i64 T), .sl 1 1 (AD cs)], .v (.int .i64 x), .v (.int .i64 y)] (.v (.bool (aO W T cs x y))) [.bot, .bot, .bot] := by
 obtain ⟨w1, w2, t1, t2, l1, _⟩ := BI hr
 have h36 := AZ hr
 refine AJ (md := md5) (ms := [false, false, false]) ZP (by simp) ?_
 by_cases h1 : 0 ≤ x ∧ x ≤ W - 1
 ·by_cases h2 : 0 ≤ y ∧ y ≤ T - 1
  ·obtain ⟨m1, m2⟩ := pR h1 h2
   simp [LT, aO, h1, h2]
   refine ⟨by omega, ?_⟩
   refine AA (C4 (x := x) (lo := 0) (hi := W - 1) h1) ?_
   simp
   refine ⟨by omega, ?_⟩
   refine AA (C4 (x := y) (lo := 0) (hi := T - 1) h2) ?_
   have n1 : 0 ≤ y * W + x := by omega
   have n2 : y * W + x < cs.length := by omega
   simp [n1, n2]
   omega
  ·simp [LT, aO, h1, h2]
   refine ⟨by omega, ?_⟩
   refine AA (C4 (x := x) (lo := 0) (hi := W - 1) h1) ?_
   simp
   refine ⟨by omega, ?_⟩
   refine AA (EJ (x := y) (lo := 0) (hi := T - 1) h2) ?_
   simp
 ·simp [LT, aO, h1]
  refine ⟨by omega, ?_⟩
  refine AA (EJ (x := x) (lo := 0) (hi := W - 1) h1) ?_
  simp
def aP (W T : Int) : Int := (W + 1) * (T + 1)
theorem V9 {W T : Int} (w1 : 1 ≤ W) (w2 : W ≤ 6) (t1 : 1 ≤ T) (t2 : T ≤ 6) : 4 ≤ aP W T ∧ aP W T ≤ 49 := by
 have h1 : (2 : Int) * 2 ≤ (W + 1) * (T + 1) := Int.mul_le_mul (by omega) (by omega) (by omega) (by omega)
 have h2 : (W + 1) * (T + 1) ≤ 7 * 7 := Int.mul_le_mul (by omega) (by omega) (by omega) (by omega)
 unfold aP; omega
theorem Gl (W T : Int) (cs : List Bool) (hb : cs.length < 2 ^ 40) :
  SoundAt Tryz.prog Kx [.agg [.v (.int .i64 W), .v (.int .i64 T), .sl 1 1 (AD cs)]] (.v (.int .i64 (if A3 W T cs = true then aP W T else -1))) [.bot] := by
 refine AJ (md := md5) (ms := [false]) RQ (by simp) ?_
 simp [Ky]
 refine AA (An W T cs hb) ?_
 cases hr : A3 W T cs with
 | false => simp
 | true =>
   obtain ⟨w1, w2, t1, t2, l1, _⟩ := BI hr
   have := V9 w1 w2 t1 t2
   unfold aP at *
   simp
   omega
def sqB (W T : Int) (cs : List Bool) (c : Int) : Bool :=
 ((aO W T cs (c % (W + 1) - 1) (c / (W + 1) - 1) && aO W T cs (c % (W + 1)) (c / (W + 1) - 1)) && aO W T cs (c % (W + 1) - 1) (c / (W + 1))) && aO W T cs (c % (W + 1)) (c / (W + 1))
theorem d9 {W T : Int} {cs : List Bool} {c : Int} (h0 : 0 ≤ c) (h : sqB W T cs c = true) : VP W T c = true := by
 simp only [sqB, aO, Bool.and_eq_true, decide_eq_true_eq] at h
 simp only [VP, decide_eq_true_eq]
 omega
set_option maxHeartbeats 1000000 in
theorem NO (W T : Int) (cs : List Bool) (c : Int) (hr : A3 W T cs = true) (h0 : 0 ≤ c) (h1 : c < 2 ^ 40) :
  SoundAt Tryz.prog NK [.agg [.v (.int .i64 W), .v (.int .i64 T), .sl 1 1 (AD cs)], .v (.int .i64 c)]
   (if sqB W T cs c = true then .tup [.v (.int .i64 (swI W c)), .v (.int .i64 (swI W c + 1)), .v (.int .i64 (swI W c + W)), .v (.int .i64 (swI W c + W + 1)), .v (.bool true)]
    else .tup [.v (.int .i64 0), .v (.int .i64 0), .v (.int .i64 0), .v (.int .i64 0), .v (.bool false)]) [.bot, .bot] := by
 obtain ⟨w1, w2, t1, t2, l1, _⟩ := BI hr
 have h36 := AZ hr
 have m1 := Int.emod_nonneg c (show W + 1 ≠ 0 by omega)
 have m2 := Int.emod_lt_of_pos c (show 0 < W + 1 by omega)
 have m3 := Int.ediv_nonneg h0 (show 0 ≤ W + 1 by omega)
 have m4 := Int.ediv_le_self (W + 1) h0
 have hs := @d9 W T cs c h0
 have c1 := LV W T cs (c % (W + 1) - 1) (c / (W + 1) - 1) hr (by omega) (by omega)
 have c2 := LV W T cs (c % (W + 1)) (c / (W + 1) - 1) hr (by omega) (by omega)
 have c3 := LV W T cs (c % (W + 1) - 1) (c / (W + 1)) hr (by omega) (by omega)
 have c4 := LV W T cs (c % (W + 1)) (c / (W + 1)) hr (by omega) (by omega)
 have hsw := @ZQ W T c w1
 have hsd : swI W c = (c / (W + 1) - 1) * W + c % (W + 1) - 1 := rfl
 unfold sqB at *
 have w0 : 1 ≤ W + 1 := by omega
 refine AJ (md := md5) (ms := [false, false]) UK (by simp) ?_
 simp [NL, h0, w0]
 generalize c % (W + 1) = x at *
 generalize c / (W + 1) = y at *
 refine ⟨by omega, by omega, by omega, by omega, ?_⟩
 refine AA c1 ?_
 cases b1 : aO W T cs (x - 1) (y - 1) with
 | false => simp
 | true =>
 simp
 refine ⟨by omega, ?_⟩
 refine AA c2 ?_
 cases b2 : aO W T cs x (y - 1) with
 | false => simp
 | true =>
 simp
 refine ⟨by omega, ?_⟩
 refine AA c3 ?_
 cases b3 : aO W T cs (x - 1) y with
 | false => simp
 | true =>
 simp
 refine AA c4 ?_
 cases b4 : aO W T cs x y with
 | false => simp
 | true =>
 have hm := hsw (hs (by simp [b1, b2, b3, b4]))
 rw [hsd] at hm
 rw [hsd]
 simp
 generalize (y - 1) * W = z at *
 (repeat' first | omega | rfl | apply And.intro)
theorem eC {W T c : Int} (w1 : 1 ≤ W) (t1 : 1 ≤ T) (h : VP W T c = true) : 0 ≤ c ∧ c ≤ aP W T - 1 := by
 simp only [VP, decide_eq_true_eq] at h
 refine ⟨h.1, ?_⟩
 have e := Int.mul_ediv_add_emod c (W + 1)
 have m2 := Int.emod_lt_of_pos c (show 0 < W + 1 by omega)
 have h2 : (W + 1) * (c / (W + 1)) ≤ (W + 1) * T := Int.mul_le_mul_of_nonneg_left (by omega) (by omega)
 unfold aP
 rw [Int.mul_add, Int.mul_one]
 omega
theorem ix {W T : Int} {cs : List Bool} {ls : List Int} {c : Int} (hr : A3 W T cs = true) (hy : AU W T cs ls = true) (h0 : 0 ≤ c) :
  (sqB W T cs c && (RS W ls c || upB W ls c)) = F8 W T ls c := by
 obtain ⟨w1, w2, t1, t2, l1, _⟩ := BI hr
 cases hf : F8 W T ls c with
 | true =>
   obtain ⟨⟨a1, a2, a3, a4⟩, _⟩ := d8 hr hy hf
   have hf2 := hf
   simp only [F8, Bool.and_eq_true] at hf2
   obtain ⟨x, y, x0, x1, y0, y1, e, ex, ey⟩ := YO w1 hf2.1
   have hm : (y + 1) * W = y * W + W := by rw [Int.add_mul, Int.one_mul]
   rw [e] at a1 a2 a3 a4
   rw [hf2.2, Bool.and_true]
   simp only [sqB, aO, ex, ey, Bool.and_eq_true, decide_eq_true_eq]
   refine ⟨⟨⟨⟨by omega, by omega, ?_⟩, by omega, by omega, ?_⟩, by omega, by omega, ?_⟩, by omega, by omega, ?_⟩
   ·rw [show (y + 1 - 1) * W + (x + 1 - 1) = y * W + x by rw [show y + 1 - 1 = y by omega]; omega]; exact a1
   ·rw [show (y + 1 - 1) * W + (x + 1) = y * W + x + 1 by rw [show y + 1 - 1 = y by omega]; omega]; exact a2
   ·rw [show (y + 1) * W + (x + 1 - 1) = y * W + x + W by omega]; exact a3
   ·rw [show (y + 1) * W + (x + 1) = y * W + x + W + 1 by omega]; exact a4
 | false =>
   cases hs : sqB W T cs c with
   | false => rfl
   | true =>
     have hm := d9 h0 hs
     simp only [F8, hm, Bool.true_and] at hf
     simp [hf]
def iy (W T : Int) (cs : List Bool) (ls : List Int) (c : Int) : Bool := (A3 W T cs && AU W T cs ls) && F8 W T ls c
theorem OY (W T : Int) (cs : List Bool) (ls : List Int) (c : Int) (hb : cs.length < 2 ^ 40) (hl : ls.length < 2 ^ 40) :
  SoundAt Tryz.prog OR [.agg [.v (.int .i64 W), .v (.int .i64 T), .sl 1 1 (AD cs)], .sl 1 1 (AC ls), .v (.int .i64 c)] (.v (.bool (iy W T cs ls c))) [.bot, .bot, .bot] := by
 refine AJ (md := md5) (ms := [false, false, false]) VJ (by simp) ?_
 simp [OS]
 refine AA (Br W T cs ls hb hl) ?_
 unfold iy
 cases hq : (A3 W T cs && AU W T cs ls) with
 | false => simp
 | true =>
 simp only [Bool.and_eq_true] at hq
 obtain ⟨hr, hy⟩ := hq
 obtain ⟨w1, w2, t1, t2, l1, _⟩ := BI hr
 have h36 := AZ hr
 have hlen := Aj hy
 have hc := V9 w1 w2 t1 t2
 have cm := Gl W T cs hb
 rw [if_pos hr] at cm
 simp
 refine AA cm ?_
 simp
 refine ⟨by omega, ?_⟩
 by_cases hin : 0 ≤ c ∧ c ≤ aP W T - 1
 case neg =>
  have hf : F8 W T ls c = false := by
   cases hf : F8 W T ls c with
   | false => rfl
   | true =>
     simp only [F8, Bool.and_eq_true] at hf
     exact absurd (eC w1 t1 hf.1) hin
  refine AA (EJ (x := c) (lo := 0) (hi := aP W T - 1) hin) ?_
  simp [hf]
 refine AA (C4 (x := c) (lo := 0) (hi := aP W T - 1) hin) ?_
 simp
 have sq := NO W T cs c hr hin.1 (by omega)
 have me := ix (c := c) hr hy hin.1
 cases hs : sqB W T cs c with
 | false =>
   have hff : F8 W T ls c = false := by rw [← me, hs]; rfl
   rw [if_neg (by rw [hs]; decide)] at sq
   refine AA sq ?_
   simp [hff]
 | true =>
   have hff : F8 W T ls c = (RS W ls c || upB W ls c) := by rw [← me, hs]; rfl
   rw [if_pos hs] at sq
   have hm := ZQ w1 (d9 hin.1 hs)
   rw [hff]
   refine AA sq ?_
   have q0 := hm.1
   have q1 : swI W c < ls.length := by omega
   have q2 : 0 ≤ swI W c + W := by omega
   have q3 : swI W c + W < ls.length := by omega
   have q4 : 0 ≤ swI W c + 1 := by omega
   have q5 : swI W c + 1 < ls.length := by omega
   unfold RS upB
   by_cases e1 : ati ls (swI W c) = 1
   ·have e2 : ¬ ati ls (swI W c) = 2 := by omega
    simp [q0, q1, q2, q3, q4, q5, e1, e2]
   ·by_cases e2 : ati ls (swI W c) = 2
    ·simp [q0, q1, q2, q3, q4, q5, e1, e2]
     by_cases e3 : ati ls (swI W c + 1) = 2 <;> simp [e3]
    ·simp [q0, q1, q2, q3, q4, q5, e1, e2]
theorem eD {ls : List Int} {a W : Int} (h0 : 0 ≤ a) (hW : 2 ≤ W) (p q r s : Int) : (((ls.set a.toNat p).set (a + W).toNat r).set (a + 1).toNat q).set (a + W + 1).toNat s = RT ls a W p q r s := by
 unfold RT
 rw [List.set_comm _ _ (show (a + W).toNat ≠ (a + 1).toNat by omega)]
def ka (W T : Int) (cs : List Bool) (ls : List Int) (c : Int) : List Int := if (A3 W T cs && AU W T cs ls) = true then HX W T ls c else []
set_option maxHeartbeats 1000000 in
theorem VQ (W T : Int) (cs : List Bool) (ls : List Int) (c : Int) (hb : cs.length < 2 ^ 40) (hl : ls.length < 2 ^ 40) :
  SoundAt Tryz.prog OT [.agg [.v (.int .i64 W), .v (.int .i64 T), .sl 1 1 (AD cs)], .sl 1 1 (AC ls), .v (.int .i64 c)]
   (.tup [.os 1 (AC (ka W T cs ls c)), .v (.bool (iy W T cs ls c))]) [.bot, .bot, .bot] := by
 refine AJ (md := md5) (ms := [false, false, false]) VK (by simp) ?_
 simp [OU]
 refine AA (Br W T cs ls hb hl) ?_
 have may := OY W T cs ls c hb hl
 unfold iy ka at *
 cases hq : (A3 W T cs && AU W T cs ls) with
 | false => simp
 | true =>
 rw [hq] at may
 rw [if_pos rfl]
 simp only [Bool.and_eq_true] at hq
 obtain ⟨hr, hy⟩ := hq
 obtain ⟨w1, w2, t1, t2, l1, _⟩ := BI hr
 have h36 := AZ hr
 have hlen := Aj hy
 simp
 refine ⟨by omega, ?_⟩
 cases hf : F8 W T ls c with
 | false =>
   rw [hf] at may
   refine AA may ?_
   have e : HX W T ls c = ls := by unfold HX; rw [hf]; rfl
   simp [e]
 | true =>
   rw [hf] at may
   refine AA may ?_
   have hf2 := hf
   simp only [F8, Bool.and_eq_true] at hf2
   have hW2 : 2 ≤ W := by
    obtain ⟨x, y, x0, x1, _⟩ := YO w1 hf2.1
    omega
   have hc0 := (eC w1 t1 hf2.1)
   have hcor := V9 w1 w2 t1 t2
   have me := ix (c := c) hr hy hc0.1
   rw [hf] at me
   have hs : sqB W T cs c = true := by
    simp only [Bool.and_eq_true] at me
    exact me.1
   have sq := NO W T cs c hr hc0.1 (by omega)
   rw [if_pos hs] at sq
   have hm := ZQ w1 hf2.1
   have q0 := hm.1
   have q1 : swI W c < ls.length := by omega
   have q2 : 0 ≤ swI W c + W := by omega
   have q3 : swI W c + W < ls.length := by omega
   have q4 : 0 ≤ swI W c + 1 := by omega
   have q5 : swI W c + 1 < ls.length := by omega
   have q6 : 0 ≤ swI W c + W + 1 := by omega
   have q7 : swI W c + W + 1 < ls.length := by omega
   simp
   refine AA sq ?_
   by_cases hF : RS W ls c = true
   ·have e : HX W T ls c = RT ls (swI W c) W 2 2 4 4 := by unfold HX; rw [if_pos hf, if_pos hF]
    have hF2 := hF
    simp only [RS, Bool.and_eq_true, decide_eq_true_eq] at hF2
    have ht : (AC (RT ls (swI W c) W 2 2 4 4)).take ls.length = AC (RT ls (swI W c) W 2 2 4 4) := List.take_of_length_le (by simp [DE])
    unfold RT at ht e
    simp [q0, q1, q2, q3, q4, q5, q6, q7, hF2.1, Dd, e, ht]
   ·have e : HX W T ls c = RT ls (swI W c) W 1 3 1 3 := by unfold HX; rw [if_pos hf, if_neg hF]
    have hU : upB W ls c = true := by
     have := hf2.2
     simp only [Bool.or_eq_true] at this
     exact this.resolve_left hF
    simp only [upB, Bool.and_eq_true, decide_eq_true_eq] at hU
    have hn1 : ¬ ati ls (swI W c) = 1 := by omega
    have ht : (AC (RT ls (swI W c) W 1 3 1 3)).take ls.length = AC (RT ls (swI W c) W 1 3 1 3) := List.take_of_length_le (by simp [DE])
    have e4 := eD (ls := ls) q0 hW2 1 3 1 3
    simp [q0, q1, q2, q3, q4, q5, q6, q7, hU.1, hn1, Dd, e, e4, ht, DE]
def FD (W T : Int) (cs : List Bool) (ls : List Int) (n : Nat) : List Int := (List.range n).flatMap fun k : Nat => if iy W T cs ls k then [(k : Int)] else []
theorem Rz (W T : Int) (cs : List Bool) (ls : List Int) (n : Nat) : FD W T cs ls (n + 1) = FD W T cs ls n ++ if iy W T cs ls n then [(n : Int)] else [] := by simp [FD, List.range_succ]
theorem KL (W T : Int) (cs : List Bool) (ls : List Int) : ∀ n, (FD W T cs ls n).length ≤ n
 | 0 => by simp [FD]
 | n + 1 => by
   have := KL W T cs ls n
   rw [Rz]; split <;> simp <;> omega
theorem ZR {W T : Int} {cs : List Bool} {ls : List Int} {n : Nat} {x : Int} (h : x ∈ FD W T cs ls n) : 0 ≤ x ∧ x < n := by
 simp only [FD, List.mem_flatMap, List.mem_range] at h
 obtain ⟨k, hk, h⟩ := h
 split at h
 ·simp at h; omega
 ·simp at h
def ZS (W T : Int) (cs : List Bool) : Nat := if A3 W T cs = true then (aP W T).toNat else 0
theorem eF (W T : Int) (cs : List Bool) : ZS W T cs ≤ 49 := by
 unfold ZS; split
 ·rename_i hr
  obtain ⟨w1, w2, t1, t2, _⟩ := BI hr
  have := V9 w1 w2 t1 t2
  omega
 ·omega
def YP (W T : Int) (cs : List Bool) (ls : List Int) : List Int := FD W T cs ls (ZS W T cs)
theorem VR (W T : Int) (cs : List Bool) (ls : List Int) (hb : cs.length < 2 ^ 40) (hl : ls.length < 2 ^ 40) :
  SoundAt Tryz.prog OV [.agg [.v (.int .i64 W), .v (.int .i64 T), .sl 1 1 (AD cs)], .sl 1 1 (AC ls)] (.os 1 (AC (YP W T cs ls))) [.bot, .bot] := by
 refine AJ (md := md5) (ms := [false, false]) VO (by simp) ?_
 have cm := Gl W T cs hb
 have h49 := eF W T cs
 have hcor : ∀ k : Nat, ((k : Int) < if A3 W T cs = true then aP W T else -1) ↔ k < ZS W T cs := by
  intro k
  unfold ZS
  split
  ·rename_i hr
   obtain ⟨w1, w2, t1, t2, _⟩ := BI hr
   have := V9 w1 w2 t1 t2
   omega
  ·omega
 simp [OW]
 refine AH (fun m E H => ∃ i : Nat, m = ZS W T cs - i ∧ i ≤ ZS W T cs ∧ E = [(1, .sl 1 1 (AC ls)), (2, .lp 0 0 0 0), (5, .ls 1 1 0 (FD W T cs ls i).length), (6, .v (.int .i64 i))] ∧
  H = [some (.box [.v (.int .i64 W), .v (.int .i64 T), .sl 1 1 (AD cs)]), some (.arr 1 (AC (FD W T cs ls i)))]) (ZS W T cs) ⟨0, rfl, by omega, by simp [FD], by simp [FD]⟩ ?_
 rintro J hJ m E H ⟨i, rfl, hi, rfl, rfl⟩
 have hfl := KL W T cs ls i
 have hc := hcor i
 have may := OY W T cs ls i hb hl
 have hstep := Rz W T cs ls i
 simp [K0]
 refine AA cm ?_
 by_cases h : i < ZS W T cs
 ·have hc2 := hc.2 h
  simp [hc2]
  refine AA may ?_
  cases hm : iy W T cs ls i with
  | false =>
    rw [hm] at hstep
    simp at hstep
    simp
    exact ⟨by omega, _, by omega, hJ _ _ _ ⟨i + 1, rfl, h, by simp [hstep], by simp [hstep]⟩⟩
  | true =>
    rw [hm] at hstep
    simp at hstep
    simp
    exact ⟨by omega, by omega, _, by omega, hJ _ _ _ ⟨i + 1, rfl, h, by simp [hstep], by simp [hstep, Dy, Zx]⟩⟩
 ·have hc2 : ¬ ((i : Int) < if A3 W T cs = true then aP W T else -1) := fun h2 => h (hc.1 h2)
  have : i = ZS W T cs := by omega
  subst this
  have ht : (AC (FD W T cs ls (ZS W T cs))).take (FD W T cs ls (ZS W T cs)).length = AC (FD W T cs ls (ZS W T cs)) := AG _
  simp [hc2, YP, ht]
def GR : BCode := .seq (.base (.reg [.o 2 .box [.t 0], .o 4 (.alloc [.v (.int .i64 (0)), .v (.int .i64 (0)), .v (.int .i64 (0)), .v (.int .i64 (0))]) [], .o 5 .mv [.kb false]])) <| .seq (.calm [(false, .m 9 1), (false, .f 10 0 2), (false, .l 11 10), (false, .o 12 (.bin .add 0) [.t 11, .k 1]), (true, .o 13 (.bin .rem 0) [.t 9, .t 12]), (false, .m 14 1), (false, .f 15 0 2), (false, .l 16 15), (false, .o 17 (.bin .add 0) [.t 16, .k 1]), (true, .o 18 (.bin .quo 0) [.t 14, .t 17]), (false, .m 6 13), (false, .m 7 18)]) <| .base (Ax)
theorem NP : gM Tryz.prog Ek 59 [.c 4 true 4, .t 5] GR := ⟨Tryz.f238, _, Tryz.func238, rfl, by kernel_rfl, by kernel_rfl, by kernel_rfl, by kernel_rfl⟩
@[simp] abbrev Jt : Nat := 60
abbrev FM : Plan := .take (.o 41 (.iadr 1) [.t 37, .t 38]) <| .al (.s (.store 1) [.t 41, .t 40]) ( .done)
def CW : ACode := .seq (.reg [.o 32 (.bin .lss 0) [.t 31, .t 30]]) <| .seq (.cond (.t 32) ( .skip) ( .exit 0)) <| .seq (.block 1 ( .seq (.reg [.m 33 31, .o 34 (.iadr 1) [.t 29, .t 31], .l 35 34, .m 4 33, .m 5 35]) <| .draw ( .take (.f 36 5 3) <| .take (.m 38 4) <| .take (.m 39 5) <| .alt (.l 37 36) ( .al (.o 40 (.call 126 []) [.t 39]) FM) <| .al (.o 40 (.call 126 []) [.t 39]) ( .al (.l 37 36) FM)))) <| .reg [.o 42 (.bin .add 0) [.t 31, .k 1], .m 31 42]
def HM : ACode := .seq (.seq (.reg [.f 28 5 1, .l 29 28, .n 30 29, .o 31 .mv [.k 0]]) <| .block 0 ( .loop [(29, 1)] [2, 3, 29, 30, 31] CW)) <| .seq (.reg [.la 43 6 3, .s (.store 6) [.t 2, .t 43]]) <| .ret
abbrev DF : Plan := .take (.o 27 (.build bz [(0, 3), (3, 1), (4, 1), (5, 1)]) [.t 16, .t 19, .t 22, .t 26]) <| .al (.s (.store 6) [.t 3, .t 27]) ( .done)
abbrev Bx : Plan := .al (.o 22 (.call 126 []) [.t 21]) DF
abbrev DG : Plan := .alt (.o 22 (.call 126 []) [.t 21]) ( .take (.o 27 (.build bz [(0, 3), (3, 1), (4, 1), (5, 1)]) [.t 16, .t 19, .t 22, .t 26]) <| .al (.o 3 (.alloc bz) []) ( .al (.s (.store 6) [.t 3, .t 27]) ( .done))) <| .al (.o 3 (.alloc bz) []) Bx
abbrev DH : Plan := .alt (.o 22 (.call 126 []) [.t 21]) ( .al (.o 26 (.mksl 1 24 (.os 1 [])) [.t 25, .t 25]) DF) <| .al (.o 26 (.mksl 1 24 (.os 1 [])) [.t 25, .t 25]) Bx
abbrev Bz : Plan := .al (.o 19 (.call 126 []) [.t 18]) Bx
abbrev Fv : Plan := .al (.o 15 (.call 125 []) [.t 14]) ( .take (.o 16 (.build rz [(0, 1), (1, 1), (2, 1)]) [.t 8, .t 11, .t 15]) <| .al (.o 19 (.call 126 []) [.t 18]) Bx)
def Hm : BCode := .seq (.base (.reg [.o 1 .box [.t 0], .o 2 (.alloc bz) []])) <| .frz 1 <| .seq (.early [.f 6 0 1, .f 7 0 6, .l 8 7, .f 9 0 1, .f 10 1 9, .l 11 10, .f 12 0 1, .f 13 2 12, .l 14 13, .f 17 3 1, .l 18 17, .f 20 4 1, .l 21 20, .f 23 5 1, .l 24 23, .n 25 24] ( .alt (.o 15 (.call 125 []) [.t 14]) ( .take (.o 16 (.build rz [(0, 1), (1, 1), (2, 1)]) [.t 8, .t 11, .t 15]) <| .alt (.o 19 (.call 126 []) [.t 18]) ( .alt (.o 22 (.call 126 []) [.t 21]) ( .alt (.o 26 (.mksl 1 24 (.os 1 [])) [.t 25, .t 25]) ( .take (.o 27 (.build bz [(0, 3), (3, 1), (4, 1), (5, 1)]) [.t 16, .t 19, .t 22, .t 26]) <| .al (.o 3 (.alloc bz) []) ( .al (.s (.store 6) [.t 3, .t 27]) ( .done))) <| .al (.o 3 (.alloc bz) []) ( .al (.o 26 (.mksl 1 24 (.os 1 [])) [.t 25, .t 25]) DF)) <| .alt (.o 26 (.mksl 1 24 (.os 1 [])) [.t 25, .t 25]) DG <| .al (.o 3 (.alloc bz) []) DH) <| .alt (.o 26 (.mksl 1 24 (.os 1 [])) [.t 25, .t 25]) ( .alt (.o 19 (.call 126 []) [.t 18]) DG <| .al (.o 3 (.alloc bz) []) Bz) <| .al (.o 3 (.alloc bz) []) ( .alt (.o 19 (.call 126 []) [.t 18]) DH <| .al (.o 26 (.mksl 1 24 (.os 1 [])) [.t 25, .t 25]) Bz)) <| .alt (.o 26 (.mksl 1 24 (.os 1 [])) [.t 25, .t 25]) ( .alt (.o 15 (.call 125 []) [.t 14]) ( .take (.o 16 (.build rz [(0, 1), (1, 1), (2, 1)]) [.t 8, .t 11, .t 15]) <| .alt (.o 19 (.call 126 []) [.t 18]) DG <| .al (.o 3 (.alloc bz) []) Bz) <| .al (.o 3 (.alloc bz) []) Fv) <| .al (.o 3 (.alloc bz) []) ( .alt (.o 15 (.call 125 []) [.t 14]) ( .take (.o 16 (.build rz [(0, 1), (1, 1), (2, 1)]) [.t 8, .t 11, .t 15]) <| .alt (.o 19 (.call 126 []) [.t 18]) DH <| .al (.o 26 (.mksl 1 24 (.os 1 [])) [.t 25, .t 25]) Bz) <| .al (.o 26 (.mksl 1 24 (.os 1 [])) [.t 25, .t 25]) Fv))) <| .base (.gc [] [1, 2, 3] HM)
theorem Qf : gM Tryz.prog Jt 44 [.c 2 true 6] Hm := ⟨Tryz.f60, _, Tryz.func60, rfl, by kernel_rfl, by kernel_rfl, by kernel_rfl, by kernel_rfl⟩
def arV (a b c d : Int) : AV := .agg [.v (.int .i64 a), .v (.int .i64 b), .v (.int .i64 c), .v (.int .i64 d)]
def arR (W T c : Int) : AV := if VP W T c = true then .tup [arV (swI W c) (swI W c + 1) (swI W c + W) (swI W c + W + 1), .v (.bool true)] else .tup [arV 0 0 0 0, .v (.bool false)]
theorem Hn (W T : Int) (cs : List Bool) (c : Int) (hr : A3 W T cs = true) (h1 : c ≤ 9223372036854775807) :
  SoundAt Tryz.prog Ek [.agg [.v (.int .i64 W), .v (.int .i64 T), .sl 1 1 (AD cs)], .v (.int .i64 c)] (arR W T c) [.bot, .bot] := by
 obtain ⟨w1, w2, t1, t2, l1, _⟩ := BI hr
 have h36 := AZ hr
 have w0 : 1 ≤ W + 1 := by omega
 by_cases h0 : 0 ≤ c
 case neg =>
  have hm : VP W T c = false := by simp [VP]; omega
  have hc : c < 0 := by omega
  refine Vv (md := md0) (ms := [false, false]) NP (by simp) ?_
  simp [GR]
  refine ⟨by omega, ?_⟩
  refine Z4 (.inr rfl) ?_
  simp [gN, w0]
  refine ⟨by omega, ?_⟩
  refine Z4 (.inl rfl) ?_
  simp [gN, w0, Ax, hc, arR, hm, arV]
 have m1 := Int.emod_nonneg c (show W + 1 ≠ 0 by omega)
 have m2 := Int.emod_lt_of_pos c (show 0 < W + 1 by omega)
 have m3 := Int.ediv_nonneg h0 (show 0 ≤ W + 1 by omega)
 have m4 := Int.ediv_le_self (W + 1) h0
 refine AJ (md := md0) (ms := [false, false]) N1 (by simp) ?_
 have hsw := @ZQ W T c w1
 have hsd : swI W c = (c / (W + 1) - 1) * W + c % (W + 1) - 1 := rfl
 have hc : ¬ c < 0 := by omega
 by_cases hx : 1 ≤ c % (W + 1) ∧ c % (W + 1) ≤ W - 1
 case neg =>
  have hm : VP W T c = false := by simp [VP]; omega
  simp [Ch, h0, w0]
  (repeat' first | omega | apply And.intro) <;>
  ·simp [Ax, hc]
   refine ⟨by omega, ?_⟩
   refine AA (D0 (x := c % (W + 1)) (lo := 1) (hi := W - 1) hx) ?_
   simp [arR, hm, arV]
 by_cases hy : 1 ≤ c / (W + 1) ∧ c / (W + 1) ≤ T - 1
 case neg =>
  have hm : VP W T c = false := by simp [VP]; omega
  simp [Ch, h0, w0]
  (repeat' first | omega | apply And.intro) <;>
  ·simp [Ax, hc]
   refine ⟨by omega, ?_⟩
   refine AA (Ar (x := c % (W + 1)) (lo := 1) (hi := W - 1) hx) ?_
   simp
   refine ⟨by omega, ?_⟩
   refine AA (D0 (x := c / (W + 1)) (lo := 1) (hi := T - 1) hy) ?_
   simp [arR, hm, arV]
 have hm : VP W T c = true := by simp [VP]; omega
 have hs := hsw hm
 have hz : swI W c = (c / (W + 1) - 1) * W + c % (W + 1) - 1 := hsd
 rw [hz] at hs
 simp [Ch, h0, w0]
 (repeat' first | omega | apply And.intro) <;>
 ·simp [Ax, hc]
  refine ⟨by omega, ?_⟩
  refine AA (Ar (x := c % (W + 1)) (lo := 1) (hi := W - 1) hx) ?_
  simp
  refine ⟨by omega, ?_⟩
  refine AA (Ar (x := c / (W + 1)) (lo := 1) (hi := T - 1) hy) ?_
  simp [arR, hm, arV, hz]
  generalize (c / (W + 1) - 1) * W = z at *
  (repeat' first | omega | rfl | apply And.intro)
@[simp] theorem gl {P : Program} {md : Nat → List Bool} {K : ES → AM → Prop} {E : ES} {H : AM} {dst : Option Nat} {k : AK} {xs : List Opd} {s : Nat} {w : Bool} {os : List AOper} {p : Plan} :
  Hw P md (⟨dst, k, xs, some (s, w)⟩ :: os) p K E H = (X0 ⟨dst, k, xs, some (s, w)⟩ E ∧ F9 P md ⟨dst, k, xs, some (s, w)⟩ s w (Hw P md os p K) E H (get E s)) := (rfl)
set_option maxHeartbeats 4000000 in
theorem LW (W T : Int) (cs : List Bool) (ls : List Int) (c : Int) (hr : A3 W T cs = true) (hl : ls.length = cs.length) (h1 : c ≤ 9223372036854775807) :
  SoundAt Tryz.prog Fu [.agg [.v (.int .i64 W), .v (.int .i64 T), .sl 1 1 (AD cs)], .sl 1 1 (AC ls), .v (.int .i64 c)]
   (.tup [.v (.bool (VP W T c && RS W ls c)), .v (.bool (VP W T c && upB W ls c))]) [.bot, .bot, .bot] := by
 obtain ⟨w1, w2, t1, t2, l1, _⟩ := BI hr
 have h36 := AZ hr
 have ar := Hn W T cs c hr h1
 refine Vv (md := md0) (ms := [false, false, false]) LU (by simp) ?_
 simp [Ex]
 refine AA ar ?_
 cases hm : VP W T c with
 | false => simp [arR, hm, arV]
 | true =>
   have hs := ZQ w1 hm
   have q0 := hs.1
   have q1 : swI W c < ls.length := by omega
   have q2 : 0 ≤ swI W c + W := by omega
   have q3 : swI W c + W < ls.length := by omega
   have q4 : 0 ≤ swI W c + 1 := by omega
   have q5 : swI W c + 1 < ls.length := by omega
   simp [arR, hm, arV]
   refine Vw rfl rfl rfl ?_
   unfold RS upB
   by_cases e1 : ati ls (swI W c) = 1
   ·have e2 : ¬ ati ls (swI W c) = 2 := by omega
    simp [q0, q1, q2, q3, q4, q5, e1, e2]
    by_cases e3 : ati ls (swI W c + W) = 1 <;> simp [e3]
   ·by_cases e2 : ati ls (swI W c) = 2
    ·simp [q0, q1, q2, q3, q4, q5, e1, e2]
     by_cases e3 : ati ls (swI W c + 1) = 2 <;> simp [e3]
    ·simp [q0, q1, q2, q3, q4, q5, e1, e2]
set_option maxHeartbeats 4000000 in
theorem Qg (W T : Int) (cs : List Bool) (ls : List Int) (c : Int) (hr : A3 W T cs = true) (hl : ls.length = cs.length) (h1 : c ≤ 9223372036854775807) :
  SoundAt Tryz.prog Js [.agg [.v (.int .i64 W), .v (.int .i64 T), .sl 1 1 (AD cs)], .sl 1 1 (AC ls), .v (.int .i64 c)]
   (.tup [.os 1 (AC (HX W T ls c)), .v (.bool (F8 W T ls c))]) [.bot, .bot, .bot] := by
 obtain ⟨w1, w2, t1, t2, l1, _⟩ := BI hr
 have h36 := AZ hr
 have ar := Hn W T cs c hr h1
 have fl := LW W T cs ls c hr hl h1
 refine Vv (md := md0) (ms := [false, false, false]) Qe (by simp) ?_
 simp [Hl]
 refine AA (Ak ls (by omega)) ?_
 simp
 refine AA fl ?_
 simp
 refine AA ar ?_
 have htl : (AC ls).take ls.length = AC ls := AG ls
 cases hm : VP W T c with
 | false =>
   have e : HX W T ls c = ls := by simp [HX, F8, hm]
   have e2 : F8 W T ls c = false := by simp [F8, hm]
   simp [arR, hm, arV, e, e2]
   refine Vw rfl rfl rfl ?_
   simp [htl]
 | true =>
   have hs := ZQ w1 hm
   have hW2 : 2 ≤ W := by
    obtain ⟨x, y, x0, x1, _⟩ := YO w1 hm
    omega
   have q0 := hs.1
   have q1 : swI W c < ls.length := by omega
   have q2 : 0 ≤ swI W c + W := by omega
   have q3 : swI W c + W < ls.length := by omega
   have q4 : 0 ≤ swI W c + 1 := by omega
   have q5 : swI W c + 1 < ls.length := by omega
   have q6 : 0 ≤ swI W c + W + 1 := by omega
   have q7 : swI W c + W + 1 < ls.length := by omega
   simp [arR, hm, arV]
   refine Vw rfl rfl rfl ?_
   cases hF : RS W ls c with
   | true =>
     have e2 : F8 W T ls c = true := by simp [F8, hm, hF]
     have e : HX W T ls c = RT ls (swI W c) W 2 2 4 4 := by unfold HX; rw [if_pos e2, if_pos hF]
     have ht : (AC (RT ls (swI W c) W 2 2 4 4)).take ls.length = AC (RT ls (swI W c) W 2 2 4 4) := List.take_of_length_le (by simp [DE])
     have hlen := DE ls (swI W c) W 2 2 4 4
     rw [e, e2]
     unfold RT at *
     simp [q0, q1, q2, q3, q4, q5, q6, q7, Dd, ht]
   | false =>
     cases hU : upB W ls c with
     | true =>
       have e2 : F8 W T ls c = true := by simp [F8, hm, hU]
       have e : HX W T ls c = RT ls (swI W c) W 1 3 1 3 := by unfold HX; rw [if_pos e2, if_neg (by rw [hF]; decide)]
       have ht : (AC (RT ls (swI W c) W 1 3 1 3)).take ls.length = AC (RT ls (swI W c) W 1 3 1 3) := List.take_of_length_le (by simp [DE])
       rw [e, e2]
       unfold RT at *
       simp [q0, q1, q2, q3, q4, q5, q6, q7, Dd, ht]
     | false =>
       have e2 : F8 W T ls c = false := by simp [F8, hF, hU]
       have e : HX W T ls c = ls := by simp [HX, e2]
       rw [e, e2]
       simp [htl]
theorem VS (W T : Int) (cs : List Bool) (ls : List Int) (k : Nat) (hr : A3 W T cs = true) (hy : AU W T cs ls = true) (hk : k < ls.length) :
  SoundAt Tryz.prog Gv [.agg [.v (.int .i64 W), .v (.int .i64 T), .sl 1 1 (AD cs)], .sl 1 1 (AC ls), .v (.int .i64 k)]
   (if ati ls k = 0 then .tup [.os 1 (AC ls), .v (.bool false)] else .tup [.os 1 (AC (LR W T ls k)), .v (.bool true)]) [.bot, .bot, .bot] := by
 refine AJ (md := md5) (ms := [false, false, false]) OM (by simp) ?_
 have h36 := AZ hr
 have hl := Aj hy
 simp [KH]
 refine AA (Br W T cs ls (by omega) (by omega)) ?_
 simp [hr, hy]
 refine ⟨by omega, by omega, ?_⟩
 refine AA (C4 (x := k) (lo := 0) (hi := (ls.length : Int) - 1) (by omega)) ?_
 by_cases hz : ati ls k = 0
 ·simp [hk, hz]
 obtain ⟨t, e, ht, htk, _⟩ := XE hr hy hk hz
 have eL : LR W T ls k = (ls.set t 0).set k 0 := by unfold LR; rw [e]; simp
 rw [eL]
 have one := C2 W T cs k (ati ls k) hr (by omega) (by omega)
 rw [e] at one
 simp [hk, hz]
 (repeat' first | assumption | omega | apply And.intro) <;>
 ·refine AA one ?_
  have htk2 : (AC ((ls.set t 0).set k 0)).take ls.length = AC ((ls.set t 0).set k 0) := List.take_of_length_le (by simp)
  simp [ht, hk, Dd, Kr, htk2]
theorem ke {us : List Value} (h : ∀ u ∈ us, u.oneCell' = true) : okL (KS us) = true := by
 induction us with
 | nil => simp [KS]
 | cons u us ih =>
   have h1 := h u (by simp)
   have h2 := ih fun x hx => h x (by simp [hx])
   show (okE (.v u) && okL (KS us)) = true
   rw [h2, Bool.and_true]
   exact h1
@[simp] theorem oY (us : List Value) : (KS us).take us.length = KS us := List.take_of_length_le (by simp)
theorem N2 (us : List Value) (hn : us.length < 2 ^ 40) (h1 : ∀ u ∈ us, u.oneCell' = true) :
  SoundAt Tryz.prog E7 [.sl 0 1 (KS us)] (.os 1 (KS us)) [.bot] := by
 refine AJ (md := md3) (ms := [false]) O7 (by simp) ?_
 simp [IW]
 simp [ke h1]
 refine ⟨fun _ => by omega, fun e => ⟨by omega, by rw [e]; rfl⟩⟩
theorem RU (us : List Value) : SoundAt Tryz.prog Fl [.os 1 (KS us)] (.os 1 (KS us)) [.bot] := by
 refine AJ (md := md3) (ms := [false]) Jg (by simp) ?_
 simp [Fm]
theorem gm (us : List Value) : noVL (KS us) = true := by
 induction us with
 | nil => rfl
 | cons u us ih => show (noV (.v u) && noVL (KS us)) = true; rw [ih]; rfl
theorem Qh (us : List Value) (hn : us.length < 2 ^ 40) (h1 : ∀ u ∈ us, u.oneCell' = true) :
  SoundAt Tryz.prog E7 [.sl 1 1 (KS us)] (.os 1 (KS us)) [.bot] := by
 refine SoundAt.lift (n := 1) (fun C S us hr => noOL_ok _ S us rfl hr) (by simp [noV, gm]) ?_
 have := N2 us hn h1
 simpa [vwL, vw, Tt] using this
theorem Sc (us : List Value) (hn : us.length < 2 ^ 40) (h1 : ∀ u ∈ us, u.oneCell' = true) :
  SoundAt Tryz.prog Kg [.sl 1 1 (KS us)] (.os 1 (KS us)) [.bot] := by
 refine AJ (md := md3) (ms := [false]) RR (by simp) ?_
 simp [Kh]
 refine AA (Qh us hn h1) ?_
 simp [Tt]
 refine AA (RU us) ?_
 simp
def XO (d : Int × Int × Int) : Bool :=
 if d.1 = 0 then true else if d.1 = 1 ∨ d.1 = 2 then decide (d.2.2 = 0) else if d.1 = 3 ∨ d.1 = 4 then decide (d.2.1 = 0 ∧ d.2.2 = 0) else false
theorem RW (d : Int × Int × Int) : SoundAt Tryz.prog Gj [Ag d] (.v (.bool (XO d))) [.bot] := by
 obtain ⟨k, s, w⟩ := d
 refine AJ (md := md3) (ms := [false]) Kz (by simp [Ag]) ?_
 by_cases h0 : k = 0 <;> by_cases h1 : k = 1 <;> by_cases h2 : k = 2 <;> by_cases h3 : k = 3 <;> by_cases h4 : k = 4 <;> by_cases hs : s = 0 <;> by_cases hw : w = 0 <;> first | (exfalso; omega) | (simp [Gk, Ag, XO, h0, h1, h2, h3, h4, hs, hw])
theorem UL (d : Int × Int × Int) : SoundAt Tryz.prog Im [Ag d] (.v (.bool (XO d))) [.bot] := by
 obtain ⟨k, s, w⟩ := d
 refine AJ (md := md3) (ms := [false]) NN (by simp [Ag]) ?_
 by_cases h0 : k = 0 <;> by_cases h1 : k = 1 <;> by_cases h2 : k = 2 <;> by_cases h3 : k = 3 <;> by_cases h4 : k = 4 <;> by_cases hs : s = 0 <;> by_cases hw : w = 0 <;> first | (exfalso; omega) | (simp [Ip, Ag, XO, h0, h1, h2, h3, h4, hs, hw])
def aQ (W T : Int) (cs : List Bool) (ds ls : List Int) : List Int := (Dj W T cs ds ls).getD []
def gn (W T : Int) (cs : List Bool) (ds ls : List Int) : Bool := (Dj W T cs ds ls).isSome
@[simp] theorem iz (c : Nat) (ps : List (List Int)) : (sls c ps).take ps.length = sls c ps := List.take_of_length_le (by simp)
@[simp] abbrev K1 : Nat := 125
def K2 : ACode := .seq (.reg [.o 2 .mv [.c (.os 1 [])]]) <| .seq (.reg [.m 3 0, .o 4 (.call 174 []) [.t 3], .o 5 (.call 173 []) [.t 4], .m 2 5]) <| .ret
theorem RX : cFn Tryz.prog K1 6 [.t 2] K2 := ⟨Tryz.f125, _, Tryz.func125, rfl, by kernel_rfl, by kernel_rfl, by kernel_rfl, by kernel_rfl⟩
@[simp] abbrev FN : Nat := 174
def FO : ACode := .seq (.reg [.o 2 .mv [.c (.os 1 [])]]) <| .seq (.seq (.reg [.m 3 0, .o 4 (.nilq false) [.t 3]]) <| .cond (.t 4) ( .seq (.reg [.o 2 .mv [.c (.os 1 [])]]) <| .ret) ( .skip)) <| .seq (.reg [.o 5 (.bsl 1) [], .m 6 0, .o 7 (.app 1 1 true) [.t 5, .t 6], .m 2 7]) <| .ret
theorem K3 : cFn Tryz.prog FN 8 [.t 2] FO := ⟨Tryz.f174, _, Tryz.func174, rfl, by kernel_rfl, by kernel_rfl, by kernel_rfl, by kernel_rfl⟩
@[simp] abbrev Fw : Nat := 173
def Fx : ACode := .seq (.reg [.o 2 .mv [.c (.os 1 [])]]) <| .seq (.reg [.m 3 0, .m 4 0, .n 5 4, .m 6 0, .n 7 6, .o 8 (.slice 1 false false true true) [.t 3, .t 5, .t 7], .m 2 8]) <| .ret
theorem LX : cFn Tryz.prog Fw 9 [.t 2] Fx := ⟨Tryz.f173, _, Tryz.func173, rfl, by kernel_rfl, by kernel_rfl, by kernel_rfl, by kernel_rfl⟩
end Go.Proofs.Dev
