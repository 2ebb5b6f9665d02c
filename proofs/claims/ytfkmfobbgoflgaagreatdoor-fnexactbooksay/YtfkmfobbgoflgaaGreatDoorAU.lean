/- Contracts of the functions of the program over slots and rows, each proved against the program itself; no condition beyond those that each theorem names. -/
import Derived.Test.YtfkmfobbgoflgaaGreatDoorAQ
import Derived.Test.YtfkmfobbgoflgaaGreatDoorAT
import Derived.Test.YtfkmfobbgoflgaaGreatDoorProg
import Derived.Test.YtfkmfobbgoflgaaGreatDoorAL
import Derived.Test.YtfkmfobbgoflgaaGreatDoorAH
set_option linter.unusedSimpArgs false
set_option linter.unusedVariables false
set_option maxRecDepth 100000
namespace Go.Proofs.Dev
def swI (W c : Int) : Int := (c / (W + 1) - 1) * W + c % (W + 1) - 1
def VO (W T c : Int) : Bool := decide (0 ≤ c ∧ 1 ≤ c % (W + 1) ∧ c % (W + 1) ≤ W - 1 ∧ 1 ≤ c / (W + 1) ∧ c / (W + 1) ≤ T - 1)
def RQ (W : Int) (ls : List Int) (c : Int) : Bool := decide (ati ls (swI W c) = 1) && decide (ati ls (swI W c + W) = 1)
def upB (W : Int) (ls : List Int) (c : Int) : Bool := decide (ati ls (swI W c) = 2) && decide (ati ls (swI W c + 1) = 2)
def Fv (W T : Int) (ls : List Int) (c : Int) : Bool := VO W T c && (RQ W ls c || upB W ls c)
def RR (ls : List Int) (a W : Int) (p q r s : Int) : List Int := (((ls.set a.toNat p).set (a + 1).toNat q).set (a + W).toNat r).set (a + W + 1).toNat s
def HA (W T : Int) (ls : List Int) (c : Int) : List Int :=
 if Fv W T ls c = true then (if RQ W ls c = true then RR ls (swI W c) W 2 2 4 4 else RR ls (swI W c) W 1 3 1 3) else ls
theorem DE (ls : List Int) (a W p q r s : Int) : (RR ls a W p q r s).length = ls.length := by simp [RR]
theorem YK (W T : Int) (ls : List Int) (c : Int) : (HA W T ls c).length = ls.length := by
 unfold HA; split
 ·split <;> exact DE ..
 ·rfl
theorem YL {W T c : Int} (hW : 1 ≤ W) (h : VO W T c = true) :
  ∃ x y : Int, 0 ≤ x ∧ x + 1 < W ∧ 0 ≤ y ∧ y + 1 < T ∧ swI W c = y * W + x ∧ c % (W + 1) = x + 1 ∧ c / (W + 1) = y + 1 := by
 simp only [VO, decide_eq_true_eq] at h
 refine ⟨c % (W + 1) - 1, c / (W + 1) - 1, by omega, by omega, by omega, by omega, ?_, by omega, by omega⟩
 unfold swI; omega
theorem ZL {W T c : Int} (hW : 1 ≤ W) (h : VO W T c = true) : 0 ≤ swI W c ∧ swI W c + W + 1 < W * T := by
 obtain ⟨x, y, x0, x1, y0, y1, e, _⟩ := YL hW h
 rw [e]
 have h1 : 0 ≤ y * W := Int.mul_nonneg y0 (by omega)
 have h2 : (y + 1 + 1) * W ≤ T * W := Int.mul_le_mul_of_nonneg_right (by omega) (by omega)
 have h3 : (y + 1 + 1) * W = y * W + W + W := by rw [Int.add_mul, Int.add_mul, Int.one_mul]
 rw [Int.mul_comm T W] at h2
 omega
theorem NX {xs : List Int} {i k : Int} {v : Int} (h0 : 0 ≤ i) (h : i < xs.length) (hk : 0 ≤ k) : ati (xs.set i.toNat v) k = if k = i then v else ati xs k := by
 have := MD (xs := xs) (i := i.toNat) (k := k.toNat) (v := v) (by omega)
 rw [show ((k.toNat : Nat) : Int) = k by omega] at this
 rw [this]
 by_cases e : k = i
 ·rw [if_pos e, if_pos (by omega)]
 ·rw [if_neg e, if_neg (by omega)]
theorem Z9 {ls : List Int} {a W p q r s k : Int} (h0 : 0 ≤ a) (hW : 1 ≤ W) (h : a + W + 1 < ls.length) (hk : 0 ≤ k) :
  ati (RR ls a W p q r s) k = if k = a + W + 1 then s else if k = a + W then r else if k = a + 1 then q else if k = a then p else ati ls k := by
 unfold RR
 rw [NX (by omega) (by simp; omega) hk, NX (by omega) (by simp; omega) hk, NX (by omega) (by simp; omega) hk, NX (by omega) (by omega) hk]
theorem jP {xs ys : List Int} (hl : xs.length = ys.length) (h : ∀ k : Nat, k < xs.length → ati xs k = ati ys k) : xs = ys := by
 apply List.ext_getElem hl
 intro i h1 h2
 have := h i h1
 simpa [ati, h1, h2] using this
theorem dH {W T x y : Int} (hW : 1 ≤ W) (x0 : 0 ≤ x) (x1 : x + 1 < W) (y0 : 0 ≤ y) (y1 : y + 1 < T) :
  AJ W T (y * W + x) 1 = y * W + x + 1 ∧ AJ W T (y * W + x) 2 = y * W + x + W ∧ AJ W T (y * W + x + W) 1 = y * W + x + W + 1 ∧ AJ W T (y * W + x + 1) 2 = y * W + x + 1 + W := by
 have c1 := Yx (W := W) (x := x) (y := y) x0 (by omega)
 have c2 := Yx (W := W) (x := x + 1) (y := y) (by omega) (by omega)
 have c3 := Yx (W := W) (x := x) (y := y + 1) x0 (by omega)
 have hm : (y + 1) * W = y * W + W := by rw [Int.add_mul, Int.one_mul]
 rw [show (y + 1) * W + x = y * W + x + W by omega] at c3
 rw [show y * W + (x + 1) = y * W + x + 1 by omega] at c2
 refine ⟨?_, ?_, ?_, ?_⟩
 ·unfold AJ; rw [c1.1, if_pos ⟨rfl, by omega⟩]
 ·unfold AJ; rw [c1.2, if_neg (by omega), if_pos ⟨rfl, by omega⟩]
 ·unfold AJ; rw [c3.1, if_pos ⟨rfl, by omega⟩]
 ·unfold AJ; rw [c2.2, if_neg (by omega), if_pos ⟨rfl, by omega⟩]
theorem aA {W T : Int} {cs : List Bool} {ls : List Int} {k : Int} (hy : AO W T cs ls = true) (h0 : 0 ≤ k) (hk : k < ls.length) (hv : ati ls k ≠ 0) :
  1 ≤ ati ls k ∧ ati ls k ≤ 4 ∧ atb cs k = true ∧ 0 ≤ AJ W T k (ati ls k) ∧ atb cs (AJ W T k (ati ls k)) = true ∧ ati ls (AJ W T k (ati ls k)) = Ck (ati ls k) := by
 have e : ((k.toNat : Nat) : Int) = k := by omega
 have := IZ (k := k.toNat) hy (by omega) (by rw [e]; exact hv)
 rw [e] at this
 exact this
theorem aB {W T : Int} {cs : List Bool} {ls : List Int} {k t : Int} (hr : A0 W T cs = true) (hy : AO W T cs ls = true) (h0 : 0 ≤ k) (hk : k < ls.length) (hv : ati ls k ≠ 0) (ht : AJ W T k (ati ls k) = t) :
  AO W T cs (K9 W T ls k) = true ∧ (K9 W T ls k).length = ls.length ∧ ∀ j : Int, 0 ≤ j → ati (K9 W T ls k) j = if j = k then 0 else if j = t then 0 else ati ls j := by
 have e : ((k.toNat : Nat) : Int) = k := by omega
 obtain ⟨t', h1, h2, h3, h4⟩ := XD (k := k.toNat) hr hy (by omega) (by rw [e]; exact hv)
 have h5 := dG (k := k.toNat) hr hy (by omega) (by rw [e]; exact hv)
 rw [e] at h1 h4 h5
 refine ⟨h5, Ms .., fun j hj => ?_⟩
 have := h4 j.toNat
 rw [show ((j.toNat : Nat) : Int) = j by omega] at this
 rw [this]
 by_cases e1 : j = k
 ·rw [if_pos (by omega), if_pos e1]
 ·rw [if_neg (by omega), if_neg e1]
  by_cases e2 : j = t
  ·rw [if_pos (by omega), if_pos e2]
  ·rw [if_neg (by omega), if_neg e2]
theorem dI {W T : Int} {cs : List Bool} {ls : List Int} {k way t : Int} (hr : A0 W T cs = true) (hy : AO W T cs ls = true) (hf : BU W T cs ls k way = true) (ht : AJ W T k way = t) :
  AO W T cs (C4 W T ls k way) = true ∧ (C4 W T ls k way).length = ls.length ∧ ∀ j : Int, 0 ≤ j → ati (C4 W T ls k way) j = if j = t then Ck way else if j = k then way else ati ls j := by
 have hl := Ao hy
 obtain ⟨w1, w2, t1, t2, l1, _⟩ := CL hr
 have hf2 := hf
 simp only [BU, decide_eq_true_eq] at hf2
 obtain ⟨f0, f1, f2, f3, f4, f5, f6⟩ := hf2
 have sb := DQ (W := W) (T := T) (k := k) (way := way) w1 f0 (by omega) f2
 refine ⟨Nm hr hy hf, AL .., fun j hj => ?_⟩
 subst ht
 unfold C4
 rw [NX f2 (by simp; omega) hj, NX f0 (by omega) hj]
theorem dJ {W T : Int} {cs : List Bool} {ls : List Int} {k way t : Int} (h0 : 0 ≤ k) (h1 : k < cs.length) (ht : AJ W T k way = t) (h2 : 0 ≤ t) (h3 : atb cs k = true) (h4 : atb cs t = true) (h5 : ati ls k = 0) (h6 : ati ls t = 0) : BU W T cs ls k way = true := by
 subst ht
 simp [BU, h0, h1, h2, h3, h4, h5, h6]
theorem dK {W T : Int} {cs : List Bool} {ls l4 : List Int} {a p q r w v : Int} (hr : A0 W T cs = true) (hy : AO W T cs ls = true)
  (a0 : 0 ≤ a ∧ a < ls.length) (p0 : 0 ≤ p ∧ p < ls.length) (q0 : 0 ≤ q ∧ q < ls.length) (r0 : 0 ≤ r ∧ r < ls.length) (d1 : a ≠ p) (d2 : a ≠ q) (d3 : a ≠ r) (d4 : p ≠ q) (d5 : p ≠ r) (d6 : q ≠ r)
  (s1 : AJ W T a w = p) (s2 : AJ W T q w = r) (s3 : AJ W T a v = q) (s4 : AJ W T p v = r) (hw : w ≠ 0) (h1 : ati ls a = w) (h2 : ati ls q = w) (hl4 : l4.length = ls.length)
  (h4 : ∀ j : Int, 0 ≤ j → ati l4 j = if j = r then Ck v else if j = p then v else if j = q then Ck v else if j = a then v else ati ls j) :
  (atb cs a = true ∧ atb cs p = true ∧ atb cs q = true ∧ atb cs r = true) ∧ AO W T cs l4 = true := by
 have hl := Ao hy
 obtain ⟨_, _, a3, a4, a5, a6⟩ := aA hy a0.1 a0.2 (by rw [h1]; exact hw)
 obtain ⟨_, _, c3, c4, c5, c6⟩ := aA hy q0.1 q0.2 (by rw [h2]; exact hw)
 rw [h1, s1] at a4 a5 a6
 rw [h2, s2] at c4 c5 c6
 refine ⟨⟨a3, a5, c3, c5⟩, ?_⟩
 obtain ⟨g1, g2, g3⟩ := aB (k := a) (t := p) hr hy a0.1 a0.2 (by rw [h1]; exact hw) (by rw [h1, s1])
 generalize K9 W T ls a = l1 at *
 have v1 : ati l1 q = w := by rw [g3 _ q0.1, if_neg (fun e => d2 e.symm), if_neg (fun e => d4 e.symm), h2]
 obtain ⟨k1, k2, k3⟩ := aB (k := q) (t := r) hr g1 q0.1 (by omega) (by rw [v1]; exact hw) (by rw [v1, s2])
 generalize K9 W T l1 q = l2 at *
 have za : ati l2 a = 0 := by rw [k3 a a0.1, if_neg d2, if_neg d3, g3 a a0.1, if_pos rfl]
 have zp : ati l2 p = 0 := by rw [k3 p p0.1, if_neg d4, if_neg d5, g3 p p0.1, if_neg (fun e => d1 e.symm), if_pos rfl]
 have zq : ati l2 q = 0 := by rw [k3 q q0.1, if_pos rfl]
 have zr : ati l2 r = 0 := by rw [k3 r r0.1, if_neg (fun e => d6 e.symm), if_pos rfl]
 obtain ⟨m1, m2, m3⟩ := dI (k := a) (way := v) (t := q) hr k1 (dJ a0.1 (by omega) s3 q0.1 a3 c3 za zq) s3
 generalize C4 W T l2 a v = l3 at *
 have yp : ati l3 p = 0 := by rw [m3 p p0.1, if_neg d4, if_neg (fun e => d1 e.symm), zp]
 have yr : ati l3 r = 0 := by rw [m3 r r0.1, if_neg (fun e => d6 e.symm), if_neg (fun e => d3 e.symm), zr]
 obtain ⟨n1, n2, n3⟩ := dI (k := p) (way := v) (t := r) hr m1 (dJ p0.1 (by omega) s4 r0.1 a5 c5 yp yr) s4
 generalize C4 W T l3 p v = l5 at *
 have e : l4 = l5 := by
  refine jP (by omega) fun k hk => ?_
  rw [h4 k (by omega), n3 k (by omega)]
  by_cases e1 : (k : Int) = r
  ·rw [if_pos e1, if_pos e1]
  rw [if_neg e1, if_neg e1]
  by_cases e2 : (k : Int) = p
  ·rw [if_pos e2, if_pos e2]
  rw [if_neg e2, if_neg e2, m3 k (by omega)]
  by_cases e3 : (k : Int) = q
  ·rw [if_pos e3, if_pos e3]
  rw [if_neg e3, if_neg e3]
  by_cases e4 : (k : Int) = a
  ·rw [if_pos e4, if_pos e4]
  rw [if_neg e4, if_neg e4, k3 k (by omega), if_neg e3, if_neg e1, g3 k (by omega), if_neg e4, if_neg e2]
 rw [e]; exact n1
theorem dL {W T : Int} {cs : List Bool} {ls : List Int} {c : Int} (hr : A0 W T cs = true) (hy : AO W T cs ls = true) (hf : Fv W T ls c = true) :
  (atb cs (swI W c) = true ∧ atb cs (swI W c + 1) = true ∧ atb cs (swI W c + W) = true ∧ atb cs (swI W c + W + 1) = true) ∧ AO W T cs (HA W T ls c) = true := by
 obtain ⟨w1, w2, t1, t2, l1, _⟩ := CL hr
 have hl := Ao hy
 have hf2 := hf
 simp only [Fv, Bool.and_eq_true, Bool.or_eq_true] at hf2
 obtain ⟨hm, hf3⟩ := hf2
 obtain ⟨s0, s1⟩ := ZL w1 hm
 obtain ⟨x, y, x0, x1, y0, y1, e, _⟩ := YL w1 hm
 obtain ⟨q1, q2, q3, q4⟩ := dH (T := T) w1 x0 x1 y0 y1
 rw [← e] at q1 q2 q3 q4
 have hW2 : 2 ≤ W := by omega
 have key : HA W T ls c = if RQ W ls c = true then RR ls (swI W c) W 2 2 4 4 else RR ls (swI W c) W 1 3 1 3 := by unfold HA; rw [if_pos hf]
 rw [key]
 by_cases hF : RQ W ls c = true
 ·rw [if_pos hF]
  simp only [RQ, Bool.and_eq_true, decide_eq_true_eq] at hF
  generalize swI W c = a at *
  have := dK (l4 := RR ls a W 2 2 4 4) (a := a) (p := a + 1) (q := a + W) (r := a + W + 1) (w := 1) (v := 2) hr hy (by omega) (by omega) (by omega) (by omega) (by omega) (by omega) (by omega) (by omega) (by omega) (by omega)
   q1 q3 q2 (by rw [q4]; omega) (by decide) hF.1 hF.2 (DE ..) (fun j hj => by
    rw [Z9 s0 w1 (by omega) hj, show Ck 2 = 4 by decide]
    by_cases e1 : j = a + W + 1
    ·rw [if_pos e1, if_pos e1]
    rw [if_neg e1, if_neg e1]
    by_cases e2 : j = a + W
    ·rw [if_pos e2, if_neg (by omega), if_pos e2]
    rw [if_neg e2, if_neg e2])
  exact ⟨⟨this.1.1, this.1.2.1, this.1.2.2.1, this.1.2.2.2⟩, this.2⟩
 ·rw [if_neg hF]
  have hU : upB W ls c = true := hf3.resolve_left hF
  simp only [upB, Bool.and_eq_true, decide_eq_true_eq] at hU
  generalize swI W c = a at *
  have := dK (l4 := RR ls a W 1 3 1 3) (a := a) (p := a + W) (q := a + 1) (r := a + W + 1) (w := 2) (v := 1) hr hy (by omega) (by omega) (by omega) (by omega) (by omega) (by omega) (by omega) (by omega) (by omega) (by omega)
   q2 (by rw [q4]; omega) q1 q3 (by decide) hU.1 hU.2 (DE ..) (fun j hj => by
    rw [Z9 s0 w1 (by omega) hj, show Ck 1 = 3 by decide])
  exact ⟨⟨this.1.1, this.1.2.2.1, this.1.2.1, this.1.2.2.2⟩, this.2⟩
theorem OP {W T : Int} {cs : List Bool} {ds : List Int} : ∀ (n : Nat) (ls : List Int), Af W T cs ds ls = true →
  Iz ls ≤ Iz (Ar W T cs ds n ls) ∧ (Ar W T cs ds n ls = ls ∨ Iz ls < Iz (Ar W T cs ds n ls))
 | 0, ls, _ => ⟨Nat.le_refl _, .inl rfl⟩
 | n + 1, ls, hf => by
   obtain ⟨hr, hd, hy, ho⟩ := AR hf
   have hl := Ao hy
   unfold Ar
   by_cases hb : Bu W T cs ds ls = true
   ·have h1 := ZI (ds := ds) hr hl hb
    have h2 := OP n (BN W T cs ds ls) (K1 hf)
    simp only [hb, if_true]
    exact ⟨by omega, .inr (by omega)⟩
   ·have hb' : Bu W T cs ds ls = false := by simpa using hb
    simp [hb']
theorem XG {W T : Int} {cs : List Bool} {ds ls : List Int} (hf : Af W T cs ds ls = true) : (Iz ls < Iz (BA W T cs ds ls)) ↔ BA W T cs ds ls ≠ ls := by
 obtain ⟨h1, h2⟩ := OP ls.length ls hf
 unfold BA at *
 constructor
 ·intro h e; rw [e] at h; omega
 ·intro h; exact h2.resolve_left h
def aC (W T : Int) (cs : List Bool) (x y : Int) : Bool := decide (0 ≤ x ∧ x ≤ W - 1) && (decide (0 ≤ y ∧ y ≤ T - 1) && atb cs (y * W + x))
theorem nj {W T x y : Int} (h1 : 0 ≤ x ∧ x ≤ W - 1) (h2 : 0 ≤ y ∧ y ≤ T - 1) : 0 ≤ y * W ∧ y * W + x < W * T := by
 have a1 : 0 ≤ y * W := Int.mul_nonneg h2.1 (by omega)
 have a2 : (y + 1) * W ≤ T * W := Int.mul_le_mul_of_nonneg_right (by omega) (by omega)
 rw [Int.add_mul, Int.one_mul, Int.mul_comm T W] at a2
 omega
theorem LD (W T : Int) (cs : List Bool) (x y : Int) (hr : A0 W T cs = true) (hx : -9 ≤ x ∧ x ≤ 9 * 2 ^ 40) (hy : -9 ≤ y ∧ y ≤ 9 * 2 ^ 40) :
  SoundAt Tryz.prog UF [.agg [.v (.int .i64 W), .v (.int .i64 T), .sl 1 1 (AC cs)], .v (.int .i64 x), .v (.int .i64 y)] (.v (.bool (aC W T cs x y))) [.bot, .bot, .bot] := by
 obtain ⟨w1, w2, t1, t2, l1, _⟩ := CL hr
 have h36 := AZ hr
 refine AE (md := md5) (ms := [false, false, false]) ZK (by simp) ?_
 by_cases h1 : 0 ≤ x ∧ x ≤ W - 1
 ·by_cases h2 : 0 ≤ y ∧ y ≤ T - 1
  ·obtain ⟨m1, m2⟩ := nj h1 h2
   simp [LB, aC, h1, h2]
   refine ⟨by omega, ?_⟩
   refine AA (C6 (x := x) (lo := 0) (hi := W - 1) h1) ?_
   simp
   refine ⟨by omega, ?_⟩
   refine AA (C6 (x := y) (lo := 0) (hi := T - 1) h2) ?_
   have n1 : 0 ≤ y * W + x := by omega
   have n2 : y * W + x < cs.length := by omega
   simp [n1, n2]
   omega
  ·simp [LB, aC, h1, h2]
   refine ⟨by omega, ?_⟩
   refine AA (C6 (x := x) (lo := 0) (hi := W - 1) h1) ?_
   simp
   refine ⟨by omega, ?_⟩
   refine AA (EL (x := y) (lo := 0) (hi := T - 1) h2) ?_
   simp
 ·simp [LB, aC, h1]
  refine ⟨by omega, ?_⟩
  refine AA (EL (x := x) (lo := 0) (hi := W - 1) h1) ?_
  simp
def eE (W T : Int) : Int := (W + 1) * (T + 1)
theorem dM {W T : Int} (w1 : 1 ≤ W) (w2 : W ≤ 6) (t1 : 1 ≤ T) (t2 : T ≤ 6) : 4 ≤ eE W T ∧ eE W T ≤ 49 := by
 have h1 : (2 : Int) * 2 ≤ (W + 1) * (T + 1) := Int.mul_le_mul (by omega) (by omega) (by omega) (by omega)
 have h2 : (W + 1) * (T + 1) ≤ 7 * 7 := Int.mul_le_mul (by omega) (by omega) (by omega) (by omega)
 unfold eE; omega
theorem RS (W T : Int) (cs : List Bool) (hb : cs.length < 2 ^ 40) :
  SoundAt Tryz.prog Kg [.agg [.v (.int .i64 W), .v (.int .i64 T), .sl 1 1 (AC cs)]] (.v (.int .i64 (if A0 W T cs = true then eE W T else -1))) [.bot] := by
 refine AE (md := md5) (ms := [false]) RO (by simp) ?_
 simp [Kh]
 refine AA (BG W T cs hb) ?_
 cases hr : A0 W T cs with
 | false => simp
 | true =>
   obtain ⟨w1, w2, t1, t2, l1, _⟩ := CL hr
   have := dM w1 w2 t1 t2
   unfold eE at *
   simp
   omega
def sqB (W T : Int) (cs : List Bool) (c : Int) : Bool :=
 ((aC W T cs (c % (W + 1) - 1) (c / (W + 1) - 1) && aC W T cs (c % (W + 1)) (c / (W + 1) - 1)) && aC W T cs (c % (W + 1) - 1) (c / (W + 1))) && aC W T cs (c % (W + 1)) (c / (W + 1))
theorem dN {W T : Int} {cs : List Bool} {c : Int} (h0 : 0 ≤ c) (h : sqB W T cs c = true) : VO W T c = true := by
 simp only [sqB, aC, Bool.and_eq_true, decide_eq_true_eq] at h
 simp only [VO, decide_eq_true_eq]
 omega
set_option maxHeartbeats 1000000 in
theorem My (W T : Int) (cs : List Bool) (c : Int) (hr : A0 W T cs = true) (h0 : 0 ≤ c) (h1 : c < 2 ^ 40) :
  SoundAt Tryz.prog Mu [.agg [.v (.int .i64 W), .v (.int .i64 T), .sl 1 1 (AC cs)], .v (.int .i64 c)]
   (if sqB W T cs c = true then .tup [.v (.int .i64 (swI W c)), .v (.int .i64 (swI W c + 1)), .v (.int .i64 (swI W c + W)), .v (.int .i64 (swI W c + W + 1)), .v (.bool true)]
    else .tup [.v (.int .i64 0), .v (.int .i64 0), .v (.int .i64 0), .v (.int .i64 0), .v (.bool false)]) [.bot, .bot] := by
 obtain ⟨w1, w2, t1, t2, l1, _⟩ := CL hr
 have h36 := AZ hr
 have m1 := Int.emod_nonneg c (show W + 1 ≠ 0 by omega)
 have m2 := Int.emod_lt_of_pos c (show 0 < W + 1 by omega)
 have m3 := Int.ediv_nonneg h0 (show 0 ≤ W + 1 by omega)
 have m4 := Int.ediv_le_self (W + 1) h0
 have hs := @dN W T cs c h0
 have c1 := LD W T cs (c % (W + 1) - 1) (c / (W + 1) - 1) hr (by omega) (by omega)
 have c2 := LD W T cs (c % (W + 1)) (c / (W + 1) - 1) hr (by omega) (by omega)
 have c3 := LD W T cs (c % (W + 1) - 1) (c / (W + 1)) hr (by omega) (by omega)
 have c4 := LD W T cs (c % (W + 1)) (c / (W + 1)) hr (by omega) (by omega)
 have hsw := @ZL W T c w1
 have hsd : swI W c = (c / (W + 1) - 1) * W + c % (W + 1) - 1 := rfl
 unfold sqB at *
 have w0 : 1 ≤ W + 1 := by omega
 refine AE (md := md5) (ms := [false, false]) UG (by simp) ?_
 simp [Mv, h0, w0]
 generalize c % (W + 1) = x at *
 generalize c / (W + 1) = y at *
 refine ⟨by omega, by omega, by omega, by omega, ?_⟩
 refine AA c1 ?_
 cases b1 : aC W T cs (x - 1) (y - 1) with
 | false => simp
 | true =>
 simp
 refine ⟨by omega, ?_⟩
 refine AA c2 ?_
 cases b2 : aC W T cs x (y - 1) with
 | false => simp
 | true =>
 simp
 refine ⟨by omega, ?_⟩
 refine AA c3 ?_
 cases b3 : aC W T cs (x - 1) y with
 | false => simp
 | true =>
 simp
 refine AA c4 ?_
 cases b4 : aC W T cs x y with
 | false => simp
 | true =>
 have hm := hsw (hs (by simp [b1, b2, b3, b4]))
 rw [hsd] at hm
 rw [hsd]
 simp
 generalize (y - 1) * W = z at *
 (repeat' first | omega | rfl | apply And.intro)
theorem dP {W T c : Int} (w1 : 1 ≤ W) (t1 : 1 ≤ T) (h : VO W T c = true) : 0 ≤ c ∧ c ≤ eE W T - 1 := by
 simp only [VO, decide_eq_true_eq] at h
 refine ⟨h.1, ?_⟩
 have e := Int.mul_ediv_add_emod c (W + 1)
 have m2 := Int.emod_lt_of_pos c (show 0 < W + 1 by omega)
 have h2 : (W + 1) * (c / (W + 1)) ≤ (W + 1) * T := Int.mul_le_mul_of_nonneg_left (by omega) (by omega)
 unfold eE
 rw [Int.mul_add, Int.mul_one]
 omega
theorem gY {W T : Int} {cs : List Bool} {ls : List Int} {c : Int} (hr : A0 W T cs = true) (hy : AO W T cs ls = true) (h0 : 0 ≤ c) :
  (sqB W T cs c && (RQ W ls c || upB W ls c)) = Fv W T ls c := by
 obtain ⟨w1, w2, t1, t2, l1, _⟩ := CL hr
 cases hf : Fv W T ls c with
 | true =>
   obtain ⟨⟨a1, a2, a3, a4⟩, _⟩ := dL hr hy hf
   have hf2 := hf
   simp only [Fv, Bool.and_eq_true] at hf2
   obtain ⟨x, y, x0, x1, y0, y1, e, ex, ey⟩ := YL w1 hf2.1
   have hm : (y + 1) * W = y * W + W := by rw [Int.add_mul, Int.one_mul]
   rw [e] at a1 a2 a3 a4
   rw [hf2.2, Bool.and_true]
   simp only [sqB, aC, ex, ey, Bool.and_eq_true, decide_eq_true_eq]
   refine ⟨⟨⟨⟨by omega, by omega, ?_⟩, by omega, by omega, ?_⟩, by omega, by omega, ?_⟩, by omega, by omega, ?_⟩
   ·rw [show (y + 1 - 1) * W + (x + 1 - 1) = y * W + x by rw [show y + 1 - 1 = y by omega]; omega]; exact a1
   ·rw [show (y + 1 - 1) * W + (x + 1) = y * W + x + 1 by rw [show y + 1 - 1 = y by omega]; omega]; exact a2
   ·rw [show (y + 1) * W + (x + 1 - 1) = y * W + x + W by omega]; exact a3
   ·rw [show (y + 1) * W + (x + 1) = y * W + x + W + 1 by omega]; exact a4
 | false =>
   cases hs : sqB W T cs c with
   | false => rfl
   | true =>
     have hm := dN h0 hs
     simp only [Fv, hm, Bool.true_and] at hf
     simp [hf]
def lq (W T : Int) (cs : List Bool) (ls : List Int) (c : Int) : Bool := (A0 W T cs && AO W T cs ls) && Fv W T ls c
theorem VP (W T : Int) (cs : List Bool) (ls : List Int) (c : Int) (hb : cs.length < 2 ^ 40) (hl : ls.length < 2 ^ 40) :
  SoundAt Tryz.prog OJ [.agg [.v (.int .i64 W), .v (.int .i64 T), .sl 1 1 (AC cs)], .sl 1 1 (AB ls), .v (.int .i64 c)] (.v (.bool (lq W T cs ls c))) [.bot, .bot, .bot] := by
 refine AE (md := md5) (ms := [false, false, false]) VL (by simp) ?_
 simp [OK]
 refine AA (BV W T cs ls hb hl) ?_
 unfold lq
 cases hq : (A0 W T cs && AO W T cs ls) with
 | false => simp
 | true =>
 simp only [Bool.and_eq_true] at hq
 obtain ⟨hr, hy⟩ := hq
 obtain ⟨w1, w2, t1, t2, l1, _⟩ := CL hr
 have h36 := AZ hr
 have hlen := Ao hy
 have hc := dM w1 w2 t1 t2
 have cm := RS W T cs hb
 rw [if_pos hr] at cm
 simp
 refine AA cm ?_
 simp
 refine ⟨by omega, ?_⟩
 by_cases hin : 0 ≤ c ∧ c ≤ eE W T - 1
 case neg =>
  have hf : Fv W T ls c = false := by
   cases hf : Fv W T ls c with
   | false => rfl
   | true =>
     simp only [Fv, Bool.and_eq_true] at hf
     exact absurd (dP w1 t1 hf.1) hin
  refine AA (EL (x := c) (lo := 0) (hi := eE W T - 1) hin) ?_
  simp [hf]
 refine AA (C6 (x := c) (lo := 0) (hi := eE W T - 1) hin) ?_
 simp
 have sq := My W T cs c hr hin.1 (by omega)
 have me := gY (c := c) hr hy hin.1
 cases hs : sqB W T cs c with
 | false =>
   have hff : Fv W T ls c = false := by rw [← me, hs]; rfl
   rw [if_neg (by rw [hs]; decide)] at sq
   refine AA sq ?_
   simp [hff]
 | true =>
   have hff : Fv W T ls c = (RQ W ls c || upB W ls c) := by rw [← me, hs]; rfl
   rw [if_pos hs] at sq
   have hm := ZL w1 (dN hin.1 hs)
   rw [hff]
   refine AA sq ?_
   have q0 := hm.1
   have q1 : swI W c < ls.length := by omega
   have q2 : 0 ≤ swI W c + W := by omega
   have q3 : swI W c + W < ls.length := by omega
   have q4 : 0 ≤ swI W c + 1 := by omega
   have q5 : swI W c + 1 < ls.length := by omega
   unfold RQ upB
   by_cases e1 : ati ls (swI W c) = 1
   ·have e2 : ¬ ati ls (swI W c) = 2 := by omega
    simp [q0, q1, q2, q3, q4, q5, e1, e2]
   ·by_cases e2 : ati ls (swI W c) = 2
    ·simp [q0, q1, q2, q3, q4, q5, e1, e2]
     by_cases e3 : ati ls (swI W c + 1) = 2 <;> simp [e3]
    ·simp [q0, q1, q2, q3, q4, q5, e1, e2]
theorem dQ {ls : List Int} {a W : Int} (h0 : 0 ≤ a) (hW : 2 ≤ W) (p q r s : Int) : (((ls.set a.toNat p).set (a + W).toNat r).set (a + 1).toNat q).set (a + W + 1).toNat s = RR ls a W p q r s := by
 unfold RR
 rw [List.set_comm _ _ (show (a + W).toNat ≠ (a + 1).toNat by omega)]
def jQ (W T : Int) (cs : List Bool) (ls : List Int) (c : Int) : List Int := if (A0 W T cs && AO W T cs ls) = true then HA W T ls c else []
set_option maxHeartbeats 1000000 in
theorem VQ (W T : Int) (cs : List Bool) (ls : List Int) (c : Int) (hb : cs.length < 2 ^ 40) (hl : ls.length < 2 ^ 40) :
  SoundAt Tryz.prog OL [.agg [.v (.int .i64 W), .v (.int .i64 T), .sl 1 1 (AC cs)], .sl 1 1 (AB ls), .v (.int .i64 c)]
   (.tup [.os 1 (AB (jQ W T cs ls c)), .v (.bool (lq W T cs ls c))]) [.bot, .bot, .bot] := by
 refine AE (md := md5) (ms := [false, false, false]) VM (by simp) ?_
 simp [OM]
 refine AA (BV W T cs ls hb hl) ?_
 have may := VP W T cs ls c hb hl
 unfold lq jQ at *
 cases hq : (A0 W T cs && AO W T cs ls) with
 | false => simp
 | true =>
 rw [hq] at may
 rw [if_pos rfl]
 simp only [Bool.and_eq_true] at hq
 obtain ⟨hr, hy⟩ := hq
 obtain ⟨w1, w2, t1, t2, l1, _⟩ := CL hr
 have h36 := AZ hr
 have hlen := Ao hy
 simp
 refine ⟨by omega, ?_⟩
 cases hf : Fv W T ls c with
 | false =>
   rw [hf] at may
   refine AA may ?_
   have e : HA W T ls c = ls := by unfold HA; rw [hf]; rfl
   simp [e]
 | true =>
   rw [hf] at may
   refine AA may ?_
   have hf2 := hf
   simp only [Fv, Bool.and_eq_true] at hf2
   have hW2 : 2 ≤ W := by
    obtain ⟨x, y, x0, x1, _⟩ := YL w1 hf2.1
    omega
   have hc0 := (dP w1 t1 hf2.1)
   have hcor := dM w1 w2 t1 t2
   have me := gY (c := c) hr hy hc0.1
   rw [hf] at me
   have hs : sqB W T cs c = true := by
    simp only [Bool.and_eq_true] at me
    exact me.1
   have sq := My W T cs c hr hc0.1 (by omega)
   rw [if_pos hs] at sq
   have hm := ZL w1 hf2.1
   have q0 := hm.1
   have q1 : swI W c < ls.length := by omega
   have q2 : 0 ≤ swI W c + W := by omega
   have q3 : swI W c + W < ls.length := by omega
   have q4 : 0 ≤ swI W c + 1 := by omega
   have q5 : swI W c + 1 < ls.length := by omega
   have q6 : 0 ≤ swI W c + W + 1 := by omega
   have q7 : swI W c + W + 1 < ls.length := by omega
   simp
   refine AA sq ?_
   by_cases hF : RQ W ls c = true
   ·have e : HA W T ls c = RR ls (swI W c) W 2 2 4 4 := by unfold HA; rw [if_pos hf, if_pos hF]
    have hF2 := hF
    simp only [RQ, Bool.and_eq_true, decide_eq_true_eq] at hF2
    have ht : (AB (RR ls (swI W c) W 2 2 4 4)).take ls.length = AB (RR ls (swI W c) W 2 2 4 4) := List.take_of_length_le (by simp [DE])
    unfold RR at ht e
    simp [q0, q1, q2, q3, q4, q5, q6, q7, hF2.1, EJ, e, ht]
   ·have e : HA W T ls c = RR ls (swI W c) W 1 3 1 3 := by unfold HA; rw [if_pos hf, if_neg hF]
    have hU : upB W ls c = true := by
     have := hf2.2
     simp only [Bool.or_eq_true] at this
     exact this.resolve_left hF
    simp only [upB, Bool.and_eq_true, decide_eq_true_eq] at hU
    have hn1 : ¬ ati ls (swI W c) = 1 := by omega
    have ht : (AB (RR ls (swI W c) W 1 3 1 3)).take ls.length = AB (RR ls (swI W c) W 1 3 1 3) := List.take_of_length_le (by simp [DE])
    have e4 := dQ (ls := ls) q0 hW2 1 3 1 3
    simp [q0, q1, q2, q3, q4, q5, q6, q7, hU.1, hn1, EJ, e, e4, ht, DE]
def F9 : BCode := .seq (.base (.reg [.o 2 .box [.t 0], .o 4 (.alloc [.v (.int .i64 (0)), .v (.int .i64 (0)), .v (.int .i64 (0)), .v (.int .i64 (0))]) [], .o 5 .mv [.kb false]])) <| .seq (.calm [(false, .m 9 1), (false, .f 10 0 2), (false, .l 11 10), (false, .o 12 (.bin .add 0) [.t 11, .k 1]), (true, .o 13 (.bin .rem 0) [.t 9, .t 12]), (false, .m 14 1), (false, .f 15 0 2), (false, .l 16 15), (false, .o 17 (.bin .add 0) [.t 16, .k 1]), (true, .o 18 (.bin .quo 0) [.t 14, .t 17]), (false, .m 6 13), (false, .m 7 18)]) <| .base (Ap)
theorem Mz : iv Tryz.prog Ef 59 [.c 4 true 4, .t 5] F9 := ⟨Tryz.f238, _, Tryz.func238, rfl, by kernel_rfl, by kernel_rfl, by kernel_rfl, by kernel_rfl⟩
@[simp] abbrev Jj : Nat := 60
abbrev FI : Plan := .take (.o 41 (.iadr 1) [.t 37, .t 38]) <| .al (.s (.store 1) [.t 41, .t 40]) ( .done)
def Cb : ACode := .seq (.reg [.o 32 (.bin .lss 0) [.t 31, .t 30]]) <| .seq (.cond (.t 32) ( .skip) ( .exit 0)) <| .seq (.block 1 ( .seq (.reg [.m 33 31, .o 34 (.iadr 1) [.t 29, .t 31], .l 35 34, .m 4 33, .m 5 35]) <| .draw ( .take (.f 36 5 3) <| .take (.m 38 4) <| .take (.m 39 5) <| .alt (.l 37 36) ( .al (.o 40 (.call 126 []) [.t 39]) FI) <| .al (.o 40 (.call 126 []) [.t 39]) ( .al (.l 37 36) FI)))) <| .reg [.o 42 (.bin .add 0) [.t 31, .k 1], .m 31 42]
def G3 : ACode := .seq (.seq (.reg [.f 28 5 1, .l 29 28, .n 30 29, .o 31 .mv [.k 0]]) <| .block 0 ( .loop [(29, 1)] [2, 3, 29, 30, 31] Cb)) <| .seq (.reg [.la 43 6 3, .s (.store 6) [.t 2, .t 43]]) <| .ret
abbrev DF : Plan := .take (.o 27 (.build bz [(0, 3), (3, 1), (4, 1), (5, 1)]) [.t 16, .t 19, .t 22, .t 26]) <| .al (.s (.store 6) [.t 3, .t 27]) ( .done)
abbrev Bx : Plan := .al (.o 22 (.call 126 []) [.t 21]) DF
abbrev DG : Plan := .alt (.o 22 (.call 126 []) [.t 21]) ( .take (.o 27 (.build bz [(0, 3), (3, 1), (4, 1), (5, 1)]) [.t 16, .t 19, .t 22, .t 26]) <| .al (.o 3 (.alloc bz) []) ( .al (.s (.store 6) [.t 3, .t 27]) ( .done))) <| .al (.o 3 (.alloc bz) []) Bx
abbrev DH : Plan := .alt (.o 22 (.call 126 []) [.t 21]) ( .al (.o 26 (.mksl 1 24 (.os 1 [])) [.t 25, .t 25]) DF) <| .al (.o 26 (.mksl 1 24 (.os 1 [])) [.t 25, .t 25]) Bx
abbrev Bz : Plan := .al (.o 19 (.call 126 []) [.t 18]) Bx
abbrev Fi : Plan := .al (.o 15 (.call 125 []) [.t 14]) ( .take (.o 16 (.build rz [(0, 1), (1, 1), (2, 1)]) [.t 8, .t 11, .t 15]) <| .al (.o 19 (.call 126 []) [.t 18]) Bx)
def HO : BCode := .seq (.base (.reg [.o 1 .box [.t 0], .o 2 (.alloc bz) []])) <| .frz 1 <| .seq (.early [.f 6 0 1, .f 7 0 6, .l 8 7, .f 9 0 1, .f 10 1 9, .l 11 10, .f 12 0 1, .f 13 2 12, .l 14 13, .f 17 3 1, .l 18 17, .f 20 4 1, .l 21 20, .f 23 5 1, .l 24 23, .n 25 24] ( .alt (.o 15 (.call 125 []) [.t 14]) ( .take (.o 16 (.build rz [(0, 1), (1, 1), (2, 1)]) [.t 8, .t 11, .t 15]) <| .alt (.o 19 (.call 126 []) [.t 18]) ( .alt (.o 22 (.call 126 []) [.t 21]) ( .alt (.o 26 (.mksl 1 24 (.os 1 [])) [.t 25, .t 25]) ( .take (.o 27 (.build bz [(0, 3), (3, 1), (4, 1), (5, 1)]) [.t 16, .t 19, .t 22, .t 26]) <| .al (.o 3 (.alloc bz) []) ( .al (.s (.store 6) [.t 3, .t 27]) ( .done))) <| .al (.o 3 (.alloc bz) []) ( .al (.o 26 (.mksl 1 24 (.os 1 [])) [.t 25, .t 25]) DF)) <| .alt (.o 26 (.mksl 1 24 (.os 1 [])) [.t 25, .t 25]) DG <| .al (.o 3 (.alloc bz) []) DH) <| .alt (.o 26 (.mksl 1 24 (.os 1 [])) [.t 25, .t 25]) ( .alt (.o 19 (.call 126 []) [.t 18]) DG <| .al (.o 3 (.alloc bz) []) Bz) <| .al (.o 3 (.alloc bz) []) ( .alt (.o 19 (.call 126 []) [.t 18]) DH <| .al (.o 26 (.mksl 1 24 (.os 1 [])) [.t 25, .t 25]) Bz)) <| .alt (.o 26 (.mksl 1 24 (.os 1 [])) [.t 25, .t 25]) ( .alt (.o 15 (.call 125 []) [.t 14]) ( .take (.o 16 (.build rz [(0, 1), (1, 1), (2, 1)]) [.t 8, .t 11, .t 15]) <| .alt (.o 19 (.call 126 []) [.t 18]) DG <| .al (.o 3 (.alloc bz) []) Bz) <| .al (.o 3 (.alloc bz) []) Fi) <| .al (.o 3 (.alloc bz) []) ( .alt (.o 15 (.call 125 []) [.t 14]) ( .take (.o 16 (.build rz [(0, 1), (1, 1), (2, 1)]) [.t 8, .t 11, .t 15]) <| .alt (.o 19 (.call 126 []) [.t 18]) DH <| .al (.o 26 (.mksl 1 24 (.os 1 [])) [.t 25, .t 25]) Bz) <| .al (.o 26 (.mksl 1 24 (.os 1 [])) [.t 25, .t 25]) Fi))) <| .base (.gc [] [1, 2, 3] G3)
theorem Qa : iv Tryz.prog Jj 44 [.c 2 true 6] HO := ⟨Tryz.f60, _, Tryz.func60, rfl, by kernel_rfl, by kernel_rfl, by kernel_rfl, by kernel_rfl⟩
def arV (a b c d : Int) : AV := .agg [.v (.int .i64 a), .v (.int .i64 b), .v (.int .i64 c), .v (.int .i64 d)]
def arR (W T c : Int) : AV := if VO W T c = true then .tup [arV (swI W c) (swI W c + 1) (swI W c + W) (swI W c + W + 1), .v (.bool true)] else .tup [arV 0 0 0 0, .v (.bool false)]
theorem HP (W T : Int) (cs : List Bool) (c : Int) (hr : A0 W T cs = true) (h1 : c ≤ 9223372036854775807) :
  SoundAt Tryz.prog Ef [.agg [.v (.int .i64 W), .v (.int .i64 T), .sl 1 1 (AC cs)], .v (.int .i64 c)] (arR W T c) [.bot, .bot] := by
 obtain ⟨w1, w2, t1, t2, l1, _⟩ := CL hr
 have h36 := AZ hr
 have w0 : 1 ≤ W + 1 := by omega
 by_cases h0 : 0 ≤ c
 case neg =>
  have hm : VO W T c = false := by simp [VO]; omega
  have hc : c < 0 := by omega
  refine Xz (md := md0) (ms := [false, false]) Mz (by simp) ?_
  simp [F9]
  refine ⟨by omega, ?_⟩
  refine Z1 (.inr rfl) ?_
  simp [fH, w0]
  refine ⟨by omega, ?_⟩
  refine Z1 (.inl rfl) ?_
  simp [fH, w0, Ap, hc, arR, hm, arV]
 have m1 := Int.emod_nonneg c (show W + 1 ≠ 0 by omega)
 have m2 := Int.emod_lt_of_pos c (show 0 < W + 1 by omega)
 have m3 := Int.ediv_nonneg h0 (show 0 ≤ W + 1 by omega)
 have m4 := Int.ediv_le_self (W + 1) h0
 refine AE (md := md0) (ms := [false, false]) Ni (by simp) ?_
 have hsw := @ZL W T c w1
 have hsd : swI W c = (c / (W + 1) - 1) * W + c % (W + 1) - 1 := rfl
 have hc : ¬ c < 0 := by omega
 by_cases hx : 1 ≤ c % (W + 1) ∧ c % (W + 1) ≤ W - 1
 case neg =>
  have hm : VO W T c = false := by simp [VO]; omega
  simp [Co, h0, w0]
  (repeat' first | omega | apply And.intro) <;>
  ·simp [Ap, hc]
   refine ⟨by omega, ?_⟩
   refine AA (D0 (x := c % (W + 1)) (lo := 1) (hi := W - 1) hx) ?_
   simp [arR, hm, arV]
 by_cases hy : 1 ≤ c / (W + 1) ∧ c / (W + 1) ≤ T - 1
 case neg =>
  have hm : VO W T c = false := by simp [VO]; omega
  simp [Co, h0, w0]
  (repeat' first | omega | apply And.intro) <;>
  ·simp [Ap, hc]
   refine ⟨by omega, ?_⟩
   refine AA (A7 (x := c % (W + 1)) (lo := 1) (hi := W - 1) hx) ?_
   simp
   refine ⟨by omega, ?_⟩
   refine AA (D0 (x := c / (W + 1)) (lo := 1) (hi := T - 1) hy) ?_
   simp [arR, hm, arV]
 have hm : VO W T c = true := by simp [VO]; omega
 have hs := hsw hm
 have hz : swI W c = (c / (W + 1) - 1) * W + c % (W + 1) - 1 := hsd
 rw [hz] at hs
 simp [Co, h0, w0]
 (repeat' first | omega | apply And.intro) <;>
 ·simp [Ap, hc]
  refine ⟨by omega, ?_⟩
  refine AA (A7 (x := c % (W + 1)) (lo := 1) (hi := W - 1) hx) ?_
  simp
  refine ⟨by omega, ?_⟩
  refine AA (A7 (x := c / (W + 1)) (lo := 1) (hi := T - 1) hy) ?_
  simp [arR, hm, arV, hz]
  generalize (c / (W + 1) - 1) * W = z at *
  (repeat' first | omega | rfl | apply And.intro)
@[simp] theorem fV {P : Program} {md : Nat → List Bool} {K : ES → AH → Prop} {E : ES} {H : AH} {dst : Option Nat} {k : AK} {xs : List Opd} {s : Nat} {w : Bool} {os : List AOper} {p : Plan} :
  HS P md (⟨dst, k, xs, some (s, w)⟩ :: os) p K E H = (Xx ⟨dst, k, xs, some (s, w)⟩ E ∧ Fw P md ⟨dst, k, xs, some (s, w)⟩ s w (HS P md os p K) E H (get E s)) := (rfl)
set_option maxHeartbeats 4000000 in
theorem LE (W T : Int) (cs : List Bool) (ls : List Int) (c : Int) (hr : A0 W T cs = true) (hl : ls.length = cs.length) (h1 : c ≤ 9223372036854775807) :
  SoundAt Tryz.prog Fh [.agg [.v (.int .i64 W), .v (.int .i64 T), .sl 1 1 (AC cs)], .sl 1 1 (AB ls), .v (.int .i64 c)]
   (.tup [.v (.bool (VO W T c && RQ W ls c)), .v (.bool (VO W T c && upB W ls c))]) [.bot, .bot, .bot] := by
 obtain ⟨w1, w2, t1, t2, l1, _⟩ := CL hr
 have h36 := AZ hr
 have ar := HP W T cs c hr h1
 refine Xz (md := md0) (ms := [false, false, false]) LC (by simp) ?_
 simp [Et]
 refine AA ar ?_
 cases hm : VO W T c with
 | false => simp [arR, hm, arV]
 | true =>
   have hs := ZL w1 hm
   have q0 := hs.1
   have q1 : swI W c < ls.length := by omega
   have q2 : 0 ≤ swI W c + W := by omega
   have q3 : swI W c + W < ls.length := by omega
   have q4 : 0 ≤ swI W c + 1 := by omega
   have q5 : swI W c + 1 < ls.length := by omega
   simp [arR, hm, arV]
   refine X0 rfl rfl rfl ?_
   unfold RQ upB
   by_cases e1 : ati ls (swI W c) = 1
   ·have e2 : ¬ ati ls (swI W c) = 2 := by omega
    simp [q0, q1, q2, q3, q4, q5, e1, e2]
    by_cases e3 : ati ls (swI W c + W) = 1 <;> simp [e3]
   ·by_cases e2 : ati ls (swI W c) = 2
    ·simp [q0, q1, q2, q3, q4, q5, e1, e2]
     by_cases e3 : ati ls (swI W c + 1) = 2 <;> simp [e3]
    ·simp [q0, q1, q2, q3, q4, q5, e1, e2]
set_option maxHeartbeats 4000000 in
theorem Qb (W T : Int) (cs : List Bool) (ls : List Int) (c : Int) (hr : A0 W T cs = true) (hl : ls.length = cs.length) (h1 : c ≤ 9223372036854775807) :
  SoundAt Tryz.prog Ji [.agg [.v (.int .i64 W), .v (.int .i64 T), .sl 1 1 (AC cs)], .sl 1 1 (AB ls), .v (.int .i64 c)]
   (.tup [.os 1 (AB (HA W T ls c)), .v (.bool (Fv W T ls c))]) [.bot, .bot, .bot] := by
 obtain ⟨w1, w2, t1, t2, l1, _⟩ := CL hr
 have h36 := AZ hr
 have ar := HP W T cs c hr h1
 have fl := LE W T cs ls c hr hl h1
 refine Xz (md := md0) (ms := [false, false, false]) QZ (by simp) ?_
 simp [HN]
 refine AA (Ag ls (by omega)) ?_
 simp
 refine AA fl ?_
 simp
 refine AA ar ?_
 have htl : (AB ls).take ls.length = AB ls := AD ls
 cases hm : VO W T c with
 | false =>
   have e : HA W T ls c = ls := by simp [HA, Fv, hm]
   have e2 : Fv W T ls c = false := by simp [Fv, hm]
   simp [arR, hm, arV, e, e2]
   refine X0 rfl rfl rfl ?_
   simp [htl]
 | true =>
   have hs := ZL w1 hm
   have hW2 : 2 ≤ W := by
    obtain ⟨x, y, x0, x1, _⟩ := YL w1 hm
    omega
   have q0 := hs.1
   have q1 : swI W c < ls.length := by omega
   have q2 : 0 ≤ swI W c + W := by omega
   have q3 : swI W c + W < ls.length := by omega
   have q4 : 0 ≤ swI W c + 1 := by omega
   have q5 : swI W c + 1 < ls.length := by omega
   have q6 : 0 ≤ swI W c + W + 1 := by omega
   have q7 : swI W c + W + 1 < ls.length := by omega
   simp [arR, hm, arV]
   refine X0 rfl rfl rfl ?_
   cases hF : RQ W ls c with
   | true =>
     have e2 : Fv W T ls c = true := by simp [Fv, hm, hF]
     have e : HA W T ls c = RR ls (swI W c) W 2 2 4 4 := by unfold HA; rw [if_pos e2, if_pos hF]
     have ht : (AB (RR ls (swI W c) W 2 2 4 4)).take ls.length = AB (RR ls (swI W c) W 2 2 4 4) := List.take_of_length_le (by simp [DE])
     have hlen := DE ls (swI W c) W 2 2 4 4
     rw [e, e2]
     unfold RR at *
     simp [q0, q1, q2, q3, q4, q5, q6, q7, EJ, ht]
   | false =>
     cases hU : upB W ls c with
     | true =>
       have e2 : Fv W T ls c = true := by simp [Fv, hm, hU]
       have e : HA W T ls c = RR ls (swI W c) W 1 3 1 3 := by unfold HA; rw [if_pos e2, if_neg (by rw [hF]; decide)]
       have ht : (AB (RR ls (swI W c) W 1 3 1 3)).take ls.length = AB (RR ls (swI W c) W 1 3 1 3) := List.take_of_length_le (by simp [DE])
       rw [e, e2]
       unfold RR at *
       simp [q0, q1, q2, q3, q4, q5, q6, q7, EJ, ht]
     | false =>
       have e2 : Fv W T ls c = false := by simp [Fv, hF, hU]
       have e : HA W T ls c = ls := by simp [HA, e2]
       rw [e, e2]
       simp [htl]
theorem VR (W T : Int) (cs : List Bool) (ls : List Int) (k : Nat) (hr : A0 W T cs = true) (hy : AO W T cs ls = true) (hk : k < ls.length) :
  SoundAt Tryz.prog Gg [.agg [.v (.int .i64 W), .v (.int .i64 T), .sl 1 1 (AC cs)], .sl 1 1 (AB ls), .v (.int .i64 k)]
   (if ati ls k = 0 then .tup [.os 1 (AB ls), .v (.bool false)] else .tup [.os 1 (AB (K9 W T ls k)), .v (.bool true)]) [.bot, .bot, .bot] := by
 refine AE (md := md5) (ms := [false, false, false]) OI (by simp) ?_
 have h36 := AZ hr
 have hl := Ao hy
 simp [J4]
 refine AA (BV W T cs ls (by omega) (by omega)) ?_
 simp [hr, hy]
 refine ⟨by omega, by omega, ?_⟩
 refine AA (C6 (x := k) (lo := 0) (hi := (ls.length : Int) - 1) (by omega)) ?_
 by_cases hz : ati ls k = 0
 ·simp [hk, hz]
 obtain ⟨t, e, ht, htk, _⟩ := XD hr hy hk hz
 have eL : K9 W T ls k = (ls.set t 0).set k 0 := by unfold K9; rw [e]; simp
 rw [eL]
 have one := HW W T cs k (ati ls k) hr (by omega) (by omega)
 rw [e] at one
 simp [hk, hz]
 (repeat' first | assumption | omega | apply And.intro) <;>
 ·refine AA one ?_
  have htk2 : (AB ((ls.set t 0).set k 0)).take ls.length = AB ((ls.set t 0).set k 0) := List.take_of_length_le (by simp)
  simp [ht, hk, EJ, Ke, htk2]
theorem jR {us : List Value} (h : ∀ u ∈ us, u.oneCell' = true) : okL (J9 us) = true := by
 induction us with
 | nil => simp [J9]
 | cons u us ih =>
   have h1 := h u (by simp)
   have h2 := ih fun x hx => h x (by simp [hx])
   show (okE (.v u) && okL (J9 us)) = true
   rw [h2, Bool.and_true]
   exact h1
@[simp] theorem mr (us : List Value) : (J9 us).take us.length = J9 us := List.take_of_length_le (by simp)
theorem Nj (us : List Value) (hn : us.length < 2 ^ 40) (h1 : ∀ u ∈ us, u.oneCell' = true) :
  SoundAt Tryz.prog E3 [.sl 0 1 (J9 us)] (.os 1 (J9 us)) [.bot] := by
 refine AE (md := md3) (ms := [false]) Ox (by simp) ?_
 simp [IK]
 simp [jR h1]
 refine ⟨fun _ => by omega, fun e => ⟨by omega, by rw [e]; rfl⟩⟩
theorem RT (us : List Value) : SoundAt Tryz.prog Ff [.os 1 (J9 us)] (.os 1 (J9 us)) [.bot] := by
 refine AE (md := md3) (ms := [false]) Jd (by simp) ?_
 simp [Fg]
theorem fW (us : List Value) : noVL (J9 us) = true := by
 induction us with
 | nil => rfl
 | cons u us ih => show (noV (.v u) && noVL (J9 us)) = true; rw [ih]; rfl
theorem Qd (us : List Value) (hn : us.length < 2 ^ 40) (h1 : ∀ u ∈ us, u.oneCell' = true) :
  SoundAt Tryz.prog E3 [.sl 1 1 (J9 us)] (.os 1 (J9 us)) [.bot] := by
 refine SoundAt.lift (n := 1) (fun C S us hr => noOL_ok _ S us rfl hr) (by simp [noV, fW]) ?_
 have := Nj us hn h1
 simpa [vwL, vw, T5] using this
theorem SS (us : List Value) (hn : us.length < 2 ^ 40) (h1 : ∀ u ∈ us, u.oneCell' = true) :
  SoundAt Tryz.prog KT [.sl 1 1 (J9 us)] (.os 1 (J9 us)) [.bot] := by
 refine AE (md := md3) (ms := [false]) RP (by simp) ?_
 simp [KU]
 refine AA (Qd us hn h1) ?_
 simp [T5]
 refine AA (RT us) ?_
 simp
def XH (d : Int × Int × Int) : Bool :=
 if d.1 = 0 then true else if d.1 = 1 ∨ d.1 = 2 then decide (d.2.2 = 0) else if d.1 = 3 ∨ d.1 = 4 then decide (d.2.1 = 0 ∧ d.2.2 = 0) else false
theorem RU (d : Int × Int × Int) : SoundAt Tryz.prog GY [A8 d] (.v (.bool (XH d))) [.bot] := by
 obtain ⟨k, s, w⟩ := d
 refine AE (md := md3) (ms := [false]) Ki (by simp [A8]) ?_
 by_cases h0 : k = 0 <;> by_cases h1 : k = 1 <;> by_cases h2 : k = 2 <;> by_cases h3 : k = 3 <;> by_cases h4 : k = 4 <;> by_cases hs : s = 0 <;> by_cases hw : w = 0 <;> first | (exfalso; omega) | (simp [GZ, A8, XH, h0, h1, h2, h3, h4, hs, hw])
theorem UH (d : Int × Int × Int) : SoundAt Tryz.prog Ie [A8 d] (.v (.bool (XH d))) [.bot] := by
 obtain ⟨k, s, w⟩ := d
 refine AE (md := md3) (ms := [false]) Mx (by simp [A8]) ?_
 by_cases h0 : k = 0 <;> by_cases h1 : k = 1 <;> by_cases h2 : k = 2 <;> by_cases h3 : k = 3 <;> by_cases h4 : k = 4 <;> by_cases hs : s = 0 <;> by_cases hw : w = 0 <;> first | (exfalso; omega) | (simp [Ig, A8, XH, h0, h1, h2, h3, h4, hs, hw])
theorem SoundAt.none0 {P : Program} {f n : Nat} {avs : List AV} {x : Value} (h : SoundAt P f avs (.tup [.os 1 [], .v x]) (List.replicate n .bot)) : SoundAt P f avs (.tup [.sl 0 1 [], .v x]) (List.replicate n .bot) := by
 intro w forb us S hr hnd hsz hforb
 refine Calls.mono (h w forb us S hr hnd hsz hforb) ?_
 rintro e w' ⟨v, S', he, hv, hnd', hmem, hk⟩
 rw [RL] at hv
 obtain ⟨S1, S2, u, us', rfl, hu, h1, h2⟩ := hv
 cases hu
 obtain ⟨rfl, h4⟩ := Yq n h2
 refine ⟨v, [], he, ?_, List.nodup_nil, by simp, hk⟩
 rw [RL]
 refine ⟨[], [], v, us, rfl, rfl, ?_, h4 _⟩
 rw [R] at h1 ⊢
 obtain ⟨vs, hvs, h1⟩ := h1
 refine ⟨vs, hvs, ?_⟩
 rw [RL] at h1 ⊢
 obtain ⟨A1, A2, u1, us1, _, rfl, a1, a2⟩ := h1
 rw [RL] at a2
 obtain ⟨A3, A4, u2, us2, _, rfl, a3, a4⟩ := a2
 rw [RL] at a4
 obtain ⟨_, rfl⟩ := a4
 refine ⟨[], [], u1, [u2], rfl, rfl, ?_, ?_⟩
 ·rw [R] at a1
  obtain ⟨a, cap, h5, h6, _⟩ := a1
  show R (Xc w' [] forb) (.sl 0 1 []) [] u1
  rw [R]
  exact ⟨rfl, a, cap, h5, h6, .inl rfl⟩
 ·rw [RL]
  refine ⟨[], [], u2, [], rfl, rfl, ?_, by rw [RL]; exact ⟨rfl, rfl⟩⟩
  rw [R] at a3
  rw [R]
  exact ⟨rfl, a3.2⟩
def XS (W T : Int) (cs : List Bool) (ds ls : List Int) : List Int := (BL W T cs ds ls).getD []
def bD (W T : Int) (cs : List Bool) (ds ls : List Int) : Bool := (BL W T cs ds ls).isSome
theorem Qe (W T : Int) (cs : List Bool) (ds ls : List Int) (hb : cs.length < 2 ^ 40) (hd : ds.length < 2 ^ 40) (hl : ls.length < 2 ^ 40) :
  SoundAt Tryz.prog GW [.agg [.v (.int .i64 W), .v (.int .i64 T), .sl 1 1 (AC cs)], .sl 1 1 (AB ds), .sl 1 1 (AB ls)] (.tup [.sl 0 1 (AB (XS W T cs ds ls)), .v (.bool (bD W T cs ds ls))]) [.bot, .bot, .bot] := by
 have h := Kd W T cs ds ls hb hd hl
 cases hx : BL W T cs ds ls with
 | none =>
   rw [hx] at h
   simp only [XS, bD, hx]
   exact SoundAt.none0 (n := 3) h
 | some x =>
   rw [hx] at h
   simp only [XS, bD, hx]
   exact h
theorem ST (bs : List Int) (k : Int) (h0 : 0 ≤ k) (h1 : k < 2 ^ 60) (hb : bs.length < 2 ^ 40) :
  SoundAt Tryz.prog Hs [.os 1 (AB bs), .v (.int .i64 k)] (.v (.int .i64 (k + bs.length))) [.os 1 (AB (A9 bs.length k)), .bot] := by
 refine AE (md := md0) (ms := [true, false]) MM (by simp) ?_
 simp [Ht]
 refine AF (fun m E H => ∃ i : Nat, m = bs.length - i ∧ i ≤ bs.length ∧ H = [some (.arr 1 (AB (A9 i k ++ bs.drop i)))] ∧ E = [(0, .ls 1 0 0 bs.length), (1, .v (.int .i64 (k + i))), (5, .v (.int .i64 i)), (19, .ls 1 0 0 bs.length)]) bs.length ⟨0, by simp [A9]⟩ ?_
 rintro J hJ m E H ⟨i, rfl, hi, rfl, rfl⟩
 simp [FQ]
 refine ⟨fun h => ?_, fun h => ?_⟩
 ·simp [h]
  have e : (AB (A9 i k ++ bs.drop i)).set i (.v (.int .i64 (k + i))) = AB (A9 (i + 1) k ++ bs.drop (i + 1)) := by
   rw [EJ, Tj _ _ _ _ (by simp [A9]) h, A9, A9, List.range_succ, List.map_append]; rfl
  simp [A9] at e ⊢
  refine ⟨by omega, by omega, by omega, _, ?_, hJ _ _ _ ⟨i + 1, rfl, h, ?_, ?_⟩⟩
  ·omega
  ·simp [A9, e]
  ·simp; omega
 ·have : i = bs.length := by omega
  subst this
  simp [A9]
theorem SU (n : Nat) (k : Int) (h0 : 0 ≤ k) (h1 : k < 2 ^ 60) (hb : n < 2 ^ 40) :
  SoundAt Tryz.prog Hu [.sl 1 1 (AB (A9 n k)), .v (.int .i64 k)] (.v (.int .i64 (k + n))) [.bot, .bot] := by
 refine AE (md := md0) (ms := [false, false]) MN (by simp) ?_
 simp [Hv]
 refine AF (fun m E H => ∃ i : Nat, m = n - i ∧ i ≤ n ∧ H = [] ∧ E = [(0, .sl 1 1 (AB (A9 n k))), (1, .v (.int .i64 (k + i))), (5, .v (.int .i64 i))]) n ⟨0, by simp⟩ ?_
 rintro J hJ m E H ⟨i, rfl, hi, rfl, rfl⟩
 simp [FR, FS]
 refine ⟨fun h => ?_, fun h => ?_⟩
 ·have e : ati (A9 n k) i = k + i := by simp [ati, A9, h]
  have hl := FS n k
  simp [e, h]
  refine ⟨by omega, by omega, _, by omega, hJ _ _ _ ⟨i + 1, rfl, h, rfl, ?_⟩⟩
  simp; omega
 ·have : i = n := by omega
  subst this
  simp
@[simp] theorem gZ (c : Nat) (ps : List (List Int)) : (sls c ps).take ps.length = sls c ps := List.take_of_length_le (by simp)
def BM : Int → List (List Int) → List (List Int)
 | _, [] => []
 | k, p :: ps => A9 p.length k :: BM (k + p.length) ps
theorem dR (p : List Int) (ps : List (List Int)) : EM (p :: ps) = p.length + EM ps := by simp [EM]
theorem J6 : ∀ (k : Int) (a b : List (List Int)), BM k (a ++ b) = BM k a ++ BM (k + EM a) b
 | k, [], b => by simp [BM, EM]
 | k, p :: a, b => by
   rw [List.cons_append, BM, BM, J6, dR, List.cons_append, show k + (p.length : Int) + (EM a : Int) = k + ((p.length + EM a : Nat) : Int) by omega]
@[simp] theorem VS : ∀ (k : Int) (a : List (List Int)), (BM k a).length = a.length
  | k, [] => by simp [BM]
  | k, p :: a => by simp [BM, VS]
@[simp] theorem ga (k : Int) (ps : List (List Int)) : (oss (BM k ps)).take ps.length = oss (BM k ps) := List.take_of_length_le (by simp)
theorem YM {ps : List (List Int)} {i : Nat} (k : Int) (h : i < ps.length) : BM k (ps.take (i + 1)) = BM k (ps.take i) ++ [A9 (pti ps i).length (k + EM (ps.take i))] := by
 rw [List.take_succ_eq_append_getElem h, J6, D7 h]
 rfl
theorem bE {ps : List (List Int)} {i : Nat} (k : Int) (h : i < ps.length) : pti (BM k ps) i = A9 (pti ps i).length (k + EM (ps.take i)) := by
 have e : BM k ps = BM k (ps.take i) ++ BM (k + EM (ps.take i)) (ps.drop i) := by
  rw [← J6, List.take_append_drop]
 have hl : (ps.take i).length = i := by simp; omega
 rw [e, cf, List.getD_eq_getElem?_getD, List.getElem?_append_right (by simp [hl]), List.drop_eq_getElem_cons h]
 simp [hl, BM, D7 h]
theorem SV (ps : List (List Int)) (k : Int) (h0 : 0 ≤ k) (h1 : k + EM ps < 2 ^ 60) (hb : ps.length < 2 ^ 40) (hp : ∀ p ∈ ps, p.length < 2 ^ 40) :
  SoundAt Tryz.prog Le [.os 1 (oss ps), .v (.int .i64 k)] (.v (.int .i64 (k + EM ps))) [.os 1 (oss (BM k ps)), .bot] := by
 refine AE (md := md0) (ms := [true, false]) SP (by simp) ?_
 simp [Lf]
 refine AF (fun m E H => ∃ i : Nat, m = ps.length - i ∧ i ≤ ps.length ∧ H = [some (.arr 1 (oss (BM k (ps.take i) ++ ps.drop i)))] ∧
  E = [(0, .ls 1 0 0 ps.length), (1, .v (.int .i64 (k + EM (ps.take i)))), (5, .v (.int .i64 i)), (19, .ls 1 0 0 ps.length)]) ps.length ⟨0, by simp [BM, EM]⟩ ?_
 rintro J hJ m E H ⟨i, rfl, hi, rfl, rfl⟩
 by_cases h : i < ps.length
 case neg =>
  have : i = ps.length := by omega
  subst this
  simp [E5]
 have hs := QC h
 have hle := Ww (ps := ps) (i := i + 1)
 have hpl := hp _ (K3 h)
 have hX : (BM k (ps.take i)).length = i := by simp; omega
 have hget : (oss (BM k (ps.take i) ++ ps.drop i))[i]? = some (.os 1 (AB (pti ps i))) := by
  unfold oss
  rw [List.getElem?_map, List.getElem?_append_right (by omega), hX, Nat.sub_self, List.drop_eq_getElem_cons h, D7 h]
  rfl
 simp [E5, h]
 refine TI rfl rfl (by simpa using hget) ?_
 intro u
 simp [Od]
 refine AA (ST (pti ps i) (k + EM (ps.take i)) (by omega) (by omega) hpl) ?_
 simp
 refine ⟨15, u, 0, i, _, 1, 1, _, rfl, rfl, rfl, List.getElem?_set_self (by simp; omega), by simp, rfl, by decide, ?_⟩
 simp [eY]
 have e1 : (oss (BM k (ps.take i) ++ ps.drop i)).set i (.os 1 (AB (A9 (pti ps i).length (k + EM (ps.take i))))) = oss (BM k (ps.take (i + 1)) ++ ps.drop (i + 1)) := by
  rw [cd, Tj _ _ _ _ hX h, ← YM k h]
 rw [e1]
 refine ⟨by omega, _, by omega, hJ _ _ _ ⟨i + 1, rfl, h, rfl, ?_⟩⟩
 have e2 : k + (EM (ps.take i) : Int) + ((pti ps i).length : Int) = k + ((EM (ps.take (i + 1)) : Nat) : Int) := by omega
 rw [e2]
 rfl
theorem SW (ps : List (List Int)) (k : Int) (h0 : 0 ≤ k) (h1 : k + EM ps < 2 ^ 60) (hb : ps.length < 2 ^ 40) (hp : ∀ p ∈ ps, p.length < 2 ^ 40) :
  SoundAt Tryz.prog Lh [.sl 1 1 (sls 1 (BM k ps)), .v (.int .i64 k)] (.v (.int .i64 (k + EM ps))) [.bot, .bot] := by
 refine AE (md := md0) (ms := [false, false]) SQ (by simp) ?_
 simp [Li]
 refine AF (fun m E H => ∃ i : Nat, m = ps.length - i ∧ i ≤ ps.length ∧ H = [] ∧
  E = [(0, .sl 1 1 (sls 1 (BM k ps))), (1, .v (.int .i64 (k + EM (ps.take i)))), (5, .v (.int .i64 i))]) ps.length ⟨0, by simp [EM]⟩ ?_
 rintro J hJ m E H ⟨i, rfl, hi, rfl, rfl⟩
 by_cases h : i < ps.length
 case neg =>
  have : i = ps.length := by omega
  subst this
  simp [E6]
 have hs := QC h
 have hle := Ww (ps := ps) (i := i + 1)
 have hpl := hp _ (K3 h)
 have one := SU (pti ps i).length (k + EM (ps.take i)) (by omega) (by omega) hpl
 rw [← bE k h] at one
 have hn : ¬ (k + (EM (ps.take i) : Int) + ((pti ps i).length : Int) < 0) := by omega
 have e2 : k + (EM (ps.take i) : Int) + ((pti ps i).length : Int) = k + ((EM (ps.take (i + 1)) : Nat) : Int) := by omega
 simp [E6, h]
 refine AA one ?_
 simp [hn]
 refine ⟨by omega, _, by omega, hJ _ _ _ ⟨i + 1, rfl, h, rfl, ?_⟩⟩
 rw [e2]
 rfl
@[simp] abbrev Kj : Nat := 125
def Kk : ACode := .seq (.reg [.o 2 .mv [.c (.os 1 [])]]) <| .seq (.reg [.m 3 0, .o 4 (.call 174 []) [.t 3], .o 5 (.call 173 []) [.t 4], .m 2 5]) <| .ret
theorem RW : cFn Tryz.prog Kj 6 [.t 2] Kk := ⟨Tryz.f125, _, Tryz.func125, rfl, by kernel_rfl, by kernel_rfl, by kernel_rfl, by kernel_rfl⟩
@[simp] abbrev FJ : Nat := 174
def FK : ACode := .seq (.reg [.o 2 .mv [.c (.os 1 [])]]) <| .seq (.seq (.reg [.m 3 0, .o 4 (.nilq false) [.t 3]]) <| .cond (.t 4) ( .seq (.reg [.o 2 .mv [.c (.os 1 [])]]) <| .ret) ( .skip)) <| .seq (.reg [.o 5 (.bsl 1) [], .m 6 0, .o 7 (.app 1 1 true) [.t 5, .t 6], .m 2 7]) <| .ret
theorem Kl : cFn Tryz.prog FJ 8 [.t 2] FK := ⟨Tryz.f174, _, Tryz.func174, rfl, by kernel_rfl, by kernel_rfl, by kernel_rfl, by kernel_rfl⟩
@[simp] abbrev Lk : Nat := 153
def Ih : ACode := .seq (.seq (.reg [.m 6 5, .m 7 0, .n 8 7, .o 9 (.bin .lss 0) [.t 6, .t 8]]) <| .cond (.t 9) ( .skip) ( .exit 0)) <| .seq (.block 1 ( .seq (.seq (.reg [.m 12 0, .m 13 5, .o 14 (.iadr 1) [.t 12, .t 13], .l 15 14, .m 16 1, .o 17 (.bin .rem 0) [.t 16, .k 3], .o 18 (.bin .eql 0) [.t 17, .k 0], .o 19 (.bin .neq 2) [.t 15, .t 18]]) <| .cond (.t 19) ( .seq (.reg [.o 4 .mv [.k (-1)]]) <| .ret) ( .skip)) <| .reg [.m 20 1, .o 21 (.bin .add 0) [.t 20, .k 1], .m 1 21])) <| .reg [.m 10 5, .o 11 (.bin .add 0) [.t 10, .k 1], .m 5 11]
def Ll : ACode := .seq (.reg [.o 4 .mv [.k 0]]) <| .seq (.seq (.reg [.o 5 .mv [.k 0]]) <| .block 0 ( .loop [(0, 1)] [0, 1, 5] Ih)) <| .seq (.reg [.m 22 1, .m 4 22]) <| .ret
theorem SX : cFn Tryz.prog Lk 23 [.t 4] Ll := ⟨Tryz.f153, _, Tryz.func153, rfl, by kernel_rfl, by kernel_rfl, by kernel_rfl, by kernel_rfl⟩
@[simp] abbrev Km : Nat := 92
def Kn : ACode := .seq (.reg [.o 2 .box [.t 0], .o 4 .mv [.k 0]]) <| .seq (.reg [.f 5 2 2, .l 6 5, .m 7 1, .o 8 (.call 153 []) [.t 6, .t 7], .m 1 8]) <| .seq (.seq (.reg [.m 9 1, .o 10 (.bin .lss 0) [.t 9, .k 0]]) <| .cond (.t 10) ( .seq (.reg [.o 4 .mv [.k (-1)]]) <| .ret) ( .skip)) <| .seq (.reg [.m 11 1, .m 4 11]) <| .ret
theorem RX : cFn Tryz.prog Km 12 [.t 4] Kn := ⟨Tryz.f92, _, Tryz.func92, rfl, by kernel_rfl, by kernel_rfl, by kernel_rfl, by kernel_rfl⟩
@[simp] abbrev M0 : Nat := 28
def M1 : ACode := .seq (.reg [.o 2 .box [.t 0], .o 4 .mv [.k 0]]) <| .seq (.reg [.f 5 0 2, .la 6 3 5, .m 7 1, .o 8 (.call 92 []) [.t 6, .t 7], .m 1 8]) <| .seq (.seq (.reg [.m 9 1, .o 10 (.bin .lss 0) [.t 9, .k 0]]) <| .cond (.t 10) ( .seq (.reg [.o 4 .mv [.k (-1)]]) <| .ret) ( .skip)) <| .seq (.reg [.f 11 3 2, .l 12 11, .m 13 1, .o 14 (.call 93 []) [.t 12, .t 13], .m 1 14]) <| .seq (.seq (.reg [.m 15 1, .o 16 (.bin .lss 0) [.t 15, .k 0]]) <| .cond (.t 16) ( .seq (.reg [.o 4 .mv [.k (-1)]]) <| .ret) ( .skip)) <| .seq (.reg [.f 17 4 2, .l 18 17, .m 19 1, .o 20 (.call 93 []) [.t 18, .t 19], .m 1 20]) <| .seq (.seq (.reg [.m 21 1, .o 22 (.bin .lss 0) [.t 21, .k 0]]) <| .cond (.t 22) ( .seq (.reg [.o 4 .mv [.k (-1)]]) <| .ret) ( .skip)) <| .seq (.reg [.f 23 5 2, .l 24 23, .m 25 1, .o 26 (.call 94 []) [.t 24, .t 25], .m 1 26]) <| .seq (.seq (.reg [.m 27 1, .o 28 (.bin .lss 0) [.t 27, .k 0]]) <| .cond (.t 28) ( .seq (.reg [.o 4 .mv [.k (-1)]]) <| .ret) ( .skip)) <| .seq (.reg [.m 29 1, .m 4 29]) <| .ret
theorem UI : cFn Tryz.prog M0 30 [.t 4] M1 := ⟨Tryz.f28, _, Tryz.func28, rfl, by kernel_rfl, by kernel_rfl, by kernel_rfl, by kernel_rfl⟩
@[simp] abbrev M2 : Nat := 27
def M3 : ACode := .seq (.reg [.o 2 .box [.t 0], .o 4 .mv [.k 0]]) <| .seq (.reg [.f 5 0 2, .la 6 3 5, .m 7 1, .o 8 (.call 89 []) [.t 6, .t 7], .m 1 8]) <| .seq (.reg [.f 9 3 2, .l 10 9, .m 11 1, .o 12 (.call 90 []) [.t 10, .t 11], .m 1 12]) <| .seq (.reg [.f 13 4 2, .l 14 13, .m 15 1, .o 16 (.call 90 []) [.t 14, .t 15], .m 1 16]) <| .seq (.reg [.f 17 5 2, .l 18 17, .m 19 1, .o 20 (.call 91 []) [.t 18, .t 19], .m 1 20]) <| .seq (.reg [.m 21 1, .m 4 21]) <| .ret
theorem UJ : cFn Tryz.prog M2 22 [.t 4] M3 := ⟨Tryz.f27, _, Tryz.func27, rfl, by kernel_rfl, by kernel_rfl, by kernel_rfl, by kernel_rfl⟩
@[simp] abbrev Fj : Nat := 173
def Fk : ACode := .seq (.reg [.o 2 .mv [.c (.os 1 [])]]) <| .seq (.reg [.m 3 0, .m 4 0, .n 5 4, .m 6 0, .n 7 6, .o 8 (.slice 1 false false true true) [.t 3, .t 5, .t 7], .m 2 8]) <| .ret
theorem LF : cFn Tryz.prog Fj 9 [.t 2] Fk := ⟨Tryz.f173, _, Tryz.func173, rfl, by kernel_rfl, by kernel_rfl, by kernel_rfl, by kernel_rfl⟩
end Go.Proofs.Dev
