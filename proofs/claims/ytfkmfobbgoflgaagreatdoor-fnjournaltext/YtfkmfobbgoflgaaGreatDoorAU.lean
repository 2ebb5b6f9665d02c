/- Contracts of the functions of the program over slots and rows, each proved against the program itself; no condition beyond those that each theorem names. -/
import Derived.Test.YtfkmfobbgoflgaaGreatDoorAT
import Derived.Test.YtfkmfobbgoflgaaGreatDoorProg
import Derived.Test.YtfkmfobbgoflgaaGreatDoorAQ
import Derived.Test.YtfkmfobbgoflgaaGreatDoorAL
import Derived.Test.YtfkmfobbgoflgaaGreatDoorAP
import Derived.Test.YtfkmfobbgoflgaaGreatDoorAH

set_option linter.unusedSimpArgs false
set_option linter.unusedVariables false

namespace Go.Proofs.Dev

-- 2 parameters, results [.t 4], 23 slots, modes [false, false]
@[simp] abbrev n_spec_FlipsOf : Nat := 224
def c_spec_FlipsOf_L0 : ACode := .seq (.seq (.reg [.m 8 6, .la 9 3 2, .o 10 (.call 225 []) [.t 9], .o 11 (.bin .lss 0) [.t 8, .t 10]]) <|
 .cond (.t 11) ( .skip) ( .exit 0)) <| .seq (.block 1 ( .seq (.reg [.la 14 3 2, .m 15 1, .m 16 6, .o 17 (.call 199 []) [.t 14, .t 15, .t 16]]) <|
 .cond (.t 17) ( .reg [.m 18 5, .m 19 6, .o 20 (.bsl 1) [.t 19], .o 21 (.app 1 8 true) [.t 18, .t 20], .m 5 21]) ( .skip))) <| .reg [.m 12 6,
 .o 13 (.bin .add 0) [.t 12, .k 1], .m 6 13]

def c_spec_FlipsOf : ACode := .seq (.reg [.o 2 .box [.t 0], .o 4 .mv [.c (.os 1 [])]]) <| .seq (.reg [.o 7 (.bsl 1) [], .m 5 7]) <|
 .seq (.seq (.reg [.o 6 .mv [.k 0]]) <| .block 0 ( .loop [(1, 1), (5, 1)] [1, 2, 5, 6] c_spec_FlipsOf_L0)) <| .seq (.reg [.m 22 5, .m 4 22]) <| .ret

theorem k_spec_FlipsOf : cFn Tryz.prog n_spec_FlipsOf 23 [.t 4] c_spec_FlipsOf := ⟨Tryz.f224, _, Tryz.func224, rfl, by kernel_rfl, by kernel_rfl, by kernel_rfl, by kernel_rfl⟩

end Go.Proofs.Dev

namespace Go.Proofs.Dev
set_option linter.unusedSimpArgs false

/-- The cell in the south-west of a corner; whether a corner lies between four cells of the field. -/
def swI (W c : Int) : Int := (c / (W + 1) - 1) * W + c % (W + 1) - 1
def midB (W T c : Int) : Bool := decide (0 ≤ c ∧ 1 ≤ c % (W + 1) ∧ c % (W + 1) ≤ W - 1 ∧ 1 ≤ c / (W + 1) ∧ c / (W + 1) ≤ T - 1)
def flatB (W : Int) (ls : List Int) (c : Int) : Bool := decide (ati ls (swI W c) = 1) && decide (ati ls (swI W c + W) = 1)
def upB (W : Int) (ls : List Int) (c : Int) : Bool := decide (ati ls (swI W c) = 2) && decide (ati ls (swI W c + 1) = 2)
def flipB (W T : Int) (ls : List Int) (c : Int) : Bool := midB W T c && (flatB W ls c || upB W ls c)
def set4 (ls : List Int) (a W : Int) (p q r s : Int) : List Int := (((ls.set a.toNat p).set (a + 1).toNat q).set (a + W).toNat r).set (a + W + 1).toNat s
def flipI (W T : Int) (ls : List Int) (c : Int) : List Int :=
  if flipB W T ls c = true then (if flatB W ls c = true then set4 ls (swI W c) W 2 2 4 4 else set4 ls (swI W c) W 1 3 1 3) else ls

theorem set4_length (ls : List Int) (a W p q r s : Int) : (set4 ls a W p q r s).length = ls.length := by simp [set4]
theorem flipI_length (W T : Int) (ls : List Int) (c : Int) : (flipI W T ls c).length = ls.length := by
  unfold flipI; split
  · split <;> exact set4_length ..
  · rfl

theorem mid_at {W T c : Int} (hW : 1 ≤ W) (h : midB W T c = true) :
    ∃ x y : Int, 0 ≤ x ∧ x + 1 < W ∧ 0 ≤ y ∧ y + 1 < T ∧ swI W c = y * W + x ∧ c % (W + 1) = x + 1 ∧ c / (W + 1) = y + 1 := by
  simp only [midB, decide_eq_true_eq] at h
  refine ⟨c % (W + 1) - 1, c / (W + 1) - 1, by omega, by omega, by omega, by omega, ?_, by omega, by omega⟩
  unfold swI; omega

theorem sw_at {W T c : Int} (hW : 1 ≤ W) (h : midB W T c = true) : 0 ≤ swI W c ∧ swI W c + W + 1 < W * T := by
  obtain ⟨x, y, x0, x1, y0, y1, e, _⟩ := mid_at hW h
  rw [e]
  have h1 : 0 ≤ y * W := Int.mul_nonneg y0 (by omega)
  have h2 : (y + 1 + 1) * W ≤ T * W := Int.mul_le_mul_of_nonneg_right (by omega) (by omega)
  have h3 : (y + 1 + 1) * W = y * W + W + W := by rw [Int.add_mul, Int.add_mul, Int.one_mul]
  rw [Int.mul_comm T W] at h2
  omega

theorem ati_setI {xs : List Int} {i k : Int} {v : Int} (h0 : 0 ≤ i) (h : i < xs.length) (hk : 0 ≤ k) : ati (xs.set i.toNat v) k = if k = i then v else ati xs k := by
  have := ati_set (xs := xs) (i := i.toNat) (k := k.toNat) (v := v) (by omega)
  rw [show ((k.toNat : Nat) : Int) = k by omega] at this
  rw [this]
  by_cases e : k = i
  · rw [if_pos e, if_pos (by omega)]
  · rw [if_neg e, if_neg (by omega)]

theorem ati_set4 {ls : List Int} {a W p q r s k : Int} (h0 : 0 ≤ a) (hW : 1 ≤ W) (h : a + W + 1 < ls.length) (hk : 0 ≤ k) :
    ati (set4 ls a W p q r s) k = if k = a + W + 1 then s else if k = a + W then r else if k = a + 1 then q else if k = a then p else ati ls k := by
  unfold set4
  rw [ati_setI (by omega) (by simp; omega) hk, ati_setI (by omega) (by simp; omega) hk, ati_setI (by omega) (by simp; omega) hk, ati_setI (by omega) (by omega) hk]

theorem ext_ati {xs ys : List Int} (hl : xs.length = ys.length) (h : ∀ k : Nat, k < xs.length → ati xs k = ati ys k) : xs = ys := by
  apply List.ext_getElem hl
  intro i h1 h2
  have := h i h1
  simpa [ati, h1, h2] using this

/-- Steps from the four cells around a corner. -/
theorem mid_steps {W T x y : Int} (hW : 1 ≤ W) (x0 : 0 ≤ x) (x1 : x + 1 < W) (y0 : 0 ≤ y) (y1 : y + 1 < T) :
    stepI W T (y * W + x) 1 = y * W + x + 1 ∧ stepI W T (y * W + x) 2 = y * W + x + W ∧ stepI W T (y * W + x + W) 1 = y * W + x + W + 1 ∧ stepI W T (y * W + x + 1) 2 = y * W + x + 1 + W := by
  have c1 := xy_of (W := W) (x := x) (y := y) x0 (by omega)
  have c2 := xy_of (W := W) (x := x + 1) (y := y) (by omega) (by omega)
  have c3 := xy_of (W := W) (x := x) (y := y + 1) x0 (by omega)
  have hm : (y + 1) * W = y * W + W := by rw [Int.add_mul, Int.one_mul]
  rw [show (y + 1) * W + x = y * W + x + W by omega] at c3
  rw [show y * W + (x + 1) = y * W + x + 1 by omega] at c2
  refine ⟨?_, ?_, ?_, ?_⟩
  · unfold stepI; rw [c1.1, if_pos ⟨rfl, by omega⟩]
  · unfold stepI; rw [c1.2, if_neg (by omega), if_pos ⟨rfl, by omega⟩]
  · unfold stepI; rw [c3.1, if_pos ⟨rfl, by omega⟩]
  · unfold stepI; rw [c2.2, if_neg (by omega), if_pos ⟨rfl, by omega⟩]

theorem lays_atI {W T : Int} {cs : List Bool} {ls : List Int} {k : Int} (hy : laysB W T cs ls = true) (h0 : 0 ≤ k) (hk : k < ls.length) (hv : ati ls k ≠ 0) :
    1 ≤ ati ls k ∧ ati ls k ≤ 4 ∧ atb cs k = true ∧ 0 ≤ stepI W T k (ati ls k) ∧ atb cs (stepI W T k (ati ls k)) = true ∧ ati ls (stepI W T k (ati ls k)) = backI (ati ls k) := by
  have e : ((k.toNat : Nat) : Int) = k := by omega
  have := lays_at (k := k.toNat) hy (by omega) (by rw [e]; exact hv)
  rw [e] at this
  exact this

theorem lift_atI {W T : Int} {cs : List Bool} {ls : List Int} {k t : Int} (hr : regB W T cs = true) (hy : laysB W T cs ls = true) (h0 : 0 ≤ k) (hk : k < ls.length) (hv : ati ls k ≠ 0) (ht : stepI W T k (ati ls k) = t) :
    laysB W T cs (liftI W T ls k) = true ∧ (liftI W T ls k).length = ls.length ∧ ∀ j : Int, 0 ≤ j → ati (liftI W T ls k) j = if j = k then 0 else if j = t then 0 else ati ls j := by
  have e : ((k.toNat : Nat) : Int) = k := by omega
  obtain ⟨t', h1, h2, h3, h4⟩ := lift_at (k := k.toNat) hr hy (by omega) (by rw [e]; exact hv)
  have h5 := lift_ok (k := k.toNat) hr hy (by omega) (by rw [e]; exact hv)
  rw [e] at h1 h4 h5
  refine ⟨h5, liftI_length .., fun j hj => ?_⟩
  have := h4 j.toNat
  rw [show ((j.toNat : Nat) : Int) = j by omega] at this
  rw [this]
  by_cases e1 : j = k
  · rw [if_pos (by omega), if_pos e1]
  · rw [if_neg (by omega), if_neg e1]
    by_cases e2 : j = t
    · rw [if_pos (by omega), if_pos e2]
    · rw [if_neg (by omega), if_neg e2]

theorem lay_atI {W T : Int} {cs : List Bool} {ls : List Int} {k way t : Int} (hr : regB W T cs = true) (hy : laysB W T cs ls = true) (hf : freeB W T cs ls k way = true) (ht : stepI W T k way = t) :
    laysB W T cs (layI W T ls k way) = true ∧ (layI W T ls k way).length = ls.length ∧ ∀ j : Int, 0 ≤ j → ati (layI W T ls k way) j = if j = t then backI way else if j = k then way else ati ls j := by
  have hl := lays_len hy
  obtain ⟨w1, w2, t1, t2, l1, _⟩ := regB_W hr
  have hf2 := hf
  simp only [freeB, decide_eq_true_eq] at hf2
  obtain ⟨f0, f1, f2, f3, f4, f5, f6⟩ := hf2
  have sb := step_back (W := W) (T := T) (k := k) (way := way) w1 f0 (by omega) f2
  refine ⟨lay_ok hr hy hf, layI_length .., fun j hj => ?_⟩
  subst ht
  unfold layI
  rw [ati_setI f2 (by simp; omega) hj, ati_setI f0 (by omega) hj]

theorem free_of {W T : Int} {cs : List Bool} {ls : List Int} {k way t : Int} (h0 : 0 ≤ k) (h1 : k < cs.length) (ht : stepI W T k way = t) (h2 : 0 ≤ t) (h3 : atb cs k = true) (h4 : atb cs t = true) (h5 : ati ls k = 0) (h6 : ati ls t = 0) : freeB W T cs ls k way = true := by
  subst ht
  simp [freeB, h0, h1, h2, h3, h4, h5, h6]

/-- Two dominoes side by side are turned. -/
theorem turn_ok {W T : Int} {cs : List Bool} {ls l4 : List Int} {a p q r w v : Int} (hr : regB W T cs = true) (hy : laysB W T cs ls = true)
    (a0 : 0 ≤ a ∧ a < ls.length) (p0 : 0 ≤ p ∧ p < ls.length) (q0 : 0 ≤ q ∧ q < ls.length) (r0 : 0 ≤ r ∧ r < ls.length) (d1 : a ≠ p) (d2 : a ≠ q) (d3 : a ≠ r) (d4 : p ≠ q) (d5 : p ≠ r) (d6 : q ≠ r)
    (s1 : stepI W T a w = p) (s2 : stepI W T q w = r) (s3 : stepI W T a v = q) (s4 : stepI W T p v = r) (hw : w ≠ 0) (h1 : ati ls a = w) (h2 : ati ls q = w) (hl4 : l4.length = ls.length)
    (h4 : ∀ j : Int, 0 ≤ j → ati l4 j = if j = r then backI v else if j = p then v else if j = q then backI v else if j = a then v else ati ls j) :
    (atb cs a = true ∧ atb cs p = true ∧ atb cs q = true ∧ atb cs r = true) ∧ laysB W T cs l4 = true := by
  have hl := lays_len hy
  obtain ⟨_, _, a3, a4, a5, a6⟩ := lays_atI hy a0.1 a0.2 (by rw [h1]; exact hw)
  obtain ⟨_, _, c3, c4, c5, c6⟩ := lays_atI hy q0.1 q0.2 (by rw [h2]; exact hw)
  rw [h1, s1] at a4 a5 a6
  rw [h2, s2] at c4 c5 c6
  refine ⟨⟨a3, a5, c3, c5⟩, ?_⟩
  obtain ⟨g1, g2, g3⟩ := lift_atI (k := a) (t := p) hr hy a0.1 a0.2 (by rw [h1]; exact hw) (by rw [h1, s1])
  generalize liftI W T ls a = l1 at *
  have v1 : ati l1 q = w := by rw [g3 _ q0.1, if_neg (fun e => d2 e.symm), if_neg (fun e => d4 e.symm), h2]
  obtain ⟨k1, k2, k3⟩ := lift_atI (k := q) (t := r) hr g1 q0.1 (by omega) (by rw [v1]; exact hw) (by rw [v1, s2])
  generalize liftI W T l1 q = l2 at *
  have za : ati l2 a = 0 := by rw [k3 a a0.1, if_neg d2, if_neg d3, g3 a a0.1, if_pos rfl]
  have zp : ati l2 p = 0 := by rw [k3 p p0.1, if_neg d4, if_neg d5, g3 p p0.1, if_neg (fun e => d1 e.symm), if_pos rfl]
  have zq : ati l2 q = 0 := by rw [k3 q q0.1, if_pos rfl]
  have zr : ati l2 r = 0 := by rw [k3 r r0.1, if_neg (fun e => d6 e.symm), if_pos rfl]
  obtain ⟨m1, m2, m3⟩ := lay_atI (k := a) (way := v) (t := q) hr k1 (free_of a0.1 (by omega) s3 q0.1 a3 c3 za zq) s3
  generalize layI W T l2 a v = l3 at *
  have yp : ati l3 p = 0 := by rw [m3 p p0.1, if_neg d4, if_neg (fun e => d1 e.symm), zp]
  have yr : ati l3 r = 0 := by rw [m3 r r0.1, if_neg (fun e => d6 e.symm), if_neg (fun e => d3 e.symm), zr]
  obtain ⟨n1, n2, n3⟩ := lay_atI (k := p) (way := v) (t := r) hr m1 (free_of p0.1 (by omega) s4 r0.1 a5 c5 yp yr) s4
  generalize layI W T l3 p v = l5 at *
  have e : l4 = l5 := by
    refine ext_ati (by omega) fun k hk => ?_
    rw [h4 k (by omega), n3 k (by omega)]
    by_cases e1 : (k : Int) = r
    · rw [if_pos e1, if_pos e1]
    rw [if_neg e1, if_neg e1]
    by_cases e2 : (k : Int) = p
    · rw [if_pos e2, if_pos e2]
    rw [if_neg e2, if_neg e2, m3 k (by omega)]
    by_cases e3 : (k : Int) = q
    · rw [if_pos e3, if_pos e3]
    rw [if_neg e3, if_neg e3]
    by_cases e4 : (k : Int) = a
    · rw [if_pos e4, if_pos e4]
    rw [if_neg e4, if_neg e4, k3 k (by omega), if_neg e3, if_neg e1, g3 k (by omega), if_neg e4, if_neg e2]
  rw [e]; exact n1

/-- What two dominoes around a corner say of its cells; and the flip lays dominoes again. -/
theorem flip_ok {W T : Int} {cs : List Bool} {ls : List Int} {c : Int} (hr : regB W T cs = true) (hy : laysB W T cs ls = true) (hf : flipB W T ls c = true) :
    (atb cs (swI W c) = true ∧ atb cs (swI W c + 1) = true ∧ atb cs (swI W c + W) = true ∧ atb cs (swI W c + W + 1) = true) ∧ laysB W T cs (flipI W T ls c) = true := by
  obtain ⟨w1, w2, t1, t2, l1, _⟩ := regB_W hr
  have hl := lays_len hy
  have hf2 := hf
  simp only [flipB, Bool.and_eq_true, Bool.or_eq_true] at hf2
  obtain ⟨hm, hf3⟩ := hf2
  obtain ⟨s0, s1⟩ := sw_at w1 hm
  obtain ⟨x, y, x0, x1, y0, y1, e, _⟩ := mid_at w1 hm
  obtain ⟨q1, q2, q3, q4⟩ := mid_steps (T := T) w1 x0 x1 y0 y1
  rw [← e] at q1 q2 q3 q4
  have hW2 : 2 ≤ W := by omega
  have key : flipI W T ls c = if flatB W ls c = true then set4 ls (swI W c) W 2 2 4 4 else set4 ls (swI W c) W 1 3 1 3 := by unfold flipI; rw [if_pos hf]
  rw [key]
  by_cases hF : flatB W ls c = true
  · rw [if_pos hF]
    simp only [flatB, Bool.and_eq_true, decide_eq_true_eq] at hF
    generalize swI W c = a at *
    have := turn_ok (l4 := set4 ls a W 2 2 4 4) (a := a) (p := a + 1) (q := a + W) (r := a + W + 1) (w := 1) (v := 2) hr hy (by omega) (by omega) (by omega) (by omega) (by omega) (by omega) (by omega) (by omega) (by omega) (by omega)
      q1 q3 q2 (by rw [q4]; omega) (by decide) hF.1 hF.2 (set4_length ..) (fun j hj => by
        rw [ati_set4 s0 w1 (by omega) hj, show backI 2 = 4 by decide]
        by_cases e1 : j = a + W + 1
        · rw [if_pos e1, if_pos e1]
        rw [if_neg e1, if_neg e1]
        by_cases e2 : j = a + W
        · rw [if_pos e2, if_neg (by omega), if_pos e2]
        rw [if_neg e2, if_neg e2])
    exact ⟨⟨this.1.1, this.1.2.1, this.1.2.2.1, this.1.2.2.2⟩, this.2⟩
  · rw [if_neg hF]
    have hU : upB W ls c = true := hf3.resolve_left hF
    simp only [upB, Bool.and_eq_true, decide_eq_true_eq] at hU
    generalize swI W c = a at *
    have := turn_ok (l4 := set4 ls a W 1 3 1 3) (a := a) (p := a + W) (q := a + 1) (r := a + W + 1) (w := 2) (v := 1) hr hy (by omega) (by omega) (by omega) (by omega) (by omega) (by omega) (by omega) (by omega) (by omega) (by omega)
      q2 (by rw [q4]; omega) q1 q3 (by decide) hU.1 hU.2 (set4_length ..) (fun j hj => by
        rw [ati_set4 s0 w1 (by omega) hj, show backI 1 = 3 by decide])
    exact ⟨⟨this.1.1, this.1.2.2.1, this.1.2.1, this.1.2.2.2⟩, this.2⟩

/-! Forced dominoes: the list grows exactly if it changes. -/
theorem forceAllN_grow {W T : Int} {cs : List Bool} {ds : List Int} : ∀ (n : Nat) (ls : List Int), fairB W T cs ds ls = true →
    domN ls ≤ domN (forceAllN W T cs ds n ls) ∧ (forceAllN W T cs ds n ls = ls ∨ domN ls < domN (forceAllN W T cs ds n ls))
  | 0, ls, _ => ⟨Nat.le_refl _, .inl rfl⟩
  | n + 1, ls, hf => by
    obtain ⟨hr, hd, hy, ho⟩ := fair_parts hf
    have hl := lays_len hy
    unfold forceAllN
    by_cases hb : force1B W T cs ds ls = true
    · have h1 := force1_domN (ds := ds) hr hl hb
      have h2 := forceAllN_grow n (force1 W T cs ds ls) (force1_fair hf)
      simp only [hb, if_true]
      exact ⟨by omega, .inr (by omega)⟩
    · have hb' : force1B W T cs ds ls = false := by simpa using hb
      simp [hb']
theorem forceAll_grow {W T : Int} {cs : List Bool} {ds ls : List Int} (hf : fairB W T cs ds ls = true) : (domN ls < domN (forceAllI W T cs ds ls)) ↔ forceAllI W T cs ds ls ≠ ls := by
  obtain ⟨h1, h2⟩ := forceAllN_grow ls.length ls hf
  unfold forceAllI at *
  constructor
  · intro h e; rw [e] at h; omega
  · intro h; exact h2.resolve_left h

end Go.Proofs.Dev

namespace Go.Proofs.Dev
set_option linter.unusedSimpArgs false
set_option maxRecDepth 100000

/-- Whether a cell of the field, by column and row, belongs to the region. -/
def atXY (W T : Int) (cs : List Bool) (x y : Int) : Bool := decide (0 ≤ x ∧ x ≤ W - 1) && (decide (0 ≤ y ∧ y ≤ T - 1) && atb cs (y * W + x))

theorem xy_in {W T x y : Int} (h1 : 0 ≤ x ∧ x ≤ W - 1) (h2 : 0 ≤ y ∧ y ≤ T - 1) : 0 ≤ y * W ∧ y * W + x < W * T := by
  have a1 : 0 ≤ y * W := Int.mul_nonneg h2.1 (by omega)
  have a2 : (y + 1) * W ≤ T * W := Int.mul_le_mul_of_nonneg_right (by omega) (by omega)
  rw [Int.add_mul, Int.one_mul, Int.mul_comm T W] at a2
  omega

theorem s_spec_l1At (W T : Int) (cs : List Bool) (x y : Int) (hr : regB W T cs = true) (hx : -9 ≤ x ∧ x ≤ 9 * 2 ^ 40) (hy : -9 ≤ y ∧ y ≤ 9 * 2 ^ 40) :
    SoundAt Tryz.prog n_spec_l1At [.agg [.v (.int .i64 W), .v (.int .i64 T), .sl 1 1 (bools cs)], .v (.int .i64 x), .v (.int .i64 y)] (.v (.bool (atXY W T cs x y))) [.bot, .bot, .bot] := by
  obtain ⟨w1, w2, t1, t2, l1, _⟩ := regB_W hr
  have h36 := regB_len hr
  refine fn_ok (md := md5) (ms := [false, false, false]) k_spec_l1At (by simp) ?_
  by_cases h1 : 0 ≤ x ∧ x ≤ W - 1
  · by_cases h2 : 0 ≤ y ∧ y ≤ T - 1
    · obtain ⟨m1, m2⟩ := xy_in h1 h2
      simp [c_spec_l1At, atXY, h1, h2]
      refine ⟨by omega, ?_⟩
      refine call_on (s_spec_l1In_t (x := x) (lo := 0) (hi := W - 1) h1) ?_
      simp
      refine ⟨by omega, ?_⟩
      refine call_on (s_spec_l1In_t (x := y) (lo := 0) (hi := T - 1) h2) ?_
      have n1 : 0 ≤ y * W + x := by omega
      have n2 : y * W + x < cs.length := by omega
      simp [n1, n2]
      omega
    · simp [c_spec_l1At, atXY, h1, h2]
      refine ⟨by omega, ?_⟩
      refine call_on (s_spec_l1In_t (x := x) (lo := 0) (hi := W - 1) h1) ?_
      simp
      refine ⟨by omega, ?_⟩
      refine call_on (s_spec_l1In_f (x := y) (lo := 0) (hi := T - 1) h2) ?_
      simp
  · simp [c_spec_l1At, atXY, h1]
    refine ⟨by omega, ?_⟩
    refine call_on (s_spec_l1In_f (x := x) (lo := 0) (hi := W - 1) h1) ?_
    simp

def corI (W T : Int) : Int := (W + 1) * (T + 1)
theorem cor_in {W T : Int} (w1 : 1 ≤ W) (w2 : W ≤ 6) (t1 : 1 ≤ T) (t2 : T ≤ 6) : 4 ≤ corI W T ∧ corI W T ≤ 49 := by
  have h1 : (2 : Int) * 2 ≤ (W + 1) * (T + 1) := Int.mul_le_mul (by omega) (by omega) (by omega) (by omega)
  have h2 : (W + 1) * (T + 1) ≤ 7 * 7 := Int.mul_le_mul (by omega) (by omega) (by omega) (by omega)
  unfold corI; omega

theorem s_spec_CornerMany (W T : Int) (cs : List Bool) (hb : cs.length < 2 ^ 40) :
    SoundAt Tryz.prog n_spec_CornerMany [.agg [.v (.int .i64 W), .v (.int .i64 T), .sl 1 1 (bools cs)]] (.v (.int .i64 (if regB W T cs = true then corI W T else -1))) [.bot] := by
  refine fn_ok (md := md5) (ms := [false]) k_spec_CornerMany (by simp) ?_
  simp [c_spec_CornerMany]
  refine call_on (s_spec_RegionValid W T cs hb) ?_
  cases hr : regB W T cs with
  | false => simp
  | true =>
    obtain ⟨w1, w2, t1, t2, l1, _⟩ := regB_W hr
    have := cor_in w1 w2 t1 t2
    unfold corI at *
    simp
    omega

/-- The four cells around a corner all belong to the region. -/
def sqB (W T : Int) (cs : List Bool) (c : Int) : Bool :=
  ((atXY W T cs (c % (W + 1) - 1) (c / (W + 1) - 1) && atXY W T cs (c % (W + 1)) (c / (W + 1) - 1)) && atXY W T cs (c % (W + 1) - 1) (c / (W + 1))) && atXY W T cs (c % (W + 1)) (c / (W + 1))

theorem sq_mid {W T : Int} {cs : List Bool} {c : Int} (h0 : 0 ≤ c) (h : sqB W T cs c = true) : midB W T c = true := by
  simp only [sqB, atXY, Bool.and_eq_true, decide_eq_true_eq] at h
  simp only [midB, decide_eq_true_eq]
  omega

set_option maxHeartbeats 1000000 in
theorem s_spec_l5Square (W T : Int) (cs : List Bool) (c : Int) (hr : regB W T cs = true) (h0 : 0 ≤ c) (h1 : c < 2 ^ 40) :
    SoundAt Tryz.prog n_spec_l5Square [.agg [.v (.int .i64 W), .v (.int .i64 T), .sl 1 1 (bools cs)], .v (.int .i64 c)]
      (if sqB W T cs c = true then .tup [.v (.int .i64 (swI W c)), .v (.int .i64 (swI W c + 1)), .v (.int .i64 (swI W c + W)), .v (.int .i64 (swI W c + W + 1)), .v (.bool true)]
        else .tup [.v (.int .i64 0), .v (.int .i64 0), .v (.int .i64 0), .v (.int .i64 0), .v (.bool false)]) [.bot, .bot] := by
  obtain ⟨w1, w2, t1, t2, l1, _⟩ := regB_W hr
  have h36 := regB_len hr
  have m1 := Int.emod_nonneg c (show W + 1 ≠ 0 by omega)
  have m2 := Int.emod_lt_of_pos c (show 0 < W + 1 by omega)
  have m3 := Int.ediv_nonneg h0 (show 0 ≤ W + 1 by omega)
  have m4 := Int.ediv_le_self (W + 1) h0
  have hs := @sq_mid W T cs c h0
  have c1 := s_spec_l1At W T cs (c % (W + 1) - 1) (c / (W + 1) - 1) hr (by omega) (by omega)
  have c2 := s_spec_l1At W T cs (c % (W + 1)) (c / (W + 1) - 1) hr (by omega) (by omega)
  have c3 := s_spec_l1At W T cs (c % (W + 1) - 1) (c / (W + 1)) hr (by omega) (by omega)
  have c4 := s_spec_l1At W T cs (c % (W + 1)) (c / (W + 1)) hr (by omega) (by omega)
  have hsw := @sw_at W T c w1
  have hsd : swI W c = (c / (W + 1) - 1) * W + c % (W + 1) - 1 := rfl
  unfold sqB at *
  have w0 : 1 ≤ W + 1 := by omega
  refine fn_ok (md := md5) (ms := [false, false]) k_spec_l5Square (by simp) ?_
  simp [c_spec_l5Square, h0, w0]
  generalize c % (W + 1) = x at *
  generalize c / (W + 1) = y at *
  refine ⟨by omega, by omega, by omega, by omega, ?_⟩
  refine call_on c1 ?_
  cases b1 : atXY W T cs (x - 1) (y - 1) with
  | false => simp
  | true =>
  simp
  refine ⟨by omega, ?_⟩
  refine call_on c2 ?_
  cases b2 : atXY W T cs x (y - 1) with
  | false => simp
  | true =>
  simp
  refine ⟨by omega, ?_⟩
  refine call_on c3 ?_
  cases b3 : atXY W T cs (x - 1) y with
  | false => simp
  | true =>
  simp
  refine call_on c4 ?_
  cases b4 : atXY W T cs x y with
  | false => simp
  | true =>
  have hm := hsw (hs (by simp [b1, b2, b3, b4]))
  rw [hsd] at hm
  rw [hsd]
  simp
  generalize (y - 1) * W = z at *
  (repeat' first | omega | rfl | apply And.intro)
end Go.Proofs.Dev

namespace Go.Proofs.Dev
set_option linter.unusedSimpArgs false
set_option maxRecDepth 100000

theorem mid_cor {W T c : Int} (w1 : 1 ≤ W) (t1 : 1 ≤ T) (h : midB W T c = true) : 0 ≤ c ∧ c ≤ corI W T - 1 := by
  simp only [midB, decide_eq_true_eq] at h
  refine ⟨h.1, ?_⟩
  have e := Int.mul_ediv_add_emod c (W + 1)
  have m2 := Int.emod_lt_of_pos c (show 0 < W + 1 by omega)
  have h2 : (W + 1) * (c / (W + 1)) ≤ (W + 1) * T := Int.mul_le_mul_of_nonneg_left (by omega) (by omega)
  unfold corI
  rw [Int.mul_add, Int.mul_one]
  omega

theorem may_eq {W T : Int} {cs : List Bool} {ls : List Int} {c : Int} (hr : regB W T cs = true) (hy : laysB W T cs ls = true) (h0 : 0 ≤ c) :
    (sqB W T cs c && (flatB W ls c || upB W ls c)) = flipB W T ls c := by
  obtain ⟨w1, w2, t1, t2, l1, _⟩ := regB_W hr
  cases hf : flipB W T ls c with
  | true =>
    obtain ⟨⟨a1, a2, a3, a4⟩, _⟩ := flip_ok hr hy hf
    have hf2 := hf
    simp only [flipB, Bool.and_eq_true] at hf2
    obtain ⟨x, y, x0, x1, y0, y1, e, ex, ey⟩ := mid_at w1 hf2.1
    have hm : (y + 1) * W = y * W + W := by rw [Int.add_mul, Int.one_mul]
    rw [e] at a1 a2 a3 a4
    rw [hf2.2, Bool.and_true]
    simp only [sqB, atXY, ex, ey, Bool.and_eq_true, decide_eq_true_eq]
    refine ⟨⟨⟨⟨by omega, by omega, ?_⟩, by omega, by omega, ?_⟩, by omega, by omega, ?_⟩, by omega, by omega, ?_⟩
    · rw [show (y + 1 - 1) * W + (x + 1 - 1) = y * W + x by rw [show y + 1 - 1 = y by omega]; omega]; exact a1
    · rw [show (y + 1 - 1) * W + (x + 1) = y * W + x + 1 by rw [show y + 1 - 1 = y by omega]; omega]; exact a2
    · rw [show (y + 1) * W + (x + 1 - 1) = y * W + x + W by omega]; exact a3
    · rw [show (y + 1) * W + (x + 1) = y * W + x + W + 1 by omega]; exact a4
  | false =>
    cases hs : sqB W T cs c with
    | false => rfl
    | true =>
      have hm := sq_mid h0 hs
      simp only [flipB, hm, Bool.true_and] at hf
      simp [hf]

def mayI (W T : Int) (cs : List Bool) (ls : List Int) (c : Int) : Bool := (regB W T cs && laysB W T cs ls) && flipB W T ls c

theorem s_spec_FlipMay (W T : Int) (cs : List Bool) (ls : List Int) (c : Int) (hb : cs.length < 2 ^ 40) (hl : ls.length < 2 ^ 40) :
    SoundAt Tryz.prog n_spec_FlipMay [.agg [.v (.int .i64 W), .v (.int .i64 T), .sl 1 1 (bools cs)], .sl 1 1 (ints ls), .v (.int .i64 c)] (.v (.bool (mayI W T cs ls c))) [.bot, .bot, .bot] := by
  refine fn_ok (md := md5) (ms := [false, false, false]) k_spec_FlipMay (by simp) ?_
  simp [c_spec_FlipMay]
  refine call_on (s_spec_LaidOk W T cs ls hb hl) ?_
  unfold mayI
  cases hq : (regB W T cs && laysB W T cs ls) with
  | false => simp
  | true =>
  simp only [Bool.and_eq_true] at hq
  obtain ⟨hr, hy⟩ := hq
  obtain ⟨w1, w2, t1, t2, l1, _⟩ := regB_W hr
  have h36 := regB_len hr
  have hlen := lays_len hy
  have hc := cor_in w1 w2 t1 t2
  have cm := s_spec_CornerMany W T cs hb
  rw [if_pos hr] at cm
  simp
  refine call_on cm ?_
  simp
  refine ⟨by omega, ?_⟩
  by_cases hin : 0 ≤ c ∧ c ≤ corI W T - 1
  case neg =>
    have hf : flipB W T ls c = false := by
      cases hf : flipB W T ls c with
      | false => rfl
      | true =>
        simp only [flipB, Bool.and_eq_true] at hf
        exact absurd (mid_cor w1 t1 hf.1) hin
    refine call_on (s_spec_l1In_f (x := c) (lo := 0) (hi := corI W T - 1) hin) ?_
    simp [hf]
  refine call_on (s_spec_l1In_t (x := c) (lo := 0) (hi := corI W T - 1) hin) ?_
  simp
  have sq := s_spec_l5Square W T cs c hr hin.1 (by omega)
  have me := may_eq (c := c) hr hy hin.1
  cases hs : sqB W T cs c with
  | false =>
    have hff : flipB W T ls c = false := by rw [← me, hs]; rfl
    rw [if_neg (by rw [hs]; decide)] at sq
    refine call_on sq ?_
    simp [hff]
  | true =>
    have hff : flipB W T ls c = (flatB W ls c || upB W ls c) := by rw [← me, hs]; rfl
    rw [if_pos hs] at sq
    have hm := sw_at w1 (sq_mid hin.1 hs)
    rw [hff]
    refine call_on sq ?_
    have q0 := hm.1
    have q1 : swI W c < ls.length := by omega
    have q2 : 0 ≤ swI W c + W := by omega
    have q3 : swI W c + W < ls.length := by omega
    have q4 : 0 ≤ swI W c + 1 := by omega
    have q5 : swI W c + 1 < ls.length := by omega
    unfold flatB upB
    by_cases e1 : ati ls (swI W c) = 1
    · have e2 : ¬ ati ls (swI W c) = 2 := by omega
      simp [q0, q1, q2, q3, q4, q5, e1, e2]
    · by_cases e2 : ati ls (swI W c) = 2
      · simp [q0, q1, q2, q3, q4, q5, e1, e2]
        by_cases e3 : ati ls (swI W c + 1) = 2 <;> simp [e3]
      · simp [q0, q1, q2, q3, q4, q5, e1, e2]

theorem set4_acbd {ls : List Int} {a W : Int} (h0 : 0 ≤ a) (hW : 2 ≤ W) (p q r s : Int) : (((ls.set a.toNat p).set (a + W).toNat r).set (a + 1).toNat q).set (a + W + 1).toNat s = set4 ls a W p q r s := by
  unfold set4
  rw [List.set_comm _ _ (show (a + W).toNat ≠ (a + 1).toNat by omega)]

def flipL (W T : Int) (cs : List Bool) (ls : List Int) (c : Int) : List Int := if (regB W T cs && laysB W T cs ls) = true then flipI W T ls c else []

set_option maxHeartbeats 1000000 in
theorem s_spec_FlipOne (W T : Int) (cs : List Bool) (ls : List Int) (c : Int) (hb : cs.length < 2 ^ 40) (hl : ls.length < 2 ^ 40) :
    SoundAt Tryz.prog n_spec_FlipOne [.agg [.v (.int .i64 W), .v (.int .i64 T), .sl 1 1 (bools cs)], .sl 1 1 (ints ls), .v (.int .i64 c)]
      (.tup [.os 1 (ints (flipL W T cs ls c)), .v (.bool (mayI W T cs ls c))]) [.bot, .bot, .bot] := by
  refine fn_ok (md := md5) (ms := [false, false, false]) k_spec_FlipOne (by simp) ?_
  simp [c_spec_FlipOne]
  refine call_on (s_spec_LaidOk W T cs ls hb hl) ?_
  have may := s_spec_FlipMay W T cs ls c hb hl
  unfold mayI flipL at *
  cases hq : (regB W T cs && laysB W T cs ls) with
  | false => simp
  | true =>
  rw [hq] at may
  rw [if_pos rfl]
  simp only [Bool.and_eq_true] at hq
  obtain ⟨hr, hy⟩ := hq
  obtain ⟨w1, w2, t1, t2, l1, _⟩ := regB_W hr
  have h36 := regB_len hr
  have hlen := lays_len hy
  simp
  refine ⟨by omega, ?_⟩
  cases hf : flipB W T ls c with
  | false =>
    rw [hf] at may
    refine call_on may ?_
    have e : flipI W T ls c = ls := by unfold flipI; rw [hf]; rfl
    simp [e]
  | true =>
    rw [hf] at may
    refine call_on may ?_
    have hf2 := hf
    simp only [flipB, Bool.and_eq_true] at hf2
    have hW2 : 2 ≤ W := by
      obtain ⟨x, y, x0, x1, _⟩ := mid_at w1 hf2.1
      omega
    have hc0 := (mid_cor w1 t1 hf2.1)
    have hcor := cor_in w1 w2 t1 t2
    have me := may_eq (c := c) hr hy hc0.1
    rw [hf] at me
    have hs : sqB W T cs c = true := by
      simp only [Bool.and_eq_true] at me
      exact me.1
    have sq := s_spec_l5Square W T cs c hr hc0.1 (by omega)
    rw [if_pos hs] at sq
    have hm := sw_at w1 hf2.1
    have q0 := hm.1
    have q1 : swI W c < ls.length := by omega
    have q2 : 0 ≤ swI W c + W := by omega
    have q3 : swI W c + W < ls.length := by omega
    have q4 : 0 ≤ swI W c + 1 := by omega
    have q5 : swI W c + 1 < ls.length := by omega
    have q6 : 0 ≤ swI W c + W + 1 := by omega
    have q7 : swI W c + W + 1 < ls.length := by omega
    simp
    refine call_on sq ?_
    by_cases hF : flatB W ls c = true
    · have e : flipI W T ls c = set4 ls (swI W c) W 2 2 4 4 := by unfold flipI; rw [if_pos hf, if_pos hF]
      have hF2 := hF
      simp only [flatB, Bool.and_eq_true, decide_eq_true_eq] at hF2
      have ht : (ints (set4 ls (swI W c) W 2 2 4 4)).take ls.length = ints (set4 ls (swI W c) W 2 2 4 4) := List.take_of_length_le (by simp [set4_length])
      unfold set4 at ht e
      simp [q0, q1, q2, q3, q4, q5, q6, q7, hF2.1, ints_set, e, ht]
    · have e : flipI W T ls c = set4 ls (swI W c) W 1 3 1 3 := by unfold flipI; rw [if_pos hf, if_neg hF]
      have hU : upB W ls c = true := by
        have := hf2.2
        simp only [Bool.or_eq_true] at this
        exact this.resolve_left hF
      simp only [upB, Bool.and_eq_true, decide_eq_true_eq] at hU
      have hn1 : ¬ ati ls (swI W c) = 1 := by omega
      have ht : (ints (set4 ls (swI W c) W 1 3 1 3)).take ls.length = ints (set4 ls (swI W c) W 1 3 1 3) := List.take_of_length_le (by simp [set4_length])
      have e4 := set4_acbd (ls := ls) q0 hW2 1 3 1 3
      simp [q0, q1, q2, q3, q4, q5, q6, q7, hU.1, hn1, ints_set, e, e4, ht, set4_length]

/-- The corners that can be flipped, below n. -/
def flipsTo (W T : Int) (cs : List Bool) (ls : List Int) (n : Nat) : List Int := (List.range n).flatMap fun k : Nat => if mayI W T cs ls k then [(k : Int)] else []
theorem flipsTo_succ (W T : Int) (cs : List Bool) (ls : List Int) (n : Nat) : flipsTo W T cs ls (n + 1) = flipsTo W T cs ls n ++ if mayI W T cs ls n then [(n : Int)] else [] := by simp [flipsTo, List.range_succ]
theorem flipsTo_length (W T : Int) (cs : List Bool) (ls : List Int) : ∀ n, (flipsTo W T cs ls n).length ≤ n
  | 0 => by simp [flipsTo]
  | n + 1 => by
    have := flipsTo_length W T cs ls n
    rw [flipsTo_succ]; split <;> simp <;> omega
theorem flipsTo_mem {W T : Int} {cs : List Bool} {ls : List Int} {n : Nat} {x : Int} (h : x ∈ flipsTo W T cs ls n) : 0 ≤ x ∧ x < n := by
  simp only [flipsTo, List.mem_flatMap, List.mem_range] at h
  obtain ⟨k, hk, h⟩ := h
  split at h
  · simp at h; omega
  · simp at h
def corN (W T : Int) (cs : List Bool) : Nat := if regB W T cs = true then (corI W T).toNat else 0
theorem corN_le (W T : Int) (cs : List Bool) : corN W T cs ≤ 49 := by
  unfold corN; split
  · rename_i hr
    obtain ⟨w1, w2, t1, t2, _⟩ := regB_W hr
    have := cor_in w1 w2 t1 t2
    omega
  · omega
def flipsI (W T : Int) (cs : List Bool) (ls : List Int) : List Int := flipsTo W T cs ls (corN W T cs)

theorem s_spec_FlipsOf (W T : Int) (cs : List Bool) (ls : List Int) (hb : cs.length < 2 ^ 40) (hl : ls.length < 2 ^ 40) :
    SoundAt Tryz.prog n_spec_FlipsOf [.agg [.v (.int .i64 W), .v (.int .i64 T), .sl 1 1 (bools cs)], .sl 1 1 (ints ls)] (.os 1 (ints (flipsI W T cs ls))) [.bot, .bot] := by
  refine fn_ok (md := md5) (ms := [false, false]) k_spec_FlipsOf (by simp) ?_
  have cm := s_spec_CornerMany W T cs hb
  have h49 := corN_le W T cs
  have hcor : ∀ k : Nat, ((k : Int) < if regB W T cs = true then corI W T else -1) ↔ k < corN W T cs := by
    intro k
    unfold corN
    split
    · rename_i hr
      obtain ⟨w1, w2, t1, t2, _⟩ := regB_W hr
      have := cor_in w1 w2 t1 t2
      omega
    · omega
  simp [c_spec_FlipsOf]
  refine loop_by (fun m E H => ∃ i : Nat, m = corN W T cs - i ∧ i ≤ corN W T cs ∧ E = [(1, .sl 1 1 (ints ls)), (2, .lp 0 0 0 0), (5, .ls 1 1 0 (flipsTo W T cs ls i).length), (6, .v (.int .i64 i))] ∧
    H = [some (.box [.v (.int .i64 W), .v (.int .i64 T), .sl 1 1 (bools cs)]), some (.arr 1 (ints (flipsTo W T cs ls i)))]) (corN W T cs) ⟨0, rfl, by omega, by simp [flipsTo], by simp [flipsTo]⟩ ?_
  rintro J hJ m E H ⟨i, rfl, hi, rfl, rfl⟩
  have hfl := flipsTo_length W T cs ls i
  have hc := hcor i
  have may := s_spec_FlipMay W T cs ls i hb hl
  have hstep := flipsTo_succ W T cs ls i
  simp [c_spec_FlipsOf_L0]
  refine call_on cm ?_
  by_cases h : i < corN W T cs
  · have hc2 := hc.2 h
    simp [hc2]
    refine call_on may ?_
    cases hm : mayI W T cs ls i with
    | false =>
      rw [hm] at hstep
      simp at hstep
      simp
      exact ⟨by omega, _, by omega, hJ _ _ _ ⟨i + 1, rfl, h, by simp [hstep], by simp [hstep]⟩⟩
    | true =>
      rw [hm] at hstep
      simp at hstep
      simp
      exact ⟨by omega, by omega, _, by omega, hJ _ _ _ ⟨i + 1, rfl, h, by simp [hstep], by simp [hstep, ints_append, ints_one]⟩⟩
  · have hc2 : ¬ ((i : Int) < if regB W T cs = true then corI W T else -1) := fun h2 => h (hc.1 h2)
    have : i = corN W T cs := by omega
    subst this
    have ht : (ints (flipsTo W T cs ls (corN W T cs))).take (flipsTo W T cs ls (corN W T cs)).length = ints (flipsTo W T cs ls (corN W T cs)) := take_ints_all _
    simp [hc2, flipsI, ht]
end Go.Proofs.Dev

namespace Go.Proofs.Dev

end Go.Proofs.Dev

namespace Go.Proofs.Dev
set_option linter.unusedSimpArgs false
set_option maxRecDepth 100000

end Go.Proofs.Dev

namespace Go.Proofs.Dev
set_option linter.unusedSimpArgs false
set_option maxRecDepth 100000

@[simp] theorem awpEarly_some {P : Program} {md : Nat → List Bool} {K : ES → Heap → Prop} {E : ES} {H : Heap} {dst : Option Nat} {k : AK} {xs : List Opd} {s : Nat} {w : Bool} {os : List AOper} {p : Plan} :
    awpEarly P md (⟨dst, k, xs, some (s, w)⟩ :: os) p K E H = (viewOk ⟨dst, k, xs, some (s, w)⟩ E ∧ guardK P md ⟨dst, k, xs, some (s, w)⟩ s w (awpEarly P md os p K) E H (get E s)) := (rfl)

end Go.Proofs.Dev

namespace Go.Proofs.Dev
set_option linter.unusedSimpArgs false
set_option maxRecDepth 100000

theorem s_spec_LiftOne (W T : Int) (cs : List Bool) (ls : List Int) (k : Nat) (hr : regB W T cs = true) (hy : laysB W T cs ls = true) (hk : k < ls.length) :
    SoundAt Tryz.prog n_spec_LiftOne [.agg [.v (.int .i64 W), .v (.int .i64 T), .sl 1 1 (bools cs)], .sl 1 1 (ints ls), .v (.int .i64 k)]
      (if ati ls k = 0 then .tup [.os 1 (ints ls), .v (.bool false)] else .tup [.os 1 (ints (liftI W T ls k)), .v (.bool true)]) [.bot, .bot, .bot] := by
  refine fn_ok (md := md5) (ms := [false, false, false]) k_spec_LiftOne (by simp) ?_
  have h36 := regB_len hr
  have hl := lays_len hy
  simp [c_spec_LiftOne]
  refine call_on (s_spec_LaidOk W T cs ls (by omega) (by omega)) ?_
  simp [hr, hy]
  refine ⟨by omega, by omega, ?_⟩
  refine call_on (s_spec_l1In_t (x := k) (lo := 0) (hi := (ls.length : Int) - 1) (by omega)) ?_
  by_cases hz : ati ls k = 0
  · simp [hk, hz]
  obtain ⟨t, e, ht, htk, _⟩ := lift_at hr hy hk hz
  have eL : liftI W T ls k = (ls.set t 0).set k 0 := by unfold liftI; rw [e]; simp
  rw [eL]
  have one := s_spec_l2Step W T cs k (ati ls k) hr (by omega) (by omega)
  rw [e] at one
  simp [hk, hz]
  (repeat' first | assumption | omega | apply And.intro) <;>
  · refine call_on one ?_
    have htk2 : (ints ((ls.set t 0).set k 0)).take ls.length = ints ((ls.set t 0).set k 0) := List.take_of_length_le (by simp)
    simp [ht, hk, ints_set, c_spec_LiftOne_T0, htk2]

end Go.Proofs.Dev

namespace Go.Proofs.Dev
set_option linter.unusedSimpArgs false
set_option maxRecDepth 100000


@[simp] theorem take_raw (us : List Value) : (rawL us).take us.length = rawL us := List.take_of_length_le (by simp)

end Go.Proofs.Dev

namespace Go.Proofs.Dev
set_option linter.unusedSimpArgs false
set_option maxRecDepth 100000

def needB (d : Int × Int × Int) : Bool :=
  if d.1 = 0 then true else if d.1 = 1 ∨ d.1 = 2 then decide (d.2.2 = 0) else if d.1 = 3 ∨ d.1 = 4 then decide (d.2.1 = 0 ∧ d.2.2 = 0) else false

theorem s_spec_l10Named (d : Int × Int × Int) : SoundAt Tryz.prog n_spec_l10Named [deedA d] (.v (.bool (needB d))) [.bot] := by
  obtain ⟨k, s, w⟩ := d
  refine fn_ok (md := md3) (ms := [false]) k_spec_l10Named (by simp [deedA]) ?_
  by_cases h0 : k = 0 <;> by_cases h1 : k = 1 <;> by_cases h2 : k = 2 <;> by_cases h3 : k = 3 <;> by_cases h4 : k = 4 <;> by_cases hs : s = 0 <;> by_cases hw : w = 0 <;> first | (exfalso; omega) | (simp [c_spec_l10Named, deedA, needB, h0, h1, h2, h3, h4, hs, hw])

end Go.Proofs.Dev

namespace Go.Proofs.Dev
set_option linter.unusedSimpArgs false
set_option maxRecDepth 100000

end Go.Proofs.Dev

namespace Go.Proofs.Dev
set_option linter.unusedSimpArgs false
set_option maxRecDepth 100000

@[simp] theorem take_sls_all (c : Nat) (ps : List (List Int)) : (sls c ps).take ps.length = sls c ps := List.take_of_length_le (by simp)

/-- What the marks of lists of lists are. -/
def marksSS : Int → List (List Int) → List (List Int)
  | _, [] => []
  | k, p :: ps => marksI p.length k :: marksSS (k + p.length) ps
@[simp] theorem marksSS_length : ∀ (k : Int) (a : List (List Int)), (marksSS k a).length = a.length
  | k, [] => by simp [marksSS]
  | k, p :: a => by simp [marksSS, marksSS_length]
@[simp] theorem take_marksSS (k : Int) (ps : List (List Int)) : (oss (marksSS k ps)).take ps.length = oss (marksSS k ps) := List.take_of_length_le (by simp)
end Go.Proofs.Dev
