/- Contracts of the functions of the program over slots and rows, each proved against the program itself; no condition beyond those that each theorem names. -/
import Derived.Test.YtfkmfobbgoflgaaAL
import Derived.Test.YtfkmfobbgoflgaaProg
import Derived.Test.YtfkmfobbgoflgaaAH

set_option linter.unusedSimpArgs false
set_option linter.unusedVariables false

namespace Go.Proofs.Dev
set_option linter.unusedSimpArgs false

theorem firstI_min {p : Nat → Bool} {n k : Nat} (h : firstI p n = k) : ∀ j, j < k → p j = false := by
  intro j hj
  unfold firstI at h
  split at h
  · rename_i k' hk
    rw [List.find?_range_eq_some] at hk
    have : k' = k := by omega
    subst this
    have := hk.2.2 j hj
    simpa using this
  · omega

theorem ati_lay {W T : Int} {ls : List Int} {cell way : Int} (hc : cell.toNat < ls.length) (hto : (stepI W T cell way).toNat < ls.length) (j : Nat) :
    ati (layI W T ls cell way) j = if j = (stepI W T cell way).toNat then backI way else if j = cell.toNat then way else ati ls j := by
  unfold layI
  rw [ati_set (by simpa using hto), ati_set hc]

theorem free_facts {W T : Int} {cs : List Bool} {ls : List Int} {k : Nat} {way : Int} (hr : regB W T cs = true) (hl : ls.length = cs.length) (hf : freeB W T cs ls k way = true) :
    ∃ t : Nat, stepI W T k way = t ∧ t < ls.length ∧ k < ls.length ∧ t ≠ k ∧ 1 ≤ way ∧ way ≤ 4 ∧ stepI W T t (backI way) = k ∧ atb cs t = true ∧ ati ls k = 0 ∧ ati ls t = 0 ∧
      ∀ j : Nat, ati (layI W T ls k way) j = if j = t then backI way else if j = k then way else ati ls j := by
  obtain ⟨w1, w2, t1, t2, l1, _⟩ := regB_W hr
  simp only [freeB, decide_eq_true_eq] at hf
  obtain ⟨f0, f1, f2, f3, f4, f5, f6⟩ := hf
  obtain ⟨b1, b2, b3, b4, b5⟩ := step_back (T := T) w1 f0 (by omega) f2
  have e : stepI W T k way = ((stepI W T k way).toNat : Nat) := by omega
  refine ⟨(stepI W T k way).toNat, e, by omega, by omega, by omega, b2, b3, by rw [← e]; exact b1, by rw [← e]; exact f4, f5, by rw [← e]; exact f6, ?_⟩
  intro j
  rw [ati_lay (by omega) (by omega)]
  simp

theorem lays_at {W T : Int} {cs : List Bool} {ls : List Int} (hy : laysB W T cs ls = true) {k : Nat} (hk : k < ls.length) (hv : ati ls k ≠ 0) :
    1 ≤ ati ls k ∧ ati ls k ≤ 4 ∧ atb cs k = true ∧ 0 ≤ stepI W T k (ati ls k) ∧ atb cs (stepI W T k (ati ls k)) = true ∧ ati ls (stepI W T k (ati ls k)) = backI (ati ls k) := by
  simp only [laysB, Bool.and_eq_true, decide_eq_true_eq, allB_iff] at hy
  have := hy.2 k hk
  simp only [layAt, decide_eq_true_eq] at this
  rcases this with h | h
  · exact absurd h hv
  · exact h

theorem lays_len {W T : Int} {cs : List Bool} {ls : List Int} (hy : laysB W T cs ls = true) : ls.length = cs.length := by
  simp only [laysB, Bool.and_eq_true, decide_eq_true_eq] at hy; exact hy.1

end Go.Proofs.Dev

namespace Go.Proofs.Dev
set_option linter.unusedSimpArgs false

def clr (G : Nat → Bool) (j : Nat) : Nat → Bool := fun i => G i && !(decide (i = j))
/-- In how many ways the free cells from a cell on are covered. -/
def cntF (W T : Int) : Nat → Nat → (Nat → Bool) → Nat
  | 0, _, _ => 1
  | f + 1, c, G => if G c = true then (if 0 ≤ stepI W T c 1 ∧ G (c + 1) = true then cntF W T f (c + 1) (clr G (c + 1)) else 0) + (if 0 ≤ stepI W T c 2 ∧ G (c + W.toNat) = true then cntF W T f (c + 1) (clr G (c + W.toNat)) else 0)
    else cntF W T f (c + 1) G

theorem cntF_congr {W T : Int} : ∀ (f c : Nat) {G G' : Nat → Bool}, (∀ i, c ≤ i → G i = G' i) → cntF W T f c G = cntF W T f c G'
  | 0, _, _, _, _ => rfl
  | f + 1, c, G, G', h => by
    have h1 := cntF_congr (W := W) (T := T) f (c + 1) (G := G) (G' := G') (fun i hi => h i (by omega))
    have h2 := cntF_congr (W := W) (T := T) f (c + 1) (G := clr G (c + 1)) (G' := clr G' (c + 1)) (fun i hi => by simp [clr, h i (by omega)])
    have h3 := cntF_congr (W := W) (T := T) f (c + 1) (G := clr G (c + W.toNat)) (G' := clr G' (c + W.toNat)) (fun i hi => by simp [clr, h i (by omega)])
    simp only [cntF, h c (Nat.le_refl c), h (c + 1) (by omega), h (c + W.toNat) (by omega), h1, h2, h3]

theorem cntF_skip {W T : Int} (f : Nat) {G : Nat → Bool} : ∀ (d c : Nat), (∀ i, c ≤ i → i < c + d → G i = false) → cntF W T (f + d) c G = cntF W T f (c + d) G
  | 0, c, _ => rfl
  | d + 1, c, h => by
    have h0 := h c (Nat.le_refl c) (by omega)
    have h1 := cntF_skip (W := W) (T := T) f d (c + 1) (fun i h2 h3 => h i (by omega) (by omega))
    rw [show f + (d + 1) = (f + d) + 1 by omega, cntF, if_neg (by simp [h0]), h1, show c + 1 + d = c + (d + 1) by omega]

theorem cntF_le {W T : Int} : ∀ (f c : Nat) (G : Nat → Bool), cntF W T f c G ≤ 2 ^ f
  | 0, _, _ => by simp [cntF]
  | f + 1, c, G => by
    have h1 := cntF_le (W := W) (T := T) f (c + 1) G
    have h2 := cntF_le (W := W) (T := T) f (c + 1) (clr G (c + 1))
    have h3 := cntF_le (W := W) (T := T) f (c + 1) (clr G (c + W.toNat))
    rw [cntF, Nat.pow_succ]
    split
    · split <;> split <;> omega
    · omega

theorem stepE {W T : Int} {c : Nat} (h : 0 ≤ stepI W T c 1) : stepI W T c 1 = ((c + 1 : Nat) : Int) := by
  unfold stepI at h ⊢
  by_cases hc : (c : Int) % W < W - 1
  · simp [hc]
  · simp [hc] at h
theorem stepN {W T : Int} {c : Nat} (hW : 1 ≤ W) (h : 0 ≤ stepI W T c 2) : stepI W T c 2 = ((c + W.toNat : Nat) : Int) := by
  unfold stepI at h ⊢
  by_cases hc : (c : Int) / W < T - 1
  · simp [hc]; omega
  · simp [hc] at h

/-- The count of the ways to lay on all free cells is that of the tilings. -/
theorem cnt_allT {W T : Int} {cs : List Bool} (hr : regB W T cs = true) : ∀ (n : Nat) (ls : List Int), zeros ls ≤ n → laysB W T cs ls = true → cntF W T cs.length 0 (bareB cs ls) = (allT W T cs n ls).length := by
  obtain ⟨w1, w2, t1, t2, l1, _⟩ := regB_W hr
  intro n
  induction n with
  | zero =>
    intro ls hz hy
    have hlen : ls.length = cs.length := by simp only [laysB, Bool.and_eq_true, decide_eq_true_eq] at hy; exact hy.1
    have hf : ∀ i, 0 ≤ i → i < 0 + cs.length → bareB cs ls i = false := by
      intro i _ hi
      cases hb : bareB cs ls i with
      | false => rfl
      | true =>
        simp only [bareB, Bool.and_eq_true, decide_eq_true_eq] at hb
        have := zeros_set_lt (ls := ls) (i := i) (v := 1) (by omega) hb.2 (by omega)
        omega
    have := cntF_skip (W := W) (T := T) 0 cs.length 0 hf
    rw [Nat.zero_add] at this
    rw [this]; simp [cntF, allT]
  | succ n ih =>
    intro ls hz hy
    have hlen : ls.length = cs.length := by simp only [laysB, Bool.and_eq_true, decide_eq_true_eq] at hy; exact hy.1
    rcases bare_cases cs ls with hb | ⟨c, hc, hb, hcs, hls⟩
    · have hf : ∀ i, 0 ≤ i → i < 0 + cs.length → bareB cs ls i = false := by
        intro i _ hi
        exact firstI_neg (p := bareB cs ls) (n := ls.length) (by unfold bareI at hb; omega) i (by omega)
      have := cntF_skip (W := W) (T := T) 0 cs.length 0 hf
      rw [Nat.zero_add] at this
      rw [this]; simp [cntF, allT, hb]
    have hmin := firstI_min (by unfold bareI at hb; exact hb)
    have hGc : bareB cs ls c = true := by simp [bareB, hcs, hls]
    obtain ⟨m, hm⟩ : ∃ m, cs.length = (m + 1) + c := ⟨cs.length - c - 1, by omega⟩
    have hskip := cntF_skip (W := W) (T := T) (m + 1) (G := bareB cs ls) c 0 (fun i _ hi => hmin i (by omega))
    rw [← hm, Nat.zero_add] at hskip
    rw [hskip, cntF, if_pos hGc, allT]
    have hneg : ¬ bareI cs ls < 0 := by omega
    rw [if_neg hneg, List.length_append, hb]
    -- one direction
    have one : ∀ (way d : Nat), (way = 1 ∨ way = 2) → (0 ≤ stepI W T c way → stepI W T c way = ((c + d : Nat) : Int)) → 1 ≤ d →
        (if 0 ≤ stepI W T c way ∧ bareB cs ls (c + d) = true then cntF W T m (c + 1) (clr (bareB cs ls) (c + d)) else 0) = (if freeB W T cs ls c way = true then allT W T cs n (layI W T ls c way) else []).length := by
      intro way d hw hst hd
      have hfree : freeB W T cs ls c way = true ↔ (0 ≤ stepI W T c way ∧ bareB cs ls (c + d) = true) := by
        simp only [freeB, decide_eq_true_eq, bareB, Bool.and_eq_true]
        constructor
        · rintro ⟨_, _, h2, _, h4, _, h6⟩
          have e := hst h2
          rw [e] at h4 h6
          exact ⟨h2, h4, h6⟩
        · rintro ⟨h2, h4, h6⟩
          have e := hst h2
          rw [e]
          exact ⟨by omega, by omega, by omega, hcs, h4, hls, h6⟩
      by_cases hfr : freeB W T cs ls c way = true
      · rw [if_pos hfr, if_pos (hfree.1 hfr)]
        have h2 := (hfree.1 hfr).1
        have e := hst h2
        have hlt := (step_back (T := T) (k := c) (way := way) w1 (by omega) (by omega) h2).2.2.2.2
        have hto : (stepI W T c way).toNat < ls.length := by omega
        have hzz := lay_zeros (W := W) (T := T) (ls := ls) (k := c) (way := way) hc hls (by omega) (by omega)
        rw [← ih (layI W T ls c way) (by omega) (lay_ok hr hy hfr)]
        obtain ⟨t, et, _, _, _, v1, v4, _, _, _, _, hA⟩ := free_facts hr hlen hfr
        have etd : t = c + d := by omega
        have hat : ∀ i : Nat, bareB cs (layI W T ls c way) i = (bareB cs ls i && !decide (i = c) && !decide (i = c + d)) := by
          intro i
          have hbk : backI way ≠ 0 := by
            have := (backI_back v1 v4).2
            omega
          simp only [bareB, hA i]
          by_cases e1 : i = t
          · have e3 : i = c + d := by omega
            rw [if_pos e1]; simp [hbk, e3]
          · have e3 : ¬ i = c + d := by omega
            by_cases e2 : i = c
            · have hw0 : (way : Int) ≠ 0 := by omega
              have hw1 : ¬ way = 0 := by omega
              rw [if_neg e1, if_pos e2]; simp [hw1, e2]
            · rw [if_neg e1, if_neg e2]; simp [e2, e3]
        have hsk := cntF_skip (W := W) (T := T) m (G := bareB cs (layI W T ls c way)) (c + 1) 0 (fun i _ hi => by
          rw [hat]
          by_cases e1 : i = c
          · simp [e1]
          · rw [hmin i (by omega)]; rfl)
        rw [Nat.zero_add, show m + (c + 1) = cs.length by omega] at hsk
        rw [hsk]
        apply cntF_congr
        intro i hi
        rw [hat]
        have e2 : ¬ i = c := by omega
        simp [clr, e2]
      · rw [if_neg hfr, if_neg (fun h => hfr (hfree.2 h))]
        rfl
    have h1 := one 1 1 (.inl rfl) (fun h => stepE h) (by omega)
    have h2 := one 2 W.toNat (.inr rfl) (fun h => stepN w1 h) (by omega)
    have e1 : ((1 : Nat) : Int) = 1 := rfl
    have e2 : ((2 : Nat) : Int) = 2 := rfl
    rw [e1] at h1
    rw [e2] at h2
    rw [h1, h2]

/-! Sets of covered cells, as bits. -/
def setG (F : Nat → Bool) (c s : Nat) : Nat → Bool := fun i => F i && !(s.testBit (i - c))

def optsN (W T : Int) (F : Nat → Bool) (c s : Nat) : List Nat :=
  if s % 2 = 1 ∨ F c = false then [s / 2] else
    (if 0 ≤ stepI W T c 1 ∧ F (c + 1) = true ∧ s / 2 % 2 = 0 then [s / 2 + 1] else []) ++ (if 0 ≤ stepI W T c 2 ∧ F (c + W.toNat) = true then [s / 2 + 2 ^ (W.toNat - 1)] else [])

theorem bit_half (s i c : Nat) (h : c + 1 ≤ i) : (s / 2).testBit (i - (c + 1)) = s.testBit (i - c) := by
  rw [show i - c = (i - (c + 1)) + 1 by omega, Nat.testBit_succ]
theorem bit_even {x : Nat} (h : x % 2 = 0) (j : Nat) : (x + 1).testBit j = (decide (j = 0) || x.testBit j) := by
  cases j with
  | zero => rw [Nat.testBit_zero]; simp; omega
  | succ j => rw [Nat.testBit_succ, Nat.testBit_succ, show (x + 1) / 2 = x / 2 by omega]; simp
theorem bit_top {x k : Nat} (h : x < 2 ^ k) (j : Nat) : (x + 2 ^ k).testBit j = (decide (j = k) || x.testBit j) := by
  rw [Nat.add_comm]
  rcases Nat.lt_trichotomy j k with h1 | h1 | h1
  · rw [Nat.testBit_two_pow_add_gt h1]; simp; omega
  · subst h1; rw [Nat.testBit_two_pow_add_eq, Nat.testBit_lt_two_pow h]; simp
  · have e1 : (2 ^ k + x) < 2 ^ j := by
      have : 2 ^ (k + 1) ≤ 2 ^ j := Nat.pow_le_pow_right (by omega) (by omega)
      rw [Nat.pow_succ] at this
      omega
    rw [Nat.testBit_lt_two_pow e1, Nat.testBit_lt_two_pow (by omega)]; simp; omega

/-- The ways from a cell on are the sum of those behind its choices. -/
theorem opts_sum {W T : Int} (hW : 1 ≤ W) (F : Nat → Bool) (f c s : Nat) (hs : s < 2 ^ W.toNat) :
    ((optsN W T F c s).map fun o => cntF W T f (c + 1) (setG F (c + 1) o)).sum = cntF W T (f + 1) c (setG F c s) := by
  have hw : W.toNat = (W.toNat - 1) + 1 := by omega
  have hs2 : s / 2 < 2 ^ (W.toNat - 1) := by rw [hw, Nat.pow_succ] at hs; omega
  have hzero : s.testBit 0 = decide (s % 2 = 1) := by rw [Nat.testBit_zero]
  unfold optsN
  by_cases h : s % 2 = 1 ∨ F c = false
  · rw [if_pos h]
    have hG : ¬ setG F c s c = true := by
      simp only [setG, Nat.sub_self, hzero]
      rcases h with h | h <;> simp [h]
    rw [cntF, if_neg hG]
    simp only [List.map_cons, List.map_nil, List.sum_cons, List.sum_nil, Nat.add_zero]
    apply cntF_congr
    intro i hi
    simp only [setG, bit_half s i c hi]
  · rw [if_neg h]
    have h1 : s % 2 = 0 := by omega
    have h2 : F c = true := by
      cases hF : F c with
      | true => rfl
      | false => exact absurd (.inr hF) h
    have hG : setG F c s c = true := by simp only [setG, Nat.sub_self, hzero, h2]; simp; omega
    have hGe : setG F c s (c + 1) = (F (c + 1) && decide (s / 2 % 2 = 0)) := by
      simp only [setG, show c + 1 - c = 0 + 1 by omega, Nat.testBit_succ, Nat.testBit_zero]
      congr 1
      rcases Nat.mod_two_eq_zero_or_one (s / 2) with h3 | h3 <;> simp [h3]
    have hGn : setG F c s (c + W.toNat) = F (c + W.toNat) := by
      simp only [setG, show c + W.toNat - c = W.toNat by omega, Nat.testBit_lt_two_pow hs]; simp
    rw [cntF, if_pos hG, List.map_append, List.sum_append, hGe, hGn]
    congr 1
    · by_cases h3 : 0 ≤ stepI W T c 1 ∧ F (c + 1) = true ∧ s / 2 % 2 = 0
      · rw [if_pos h3, if_pos (by simp [h3.1, h3.2.1, h3.2.2])]
        simp only [List.map_cons, List.map_nil, List.sum_cons, List.sum_nil, Nat.add_zero]
        apply cntF_congr
        intro i hi
        simp only [setG, clr, bit_even h3.2.2, bit_half s i c hi]
        by_cases e : i = c + 1
        · simp [e]
        · have : ¬ i - (c + 1) = 0 := by omega
          simp [e, this]
      · rw [if_neg h3, if_neg (fun h4 => h3 (by simpa using h4))]
        rfl
    · by_cases h3 : 0 ≤ stepI W T c 2 ∧ F (c + W.toNat) = true
      · rw [if_pos h3, if_pos h3]
        simp only [List.map_cons, List.map_nil, List.sum_cons, List.sum_nil, Nat.add_zero]
        apply cntF_congr
        intro i hi
        simp only [setG, clr, bit_top hs2, bit_half s i c hi]
        by_cases e : i = c + W.toNat
        · subst e
          have : c + W.toNat - (c + 1) = W.toNat - 1 := by omega
          simp [this]
        · have : ¬ i - (c + 1) = W.toNat - 1 := by omega
          simp [e, this]
      · rw [if_neg h3, if_neg h3]
        rfl

theorem opts_lt {W T : Int} (hW : 1 ≤ W) {F : Nat → Bool} {n c s o : Nat} (hn : ∀ i, n ≤ i → F i = false) (hc : c < n) (h1 : s < 2 ^ W.toNat) (h2 : s < 2 ^ (n - c)) (ho : o ∈ optsN W T F c s) : o < 2 ^ W.toNat ∧ o < 2 ^ (n - (c + 1)) := by
  have hw : W.toNat = (W.toNat - 1) + 1 := by omega
  have hnc : n - c = (n - (c + 1)) + 1 := by omega
  have e1 : 2 ^ W.toNat = 2 ^ (W.toNat - 1) * 2 := by conv => lhs; rw [hw, Nat.pow_succ]
  have e2 : 2 ^ (n - c) = 2 ^ (n - (c + 1)) * 2 := by conv => lhs; rw [hnc, Nat.pow_succ]
  have p1 : 0 < 2 ^ (W.toNat - 1) := Nat.pow_pos (by omega)
  unfold optsN at ho
  split at ho
  · simp at ho; subst ho; omega
  · rcases List.mem_append.1 ho with ho | ho
    · split at ho
      · rename_i h
        simp at ho; subst ho
        have : c + 1 < n := by
          rcases Nat.lt_or_ge (c + 1) n with h5 | h5
          · exact h5
          · rw [hn _ h5] at h; simp at h
        have e3 : 2 ^ (n - (c + 1)) = 2 ^ (n - (c + 1) - 1) * 2 := by rw [← Nat.pow_succ]; congr 1; omega
        have h6 := h.2.2
        have h7 : s / 2 + 1 < 2 ^ W.toNat := by omega
        refine ⟨h7, ?_⟩
        omega
      · cases ho
    · split at ho
      · rename_i h
        simp at ho; subst ho
        have : c + W.toNat < n := by
          rcases Nat.lt_or_ge (c + W.toNat) n with h5 | h5
          · exact h5
          · rw [hn _ h5] at h; simp at h
        have h8 : 2 ^ W.toNat ≤ 2 ^ (n - (c + 1)) := Nat.pow_le_pow_right (by omega) (by omega)
        omega
      · cases ho

theorem opts_len {W T : Int} {F : Nat → Bool} {c s : Nat} : (optsN W T F c s).length ≤ 2 := by
  unfold optsN
  split
  · simp
  · rw [List.length_append]; split <;> split <;> simp

/-! Sets with their ways. -/
def addP : List (Nat × Nat) → Nat → Nat → List (Nat × Nat)
  | [], o, v => [(o, v)]
  | p :: P, o, v => if p.1 = o then (o, p.2 + v) :: P else p :: addP P o v

def wsum (g : Nat → Nat) (P : List (Nat × Nat)) : Nat := (P.map fun p => p.2 * g p.1).sum

theorem wsum_addP (g : Nat → Nat) : ∀ (P : List (Nat × Nat)) (o v : Nat), wsum g (addP P o v) = wsum g P + v * g o
  | [], o, v => by simp [addP, wsum]
  | p :: P, o, v => by
    have ih := wsum_addP g P o v
    unfold wsum at ih ⊢
    simp only [addP]
    split
    · rename_i h
      simp only [List.map_cons, List.sum_cons, h, Nat.add_mul]; omega
    · simp only [List.map_cons, List.sum_cons, ih]; omega

theorem addP_length : ∀ (P : List (Nat × Nat)) (o v : Nat), (addP P o v).length ≤ P.length + 1
  | [], o, v => by simp [addP]
  | p :: P, o, v => by
    have ih := addP_length P o v
    simp only [addP]; split <;> simp; omega

theorem addP_mem : ∀ (P : List (Nat × Nat)) (o v : Nat) (q : Nat × Nat), q ∈ addP P o v → q.1 = o ∨ ∃ p ∈ P, q.1 = p.1
  | [], o, v, q, h => by simp [addP] at h; left; rw [h]
  | p :: P, o, v, q, h => by
    simp only [addP] at h
    split at h
    · rcases List.mem_cons.1 h with h | h
      · left; rw [h]
      · right; exact ⟨q, List.mem_cons_of_mem _ h, rfl⟩
    · rcases List.mem_cons.1 h with h | h
      · right; exact ⟨p, by simp, by rw [h]⟩
      · rcases addP_mem P o v q h with h | ⟨p', h1, h2⟩
        · left; exact h
        · right; exact ⟨p', List.mem_cons_of_mem _ h1, h2⟩

theorem addP_new : ∀ {P : List (Nat × Nat)} {o : Nat} (v : Nat), (∀ p ∈ P, p.1 ≠ o) → addP P o v = P ++ [(o, v)]
  | [], o, v, _ => rfl
  | p :: P, o, v, h => by
    simp only [addP]
    rw [if_neg (h p (by simp)), addP_new v (fun q hq => h q (by simp [hq]))]; rfl

theorem addP_at : ∀ {P : List (Nat × Nat)} {o i u : Nat} (v : Nat), P[i]? = some (o, u) → (∀ j, j < i → ∀ p, P[j]? = some p → p.1 ≠ o) → addP P o v = P.set i (o, u + v)
  | [], o, i, u, v, h, _ => by simp at h
  | p :: P, o, 0, u, v, h, _ => by
    simp at h
    simp [addP, h]
  | p :: P, o, i + 1, u, v, h, h2 => by
    simp only [addP]
    rw [if_neg (h2 0 (by omega) p (by simp)), addP_at v (i := i) (u := u) (by simpa using h) (fun j hj q hq => h2 (j + 1) (by omega) q (by simpa using hq))]
    rfl

def addAll (P : List (Nat × Nat)) (os : List Nat) (v : Nat) : List (Nat × Nat) := os.foldl (fun P o => addP P o v) P
theorem wsum_addAll (g : Nat → Nat) (v : Nat) : ∀ (os : List Nat) (P : List (Nat × Nat)), wsum g (addAll P os v) = wsum g P + v * (os.map g).sum
  | [], P => by simp [addAll]
  | o :: os, P => by
    have := wsum_addAll g v os (addP P o v)
    unfold addAll at this ⊢
    rw [List.foldl_cons, this, wsum_addP, List.map_cons, List.sum_cons, Nat.mul_add]; omega

theorem addAll_length (v : Nat) : ∀ (os : List Nat) (P : List (Nat × Nat)), (addAll P os v).length ≤ P.length + os.length
  | [], P => by simp [addAll]
  | o :: os, P => by
    have := addAll_length v os (addP P o v)
    have h2 := addP_length P o v
    unfold addAll at this ⊢
    rw [List.foldl_cons, List.length_cons]; omega

theorem addAll_mem (v : Nat) : ∀ (os : List Nat) (P : List (Nat × Nat)) (q : Nat × Nat), q ∈ addAll P os v → q.1 ∈ os ∨ ∃ p ∈ P, q.1 = p.1
  | [], P, q, h => .inr ⟨q, h, rfl⟩
  | o :: os, P, q, h => by
    rcases addAll_mem v os (addP P o v) q h with h | ⟨p, h1, h2⟩
    · left; simp [h]
    · rcases addP_mem P o v p h1 with h3 | ⟨p', h3, h4⟩
      · left; simp [h2, h3]
      · right; exact ⟨p', h3, h2.trans h4⟩

/-- What holds of the sets with their ways, at a cell. -/
structure OkP (W T : Int) (F : Nat → Bool) (n c tot : Nat) (P : List (Nat × Nat)) : Prop where
  lt : ∀ p ∈ P, p.1 < 2 ^ W.toNat ∧ p.1 < 2 ^ (n - c)
  tot : wsum (fun s => cntF W T (n - c) c (setG F c s)) P = tot
  sum : wsum (fun _ => 1) P ≤ 2 ^ c
  len : P.length ≤ 2 ^ c

/-- In the midst of a step: some sets have been gone through. -/
structure MidP (W T : Int) (F : Nat → Bool) (n c : Nat) (P : List (Nat × Nat)) (k : Nat) (Q : List (Nat × Nat)) : Prop where
  lt : ∀ p ∈ Q, p.1 < 2 ^ W.toNat ∧ p.1 < 2 ^ (n - (c + 1))
  tot : wsum (fun s => cntF W T (n - (c + 1)) (c + 1) (setG F (c + 1) s)) Q = wsum (fun s => cntF W T (n - c) c (setG F c s)) (P.take k)
  sum : wsum (fun _ => 1) Q ≤ 2 * wsum (fun _ => 1) (P.take k)
  len : Q.length ≤ 2 * k

theorem sum_ones {α : Type} : ∀ l : List α, (l.map fun _ => 1).sum = l.length
  | [] => rfl
  | x :: l => by rw [List.map_cons, List.sum_cons, sum_ones l, List.length_cons]; omega

theorem wsum_append (g : Nat → Nat) (P Q : List (Nat × Nat)) : wsum g (P ++ Q) = wsum g P + wsum g Q := by simp [wsum]
theorem wsum_take (g : Nat → Nat) (P : List (Nat × Nat)) (k : Nat) : wsum g (P.take k) ≤ wsum g P := by
  have := wsum_append g (P.take k) (P.drop k)
  rw [List.take_append_drop] at this
  omega

theorem mid_zero {W T : Int} {F : Nat → Bool} {n c : Nat} {P : List (Nat × Nat)} : MidP W T F n c P 0 [] := ⟨by simp, by simp [wsum], by simp [wsum], by simp⟩

theorem mid_step {W T : Int} {F : Nat → Bool} {n c tot k : Nat} {P Q : List (Nat × Nat)} {s v : Nat} (hW : 1 ≤ W) (hn : ∀ i, n ≤ i → F i = false) (hc : c < n) (hP : OkP W T F n c tot P) (hk : P[k]? = some (s, v)) (hQ : MidP W T F n c P k Q) :
    MidP W T F n c P (k + 1) (addAll Q (optsN W T F c s) v) := by
  have hmem : (s, v) ∈ P := List.mem_of_getElem? hk
  have hlt := hP.lt _ hmem
  have ht : P.take (k + 1) = P.take k ++ [(s, v)] := by rw [List.take_add_one, hk]; rfl
  have hol := opts_len (W := W) (T := T) (F := F) (c := c) (s := s)
  refine ⟨?_, ?_, ?_, ?_⟩
  · intro q hq
    rcases addAll_mem v _ _ q hq with h | ⟨p, h1, h2⟩
    · exact opts_lt hW hn hc hlt.1 hlt.2 h
    · rw [h2]; exact hQ.lt p h1
  · have e : n - c = (n - (c + 1)) + 1 := by omega
    rw [wsum_addAll, hQ.tot, ht, wsum_append, opts_sum hW F (n - (c + 1)) c s hlt.1, ← e]
    simp [wsum]
  · rw [wsum_addAll, ht, wsum_append]
    have h1 := hQ.sum
    have h2 : v * ((optsN W T F c s).map fun _ => 1).sum ≤ v * 2 := Nat.mul_le_mul_left _ (by rw [sum_ones]; exact hol)
    have h3 : wsum (fun _ => 1) [(s, v)] = v := by simp [wsum]
    omega
  · have := addAll_length v (optsN W T F c s) Q
    have := hQ.len
    omega

theorem mid_end {W T : Int} {F : Nat → Bool} {n c tot : Nat} {P Q : List (Nat × Nat)} (hP : OkP W T F n c tot P) (hQ : MidP W T F n c P P.length Q) : OkP W T F n (c + 1) tot Q := by
  have e := List.take_length (l := P)
  refine ⟨hQ.lt, ?_, ?_, ?_⟩
  · rw [hQ.tot, e, hP.tot]
  · have h1 := hQ.sum
    have h2 := hP.sum
    rw [e] at h1
    rw [Nat.pow_succ]; omega
  · have h1 := hQ.len
    have h2 := hP.len
    rw [Nat.pow_succ]; omega

theorem okP_start {W T : Int} {F : Nat → Bool} {n : Nat} (hW : 1 ≤ W) : OkP W T F n 0 (cntF W T n 0 F) [(0, 1)] := by
  refine ⟨?_, ?_, ?_, ?_⟩
  · intro p hp
    simp at hp; subst hp
    exact ⟨Nat.pow_pos (by omega), Nat.pow_pos (by omega)⟩
  · have : setG F 0 0 = F := by funext i; simp [setG]
    simp [wsum, this]
  · simp [wsum]
  · simp

theorem okP_end {W T : Int} {F : Nat → Bool} {n tot : Nat} {P : List (Nat × Nat)} (hP : OkP W T F n n tot P) : (∀ p ∈ P, p.1 = 0) ∧ wsum (fun _ => 1) P = tot := by
  refine ⟨fun p hp => ?_, ?_⟩
  · have := (hP.lt p hp).2
    rw [Nat.sub_self] at this
    simpa using this
  · have := hP.tot
    rw [Nat.sub_self] at this
    simpa [cntF] using this

end Go.Proofs.Dev

namespace Go.Proofs.Dev

-- 1 parameters, results [.t 5], 14 slots, modes [false]
@[simp] abbrev n_impl_Region_solutions_1 : Nat := 36

def c_impl_Region_solutions_1 : ACode :=
  .seq (.reg [⟨(some 5), .mv, [.c (.v (.bool false))], none⟩]) <|
  .seq (.seq (.reg [⟨(some 6), .load true 3, [.t 1], none⟩,
    ⟨(some 7), .load false 1, [.t 2], none⟩,
    ⟨(some 8), .mv, [.t 0], none⟩,
    ⟨(some 9), .call 37 [], [.t 6, .t 7, .t 8], none⟩]) <|
  .cond (.t 9) (
    .reg [⟨(some 10), .load false 1, [.t 3], none⟩,
      ⟨(some 11), .mv, [.t 0], none⟩,
      ⟨(some 12), .bsl 1, [.t 11], none⟩,
      ⟨(some 13), .app 1 24 false, [.t 10, .t 12], none⟩,
      ⟨none, .store 1, [.t 3, .t 13], none⟩]) (
    .skip)) <|
  .seq (.reg [⟨(some 5), .mv, [.c (.v (.bool true))], none⟩]) <|
  .ret

theorem k_impl_Region_solutions_1 : cFn Try.prog n_impl_Region_solutions_1 14 [.t 5] c_impl_Region_solutions_1 := ⟨Try.f36, _, Try.func36, rfl, by kernel_rfl, by kernel_rfl, by kernel_rfl, by kernel_rfl⟩

-- 3 parameters, results [.t 6], 61 slots, modes [false, false, true]
@[simp] abbrev n_impl_Region_each : Nat := 34
def c_impl_Region_each_L0 : ACode :=
  .seq (.seq (.reg [⟨(some 10), .mv, [.t 7], none⟩,
    ⟨(some 11), .mv, [.t 1], none⟩,
    ⟨(some 12), .len false, [.t 11], none⟩,
    ⟨(some 13), .bin .lss 0, [.t 10, .t 12], none⟩,
    ⟨(some 14), .mv, [.t 13], none⟩,
    ⟨(some 15), .fadr 2, [.t 3], (some (14, true))⟩,
    ⟨(some 16), .load false 1, [.t 15], (some (14, true))⟩,
    ⟨(some 17), .mv, [.t 7], (some (14, true))⟩,
    ⟨(some 18), .iadr 1, [.t 16, .t 17], (some (14, true))⟩,
    ⟨(some 19), .load false 1, [.t 18], (some (14, true))⟩,
    ⟨(some 20), .un .not, [.t 19], (some (14, true))⟩,
    ⟨(some 21), .mv, [.t 20], (some (14, true))⟩,
    ⟨(some 22), .mv, [.t 1], (some (21, false))⟩,
    ⟨(some 23), .mv, [.t 7], (some (21, false))⟩,
    ⟨(some 24), .iadr 1, [.t 22, .t 23], (some (21, false))⟩,
    ⟨(some 25), .load false 1, [.t 24], (some (21, false))⟩,
    ⟨(some 26), .bin .neq 0, [.t 25, .c (.v (.int .i64 (0)))], (some (21, false))⟩,
    ⟨(some 27), .pick, [.t 21, .c (.v (.bool true)), .t 26], (some (14, true))⟩,
    ⟨(some 28), .pick, [.t 14, .t 27, .c (.v (.bool false))], none⟩]) <|
  .cond (.t 28) (
    .skip) (
    .exit 0)) <|
  .block 1 (
    .reg [⟨(some 29), .mv, [.t 7], none⟩,
      ⟨(some 30), .bin .add 0, [.t 29, .c (.v (.int .i64 (1)))], none⟩,
      ⟨(some 7), .mv, [.t 30], none⟩])

def c_impl_Region_each_L1 : ACode :=
  .seq (.reg [⟨(some 41), .bin .lss 0, [.t 40, .t 39], none⟩]) <|
  .seq (.cond (.t 41) (
    .skip) (
    .exit 2)) <|
  .seq (.block 3 (
    .seq (.reg [⟨(some 42), .iadr 1, [.t 38, .t 40], none⟩,
      ⟨(some 43), .load false 1, [.t 42], none⟩,
      ⟨(some 9), .mv, [.t 43], none⟩]) <|
    .seq (.draw (
      .take ⟨(some 45), .mv, [.t 1], none⟩ <|
      .take ⟨(some 46), .mv, [.t 7], none⟩ <|
      .take ⟨(some 47), .mv, [.t 9], none⟩ <|
      .alt ⟨(some 44), .load true 3, [.t 3], none⟩ (
        .alt ⟨(some 48), .call 52 [], [.t 44, .t 45, .t 46, .t 47], none⟩ (
          .take ⟨(some 49), .mv, [.t 48], none⟩ <|
          .take ⟨(some 52), .mv, [.t 1], (some (49, true))⟩ <|
          .take ⟨(some 53), .mv, [.t 7], (some (49, true))⟩ <|
          .take ⟨(some 54), .mv, [.t 9], (some (49, true))⟩ <|
          .take ⟨(some 56), .mv, [.t 2], (some (49, true))⟩ <|
          .alt ⟨(some 50), .load true 3, [.t 3], (some (49, true))⟩ (
            .alt ⟨(some 51), .load true 3, [.t 3], (some (49, true))⟩ (
              .alt ⟨(some 55), .call 53 [], [.t 51, .t 52, .t 53, .t 54], (some (49, true))⟩ (
                .alt ⟨(some 57), .call 34 [], [.t 50, .t 55, .t 56], (some (49, true))⟩ (
                  .take ⟨(some 58), .un .not, [.t 57], (some (49, true))⟩ <|
                  .take ⟨(some 59), .pick, [.t 49, .t 58, .c (.v (.bool false))], none⟩ <|
                  .done) <|
                .stop) <|
              .stop) <|
            .stop) <|
          .alt ⟨(some 51), .load true 3, [.t 3], (some (49, true))⟩ (
            .alt ⟨(some 50), .load true 3, [.t 3], (some (49, true))⟩ (
              .alt ⟨(some 55), .call 53 [], [.t 51, .t 52, .t 53, .t 54], (some (49, true))⟩ (
                .alt ⟨(some 57), .call 34 [], [.t 50, .t 55, .t 56], (some (49, true))⟩ (
                  .take ⟨(some 58), .un .not, [.t 57], (some (49, true))⟩ <|
                  .take ⟨(some 59), .pick, [.t 49, .t 58, .c (.v (.bool false))], none⟩ <|
                  .done) <|
                .stop) <|
              .stop) <|
            .alt ⟨(some 55), .call 53 [], [.t 51, .t 52, .t 53, .t 54], (some (49, true))⟩ (
              .alt ⟨(some 50), .load true 3, [.t 3], (some (49, true))⟩ (
                .alt ⟨(some 57), .call 34 [], [.t 50, .t 55, .t 56], (some (49, true))⟩ (
                  .take ⟨(some 58), .un .not, [.t 57], (some (49, true))⟩ <|
                  .take ⟨(some 59), .pick, [.t 49, .t 58, .c (.v (.bool false))], none⟩ <|
                  .done) <|
                .stop) <|
              .stop) <|
            .stop) <|
          .stop) <|
        .stop) <|
      .stop)) <|
    .cond (.t 59) (
      .seq (.reg [⟨(some 6), .mv, [.c (.v (.bool false))], none⟩]) <|
      .ret) (
      .skip))) <|
  .reg [⟨(some 60), .bin .add 0, [.t 40, .c (.v (.int .i64 (1)))], none⟩,
    ⟨(some 40), .mv, [.t 60], none⟩]

def c_impl_Region_each : ACode :=
  .seq (.reg [⟨(some 3), .box, [.t 0], none⟩,
    ⟨(some 6), .mv, [.c (.v (.bool false))], none⟩]) <|
  .seq (.reg [⟨(some 7), .mv, [.c (.v (.int .i64 (0)))], none⟩]) <|
  .seq (.block 0 (
    .loop [(1, 1)] [1, 2, 3, 7, 63] c_impl_Region_each_L0)) <|
  .seq (.seq (.reg [⟨(some 31), .mv, [.t 7], none⟩,
    ⟨(some 32), .mv, [.t 1], none⟩,
    ⟨(some 33), .len false, [.t 32], none⟩,
    ⟨(some 34), .bin .eql 0, [.t 31, .t 33], none⟩]) <|
  .cond (.t 34) (
    .seq (.reg [⟨(some 35), .mv, [.t 2], none⟩,
      ⟨(some 36), .mv, [.t 1], none⟩,
      ⟨(some 37), .callv [], [.t 35, .t 36], none⟩,
      ⟨(some 6), .mv, [.t 37], none⟩]) <|
    .ret) (
    .skip)) <|
  .seq (.seq (.reg [⟨(some 38), .bsl 1, [.c (.v (.int .i64 (1))), .c (.v (.int .i64 (2)))], none⟩,
    ⟨(some 39), .len false, [.t 38], none⟩,
    ⟨(some 40), .mv, [.c (.v (.int .i64 (0)))], none⟩]) <|
  .block 2 (
    .loop [(1, 1), (38, 1)] [1, 2, 3, 7, 38, 39, 40, 63] c_impl_Region_each_L1)) <|
  .seq (.reg [⟨(some 6), .mv, [.c (.v (.bool true))], none⟩]) <|
  .ret

theorem k_impl_Region_each : cFn Try.prog n_impl_Region_each 61 [.t 6] c_impl_Region_each := ⟨Try.f34, _, Try.func34, rfl, by kernel_rfl, by kernel_rfl, by kernel_rfl, by kernel_rfl⟩

-- 3 parameters, results [.t 6], 15 slots, modes [false, false, false]
@[simp] abbrev n_impl_Region_solutions : Nat := 17
def c_impl_Region_solutions_T0 : ACode :=
  .seq (.reg [⟨(some 13), .load false 1, [.t 7], none⟩,
    ⟨(some 14), .call 38 [], [.t 13], none⟩,
    ⟨(some 6), .mv, [.t 14], none⟩]) <|
  .ret

def c_impl_Region_solutions : ACode :=
  .seq (.reg [⟨(some 3), .box, [.t 0], none⟩,
    ⟨(some 4), .box, [.t 1], none⟩,
    ⟨(some 6), .mv, [.c (.os 1 [])], none⟩]) <|
  .seq (.reg [⟨(some 7), .alloc [.os 1 []], [], none⟩]) <|
  .seq (.draw (
    .take ⟨(some 9), .mv, [.t 2], none⟩ <|
    .take ⟨(some 11), .mkfn 36, [.t 3, .t 4, .t 7], none⟩ <|
    .alt ⟨(some 8), .load true 3, [.t 3], none⟩ (
      .alt ⟨(some 10), .call 35 [], [.t 9], none⟩ (
        .alt ⟨(some 12), .call 34 [], [.t 8, .t 10, .t 11], none⟩ (
          .done) <|
        .stop) <|
      .stop) <|
    .alt ⟨(some 10), .call 35 [], [.t 9], none⟩ (
      .alt ⟨(some 8), .load true 3, [.t 3], none⟩ (
        .alt ⟨(some 12), .call 34 [], [.t 8, .t 10, .t 11], none⟩ (
          .done) <|
        .stop) <|
      .stop) <|
    .stop)) <|
  .gc [] [7] c_impl_Region_solutions_T0

theorem k_impl_Region_solutions : cFn Try.prog n_impl_Region_solutions 15 [.t 6] c_impl_Region_solutions := ⟨Try.f17, _, Try.func17, rfl, by kernel_rfl, by kernel_rfl, by kernel_rfl, by kernel_rfl⟩

-- 2 parameters, results [.t 4], 15 slots, modes [false, false]
@[simp] abbrev n_impl_SolutionsAll : Nat := 8

def c_impl_SolutionsAll : ACode :=
  .seq (.reg [⟨(some 2), .box, [.t 0], none⟩,
    ⟨(some 4), .mv, [.c (.os 1 [])], none⟩]) <|
  .seq (.seq (.reg [⟨(some 5), .load true 3, [.t 2], none⟩,
    ⟨(some 6), .mv, [.t 1], none⟩,
    ⟨(some 7), .call 13 [], [.t 5, .t 6], none⟩,
    ⟨(some 8), .un .not, [.t 7], none⟩]) <|
  .cond (.t 8) (
    .seq (.reg [⟨(some 4), .mv, [.c (.os 1 [])], none⟩]) <|
    .ret) (
    .skip)) <|
  .seq (.draw (
    .take ⟨(some 10), .mv, [.t 1], none⟩ <|
    .take ⟨(some 11), .mv, [.t 1], none⟩ <|
    .take ⟨(some 12), .len false, [.t 11], none⟩ <|
    .alt ⟨(some 9), .load true 3, [.t 2], none⟩ (
      .alt ⟨(some 13), .mksl 1 8 (.v (.int .i64 (0))), [.t 12, .t 12], none⟩ (
        .alt ⟨(some 14), .call 17 [], [.t 9, .t 10, .t 13], none⟩ (
          .take ⟨(some 4), .mv, [.t 14], none⟩ <|
          .done) <|
        .stop) <|
      .stop) <|
    .alt ⟨(some 13), .mksl 1 8 (.v (.int .i64 (0))), [.t 12, .t 12], none⟩ (
      .alt ⟨(some 9), .load true 3, [.t 2], none⟩ (
        .alt ⟨(some 14), .call 17 [], [.t 9, .t 10, .t 13], none⟩ (
          .take ⟨(some 4), .mv, [.t 14], none⟩ <|
          .done) <|
        .stop) <|
      .stop) <|
    .stop)) <|
  .ret

theorem k_impl_SolutionsAll : cFn Try.prog n_impl_SolutionsAll 15 [.t 4] c_impl_SolutionsAll := ⟨Try.f8, _, Try.func8, rfl, by kernel_rfl, by kernel_rfl, by kernel_rfl, by kernel_rfl⟩

-- 2 parameters, results [.t 4], 13 slots, modes [false, false]
@[simp] abbrev n_impl_SolutionsMany : Nat := 5

def c_impl_SolutionsMany : ACode :=
  .seq (.reg [⟨(some 2), .box, [.t 0], none⟩,
    ⟨(some 4), .mv, [.c (.v (.int .i64 (0)))], none⟩]) <|
  .seq (.seq (.reg [⟨(some 5), .load true 3, [.t 2], none⟩,
    ⟨(some 6), .mv, [.t 1], none⟩,
    ⟨(some 7), .call 13 [], [.t 5, .t 6], none⟩,
    ⟨(some 8), .un .not, [.t 7], none⟩]) <|
  .cond (.t 8) (
    .seq (.reg [⟨(some 4), .mv, [.c (.v (.int .i64 (-1)))], none⟩]) <|
    .ret) (
    .skip)) <|
  .seq (.reg [⟨(some 9), .load true 3, [.t 2], none⟩,
    ⟨(some 10), .mv, [.t 1], none⟩,
    ⟨(some 11), .call 8 [], [.t 9, .t 10], none⟩,
    ⟨(some 12), .len false, [.t 11], none⟩,
    ⟨(some 4), .mv, [.t 12], none⟩]) <|
  .ret

theorem k_impl_SolutionsMany : cFn Try.prog n_impl_SolutionsMany 13 [.t 4] c_impl_SolutionsMany := ⟨Try.f5, _, Try.func5, rfl, by kernel_rfl, by kernel_rfl, by kernel_rfl, by kernel_rfl⟩

end Go.Proofs.Dev

namespace Go.Proofs.Dev
set_option linter.unusedSimpArgs false
set_option maxRecDepth 100000

def keepL (W T : Int) (ds t : List Int) : List (List Int) := if onceB (pairsI W T ds t) then [t] else []

end Go.Proofs.Dev

namespace Go.Proofs.Dev
set_option linter.unusedSimpArgs false
set_option maxRecDepth 100000

/-- Who takes ownership: each (140) of the list and of the closure, the closure (141) of all. -/
@[simp] def md2 (f : Nat) : List Bool := if f = 34 then [false, true, true] else if f = 36 then [true, true, true, true] else md0 f

/-- Those of some lists whose pairs are fair. -/
def keepT (W T : Int) (ds : List Int) (ps : List (List Int)) : List (List Int) := ps.filter fun t => onceB (pairsI W T ds t)
theorem keepT_one (W T : Int) (ds t : List Int) : keepT W T ds [t] = keepL W T ds t := by
  unfold keepT keepL
  cases h : onceB (pairsI W T ds t) <;> simp [h]
theorem keepT_append (W T : Int) (ds : List Int) (a b : List (List Int)) : keepT W T ds (a ++ b) = keepT W T ds a ++ keepT W T ds b := by simp [keepT]
theorem keepT_length (W T : Int) (ds : List Int) (a : List (List Int)) : (keepT W T ds a).length ≤ a.length := List.length_filter_le _ _

theorem s_impl_solutions_1F (W T : Int) (cs : List Bool) (ds t : List Int) (acc : List (List Int)) (hok : okB W T cs ds t = true) (ha : acc.length < 2 ^ 38) :
    SoundAt Try.prog n_impl_Region_solutions_1 [.os 1 (ints t), .op [.v (.int .i64 W), .v (.int .i64 T), .sl 0 1 (bools cs)], .op [.sl 0 1 (ints ds)], .op [.os 1 (oss acc)]]
      (.v (.bool true)) [.bot, .op [.v (.int .i64 W), .v (.int .i64 T), .sl 0 1 (bools cs)], .op [.sl 0 1 (ints ds)], .op [.os 1 (oss (acc ++ keepL W T ds t))]] := by
  refine fn_ok (md := md0) (ms := [false, true, true, true]) k_impl_Region_solutions_1 (by simp) ?_
  simp [c_impl_Region_solutions_1]
  refine call_on (s_impl_Region_fair W T cs ds t hok) ?_
  cases ho : onceB (pairsI W T ds t) with
  | false =>
    simp [keepL, ho]
  | true =>
    simp [keepL, ho]
    refine ⟨by omega, ?_⟩
    rw [oss_append, oss_one]
    exact List.take_of_length_le (by simp)

@[simp] theorem ints_getA (xs : List Int) (i : Nat) (h : i < (ints xs).length) : (ints xs)[i] = .v (.int .i64 (ati xs i)) := by
  have h2 : i < xs.length := by simpa using h
  simp [ints, ati, h2]

theorem ok141 : okFn Try.prog 36 = true := by kernel_rfl

/-- The rows and slots of each: what the closure holds, where the rows are numbered so. -/
def eachH (W T : Int) (cs : List Bool) (ds ls : List Int) (acc : List (List Int)) : Heap :=
  [some (.arr 1 (ints ls)), some (.box [.v (.int .i64 W), .v (.int .i64 T), .sl 0 1 (bools cs)]), some (.box [.sl 0 1 (ints ds)]), some (.box [.ls 1 5 0 acc.length]),
    some (.box [.v (.int .i64 W), .v (.int .i64 T), .sl 1 1 (bools cs)]), some (.arr 1 (oss acc))]
def eachH2 (W T : Int) (cs : List Bool) (ds ls : List Int) (acc : List (List Int)) : Heap :=
  [some (.arr 1 (ints ls)), some (.box [.v (.int .i64 W), .v (.int .i64 T), .sl 0 1 (bools cs)]), some (.box [.sl 0 1 (ints ds)]), some (.box [.ls 1 6 0 acc.length]),
    some (.box [.v (.int .i64 W), .v (.int .i64 T), .sl 1 1 (bools cs)]), some (.arr 1 [.v (.int .i64 1), .v (.int .i64 2)]), some (.arr 1 (oss acc))]

theorem each_of (W T : Int) (cs : List Bool) (ds : List Int) (hr : regB W T cs = true) (hd : digsB cs ds = true) (n : Nat)
    (ih : ∀ m, n = m + 1 → ∀ (ls : List Int) (acc : List (List Int)), zeros ls ≤ m → laysB W T cs ls = true → acc.length + 2 ^ m ≤ 2 ^ 37 →
      SoundAt Try.prog n_impl_Region_each [.agg [.v (.int .i64 W), .v (.int .i64 T), .sl 1 1 (bools cs)], .os 1 (ints ls), .fn 36 [.op [.v (.int .i64 W), .v (.int .i64 T), .sl 0 1 (bools cs)], .op [.sl 0 1 (ints ds)], .op [.os 1 (oss acc)]]]
        (.v (.bool true)) [.bot, .bot, .fn 36 [.op [.v (.int .i64 W), .v (.int .i64 T), .sl 0 1 (bools cs)], .op [.sl 0 1 (ints ds)], .op [.os 1 (oss (acc ++ keepT W T ds (allT W T cs m ls)))]]])
    (ls : List Int) (acc : List (List Int)) (hz : zeros ls ≤ n) (hy : laysB W T cs ls = true) (ha : acc.length + 2 ^ n ≤ 2 ^ 37) :
    SoundAt Try.prog n_impl_Region_each [.agg [.v (.int .i64 W), .v (.int .i64 T), .sl 1 1 (bools cs)], .os 1 (ints ls), .fn 36 [.op [.v (.int .i64 W), .v (.int .i64 T), .sl 0 1 (bools cs)], .op [.sl 0 1 (ints ds)], .op [.os 1 (oss acc)]]]
      (.v (.bool true)) [.bot, .bot, .fn 36 [.op [.v (.int .i64 W), .v (.int .i64 T), .sl 0 1 (bools cs)], .op [.sl 0 1 (ints ds)], .op [.os 1 (oss (acc ++ keepT W T ds (allT W T cs n ls)))]]] := by
  have h36 := regB_len hr
  have hl : ls.length = cs.length := by simp only [laysB, Bool.and_eq_true, decide_eq_true_eq] at hy; exact hy.1
  have hok : okB W T cs ds ls = true := by simp only [okB, hr, hd, hy, Bool.and_self]
  have hp : 0 < 2 ^ n := Nat.pow_pos (by omega)
  have hac : acc.length < 2 ^ 38 := Nat.lt_of_le_of_lt (Nat.le_trans (Nat.le_add_right _ _) ha) (by decide)
  refine fn_ok (md := md2) (ms := [false, false, true]) k_impl_Region_each (by simp) ?_
  simp [c_impl_Region_each]
  refine loop_by (fun m E H => ∃ i : Nat, m = ls.length - i ∧ i ≤ ls.length ∧ (∀ j : Nat, j < i → bareB cs ls j = false) ∧ H = eachH W T cs ds ls acc ∧
    E = [(1, .ls 1 0 0 ls.length), (2, .fn 36 [.lp 0 1 0 0, .lp 0 2 0 0, .lp 0 3 0 0]), (3, .lp 0 4 0 0), (7, .v (.int .i64 i)), (63, .fn 36 [.lp 0 1 0 0, .lp 0 2 0 0, .lp 0 3 0 0])]) ls.length ⟨0, by simp [eachH]⟩ ?_
  rintro J hJ m E H ⟨i, rfl, hi, hb, rfl, rfl⟩
  by_cases h : i < ls.length
  case neg =>
    have hi' : i = ls.length := by omega
    subst hi'
    have he : bareI cs ls = -1 := firstI_none hb
    simp [c_impl_Region_each_L0, eachH]
    refine ⟨ok141, call_on (s_impl_solutions_1F W T cs ds ls acc hok hac) ?_⟩
    simp [allT_leaf n (show bareI cs ls < 0 by omega), keepT_one]
    exact List.take_of_length_le (by simp)
  have next : bareB cs ls i = false → again J (ls.length - i) [(1, .ls 1 0 0 ls.length), (2, .fn 36 [.lp 0 1 0 0, .lp 0 2 0 0, .lp 0 3 0 0]), (3, .lp 0 4 0 0), (7, .v (.int .i64 (i + 1))), (63, .fn 36 [.lp 0 1 0 0, .lp 0 2 0 0, .lp 0 3 0 0])]
      (eachH W T cs ds ls acc) := by
    intro hx
    refine ⟨_, by omega, hJ _ _ _ ⟨i + 1, rfl, h, ?_, rfl, rfl⟩⟩
    intro j hj
    rcases Nat.lt_or_ge j i with h1 | h1
    · exact hb j h1
    · have : j = i := by omega
      subst this; exact hx
  have h2 : i < cs.length := by omega
  cases hc : atb cs i with
  | false =>
    have nx := next (by simp [bareB, hc])
    simp [eachH] at nx
    simp [c_impl_Region_each_L0, eachH, h, h2, hc]
    exact ⟨by omega, nx⟩
  | true =>
  by_cases z : ati ls i = 0
  case neg =>
    have nx := next (by simp [bareB, z])
    simp [eachH] at nx
    simp [c_impl_Region_each_L0, eachH, h, h2, hc, z]
    exact ⟨by omega, nx⟩
  have he : bareI cs ls = i := firstI_hit h (by simp [bareB, hc, z]) hb
  have hzp := zeros_pos h z
  obtain ⟨n', rfl⟩ : ∃ n', n = n' + 1 := ⟨n - 1, by omega⟩
  have hk0 : ¬ (i : Int) < 0 := by omega
  have hall : allT W T cs (n' + 1) ls = accT W T cs n' ls i 2 := by
    rw [allT, he, if_neg hk0]
    simp [accT, partT, List.range_succ]
  rw [hall]
  have hne : ¬ ((i : Int) = ls.length) := by omega
  simp [c_impl_Region_each_L0, eachH, h, h2, hc, z, hne]
  have b1 := accT_length W T cs n' ls i
  have hpow : 2 ^ (n' + 1) = 2 * 2 ^ n' := by rw [Nat.pow_succ]; omega
  refine loop_by (fun m E H => ∃ j : Nat, m = 2 - j ∧ j ≤ 2 ∧ H = eachH2 W T cs ds ls (acc ++ keepT W T ds (accT W T cs n' ls i j)) ∧
    E = [(1, .ls 1 0 0 ls.length), (2, .fn 36 [.lp 0 1 0 0, .lp 0 2 0 0, .lp 0 3 0 0]), (3, .lp 0 4 0 0), (7, .v (.int .i64 i)), (38, .ls 1 5 0 2), (39, .v (.int .i64 2)), (40, .v (.int .i64 j)), (63, .fn 36 [.lp 0 1 0 0, .lp 0 2 0 0, .lp 0 3 0 0])]) 2 ⟨0, by simp [eachH2, accT, keepT]⟩ ?_
  rintro J2 hJ2 m2 E2 H2 ⟨j, rfl, hj, rfl, rfl⟩
  by_cases h3 : j < 2
  case neg =>
    have : j = 2 := by omega
    subst this
    simp [c_impl_Region_each_L1, eachH2]
    exact List.take_of_length_le (by simp)
  have h01 : j = 0 ∨ j = 1 := by omega
  rcases h01 with rfl | rfl
  · have hsuc : accT W T cs n' ls i (0 + 1) = accT W T cs n' ls i 0 ++ partT W T cs n' ls i 1 := by simpa using accT_succ W T cs n' ls i 0
    have bl := b1 0
    have kl := keepT_length W T ds (accT W T cs n' ls i 0)
    have hlen : (acc ++ keepT W T ds (accT W T cs n' ls i 0)).length + 2 ^ n' ≤ 2 ^ 37 := by rw [List.length_append]; omega
    have next2 : ∀ x, partT W T cs n' ls i 1 = x → again J2 (2 - 0) [(1, .ls 1 0 0 ls.length), (2, .fn 36 [.lp 0 1 0 0, .lp 0 2 0 0, .lp 0 3 0 0]), (3, .lp 0 4 0 0), (7, .v (.int .i64 i)), (38, .ls 1 5 0 2), (39, .v (.int .i64 2)), (40, .v (.int .i64 1)), (63, .fn 36 [.lp 0 1 0 0, .lp 0 2 0 0, .lp 0 3 0 0])]
        (eachH2 W T cs ds ls ((acc ++ keepT W T ds (accT W T cs n' ls i 0)) ++ keepT W T ds x)) := by
      rintro x rfl
      refine ⟨_, by omega, hJ2 _ _ _ ⟨0 + 1, rfl, by omega, ?_, rfl⟩⟩
      rw [hsuc, keepT_append, List.append_assoc]
    generalize hA : acc ++ keepT W T ds (accT W T cs n' ls i 0) = A at *
    simp [c_impl_Region_each_L1, eachH2]
    refine call_on (s_impl_Region_free W T cs ls i 1 hr hl) ?_
    cases hf : freeB W T cs ls i 1 with
    | false =>
      have nx := next2 [] (by simp [partT, hf])
      simp [eachH2, keepT] at nx
      simp
      exact nx
    | true =>
      have nx := next2 (allT W T cs n' (layI W T ls i 1)) (by simp [partT, hf])
      have hzl : zeros (layI W T ls i 1) < zeros ls := lay_zeros h z (by omega) (by omega)
      have rcr := ih n' rfl (layI W T ls i 1) A (by omega) (lay_ok hr hy hf) hlen
      have hll := layI_length W T ls i 1
      simp [eachH2] at nx
      simp
      (repeat' first | assumption | omega | apply And.intro) <;>
      · refine call_on (s_impl_Region_lay W T cs ls i 1 hr hl hf) ?_
        simp [hll]
        (repeat' first | assumption | omega | apply And.intro) <;>
        · refine call_on rcr ?_
          simp [hll]
          exact nx
  · have hsuc : accT W T cs n' ls i (1 + 1) = accT W T cs n' ls i 1 ++ partT W T cs n' ls i 2 := by simpa using accT_succ W T cs n' ls i 1
    have bl := b1 1
    have kl := keepT_length W T ds (accT W T cs n' ls i 1)
    have hlen : (acc ++ keepT W T ds (accT W T cs n' ls i 1)).length + 2 ^ n' ≤ 2 ^ 37 := by rw [List.length_append]; omega
    have next2 : ∀ x, partT W T cs n' ls i 2 = x → again J2 (2 - 1) [(1, .ls 1 0 0 ls.length), (2, .fn 36 [.lp 0 1 0 0, .lp 0 2 0 0, .lp 0 3 0 0]), (3, .lp 0 4 0 0), (7, .v (.int .i64 i)), (38, .ls 1 5 0 2), (39, .v (.int .i64 2)), (40, .v (.int .i64 2)), (63, .fn 36 [.lp 0 1 0 0, .lp 0 2 0 0, .lp 0 3 0 0])]
        (eachH2 W T cs ds ls ((acc ++ keepT W T ds (accT W T cs n' ls i 1)) ++ keepT W T ds x)) := by
      rintro x rfl
      refine ⟨_, by omega, hJ2 _ _ _ ⟨1 + 1, rfl, by omega, ?_, rfl⟩⟩
      rw [hsuc, keepT_append, List.append_assoc]
    generalize hA : acc ++ keepT W T ds (accT W T cs n' ls i 1) = A at *
    simp [c_impl_Region_each_L1, eachH2]
    refine call_on (s_impl_Region_free W T cs ls i 2 hr hl) ?_
    cases hf : freeB W T cs ls i 2 with
    | false =>
      have nx := next2 [] (by simp [partT, hf])
      simp [eachH2, keepT] at nx
      simp
      exact nx
    | true =>
      have nx := next2 (allT W T cs n' (layI W T ls i 2)) (by simp [partT, hf])
      have hzl : zeros (layI W T ls i 2) < zeros ls := lay_zeros h z (by omega) (by omega)
      have rcr := ih n' rfl (layI W T ls i 2) A (by omega) (lay_ok hr hy hf) hlen
      have hll := layI_length W T ls i 2
      simp [eachH2] at nx
      simp
      (repeat' first | assumption | omega | apply And.intro) <;>
      · refine call_on (s_impl_Region_lay W T cs ls i 2 hr hl hf) ?_
        simp [hll]
        (repeat' first | assumption | omega | apply And.intro) <;>
        · refine call_on rcr ?_
          simp [hll]
          exact nx

theorem s_impl_each (W T : Int) (cs : List Bool) (ds : List Int) (hr : regB W T cs = true) (hd : digsB cs ds = true) : ∀ (n : Nat) (ls : List Int) (acc : List (List Int)), zeros ls ≤ n → laysB W T cs ls = true → acc.length + 2 ^ n ≤ 2 ^ 37 →
    SoundAt Try.prog n_impl_Region_each [.agg [.v (.int .i64 W), .v (.int .i64 T), .sl 1 1 (bools cs)], .os 1 (ints ls), .fn 36 [.op [.v (.int .i64 W), .v (.int .i64 T), .sl 0 1 (bools cs)], .op [.sl 0 1 (ints ds)], .op [.os 1 (oss acc)]]]
      (.v (.bool true)) [.bot, .bot, .fn 36 [.op [.v (.int .i64 W), .v (.int .i64 T), .sl 0 1 (bools cs)], .op [.sl 0 1 (ints ds)], .op [.os 1 (oss (acc ++ keepT W T ds (allT W T cs n ls)))]]] := by
  intro n
  induction n with
  | zero => intro ls acc h1 h2 h3; exact each_of W T cs ds hr hd 0 (fun m h => by omega) ls acc h1 h2 h3
  | succ n ih =>
    intro ls acc h1 h2 h3
    refine each_of W T cs ds hr hd (n + 1) (fun m h => ?_) ls acc h1 h2 h3
    have : m = n := by omega
    subst this
    exact ih

end Go.Proofs.Dev

namespace Go.Proofs.Dev

-- 1 parameters, results [.t 2], 9 slots, modes [true]
@[simp] abbrev n_slices_Clip_ints : Nat := 38

def c_slices_Clip_ints : ACode :=
  .seq (.reg [⟨(some 2), .mv, [.c (.os 1 [])], none⟩]) <|
  .seq (.reg [⟨(some 3), .mv, [.t 0], none⟩,
    ⟨(some 4), .mv, [.t 0], none⟩,
    ⟨(some 5), .len false, [.t 4], none⟩,
    ⟨(some 6), .mv, [.t 0], none⟩,
    ⟨(some 7), .len false, [.t 6], none⟩,
    ⟨(some 8), .slice 1 false false true true, [.t 3, .t 5, .t 7], none⟩,
    ⟨(some 2), .mv, [.t 8], none⟩]) <|
  .ret

theorem k_slices_Clip_ints : cFn Try.prog n_slices_Clip_ints 9 [.t 2] c_slices_Clip_ints := ⟨Try.f38, _, Try.func38, rfl, by kernel_rfl, by kernel_rfl, by kernel_rfl, by kernel_rfl⟩

end Go.Proofs.Dev

namespace Go.Proofs.Dev
set_option linter.unusedSimpArgs false
set_option maxRecDepth 100000

theorem noVL_ints : ∀ xs : List Int, noVL (ints xs) = true
  | [] => by simp [noVL]
  | x :: xs => by show (noV (.v (.int .i64 x)) && noVL (ints xs)) = true; rw [noVL_ints xs]; simp [noV]
theorem noVL_oss : ∀ ps : List (List Int), noVL (oss ps) = true
  | [] => by simp [noVL]
  | p :: ps => by show (noV (.os 1 (ints p)) && noVL (oss ps)) = true; rw [noVL_oss ps]; simp [noV, noVL_ints]

theorem s_slices_Clip_ints (ps : List (List Int)) : SoundAt Try.prog n_slices_Clip_ints [.os 1 (oss ps)] (.os 1 (oss ps)) [.bot] := by
  refine fn_ok (md := md0) (ms := [false]) k_slices_Clip_ints (by simp) ?_
  simp [c_slices_Clip_ints]

theorem s_impl_Region_solutions0 (W T : Int) (cs : List Bool) (ds ls : List Int) (hok : okB W T cs ds ls = true) :
    SoundAt Try.prog n_impl_Region_solutions [.agg [.v (.int .i64 W), .v (.int .i64 T), .sl 0 1 (bools cs)], .sl 0 1 (ints ds), .sl 0 1 (ints ls)] (.os 1 (oss (keepT W T ds (allT W T cs cs.length ls)))) [.bot, .bot, .bot] := by
  refine fn_ok (md := md2) (ms := [false, false, false]) k_impl_Region_solutions (by simp) ?_
  have hok' := hok
  simp only [okB, Bool.and_eq_true] at hok'
  obtain ⟨hr, hd, hy⟩ := hok'
  have h36 := regB_len hr
  have hl := lays_len hy
  have hz : zeros ls ≤ cs.length := by have := zeros_le ls; omega
  have hpow : 2 ^ cs.length ≤ 2 ^ 36 := Nat.pow_le_pow_right (by omega) h36
  have each := s_impl_each W T cs ds hr hd cs.length ls [] hz hy (by simp only [List.length_nil, Nat.zero_add]; exact Nat.le_trans hpow (by decide))
  rw [oss_nil, List.nil_append] at each
  simp [c_impl_Region_solutions]
  (repeat' first | assumption | omega | apply And.intro) <;>
  · refine call_on (s_impl_clone_int ls (by omega)) ?_
    simp
    (repeat' first | assumption | omega | apply And.intro) <;>
    · refine call_on each ?_
      simp [c_impl_Region_solutions_T0]
      refine call_on (s_slices_Clip_ints (keepT W T ds (allT W T cs cs.length ls))) ?_
      simp

theorem s_impl_Region_solutions (W T : Int) (cs : List Bool) (ds ls : List Int) (hok : okB W T cs ds ls = true) :
    SoundAt Try.prog n_impl_Region_solutions [.agg [.v (.int .i64 W), .v (.int .i64 T), .sl 1 1 (bools cs)], .sl 1 1 (ints ds), .sl 1 1 (ints ls)] (.os 1 (oss (keepT W T ds (allT W T cs cs.length ls)))) [.bot, .bot, .bot] := by
  refine SoundAt.lift (n := 3) (fun C S us hr => noOL_ok _ S us rfl hr) (by simp [noV, noVL_oss]) ?_
  have h := s_impl_Region_solutions0 W T cs ds ls hok
  simpa [vwL, vw] using h

theorem keepT_sols {W T : Int} {cs : List Bool} {ds : List Int} (h : (regB W T cs && digsB cs ds) = true) : keepT W T ds (allT W T cs cs.length (noneL cs)) = solsI W T cs ds := by
  have hr : regB W T cs = true := by simp only [Bool.and_eq_true] at h; exact h.1
  rw [sols_fair h, tilesI, if_pos hr]; rfl

theorem s_impl_SolutionsAll (W T : Int) (cs : List Bool) (ds : List Int) (hb : cs.length < 2 ^ 40) (hd : ds.length < 2 ^ 40) :
    SoundAt Try.prog n_impl_SolutionsAll [.agg [.v (.int .i64 W), .v (.int .i64 T), .sl 1 1 (bools cs)], .sl 1 1 (ints ds)] (.os 1 (oss (solsI W T cs ds))) [.bot, .bot] := by
  refine fn_ok (md := md0) (ms := [false, false]) k_impl_SolutionsAll (by simp) ?_
  simp [c_impl_SolutionsAll]
  refine call_on (s_impl_PuzzleValid W T cs ds hb hd) ?_
  cases hv : (regB W T cs && digsB cs ds) with
  | false =>
    have e : solsI W T cs ds = [] := by rw [solsI, if_neg (by simp [hv])]
    simp [e]
  | true =>
  have hr : regB W T cs = true := by simp only [Bool.and_eq_true] at hv; exact hv.1
  have hdg : digsB cs ds = true := by simp only [Bool.and_eq_true] at hv; exact hv.2
  have hdl : ds.length = cs.length := by simp only [digsB, Bool.and_eq_true, decide_eq_true_eq] at hdg; exact hdg.1
  have sol := s_impl_Region_solutions W T cs ds (noneL cs) (by simp only [okB, hr, hdg, lays_none, Bool.and_self])
  rw [keepT_sols hv] at sol
  have en : ints (List.replicate ds.length 0) = ints (noneL cs) := by rw [hdl]; rfl
  simp [ints_rep]
  (repeat' first | assumption | omega | apply And.intro) <;>
  · rw [en]
    refine call_on sol ?_
    have htk : (ints (noneL cs)).take ds.length = ints (noneL cs) := List.take_of_length_le (by simp [noneL, hdl])
    have hnl : (noneL cs).length = ds.length := by simp [noneL, hdl]
    simp [htk, hnl]

theorem s_impl_SolutionsMany (W T : Int) (cs : List Bool) (ds : List Int) (hb : cs.length < 2 ^ 40) (hd : ds.length < 2 ^ 40) :
    SoundAt Try.prog n_impl_SolutionsMany [.agg [.v (.int .i64 W), .v (.int .i64 T), .sl 1 1 (bools cs)], .sl 1 1 (ints ds)] (.v (.int .i64 (solsN W T cs ds))) [.bot, .bot] := by
  refine fn_ok (md := md0) (ms := [false, false]) k_impl_SolutionsMany (by simp) ?_
  simp [c_impl_SolutionsMany]
  refine call_on (s_impl_PuzzleValid W T cs ds hb hd) ?_
  cases hv : (regB W T cs && digsB cs ds) with
  | false => simp [solsN, hv]
  | true =>
  simp
  refine call_on (s_impl_SolutionsAll W T cs ds hb hd) ?_
  simp [solsN, hv]

theorem sols_length {W T : Int} {cs : List Bool} {ds : List Int} : (solsI W T cs ds).length ≤ 68719476736 := by
  unfold solsI
  split
  · exact Nat.le_trans (List.length_filter_le _ _) tiles_length
  · simp

end Go.Proofs.Dev

namespace Go.Proofs.Dev
set_option linter.unusedSimpArgs false
set_option maxRecDepth 100000

end Go.Proofs.Dev
