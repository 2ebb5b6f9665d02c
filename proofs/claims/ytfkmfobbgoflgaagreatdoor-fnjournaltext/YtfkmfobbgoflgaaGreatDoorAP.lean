/- Contracts of the functions of the program over slots and rows, each proved against the program itself; no condition beyond those that each theorem names. -/
import Derived.Test.YtfkmfobbgoflgaaGreatDoorAO
import Derived.Test.YtfkmfobbgoflgaaGreatDoorProg
import Derived.Test.YtfkmfobbgoflgaaGreatDoorAH

set_option linter.unusedSimpArgs false
set_option linter.unusedVariables false

namespace Go.Proofs.Dev
set_option linter.unusedSimpArgs false

def clr (G : Nat → Bool) (j : Nat) : Nat → Bool := fun i => G i && !(decide (i = j))
/-- In how many ways the free cells from a cell on are covered. -/
def cntF (W T : Int) : Nat → Nat → (Nat → Bool) → Nat
  | 0, _, _ => 1
  | f + 1, c, G => if G c = true then (if 0 ≤ stepI W T c 1 ∧ G (c + 1) = true then cntF W T f (c + 1) (clr G (c + 1)) else 0) + (if 0 ≤ stepI W T c 2 ∧ G (c + W.toNat) = true then cntF W T f (c + 1) (clr G (c + W.toNat)) else 0)
    else cntF W T f (c + 1) G

theorem cntF_congr {W T : Int} : ∀ (f c : Nat) {G G' : Nat → Bool}, (∀ i, c ≤ i → G i = G' i) → cntF W T f c G = cntF W T f c G'
  | 0, _, _, _, _ => rfl
  | f + 1, c, G, G', h => by
    have h1 := cntF_congr (W := W) (T := T) f (c + 1) (G := G) (G' := G') (fun i hi => h i (by omega))
    have h2 := cntF_congr (W := W) (T := T) f (c + 1) (G := clr G (c + 1)) (G' := clr G' (c + 1)) (fun i hi => by simp [clr, h i (by omega)])
    have h3 := cntF_congr (W := W) (T := T) f (c + 1) (G := clr G (c + W.toNat)) (G' := clr G' (c + W.toNat)) (fun i hi => by simp [clr, h i (by omega)])
    simp only [cntF, h c (Nat.le_refl c), h (c + 1) (by omega), h (c + W.toNat) (by omega), h1, h2, h3]

theorem cntF_skip {W T : Int} (f : Nat) {G : Nat → Bool} : ∀ (d c : Nat), (∀ i, c ≤ i → i < c + d → G i = false) → cntF W T (f + d) c G = cntF W T f (c + d) G
  | 0, c, _ => rfl
  | d + 1, c, h => by
    have h0 := h c (Nat.le_refl c) (by omega)
    have h1 := cntF_skip (W := W) (T := T) f d (c + 1) (fun i h2 h3 => h i (by omega) (by omega))
    rw [show f + (d + 1) = (f + d) + 1 by omega, cntF, if_neg (by simp [h0]), h1, show c + 1 + d = c + (d + 1) by omega]

theorem cntF_le {W T : Int} : ∀ (f c : Nat) (G : Nat → Bool), cntF W T f c G ≤ 2 ^ f
  | 0, _, _ => by simp [cntF]
  | f + 1, c, G => by
    have h1 := cntF_le (W := W) (T := T) f (c + 1) G
    have h2 := cntF_le (W := W) (T := T) f (c + 1) (clr G (c + 1))
    have h3 := cntF_le (W := W) (T := T) f (c + 1) (clr G (c + W.toNat))
    rw [cntF, Nat.pow_succ]
    split
    · split <;> split <;> omega
    · omega

theorem stepE {W T : Int} {c : Nat} (h : 0 ≤ stepI W T c 1) : stepI W T c 1 = ((c + 1 : Nat) : Int) := by
  unfold stepI at h ⊢
  by_cases hc : (c : Int) % W < W - 1
  · simp [hc]
  · simp [hc] at h
theorem stepN {W T : Int} {c : Nat} (hW : 1 ≤ W) (h : 0 ≤ stepI W T c 2) : stepI W T c 2 = ((c + W.toNat : Nat) : Int) := by
  unfold stepI at h ⊢
  by_cases hc : (c : Int) / W < T - 1
  · simp [hc]; omega
  · simp [hc] at h

/-- The count of the ways to lay on all free cells is that of the tilings. -/
theorem cnt_allT {W T : Int} {cs : List Bool} (hr : regB W T cs = true) : ∀ (n : Nat) (ls : List Int), zeros ls ≤ n → laysB W T cs ls = true → cntF W T cs.length 0 (bareB cs ls) = (allT W T cs n ls).length := by
  obtain ⟨w1, w2, t1, t2, l1, _⟩ := regB_W hr
  intro n
  induction n with
  | zero =>
    intro ls hz hy
    have hlen : ls.length = cs.length := by simp only [laysB, Bool.and_eq_true, decide_eq_true_eq] at hy; exact hy.1
    have hf : ∀ i, 0 ≤ i → i < 0 + cs.length → bareB cs ls i = false := by
      intro i _ hi
      cases hb : bareB cs ls i with
      | false => rfl
      | true =>
        simp only [bareB, Bool.and_eq_true, decide_eq_true_eq] at hb
        have := zeros_set_lt (ls := ls) (i := i) (v := 1) (by omega) hb.2 (by omega)
        omega
    have := cntF_skip (W := W) (T := T) 0 cs.length 0 hf
    rw [Nat.zero_add] at this
    rw [this]; simp [cntF, allT]
  | succ n ih =>
    intro ls hz hy
    have hlen : ls.length = cs.length := by simp only [laysB, Bool.and_eq_true, decide_eq_true_eq] at hy; exact hy.1
    rcases bare_cases cs ls with hb | ⟨c, hc, hb, hcs, hls⟩
    · have hf : ∀ i, 0 ≤ i → i < 0 + cs.length → bareB cs ls i = false := by
        intro i _ hi
        exact firstI_neg (p := bareB cs ls) (n := ls.length) (by unfold bareI at hb; omega) i (by omega)
      have := cntF_skip (W := W) (T := T) 0 cs.length 0 hf
      rw [Nat.zero_add] at this
      rw [this]; simp [cntF, allT, hb]
    have hmin := firstI_min (by unfold bareI at hb; exact hb)
    have hGc : bareB cs ls c = true := by simp [bareB, hcs, hls]
    obtain ⟨m, hm⟩ : ∃ m, cs.length = (m + 1) + c := ⟨cs.length - c - 1, by omega⟩
    have hskip := cntF_skip (W := W) (T := T) (m + 1) (G := bareB cs ls) c 0 (fun i _ hi => hmin i (by omega))
    rw [← hm, Nat.zero_add] at hskip
    rw [hskip, cntF, if_pos hGc, allT]
    have hneg : ¬ bareI cs ls < 0 := by omega
    rw [if_neg hneg, List.length_append, hb]
    -- one direction
    have one : ∀ (way d : Nat), (way = 1 ∨ way = 2) → (0 ≤ stepI W T c way → stepI W T c way = ((c + d : Nat) : Int)) → 1 ≤ d →
        (if 0 ≤ stepI W T c way ∧ bareB cs ls (c + d) = true then cntF W T m (c + 1) (clr (bareB cs ls) (c + d)) else 0) = (if freeB W T cs ls c way = true then allT W T cs n (layI W T ls c way) else []).length := by
      intro way d hw hst hd
      have hfree : freeB W T cs ls c way = true ↔ (0 ≤ stepI W T c way ∧ bareB cs ls (c + d) = true) := by
        simp only [freeB, decide_eq_true_eq, bareB, Bool.and_eq_true]
        constructor
        · rintro ⟨_, _, h2, _, h4, _, h6⟩
          have e := hst h2
          rw [e] at h4 h6
          exact ⟨h2, h4, h6⟩
        · rintro ⟨h2, h4, h6⟩
          have e := hst h2
          rw [e]
          exact ⟨by omega, by omega, by omega, hcs, h4, hls, h6⟩
      by_cases hfr : freeB W T cs ls c way = true
      · rw [if_pos hfr, if_pos (hfree.1 hfr)]
        have h2 := (hfree.1 hfr).1
        have e := hst h2
        have hlt := (step_back (T := T) (k := c) (way := way) w1 (by omega) (by omega) h2).2.2.2.2
        have hto : (stepI W T c way).toNat < ls.length := by omega
        have hzz := lay_zeros (W := W) (T := T) (ls := ls) (k := c) (way := way) hc hls (by omega) (by omega)
        rw [← ih (layI W T ls c way) (by omega) (lay_ok hr hy hfr)]
        obtain ⟨t, et, _, _, _, v1, v4, _, _, _, _, hA⟩ := free_facts hr hlen hfr
        have etd : t = c + d := by omega
        have hat : ∀ i : Nat, bareB cs (layI W T ls c way) i = (bareB cs ls i && !decide (i = c) && !decide (i = c + d)) := by
          intro i
          have hbk : backI way ≠ 0 := by
            have := (backI_back v1 v4).2
            omega
          simp only [bareB, hA i]
          by_cases e1 : i = t
          · have e3 : i = c + d := by omega
            rw [if_pos e1]; simp [hbk, e3]
          · have e3 : ¬ i = c + d := by omega
            by_cases e2 : i = c
            · have hw0 : (way : Int) ≠ 0 := by omega
              have hw1 : ¬ way = 0 := by omega
              rw [if_neg e1, if_pos e2]; simp [hw1, e2]
            · rw [if_neg e1, if_neg e2]; simp [e2, e3]
        have hsk := cntF_skip (W := W) (T := T) m (G := bareB cs (layI W T ls c way)) (c + 1) 0 (fun i _ hi => by
          rw [hat]
          by_cases e1 : i = c
          · simp [e1]
          · rw [hmin i (by omega)]; rfl)
        rw [Nat.zero_add, show m + (c + 1) = cs.length by omega] at hsk
        rw [hsk]
        apply cntF_congr
        intro i hi
        rw [hat]
        have e2 : ¬ i = c := by omega
        simp [clr, e2]
      · rw [if_neg hfr, if_neg (fun h => hfr (hfree.2 h))]
        rfl
    have h1 := one 1 1 (.inl rfl) (fun h => stepE h) (by omega)
    have h2 := one 2 W.toNat (.inr rfl) (fun h => stepN w1 h) (by omega)
    have e1 : ((1 : Nat) : Int) = 1 := rfl
    have e2 : ((2 : Nat) : Int) = 2 := rfl
    rw [e1] at h1
    rw [e2] at h2
    rw [h1, h2]

/-! Sets of covered cells, as bits. -/
def setG (F : Nat → Bool) (c s : Nat) : Nat → Bool := fun i => F i && !(s.testBit (i - c))

def optsN (W T : Int) (F : Nat → Bool) (c s : Nat) : List Nat :=
  if s % 2 = 1 ∨ F c = false then [s / 2] else
    (if 0 ≤ stepI W T c 1 ∧ F (c + 1) = true ∧ s / 2 % 2 = 0 then [s / 2 + 1] else []) ++ (if 0 ≤ stepI W T c 2 ∧ F (c + W.toNat) = true then [s / 2 + 2 ^ (W.toNat - 1)] else [])

theorem bit_half (s i c : Nat) (h : c + 1 ≤ i) : (s / 2).testBit (i - (c + 1)) = s.testBit (i - c) := by
  rw [show i - c = (i - (c + 1)) + 1 by omega, Nat.testBit_succ]
theorem bit_even {x : Nat} (h : x % 2 = 0) (j : Nat) : (x + 1).testBit j = (decide (j = 0) || x.testBit j) := by
  cases j with
  | zero => rw [Nat.testBit_zero]; simp; omega
  | succ j => rw [Nat.testBit_succ, Nat.testBit_succ, show (x + 1) / 2 = x / 2 by omega]; simp
theorem bit_top {x k : Nat} (h : x < 2 ^ k) (j : Nat) : (x + 2 ^ k).testBit j = (decide (j = k) || x.testBit j) := by
  rw [Nat.add_comm]
  rcases Nat.lt_trichotomy j k with h1 | h1 | h1
  · rw [Nat.testBit_two_pow_add_gt h1]; simp; omega
  · subst h1; rw [Nat.testBit_two_pow_add_eq, Nat.testBit_lt_two_pow h]; simp
  · have e1 : (2 ^ k + x) < 2 ^ j := by
      have : 2 ^ (k + 1) ≤ 2 ^ j := Nat.pow_le_pow_right (by omega) (by omega)
      rw [Nat.pow_succ] at this
      omega
    rw [Nat.testBit_lt_two_pow e1, Nat.testBit_lt_two_pow (by omega)]; simp; omega

/-- The ways from a cell on are the sum of those behind its choices. -/
theorem opts_sum {W T : Int} (hW : 1 ≤ W) (F : Nat → Bool) (f c s : Nat) (hs : s < 2 ^ W.toNat) :
    ((optsN W T F c s).map fun o => cntF W T f (c + 1) (setG F (c + 1) o)).sum = cntF W T (f + 1) c (setG F c s) := by
  have hw : W.toNat = (W.toNat - 1) + 1 := by omega
  have hs2 : s / 2 < 2 ^ (W.toNat - 1) := by rw [hw, Nat.pow_succ] at hs; omega
  have hzero : s.testBit 0 = decide (s % 2 = 1) := by rw [Nat.testBit_zero]
  unfold optsN
  by_cases h : s % 2 = 1 ∨ F c = false
  · rw [if_pos h]
    have hG : ¬ setG F c s c = true := by
      simp only [setG, Nat.sub_self, hzero]
      rcases h with h | h <;> simp [h]
    rw [cntF, if_neg hG]
    simp only [List.map_cons, List.map_nil, List.sum_cons, List.sum_nil, Nat.add_zero]
    apply cntF_congr
    intro i hi
    simp only [setG, bit_half s i c hi]
  · rw [if_neg h]
    have h1 : s % 2 = 0 := by omega
    have h2 : F c = true := by
      cases hF : F c with
      | true => rfl
      | false => exact absurd (.inr hF) h
    have hG : setG F c s c = true := by simp only [setG, Nat.sub_self, hzero, h2]; simp; omega
    have hGe : setG F c s (c + 1) = (F (c + 1) && decide (s / 2 % 2 = 0)) := by
      simp only [setG, show c + 1 - c = 0 + 1 by omega, Nat.testBit_succ, Nat.testBit_zero]
      congr 1
      rcases Nat.mod_two_eq_zero_or_one (s / 2) with h3 | h3 <;> simp [h3]
    have hGn : setG F c s (c + W.toNat) = F (c + W.toNat) := by
      simp only [setG, show c + W.toNat - c = W.toNat by omega, Nat.testBit_lt_two_pow hs]; simp
    rw [cntF, if_pos hG, List.map_append, List.sum_append, hGe, hGn]
    congr 1
    · by_cases h3 : 0 ≤ stepI W T c 1 ∧ F (c + 1) = true ∧ s / 2 % 2 = 0
      · rw [if_pos h3, if_pos (by simp [h3.1, h3.2.1, h3.2.2])]
        simp only [List.map_cons, List.map_nil, List.sum_cons, List.sum_nil, Nat.add_zero]
        apply cntF_congr
        intro i hi
        simp only [setG, clr, bit_even h3.2.2, bit_half s i c hi]
        by_cases e : i = c + 1
        · simp [e]
        · have : ¬ i - (c + 1) = 0 := by omega
          simp [e, this]
      · rw [if_neg h3, if_neg (fun h4 => h3 (by simpa using h4))]
        rfl
    · by_cases h3 : 0 ≤ stepI W T c 2 ∧ F (c + W.toNat) = true
      · rw [if_pos h3, if_pos h3]
        simp only [List.map_cons, List.map_nil, List.sum_cons, List.sum_nil, Nat.add_zero]
        apply cntF_congr
        intro i hi
        simp only [setG, clr, bit_top hs2, bit_half s i c hi]
        by_cases e : i = c + W.toNat
        · subst e
          have : c + W.toNat - (c + 1) = W.toNat - 1 := by omega
          simp [this]
        · have : ¬ i - (c + 1) = W.toNat - 1 := by omega
          simp [e, this]
      · rw [if_neg h3, if_neg h3]
        rfl

theorem opts_lt {W T : Int} (hW : 1 ≤ W) {F : Nat → Bool} {n c s o : Nat} (hn : ∀ i, n ≤ i → F i = false) (hc : c < n) (h1 : s < 2 ^ W.toNat) (h2 : s < 2 ^ (n - c)) (ho : o ∈ optsN W T F c s) : o < 2 ^ W.toNat ∧ o < 2 ^ (n - (c + 1)) := by
  have hw : W.toNat = (W.toNat - 1) + 1 := by omega
  have hnc : n - c = (n - (c + 1)) + 1 := by omega
  have e1 : 2 ^ W.toNat = 2 ^ (W.toNat - 1) * 2 := by conv => lhs; rw [hw, Nat.pow_succ]
  have e2 : 2 ^ (n - c) = 2 ^ (n - (c + 1)) * 2 := by conv => lhs; rw [hnc, Nat.pow_succ]
  have p1 : 0 < 2 ^ (W.toNat - 1) := Nat.pow_pos (by omega)
  unfold optsN at ho
  split at ho
  · simp at ho; subst ho; omega
  · rcases List.mem_append.1 ho with ho | ho
    · split at ho
      · rename_i h
        simp at ho; subst ho
        have : c + 1 < n := by
          rcases Nat.lt_or_ge (c + 1) n with h5 | h5
          · exact h5
          · rw [hn _ h5] at h; simp at h
        have e3 : 2 ^ (n - (c + 1)) = 2 ^ (n - (c + 1) - 1) * 2 := by rw [← Nat.pow_succ]; congr 1; omega
        have h6 := h.2.2
        have h7 : s / 2 + 1 < 2 ^ W.toNat := by omega
        refine ⟨h7, ?_⟩
        omega
      · cases ho
    · split at ho
      · rename_i h
        simp at ho; subst ho
        have : c + W.toNat < n := by
          rcases Nat.lt_or_ge (c + W.toNat) n with h5 | h5
          · exact h5
          · rw [hn _ h5] at h; simp at h
        have h8 : 2 ^ W.toNat ≤ 2 ^ (n - (c + 1)) := Nat.pow_le_pow_right (by omega) (by omega)
        omega
      · cases ho

theorem opts_len {W T : Int} {F : Nat → Bool} {c s : Nat} : (optsN W T F c s).length ≤ 2 := by
  unfold optsN
  split
  · simp
  · rw [List.length_append]; split <;> split <;> simp

/-! Sets with their ways. -/
def addP : List (Nat × Nat) → Nat → Nat → List (Nat × Nat)
  | [], o, v => [(o, v)]
  | p :: P, o, v => if p.1 = o then (o, p.2 + v) :: P else p :: addP P o v

def wsum (g : Nat → Nat) (P : List (Nat × Nat)) : Nat := (P.map fun p => p.2 * g p.1).sum

theorem wsum_addP (g : Nat → Nat) : ∀ (P : List (Nat × Nat)) (o v : Nat), wsum g (addP P o v) = wsum g P + v * g o
  | [], o, v => by simp [addP, wsum]
  | p :: P, o, v => by
    have ih := wsum_addP g P o v
    unfold wsum at ih ⊢
    simp only [addP]
    split
    · rename_i h
      simp only [List.map_cons, List.sum_cons, h, Nat.add_mul]; omega
    · simp only [List.map_cons, List.sum_cons, ih]; omega

theorem addP_length : ∀ (P : List (Nat × Nat)) (o v : Nat), (addP P o v).length ≤ P.length + 1
  | [], o, v => by simp [addP]
  | p :: P, o, v => by
    have ih := addP_length P o v
    simp only [addP]; split <;> simp; omega

theorem addP_mem : ∀ (P : List (Nat × Nat)) (o v : Nat) (q : Nat × Nat), q ∈ addP P o v → q.1 = o ∨ ∃ p ∈ P, q.1 = p.1
  | [], o, v, q, h => by simp [addP] at h; left; rw [h]
  | p :: P, o, v, q, h => by
    simp only [addP] at h
    split at h
    · rcases List.mem_cons.1 h with h | h
      · left; rw [h]
      · right; exact ⟨q, List.mem_cons_of_mem _ h, rfl⟩
    · rcases List.mem_cons.1 h with h | h
      · right; exact ⟨p, by simp, by rw [h]⟩
      · rcases addP_mem P o v q h with h | ⟨p', h1, h2⟩
        · left; exact h
        · right; exact ⟨p', List.mem_cons_of_mem _ h1, h2⟩

theorem addP_new : ∀ {P : List (Nat × Nat)} {o : Nat} (v : Nat), (∀ p ∈ P, p.1 ≠ o) → addP P o v = P ++ [(o, v)]
  | [], o, v, _ => rfl
  | p :: P, o, v, h => by
    simp only [addP]
    rw [if_neg (h p (by simp)), addP_new v (fun q hq => h q (by simp [hq]))]; rfl

theorem addP_at : ∀ {P : List (Nat × Nat)} {o i u : Nat} (v : Nat), P[i]? = some (o, u) → (∀ j, j < i → ∀ p, P[j]? = some p → p.1 ≠ o) → addP P o v = P.set i (o, u + v)
  | [], o, i, u, v, h, _ => by simp at h
  | p :: P, o, 0, u, v, h, _ => by
    simp at h
    simp [addP, h]
  | p :: P, o, i + 1, u, v, h, h2 => by
    simp only [addP]
    rw [if_neg (h2 0 (by omega) p (by simp)), addP_at v (i := i) (u := u) (by simpa using h) (fun j hj q hq => h2 (j + 1) (by omega) q (by simpa using hq))]
    rfl

def addAll (P : List (Nat × Nat)) (os : List Nat) (v : Nat) : List (Nat × Nat) := os.foldl (fun P o => addP P o v) P
theorem wsum_addAll (g : Nat → Nat) (v : Nat) : ∀ (os : List Nat) (P : List (Nat × Nat)), wsum g (addAll P os v) = wsum g P + v * (os.map g).sum
  | [], P => by simp [addAll]
  | o :: os, P => by
    have := wsum_addAll g v os (addP P o v)
    unfold addAll at this ⊢
    rw [List.foldl_cons, this, wsum_addP, List.map_cons, List.sum_cons, Nat.mul_add]; omega

theorem addAll_length (v : Nat) : ∀ (os : List Nat) (P : List (Nat × Nat)), (addAll P os v).length ≤ P.length + os.length
  | [], P => by simp [addAll]
  | o :: os, P => by
    have := addAll_length v os (addP P o v)
    have h2 := addP_length P o v
    unfold addAll at this ⊢
    rw [List.foldl_cons, List.length_cons]; omega

theorem addAll_mem (v : Nat) : ∀ (os : List Nat) (P : List (Nat × Nat)) (q : Nat × Nat), q ∈ addAll P os v → q.1 ∈ os ∨ ∃ p ∈ P, q.1 = p.1
  | [], P, q, h => .inr ⟨q, h, rfl⟩
  | o :: os, P, q, h => by
    rcases addAll_mem v os (addP P o v) q h with h | ⟨p, h1, h2⟩
    · left; simp [h]
    · rcases addP_mem P o v p h1 with h3 | ⟨p', h3, h4⟩
      · left; simp [h2, h3]
      · right; exact ⟨p', h3, h2.trans h4⟩

/-- What holds of the sets with their ways, at a cell. -/
structure OkP (W T : Int) (F : Nat → Bool) (n c tot : Nat) (P : List (Nat × Nat)) : Prop where
  lt : ∀ p ∈ P, p.1 < 2 ^ W.toNat ∧ p.1 < 2 ^ (n - c)
  tot : wsum (fun s => cntF W T (n - c) c (setG F c s)) P = tot
  sum : wsum (fun _ => 1) P ≤ 2 ^ c
  len : P.length ≤ 2 ^ c

/-- In the midst of a step: some sets have been gone through. -/
structure MidP (W T : Int) (F : Nat → Bool) (n c : Nat) (P : List (Nat × Nat)) (k : Nat) (Q : List (Nat × Nat)) : Prop where
  lt : ∀ p ∈ Q, p.1 < 2 ^ W.toNat ∧ p.1 < 2 ^ (n - (c + 1))
  tot : wsum (fun s => cntF W T (n - (c + 1)) (c + 1) (setG F (c + 1) s)) Q = wsum (fun s => cntF W T (n - c) c (setG F c s)) (P.take k)
  sum : wsum (fun _ => 1) Q ≤ 2 * wsum (fun _ => 1) (P.take k)
  len : Q.length ≤ 2 * k

theorem sum_ones {α : Type} : ∀ l : List α, (l.map fun _ => 1).sum = l.length
  | [] => rfl
  | x :: l => by rw [List.map_cons, List.sum_cons, sum_ones l, List.length_cons]; omega

theorem wsum_append (g : Nat → Nat) (P Q : List (Nat × Nat)) : wsum g (P ++ Q) = wsum g P + wsum g Q := by simp [wsum]
theorem wsum_take (g : Nat → Nat) (P : List (Nat × Nat)) (k : Nat) : wsum g (P.take k) ≤ wsum g P := by
  have := wsum_append g (P.take k) (P.drop k)
  rw [List.take_append_drop] at this
  omega

theorem mid_zero {W T : Int} {F : Nat → Bool} {n c : Nat} {P : List (Nat × Nat)} : MidP W T F n c P 0 [] := ⟨by simp, by simp [wsum], by simp [wsum], by simp⟩

theorem mid_step {W T : Int} {F : Nat → Bool} {n c tot k : Nat} {P Q : List (Nat × Nat)} {s v : Nat} (hW : 1 ≤ W) (hn : ∀ i, n ≤ i → F i = false) (hc : c < n) (hP : OkP W T F n c tot P) (hk : P[k]? = some (s, v)) (hQ : MidP W T F n c P k Q) :
    MidP W T F n c P (k + 1) (addAll Q (optsN W T F c s) v) := by
  have hmem : (s, v) ∈ P := List.mem_of_getElem? hk
  have hlt := hP.lt _ hmem
  have ht : P.take (k + 1) = P.take k ++ [(s, v)] := by rw [List.take_add_one, hk]; rfl
  have hol := opts_len (W := W) (T := T) (F := F) (c := c) (s := s)
  refine ⟨?_, ?_, ?_, ?_⟩
  · intro q hq
    rcases addAll_mem v _ _ q hq with h | ⟨p, h1, h2⟩
    · exact opts_lt hW hn hc hlt.1 hlt.2 h
    · rw [h2]; exact hQ.lt p h1
  · have e : n - c = (n - (c + 1)) + 1 := by omega
    rw [wsum_addAll, hQ.tot, ht, wsum_append, opts_sum hW F (n - (c + 1)) c s hlt.1, ← e]
    simp [wsum]
  · rw [wsum_addAll, ht, wsum_append]
    have h1 := hQ.sum
    have h2 : v * ((optsN W T F c s).map fun _ => 1).sum ≤ v * 2 := Nat.mul_le_mul_left _ (by rw [sum_ones]; exact hol)
    have h3 : wsum (fun _ => 1) [(s, v)] = v := by simp [wsum]
    omega
  · have := addAll_length v (optsN W T F c s) Q
    have := hQ.len
    omega

theorem mid_end {W T : Int} {F : Nat → Bool} {n c tot : Nat} {P Q : List (Nat × Nat)} (hP : OkP W T F n c tot P) (hQ : MidP W T F n c P P.length Q) : OkP W T F n (c + 1) tot Q := by
  have e := List.take_length (l := P)
  refine ⟨hQ.lt, ?_, ?_, ?_⟩
  · rw [hQ.tot, e, hP.tot]
  · have h1 := hQ.sum
    have h2 := hP.sum
    rw [e] at h1
    rw [Nat.pow_succ]; omega
  · have h1 := hQ.len
    have h2 := hP.len
    rw [Nat.pow_succ]; omega

theorem okP_start {W T : Int} {F : Nat → Bool} {n : Nat} (hW : 1 ≤ W) : OkP W T F n 0 (cntF W T n 0 F) [(0, 1)] := by
  refine ⟨?_, ?_, ?_, ?_⟩
  · intro p hp
    simp at hp; subst hp
    exact ⟨Nat.pow_pos (by omega), Nat.pow_pos (by omega)⟩
  · have : setG F 0 0 = F := by funext i; simp [setG]
    simp [wsum, this]
  · simp [wsum]
  · simp

theorem okP_end {W T : Int} {F : Nat → Bool} {n tot : Nat} {P : List (Nat × Nat)} (hP : OkP W T F n n tot P) : (∀ p ∈ P, p.1 = 0) ∧ wsum (fun _ => 1) P = tot := by
  refine ⟨fun p hp => ?_, ?_⟩
  · have := (hP.lt p hp).2
    rw [Nat.sub_self] at this
    simpa using this
  · have := hP.tot
    rw [Nat.sub_self] at this
    simpa [cntF] using this

end Go.Proofs.Dev

namespace Go.Proofs.Dev

end Go.Proofs.Dev

namespace Go.Proofs.Dev
set_option linter.unusedSimpArgs false
set_option maxRecDepth 100000

end Go.Proofs.Dev

namespace Go.Proofs.Dev
set_option linter.unusedSimpArgs false
set_option maxRecDepth 100000

/-- Who takes ownership: each (140) of the list and of the closure, the closure (141) of all. -/
@[simp] def md2 (f : Nat) : List Bool := if f = 207 then [false, true, true] else if f = 208 then [true, true, true, true] else md0 f

@[simp] theorem ints_getA (xs : List Int) (i : Nat) (h : i < (ints xs).length) : (ints xs)[i] = .v (.int .i64 (ati xs i)) := by
  have h2 : i < xs.length := by simpa using h
  simp [ints, ati, h2]

end Go.Proofs.Dev

namespace Go.Proofs.Dev

end Go.Proofs.Dev

namespace Go.Proofs.Dev
set_option linter.unusedSimpArgs false
set_option maxRecDepth 100000

end Go.Proofs.Dev
