/- Contracts of the functions of the program over slots and rows, each proved against the program itself; no condition beyond those that each theorem names. -/
import Derived.Test.YtakaenhgbkbegaaAN
import Derived.Test.YtakaenhgbkbegaaProg
import Derived.Test.YtakaenhgbkbegaaAH
import Derived.Shelf.Bits.Mul64
import Derived.Ground.NamesProg
import Derived.Test.YtakaenhgbkbegaaAL
import Derived.Test.YtakaenhgbkbegaaAK
import Derived.Test.YtakaenhgbkbegaaAM

set_option linter.unusedSimpArgs false
set_option linter.unusedVariables false

namespace Go.Proofs.Dev
set_option linter.unusedSimpArgs false

def clr (G : Nat → Bool) (j : Nat) : Nat → Bool := fun i => G i && !(decide (i = j))
/-- In how many ways the free cells from a cell on are covered. -/
def cntF (W T : Int) : Nat → Nat → (Nat → Bool) → Nat
  | 0, _, _ => 1
  | f + 1, c, G => if G c = true then (if 0 ≤ stepI W T c 1 ∧ G (c + 1) = true then cntF W T f (c + 1) (clr G (c + 1)) else 0) + (if 0 ≤ stepI W T c 2 ∧ G (c + W.toNat) = true then cntF W T f (c + 1) (clr G (c + W.toNat)) else 0)
    else cntF W T f (c + 1) G

theorem cntF_congr {W T : Int} : ∀ (f c : Nat) {G G' : Nat → Bool}, (∀ i, c ≤ i → G i = G' i) → cntF W T f c G = cntF W T f c G'
  | 0, _, _, _, _ => rfl
  | f + 1, c, G, G', h => by
    have h1 := cntF_congr (W := W) (T := T) f (c + 1) (G := G) (G' := G') (fun i hi => h i (by omega))
    have h2 := cntF_congr (W := W) (T := T) f (c + 1) (G := clr G (c + 1)) (G' := clr G' (c + 1)) (fun i hi => by simp [clr, h i (by omega)])
    have h3 := cntF_congr (W := W) (T := T) f (c + 1) (G := clr G (c + W.toNat)) (G' := clr G' (c + W.toNat)) (fun i hi => by simp [clr, h i (by omega)])
    simp only [cntF, h c (Nat.le_refl c), h (c + 1) (by omega), h (c + W.toNat) (by omega), h1, h2, h3]

theorem cntF_skip {W T : Int} (f : Nat) {G : Nat → Bool} : ∀ (d c : Nat), (∀ i, c ≤ i → i < c + d → G i = false) → cntF W T (f + d) c G = cntF W T f (c + d) G
  | 0, c, _ => rfl
  | d + 1, c, h => by
    have h0 := h c (Nat.le_refl c) (by omega)
    have h1 := cntF_skip (W := W) (T := T) f d (c + 1) (fun i h2 h3 => h i (by omega) (by omega))
    rw [show f + (d + 1) = (f + d) + 1 by omega, cntF, if_neg (by simp [h0]), h1, show c + 1 + d = c + (d + 1) by omega]

theorem cntF_le {W T : Int} : ∀ (f c : Nat) (G : Nat → Bool), cntF W T f c G ≤ 2 ^ f
  | 0, _, _ => by simp [cntF]
  | f + 1, c, G => by
    have h1 := cntF_le (W := W) (T := T) f (c + 1) G
    have h2 := cntF_le (W := W) (T := T) f (c + 1) (clr G (c + 1))
    have h3 := cntF_le (W := W) (T := T) f (c + 1) (clr G (c + W.toNat))
    rw [cntF, Nat.pow_succ]
    split
    · split <;> split <;> omega
    · omega

theorem stepE {W T : Int} {c : Nat} (h : 0 ≤ stepI W T c 1) : stepI W T c 1 = ((c + 1 : Nat) : Int) := by
  unfold stepI at h ⊢
  by_cases hc : (c : Int) % W < W - 1
  · simp [hc]
  · simp [hc] at h
theorem stepN {W T : Int} {c : Nat} (hW : 1 ≤ W) (h : 0 ≤ stepI W T c 2) : stepI W T c 2 = ((c + W.toNat : Nat) : Int) := by
  unfold stepI at h ⊢
  by_cases hc : (c : Int) / W < T - 1
  · simp [hc]; omega
  · simp [hc] at h

/-- The count of the ways to lay on all free cells is that of the tilings. -/
theorem cnt_allT {W T : Int} {cs : List Bool} (hr : regB W T cs = true) : ∀ (n : Nat) (ls : List Int), zeros ls ≤ n → laysB W T cs ls = true → cntF W T cs.length 0 (bareB cs ls) = (allT W T cs n ls).length := by
  obtain ⟨w1, w2, t1, t2, l1, _⟩ := regB_W hr
  intro n
  induction n with
  | zero =>
    intro ls hz hy
    have hlen : ls.length = cs.length := by simp only [laysB, Bool.and_eq_true, decide_eq_true_eq] at hy; exact hy.1
    have hf : ∀ i, 0 ≤ i → i < 0 + cs.length → bareB cs ls i = false := by
      intro i _ hi
      cases hb : bareB cs ls i with
      | false => rfl
      | true =>
        simp only [bareB, Bool.and_eq_true, decide_eq_true_eq] at hb
        have := zeros_set_lt (ls := ls) (i := i) (v := 1) (by omega) hb.2 (by omega)
        omega
    have := cntF_skip (W := W) (T := T) 0 cs.length 0 hf
    rw [Nat.zero_add] at this
    rw [this]; simp [cntF, allT]
  | succ n ih =>
    intro ls hz hy
    have hlen : ls.length = cs.length := by simp only [laysB, Bool.and_eq_true, decide_eq_true_eq] at hy; exact hy.1
    rcases bare_cases cs ls with hb | ⟨c, hc, hb, hcs, hls⟩
    · have hf : ∀ i, 0 ≤ i → i < 0 + cs.length → bareB cs ls i = false := by
        intro i _ hi
        exact firstI_neg (p := bareB cs ls) (n := ls.length) (by unfold bareI at hb; omega) i (by omega)
      have := cntF_skip (W := W) (T := T) 0 cs.length 0 hf
      rw [Nat.zero_add] at this
      rw [this]; simp [cntF, allT, hb]
    have hmin := firstI_min (by unfold bareI at hb; exact hb)
    have hGc : bareB cs ls c = true := by simp [bareB, hcs, hls]
    obtain ⟨m, hm⟩ : ∃ m, cs.length = (m + 1) + c := ⟨cs.length - c - 1, by omega⟩
    have hskip := cntF_skip (W := W) (T := T) (m + 1) (G := bareB cs ls) c 0 (fun i _ hi => hmin i (by omega))
    rw [← hm, Nat.zero_add] at hskip
    rw [hskip, cntF, if_pos hGc, allT]
    have hneg : ¬ bareI cs ls < 0 := by omega
    rw [if_neg hneg, List.length_append, hb]
    -- one direction
    have one : ∀ (way d : Nat), (way = 1 ∨ way = 2) → (0 ≤ stepI W T c way → stepI W T c way = ((c + d : Nat) : Int)) → 1 ≤ d →
        (if 0 ≤ stepI W T c way ∧ bareB cs ls (c + d) = true then cntF W T m (c + 1) (clr (bareB cs ls) (c + d)) else 0) = (if freeB W T cs ls c way = true then allT W T cs n (layI W T ls c way) else []).length := by
      intro way d hw hst hd
      have hfree : freeB W T cs ls c way = true ↔ (0 ≤ stepI W T c way ∧ bareB cs ls (c + d) = true) := by
        simp only [freeB, decide_eq_true_eq, bareB, Bool.and_eq_true]
        constructor
        · rintro ⟨_, _, h2, _, h4, _, h6⟩
          have e := hst h2
          rw [e] at h4 h6
          exact ⟨h2, h4, h6⟩
        · rintro ⟨h2, h4, h6⟩
          have e := hst h2
          rw [e]
          exact ⟨by omega, by omega, by omega, hcs, h4, hls, h6⟩
      by_cases hfr : freeB W T cs ls c way = true
      · rw [if_pos hfr, if_pos (hfree.1 hfr)]
        have h2 := (hfree.1 hfr).1
        have e := hst h2
        have hlt := (step_back (T := T) (k := c) (way := way) w1 (by omega) (by omega) h2).2.2.2.2
        have hto : (stepI W T c way).toNat < ls.length := by omega
        have hzz := lay_zeros (W := W) (T := T) (ls := ls) (k := c) (way := way) hc hls (by omega) (by omega)
        rw [← ih (layI W T ls c way) (by omega) (lay_ok hr hy hfr)]
        obtain ⟨t, et, _, _, _, v1, v4, _, _, _, _, hA⟩ := free_facts hr hlen hfr
        have etd : t = c + d := by omega
        have hat : ∀ i : Nat, bareB cs (layI W T ls c way) i = (bareB cs ls i && !decide (i = c) && !decide (i = c + d)) := by
          intro i
          have hbk : backI way ≠ 0 := by
            have := (backI_back v1 v4).2
            omega
          simp only [bareB, hA i]
          by_cases e1 : i = t
          · have e3 : i = c + d := by omega
            rw [if_pos e1]; simp [hbk, e3]
          · have e3 : ¬ i = c + d := by omega
            by_cases e2 : i = c
            · have hw0 : (way : Int) ≠ 0 := by omega
              have hw1 : ¬ way = 0 := by omega
              rw [if_neg e1, if_pos e2]; simp [hw1, e2]
            · rw [if_neg e1, if_neg e2]; simp [e2, e3]
        have hsk := cntF_skip (W := W) (T := T) m (G := bareB cs (layI W T ls c way)) (c + 1) 0 (fun i _ hi => by
          rw [hat]
          by_cases e1 : i = c
          · simp [e1]
          · rw [hmin i (by omega)]; rfl)
        rw [Nat.zero_add, show m + (c + 1) = cs.length by omega] at hsk
        rw [hsk]
        apply cntF_congr
        intro i hi
        rw [hat]
        have e2 : ¬ i = c := by omega
        simp [clr, e2]
      · rw [if_neg hfr, if_neg (fun h => hfr (hfree.2 h))]
        rfl
    have h1 := one 1 1 (.inl rfl) (fun h => stepE h) (by omega)
    have h2 := one 2 W.toNat (.inr rfl) (fun h => stepN w1 h) (by omega)
    have e1 : ((1 : Nat) : Int) = 1 := rfl
    have e2 : ((2 : Nat) : Int) = 2 := rfl
    rw [e1] at h1
    rw [e2] at h2
    rw [h1, h2]

/-! Sets of covered cells, as bits. -/
def setG (F : Nat → Bool) (c s : Nat) : Nat → Bool := fun i => F i && !(s.testBit (i - c))

def optsN (W T : Int) (F : Nat → Bool) (c s : Nat) : List Nat :=
  if s % 2 = 1 ∨ F c = false then [s / 2] else
    (if 0 ≤ stepI W T c 1 ∧ F (c + 1) = true ∧ s / 2 % 2 = 0 then [s / 2 + 1] else []) ++ (if 0 ≤ stepI W T c 2 ∧ F (c + W.toNat) = true then [s / 2 + 2 ^ (W.toNat - 1)] else [])

theorem bit_half (s i c : Nat) (h : c + 1 ≤ i) : (s / 2).testBit (i - (c + 1)) = s.testBit (i - c) := by
  rw [show i - c = (i - (c + 1)) + 1 by omega, Nat.testBit_succ]
theorem bit_even {x : Nat} (h : x % 2 = 0) (j : Nat) : (x + 1).testBit j = (decide (j = 0) || x.testBit j) := by
  cases j with
  | zero => rw [Nat.testBit_zero]; simp; omega
  | succ j => rw [Nat.testBit_succ, Nat.testBit_succ, show (x + 1) / 2 = x / 2 by omega]; simp
theorem bit_top {x k : Nat} (h : x < 2 ^ k) (j : Nat) : (x + 2 ^ k).testBit j = (decide (j = k) || x.testBit j) := by
  rw [Nat.add_comm]
  rcases Nat.lt_trichotomy j k with h1 | h1 | h1
  · rw [Nat.testBit_two_pow_add_gt h1]; simp; omega
  · subst h1; rw [Nat.testBit_two_pow_add_eq, Nat.testBit_lt_two_pow h]; simp
  · have e1 : (2 ^ k + x) < 2 ^ j := by
      have : 2 ^ (k + 1) ≤ 2 ^ j := Nat.pow_le_pow_right (by omega) (by omega)
      rw [Nat.pow_succ] at this
      omega
    rw [Nat.testBit_lt_two_pow e1, Nat.testBit_lt_two_pow (by omega)]; simp; omega

/-- The ways from a cell on are the sum of those behind its choices. -/
theorem opts_sum {W T : Int} (hW : 1 ≤ W) (F : Nat → Bool) (f c s : Nat) (hs : s < 2 ^ W.toNat) :
    ((optsN W T F c s).map fun o => cntF W T f (c + 1) (setG F (c + 1) o)).sum = cntF W T (f + 1) c (setG F c s) := by
  have hw : W.toNat = (W.toNat - 1) + 1 := by omega
  have hs2 : s / 2 < 2 ^ (W.toNat - 1) := by rw [hw, Nat.pow_succ] at hs; omega
  have hzero : s.testBit 0 = decide (s % 2 = 1) := by rw [Nat.testBit_zero]
  unfold optsN
  by_cases h : s % 2 = 1 ∨ F c = false
  · rw [if_pos h]
    have hG : ¬ setG F c s c = true := by
      simp only [setG, Nat.sub_self, hzero]
      rcases h with h | h <;> simp [h]
    rw [cntF, if_neg hG]
    simp only [List.map_cons, List.map_nil, List.sum_cons, List.sum_nil, Nat.add_zero]
    apply cntF_congr
    intro i hi
    simp only [setG, bit_half s i c hi]
  · rw [if_neg h]
    have h1 : s % 2 = 0 := by omega
    have h2 : F c = true := by
      cases hF : F c with
      | true => rfl
      | false => exact absurd (.inr hF) h
    have hG : setG F c s c = true := by simp only [setG, Nat.sub_self, hzero, h2]; simp; omega
    have hGe : setG F c s (c + 1) = (F (c + 1) && decide (s / 2 % 2 = 0)) := by
      simp only [setG, show c + 1 - c = 0 + 1 by omega, Nat.testBit_succ, Nat.testBit_zero]
      congr 1
      rcases Nat.mod_two_eq_zero_or_one (s / 2) with h3 | h3 <;> simp [h3]
    have hGn : setG F c s (c + W.toNat) = F (c + W.toNat) := by
      simp only [setG, show c + W.toNat - c = W.toNat by omega, Nat.testBit_lt_two_pow hs]; simp
    rw [cntF, if_pos hG, List.map_append, List.sum_append, hGe, hGn]
    congr 1
    · by_cases h3 : 0 ≤ stepI W T c 1 ∧ F (c + 1) = true ∧ s / 2 % 2 = 0
      · rw [if_pos h3, if_pos (by simp [h3.1, h3.2.1, h3.2.2])]
        simp only [List.map_cons, List.map_nil, List.sum_cons, List.sum_nil, Nat.add_zero]
        apply cntF_congr
        intro i hi
        simp only [setG, clr, bit_even h3.2.2, bit_half s i c hi]
        by_cases e : i = c + 1
        · simp [e]
        · have : ¬ i - (c + 1) = 0 := by omega
          simp [e, this]
      · rw [if_neg h3, if_neg (fun h4 => h3 (by simpa using h4))]
        rfl
    · by_cases h3 : 0 ≤ stepI W T c 2 ∧ F (c + W.toNat) = true
      · rw [if_pos h3, if_pos h3]
        simp only [List.map_cons, List.map_nil, List.sum_cons, List.sum_nil, Nat.add_zero]
        apply cntF_congr
        intro i hi
        simp only [setG, clr, bit_top hs2, bit_half s i c hi]
        by_cases e : i = c + W.toNat
        · subst e
          have : c + W.toNat - (c + 1) = W.toNat - 1 := by omega
          simp [this]
        · have : ¬ i - (c + 1) = W.toNat - 1 := by omega
          simp [e, this]
      · rw [if_neg h3, if_neg h3]
        rfl

theorem opts_lt {W T : Int} (hW : 1 ≤ W) {F : Nat → Bool} {n c s o : Nat} (hn : ∀ i, n ≤ i → F i = false) (hc : c < n) (h1 : s < 2 ^ W.toNat) (h2 : s < 2 ^ (n - c)) (ho : o ∈ optsN W T F c s) : o < 2 ^ W.toNat ∧ o < 2 ^ (n - (c + 1)) := by
  have hw : W.toNat = (W.toNat - 1) + 1 := by omega
  have hnc : n - c = (n - (c + 1)) + 1 := by omega
  have e1 : 2 ^ W.toNat = 2 ^ (W.toNat - 1) * 2 := by conv => lhs; rw [hw, Nat.pow_succ]
  have e2 : 2 ^ (n - c) = 2 ^ (n - (c + 1)) * 2 := by conv => lhs; rw [hnc, Nat.pow_succ]
  have p1 : 0 < 2 ^ (W.toNat - 1) := Nat.pow_pos (by omega)
  unfold optsN at ho
  split at ho
  · simp at ho; subst ho; omega
  · rcases List.mem_append.1 ho with ho | ho
    · split at ho
      · rename_i h
        simp at ho; subst ho
        have : c + 1 < n := by
          rcases Nat.lt_or_ge (c + 1) n with h5 | h5
          · exact h5
          · rw [hn _ h5] at h; simp at h
        have e3 : 2 ^ (n - (c + 1)) = 2 ^ (n - (c + 1) - 1) * 2 := by rw [← Nat.pow_succ]; congr 1; omega
        have h6 := h.2.2
        have h7 : s / 2 + 1 < 2 ^ W.toNat := by omega
        refine ⟨h7, ?_⟩
        omega
      · cases ho
    · split at ho
      · rename_i h
        simp at ho; subst ho
        have : c + W.toNat < n := by
          rcases Nat.lt_or_ge (c + W.toNat) n with h5 | h5
          · exact h5
          · rw [hn _ h5] at h; simp at h
        have h8 : 2 ^ W.toNat ≤ 2 ^ (n - (c + 1)) := Nat.pow_le_pow_right (by omega) (by omega)
        omega
      · cases ho

theorem opts_len {W T : Int} {F : Nat → Bool} {c s : Nat} : (optsN W T F c s).length ≤ 2 := by
  unfold optsN
  split
  · simp
  · rw [List.length_append]; split <;> split <;> simp

/-! Sets with their ways. -/
def addP : List (Nat × Nat) → Nat → Nat → List (Nat × Nat)
  | [], o, v => [(o, v)]
  | p :: P, o, v => if p.1 = o then (o, p.2 + v) :: P else p :: addP P o v

def wsum (g : Nat → Nat) (P : List (Nat × Nat)) : Nat := (P.map fun p => p.2 * g p.1).sum

theorem wsum_addP (g : Nat → Nat) : ∀ (P : List (Nat × Nat)) (o v : Nat), wsum g (addP P o v) = wsum g P + v * g o
  | [], o, v => by simp [addP, wsum]
  | p :: P, o, v => by
    have ih := wsum_addP g P o v
    unfold wsum at ih ⊢
    simp only [addP]
    split
    · rename_i h
      simp only [List.map_cons, List.sum_cons, h, Nat.add_mul]; omega
    · simp only [List.map_cons, List.sum_cons, ih]; omega

theorem addP_length : ∀ (P : List (Nat × Nat)) (o v : Nat), (addP P o v).length ≤ P.length + 1
  | [], o, v => by simp [addP]
  | p :: P, o, v => by
    have ih := addP_length P o v
    simp only [addP]; split <;> simp; omega

theorem addP_mem : ∀ (P : List (Nat × Nat)) (o v : Nat) (q : Nat × Nat), q ∈ addP P o v → q.1 = o ∨ ∃ p ∈ P, q.1 = p.1
  | [], o, v, q, h => by simp [addP] at h; left; rw [h]
  | p :: P, o, v, q, h => by
    simp only [addP] at h
    split at h
    · rcases List.mem_cons.1 h with h | h
      · left; rw [h]
      · right; exact ⟨q, List.mem_cons_of_mem _ h, rfl⟩
    · rcases List.mem_cons.1 h with h | h
      · right; exact ⟨p, by simp, by rw [h]⟩
      · rcases addP_mem P o v q h with h | ⟨p', h1, h2⟩
        · left; exact h
        · right; exact ⟨p', List.mem_cons_of_mem _ h1, h2⟩

theorem addP_new : ∀ {P : List (Nat × Nat)} {o : Nat} (v : Nat), (∀ p ∈ P, p.1 ≠ o) → addP P o v = P ++ [(o, v)]
  | [], o, v, _ => rfl
  | p :: P, o, v, h => by
    simp only [addP]
    rw [if_neg (h p (by simp)), addP_new v (fun q hq => h q (by simp [hq]))]; rfl

theorem addP_at : ∀ {P : List (Nat × Nat)} {o i u : Nat} (v : Nat), P[i]? = some (o, u) → (∀ j, j < i → ∀ p, P[j]? = some p → p.1 ≠ o) → addP P o v = P.set i (o, u + v)
  | [], o, i, u, v, h, _ => by simp at h
  | p :: P, o, 0, u, v, h, _ => by
    simp at h
    simp [addP, h]
  | p :: P, o, i + 1, u, v, h, h2 => by
    simp only [addP]
    rw [if_neg (h2 0 (by omega) p (by simp)), addP_at v (i := i) (u := u) (by simpa using h) (fun j hj q hq => h2 (j + 1) (by omega) q (by simpa using hq))]
    rfl

def addAll (P : List (Nat × Nat)) (os : List Nat) (v : Nat) : List (Nat × Nat) := os.foldl (fun P o => addP P o v) P
theorem wsum_addAll (g : Nat → Nat) (v : Nat) : ∀ (os : List Nat) (P : List (Nat × Nat)), wsum g (addAll P os v) = wsum g P + v * (os.map g).sum
  | [], P => by simp [addAll]
  | o :: os, P => by
    have := wsum_addAll g v os (addP P o v)
    unfold addAll at this ⊢
    rw [List.foldl_cons, this, wsum_addP, List.map_cons, List.sum_cons, Nat.mul_add]; omega

theorem addAll_length (v : Nat) : ∀ (os : List Nat) (P : List (Nat × Nat)), (addAll P os v).length ≤ P.length + os.length
  | [], P => by simp [addAll]
  | o :: os, P => by
    have := addAll_length v os (addP P o v)
    have h2 := addP_length P o v
    unfold addAll at this ⊢
    rw [List.foldl_cons, List.length_cons]; omega

theorem addAll_mem (v : Nat) : ∀ (os : List Nat) (P : List (Nat × Nat)) (q : Nat × Nat), q ∈ addAll P os v → q.1 ∈ os ∨ ∃ p ∈ P, q.1 = p.1
  | [], P, q, h => .inr ⟨q, h, rfl⟩
  | o :: os, P, q, h => by
    rcases addAll_mem v os (addP P o v) q h with h | ⟨p, h1, h2⟩
    · left; simp [h]
    · rcases addP_mem P o v p h1 with h3 | ⟨p', h3, h4⟩
      · left; simp [h2, h3]
      · right; exact ⟨p', h3, h2.trans h4⟩

/-- What holds of the sets with their ways, at a cell. -/
structure OkP (W T : Int) (F : Nat → Bool) (n c tot : Nat) (P : List (Nat × Nat)) : Prop where
  lt : ∀ p ∈ P, p.1 < 2 ^ W.toNat ∧ p.1 < 2 ^ (n - c)
  tot : wsum (fun s => cntF W T (n - c) c (setG F c s)) P = tot
  sum : wsum (fun _ => 1) P ≤ 2 ^ c
  len : P.length ≤ 2 ^ c

/-- In the midst of a step: some sets have been gone through. -/
structure MidP (W T : Int) (F : Nat → Bool) (n c : Nat) (P : List (Nat × Nat)) (k : Nat) (Q : List (Nat × Nat)) : Prop where
  lt : ∀ p ∈ Q, p.1 < 2 ^ W.toNat ∧ p.1 < 2 ^ (n - (c + 1))
  tot : wsum (fun s => cntF W T (n - (c + 1)) (c + 1) (setG F (c + 1) s)) Q = wsum (fun s => cntF W T (n - c) c (setG F c s)) (P.take k)
  sum : wsum (fun _ => 1) Q ≤ 2 * wsum (fun _ => 1) (P.take k)
  len : Q.length ≤ 2 * k

theorem sum_ones {α : Type} : ∀ l : List α, (l.map fun _ => 1).sum = l.length
  | [] => rfl
  | x :: l => by rw [List.map_cons, List.sum_cons, sum_ones l, List.length_cons]; omega

theorem wsum_append (g : Nat → Nat) (P Q : List (Nat × Nat)) : wsum g (P ++ Q) = wsum g P + wsum g Q := by simp [wsum]
theorem wsum_take (g : Nat → Nat) (P : List (Nat × Nat)) (k : Nat) : wsum g (P.take k) ≤ wsum g P := by
  have := wsum_append g (P.take k) (P.drop k)
  rw [List.take_append_drop] at this
  omega

theorem mid_zero {W T : Int} {F : Nat → Bool} {n c : Nat} {P : List (Nat × Nat)} : MidP W T F n c P 0 [] := ⟨by simp, by simp [wsum], by simp [wsum], by simp⟩

theorem mid_step {W T : Int} {F : Nat → Bool} {n c tot k : Nat} {P Q : List (Nat × Nat)} {s v : Nat} (hW : 1 ≤ W) (hn : ∀ i, n ≤ i → F i = false) (hc : c < n) (hP : OkP W T F n c tot P) (hk : P[k]? = some (s, v)) (hQ : MidP W T F n c P k Q) :
    MidP W T F n c P (k + 1) (addAll Q (optsN W T F c s) v) := by
  have hmem : (s, v) ∈ P := List.mem_of_getElem? hk
  have hlt := hP.lt _ hmem
  have ht : P.take (k + 1) = P.take k ++ [(s, v)] := by rw [List.take_add_one, hk]; rfl
  have hol := opts_len (W := W) (T := T) (F := F) (c := c) (s := s)
  refine ⟨?_, ?_, ?_, ?_⟩
  · intro q hq
    rcases addAll_mem v _ _ q hq with h | ⟨p, h1, h2⟩
    · exact opts_lt hW hn hc hlt.1 hlt.2 h
    · rw [h2]; exact hQ.lt p h1
  · have e : n - c = (n - (c + 1)) + 1 := by omega
    rw [wsum_addAll, hQ.tot, ht, wsum_append, opts_sum hW F (n - (c + 1)) c s hlt.1, ← e]
    simp [wsum]
  · rw [wsum_addAll, ht, wsum_append]
    have h1 := hQ.sum
    have h2 : v * ((optsN W T F c s).map fun _ => 1).sum ≤ v * 2 := Nat.mul_le_mul_left _ (by rw [sum_ones]; exact hol)
    have h3 : wsum (fun _ => 1) [(s, v)] = v := by simp [wsum]
    omega
  · have := addAll_length v (optsN W T F c s) Q
    have := hQ.len
    omega

theorem mid_end {W T : Int} {F : Nat → Bool} {n c tot : Nat} {P Q : List (Nat × Nat)} (hP : OkP W T F n c tot P) (hQ : MidP W T F n c P P.length Q) : OkP W T F n (c + 1) tot Q := by
  have e := List.take_length (l := P)
  refine ⟨hQ.lt, ?_, ?_, ?_⟩
  · rw [hQ.tot, e, hP.tot]
  · have h1 := hQ.sum
    have h2 := hP.sum
    rw [e] at h1
    rw [Nat.pow_succ]; omega
  · have h1 := hQ.len
    have h2 := hP.len
    rw [Nat.pow_succ]; omega

theorem okP_start {W T : Int} {F : Nat → Bool} {n : Nat} (hW : 1 ≤ W) : OkP W T F n 0 (cntF W T n 0 F) [(0, 1)] := by
  refine ⟨?_, ?_, ?_, ?_⟩
  · intro p hp
    simp at hp; subst hp
    exact ⟨Nat.pow_pos (by omega), Nat.pow_pos (by omega)⟩
  · have : setG F 0 0 = F := by funext i; simp [setG]
    simp [wsum, this]
  · simp [wsum]
  · simp

theorem okP_end {W T : Int} {F : Nat → Bool} {n tot : Nat} {P : List (Nat × Nat)} (hP : OkP W T F n n tot P) : (∀ p ∈ P, p.1 = 0) ∧ wsum (fun _ => 1) P = tot := by
  refine ⟨fun p hp => ?_, ?_⟩
  · have := (hP.lt p hp).2
    rw [Nat.sub_self] at this
    simpa using this
  · have := hP.tot
    rw [Nat.sub_self] at this
    simpa [cntF] using this

end Go.Proofs.Dev

namespace Go.Proofs.Dev

end Go.Proofs.Dev

namespace Go.Proofs.Dev
set_option linter.unusedSimpArgs false
set_option maxRecDepth 100000

end Go.Proofs.Dev

namespace Go.Proofs.Dev
set_option linter.unusedSimpArgs false
set_option maxRecDepth 100000

/-- Who takes ownership: each (140) of the list and of the closure, the closure (141) of all. -/
@[simp] def md2 (f : Nat) : List Bool := if f = 999999 then [false, true, true] else if f = 999999 then [true, true, true, true] else md0 f

@[simp] theorem ints_getA (xs : List Int) (i : Nat) (h : i < (ints xs).length) : (ints xs)[i] = .v (.int .i64 (ati xs i)) := by
  have h2 : i < xs.length := by simpa using h
  simp [ints, ati, h2]

end Go.Proofs.Dev

namespace Go.Proofs.Dev

end Go.Proofs.Dev

namespace Go.Proofs.Dev
set_option linter.unusedSimpArgs false
set_option maxRecDepth 100000

end Go.Proofs.Dev

namespace Go.Proofs.Dev
set_option linter.unusedSimpArgs false
set_option maxRecDepth 100000

end Go.Proofs.Dev

namespace Go.Proofs.Dev
set_option linter.unusedSimpArgs false

/-- What has the dominoes of a list has their pairs. -/
theorem pairs_sub {W T : Int} {ds a b : List Int} (hl : a.length = b.length) (h : ∀ k : Nat, k < a.length → ati a k = 0 ∨ ati b k = ati a k) : List.Sublist (pairsI W T ds a) (pairsI W T ds b) := by
  have : ∀ n, n ≤ a.length → List.Sublist (pairsTo W T ds a n) (pairsTo W T ds b n) := by
    intro n
    induction n with
    | zero => intro _; simp [pairsTo]
    | succ n ih =>
      intro hn
      rw [pairsTo_succ, pairsTo_succ]
      rcases h n (by omega) with h0 | h0
      · rw [if_neg (by omega)]
        exact (ih (by omega)).append (List.nil_sublist _)
      · rw [h0]
        exact (ih (by omega)).append (List.Sublist.refl _)
  have e := this a.length (Nat.le_refl _)
  unfold pairsI
  rw [← hl]; exact e

theorem once_sub {a b : List Int} (h : List.Sublist a b) (hb : onceB b = true) : onceB a = true := by
  simp only [onceB, decide_eq_true_eq] at hb ⊢
  exact h.nodup hb

theorem has_pairs {W T : Int} {ds a b : List Int} (hl : a.length = b.length) (h : hasB a b = true) : List.Sublist (pairsI W T ds a) (pairsI W T ds b) :=
  pairs_sub hl fun k hk => hasB_iff.1 h k hk

theorem has_trans {a b c : List Int} (hl : a.length = b.length) (h1 : hasB a b = true) (h2 : hasB b c = true) : hasB a c = true := by
  rw [hasB_iff] at *
  intro k hk
  rcases h1 k hk with h | h
  · exact .inl h
  · rcases h2 k (by omega) with h3 | h3
    · left; omega
    · right; omega

/-- A list without the domino on a cell. -/
def liftI (W T : Int) (ls : List Int) (cell : Int) : List Int := (ls.set (stepI W T cell (ati ls cell)).toNat 0).set cell.toNat 0
theorem liftI_length (W T : Int) (ls : List Int) (cell : Int) : (liftI W T ls cell).length = ls.length := by simp [liftI]

theorem lift_at {W T : Int} {cs : List Bool} {ls : List Int} {k : Nat} (hr : regB W T cs = true) (hy : laysB W T cs ls = true) (hk : k < ls.length) (hv : ati ls k ≠ 0) :
    ∃ t : Nat, stepI W T k (ati ls k) = t ∧ t < ls.length ∧ t ≠ k ∧ ∀ j : Nat, ati (liftI W T ls k) j = if j = k then 0 else if j = t then 0 else ati ls j := by
  obtain ⟨w1, w2, t1, t2, l1, _⟩ := regB_W hr
  have hl := lays_len hy
  obtain ⟨v1, v4, g3, g4, g5, g6⟩ := lays_at hy hk hv
  obtain ⟨_, _, _, b4, b5⟩ := step_back (W := W) (T := T) (k := k) (way := ati ls k) w1 (by omega) (by omega) g4
  refine ⟨(stepI W T k (ati ls k)).toNat, by omega, by omega, by omega, fun j => ?_⟩
  unfold liftI
  rw [ati_set (by simpa using hk), ati_set (by omega)]
  simp

theorem lift_ok {W T : Int} {cs : List Bool} {ls : List Int} {k : Nat} (hr : regB W T cs = true) (hy : laysB W T cs ls = true) (hk : k < ls.length) (hv : ati ls k ≠ 0) : laysB W T cs (liftI W T ls k) = true := by
  obtain ⟨w1, w2, t1, t2, l1, _⟩ := regB_W hr
  have hl := lays_len hy
  obtain ⟨t, e, ht, htk, hat⟩ := lift_at hr hy hk hv
  obtain ⟨v1, v4, g3, g4, g5, g6⟩ := lays_at hy hk hv
  have sb := step_back (W := W) (T := T) (k := k) (way := ati ls k) w1 (by omega) (by omega) g4
  rw [e] at g6 sb
  simp only [laysB, Bool.and_eq_true, decide_eq_true_eq, allB_iff, liftI_length]
  refine ⟨hl, fun j hj => ?_⟩
  simp only [layAt, decide_eq_true_eq]
  rw [hat j]
  by_cases e1 : j = k
  · rw [if_pos e1]; exact .inl rfl
  rw [if_neg e1]
  by_cases e2 : j = t
  · rw [if_pos e2]; exact .inl rfl
  rw [if_neg e2]
  by_cases e3 : ati ls j = 0
  · exact .inl e3
  right
  obtain ⟨u1, u4, q3, q4, q5, q6⟩ := lays_at hy hj e3
  have sj := step_back (W := W) (T := T) (k := j) (way := ati ls j) w1 (by omega) (by omega) q4
  obtain ⟨s, hs⟩ : ∃ s : Nat, stepI W T j (ati ls j) = s := ⟨(stepI W T j (ati ls j)).toNat, by omega⟩
  rw [hs] at q4 q5 q6 sj ⊢
  refine ⟨u1, u4, q3, q4, q5, ?_⟩
  rw [hat s]
  have n1 : s ≠ k := by
    intro h
    subst h
    have h2 := sj.1
    rw [← q6, e] at h2
    omega
  have n2 : s ≠ t := by
    intro h
    subst h
    have h2 := sj.1
    rw [← q6, g6, sb.1] at h2
    omega
  rw [if_neg n1, if_neg n2]; exact q6

theorem fair_parts {W T : Int} {cs : List Bool} {ds ls : List Int} (h : fairB W T cs ds ls = true) : regB W T cs = true ∧ digsB cs ds = true ∧ laysB W T cs ls = true ∧ onceB (pairsI W T ds ls) = true := by
  simp only [fairB, okB, Bool.and_eq_true] at h
  exact ⟨h.1.1, h.1.2.1, h.1.2.2, h.2⟩
theorem fair_of {W T : Int} {cs : List Bool} {ds ls : List Int} (h1 : regB W T cs = true) (h2 : digsB cs ds = true) (h3 : laysB W T cs ls = true) (h4 : onceB (pairsI W T ds ls) = true) : fairB W T cs ds ls = true := by
  simp only [fairB, okB, Bool.and_eq_true]
  exact ⟨⟨h1, h2, h3⟩, h4⟩

/-! A domino more. -/
theorem lay_hasB {W T : Int} {cs : List Bool} {ls : List Int} {k : Nat} {way : Int} (hr : regB W T cs = true) (hl : ls.length = cs.length) (hf : freeB W T cs ls k way = true) : hasB ls (layI W T ls k way) = true := by
  obtain ⟨t, e, t1, t2, t3, _, _, _, _, z1, z2, hat⟩ := free_facts hr hl hf
  rw [hasB_iff]
  intro j hj
  rw [hat j]
  by_cases e1 : j = t
  · subst e1; exact .inl z2
  by_cases e2 : j = k
  · subst e2; exact .inl z1
  rw [if_neg e1, if_neg e2]; exact .inr rfl

theorem domN_set {ls : List Int} {i : Nat} {v : Int} (h : i < ls.length) (hz : ati ls i = 0) : domN (ls.set i v) = domN ls + if isDom v then 1 else 0 := by
  have he : ls[i] = 0 := by simpa [ati, h] using hz
  unfold domN
  rw [List.countP_set h, he]
  simp [isDom]

theorem domN_lay {W T : Int} {cs : List Bool} {ls : List Int} {k : Nat} {way : Int} (hr : regB W T cs = true) (hl : ls.length = cs.length) (hf : freeB W T cs ls k way = true) : domN (layI W T ls k way) = domN ls + 1 := by
  obtain ⟨t, e, t1, t2, t3, v1, v4, _, _, z1, z2, hat⟩ := free_facts hr hl hf
  unfold layI
  have h1 : ati (ls.set k way) t = 0 := by rw [ati_set t2, if_neg t3]; exact z2
  rw [e]
  simp only [Int.toNat_natCast]
  rw [domN_set (by simpa using t1) h1, domN_set t2 z1]
  have : way = 1 ∨ way = 2 ∨ way = 3 ∨ way = 4 := by omega
  rcases this with rfl | rfl | rfl | rfl <;> simp [isDom, backI]

theorem optsI_filter (W T : Int) (cs : List Bool) (ds ls : List Int) (cell : Int) : optsI W T cs ds ls cell = [1, 2, 3, 4].filter (optB W T cs ds ls cell) := by
  simp only [optsI, optTo, List.range_succ, List.range_zero, List.nil_append, List.flatMap_append, List.flatMap_cons, List.flatMap_nil, List.append_nil, List.filter_cons, List.filter_nil]
  cases h1 : optB W T cs ds ls cell 1 <;> cases h2 : optB W T cs ds ls cell 2 <;> cases h3 : optB W T cs ds ls cell 3 <;> cases h4 : optB W T cs ds ls cell 4 <;> simp [h1, h2, h3, h4]

theorem opts_mem {W T : Int} {cs : List Bool} {ds ls : List Int} {cell x : Int} : x ∈ optsI W T cs ds ls cell ↔ optB W T cs ds ls cell x = true ∧ 1 ≤ x ∧ x ≤ 4 := by
  rw [optsI_filter, List.mem_filter]
  simp only [List.mem_cons, List.not_mem_nil, or_false]
  constructor
  · rintro ⟨h1, h2⟩; exact ⟨h2, by omega, by omega⟩
  · rintro ⟨h1, h2, h3⟩; exact ⟨by omega, h1⟩

/-! Solutions. -/
theorem solved_parts {W T : Int} {cs : List Bool} {ds p : List Int} (h : solvedB W T cs ds p = true) : fairB W T cs ds p = true ∧ fullB cs p = true := by
  simpa only [solvedB, Bool.and_eq_true] using h

theorem full_at {cs : List Bool} {p : List Int} (h : fullB cs p = true) {k : Nat} (hk : k < cs.length) (hc : atb cs k = true) : ati p k ≠ 0 := by
  rw [fullB, allB_iff] at h
  have := h k hk
  simpa [fullAt, hc] using this

/-- A bare cell's domino in a solution is an option. -/
theorem opt_of_sol {W T : Int} {cs : List Bool} {ds ls p : List Int} {k : Nat} (hy : laysB W T cs ls = true) (hp : solvedB W T cs ds p = true) (hs : hasB ls p = true) (hk : k < cs.length) (hc : atb cs k = true) (hz : ati ls k = 0) :
    optB W T cs ds ls k (ati p k) = true ∧ 1 ≤ ati p k ∧ ati p k ≤ 4 ∧ hasB (layI W T ls k (ati p k)) p = true := by
  obtain ⟨hf, hfull⟩ := solved_parts hp
  obtain ⟨hr, hd, hyp, ho⟩ := fair_parts hf
  have hl := lays_len hy
  have hlp := lays_len hyp
  obtain ⟨w1, w2, t1, t2, l1, _⟩ := regB_W hr
  have hv := full_at hfull hk hc
  obtain ⟨v1, v4, g3, g4, g5, g6⟩ := lays_at hyp (k := k) (by omega) hv
  obtain ⟨v, hvv⟩ : ∃ v, ati p k = v := ⟨_, rfl⟩
  rw [hvv] at v1 v4 g4 g5 g6 hv ⊢
  have sb := step_back (W := W) (T := T) (k := k) (way := v) w1 (by omega) (by omega) g4
  obtain ⟨t, ht⟩ : ∃ t : Nat, stepI W T k v = t := ⟨(stepI W T k v).toNat, by omega⟩
  have hzt : ati ls t = 0 := by
    rcases hasB_iff.1 hs t (by omega) with h | h
    · exact h
    · exfalso
      rw [ht] at g6
      have := lays_back hr hy (k := k) (t := t) (way := v) (by omega) ht (by rw [← h]; exact g6)
      omega
  have hfree : freeB W T cs ls k v = true := by
    simp only [freeB, decide_eq_true_eq]
    exact ⟨by omega, by omega, g4, hc, g5, hz, by rw [ht]; exact hzt⟩
  have hh := lay_has hr hl hfree hs hvv g6
  refine ⟨?_, v1, v4, hh⟩
  simp only [optB, Bool.and_eq_true]
  exact ⟨hfree, once_sub (has_pairs (by rw [layI_length]; omega) hh) ho⟩

/-- What is forced is in every solution. -/
theorem force1_sol {W T : Int} {cs : List Bool} {ds ls p : List Int} (hy : laysB W T cs ls = true) (hp : solvedB W T cs ds p = true) (hs : hasB ls p = true) : hasB (force1 W T cs ds ls) p = true := by
  have hl := lays_len hy
  rcases one_cases W T cs ds ls with h | ⟨k, hk, he, hc, hz, hol, hob, hw⟩
  · rw [force1, if_pos (by omega)]; exact hs
  · rw [force1, he, if_neg (by omega)]
    obtain ⟨o1, o2, o3, o4⟩ := opt_of_sol hy hp hs (by omega) hc hz
    have hm : ati p k ∈ optsI W T cs ds ls k := opts_mem.2 ⟨o1, o2, o3⟩
    rw [hol, List.mem_singleton] at hm
    rw [← hm]; exact o4

theorem force1_has {W T : Int} {cs : List Bool} {ds ls : List Int} (hr : regB W T cs = true) (hl : ls.length = cs.length) : hasB ls (force1 W T cs ds ls) = true := by
  rcases one_cases W T cs ds ls with h | ⟨k, hk, he, hc, hz, hol, hob, hw⟩
  · rw [force1, if_pos (by omega)]; exact hasB_refl ls
  · rw [force1, he, if_neg (by omega)]
    exact lay_hasB hr hl (optB_free hob)

theorem force1_domN {W T : Int} {cs : List Bool} {ds ls : List Int} (hr : regB W T cs = true) (hl : ls.length = cs.length) (hb : force1B W T cs ds ls = true) : domN (force1 W T cs ds ls) = domN ls + 1 := by
  rcases one_cases W T cs ds ls with h | ⟨k, hk, he, hc, hz, hol, hob, hw⟩
  · simp [force1B, h] at hb
  · rw [force1, he, if_neg (by omega)]
    exact domN_lay hr hl (optB_free hob)

theorem forceAllN_facts {W T : Int} {cs : List Bool} {ds : List Int} : ∀ (n : Nat) (ls : List Int), zeros ls ≤ n → fairB W T cs ds ls = true →
    fairB W T cs ds (forceAllN W T cs ds n ls) = true ∧ hasB ls (forceAllN W T cs ds n ls) = true ∧ force1B W T cs ds (forceAllN W T cs ds n ls) = false ∧
    ∀ p, solvedB W T cs ds p = true → hasB ls p = true → hasB (forceAllN W T cs ds n ls) p = true
  | 0, ls, hz, hf => by
    refine ⟨hf, hasB_refl ls, ?_, fun p _ h => h⟩
    cases hb : force1B W T cs ds (forceAllN W T cs ds 0 ls) with
    | false => rfl
    | true =>
      have := force1_zeros hb
      rw [forceAllN] at this
      omega
  | n + 1, ls, hz, hf => by
    rw [forceAllN]
    obtain ⟨hr, hd, hy, ho⟩ := fair_parts hf
    split
    · rename_i hb
      have hz2 := force1_zeros hb
      obtain ⟨i1, i2, i3, i4⟩ := forceAllN_facts n (force1 W T cs ds ls) (by omega) (force1_fair hf)
      exact ⟨i1, has_trans (by rw [force1_length]) (force1_has hr (lays_len hy)) i2, i3, fun p hp hs => i4 p hp (force1_sol hy hp hs)⟩
    · rename_i hb
      exact ⟨hf, hasB_refl ls, by simpa using hb, fun p _ h => h⟩

theorem forceAll_facts {W T : Int} {cs : List Bool} {ds ls : List Int} (hf : fairB W T cs ds ls = true) :
    fairB W T cs ds (forceAllI W T cs ds ls) = true ∧ hasB ls (forceAllI W T cs ds ls) = true ∧ force1B W T cs ds (forceAllI W T cs ds ls) = false ∧
    ∀ p, solvedB W T cs ds p = true → hasB ls p = true → hasB (forceAllI W T cs ds ls) p = true :=
  forceAllN_facts ls.length ls (zeros_le ls) hf

end Go.Proofs.Dev

namespace Go.Proofs
open Go.Shelf
namespace Dev

end Dev
end Go.Proofs

namespace Go.Proofs.Dev
set_option linter.unusedSimpArgs false
set_option maxRecDepth 100000

/-- All pairs, in ascending order. -/
def prL : List (Int × Int) := (List.range 7).flatMap fun a => (List.range' a (7 - a)).map fun b : Nat => ((a : Int), (b : Int))
/-- How many pairs have a lesser number below a. -/
def stN (a : Nat) : Nat := a * (15 - a) / 2

theorem stN_succ {a : Nat} (h : a < 7) : stN (a + 1) = stN a + (7 - a) ∧ stN a + (7 - a) ≤ 28 := by
  have : ∀ a < 7, stN (a + 1) = stN a + (7 - a) ∧ stN a + (7 - a) ≤ 28 := by decide
  exact this a h
theorem prL_at {a b : Nat} (h : a < 7) (hb : b < 7 - a) : prL[stN a + b]? = some ((a : Int), ((a + b : Nat) : Int)) := by
  have : ∀ a < 7, ∀ b < 7 - a, prL[stN a + b]? = some ((a : Int), ((a + b : Nat) : Int)) := by decide
  exact this a h b hb
end Go.Proofs.Dev

namespace Go.Proofs.Dev
set_option linter.unusedSimpArgs false
set_option maxRecDepth 100000

def prAt (n : Nat) : Int × Int := prL.getD n (0, 0)
def domB (ls : List Int) (k : Nat) : Bool := decide (ati ls k = 1 ∨ ati ls k = 2)
/-- How many dominoes begin ahead of a cell. -/
def domTo (ls : List Int) : Nat → Nat
  | 0 => 0
  | i + 1 => domTo ls i + if domB ls i then 1 else 0
def putP (out : List Int) (i j : Nat) (p : Int × Int) : List Int := (out.set i p.1).set j p.2
/-- The numbers of the dominoes that begin ahead of a cell. -/
def mkTo (W T : Int) (ls : List Int) (fr : Nat) : Nat → List Int
  | 0 => List.replicate ls.length (-1)
  | i + 1 => if domB ls i then putP (mkTo W T ls fr i) i (stepI W T i (ati ls i)).toNat (prAt ((fr + domTo ls i) % 28)) else mkTo W T ls fr i
def mkI (W T : Int) (cs : List Bool) (ls : List Int) (fr : Int) : List Int :=
  if (regB W T cs && laysB W T cs ls && fullB cs ls && decide (0 ≤ fr ∧ fr ≤ 27)) = true then mkTo W T ls fr.toNat ls.length else []

theorem domTo_le (ls : List Int) : ∀ i, domTo ls i ≤ i
  | 0 => Nat.le_refl _
  | i + 1 => by have := domTo_le ls i; simp only [domTo]; split <;> omega
theorem mkTo_length (W T : Int) (ls : List Int) (fr : Nat) : ∀ i, (mkTo W T ls fr i).length = ls.length
  | 0 => by simp [mkTo]
  | i + 1 => by
    have := mkTo_length W T ls fr i
    simp only [mkTo]; split
    · simp [putP, this]
    · exact this
theorem mkI_length (W T : Int) (cs : List Bool) (ls : List Int) (fr : Int) : (mkI W T cs ls fr).length ≤ ls.length := by
  unfold mkI; split
  · simp [mkTo_length]
  · simp

theorem stN_le {a N : Nat} (h : N < 28) (h2 : stN a ≤ N) (h7 : a ≤ 7) : a < 7 := by
  have e : stN 7 = 28 := by decide
  rcases Nat.lt_or_ge a 7 with h | h
  · exact h
  · have : a = 7 := by omega
    subst this; omega

/-- What a first cell of a domino knows of the other. -/
theorem lays_first {W T : Int} {cs : List Bool} {ls : List Int} (hr : regB W T cs = true) (hy : laysB W T cs ls = true) {k : Nat} (hk : k < ls.length) (hw : ati ls k = 1 ∨ ati ls k = 2) :
    0 ≤ stepI W T k (ati ls k) ∧ stepI W T k (ati ls k) < cs.length := by
  obtain ⟨w1, w2, t1, t2, l1, _⟩ := regB_W hr
  simp only [laysB, Bool.and_eq_true, decide_eq_true_eq, allB_iff] at hy
  obtain ⟨hl, hy⟩ := hy
  have p1 := hy k hk
  have hst := stepI_range (T := T) (k := k) (way := ati ls k) w1 (by omega) (by omega)
  simp only [layAt, decide_eq_true_eq] at p1
  rcases p1 with p1 | ⟨_, _, pc, p0, pt, _⟩
  · omega
  · omega

theorem s_spec_MakePuzzle (W T : Int) (cs : List Bool) (ls : List Int) (fr : Int) (hb : cs.length < 2 ^ 40) (hl : ls.length < 2 ^ 40) :
    SoundAt Try.prog n_spec_MakePuzzle [.agg [.v (.int .i64 W), .v (.int .i64 T), .sl 1 1 (bools cs)], .sl 1 1 (ints ls), .v (.int .i64 fr)] (.os 1 (ints (mkI W T cs ls fr))) [.bot, .bot, .bot] := by
  refine fn_ok (md := md0) (ms := [false, false, false]) k_spec_MakePuzzle (by simp) ?_
  simp [c_spec_MakePuzzle]
  refine call_on (s_spec_TilingOk W T cs ls hb hl) ?_
  cases hp : (regB W T cs && laysB W T cs ls && fullB cs ls) with
  | false => simp [mkI, hp]
  | true =>
  simp
  refine call_on (s_spec_l1In fr 0 27) ?_
  by_cases hx : 0 ≤ fr ∧ fr ≤ 27
  case neg =>
    have hx2 : (decide (0 ≤ fr) && decide (fr ≤ 27)) = false := by simp; omega
    simp [hx2, mkI, hx]
  obtain ⟨f, rfl⟩ : ∃ f : Nat, fr = f := ⟨fr.toNat, by omega⟩
  have hrl := hp
  simp only [Bool.and_eq_true] at hrl
  obtain ⟨⟨hr, hy⟩, hfull⟩ := hrl
  have hlen : ls.length = cs.length := by simp only [laysB, Bool.and_eq_true, decide_eq_true_eq] at hy; exact hy.1
  have h36 := regB_len hr
  have hmk : mkI W T cs ls f = mkTo W T ls f ls.length := by simp [mkI, hp, hx]
  rw [hmk]
  simp [hx]
  refine loop_by (fun m E H => ∃ i : Nat, m = ls.length - i ∧ i ≤ ls.length ∧ H = [some (.box [.v (.int .i64 W), .v (.int .i64 T), .sl 1 1 (bools cs)]), some (.arr 1 (ints (List.replicate i (-1))))] ∧
    E = [(1, .sl 1 1 (ints ls)), (2, .v (.int .i64 f)), (3, .lp 0 0 0 0), (7, .ls 1 1 0 i), (8, .v (.int .i64 i))]) ls.length ⟨0, by simp⟩ ?_
  rintro J hJ m E H ⟨i, rfl, hi, rfl, rfl⟩
  by_cases h : i < ls.length
  · simp [c_spec_MakePuzzle_L0, h]
    refine ⟨by omega, by omega, _, by omega, hJ _ _ _ ⟨i + 1, rfl, h, ?_, by simp⟩⟩
    rw [List.replicate_succ', ints_append]; rfl
  have : i = ls.length := by omega
  subst this
  simp [c_spec_MakePuzzle_L0]
  clear hJ J
  refine loop_by (fun m E H => ∃ i : Nat, m = ls.length - i ∧ i ≤ ls.length ∧ H = [some (.box [.v (.int .i64 W), .v (.int .i64 T), .sl 1 1 (bools cs)]), some (.arr 1 (ints (mkTo W T ls f i)))] ∧
    E = [(1, .sl 1 1 (ints ls)), (2, .v (.int .i64 ((f + domTo ls i : Nat) : Int))), (3, .lp 0 0 0 0), (7, .ls 1 1 0 ls.length), (9, .v (.int .i64 i))]) ls.length ⟨0, by simp [mkTo, domTo]⟩ ?_
  rintro J hJ m E H ⟨i, rfl, hi, rfl, rfl⟩
  have hml := mkTo_length W T ls f i
  by_cases h : i < ls.length
  case neg =>
    have : i = ls.length := by omega
    subst this
    simp [c_spec_MakePuzzle_L2, hml]
    exact List.take_of_length_le (by simp [hml])
  by_cases hd : domB ls i = true
  case neg =>
    have hw : ¬ (ati ls i = 1 ∨ ati ls i = 2) := by simpa [domB] using hd
    have hw1 : ¬ ati ls i = 1 := fun e => hw (.inl e)
    have hw2 : ¬ ati ls i = 2 := fun e => hw (.inr e)
    simp [c_spec_MakePuzzle_L2, h, hw1, hw2]
    refine ⟨by omega, _, by omega, hJ _ _ _ ⟨i + 1, rfl, h, ?_, ?_⟩⟩ <;> simp [mkTo, domTo, hd]
  have hw : ati ls i = 1 ∨ ati ls i = 2 := by simpa [domB] using hd
  have hdn := domTo_le ls i
  obtain ⟨o1, o2⟩ := lays_first hr hy h hw
  have one := s_spec_l2Step W T cs i (ati ls i) hr (by omega) (by omega)
  generalize hto : stepI W T i (ati ls i) = to at *
  generalize hout : mkTo W T ls f i = out at *
  generalize hN : (f + domTo ls i) % 28 = N at *
  have hN28 : N < 28 := by omega
  have next : again J (ls.length - i) [(1, .sl 1 1 (ints ls)), (2, .v (.int .i64 ((f : Int) + (domTo ls i : Nat) + 1))), (3, .lp 0 0 0 0), (7, .ls 1 1 0 ls.length), (9, .v (.int .i64 (i + 1)))]
      [some (.box [.v (.int .i64 W), .v (.int .i64 T), .sl 1 1 (bools cs)]), some (.arr 1 (ints (putP out i to.toNat (prAt N))))] := by
    refine ⟨_, by omega, hJ _ _ _ ⟨i + 1, rfl, h, ?_, ?_⟩⟩
    · simp [mkTo, hd, hto, hout, hN]
    · simp [domTo, hd, Int.add_assoc]
  have hNi : ((f : Int) + (domTo ls i : Nat)) % 28 = (N : Int) := by omega
  rcases hw with hw | hw <;> rw [hw] at one <;>
  · simp [c_spec_MakePuzzle_L2, h, hw, hNi]
    refine ⟨by omega, ?_⟩
    refine loop_by (fun b E H => ∃ a : Nat, a < 7 ∧ stN a + b = N ∧ H = [some (.box [.v (.int .i64 W), .v (.int .i64 T), .sl 1 1 (bools cs)]), some (.arr 1 (ints out))] ∧
      E = [(1, .sl 1 1 (ints ls)), (2, .v (.int .i64 ((f : Int) + (domTo ls i : Nat)))), (3, .lp 0 0 0 0), (7, .ls 1 1 0 ls.length), (9, .v (.int .i64 i)), (10, .v (.int .i64 b)), (11, .v (.int .i64 a))]) N ⟨0, by omega, by simp [stN], rfl, by simp⟩ ?_
    rintro J2 hJ2 b E H ⟨a, ha, hab, rfl, rfl⟩
    by_cases hb6 : a + b ≤ 6
    case neg =>
      have hb6' : (6 : Int) - a < b := by omega
      have hs := stN_succ ha
      have ha7 := stN_le (a := a + 1) hN28 (by omega) (by omega)
      have e1 : ((b : Int) - (6 - (a : Int) + 1)) = ((b - (7 - a) : Nat) : Int) := by omega
      simp [c_spec_MakePuzzle_L1, hb6', e1]
      refine ⟨by omega, by omega, by omega, by omega, b - (7 - a), by omega, hJ2 _ _ _ ⟨a + 1, ha7, by omega, rfl, ?_⟩⟩
      simp
    have hb6' : ¬ (6 : Int) - a < b := by omega
    have hpr : prAt N = ((a : Int), ((a + b : Nat) : Int)) := by simp only [prAt, List.getD_eq_getElem?_getD, ← hab, prL_at ha (by omega : b < 7 - a), Option.getD_some]
    rw [hpr] at next
    simp [putP] at next
    have hio : i < out.length := by omega
    have hto2 : to < out.length := by omega
    simp [c_spec_MakePuzzle_L1, hb6', hio, hml, h]
    refine ⟨by omega, ?_⟩
    simp [c_spec_MakePuzzle_D, h, hw, ints_set]
    (repeat' first | omega | apply And.intro) <;>
    · refine call_on one ?_
      simp [o1, hml, ints_set]
      exact ⟨by omega, by omega, by omega, next⟩

end Go.Proofs.Dev

namespace Go.Proofs.Dev
set_option linter.unusedSimpArgs false
set_option maxRecDepth 100000

theorem s_impl_CellsMany (W T : Int) (cs : List Bool) (hb : cs.length < 2 ^ 40) :
    SoundAt Try.prog n_impl_CellsMany [.agg [.v (.int .i64 W), .v (.int .i64 T), .sl 1 1 (bools cs)]] (.v (.int .i64 (if regB W T cs = true then (manyOf cs : Int) else -1))) [.bot] := by
  refine fn_ok (md := md0) (ms := [false]) k_impl_CellsMany (by simp) ?_
  simp [c_impl_CellsMany]
  refine call_on (s_impl_RegionValid W T cs hb) ?_
  cases hr : regB W T cs with
  | false => simp
  | true =>
  simp
  refine call_on (s_impl_many cs hb) ?_
  simp

def liftHas (ls : List Int) (cell : Int) : Bool := decide (0 ≤ cell ∧ cell < ls.length ∧ ati ls cell ≠ 0)
def liftR (W T : Int) (cs : List Bool) (ls : List Int) (cell : Int) : List Int := if (regB W T cs && laysB W T cs ls) = true then (if liftHas ls cell = true then liftI W T ls cell else ls) else []
def liftRB (W T : Int) (cs : List Bool) (ls : List Int) (cell : Int) : Bool := regB W T cs && laysB W T cs ls && liftHas ls cell

theorem s_impl_field (W T : Int) (h1 : 0 ≤ W ∧ W ≤ 6) (h2 : 0 ≤ T ∧ T ≤ 6) :
    SoundAt Try.prog n_impl_field [.v (.int .i64 W), .v (.int .i64 T)] (.agg [.v (.int .i64 W), .v (.int .i64 T), .os 1 (bools (List.replicate (W * T).toNat false))]) [.bot, .bot] := by
  refine fn_ok (md := md0) (ms := [false, false]) k_impl_field (by simp) ?_
  have p0 : 0 ≤ W * T := Int.mul_nonneg h1.1 h2.1
  have p1 : W * T ≤ 6 * 6 := Int.mul_le_mul h1.2 h2.2 h2.1 (by omega)
  simp [c_impl_field, bools_rep, p0]
  have e : (bools (List.replicate (W * T).toNat false)).length = (W * T).toNat := by simp
  exact ⟨by omega, by omega, List.take_of_length_le (Nat.le_of_eq e)⟩

def boxL (W T : Int) : List Bool := List.replicate (W * T).toNat true
def boxB (W T : Int) : Bool := decide (1 ≤ W ∧ W ≤ 6 ∧ 1 ≤ T ∧ T ≤ 6 ∧ W * T ≤ 24)
theorem s_impl_RegionBox23 : SoundAt Try.prog n_impl_RegionBox [.v (.int .i64 2), .v (.int .i64 3)] (.agg [.v (.int .i64 2), .v (.int .i64 3), .os 1 (bools (List.replicate 6 true))]) [.bot, .bot] := by
  refine fn_ok (md := md0) (ms := [false, false]) k_impl_RegionBox (by simp) ?_
  simp [c_impl_RegionBox]
  refine call_on (s_impl_in_t (x := 2) (lo := 1) (hi := 6) (by omega)) ?_
  simp
  refine call_on (s_impl_in_t (x := 3) (lo := 1) (hi := 6) (by omega)) ?_
  simp
  refine call_on (s_impl_field 2 3 (by omega) (by omega)) ?_
  simp
  refine loop_by (fun m E H => ∃ i : Nat, m = 6 - i ∧ i ≤ 6 ∧ H = [some (.box [.v (.int .i64 0), .v (.int .i64 0), .os 1 []]), some (.box [.v (.int .i64 2), .v (.int .i64 3), .ls 1 2 0 6]), some (.arr 1 (bools (List.replicate i true ++ List.replicate (6 - i) false)))] ∧
    E = [(4, .lp 0 0 0 0), (5, .lp 0 1 0 0), (27, .v (.int .i64 6)), (28, .v (.int .i64 i))]) 6 ⟨0, by simp⟩ ?_
  rintro J hJ m E H ⟨i, rfl, hi, rfl, rfl⟩
  by_cases h : i < 6
  · have h' : (i : Int) < 6 := by omega
    have e1 : (List.replicate i true ++ List.replicate (6 - i) false).set i true = List.replicate (i + 1) true ++ List.replicate (6 - (i + 1)) false := by
      have e2 : 6 - i = (6 - (i + 1)) + 1 := by omega
      rw [e2, List.replicate_succ, List.set_append_right _ _ (by simp)]
      simp [List.replicate_succ']
    simp [c_impl_RegionBox_L0, h', bools_set, e1, h]
    exact ⟨by omega, by omega, _, by omega, hJ _ _ _ ⟨i + 1, rfl, h, by rw [show 5 - i = 6 - (i + 1) by omega], by simp⟩⟩
  · have : i = 6 := by omega
    subst this
    simp [c_impl_RegionBox_L0]
    rfl

theorem s_laws_alive : SoundAt Try.prog n_laws_alive [] (.v (.bool true)) [] := by
  refine fn_ok (md := md0) (ms := []) k_laws_alive (by simp) ?_
  simp [c_laws_alive]
  refine call_on s_impl_RegionBox23 ?_
  simp
  refine call_on (s_impl_CellsMany 2 3 (List.replicate 6 true) (by simp)) ?_
  simp
  exact ⟨rfl, by decide⟩

end Go.Proofs.Dev
