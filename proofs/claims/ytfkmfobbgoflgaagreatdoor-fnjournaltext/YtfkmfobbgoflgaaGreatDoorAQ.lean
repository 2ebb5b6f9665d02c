/- Contracts of the functions of the program over slots and rows, each proved against the program itself; no condition beyond those that each theorem names. -/
import Derived.Test.YtfkmfobbgoflgaaGreatDoorAP
import Derived.Test.YtfkmfobbgoflgaaGreatDoorAH
import Derived.Shelf.Bits.Mul64
import Derived.Ground.NamesProg
import Derived.Test.YtfkmfobbgoflgaaGreatDoorProg
import Derived.Test.YtfkmfobbgoflgaaGreatDoorAL
import Derived.Test.YtfkmfobbgoflgaaGreatDoorAK
import Derived.Test.YtfkmfobbgoflgaaGreatDoorAM

set_option linter.unusedSimpArgs false
set_option linter.unusedVariables false

namespace Go.Proofs.Dev
set_option linter.unusedSimpArgs false
set_option maxRecDepth 100000

end Go.Proofs.Dev

namespace Go.Proofs.Dev
set_option linter.unusedSimpArgs false

/-- What has the dominoes of a list has their pairs. -/
theorem pairs_sub {W T : Int} {ds a b : List Int} (hl : a.length = b.length) (h : ∀ k : Nat, k < a.length → ati a k = 0 ∨ ati b k = ati a k) : List.Sublist (pairsI W T ds a) (pairsI W T ds b) := by
  have : ∀ n, n ≤ a.length → List.Sublist (pairsTo W T ds a n) (pairsTo W T ds b n) := by
    intro n
    induction n with
    | zero => intro _; simp [pairsTo]
    | succ n ih =>
      intro hn
      rw [pairsTo_succ, pairsTo_succ]
      rcases h n (by omega) with h0 | h0
      · rw [if_neg (by omega)]
        exact (ih (by omega)).append (List.nil_sublist _)
      · rw [h0]
        exact (ih (by omega)).append (List.Sublist.refl _)
  have e := this a.length (Nat.le_refl _)
  unfold pairsI
  rw [← hl]; exact e

theorem once_sub {a b : List Int} (h : List.Sublist a b) (hb : onceB b = true) : onceB a = true := by
  simp only [onceB, decide_eq_true_eq] at hb ⊢
  exact h.nodup hb

theorem has_pairs {W T : Int} {ds a b : List Int} (hl : a.length = b.length) (h : hasB a b = true) : List.Sublist (pairsI W T ds a) (pairsI W T ds b) :=
  pairs_sub hl fun k hk => hasB_iff.1 h k hk

theorem has_trans {a b c : List Int} (hl : a.length = b.length) (h1 : hasB a b = true) (h2 : hasB b c = true) : hasB a c = true := by
  rw [hasB_iff] at *
  intro k hk
  rcases h1 k hk with h | h
  · exact .inl h
  · rcases h2 k (by omega) with h3 | h3
    · left; omega
    · right; omega

/-- A list without the domino on a cell. -/
def liftI (W T : Int) (ls : List Int) (cell : Int) : List Int := (ls.set (stepI W T cell (ati ls cell)).toNat 0).set cell.toNat 0
theorem liftI_length (W T : Int) (ls : List Int) (cell : Int) : (liftI W T ls cell).length = ls.length := by simp [liftI]

theorem lift_at {W T : Int} {cs : List Bool} {ls : List Int} {k : Nat} (hr : regB W T cs = true) (hy : laysB W T cs ls = true) (hk : k < ls.length) (hv : ati ls k ≠ 0) :
    ∃ t : Nat, stepI W T k (ati ls k) = t ∧ t < ls.length ∧ t ≠ k ∧ ∀ j : Nat, ati (liftI W T ls k) j = if j = k then 0 else if j = t then 0 else ati ls j := by
  obtain ⟨w1, w2, t1, t2, l1, _⟩ := regB_W hr
  have hl := lays_len hy
  obtain ⟨v1, v4, g3, g4, g5, g6⟩ := lays_at hy hk hv
  obtain ⟨_, _, _, b4, b5⟩ := step_back (W := W) (T := T) (k := k) (way := ati ls k) w1 (by omega) (by omega) g4
  refine ⟨(stepI W T k (ati ls k)).toNat, by omega, by omega, by omega, fun j => ?_⟩
  unfold liftI
  rw [ati_set (by simpa using hk), ati_set (by omega)]
  simp

theorem lift_ok {W T : Int} {cs : List Bool} {ls : List Int} {k : Nat} (hr : regB W T cs = true) (hy : laysB W T cs ls = true) (hk : k < ls.length) (hv : ati ls k ≠ 0) : laysB W T cs (liftI W T ls k) = true := by
  obtain ⟨w1, w2, t1, t2, l1, _⟩ := regB_W hr
  have hl := lays_len hy
  obtain ⟨t, e, ht, htk, hat⟩ := lift_at hr hy hk hv
  obtain ⟨v1, v4, g3, g4, g5, g6⟩ := lays_at hy hk hv
  have sb := step_back (W := W) (T := T) (k := k) (way := ati ls k) w1 (by omega) (by omega) g4
  rw [e] at g6 sb
  simp only [laysB, Bool.and_eq_true, decide_eq_true_eq, allB_iff, liftI_length]
  refine ⟨hl, fun j hj => ?_⟩
  simp only [layAt, decide_eq_true_eq]
  rw [hat j]
  by_cases e1 : j = k
  · rw [if_pos e1]; exact .inl rfl
  rw [if_neg e1]
  by_cases e2 : j = t
  · rw [if_pos e2]; exact .inl rfl
  rw [if_neg e2]
  by_cases e3 : ati ls j = 0
  · exact .inl e3
  right
  obtain ⟨u1, u4, q3, q4, q5, q6⟩ := lays_at hy hj e3
  have sj := step_back (W := W) (T := T) (k := j) (way := ati ls j) w1 (by omega) (by omega) q4
  obtain ⟨s, hs⟩ : ∃ s : Nat, stepI W T j (ati ls j) = s := ⟨(stepI W T j (ati ls j)).toNat, by omega⟩
  rw [hs] at q4 q5 q6 sj ⊢
  refine ⟨u1, u4, q3, q4, q5, ?_⟩
  rw [hat s]
  have n1 : s ≠ k := by
    intro h
    subst h
    have h2 := sj.1
    rw [← q6, e] at h2
    omega
  have n2 : s ≠ t := by
    intro h
    subst h
    have h2 := sj.1
    rw [← q6, g6, sb.1] at h2
    omega
  rw [if_neg n1, if_neg n2]; exact q6

theorem fair_parts {W T : Int} {cs : List Bool} {ds ls : List Int} (h : fairB W T cs ds ls = true) : regB W T cs = true ∧ digsB cs ds = true ∧ laysB W T cs ls = true ∧ onceB (pairsI W T ds ls) = true := by
  simp only [fairB, okB, Bool.and_eq_true] at h
  exact ⟨h.1.1, h.1.2.1, h.1.2.2, h.2⟩
theorem fair_of {W T : Int} {cs : List Bool} {ds ls : List Int} (h1 : regB W T cs = true) (h2 : digsB cs ds = true) (h3 : laysB W T cs ls = true) (h4 : onceB (pairsI W T ds ls) = true) : fairB W T cs ds ls = true := by
  simp only [fairB, okB, Bool.and_eq_true]
  exact ⟨⟨h1, h2, h3⟩, h4⟩

/-! A domino more. -/
theorem lay_hasB {W T : Int} {cs : List Bool} {ls : List Int} {k : Nat} {way : Int} (hr : regB W T cs = true) (hl : ls.length = cs.length) (hf : freeB W T cs ls k way = true) : hasB ls (layI W T ls k way) = true := by
  obtain ⟨t, e, t1, t2, t3, _, _, _, _, z1, z2, hat⟩ := free_facts hr hl hf
  rw [hasB_iff]
  intro j hj
  rw [hat j]
  by_cases e1 : j = t
  · subst e1; exact .inl z2
  by_cases e2 : j = k
  · subst e2; exact .inl z1
  rw [if_neg e1, if_neg e2]; exact .inr rfl

theorem domN_set {ls : List Int} {i : Nat} {v : Int} (h : i < ls.length) (hz : ati ls i = 0) : domN (ls.set i v) = domN ls + if isDom v then 1 else 0 := by
  have he : ls[i] = 0 := by simpa [ati, h] using hz
  unfold domN
  rw [List.countP_set h, he]
  simp [isDom]

theorem domN_lay {W T : Int} {cs : List Bool} {ls : List Int} {k : Nat} {way : Int} (hr : regB W T cs = true) (hl : ls.length = cs.length) (hf : freeB W T cs ls k way = true) : domN (layI W T ls k way) = domN ls + 1 := by
  obtain ⟨t, e, t1, t2, t3, v1, v4, _, _, z1, z2, hat⟩ := free_facts hr hl hf
  unfold layI
  have h1 : ati (ls.set k way) t = 0 := by rw [ati_set t2, if_neg t3]; exact z2
  rw [e]
  simp only [Int.toNat_natCast]
  rw [domN_set (by simpa using t1) h1, domN_set t2 z1]
  have : way = 1 ∨ way = 2 ∨ way = 3 ∨ way = 4 := by omega
  rcases this with rfl | rfl | rfl | rfl <;> simp [isDom, backI]

theorem optsI_filter (W T : Int) (cs : List Bool) (ds ls : List Int) (cell : Int) : optsI W T cs ds ls cell = [1, 2, 3, 4].filter (optB W T cs ds ls cell) := by
  simp only [optsI, optTo, List.range_succ, List.range_zero, List.nil_append, List.flatMap_append, List.flatMap_cons, List.flatMap_nil, List.append_nil, List.filter_cons, List.filter_nil]
  cases h1 : optB W T cs ds ls cell 1 <;> cases h2 : optB W T cs ds ls cell 2 <;> cases h3 : optB W T cs ds ls cell 3 <;> cases h4 : optB W T cs ds ls cell 4 <;> simp [h1, h2, h3, h4]

theorem opts_mem {W T : Int} {cs : List Bool} {ds ls : List Int} {cell x : Int} : x ∈ optsI W T cs ds ls cell ↔ optB W T cs ds ls cell x = true ∧ 1 ≤ x ∧ x ≤ 4 := by
  rw [optsI_filter, List.mem_filter]
  simp only [List.mem_cons, List.not_mem_nil, or_false]
  constructor
  · rintro ⟨h1, h2⟩; exact ⟨h2, by omega, by omega⟩
  · rintro ⟨h1, h2, h3⟩; exact ⟨by omega, h1⟩

/-! Solutions. -/
theorem solved_parts {W T : Int} {cs : List Bool} {ds p : List Int} (h : solvedB W T cs ds p = true) : fairB W T cs ds p = true ∧ fullB cs p = true := by
  simpa only [solvedB, Bool.and_eq_true] using h

theorem full_at {cs : List Bool} {p : List Int} (h : fullB cs p = true) {k : Nat} (hk : k < cs.length) (hc : atb cs k = true) : ati p k ≠ 0 := by
  rw [fullB, allB_iff] at h
  have := h k hk
  simpa [fullAt, hc] using this

/-- A bare cell's domino in a solution is an option. -/
theorem opt_of_sol {W T : Int} {cs : List Bool} {ds ls p : List Int} {k : Nat} (hy : laysB W T cs ls = true) (hp : solvedB W T cs ds p = true) (hs : hasB ls p = true) (hk : k < cs.length) (hc : atb cs k = true) (hz : ati ls k = 0) :
    optB W T cs ds ls k (ati p k) = true ∧ 1 ≤ ati p k ∧ ati p k ≤ 4 ∧ hasB (layI W T ls k (ati p k)) p = true := by
  obtain ⟨hf, hfull⟩ := solved_parts hp
  obtain ⟨hr, hd, hyp, ho⟩ := fair_parts hf
  have hl := lays_len hy
  have hlp := lays_len hyp
  obtain ⟨w1, w2, t1, t2, l1, _⟩ := regB_W hr
  have hv := full_at hfull hk hc
  obtain ⟨v1, v4, g3, g4, g5, g6⟩ := lays_at hyp (k := k) (by omega) hv
  obtain ⟨v, hvv⟩ : ∃ v, ati p k = v := ⟨_, rfl⟩
  rw [hvv] at v1 v4 g4 g5 g6 hv ⊢
  have sb := step_back (W := W) (T := T) (k := k) (way := v) w1 (by omega) (by omega) g4
  obtain ⟨t, ht⟩ : ∃ t : Nat, stepI W T k v = t := ⟨(stepI W T k v).toNat, by omega⟩
  have hzt : ati ls t = 0 := by
    rcases hasB_iff.1 hs t (by omega) with h | h
    · exact h
    · exfalso
      rw [ht] at g6
      have := lays_back hr hy (k := k) (t := t) (way := v) (by omega) ht (by rw [← h]; exact g6)
      omega
  have hfree : freeB W T cs ls k v = true := by
    simp only [freeB, decide_eq_true_eq]
    exact ⟨by omega, by omega, g4, hc, g5, hz, by rw [ht]; exact hzt⟩
  have hh := lay_has hr hl hfree hs hvv g6
  refine ⟨?_, v1, v4, hh⟩
  simp only [optB, Bool.and_eq_true]
  exact ⟨hfree, once_sub (has_pairs (by rw [layI_length]; omega) hh) ho⟩

/-- What is forced is in every solution. -/
theorem force1_sol {W T : Int} {cs : List Bool} {ds ls p : List Int} (hy : laysB W T cs ls = true) (hp : solvedB W T cs ds p = true) (hs : hasB ls p = true) : hasB (force1 W T cs ds ls) p = true := by
  have hl := lays_len hy
  rcases one_cases W T cs ds ls with h | ⟨k, hk, he, hc, hz, hol, hob, hw⟩
  · rw [force1, if_pos (by omega)]; exact hs
  · rw [force1, he, if_neg (by omega)]
    obtain ⟨o1, o2, o3, o4⟩ := opt_of_sol hy hp hs (by omega) hc hz
    have hm : ati p k ∈ optsI W T cs ds ls k := opts_mem.2 ⟨o1, o2, o3⟩
    rw [hol, List.mem_singleton] at hm
    rw [← hm]; exact o4

theorem force1_has {W T : Int} {cs : List Bool} {ds ls : List Int} (hr : regB W T cs = true) (hl : ls.length = cs.length) : hasB ls (force1 W T cs ds ls) = true := by
  rcases one_cases W T cs ds ls with h | ⟨k, hk, he, hc, hz, hol, hob, hw⟩
  · rw [force1, if_pos (by omega)]; exact hasB_refl ls
  · rw [force1, he, if_neg (by omega)]
    exact lay_hasB hr hl (optB_free hob)

theorem force1_domN {W T : Int} {cs : List Bool} {ds ls : List Int} (hr : regB W T cs = true) (hl : ls.length = cs.length) (hb : force1B W T cs ds ls = true) : domN (force1 W T cs ds ls) = domN ls + 1 := by
  rcases one_cases W T cs ds ls with h | ⟨k, hk, he, hc, hz, hol, hob, hw⟩
  · simp [force1B, h] at hb
  · rw [force1, he, if_neg (by omega)]
    exact domN_lay hr hl (optB_free hob)

theorem forceAllN_facts {W T : Int} {cs : List Bool} {ds : List Int} : ∀ (n : Nat) (ls : List Int), zeros ls ≤ n → fairB W T cs ds ls = true →
    fairB W T cs ds (forceAllN W T cs ds n ls) = true ∧ hasB ls (forceAllN W T cs ds n ls) = true ∧ force1B W T cs ds (forceAllN W T cs ds n ls) = false ∧
    ∀ p, solvedB W T cs ds p = true → hasB ls p = true → hasB (forceAllN W T cs ds n ls) p = true
  | 0, ls, hz, hf => by
    refine ⟨hf, hasB_refl ls, ?_, fun p _ h => h⟩
    cases hb : force1B W T cs ds (forceAllN W T cs ds 0 ls) with
    | false => rfl
    | true =>
      have := force1_zeros hb
      rw [forceAllN] at this
      omega
  | n + 1, ls, hz, hf => by
    rw [forceAllN]
    obtain ⟨hr, hd, hy, ho⟩ := fair_parts hf
    split
    · rename_i hb
      have hz2 := force1_zeros hb
      obtain ⟨i1, i2, i3, i4⟩ := forceAllN_facts n (force1 W T cs ds ls) (by omega) (force1_fair hf)
      exact ⟨i1, has_trans (by rw [force1_length]) (force1_has hr (lays_len hy)) i2, i3, fun p hp hs => i4 p hp (force1_sol hy hp hs)⟩
    · rename_i hb
      exact ⟨hf, hasB_refl ls, by simpa using hb, fun p _ h => h⟩

theorem forceAll_facts {W T : Int} {cs : List Bool} {ds ls : List Int} (hf : fairB W T cs ds ls = true) :
    fairB W T cs ds (forceAllI W T cs ds ls) = true ∧ hasB ls (forceAllI W T cs ds ls) = true ∧ force1B W T cs ds (forceAllI W T cs ds ls) = false ∧
    ∀ p, solvedB W T cs ds p = true → hasB ls p = true → hasB (forceAllI W T cs ds ls) p = true :=
  forceAllN_facts ls.length ls (zeros_le ls) hf

end Go.Proofs.Dev

namespace Go.Proofs
open Go.Shelf
namespace Dev

end Dev
end Go.Proofs

namespace Go.Proofs.Dev
set_option linter.unusedSimpArgs false
set_option maxRecDepth 100000

/-- All pairs, in ascending order. -/
def prL : List (Int × Int) := (List.range 7).flatMap fun a => (List.range' a (7 - a)).map fun b : Nat => ((a : Int), (b : Int))
/-- How many pairs have a lesser number below a. -/
def stN (a : Nat) : Nat := a * (15 - a) / 2

theorem stN_succ {a : Nat} (h : a < 7) : stN (a + 1) = stN a + (7 - a) ∧ stN a + (7 - a) ≤ 28 := by
  have : ∀ a < 7, stN (a + 1) = stN a + (7 - a) ∧ stN a + (7 - a) ≤ 28 := by decide
  exact this a h
theorem prL_at {a b : Nat} (h : a < 7) (hb : b < 7 - a) : prL[stN a + b]? = some ((a : Int), ((a + b : Nat) : Int)) := by
  have : ∀ a < 7, ∀ b < 7 - a, prL[stN a + b]? = some ((a : Int), ((a + b : Nat) : Int)) := by decide
  exact this a h b hb
end Go.Proofs.Dev

namespace Go.Proofs.Dev
set_option linter.unusedSimpArgs false
set_option maxRecDepth 100000

def prAt (n : Nat) : Int × Int := prL.getD n (0, 0)
def domB (ls : List Int) (k : Nat) : Bool := decide (ati ls k = 1 ∨ ati ls k = 2)
/-- How many dominoes begin ahead of a cell. -/
def domTo (ls : List Int) : Nat → Nat
  | 0 => 0
  | i + 1 => domTo ls i + if domB ls i then 1 else 0
def putP (out : List Int) (i j : Nat) (p : Int × Int) : List Int := (out.set i p.1).set j p.2
/-- The numbers of the dominoes that begin ahead of a cell. -/
def mkTo (W T : Int) (ls : List Int) (fr : Nat) : Nat → List Int
  | 0 => List.replicate ls.length (-1)
  | i + 1 => if domB ls i then putP (mkTo W T ls fr i) i (stepI W T i (ati ls i)).toNat (prAt ((fr + domTo ls i) % 28)) else mkTo W T ls fr i
def mkI (W T : Int) (cs : List Bool) (ls : List Int) (fr : Int) : List Int :=
  if (regB W T cs && laysB W T cs ls && fullB cs ls && decide (0 ≤ fr ∧ fr ≤ 27)) = true then mkTo W T ls fr.toNat ls.length else []

theorem domTo_le (ls : List Int) : ∀ i, domTo ls i ≤ i
  | 0 => Nat.le_refl _
  | i + 1 => by have := domTo_le ls i; simp only [domTo]; split <;> omega
theorem mkTo_length (W T : Int) (ls : List Int) (fr : Nat) : ∀ i, (mkTo W T ls fr i).length = ls.length
  | 0 => by simp [mkTo]
  | i + 1 => by
    have := mkTo_length W T ls fr i
    simp only [mkTo]; split
    · simp [putP, this]
    · exact this
theorem mkI_length (W T : Int) (cs : List Bool) (ls : List Int) (fr : Int) : (mkI W T cs ls fr).length ≤ ls.length := by
  unfold mkI; split
  · simp [mkTo_length]
  · simp

theorem stN_le {a N : Nat} (h : N < 28) (h2 : stN a ≤ N) (h7 : a ≤ 7) : a < 7 := by
  have e : stN 7 = 28 := by decide
  rcases Nat.lt_or_ge a 7 with h | h
  · exact h
  · have : a = 7 := by omega
    subst this; omega

/-- What a first cell of a domino knows of the other. -/
theorem lays_first {W T : Int} {cs : List Bool} {ls : List Int} (hr : regB W T cs = true) (hy : laysB W T cs ls = true) {k : Nat} (hk : k < ls.length) (hw : ati ls k = 1 ∨ ati ls k = 2) :
    0 ≤ stepI W T k (ati ls k) ∧ stepI W T k (ati ls k) < cs.length := by
  obtain ⟨w1, w2, t1, t2, l1, _⟩ := regB_W hr
  simp only [laysB, Bool.and_eq_true, decide_eq_true_eq, allB_iff] at hy
  obtain ⟨hl, hy⟩ := hy
  have p1 := hy k hk
  have hst := stepI_range (T := T) (k := k) (way := ati ls k) w1 (by omega) (by omega)
  simp only [layAt, decide_eq_true_eq] at p1
  rcases p1 with p1 | ⟨_, _, pc, p0, pt, _⟩
  · omega
  · omega

theorem s_spec_MakePuzzle (W T : Int) (cs : List Bool) (ls : List Int) (fr : Int) (hb : cs.length < 2 ^ 40) (hl : ls.length < 2 ^ 40) :
    SoundAt Tryz.prog n_spec_MakePuzzle [.agg [.v (.int .i64 W), .v (.int .i64 T), .sl 1 1 (bools cs)], .sl 1 1 (ints ls), .v (.int .i64 fr)] (.os 1 (ints (mkI W T cs ls fr))) [.bot, .bot, .bot] := by
  refine fn_ok (md := md0) (ms := [false, false, false]) k_spec_MakePuzzle (by simp) ?_
  simp [c_spec_MakePuzzle]
  refine call_on (s_spec_TilingOk W T cs ls hb hl) ?_
  cases hp : (regB W T cs && laysB W T cs ls && fullB cs ls) with
  | false => simp [mkI, hp]
  | true =>
  simp
  refine call_on (s_spec_l1In fr 0 27) ?_
  by_cases hx : 0 ≤ fr ∧ fr ≤ 27
  case neg =>
    have hx2 : (decide (0 ≤ fr) && decide (fr ≤ 27)) = false := by simp; omega
    simp [hx2, mkI, hx]
  obtain ⟨f, rfl⟩ : ∃ f : Nat, fr = f := ⟨fr.toNat, by omega⟩
  have hrl := hp
  simp only [Bool.and_eq_true] at hrl
  obtain ⟨⟨hr, hy⟩, hfull⟩ := hrl
  have hlen : ls.length = cs.length := by simp only [laysB, Bool.and_eq_true, decide_eq_true_eq] at hy; exact hy.1
  have h36 := regB_len hr
  have hmk : mkI W T cs ls f = mkTo W T ls f ls.length := by simp [mkI, hp, hx]
  rw [hmk]
  simp [hx]
  refine loop_by (fun m E H => ∃ i : Nat, m = ls.length - i ∧ i ≤ ls.length ∧ H = [some (.box [.v (.int .i64 W), .v (.int .i64 T), .sl 1 1 (bools cs)]), some (.arr 1 (ints (List.replicate i (-1))))] ∧
    E = [(1, .sl 1 1 (ints ls)), (2, .v (.int .i64 f)), (3, .lp 0 0 0 0), (7, .ls 1 1 0 i), (8, .v (.int .i64 i))]) ls.length ⟨0, by simp⟩ ?_
  rintro J hJ m E H ⟨i, rfl, hi, rfl, rfl⟩
  by_cases h : i < ls.length
  · simp [c_spec_MakePuzzle_L0, h]
    refine ⟨by omega, by omega, _, by omega, hJ _ _ _ ⟨i + 1, rfl, h, ?_, by simp⟩⟩
    rw [List.replicate_succ', ints_append]; rfl
  have : i = ls.length := by omega
  subst this
  simp [c_spec_MakePuzzle_L0]
  clear hJ J
  refine loop_by (fun m E H => ∃ i : Nat, m = ls.length - i ∧ i ≤ ls.length ∧ H = [some (.box [.v (.int .i64 W), .v (.int .i64 T), .sl 1 1 (bools cs)]), some (.arr 1 (ints (mkTo W T ls f i)))] ∧
    E = [(1, .sl 1 1 (ints ls)), (2, .v (.int .i64 ((f + domTo ls i : Nat) : Int))), (3, .lp 0 0 0 0), (7, .ls 1 1 0 ls.length), (9, .v (.int .i64 i))]) ls.length ⟨0, by simp [mkTo, domTo]⟩ ?_
  rintro J hJ m E H ⟨i, rfl, hi, rfl, rfl⟩
  have hml := mkTo_length W T ls f i
  by_cases h : i < ls.length
  case neg =>
    have : i = ls.length := by omega
    subst this
    simp [c_spec_MakePuzzle_L2, hml]
    exact List.take_of_length_le (by simp [hml])
  by_cases hd : domB ls i = true
  case neg =>
    have hw : ¬ (ati ls i = 1 ∨ ati ls i = 2) := by simpa [domB] using hd
    have hw1 : ¬ ati ls i = 1 := fun e => hw (.inl e)
    have hw2 : ¬ ati ls i = 2 := fun e => hw (.inr e)
    simp [c_spec_MakePuzzle_L2, h, hw1, hw2]
    refine ⟨by omega, _, by omega, hJ _ _ _ ⟨i + 1, rfl, h, ?_, ?_⟩⟩ <;> simp [mkTo, domTo, hd]
  have hw : ati ls i = 1 ∨ ati ls i = 2 := by simpa [domB] using hd
  have hdn := domTo_le ls i
  obtain ⟨o1, o2⟩ := lays_first hr hy h hw
  have one := s_spec_l2Step W T cs i (ati ls i) hr (by omega) (by omega)
  generalize hto : stepI W T i (ati ls i) = to at *
  generalize hout : mkTo W T ls f i = out at *
  generalize hN : (f + domTo ls i) % 28 = N at *
  have hN28 : N < 28 := by omega
  have next : again J (ls.length - i) [(1, .sl 1 1 (ints ls)), (2, .v (.int .i64 ((f : Int) + (domTo ls i : Nat) + 1))), (3, .lp 0 0 0 0), (7, .ls 1 1 0 ls.length), (9, .v (.int .i64 (i + 1)))]
      [some (.box [.v (.int .i64 W), .v (.int .i64 T), .sl 1 1 (bools cs)]), some (.arr 1 (ints (putP out i to.toNat (prAt N))))] := by
    refine ⟨_, by omega, hJ _ _ _ ⟨i + 1, rfl, h, ?_, ?_⟩⟩
    · simp [mkTo, hd, hto, hout, hN]
    · simp [domTo, hd, Int.add_assoc]
  have hNi : ((f : Int) + (domTo ls i : Nat)) % 28 = (N : Int) := by omega
  rcases hw with hw | hw <;> rw [hw] at one <;>
  · simp [c_spec_MakePuzzle_L2, h, hw, hNi]
    refine ⟨by omega, ?_⟩
    refine loop_by (fun b E H => ∃ a : Nat, a < 7 ∧ stN a + b = N ∧ H = [some (.box [.v (.int .i64 W), .v (.int .i64 T), .sl 1 1 (bools cs)]), some (.arr 1 (ints out))] ∧
      E = [(1, .sl 1 1 (ints ls)), (2, .v (.int .i64 ((f : Int) + (domTo ls i : Nat)))), (3, .lp 0 0 0 0), (7, .ls 1 1 0 ls.length), (9, .v (.int .i64 i)), (10, .v (.int .i64 b)), (11, .v (.int .i64 a))]) N ⟨0, by omega, by simp [stN], rfl, by simp⟩ ?_
    rintro J2 hJ2 b E H ⟨a, ha, hab, rfl, rfl⟩
    by_cases hb6 : a + b ≤ 6
    case neg =>
      have hb6' : (6 : Int) - a < b := by omega
      have hs := stN_succ ha
      have ha7 := stN_le (a := a + 1) hN28 (by omega) (by omega)
      have e1 : ((b : Int) - (6 - (a : Int) + 1)) = ((b - (7 - a) : Nat) : Int) := by omega
      simp [c_spec_MakePuzzle_L1, hb6', e1]
      refine ⟨by omega, by omega, by omega, by omega, b - (7 - a), by omega, hJ2 _ _ _ ⟨a + 1, ha7, by omega, rfl, ?_⟩⟩
      simp
    have hb6' : ¬ (6 : Int) - a < b := by omega
    have hpr : prAt N = ((a : Int), ((a + b : Nat) : Int)) := by simp only [prAt, List.getD_eq_getElem?_getD, ← hab, prL_at ha (by omega : b < 7 - a), Option.getD_some]
    rw [hpr] at next
    simp [putP] at next
    have hio : i < out.length := by omega
    have hto2 : to < out.length := by omega
    simp [c_spec_MakePuzzle_L1, hb6', hio, hml, h]
    refine ⟨by omega, ?_⟩
    simp [c_spec_MakePuzzle_D, h, hw, ints_set]
    (repeat' first | omega | apply And.intro) <;>
    · refine call_on one ?_
      simp [o1, hml, ints_set]
      exact ⟨by omega, by omega, by omega, next⟩

end Go.Proofs.Dev
