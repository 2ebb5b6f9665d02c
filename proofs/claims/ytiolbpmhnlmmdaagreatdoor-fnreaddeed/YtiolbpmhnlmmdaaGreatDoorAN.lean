/- Contracts of the functions of the program over slots and rows, each proved against the program itself; no condition beyond those that each theorem names. -/
import Derived.Test.YtiolbpmhnlmmdaaGreatDoorAM
import Derived.Test.YtiolbpmhnlmmdaaGreatDoorAH
import Derived.Shelf.Bits.Mul64
import Derived.Ground.NamesProg
import Derived.Test.YtiolbpmhnlmmdaaGreatDoorProg
import Derived.Test.YtiolbpmhnlmmdaaGreatDoorAK
import Derived.Test.YtiolbpmhnlmmdaaGreatDoorAL
import Derived.Test.YtiolbpmhnlmmdaaGreatDoorAI

set_option linter.unusedSimpArgs false
set_option linter.unusedVariables false

namespace Go.Proofs.Dev
set_option linter.unusedSimpArgs false

/-- What has the dominoes of a list has their pairs. -/
theorem pairs_sub {W T : Int} {ds a b : List Int} (hl : a.length = b.length) (h : ∀ k : Nat, k < a.length → ati a k = 0 ∨ ati b k = ati a k) : List.Sublist (pairsI W T ds a) (pairsI W T ds b) := by
  have : ∀ n, n ≤ a.length → List.Sublist (pairsTo W T ds a n) (pairsTo W T ds b n) := by
    intro n
    induction n with
    | zero => intro _; simp [pairsTo]
    | succ n ih =>
      intro hn
      rw [pairsTo_succ, pairsTo_succ]
      rcases h n (by omega) with h0 | h0
      · rw [if_neg (by omega)]
        exact (ih (by omega)).append (List.nil_sublist _)
      · rw [h0]
        exact (ih (by omega)).append (List.Sublist.refl _)
  have e := this a.length (Nat.le_refl _)
  unfold pairsI
  rw [← hl]; exact e

theorem once_sub {a b : List Int} (h : List.Sublist a b) (hb : onceB b = true) : onceB a = true := by
  simp only [onceB, decide_eq_true_eq] at hb ⊢
  exact h.nodup hb

theorem has_pairs {W T : Int} {ds a b : List Int} (hl : a.length = b.length) (h : hasB a b = true) : List.Sublist (pairsI W T ds a) (pairsI W T ds b) :=
  pairs_sub hl fun k hk => hasB_iff.1 h k hk

theorem has_trans {a b c : List Int} (hl : a.length = b.length) (h1 : hasB a b = true) (h2 : hasB b c = true) : hasB a c = true := by
  rw [hasB_iff] at *
  intro k hk
  rcases h1 k hk with h | h
  · exact .inl h
  · rcases h2 k (by omega) with h3 | h3
    · left; omega
    · right; omega

/-- A list without the domino on a cell. -/
def liftI (W T : Int) (ls : List Int) (cell : Int) : List Int := (ls.set (stepI W T cell (ati ls cell)).toNat 0).set cell.toNat 0
theorem liftI_length (W T : Int) (ls : List Int) (cell : Int) : (liftI W T ls cell).length = ls.length := by simp [liftI]

theorem lift_at {W T : Int} {cs : List Bool} {ls : List Int} {k : Nat} (hr : regB W T cs = true) (hy : laysB W T cs ls = true) (hk : k < ls.length) (hv : ati ls k ≠ 0) :
    ∃ t : Nat, stepI W T k (ati ls k) = t ∧ t < ls.length ∧ t ≠ k ∧ ∀ j : Nat, ati (liftI W T ls k) j = if j = k then 0 else if j = t then 0 else ati ls j := by
  obtain ⟨w1, w2, t1, t2, l1, _⟩ := regB_W hr
  have hl := lays_len hy
  obtain ⟨v1, v4, g3, g4, g5, g6⟩ := lays_at hy hk hv
  obtain ⟨_, _, _, b4, b5⟩ := step_back (W := W) (T := T) (k := k) (way := ati ls k) w1 (by omega) (by omega) g4
  refine ⟨(stepI W T k (ati ls k)).toNat, by omega, by omega, by omega, fun j => ?_⟩
  unfold liftI
  rw [ati_set (by simpa using hk), ati_set (by omega)]
  simp

theorem lift_ok {W T : Int} {cs : List Bool} {ls : List Int} {k : Nat} (hr : regB W T cs = true) (hy : laysB W T cs ls = true) (hk : k < ls.length) (hv : ati ls k ≠ 0) : laysB W T cs (liftI W T ls k) = true := by
  obtain ⟨w1, w2, t1, t2, l1, _⟩ := regB_W hr
  have hl := lays_len hy
  obtain ⟨t, e, ht, htk, hat⟩ := lift_at hr hy hk hv
  obtain ⟨v1, v4, g3, g4, g5, g6⟩ := lays_at hy hk hv
  have sb := step_back (W := W) (T := T) (k := k) (way := ati ls k) w1 (by omega) (by omega) g4
  rw [e] at g6 sb
  simp only [laysB, Bool.and_eq_true, decide_eq_true_eq, allB_iff, liftI_length]
  refine ⟨hl, fun j hj => ?_⟩
  simp only [layAt, decide_eq_true_eq]
  rw [hat j]
  by_cases e1 : j = k
  · rw [if_pos e1]; exact .inl rfl
  rw [if_neg e1]
  by_cases e2 : j = t
  · rw [if_pos e2]; exact .inl rfl
  rw [if_neg e2]
  by_cases e3 : ati ls j = 0
  · exact .inl e3
  right
  obtain ⟨u1, u4, q3, q4, q5, q6⟩ := lays_at hy hj e3
  have sj := step_back (W := W) (T := T) (k := j) (way := ati ls j) w1 (by omega) (by omega) q4
  obtain ⟨s, hs⟩ : ∃ s : Nat, stepI W T j (ati ls j) = s := ⟨(stepI W T j (ati ls j)).toNat, by omega⟩
  rw [hs] at q4 q5 q6 sj ⊢
  refine ⟨u1, u4, q3, q4, q5, ?_⟩
  rw [hat s]
  have n1 : s ≠ k := by
    intro h
    subst h
    have h2 := sj.1
    rw [← q6, e] at h2
    omega
  have n2 : s ≠ t := by
    intro h
    subst h
    have h2 := sj.1
    rw [← q6, g6, sb.1] at h2
    omega
  rw [if_neg n1, if_neg n2]; exact q6

theorem fair_parts {W T : Int} {cs : List Bool} {ds ls : List Int} (h : fairB W T cs ds ls = true) : regB W T cs = true ∧ digsB cs ds = true ∧ laysB W T cs ls = true ∧ onceB (pairsI W T ds ls) = true := by
  simp only [fairB, okB, Bool.and_eq_true] at h
  exact ⟨h.1.1, h.1.2.1, h.1.2.2, h.2⟩
theorem fair_of {W T : Int} {cs : List Bool} {ds ls : List Int} (h1 : regB W T cs = true) (h2 : digsB cs ds = true) (h3 : laysB W T cs ls = true) (h4 : onceB (pairsI W T ds ls) = true) : fairB W T cs ds ls = true := by
  simp only [fairB, okB, Bool.and_eq_true]
  exact ⟨⟨h1, h2, h3⟩, h4⟩

/-! A domino more. -/
theorem lay_hasB {W T : Int} {cs : List Bool} {ls : List Int} {k : Nat} {way : Int} (hr : regB W T cs = true) (hl : ls.length = cs.length) (hf : freeB W T cs ls k way = true) : hasB ls (layI W T ls k way) = true := by
  obtain ⟨t, e, t1, t2, t3, _, _, _, _, z1, z2, hat⟩ := free_facts hr hl hf
  rw [hasB_iff]
  intro j hj
  rw [hat j]
  by_cases e1 : j = t
  · subst e1; exact .inl z2
  by_cases e2 : j = k
  · subst e2; exact .inl z1
  rw [if_neg e1, if_neg e2]; exact .inr rfl

theorem domN_set {ls : List Int} {i : Nat} {v : Int} (h : i < ls.length) (hz : ati ls i = 0) : domN (ls.set i v) = domN ls + if isDom v then 1 else 0 := by
  have he : ls[i] = 0 := by simpa [ati, h] using hz
  unfold domN
  rw [List.countP_set h, he]
  simp [isDom]

theorem domN_lay {W T : Int} {cs : List Bool} {ls : List Int} {k : Nat} {way : Int} (hr : regB W T cs = true) (hl : ls.length = cs.length) (hf : freeB W T cs ls k way = true) : domN (layI W T ls k way) = domN ls + 1 := by
  obtain ⟨t, e, t1, t2, t3, v1, v4, _, _, z1, z2, hat⟩ := free_facts hr hl hf
  unfold layI
  have h1 : ati (ls.set k way) t = 0 := by rw [ati_set t2, if_neg t3]; exact z2
  rw [e]
  simp only [Int.toNat_natCast]
  rw [domN_set (by simpa using t1) h1, domN_set t2 z1]
  have : way = 1 ∨ way = 2 ∨ way = 3 ∨ way = 4 := by omega
  rcases this with rfl | rfl | rfl | rfl <;> simp [isDom, backI]

theorem optsI_filter (W T : Int) (cs : List Bool) (ds ls : List Int) (cell : Int) : optsI W T cs ds ls cell = [1, 2, 3, 4].filter (optB W T cs ds ls cell) := by
  simp only [optsI, optTo, List.range_succ, List.range_zero, List.nil_append, List.flatMap_append, List.flatMap_cons, List.flatMap_nil, List.append_nil, List.filter_cons, List.filter_nil]
  cases h1 : optB W T cs ds ls cell 1 <;> cases h2 : optB W T cs ds ls cell 2 <;> cases h3 : optB W T cs ds ls cell 3 <;> cases h4 : optB W T cs ds ls cell 4 <;> simp [h1, h2, h3, h4]

theorem opts_mem {W T : Int} {cs : List Bool} {ds ls : List Int} {cell x : Int} : x ∈ optsI W T cs ds ls cell ↔ optB W T cs ds ls cell x = true ∧ 1 ≤ x ∧ x ≤ 4 := by
  rw [optsI_filter, List.mem_filter]
  simp only [List.mem_cons, List.not_mem_nil, or_false]
  constructor
  · rintro ⟨h1, h2⟩; exact ⟨h2, by omega, by omega⟩
  · rintro ⟨h1, h2, h3⟩; exact ⟨by omega, h1⟩

/-! Solutions. -/
theorem solved_parts {W T : Int} {cs : List Bool} {ds p : List Int} (h : solvedB W T cs ds p = true) : fairB W T cs ds p = true ∧ fullB cs p = true := by
  simpa only [solvedB, Bool.and_eq_true] using h

theorem full_at {cs : List Bool} {p : List Int} (h : fullB cs p = true) {k : Nat} (hk : k < cs.length) (hc : atb cs k = true) : ati p k ≠ 0 := by
  rw [fullB, allB_iff] at h
  have := h k hk
  simpa [fullAt, hc] using this

/-- A bare cell's domino in a solution is an option. -/
theorem opt_of_sol {W T : Int} {cs : List Bool} {ds ls p : List Int} {k : Nat} (hy : laysB W T cs ls = true) (hp : solvedB W T cs ds p = true) (hs : hasB ls p = true) (hk : k < cs.length) (hc : atb cs k = true) (hz : ati ls k = 0) :
    optB W T cs ds ls k (ati p k) = true ∧ 1 ≤ ati p k ∧ ati p k ≤ 4 ∧ hasB (layI W T ls k (ati p k)) p = true := by
  obtain ⟨hf, hfull⟩ := solved_parts hp
  obtain ⟨hr, hd, hyp, ho⟩ := fair_parts hf
  have hl := lays_len hy
  have hlp := lays_len hyp
  obtain ⟨w1, w2, t1, t2, l1, _⟩ := regB_W hr
  have hv := full_at hfull hk hc
  obtain ⟨v1, v4, g3, g4, g5, g6⟩ := lays_at hyp (k := k) (by omega) hv
  obtain ⟨v, hvv⟩ : ∃ v, ati p k = v := ⟨_, rfl⟩
  rw [hvv] at v1 v4 g4 g5 g6 hv ⊢
  have sb := step_back (W := W) (T := T) (k := k) (way := v) w1 (by omega) (by omega) g4
  obtain ⟨t, ht⟩ : ∃ t : Nat, stepI W T k v = t := ⟨(stepI W T k v).toNat, by omega⟩
  have hzt : ati ls t = 0 := by
    rcases hasB_iff.1 hs t (by omega) with h | h
    · exact h
    · exfalso
      rw [ht] at g6
      have := lays_back hr hy (k := k) (t := t) (way := v) (by omega) ht (by rw [← h]; exact g6)
      omega
  have hfree : freeB W T cs ls k v = true := by
    simp only [freeB, decide_eq_true_eq]
    exact ⟨by omega, by omega, g4, hc, g5, hz, by rw [ht]; exact hzt⟩
  have hh := lay_has hr hl hfree hs hvv g6
  refine ⟨?_, v1, v4, hh⟩
  simp only [optB, Bool.and_eq_true]
  exact ⟨hfree, once_sub (has_pairs (by rw [layI_length]; omega) hh) ho⟩

/-- What is forced is in every solution. -/
theorem force1_sol {W T : Int} {cs : List Bool} {ds ls p : List Int} (hy : laysB W T cs ls = true) (hp : solvedB W T cs ds p = true) (hs : hasB ls p = true) : hasB (force1 W T cs ds ls) p = true := by
  have hl := lays_len hy
  rcases one_cases W T cs ds ls with h | ⟨k, hk, he, hc, hz, hol, hob, hw⟩
  · rw [force1, if_pos (by omega)]; exact hs
  · rw [force1, he, if_neg (by omega)]
    obtain ⟨o1, o2, o3, o4⟩ := opt_of_sol hy hp hs (by omega) hc hz
    have hm : ati p k ∈ optsI W T cs ds ls k := opts_mem.2 ⟨o1, o2, o3⟩
    rw [hol, List.mem_singleton] at hm
    rw [← hm]; exact o4

theorem force1_has {W T : Int} {cs : List Bool} {ds ls : List Int} (hr : regB W T cs = true) (hl : ls.length = cs.length) : hasB ls (force1 W T cs ds ls) = true := by
  rcases one_cases W T cs ds ls with h | ⟨k, hk, he, hc, hz, hol, hob, hw⟩
  · rw [force1, if_pos (by omega)]; exact hasB_refl ls
  · rw [force1, he, if_neg (by omega)]
    exact lay_hasB hr hl (optB_free hob)

theorem force1_domN {W T : Int} {cs : List Bool} {ds ls : List Int} (hr : regB W T cs = true) (hl : ls.length = cs.length) (hb : force1B W T cs ds ls = true) : domN (force1 W T cs ds ls) = domN ls + 1 := by
  rcases one_cases W T cs ds ls with h | ⟨k, hk, he, hc, hz, hol, hob, hw⟩
  · simp [force1B, h] at hb
  · rw [force1, he, if_neg (by omega)]
    exact domN_lay hr hl (optB_free hob)

theorem forceAllN_facts {W T : Int} {cs : List Bool} {ds : List Int} : ∀ (n : Nat) (ls : List Int), zeros ls ≤ n → fairB W T cs ds ls = true →
    fairB W T cs ds (forceAllN W T cs ds n ls) = true ∧ hasB ls (forceAllN W T cs ds n ls) = true ∧ force1B W T cs ds (forceAllN W T cs ds n ls) = false ∧
    ∀ p, solvedB W T cs ds p = true → hasB ls p = true → hasB (forceAllN W T cs ds n ls) p = true
  | 0, ls, hz, hf => by
    refine ⟨hf, hasB_refl ls, ?_, fun p _ h => h⟩
    cases hb : force1B W T cs ds (forceAllN W T cs ds 0 ls) with
    | false => rfl
    | true =>
      have := force1_zeros hb
      rw [forceAllN] at this
      omega
  | n + 1, ls, hz, hf => by
    rw [forceAllN]
    obtain ⟨hr, hd, hy, ho⟩ := fair_parts hf
    split
    · rename_i hb
      have hz2 := force1_zeros hb
      obtain ⟨i1, i2, i3, i4⟩ := forceAllN_facts n (force1 W T cs ds ls) (by omega) (force1_fair hf)
      exact ⟨i1, has_trans (by rw [force1_length]) (force1_has hr (lays_len hy)) i2, i3, fun p hp hs => i4 p hp (force1_sol hy hp hs)⟩
    · rename_i hb
      exact ⟨hf, hasB_refl ls, by simpa using hb, fun p _ h => h⟩

theorem forceAll_facts {W T : Int} {cs : List Bool} {ds ls : List Int} (hf : fairB W T cs ds ls = true) :
    fairB W T cs ds (forceAllI W T cs ds ls) = true ∧ hasB ls (forceAllI W T cs ds ls) = true ∧ force1B W T cs ds (forceAllI W T cs ds ls) = false ∧
    ∀ p, solvedB W T cs ds p = true → hasB ls p = true → hasB (forceAllI W T cs ds ls) p = true :=
  forceAllN_facts ls.length ls (zeros_le ls) hf

end Go.Proofs.Dev

namespace Go.Proofs
open Go.Shelf
namespace Dev

end Dev
end Go.Proofs

namespace Go.Proofs.Dev
set_option linter.unusedSimpArgs false
set_option maxRecDepth 100000

/-- All pairs, in ascending order. -/
def prL : List (Int × Int) := (List.range 7).flatMap fun a => (List.range' a (7 - a)).map fun b : Nat => ((a : Int), (b : Int))
/-- How many pairs have a lesser number below a. -/
def stN (a : Nat) : Nat := a * (15 - a) / 2

theorem stN_succ {a : Nat} (h : a < 7) : stN (a + 1) = stN a + (7 - a) ∧ stN a + (7 - a) ≤ 28 := by
  have : ∀ a < 7, stN (a + 1) = stN a + (7 - a) ∧ stN a + (7 - a) ≤ 28 := by decide
  exact this a h
theorem prL_at {a b : Nat} (h : a < 7) (hb : b < 7 - a) : prL[stN a + b]? = some ((a : Int), ((a + b : Nat) : Int)) := by
  have : ∀ a < 7, ∀ b < 7 - a, prL[stN a + b]? = some ((a : Int), ((a + b : Nat) : Int)) := by decide
  exact this a h b hb
end Go.Proofs.Dev

namespace Go.Proofs.Dev
set_option linter.unusedSimpArgs false
set_option maxRecDepth 100000

def prAt (n : Nat) : Int × Int := prL.getD n (0, 0)
def domB (ls : List Int) (k : Nat) : Bool := decide (ati ls k = 1 ∨ ati ls k = 2)
/-- How many dominoes begin ahead of a cell. -/
def domTo (ls : List Int) : Nat → Nat
  | 0 => 0
  | i + 1 => domTo ls i + if domB ls i then 1 else 0
def putP (out : List Int) (i j : Nat) (p : Int × Int) : List Int := (out.set i p.1).set j p.2
/-- The numbers of the dominoes that begin ahead of a cell. -/
def mkTo (W T : Int) (ls : List Int) (fr : Nat) : Nat → List Int
  | 0 => List.replicate ls.length (-1)
  | i + 1 => if domB ls i then putP (mkTo W T ls fr i) i (stepI W T i (ati ls i)).toNat (prAt ((fr + domTo ls i) % 28)) else mkTo W T ls fr i
def mkI (W T : Int) (cs : List Bool) (ls : List Int) (fr : Int) : List Int :=
  if (regB W T cs && laysB W T cs ls && fullB cs ls && decide (0 ≤ fr ∧ fr ≤ 27)) = true then mkTo W T ls fr.toNat ls.length else []

theorem domTo_le (ls : List Int) : ∀ i, domTo ls i ≤ i
  | 0 => Nat.le_refl _
  | i + 1 => by have := domTo_le ls i; simp only [domTo]; split <;> omega
theorem mkTo_length (W T : Int) (ls : List Int) (fr : Nat) : ∀ i, (mkTo W T ls fr i).length = ls.length
  | 0 => by simp [mkTo]
  | i + 1 => by
    have := mkTo_length W T ls fr i
    simp only [mkTo]; split
    · simp [putP, this]
    · exact this
theorem mkI_length (W T : Int) (cs : List Bool) (ls : List Int) (fr : Int) : (mkI W T cs ls fr).length ≤ ls.length := by
  unfold mkI; split
  · simp [mkTo_length]
  · simp

theorem stN_le {a N : Nat} (h : N < 28) (h2 : stN a ≤ N) (h7 : a ≤ 7) : a < 7 := by
  have e : stN 7 = 28 := by decide
  rcases Nat.lt_or_ge a 7 with h | h
  · exact h
  · have : a = 7 := by omega
    subst this; omega

/-- What a first cell of a domino knows of the other. -/
theorem lays_first {W T : Int} {cs : List Bool} {ls : List Int} (hr : regB W T cs = true) (hy : laysB W T cs ls = true) {k : Nat} (hk : k < ls.length) (hw : ati ls k = 1 ∨ ati ls k = 2) :
    0 ≤ stepI W T k (ati ls k) ∧ stepI W T k (ati ls k) < cs.length := by
  obtain ⟨w1, w2, t1, t2, l1, _⟩ := regB_W hr
  simp only [laysB, Bool.and_eq_true, decide_eq_true_eq, allB_iff] at hy
  obtain ⟨hl, hy⟩ := hy
  have p1 := hy k hk
  have hst := stepI_range (T := T) (k := k) (way := ati ls k) w1 (by omega) (by omega)
  simp only [layAt, decide_eq_true_eq] at p1
  rcases p1 with p1 | ⟨_, _, pc, p0, pt, _⟩
  · omega
  · omega

theorem s_spec_MakePuzzle (W T : Int) (cs : List Bool) (ls : List Int) (fr : Int) (hb : cs.length < 2 ^ 40) (hl : ls.length < 2 ^ 40) :
    SoundAt Tryz.prog n_spec_MakePuzzle [.agg [.v (.int .i64 W), .v (.int .i64 T), .sl 1 1 (bools cs)], .sl 1 1 (ints ls), .v (.int .i64 fr)] (.os 1 (ints (mkI W T cs ls fr))) [.bot, .bot, .bot] := by
  refine fn_ok (md := md0) (ms := [false, false, false]) k_spec_MakePuzzle (by simp) ?_
  simp [c_spec_MakePuzzle]
  refine call_on (s_spec_TilingOk W T cs ls hb hl) ?_
  cases hp : (regB W T cs && laysB W T cs ls && fullB cs ls) with
  | false => simp [mkI, hp]
  | true =>
  simp
  refine call_on (s_spec_l1In fr 0 27) ?_
  by_cases hx : 0 ≤ fr ∧ fr ≤ 27
  case neg =>
    have hx2 : (decide (0 ≤ fr) && decide (fr ≤ 27)) = false := by simp; omega
    simp [hx2, mkI, hx]
  obtain ⟨f, rfl⟩ : ∃ f : Nat, fr = f := ⟨fr.toNat, by omega⟩
  have hrl := hp
  simp only [Bool.and_eq_true] at hrl
  obtain ⟨⟨hr, hy⟩, hfull⟩ := hrl
  have hlen : ls.length = cs.length := by simp only [laysB, Bool.and_eq_true, decide_eq_true_eq] at hy; exact hy.1
  have h36 := regB_len hr
  have hmk : mkI W T cs ls f = mkTo W T ls f ls.length := by simp [mkI, hp, hx]
  rw [hmk]
  simp [hx]
  refine loop_by (fun m E H => ∃ i : Nat, m = ls.length - i ∧ i ≤ ls.length ∧ H = [some (.box [.v (.int .i64 W), .v (.int .i64 T), .sl 1 1 (bools cs)]), some (.arr 1 (ints (List.replicate i (-1))))] ∧
    E = [(1, .sl 1 1 (ints ls)), (2, .v (.int .i64 f)), (3, .lp 0 0 0 0), (7, .ls 1 1 0 i), (8, .v (.int .i64 i))]) ls.length ⟨0, by simp⟩ ?_
  rintro J hJ m E H ⟨i, rfl, hi, rfl, rfl⟩
  by_cases h : i < ls.length
  · simp [c_spec_MakePuzzle_L0, h]
    refine ⟨by omega, by omega, _, by omega, hJ _ _ _ ⟨i + 1, rfl, h, ?_, by simp⟩⟩
    rw [List.replicate_succ', ints_append]; rfl
  have : i = ls.length := by omega
  subst this
  simp [c_spec_MakePuzzle_L0]
  clear hJ J
  refine loop_by (fun m E H => ∃ i : Nat, m = ls.length - i ∧ i ≤ ls.length ∧ H = [some (.box [.v (.int .i64 W), .v (.int .i64 T), .sl 1 1 (bools cs)]), some (.arr 1 (ints (mkTo W T ls f i)))] ∧
    E = [(1, .sl 1 1 (ints ls)), (2, .v (.int .i64 ((f + domTo ls i : Nat) : Int))), (3, .lp 0 0 0 0), (7, .ls 1 1 0 ls.length), (9, .v (.int .i64 i))]) ls.length ⟨0, by simp [mkTo, domTo]⟩ ?_
  rintro J hJ m E H ⟨i, rfl, hi, rfl, rfl⟩
  have hml := mkTo_length W T ls f i
  by_cases h : i < ls.length
  case neg =>
    have : i = ls.length := by omega
    subst this
    simp [c_spec_MakePuzzle_L2, hml]
    exact List.take_of_length_le (by simp [hml])
  by_cases hd : domB ls i = true
  case neg =>
    have hw : ¬ (ati ls i = 1 ∨ ati ls i = 2) := by simpa [domB] using hd
    have hw1 : ¬ ati ls i = 1 := fun e => hw (.inl e)
    have hw2 : ¬ ati ls i = 2 := fun e => hw (.inr e)
    simp [c_spec_MakePuzzle_L2, h, hw1, hw2]
    refine ⟨by omega, _, by omega, hJ _ _ _ ⟨i + 1, rfl, h, ?_, ?_⟩⟩ <;> simp [mkTo, domTo, hd]
  have hw : ati ls i = 1 ∨ ati ls i = 2 := by simpa [domB] using hd
  have hdn := domTo_le ls i
  obtain ⟨o1, o2⟩ := lays_first hr hy h hw
  have one := s_spec_l2Step W T cs i (ati ls i) hr (by omega) (by omega)
  generalize hto : stepI W T i (ati ls i) = to at *
  generalize hout : mkTo W T ls f i = out at *
  generalize hN : (f + domTo ls i) % 28 = N at *
  have hN28 : N < 28 := by omega
  have next : again J (ls.length - i) [(1, .sl 1 1 (ints ls)), (2, .v (.int .i64 ((f : Int) + (domTo ls i : Nat) + 1))), (3, .lp 0 0 0 0), (7, .ls 1 1 0 ls.length), (9, .v (.int .i64 (i + 1)))]
      [some (.box [.v (.int .i64 W), .v (.int .i64 T), .sl 1 1 (bools cs)]), some (.arr 1 (ints (putP out i to.toNat (prAt N))))] := by
    refine ⟨_, by omega, hJ _ _ _ ⟨i + 1, rfl, h, ?_, ?_⟩⟩
    · simp [mkTo, hd, hto, hout, hN]
    · simp [domTo, hd, Int.add_assoc]
  have hNi : ((f : Int) + (domTo ls i : Nat)) % 28 = (N : Int) := by omega
  rcases hw with hw | hw <;> rw [hw] at one <;>
  · simp [c_spec_MakePuzzle_L2, h, hw, hNi]
    refine ⟨by omega, ?_⟩
    refine loop_by (fun b E H => ∃ a : Nat, a < 7 ∧ stN a + b = N ∧ H = [some (.box [.v (.int .i64 W), .v (.int .i64 T), .sl 1 1 (bools cs)]), some (.arr 1 (ints out))] ∧
      E = [(1, .sl 1 1 (ints ls)), (2, .v (.int .i64 ((f : Int) + (domTo ls i : Nat)))), (3, .lp 0 0 0 0), (7, .ls 1 1 0 ls.length), (9, .v (.int .i64 i)), (10, .v (.int .i64 b)), (11, .v (.int .i64 a))]) N ⟨0, by omega, by simp [stN], rfl, by simp⟩ ?_
    rintro J2 hJ2 b E H ⟨a, ha, hab, rfl, rfl⟩
    by_cases hb6 : a + b ≤ 6
    case neg =>
      have hb6' : (6 : Int) - a < b := by omega
      have hs := stN_succ ha
      have ha7 := stN_le (a := a + 1) hN28 (by omega) (by omega)
      have e1 : ((b : Int) - (6 - (a : Int) + 1)) = ((b - (7 - a) : Nat) : Int) := by omega
      simp [c_spec_MakePuzzle_L1, hb6', e1]
      refine ⟨by omega, by omega, by omega, by omega, b - (7 - a), by omega, hJ2 _ _ _ ⟨a + 1, ha7, by omega, rfl, ?_⟩⟩
      simp
    have hb6' : ¬ (6 : Int) - a < b := by omega
    have hpr : prAt N = ((a : Int), ((a + b : Nat) : Int)) := by simp only [prAt, List.getD_eq_getElem?_getD, ← hab, prL_at ha (by omega : b < 7 - a), Option.getD_some]
    rw [hpr] at next
    simp [putP] at next
    have hio : i < out.length := by omega
    have hto2 : to < out.length := by omega
    simp [c_spec_MakePuzzle_L1, hb6', hio, hml, h]
    refine ⟨by omega, ?_⟩
    simp [c_spec_MakePuzzle_D, h, hw, ints_set]
    (repeat' first | omega | apply And.intro) <;>
    · refine call_on one ?_
      simp [o1, hml, ints_set]
      exact ⟨by omega, by omega, by omega, next⟩

end Go.Proofs.Dev

namespace Go.Proofs.Dev

-- 0 parameters, results [.t 0], 4 slots, modes []
@[simp] abbrev n_laws_alive : Nat := 9

def c_laws_alive : ACode := .seq (.reg [.o 0 .mv [.kb false]]) <| .seq (.reg [.o 1 (.call 31 []) [.k 2, .k 3], .o 2 (.call 30 []) [.t 1],
 .o 3 (.bin .eql 0) [.t 2, .k 6], .m 0 3]) <| .ret

theorem k_laws_alive : cFn Tryz.prog n_laws_alive 4 [.t 0] c_laws_alive := ⟨Tryz.f9, _, Tryz.func9, rfl, by kernel_rfl, by kernel_rfl, by kernel_rfl, by kernel_rfl⟩

-- 1 parameters, results [.t 2], 9 slots, modes [false]
@[simp] abbrev n_impl_CellsMany : Nat := 30

def c_impl_CellsMany : ACode := .seq (.reg [.o 1 .box [.t 0], .o 2 .mv [.k 0]]) <| .seq (.seq (.reg [.la 3 3 1, .o 4 (.call 49 []) [.t 3],
 .o 5 (.un .not) [.t 4]]) <| .cond (.t 5) ( .seq (.reg [.o 2 .mv [.k (-1)]]) <| .ret) ( .skip)) <| .seq (.reg [.f 6 2 1, .l 7 6, .o 8 (.call 50 []) [.t 7],
 .m 2 8]) <| .ret

theorem k_impl_CellsMany : cFn Tryz.prog n_impl_CellsMany 9 [.t 2] c_impl_CellsMany := ⟨Tryz.f30, _, Tryz.func30, rfl, by kernel_rfl, by kernel_rfl, by kernel_rfl, by kernel_rfl⟩

-- 2 parameters, results [.c 4 true 3], 37 slots, modes [false, false]
@[simp] abbrev n_impl_RegionBox : Nat := 31
def c_impl_RegionBox_L0 : ACode := .seq (.reg [.o 29 (.bin .lss 0) [.t 28, .t 27]]) <| .seq (.cond (.t 29) ( .skip) ( .exit 0)) <|
 .seq (.block 1 ( .seq (.reg [.m 30 28, .m 6 30]) <| .reg [.f 31 2 5, .l 32 31, .m 33 6, .o 34 (.iadr 1) [.t 32, .t 33], .s (.store 1) [.t 34, .kb true]])) <|
 .reg [.o 35 (.bin .add 0) [.t 28, .k 1], .m 28 35]

def c_impl_RegionBox : ACode := .seq (.reg [.o 4 (.alloc rz) []]) <| .seq (.seq (.reg [.m 7 0, .o 8 (.call 24 []) [.t 7, .k 1, .k 6], .o 9 (.un .not) [.t 8],
 .m 10 9, .mg 11 1 10 false, .g 12 (.call 24 []) [.t 11, .k 1, .k 6] 10 false, .g 13 (.un .not) [.t 12] 10 false, .o 14 .pick [.t 10, .kb true, .t 13], .m 15 14,
 .mg 16 0 15 false, .mg 17 1 15 false, .g 18 (.bin .mul 0) [.t 16, .t 17] 15 false, .g 19 (.bin .gtr 0) [.t 18, .k 24] 15 false, .o 20 .pick [.t 15, .kb true,
 .t 19]]) <| .cond (.t 20) ( .seq (.reg [.o 21 (.build rz []) [], .s (.store 3) [.t 4, .t 21]]) <| .ret) ( .skip)) <| .seq (.reg [.m 22 0, .m 23 1,
 .o 24 (.call 51 []) [.t 22, .t 23], .o 5 (.alloc rz) [], .s (.store 3) [.t 5, .t 24]]) <| .seq (.seq (.reg [.f 25 2 5, .l 26 25, .n 27 26, .o 28 .mv [.k 0]]) <|
 .block 0 ( .loop [] [4, 5, 27, 28] c_impl_RegionBox_L0)) <| .seq (.reg [.la 36 3 5, .s (.store 3) [.t 4, .t 36]]) <| .ret

theorem k_impl_RegionBox : cFn Tryz.prog n_impl_RegionBox 37 [.c 4 true 3] c_impl_RegionBox := ⟨Tryz.f31, _, Tryz.func31, rfl, by kernel_rfl, by kernel_rfl, by kernel_rfl, by kernel_rfl⟩

-- 2 parameters, results [.c 4 true 3], 12 slots, modes [false, false]
@[simp] abbrev n_impl_field : Nat := 51

def c_impl_field : ACode := .seq (.reg [.o 4 (.alloc rz) []]) <| .seq (.reg [.m 5 0, .m 6 1, .m 7 0, .m 8 1, .o 9 (.bin .mul 0) [.t 7, .t 8],
 .o 10 (.mksl 1 1 (.v (.bool false))) [.t 9, .t 9], .o 11 (.build rz [(0, 1), (1, 1), (2, 1)]) [.t 5, .t 6, .t 10], .s (.store 3) [.t 4, .t 11]]) <| .ret

theorem k_impl_field : cFn Tryz.prog n_impl_field 12 [.c 4 true 3] c_impl_field := ⟨Tryz.f51, _, Tryz.func51, rfl, by kernel_rfl, by kernel_rfl, by kernel_rfl, by kernel_rfl⟩

-- 1 parameters, results [.t 2], 11 slots, modes [false]
@[simp] abbrev n_spec_l20Open : Nat := 18

def c_spec_l20Open : ACode := .seq (.reg [.o 2 .mv [.c (.v (.pointer none))]]) <| .seq (.seq (.reg [.m 3 0, .n 4 3, .o 5 (.bin .gtr 0) [.t 4, .k 2000]]) <|
 .cond (.t 5) ( .reg [.m 6 0, .o 7 (.slice 1 false false true false) [.t 6, .k 2000], .m 0 7]) ( .skip)) <| .seq (.reg [.m 8 0, .o 9 (.build [.os 1 [],
 .v (.int .i64 (0))] [(0, 1)]) [.t 8], .o 10 .box [.t 9], .m 2 10]) <| .ret

theorem k_spec_l20Open : cFn Tryz.prog n_spec_l20Open 11 [.t 2] c_spec_l20Open := ⟨Tryz.f18, _, Tryz.func18, rfl, by kernel_rfl, by kernel_rfl, by kernel_rfl, by kernel_rfl⟩

-- 2 parameters, 99 slots
@[simp] abbrev n_spec_l20Rd_pick : Nat := 22
def c_spec_l20Rd_pick_E : BCode :=
(BCode.seq (BCode.base (ACode.reg [
  (AOper.mk (some 4) AK.mv [(Opd.c (AV.v (Go.Value.int Go.IntKind.i64 0)))] none)])) (BCode.seq (BCode.base (ACode.reg [
  (AOper.mk (some 7) AK.mv [(Opd.t 0)] none), 
  (AOper.mk (some 8) AK.mv [(Opd.t 0)] none), 
  (AOper.mk (some 9) AK.nilck [(Opd.t 8)] none), 
  (AOper.mk (some 10) (AK.fadr 1) [(Opd.t 9)] none), 
  (AOper.mk (some 11) (AK.load false 1) [(Opd.t 10)] none), 
  (AOper.mk (some 12) (AK.bin Go.BinOp.add 0) [(Opd.t 11), (Opd.c (AV.v (Go.Value.int Go.IntKind.i64 1)))] none), 
  (AOper.mk (some 13) AK.nilck [(Opd.t 7)] none), 
  (AOper.mk (some 14) (AK.fadr 1) [(Opd.t 13)] none), 
  (AOper.mk none (AK.store 1) [(Opd.t 14), (Opd.t 12)] none)])) (BCode.seq (BCode.base (ACode.seq (ACode.reg [
  (AOper.mk (some 15) AK.mv [(Opd.t 1)] none), 
  (AOper.mk (some 16) (AK.bin Go.BinOp.lss 0) [(Opd.t 15), (Opd.c (AV.v (Go.Value.int Go.IntKind.i64 1)))] none), 
  (AOper.mk (some 17) AK.mv [(Opd.t 16)] none), 
  (AOper.mk (some 18) AK.mv [(Opd.t 0)] (some (17, false))), 
  (AOper.mk (some 19) AK.nilck [(Opd.t 18)] (some (17, false))), 
  (AOper.mk (some 20) (AK.fadr 0) [(Opd.t 19)] (some (17, false))), 
  (AOper.mk (some 21) (AK.load false 1) [(Opd.t 20)] (some (17, false))), 
  (AOper.mk (some 22) (AK.len false) [(Opd.t 21)] (some (17, false))), 
  (AOper.mk (some 23) (AK.bin Go.BinOp.eql 0) [(Opd.t 22), (Opd.c (AV.v (Go.Value.int Go.IntKind.i64 0)))] (some (17, false))), 
  (AOper.mk (some 24) AK.pick [(Opd.t 17), (Opd.c (AV.v (Go.Value.bool true))), (Opd.t 23)] none)]) (ACode.cond (Opd.t 24) (ACode.seq (ACode.reg [
  (AOper.mk (some 4) AK.mv [(Opd.c (AV.v (Go.Value.int Go.IntKind.i64 0)))] none)]) ACode.ret) ACode.skip))) (BCode.seq (BCode.base (ACode.reg [
  (AOper.mk (some 25) AK.mv [(Opd.t 0)] none), 
  (AOper.mk (some 26) AK.nilck [(Opd.t 25)] none), 
  (AOper.mk (some 27) (AK.fadr 1) [(Opd.t 26)] none), 
  (AOper.mk (some 28) (AK.load false 1) [(Opd.t 27)] none), 
  (AOper.mk (some 29) (AK.bin Go.BinOp.sub 0) [(Opd.t 28), (Opd.c (AV.v (Go.Value.int Go.IntKind.i64 1)))] none), 
  (AOper.mk (some 5) AK.mv [(Opd.t 29)] none)])) (BCode.seq (BCode.base (ACode.seq (ACode.reg [
  (AOper.mk (some 30) AK.mv [(Opd.t 5)] none), 
  (AOper.mk (some 31) AK.mv [(Opd.t 0)] none), 
  (AOper.mk (some 32) AK.nilck [(Opd.t 31)] none), 
  (AOper.mk (some 33) (AK.fadr 0) [(Opd.t 32)] none), 
  (AOper.mk (some 34) (AK.load false 1) [(Opd.t 33)] none), 
  (AOper.mk (some 35) (AK.len false) [(Opd.t 34)] none), 
  (AOper.mk (some 36) (AK.bin Go.BinOp.lss 0) [(Opd.t 30), (Opd.t 35)] none)]) (ACode.cond (Opd.t 36) (ACode.seq (ACode.reg [
  (AOper.mk (some 37) AK.mv [(Opd.t 0)] none), 
  (AOper.mk (some 38) AK.nilck [(Opd.t 37)] none), 
  (AOper.mk (some 39) (AK.fadr 0) [(Opd.t 38)] none), 
  (AOper.mk (some 40) (AK.load false 1) [(Opd.t 39)] none), 
  (AOper.mk (some 41) AK.mv [(Opd.t 5)] none), 
  (AOper.mk (some 42) (AK.iadr 1) [(Opd.t 40), (Opd.t 41)] none), 
  (AOper.mk (some 43) (AK.load false 1) [(Opd.t 42)] none), 
  (AOper.mk (some 44) (AK.conv Go.IntKind.i64) [(Opd.t 43)] none), 
  (AOper.mk (some 45) AK.mv [(Opd.t 1)] none), 
  (AOper.mk (some 46) (AK.bin Go.BinOp.rem 0) [(Opd.t 44), (Opd.t 45)] none), 
  (AOper.mk (some 4) AK.mv [(Opd.t 46)] none)]) ACode.ret) ACode.skip))) (BCode.seq (BCode.pure [
  (AOper.mk (some 47) AK.mv [(Opd.t 0)] none), 
  (AOper.mk (some 48) AK.nilck [(Opd.t 47)] none), 
  (AOper.mk (some 49) (AK.fadr 0) [(Opd.t 48)] none), 
  (AOper.mk (some 50) (AK.load false 1) [(Opd.t 49)] none), 
  (AOper.mk (some 51) AK.mv [(Opd.t 5)] none), 
  (AOper.mk (some 52) AK.mv [(Opd.t 0)] none), 
  (AOper.mk (some 53) AK.nilck [(Opd.t 52)] none), 
  (AOper.mk (some 54) (AK.fadr 0) [(Opd.t 53)] none), 
  (AOper.mk (some 55) (AK.load false 1) [(Opd.t 54)] none), 
  (AOper.mk (some 56) (AK.len false) [(Opd.t 55)] none), 
  (AOper.mk (some 57) (AK.bin Go.BinOp.rem 0) [(Opd.t 51), (Opd.t 56)] none), 
  (AOper.mk (some 58) (AK.iadr 1) [(Opd.t 50), (Opd.t 57)] none), 
  (AOper.mk (some 59) (AK.load false 1) [(Opd.t 58)] none), 
  (AOper.mk (some 60) (AK.conv Go.IntKind.i64) [(Opd.t 59)] none), 
  (AOper.mk (some 61) (AK.bin Go.BinOp.mul 0) [(Opd.t 60), (Opd.c (AV.v (Go.Value.int Go.IntKind.i64 131)))] none), 
  (AOper.mk (some 62) AK.mv [(Opd.t 0)] none), 
  (AOper.mk (some 63) AK.nilck [(Opd.t 62)] none), 
  (AOper.mk (some 64) (AK.fadr 0) [(Opd.t 63)] none), 
  (AOper.mk (some 65) (AK.load false 1) [(Opd.t 64)] none), 
  (AOper.mk (some 66) AK.mv [(Opd.t 5)] none), 
  (AOper.mk (some 67) (AK.bin Go.BinOp.mul 0) [(Opd.t 66), (Opd.c (AV.v (Go.Value.int Go.IntKind.i64 7)))] none), 
  (AOper.mk (some 68) (AK.bin Go.BinOp.add 0) [(Opd.t 67), (Opd.c (AV.v (Go.Value.int Go.IntKind.i64 3)))] none), 
  (AOper.mk (some 69) AK.mv [(Opd.t 0)] none), 
  (AOper.mk (some 70) AK.nilck [(Opd.t 69)] none), 
  (AOper.mk (some 71) (AK.fadr 0) [(Opd.t 70)] none), 
  (AOper.mk (some 72) (AK.load false 1) [(Opd.t 71)] none), 
  (AOper.mk (some 73) (AK.len false) [(Opd.t 72)] none), 
  (AOper.mk (some 74) (AK.bin Go.BinOp.rem 0) [(Opd.t 68), (Opd.t 73)] none), 
  (AOper.mk (some 75) (AK.iadr 1) [(Opd.t 65), (Opd.t 74)] none), 
  (AOper.mk (some 76) (AK.load false 1) [(Opd.t 75)] none), 
  (AOper.mk (some 77) (AK.conv Go.IntKind.i64) [(Opd.t 76)] none), 
  (AOper.mk (some 78) (AK.bin Go.BinOp.mul 0) [(Opd.t 77), (Opd.c (AV.v (Go.Value.int Go.IntKind.i64 1117)))] none), 
  (AOper.mk (some 79) (AK.bin Go.BinOp.add 0) [(Opd.t 61), (Opd.t 78)] none), 
  (AOper.mk (some 80) AK.mv [(Opd.t 5)] none), 
  (AOper.mk (some 81) (AK.bin Go.BinOp.mul 0) [(Opd.t 80), (Opd.c (AV.v (Go.Value.int Go.IntKind.i64 29)))] none), 
  (AOper.mk (some 82) (AK.bin Go.BinOp.add 0) [(Opd.t 79), (Opd.t 81)] none), 
  (AOper.mk (some 83) AK.mv [(Opd.t 5)] none), 
  (AOper.mk (some 84) AK.mv [(Opd.t 0)] none), 
  (AOper.mk (some 85) AK.nilck [(Opd.t 84)] none), 
  (AOper.mk (some 86) (AK.fadr 0) [(Opd.t 85)] none), 
  (AOper.mk (some 87) (AK.load false 1) [(Opd.t 86)] none), 
  (AOper.mk (some 88) (AK.len false) [(Opd.t 87)] none), 
  (AOper.mk (some 89) (AK.bin Go.BinOp.quo 0) [(Opd.t 83), (Opd.t 88)] none), 
  (AOper.mk (some 90) (AK.bin Go.BinOp.mul 0) [(Opd.t 89), (Opd.c (AV.v (Go.Value.int Go.IntKind.i64 53)))] none), 
  (AOper.mk (some 91) (AK.bin Go.BinOp.add 0) [(Opd.t 82), (Opd.t 90)] none), 
  (AOper.mk (some 6) AK.mv [(Opd.t 91)] none)]) (BCode.base (ACode.seq (ACode.reg [
  (AOper.mk (some 92) AK.mv [(Opd.t 6)] none), 
  (AOper.mk (some 93) AK.mv [(Opd.t 6)] none), 
  (AOper.mk (some 94) (AK.bin Go.BinOp.quo 0) [(Opd.t 93), (Opd.c (AV.v (Go.Value.int Go.IntKind.i64 64)))] none), 
  (AOper.mk (some 95) (AK.bin Go.BinOp.xor 0) [(Opd.t 92), (Opd.t 94)] none), 
  (AOper.mk (some 6) AK.mv [(Opd.t 95)] none)]) (ACode.seq (ACode.reg [
  (AOper.mk (some 96) AK.mv [(Opd.t 6)] none), 
  (AOper.mk (some 97) AK.mv [(Opd.t 1)] none), 
  (AOper.mk (some 98) (AK.bin Go.BinOp.rem 0) [(Opd.t 96), (Opd.t 97)] none), 
  (AOper.mk (some 4) AK.mv [(Opd.t 98)] none)]) ACode.ret)))))))))

theorem k_spec_l20Rd_pick : cFnB Tryz.prog n_spec_l20Rd_pick 99 [(RV.t 4)] c_spec_l20Rd_pick_E := ⟨Tryz.f22, _, Tryz.func22, rfl, by kernel_rfl, by kernel_rfl, by kernel_rfl, by kernel_rfl⟩

-- 2 parameters, results [.t 4], 15 slots, modes [true, false]
@[simp] abbrev n_spec_l20Rd_odd : Nat := 21

def c_spec_l20Rd_odd : ACode := .seq (.reg [.o 4 .mv [.kb false]]) <| .seq (.reg [.m 5 1, .o 6 (.bin .gtr 0) [.t 5, .k 0], .m 7 6, .mg 8 0 7 true,
 .mg 9 1 7 true, .g 10 (.call 22 []) [.t 8, .t 9] 7 true, .mg 11 1 7 true, .g 12 (.bin .sub 0) [.t 11, .k 1] 7 true, .g 13 (.bin .eql 0) [.t 10, .t 12] 7 true,
 .o 14 .pick [.t 7, .t 13, .kb false], .m 4 14]) <| .ret

theorem k_spec_l20Rd_odd : cFn Tryz.prog n_spec_l20Rd_odd 15 [.t 4] c_spec_l20Rd_odd := ⟨Tryz.f21, _, Tryz.func21, rfl, by kernel_rfl, by kernel_rfl, by kernel_rfl, by kernel_rfl⟩

-- 3 parameters, results [.t 6, .t 7], 44 slots, modes [false, false, false]
@[simp] abbrev n_spec_LiftOne : Nat := 70
def c_spec_LiftOne_T0 : ACode := .seq (.reg [.m 40 8, .m 41 2, .o 42 (.iadr 1) [.t 40, .t 41], .s (.store 1) [.t 42, .k 0]]) <| .seq (.reg [.m 43 8, .m 6 43,
 .o 7 .mv [.kb true]]) <| .ret

abbrev c_spec_LiftOne_p0 : Plan := .al (.o 38 (.call 95 []) [.t 32, .t 33, .t 37]) ( .take (.o 39 (.iadr 1) [.t 31, .t 38]) <| .al (.s (.store 1) [.t 39, .k 0]) ( .done))
def c_spec_LiftOne : ACode := .seq (.reg [.o 3 .box [.t 0], .o 6 .mv [.c (.os 1 [])], .o 7 .mv [.kb false]]) <| .seq (.seq (.reg [.la 9 3 3, .m 10 1,
 .o 11 (.call 97 []) [.t 9, .t 10], .o 12 (.un .not) [.t 11]]) <| .cond (.t 12) ( .seq (.reg [.o 13 (.bsl 1) [], .m 6 13, .o 7 .mv [.kb false]]) <|
 .ret) ( .skip)) <| .seq (.reg [.o 14 (.bsl 1) [], .m 15 1, .o 16 (.app 1 8 true) [.t 14, .t 15], .m 8 16]) <| .seq (.seq (.reg [.m 17 2, .m 18 1, .n 19 18,
 .o 20 (.bin .sub 0) [.t 19, .k 1], .o 21 (.call 27 []) [.t 17, .k 0, .t 20], .o 22 (.un .not) [.t 21], .m 23 22, .mg 24 1 23 false, .mg 25 2 23 false,
 .g 26 (.iadr 1) [.t 24, .t 25] 23 false, .lg 27 26 23 false, .g 28 (.bin .eql 0) [.t 27, .k 0] 23 false, .o 29 .pick [.t 23, .kb true, .t 28]]) <|
 .cond (.t 29) ( .seq (.reg [.m 30 8, .m 6 30, .o 7 .mv [.kb false]]) <| .ret) ( .skip)) <| .seq (.draw ( .take (.m 31 8) <| .take (.m 33 2) <|
 .take (.m 34 1) <| .take (.m 35 2) <| .take (.o 36 (.iadr 1) [.t 34, .t 35]) <| .alt (.la 32 3 3) ( .al (.l 37 36) c_spec_LiftOne_p0) <|
 .al (.l 37 36) ( .al (.la 32 3 3) c_spec_LiftOne_p0))) <| .gc [] [2, 8] c_spec_LiftOne_T0

theorem k_spec_LiftOne : cFn Tryz.prog n_spec_LiftOne 44 [.t 6, .t 7] c_spec_LiftOne := ⟨Tryz.f70, _, Tryz.func70, rfl, by kernel_rfl, by kernel_rfl, by kernel_rfl, by kernel_rfl⟩

-- 2 parameters, results [.c 4 true 3], 38 slots, modes [false, false]
@[simp] abbrev n_spec_RegionBox : Nat := 92
def c_spec_RegionBox_L0 : ACode := .seq (.seq (.reg [.m 25 6, .m 26 0, .m 27 1, .o 28 (.bin .mul 0) [.t 26, .t 27], .o 29 (.bin .lss 0) [.t 25, .t 28]]) <|
 .cond (.t 29) ( .skip) ( .exit 0)) <| .seq (.block 1 ( .reg [.f 32 2 5, .l 33 32, .o 34 (.bsl 1) [.kb true], .o 35 (.app 1 1 true) [.t 33, .t 34], .f 36 2 5,
 .s (.store 1) [.t 36, .t 35]])) <| .reg [.m 30 6, .o 31 (.bin .add 0) [.t 30, .k 1], .m 6 31]

def c_spec_RegionBox : ACode := .seq (.reg [.o 4 (.alloc rz) []]) <| .seq (.seq (.reg [.m 7 0, .o 8 (.call 27 []) [.t 7, .k 1, .k 6], .o 9 (.un .not) [.t 8],
 .m 10 9, .mg 11 1 10 false, .g 12 (.call 27 []) [.t 11, .k 1, .k 6] 10 false, .g 13 (.un .not) [.t 12] 10 false, .o 14 .pick [.t 10, .kb true, .t 13], .m 15 14,
 .mg 16 0 15 false, .mg 17 1 15 false, .g 18 (.bin .mul 0) [.t 16, .t 17] 15 false, .g 19 (.bin .gtr 0) [.t 18, .k 24] 15 false, .o 20 .pick [.t 15, .kb true,
 .t 19]]) <| .cond (.t 20) ( .seq (.reg [.o 21 (.build rz []) [], .s (.store 3) [.t 4, .t 21]]) <| .ret) ( .skip)) <| .seq (.reg [.m 22 0, .m 23 1,
 .o 24 (.build rz [(0, 1), (1, 1)]) [.t 22, .t 23], .o 5 (.alloc rz) [], .s (.store 3) [.t 5, .t 24]]) <| .seq (.seq (.reg [.o 6 .mv [.k 0]]) <|
 .block 0 ( .loop [] [0, 1, 4, 5, 6] c_spec_RegionBox_L0)) <| .seq (.reg [.la 37 3 5, .s (.store 3) [.t 4, .t 37]]) <| .ret

theorem k_spec_RegionBox : cFn Tryz.prog n_spec_RegionBox 38 [.c 4 true 3] c_spec_RegionBox := ⟨Tryz.f92, _, Tryz.func92, rfl, by kernel_rfl, by kernel_rfl, by kernel_rfl, by kernel_rfl⟩

-- 1 parameters, results [.t 2], 184 slots, modes [false]
@[simp] abbrev n_spec_TilingsMany : Nat := 63
abbrev c_spec_TilingsMany_L0_p0 : Plan := .take (.g 134 (.bin .neq 0) [.t 129, .t 133] 125 true) <| .take (.o 135 .pick [.t 125, .t 134, .kb false]) <| .done
def c_spec_TilingsMany_L0 : ACode := .seq (.seq (.draw ( .take (.m 121 15) <| .take (.m 122 6) <| .take (.n 123 122) <| .take (.o 124 (.bin .lss 0) [.t 121,
 .t 123]) <| .take (.m 125 124) <| .take (.mg 126 6 125 true) <| .take (.mg 127 15 125 true) <| .take (.g 128 (.iadr 1) [.t 126, .t 127] 125 true) <|
 .take (.mg 130 11 125 true) <| .take (.mg 131 14 125 true) <| .take (.g 132 (.iadr 1) [.t 130, .t 131] 125 true) <|
 .alt (.lg 129 128 125 true) ( .al (.lg 133 132 125 true) c_spec_TilingsMany_L0_p0) <| .al (.lg 133 132 125 true) ( .al (.lg 129 128 125 true) c_spec_TilingsMany_L0_p0))) <| .cond (.t 135) ( .skip) ( .exit 7)) <| .block 8 ( .reg [.m 136 15,
 .o 137 (.bin .add 0) [.t 136, .k 1], .m 15 137])

abbrev c_spec_TilingsMany_L1_p0 : Plan := .take (.o 162 (.bin .add 0) [.t 157, .t 161]) <| .take (.o 163 (.iadr 1) [.t 152, .t 153]) <| .al (.s (.store 1) [.t 163, .t 162]) ( .done)
def c_spec_TilingsMany_L1 : ACode := .seq (.seq (.reg [.m 115 14, .m 116 11, .n 117 116, .o 118 (.bin .lss 0) [.t 115, .t 117]]) <|
 .cond (.t 118) ( .skip) ( .exit 5)) <| .seq (.block 6 ( .seq (.reg [.o 15 .mv [.k 0]]) <| .seq (.block 7 ( .loop [(3, 1), (4, 1), (6, 1), (7, 1), (11, 1)] [1,
 3, 4, 5, 6, 7, 8, 11, 14, 15] c_spec_TilingsMany_L0)) <| .seq (.seq (.reg [.m 138 15, .m 139 6, .n 140 139, .o 141 (.bin .eql 0) [.t 138, .t 140]]) <|
 .cond (.t 141) ( .seq (.reg [.m 142 6, .m 143 11, .m 144 14, .o 145 (.iadr 1) [.t 143, .t 144], .l 146 145, .o 147 (.bsl 1) [.t 146],
 .o 148 (.app 1 8 true) [.t 142, .t 147], .m 6 148]) <| .reg [.m 149 7, .o 150 (.bsl 1) [.k 0], .o 151 (.app 1 8 true) [.t 149, .t 150], .m 7 151]) ( .skip)) <|
 .draw ( .take (.m 152 7) <| .take (.m 153 15) <| .take (.m 154 7) <| .take (.m 155 15) <| .take (.o 156 (.iadr 1) [.t 154, .t 155]) <| .take (.m 158 4) <|
 .take (.m 159 8) <| .take (.o 160 (.iadr 1) [.t 158, .t 159]) <| .alt (.l 157 156) ( .al (.l 161 160) c_spec_TilingsMany_L1_p0) <|
 .al (.l 161 160) ( .al (.l 157 156) c_spec_TilingsMany_L1_p0)))) <| .reg [.m 119 14, .o 120 (.bin .add 0) [.t 119, .k 1], .m 14 120]

def c_spec_TilingsMany_L2 : ACode := .seq (.seq (.reg [.m 32 8, .m 33 3, .n 34 33, .o 35 (.bin .lss 0) [.t 32, .t 34]]) <| .cond (.t 35) ( .skip) ( .exit 2)) <|
 .seq (.block 3 ( .seq (.reg [.m 38 3, .m 39 8, .o 40 (.iadr 1) [.t 38, .t 39], .l 41 40, .m 9 41]) <| .seq (.reg [.m 42 9, .o 43 (.bin .rem 0) [.t 42, .k 2],
 .o 44 (.bin .eql 0) [.t 43, .k 1], .m 10 44]) <| .seq (.reg [.o 45 (.bsl 1) [], .m 11 45]) <| .seq (.block 4 ( .seq (.reg [.m 101 10, .m 102 101,
 .fg 103 2 1 102 false, .lg 104 103 102 false, .mg 105 5 102 false, .g 106 (.iadr 1) [.t 104, .t 105] 102 false, .lg 107 106 102 false,
 .g 108 (.un .not) [.t 107] 102 false, .o 109 .pick [.t 102, .kb true, .t 108], .m 100 109]) <| .cond (.t 100) ( .reg [.m 110 11, .m 111 9,
 .o 112 (.bin .quo 0) [.t 111, .k 2], .o 113 (.bsl 1) [.t 112], .o 114 (.app 1 8 true) [.t 110, .t 113], .m 11 114]) ( .seq (.reg [.la 46 3 1, .m 47 5,
 .o 48 (.call 95 []) [.t 46, .t 47, .k 1], .m 12 48]) <| .seq (.reg [.la 49 3 1, .m 50 5, .o 51 (.call 95 []) [.t 49, .t 50, .k 2], .m 13 51]) <|
 .seq (.seq (.reg [.m 52 12, .o 53 (.bin .geq 0) [.t 52, .k 0], .m 54 53, .fg 55 2 1 54 true, .lg 56 55 54 true, .mg 57 12 54 true, .g 58 (.iadr 1) [.t 56,
 .t 57] 54 true, .lg 59 58 54 true, .o 60 .pick [.t 54, .t 59, .kb false], .m 61 60, .mg 62 9 61 true, .g 63 (.bin .quo 0) [.t 62, .k 2] 61 true,
 .g 64 (.bin .rem 0) [.t 63, .k 2] 61 true, .g 65 (.bin .eql 0) [.t 64, .k 0] 61 true, .o 66 .pick [.t 61, .t 65, .kb false]]) <| .cond (.t 66) ( .reg [.m 67 11,
 .m 68 9, .o 69 (.bin .quo 0) [.t 68, .k 2], .o 70 (.bin .add 0) [.t 69, .k 1], .o 71 (.bsl 1) [.t 70], .o 72 (.app 1 8 true) [.t 67, .t 71],
 .m 11 72]) ( .skip)) <| .seq (.reg [.m 73 13, .o 74 (.bin .geq 0) [.t 73, .k 0], .m 75 74, .fg 76 2 1 75 true, .lg 77 76 75 true, .mg 78 13 75 true,
 .g 79 (.iadr 1) [.t 77, .t 78] 75 true, .lg 80 79 75 true, .o 81 .pick [.t 75, .t 80, .kb false], .m 82 81, .mg 83 9 82 true, .fg 84 0 1 82 true,
 .lg 85 84 82 true, .g 86 (.bin .shr 0) [.t 83, .t 85] 82 true, .g 87 (.bin .rem 0) [.t 86, .k 2] 82 true, .g 88 (.bin .eql 0) [.t 87, .k 0] 82 true,
 .o 89 .pick [.t 82, .t 88, .kb false]]) <| .cond (.t 89) ( .reg [.m 90 11, .m 91 9, .o 92 (.bin .quo 0) [.t 91, .k 2], .f 93 0 1, .l 94 93,
 .o 95 (.bin .sub 0) [.t 94, .k 1], .o 96 (.bin .shl 0) [.k 1, .t 95], .o 97 (.bin .add 0) [.t 92, .t 96], .o 98 (.bsl 1) [.t 97], .o 99 (.app 1 8 true) [.t 90,
 .t 98], .m 11 99]) ( .skip)))) <| .seq (.reg [.o 14 .mv [.k 0]]) <| .block 5 ( .loop [(3, 1), (4, 1), (6, 1), (7, 1), (11, 1)] [1, 3, 4, 5, 6, 7, 8, 11,
 14] c_spec_TilingsMany_L1))) <| .reg [.m 36 8, .o 37 (.bin .add 0) [.t 36, .k 1], .m 8 37]

def c_spec_TilingsMany_L3 : ACode := .seq (.seq (.reg [.m 23 5, .f 24 2 1, .l 25 24, .n 26 25, .o 27 (.bin .lss 0) [.t 23, .t 26]]) <|
 .cond (.t 27) ( .skip) ( .exit 0)) <| .seq (.block 1 ( .seq (.reg [.o 30 (.bsl 1) [], .m 6 30]) <| .seq (.reg [.o 31 (.bsl 1) [], .m 7 31]) <|
 .seq (.seq (.reg [.o 8 .mv [.k 0]]) <| .block 2 ( .loop [(3, 1), (4, 1), (6, 1), (7, 1)] [1, 3, 4, 5, 6, 7, 8] c_spec_TilingsMany_L2)) <| .seq (.reg [.m 164 6,
 .m 3 164]) <| .reg [.m 165 7, .m 4 165])) <| .reg [.m 28 5, .o 29 (.bin .add 0) [.t 28, .k 1], .m 5 29]

def c_spec_TilingsMany_L4 : ACode := .seq (.seq (.reg [.m 166 17, .m 167 3, .n 168 167, .o 169 (.bin .lss 0) [.t 166, .t 168]]) <|
 .cond (.t 169) ( .skip) ( .exit 9)) <| .seq (.block 10 ( .seq (.reg [.m 172 3, .m 173 17, .o 174 (.iadr 1) [.t 172, .t 173], .l 175 174,
 .o 176 (.bin .eql 0) [.t 175, .k 0]]) <| .cond (.t 176) ( .reg [.m 177 16, .m 178 4, .m 179 17, .o 180 (.iadr 1) [.t 178, .t 179], .l 181 180,
 .o 182 (.bin .add 0) [.t 177, .t 181], .m 16 182]) ( .skip))) <| .reg [.m 170 17, .o 171 (.bin .add 0) [.t 170, .k 1], .m 17 171]

def c_spec_TilingsMany : ACode := .seq (.reg [.o 1 .box [.t 0], .o 2 .mv [.k 0]]) <| .seq (.seq (.reg [.la 18 3 1, .o 19 (.call 89 []) [.t 18],
 .o 20 (.un .not) [.t 19]]) <| .cond (.t 20) ( .seq (.reg [.o 2 .mv [.k (-1)]]) <| .ret) ( .skip)) <| .seq (.reg [.o 21 (.bsl 1) [.k 0], .m 3 21]) <|
 .seq (.reg [.o 22 (.bsl 1) [.k 1], .m 4 22]) <| .seq (.seq (.reg [.o 5 .mv [.k 0]]) <| .block 0 ( .loop [(3, 1), (4, 1)] [1, 3, 4, 5] c_spec_TilingsMany_L3)) <|
 .seq (.reg [.o 16 .mv [.k 0]]) <| .seq (.seq (.reg [.o 17 .mv [.k 0]]) <| .block 9 ( .loop [(3, 1), (4, 1)] [3, 4, 16, 17] c_spec_TilingsMany_L4)) <|
 .seq (.reg [.m 183 16, .m 2 183]) <| .ret

theorem k_spec_TilingsMany : cFn Tryz.prog n_spec_TilingsMany 184 [.t 2] c_spec_TilingsMany := ⟨Tryz.f63, _, Tryz.func63, rfl, by kernel_rfl, by kernel_rfl, by kernel_rfl, by kernel_rfl⟩

-- 2 parameters, results [.c 4 true 3], 30 slots, modes [false, false]
@[simp] abbrev n_spec_l3Less : Nat := 119
abbrev c_spec_l3Less_L0_p0 : Plan := .take (.o 28 (.iadr 1) [.t 23, .t 27]) <| .al (.s (.store 1) [.t 28, .kb false]) ( .done)
def c_spec_l3Less_L0 : ACode := .seq (.seq (.reg [.m 16 6, .m 17 1, .n 18 17, .o 19 (.bin .lss 0) [.t 16, .t 18]]) <| .cond (.t 19) ( .skip) ( .exit 0)) <|
 .seq (.block 1 ( .draw ( .take (.f 22 2 5) <| .take (.m 24 1) <| .take (.m 25 6) <| .take (.o 26 (.iadr 1) [.t 24, .t 25]) <|
 .alt (.l 23 22) ( .al (.l 27 26) c_spec_l3Less_L0_p0) <|
 .al (.l 27 26) ( .al (.l 23 22) c_spec_l3Less_L0_p0)))) <| .reg [.m 20 6,
 .o 21 (.bin .add 0) [.t 20, .k 1], .m 6 21]

def c_spec_l3Less_T1 : ACode := .seq (.seq (.reg [.o 6 .mv [.k 0]]) <| .block 0 ( .loop [(1, 1)] [1, 4, 5, 6] c_spec_l3Less_L0)) <| .seq (.reg [.la 29 3 5,
 .s (.store 3) [.t 4, .t 29]]) <| .ret

def c_spec_l3Less_E : BCode := .seq (.base (.reg [.o 2 .box [.t 0], .o 4 (.alloc rz) []])) <| .frz 2 <|
 .seq (BCode.early [ (AOper.mk (some 7) (AK.fadr 0) [(Opd.t 2)] none),  (AOper.mk (some 8) (AK.load false 1) [(Opd.t 7)] none),
  (AOper.mk (some 9) (AK.fadr 1) [(Opd.t 2)] none),  (AOper.mk (some 10) (AK.load false 1) [(Opd.t 9)] none),  (AOper.mk (some 12) (AK.fadr 2) [(Opd.t 2)] none),
  (AOper.mk (some 13) (AK.load false 1) [(Opd.t 12)] none)]  (Plan.alt  (AOper.mk (some 11) (AK.bsl 1) [] none)  (Plan.alt  (AOper.mk (some 14) (AK.app 1 1 true) [(Opd.t 11),
 (Opd.t 13)] none) (Plan.take  (AOper.mk (some 15) (AK.build [(AV.v (Go.Value.int Go.IntKind.i64 0)), (AV.v (Go.Value.int Go.IntKind.i64 0)), (AV.os 1 [])] [(0,
 1), (1, 1), (2, 1)]) [(Opd.t 8), (Opd.t 10), (Opd.t 14)] none)  (Plan.alt  (AOper.mk (some 5) (AK.alloc [(AV.v (Go.Value.int Go.IntKind.i64 0)),
 (AV.v (Go.Value.int Go.IntKind.i64 0)), (AV.os 1 [])]) [] none)  (Plan.alt  (AOper.mk none (AK.store 3) [(Opd.t 5),
 (Opd.t 15)] none) Plan.done Plan.stop) Plan.stop))  (Plan.alt  (AOper.mk (some 5) (AK.alloc [(AV.v (Go.Value.int Go.IntKind.i64 0)),
 (AV.v (Go.Value.int Go.IntKind.i64 0)), (AV.os 1 [])]) [] none)  (Plan.alt  (AOper.mk (some 14) (AK.app 1 1 true) [(Opd.t 11),
 (Opd.t 13)] none) (Plan.take  (AOper.mk (some 15) (AK.build [(AV.v (Go.Value.int Go.IntKind.i64 0)), (AV.v (Go.Value.int Go.IntKind.i64 0)), (AV.os 1 [])] [(0,
 1), (1, 1), (2, 1)]) [(Opd.t 8), (Opd.t 10), (Opd.t 14)] none)  (Plan.alt  (AOper.mk none (AK.store 3) [(Opd.t 5),
 (Opd.t 15)] none) Plan.done Plan.stop)) Plan.stop) Plan.stop))  (Plan.alt  (AOper.mk (some 5) (AK.alloc [(AV.v (Go.Value.int Go.IntKind.i64 0)),
 (AV.v (Go.Value.int Go.IntKind.i64 0)),
 (AV.os 1 [])]) [] none)  (Plan.alt  (AOper.mk (some 11) (AK.bsl 1) [] none)  (Plan.alt  (AOper.mk (some 14) (AK.app 1 1 true) [(Opd.t 11),
 (Opd.t 13)] none) (Plan.take  (AOper.mk (some 15) (AK.build [(AV.v (Go.Value.int Go.IntKind.i64 0)), (AV.v (Go.Value.int Go.IntKind.i64 0)), (AV.os 1 [])] [(0,
 1), (1, 1), (2, 1)]) [(Opd.t 8), (Opd.t 10), (Opd.t 14)] none)  (Plan.alt  (AOper.mk none (AK.store 3) [(Opd.t 5),
 (Opd.t 15)] none) Plan.done Plan.stop)) Plan.stop) Plan.stop) Plan.stop))) <| .base (.gc [] [1, 4, 5] c_spec_l3Less_T1)

theorem k_spec_l3Less : cFnB Tryz.prog n_spec_l3Less 30 [.c 4 true 3] c_spec_l3Less_E := ⟨Tryz.f119, _, Tryz.func119, rfl, by kernel_rfl, by kernel_rfl, by kernel_rfl, by kernel_rfl⟩

-- 2 parameters, results [.t 4], 27 slots, modes [false, false]
@[simp] abbrev n_spec_l3With : Nat := 94
def c_spec_l3With_L0 : ACode := .seq (.seq (.reg [.m 8 6, .m 9 1, .n 10 9, .o 11 (.bin .lss 0) [.t 8, .t 10]]) <| .cond (.t 11) ( .skip) ( .exit 0)) <|
 .seq (.block 1 ( .seq (.reg [.m 14 1, .m 15 6, .o 16 (.iadr 1) [.t 14, .t 15], .l 17 16, .o 18 (.bin .neq 0) [.t 17, .k 0]]) <| .cond (.t 18) ( .reg [.m 19 5,
 .m 20 6, .o 21 (.bsl 1) [.t 20], .o 22 (.app 1 8 true) [.t 19, .t 21], .m 5 22]) ( .skip))) <| .reg [.m 12 6, .o 13 (.bin .add 0) [.t 12, .k 1], .m 6 13]

def c_spec_l3With : ACode := .seq (.reg [.o 2 .box [.t 0], .o 4 .mv [.k 0]]) <| .seq (.reg [.o 7 (.bsl 1) [], .m 5 7]) <| .seq (.seq (.reg [.o 6 .mv [.k 0]]) <|
 .block 0 ( .loop [(1, 1), (5, 1)] [1, 2, 5, 6] c_spec_l3With_L0)) <| .seq (.reg [.la 23 3 2, .m 24 5, .o 25 (.call 119 []) [.t 23, .t 24],
 .o 26 (.call 63 []) [.t 25], .m 4 26]) <| .ret

theorem k_spec_l3With : cFn Tryz.prog n_spec_l3With 27 [.t 4] c_spec_l3With := ⟨Tryz.f94, _, Tryz.func94, rfl, by kernel_rfl, by kernel_rfl, by kernel_rfl, by kernel_rfl⟩

-- 2 parameters, results [.t 4, .t 5], 62 slots, modes [false, false]
@[simp] abbrev n_spec_TilingOf : Nat := 62
def c_spec_TilingOf_L0 : ACode := .seq (.seq (.reg [.m 30 7, .o 31 (.bin .geq 0) [.t 30, .k 0]]) <| .cond (.t 31) ( .skip) ( .exit 0)) <|
 .seq (.block 1 ( .seq (.reg [.la 36 3 2, .m 37 6, .m 38 7, .o 39 (.call 69 []) [.t 36, .t 37, .t 38, .k 1], .m 35 39, .e 40 0 35, .e 41 1 35, .m 8 40,
 .m 9 41]) <| .seq (.reg [.o 10 .mv [.k 0]]) <| .seq (.seq (.reg [.m 42 9]) <| .cond (.t 42) ( .reg [.la 43 3 2, .m 44 8, .o 45 (.call 94 []) [.t 43, .t 44],
 .m 10 45]) ( .skip)) <| .seq (.seq (.reg [.m 46 1, .m 47 10, .o 48 (.bin .geq 0) [.t 46, .t 47]]) <| .cond (.t 48) ( .seq (.reg [.m 49 1, .m 50 10,
 .o 51 (.bin .sub 0) [.t 49, .t 50], .m 1 51]) <| .seq (.reg [.la 53 3 2, .m 54 6, .m 55 7, .o 56 (.call 69 []) [.t 53, .t 54, .t 55, .k 2], .m 52 56,
 .e 57 0 52, .e 58 1 52, .m 11 57, .m 12 58]) <| .reg [.m 59 11, .m 8 59]) ( .skip)) <| .reg [.m 60 8, .m 6 60])) <| .reg [.la 32 3 2, .m 33 6,
 .o 34 (.call 93 []) [.t 32, .t 33], .m 7 34]

def c_spec_TilingOf : ACode := .seq (.reg [.o 2 .box [.t 0], .o 4 .mv [.c (.os 1 [])], .o 5 .mv [.kb false]]) <| .seq (.seq (.reg [.la 13 3 2,
 .o 14 (.call 89 []) [.t 13], .o 15 (.un .not) [.t 14], .m 16 15, .mg 17 1 16 false, .g 18 (.load true 3) [.t 2] 16 false, .g 19 (.call 63 []) [.t 18] 16 false,
 .g 20 (.bin .sub 0) [.t 19, .k 1] 16 false, .g 21 (.call 27 []) [.t 17, .k 0, .t 20] 16 false, .g 22 (.un .not) [.t 21] 16 false, .o 23 .pick [.t 16, .kb true,
 .t 22]]) <| .cond (.t 23) ( .seq (.reg [.o 24 (.bsl 1) [], .m 4 24, .o 5 .mv [.kb false]]) <| .ret) ( .skip)) <| .seq (.reg [.la 25 3 2,
 .o 26 (.call 66 []) [.t 25], .m 6 26]) <| .seq (.seq (.reg [.la 27 3 2, .m 28 6, .o 29 (.call 93 []) [.t 27, .t 28], .m 7 29]) <| .block 0 ( .loop [(6, 1)] [1,
 2, 6, 7] c_spec_TilingOf_L0)) <| .seq (.reg [.m 61 6, .m 4 61, .o 5 .mv [.kb true]]) <| .ret

theorem k_spec_TilingOf : cFn Tryz.prog n_spec_TilingOf 62 [.t 4, .t 5] c_spec_TilingOf := ⟨Tryz.f62, _, Tryz.func62, rfl, by kernel_rfl, by kernel_rfl, by kernel_rfl, by kernel_rfl⟩

end Go.Proofs.Dev

namespace Go.Proofs.Dev
set_option linter.unusedSimpArgs false
set_option maxRecDepth 100000

theorem s_impl_CellsMany (W T : Int) (cs : List Bool) (hb : cs.length < 2 ^ 40) :
    SoundAt Tryz.prog n_impl_CellsMany [.agg [.v (.int .i64 W), .v (.int .i64 T), .sl 1 1 (bools cs)]] (.v (.int .i64 (if regB W T cs = true then (manyOf cs : Int) else -1))) [.bot] := by
  refine fn_ok (md := md0) (ms := [false]) k_impl_CellsMany (by simp) ?_
  simp [c_impl_CellsMany]
  refine call_on (s_impl_RegionValid W T cs hb) ?_
  cases hr : regB W T cs with
  | false => simp
  | true =>
  simp
  refine call_on (s_impl_many cs hb) ?_
  simp

def liftHas (ls : List Int) (cell : Int) : Bool := decide (0 ≤ cell ∧ cell < ls.length ∧ ati ls cell ≠ 0)
def liftR (W T : Int) (cs : List Bool) (ls : List Int) (cell : Int) : List Int := if (regB W T cs && laysB W T cs ls) = true then (if liftHas ls cell = true then liftI W T ls cell else ls) else []
def liftRB (W T : Int) (cs : List Bool) (ls : List Int) (cell : Int) : Bool := regB W T cs && laysB W T cs ls && liftHas ls cell

theorem s_impl_field (W T : Int) (h1 : 0 ≤ W ∧ W ≤ 6) (h2 : 0 ≤ T ∧ T ≤ 6) :
    SoundAt Tryz.prog n_impl_field [.v (.int .i64 W), .v (.int .i64 T)] (.agg [.v (.int .i64 W), .v (.int .i64 T), .os 1 (bools (List.replicate (W * T).toNat false))]) [.bot, .bot] := by
  refine fn_ok (md := md0) (ms := [false, false]) k_impl_field (by simp) ?_
  have p0 : 0 ≤ W * T := Int.mul_nonneg h1.1 h2.1
  have p1 : W * T ≤ 6 * 6 := Int.mul_le_mul h1.2 h2.2 h2.1 (by omega)
  simp [c_impl_field, bools_rep, p0]
  have e : (bools (List.replicate (W * T).toNat false)).length = (W * T).toNat := by simp
  exact ⟨by omega, by omega, List.take_of_length_le (Nat.le_of_eq e)⟩

def boxL (W T : Int) : List Bool := List.replicate (W * T).toNat true
def boxB (W T : Int) : Bool := decide (1 ≤ W ∧ W ≤ 6 ∧ 1 ≤ T ∧ T ≤ 6 ∧ W * T ≤ 24)
theorem s_impl_RegionBox23 : SoundAt Tryz.prog n_impl_RegionBox [.v (.int .i64 2), .v (.int .i64 3)] (.agg [.v (.int .i64 2), .v (.int .i64 3), .os 1 (bools (List.replicate 6 true))]) [.bot, .bot] := by
  refine fn_ok (md := md0) (ms := [false, false]) k_impl_RegionBox (by simp) ?_
  simp [c_impl_RegionBox]
  refine call_on (s_impl_in_t (x := 2) (lo := 1) (hi := 6) (by omega)) ?_
  simp
  refine call_on (s_impl_in_t (x := 3) (lo := 1) (hi := 6) (by omega)) ?_
  simp
  refine call_on (s_impl_field 2 3 (by omega) (by omega)) ?_
  simp
  refine loop_by (fun m E H => ∃ i : Nat, m = 6 - i ∧ i ≤ 6 ∧ H = [some (.box [.v (.int .i64 0), .v (.int .i64 0), .os 1 []]), some (.box [.v (.int .i64 2), .v (.int .i64 3), .ls 1 2 0 6]), some (.arr 1 (bools (List.replicate i true ++ List.replicate (6 - i) false)))] ∧
    E = [(4, .lp 0 0 0 0), (5, .lp 0 1 0 0), (27, .v (.int .i64 6)), (28, .v (.int .i64 i))]) 6 ⟨0, by simp⟩ ?_
  rintro J hJ m E H ⟨i, rfl, hi, rfl, rfl⟩
  by_cases h : i < 6
  · have h' : (i : Int) < 6 := by omega
    have e1 : (List.replicate i true ++ List.replicate (6 - i) false).set i true = List.replicate (i + 1) true ++ List.replicate (6 - (i + 1)) false := by
      have e2 : 6 - i = (6 - (i + 1)) + 1 := by omega
      rw [e2, List.replicate_succ, List.set_append_right _ _ (by simp)]
      simp [List.replicate_succ']
    simp [c_impl_RegionBox_L0, h', bools_set, e1, h]
    exact ⟨by omega, by omega, _, by omega, hJ _ _ _ ⟨i + 1, rfl, h, by rw [show 5 - i = 6 - (i + 1) by omega], by simp⟩⟩
  · have : i = 6 := by omega
    subst this
    simp [c_impl_RegionBox_L0]
    rfl

theorem s_laws_alive : SoundAt Tryz.prog n_laws_alive [] (.v (.bool true)) [] := by
  refine fn_ok (md := md0) (ms := []) k_laws_alive (by simp) ?_
  simp [c_laws_alive]
  refine call_on s_impl_RegionBox23 ?_
  simp
  refine call_on (s_impl_CellsMany 2 3 (List.replicate 6 true) (by simp)) ?_
  simp
  exact ⟨rfl, by decide⟩

end Go.Proofs.Dev
