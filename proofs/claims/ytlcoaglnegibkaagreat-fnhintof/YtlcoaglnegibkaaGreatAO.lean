/- Contracts of the functions of the program over slots and rows, each proved against the program itself; no condition beyond those that each theorem names. -/
import Derived.Test.YtlcoaglnegibkaaGreatR
import Derived.Test.YtlcoaglnegibkaaGreatAN

set_option linter.unusedSimpArgs false
set_option linter.unusedVariables false

namespace Go.Proofs.Dev
set_option linter.unusedSimpArgs false
set_option maxRecDepth 100000

def prAt (n : Nat) : Int × Int := prL.getD n (0, 0)
def domB (ls : List Int) (k : Nat) : Bool := decide (ati ls k = 1 ∨ ati ls k = 2)
/-- How many dominoes begin ahead of a cell. -/
def domTo (ls : List Int) : Nat → Nat
  | 0 => 0
  | i + 1 => domTo ls i + if domB ls i then 1 else 0
def putP (out : List Int) (i j : Nat) (p : Int × Int) : List Int := (out.set i p.1).set j p.2
/-- The numbers of the dominoes that begin ahead of a cell. -/
def mkTo (W T : Int) (ls : List Int) (fr : Nat) : Nat → List Int
  | 0 => List.replicate ls.length (-1)
  | i + 1 => if domB ls i then putP (mkTo W T ls fr i) i (stepI W T i (ati ls i)).toNat (prAt ((fr + domTo ls i) % 28)) else mkTo W T ls fr i
def mkI (W T : Int) (cs : List Bool) (ls : List Int) (fr : Int) : List Int :=
  if (regB W T cs && laysB W T cs ls && fullB cs ls && decide (0 ≤ fr ∧ fr ≤ 27)) = true then mkTo W T ls fr.toNat ls.length else []

theorem domTo_le (ls : List Int) : ∀ i, domTo ls i ≤ i
  | 0 => Nat.le_refl _
  | i + 1 => by have := domTo_le ls i; simp only [domTo]; split <;> omega
theorem mkTo_length (W T : Int) (ls : List Int) (fr : Nat) : ∀ i, (mkTo W T ls fr i).length = ls.length
  | 0 => by simp [mkTo]
  | i + 1 => by
    have := mkTo_length W T ls fr i
    simp only [mkTo]; split
    · simp [putP, this]
    · exact this
theorem mkI_length (W T : Int) (cs : List Bool) (ls : List Int) (fr : Int) : (mkI W T cs ls fr).length ≤ ls.length := by
  unfold mkI; split
  · simp [mkTo_length]
  · simp

theorem stN_le {a N : Nat} (h : N < 28) (h2 : stN a ≤ N) (h7 : a ≤ 7) : a < 7 := by
  have e : stN 7 = 28 := by decide
  rcases Nat.lt_or_ge a 7 with h | h
  · exact h
  · have : a = 7 := by omega
    subst this; omega

/-- What a first cell of a domino knows of the other. -/
theorem lays_first {W T : Int} {cs : List Bool} {ls : List Int} (hr : regB W T cs = true) (hy : laysB W T cs ls = true) {k : Nat} (hk : k < ls.length) (hw : ati ls k = 1 ∨ ati ls k = 2) :
    0 ≤ stepI W T k (ati ls k) ∧ stepI W T k (ati ls k) < cs.length := by
  obtain ⟨w1, w2, t1, t2, l1, _⟩ := regB_W hr
  simp only [laysB, Bool.and_eq_true, decide_eq_true_eq, allB_iff] at hy
  obtain ⟨hl, hy⟩ := hy
  have p1 := hy k hk
  have hst := stepI_range (T := T) (k := k) (way := ati ls k) w1 (by omega) (by omega)
  simp only [layAt, decide_eq_true_eq] at p1
  rcases p1 with p1 | ⟨_, _, pc, p0, pt, _⟩
  · omega
  · omega

theorem s_spec_MakePuzzle (W T : Int) (cs : List Bool) (ls : List Int) (fr : Int) (hb : cs.length < 2 ^ 40) (hl : ls.length < 2 ^ 40) :
    SoundAt Tryz.prog n_spec_MakePuzzle [.agg [.v (.int .i64 W), .v (.int .i64 T), .sl 1 1 (bools cs)], .sl 1 1 (ints ls), .v (.int .i64 fr)] (.os 1 (ints (mkI W T cs ls fr))) [.bot, .bot, .bot] := by
  refine fn_ok (md := md0) (ms := [false, false, false]) k_spec_MakePuzzle (by simp) ?_
  simp [c_spec_MakePuzzle]
  refine call_on (s_spec_TilingOk W T cs ls hb hl) ?_
  cases hp : (regB W T cs && laysB W T cs ls && fullB cs ls) with
  | false => simp [mkI, hp]
  | true =>
  simp
  refine call_on (s_spec_l1In fr 0 27) ?_
  by_cases hx : 0 ≤ fr ∧ fr ≤ 27
  case neg =>
    have hx2 : (decide (0 ≤ fr) && decide (fr ≤ 27)) = false := by simp; omega
    simp [hx2, mkI, hx]
  obtain ⟨f, rfl⟩ : ∃ f : Nat, fr = f := ⟨fr.toNat, by omega⟩
  have hrl := hp
  simp only [Bool.and_eq_true] at hrl
  obtain ⟨⟨hr, hy⟩, hfull⟩ := hrl
  have hlen : ls.length = cs.length := by simp only [laysB, Bool.and_eq_true, decide_eq_true_eq] at hy; exact hy.1
  have h36 := regB_len hr
  have hmk : mkI W T cs ls f = mkTo W T ls f ls.length := by simp [mkI, hp, hx]
  rw [hmk]
  simp [hx]
  refine loop_by (fun m E H => ∃ i : Nat, m = ls.length - i ∧ i ≤ ls.length ∧ H = [some (.box [.v (.int .i64 W), .v (.int .i64 T), .sl 1 1 (bools cs)]), some (.arr 1 (ints (List.replicate i (-1))))] ∧
    E = [(1, .sl 1 1 (ints ls)), (2, .v (.int .i64 f)), (3, .lp 0 0 0 0), (7, .ls 1 1 0 i), (8, .v (.int .i64 i))]) ls.length ⟨0, by simp⟩ ?_
  rintro J hJ m E H ⟨i, rfl, hi, rfl, rfl⟩
  by_cases h : i < ls.length
  · simp [c_spec_MakePuzzle_L0, h]
    refine ⟨by omega, by omega, _, by omega, hJ _ _ _ ⟨i + 1, rfl, h, ?_, by simp⟩⟩
    rw [List.replicate_succ', ints_append]; rfl
  have : i = ls.length := by omega
  subst this
  simp [c_spec_MakePuzzle_L0]
  clear hJ J
  refine loop_by (fun m E H => ∃ i : Nat, m = ls.length - i ∧ i ≤ ls.length ∧ H = [some (.box [.v (.int .i64 W), .v (.int .i64 T), .sl 1 1 (bools cs)]), some (.arr 1 (ints (mkTo W T ls f i)))] ∧
    E = [(1, .sl 1 1 (ints ls)), (2, .v (.int .i64 ((f + domTo ls i : Nat) : Int))), (3, .lp 0 0 0 0), (7, .ls 1 1 0 ls.length), (9, .v (.int .i64 i))]) ls.length ⟨0, by simp [mkTo, domTo]⟩ ?_
  rintro J hJ m E H ⟨i, rfl, hi, rfl, rfl⟩
  have hml := mkTo_length W T ls f i
  by_cases h : i < ls.length
  case neg =>
    have : i = ls.length := by omega
    subst this
    simp [c_spec_MakePuzzle_L2, hml]
    exact List.take_of_length_le (by simp [hml])
  by_cases hd : domB ls i = true
  case neg =>
    have hw : ¬ (ati ls i = 1 ∨ ati ls i = 2) := by simpa [domB] using hd
    have hw1 : ¬ ati ls i = 1 := fun e => hw (.inl e)
    have hw2 : ¬ ati ls i = 2 := fun e => hw (.inr e)
    simp [c_spec_MakePuzzle_L2, h, hw1, hw2]
    refine ⟨by omega, _, by omega, hJ _ _ _ ⟨i + 1, rfl, h, ?_, ?_⟩⟩ <;> simp [mkTo, domTo, hd]
  have hw : ati ls i = 1 ∨ ati ls i = 2 := by simpa [domB] using hd
  have hdn := domTo_le ls i
  obtain ⟨o1, o2⟩ := lays_first hr hy h hw
  have one := s_spec_l2Step W T cs i (ati ls i) hr (by omega) (by omega)
  generalize hto : stepI W T i (ati ls i) = to at *
  generalize hout : mkTo W T ls f i = out at *
  generalize hN : (f + domTo ls i) % 28 = N at *
  have hN28 : N < 28 := by omega
  have next : again J (ls.length - i) [(1, .sl 1 1 (ints ls)), (2, .v (.int .i64 ((f : Int) + (domTo ls i : Nat) + 1))), (3, .lp 0 0 0 0), (7, .ls 1 1 0 ls.length), (9, .v (.int .i64 (i + 1)))]
      [some (.box [.v (.int .i64 W), .v (.int .i64 T), .sl 1 1 (bools cs)]), some (.arr 1 (ints (putP out i to.toNat (prAt N))))] := by
    refine ⟨_, by omega, hJ _ _ _ ⟨i + 1, rfl, h, ?_, ?_⟩⟩
    · simp [mkTo, hd, hto, hout, hN]
    · simp [domTo, hd, Int.add_assoc]
  have hNi : ((f : Int) + (domTo ls i : Nat)) % 28 = (N : Int) := by omega
  rcases hw with hw | hw <;> rw [hw] at one <;>
  · simp [c_spec_MakePuzzle_L2, h, hw, hNi]
    refine ⟨by omega, ?_⟩
    refine loop_by (fun b E H => ∃ a : Nat, a < 7 ∧ stN a + b = N ∧ H = [some (.box [.v (.int .i64 W), .v (.int .i64 T), .sl 1 1 (bools cs)]), some (.arr 1 (ints out))] ∧
      E = [(1, .sl 1 1 (ints ls)), (2, .v (.int .i64 ((f : Int) + (domTo ls i : Nat)))), (3, .lp 0 0 0 0), (7, .ls 1 1 0 ls.length), (9, .v (.int .i64 i)), (10, .v (.int .i64 b)), (11, .v (.int .i64 a))]) N ⟨0, by omega, by simp [stN], rfl, by simp⟩ ?_
    rintro J2 hJ2 b E H ⟨a, ha, hab, rfl, rfl⟩
    by_cases hb6 : a + b ≤ 6
    case neg =>
      have hb6' : (6 : Int) - a < b := by omega
      have hs := stN_succ ha
      have ha7 := stN_le (a := a + 1) hN28 (by omega) (by omega)
      have e1 : ((b : Int) - (6 - (a : Int) + 1)) = ((b - (7 - a) : Nat) : Int) := by omega
      simp [c_spec_MakePuzzle_L1, hb6', e1]
      refine ⟨by omega, by omega, by omega, by omega, b - (7 - a), by omega, hJ2 _ _ _ ⟨a + 1, ha7, by omega, rfl, ?_⟩⟩
      simp
    have hb6' : ¬ (6 : Int) - a < b := by omega
    have hpr : prAt N = ((a : Int), ((a + b : Nat) : Int)) := by simp only [prAt, List.getD_eq_getElem?_getD, ← hab, prL_at ha (by omega : b < 7 - a), Option.getD_some]
    rw [hpr] at next
    simp [putP] at next
    have hio : i < out.length := by omega
    have hto2 : to < out.length := by omega
    simp [c_spec_MakePuzzle_L1, hb6', hio, hml, h]
    refine ⟨by omega, ?_⟩
    simp [c_spec_MakePuzzle_D, h, hw, ints_set]
    (repeat' first | omega | apply And.intro) <;>
    · refine call_on one ?_
      simp [o1, hml, ints_set]
      exact ⟨by omega, by omega, by omega, next⟩

theorem s_impl_LaidOk (W T : Int) (cs : List Bool) (ls : List Int) (hb : cs.length < 2 ^ 40) (hl : ls.length < 2 ^ 40) :
    SoundAt Tryz.prog n_impl_LaidOk [.agg [.v (.int .i64 W), .v (.int .i64 T), .sl 1 1 (bools cs)], .sl 1 1 (ints ls)] (.v (.bool (regB W T cs && laysB W T cs ls))) [.bot, .bot] := by
  refine fn_ok (md := md0) (ms := [false, false]) k_impl_LaidOk (by simp) ?_
  simp [c_impl_LaidOk]
  refine call_on (s_impl_RegionValid W T cs hb) ?_
  cases hr : regB W T cs with
  | false => simp
  | true =>
  simp
  refine call_on (s_impl_Region_lays W T cs ls hr hl) ?_
  simp

theorem s_impl_TilingOk (W T : Int) (cs : List Bool) (ls : List Int) (hb : cs.length < 2 ^ 40) (hl : ls.length < 2 ^ 40) :
    SoundAt Tryz.prog n_impl_TilingOk [.agg [.v (.int .i64 W), .v (.int .i64 T), .sl 1 1 (bools cs)], .sl 1 1 (ints ls)] (.v (.bool (regB W T cs && laysB W T cs ls && fullB cs ls))) [.bot, .bot] := by
  refine fn_ok (md := md0) (ms := [false, false]) k_impl_TilingOk (by simp) ?_
  simp [c_impl_TilingOk]
  refine call_on (s_impl_LaidOk W T cs ls hb hl) ?_
  cases hp : (regB W T cs && laysB W T cs ls) with
  | false => simp
  | true =>
  have hlen : ls.length = cs.length := by
    simp only [laysB, Bool.and_eq_true, decide_eq_true_eq] at hp
    exact hp.2.1
  simp
  refine call_on (s_impl_Region_full W T cs ls hb hlen) ?_
  simp

end Go.Proofs.Dev
