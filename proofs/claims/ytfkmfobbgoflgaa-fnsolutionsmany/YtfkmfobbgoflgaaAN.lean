/- Contracts of the functions of the program over slots and rows, each proved against the program itself; no condition beyond those that each theorem names. -/
import Derived.Test.YtfkmfobbgoflgaaAM
import Derived.Test.YtfkmfobbgoflgaaAK
import Derived.Test.YtfkmfobbgoflgaaProg
import Derived.Test.YtfkmfobbgoflgaaAH
import Derived.Shelf.Bits.Mul64
import Derived.Ground.NamesProg
import Derived.Test.YtfkmfobbgoflgaaAJ

set_option linter.unusedSimpArgs false
set_option linter.unusedVariables false

namespace Go.Proofs.Dev
set_option linter.unusedSimpArgs false

theorem nodup_le : ∀ {l m : List Int}, l.Nodup → (∀ x ∈ l, x ∈ m) → l.length ≤ m.length
  | [], m, _, _ => by simp
  | x :: l, m, hn, hs => by
    rw [List.nodup_cons] at hn
    have hx : x ∈ m := hs x (by simp)
    have h1 := nodup_le (l := l) (m := m.erase x) hn.2 (fun y hy => by
      rw [List.mem_erase_of_ne (by intro e; subst e; exact hn.1 hy)]
      exact hs y (by simp [hy]))
    rw [List.length_erase_of_mem hx] at h1
    have : 0 < m.length := List.length_pos_of_mem hx
    simp only [List.length_cons]; omega

theorem pairs_domN (W T : Int) (ds ls : List Int) : (pairsI W T ds ls).length = domN ls := by
  have : ∀ n, n ≤ ls.length → (pairsTo W T ds ls n).length = domN (ls.take n) := by
    intro n
    induction n with
    | zero => intro _; simp [pairsTo, domN]
    | succ n ih =>
      intro hn
      rw [pairsTo_succ, List.length_append, ih (by omega), domN_succ (by omega)]
      congr 1
      by_cases h : ati ls n = 1 ∨ ati ls n = 2
      · rw [if_pos h]
        have : isDom (ati ls n) = true := by simpa [isDom] using h
        simp [this]
      · rw [if_neg h]
        have : isDom (ati ls n) = false := by simpa [isDom] using h
        simp [this]
  have e := this ls.length (Nat.le_refl _)
  rw [List.take_length] at e
  exact e

theorem digs_at {cs : List Bool} {ds : List Int} (h : digsB cs ds = true) {k : Nat} (hk : k < cs.length) (hc : atb cs k = true) : 0 ≤ ati ds k ∧ ati ds k ≤ 6 := by
  simp only [digsB, Bool.and_eq_true, decide_eq_true_eq, allB_iff] at h
  have := h.2 k (by omega)
  simp only [digAt, hc, if_true, decide_eq_true_eq] at this
  exact this

/-! A domino more. -/
/-! Solutions. -/
end Go.Proofs.Dev

namespace Go.Proofs.Dev

-- 3 parameters, results [.t 6], 82 slots, modes [false, false, false]
@[simp] abbrev n_spec_MakePuzzle : Nat := 25
def c_spec_MakePuzzle_L0 : ACode :=
  .seq (.seq (.reg [⟨(some 23), .mv, [.t 8], none⟩,
    ⟨(some 24), .mv, [.t 1], none⟩,
    ⟨(some 25), .len false, [.t 24], none⟩,
    ⟨(some 26), .bin .lss 0, [.t 23, .t 25], none⟩]) <|
  .cond (.t 26) (
    .skip) (
    .exit 0)) <|
  .seq (.block 1 (
    .reg [⟨(some 29), .mv, [.t 7], none⟩,
      ⟨(some 30), .bsl 1, [.c (.v (.int .i64 (-1)))], none⟩,
      ⟨(some 31), .app 1 8 true, [.t 29, .t 30], none⟩,
      ⟨(some 7), .mv, [.t 31], none⟩])) <|
  .reg [⟨(some 27), .mv, [.t 8], none⟩,
    ⟨(some 28), .bin .add 0, [.t 27, .c (.v (.int .i64 (1)))], none⟩,
    ⟨(some 8), .mv, [.t 28], none⟩]

def c_spec_MakePuzzle_L1 : ACode :=
  .seq (.seq (.reg [⟨(some 52), .mv, [.t 10], none⟩,
    ⟨(some 53), .mv, [.t 11], none⟩,
    ⟨(some 54), .bin .sub 0, [.c (.v (.int .i64 (6))), .t 53], none⟩,
    ⟨(some 55), .bin .gtr 0, [.t 52, .t 54], none⟩]) <|
  .cond (.t 55) (
    .skip) (
    .exit 4)) <|
  .block 5 (
    .seq (.reg [⟨(some 56), .mv, [.t 10], none⟩,
      ⟨(some 57), .mv, [.t 11], none⟩,
      ⟨(some 58), .bin .sub 0, [.c (.v (.int .i64 (6))), .t 57], none⟩,
      ⟨(some 59), .bin .add 0, [.t 58, .c (.v (.int .i64 (1)))], none⟩,
      ⟨(some 60), .bin .sub 0, [.t 56, .t 59], none⟩,
      ⟨(some 10), .mv, [.t 60], none⟩]) <|
    .reg [⟨(some 61), .mv, [.t 11], none⟩,
      ⟨(some 62), .bin .add 0, [.t 61, .c (.v (.int .i64 (1)))], none⟩,
      ⟨(some 11), .mv, [.t 62], none⟩])

def c_spec_MakePuzzle_D : ACode :=
  .draw (
        .take ⟨(some 67), .mv, [.t 7], none⟩ <|
        .take ⟨(some 69), .mv, [.t 9], none⟩ <|
        .take ⟨(some 70), .mv, [.t 1], none⟩ <|
        .take ⟨(some 71), .mv, [.t 9], none⟩ <|
        .take ⟨(some 72), .iadr 1, [.t 70, .t 71], none⟩ <|
        .take ⟨(some 75), .mv, [.t 11], none⟩ <|
        .take ⟨(some 76), .mv, [.t 10], none⟩ <|
        .take ⟨(some 77), .bin .add 0, [.t 75, .t 76], none⟩ <|
        .alt ⟨(some 68), .load true 3, [.t 3], none⟩ (
          .alt ⟨(some 73), .load false 1, [.t 72], none⟩ (
            .alt ⟨(some 74), .call 47 [], [.t 68, .t 69, .t 73], none⟩ (
              .take ⟨(some 78), .iadr 1, [.t 67, .t 74], none⟩ <|
              .alt ⟨none, .store 1, [.t 78, .t 77], none⟩ (
                .done) <|
              .stop) <|
            .stop) <|
          .stop) <|
        .alt ⟨(some 73), .load false 1, [.t 72], none⟩ (
          .alt ⟨(some 68), .load true 3, [.t 3], none⟩ (
            .alt ⟨(some 74), .call 47 [], [.t 68, .t 69, .t 73], none⟩ (
              .take ⟨(some 78), .iadr 1, [.t 67, .t 74], none⟩ <|
              .alt ⟨none, .store 1, [.t 78, .t 77], none⟩ (
                .done) <|
              .stop) <|
            .stop) <|
          .stop) <|
        .stop)

def c_spec_MakePuzzle_L2 : ACode :=
  .seq (.seq (.reg [⟨(some 32), .mv, [.t 9], none⟩,
    ⟨(some 33), .mv, [.t 1], none⟩,
    ⟨(some 34), .len false, [.t 33], none⟩,
    ⟨(some 35), .bin .lss 0, [.t 32, .t 34], none⟩]) <|
  .cond (.t 35) (
    .skip) (
    .exit 2)) <|
  .seq (.block 3 (
    .seq (.reg [⟨(some 38), .mv, [.t 1], none⟩,
      ⟨(some 39), .mv, [.t 9], none⟩,
      ⟨(some 40), .iadr 1, [.t 38, .t 39], none⟩,
      ⟨(some 41), .load false 1, [.t 40], none⟩,
      ⟨(some 42), .bin .eql 0, [.t 41, .c (.v (.int .i64 (1)))], none⟩,
      ⟨(some 43), .mv, [.t 42], none⟩,
      ⟨(some 44), .mv, [.t 1], (some (43, false))⟩,
      ⟨(some 45), .mv, [.t 9], (some (43, false))⟩,
      ⟨(some 46), .iadr 1, [.t 44, .t 45], (some (43, false))⟩,
      ⟨(some 47), .load false 1, [.t 46], (some (43, false))⟩,
      ⟨(some 48), .bin .eql 0, [.t 47, .c (.v (.int .i64 (2)))], (some (43, false))⟩,
      ⟨(some 49), .pick, [.t 43, .c (.v (.bool true)), .t 48], none⟩]) <|
    .cond (.t 49) (
      .seq (.reg [⟨(some 50), .mv, [.t 2], none⟩,
        ⟨(some 51), .bin .rem 0, [.t 50, .c (.v (.int .i64 (28)))], none⟩,
        ⟨(some 10), .mv, [.t 51], none⟩]) <|
      .seq (.reg [⟨(some 11), .mv, [.c (.v (.int .i64 (0)))], none⟩]) <|
      .seq (.block 4 (
        .loop [(1, 1), (7, 1)] [1, 2, 3, 7, 9, 10, 11] c_spec_MakePuzzle_L1)) <|
      .seq (.reg [⟨(some 63), .mv, [.t 7], none⟩,
        ⟨(some 64), .mv, [.t 9], none⟩,
        ⟨(some 65), .mv, [.t 11], none⟩,
        ⟨(some 66), .iadr 1, [.t 63, .t 64], none⟩,
        ⟨none, .store 1, [.t 66, .t 65], none⟩]) <|
      .seq c_spec_MakePuzzle_D <|
      .reg [⟨(some 79), .mv, [.t 2], none⟩,
        ⟨(some 80), .bin .add 0, [.t 79, .c (.v (.int .i64 (1)))], none⟩,
        ⟨(some 2), .mv, [.t 80], none⟩]) (
      .skip))) <|
  .reg [⟨(some 36), .mv, [.t 9], none⟩,
    ⟨(some 37), .bin .add 0, [.t 36, .c (.v (.int .i64 (1)))], none⟩,
    ⟨(some 9), .mv, [.t 37], none⟩]

def c_spec_MakePuzzle : ACode :=
  .seq (.reg [⟨(some 3), .box, [.t 0], none⟩,
    ⟨(some 6), .mv, [.c (.os 1 [])], none⟩]) <|
  .seq (.seq (.reg [⟨(some 12), .load true 3, [.t 3], none⟩,
    ⟨(some 13), .mv, [.t 1], none⟩,
    ⟨(some 14), .call 48 [], [.t 12, .t 13], none⟩,
    ⟨(some 15), .un .not, [.t 14], none⟩,
    ⟨(some 16), .mv, [.t 15], none⟩,
    ⟨(some 17), .mv, [.t 2], (some (16, false))⟩,
    ⟨(some 18), .call 29 [], [.t 17, .c (.v (.int .i64 (0))), .c (.v (.int .i64 (27)))], (some (16, false))⟩,
    ⟨(some 19), .un .not, [.t 18], (some (16, false))⟩,
    ⟨(some 20), .pick, [.t 16, .c (.v (.bool true)), .t 19], none⟩]) <|
  .cond (.t 20) (
    .seq (.reg [⟨(some 21), .bsl 1, [], none⟩,
      ⟨(some 6), .mv, [.t 21], none⟩]) <|
    .ret) (
    .skip)) <|
  .seq (.reg [⟨(some 22), .bsl 1, [], none⟩,
    ⟨(some 7), .mv, [.t 22], none⟩]) <|
  .seq (.seq (.reg [⟨(some 8), .mv, [.c (.v (.int .i64 (0)))], none⟩]) <|
  .block 0 (
    .loop [(1, 1), (7, 1)] [1, 2, 3, 7, 8] c_spec_MakePuzzle_L0)) <|
  .seq (.seq (.reg [⟨(some 9), .mv, [.c (.v (.int .i64 (0)))], none⟩]) <|
  .block 2 (
    .loop [(1, 1), (7, 1)] [1, 2, 3, 7, 9] c_spec_MakePuzzle_L2)) <|
  .seq (.reg [⟨(some 81), .mv, [.t 7], none⟩,
    ⟨(some 6), .mv, [.t 81], none⟩]) <|
  .ret

theorem k_spec_MakePuzzle : cFn Try.prog n_spec_MakePuzzle 82 [.t 6] c_spec_MakePuzzle := ⟨Try.f25, _, Try.func25, rfl, by kernel_rfl, by kernel_rfl, by kernel_rfl, by kernel_rfl⟩

end Go.Proofs.Dev

namespace Go.Proofs
open Go.Shelf
namespace Dev

end Dev
end Go.Proofs

namespace Go.Proofs.Dev
set_option linter.unusedSimpArgs false
set_option maxRecDepth 100000

/-- All pairs, in ascending order. -/
def prL : List (Int × Int) := (List.range 7).flatMap fun a => (List.range' a (7 - a)).map fun b : Nat => ((a : Int), (b : Int))
/-- How many pairs have a lesser number below a. -/
def stN (a : Nat) : Nat := a * (15 - a) / 2

theorem stN_succ {a : Nat} (h : a < 7) : stN (a + 1) = stN a + (7 - a) ∧ stN a + (7 - a) ≤ 28 := by
  have : ∀ a < 7, stN (a + 1) = stN a + (7 - a) ∧ stN a + (7 - a) ≤ 28 := by decide
  exact this a h
theorem prL_at {a b : Nat} (h : a < 7) (hb : b < 7 - a) : prL[stN a + b]? = some ((a : Int), ((a + b : Nat) : Int)) := by
  have : ∀ a < 7, ∀ b < 7 - a, prL[stN a + b]? = some ((a : Int), ((a + b : Nat) : Int)) := by decide
  exact this a h b hb
end Go.Proofs.Dev

namespace Go.Proofs.Dev
set_option linter.unusedSimpArgs false
set_option maxRecDepth 100000

def prAt (n : Nat) : Int × Int := prL.getD n (0, 0)
def domB (ls : List Int) (k : Nat) : Bool := decide (ati ls k = 1 ∨ ati ls k = 2)
/-- How many dominoes begin ahead of a cell. -/
def domTo (ls : List Int) : Nat → Nat
  | 0 => 0
  | i + 1 => domTo ls i + if domB ls i then 1 else 0
def putP (out : List Int) (i j : Nat) (p : Int × Int) : List Int := (out.set i p.1).set j p.2
/-- The numbers of the dominoes that begin ahead of a cell. -/
def mkTo (W T : Int) (ls : List Int) (fr : Nat) : Nat → List Int
  | 0 => List.replicate ls.length (-1)
  | i + 1 => if domB ls i then putP (mkTo W T ls fr i) i (stepI W T i (ati ls i)).toNat (prAt ((fr + domTo ls i) % 28)) else mkTo W T ls fr i
def mkI (W T : Int) (cs : List Bool) (ls : List Int) (fr : Int) : List Int :=
  if (regB W T cs && laysB W T cs ls && fullB cs ls && decide (0 ≤ fr ∧ fr ≤ 27)) = true then mkTo W T ls fr.toNat ls.length else []

theorem domTo_le (ls : List Int) : ∀ i, domTo ls i ≤ i
  | 0 => Nat.le_refl _
  | i + 1 => by have := domTo_le ls i; simp only [domTo]; split <;> omega
theorem mkTo_length (W T : Int) (ls : List Int) (fr : Nat) : ∀ i, (mkTo W T ls fr i).length = ls.length
  | 0 => by simp [mkTo]
  | i + 1 => by
    have := mkTo_length W T ls fr i
    simp only [mkTo]; split
    · simp [putP, this]
    · exact this
theorem mkI_length (W T : Int) (cs : List Bool) (ls : List Int) (fr : Int) : (mkI W T cs ls fr).length ≤ ls.length := by
  unfold mkI; split
  · simp [mkTo_length]
  · simp

theorem stN_le {a N : Nat} (h : N < 28) (h2 : stN a ≤ N) (h7 : a ≤ 7) : a < 7 := by
  have e : stN 7 = 28 := by decide
  rcases Nat.lt_or_ge a 7 with h | h
  · exact h
  · have : a = 7 := by omega
    subst this; omega

/-- What a first cell of a domino knows of the other. -/
theorem lays_first {W T : Int} {cs : List Bool} {ls : List Int} (hr : regB W T cs = true) (hy : laysB W T cs ls = true) {k : Nat} (hk : k < ls.length) (hw : ati ls k = 1 ∨ ati ls k = 2) :
    0 ≤ stepI W T k (ati ls k) ∧ stepI W T k (ati ls k) < cs.length := by
  obtain ⟨w1, w2, t1, t2, l1, _⟩ := regB_W hr
  simp only [laysB, Bool.and_eq_true, decide_eq_true_eq, allB_iff] at hy
  obtain ⟨hl, hy⟩ := hy
  have p1 := hy k hk
  have hst := stepI_range (T := T) (k := k) (way := ati ls k) w1 (by omega) (by omega)
  simp only [layAt, decide_eq_true_eq] at p1
  rcases p1 with p1 | ⟨_, _, pc, p0, pt, _⟩
  · omega
  · omega

theorem s_spec_MakePuzzle (W T : Int) (cs : List Bool) (ls : List Int) (fr : Int) (hb : cs.length < 2 ^ 40) (hl : ls.length < 2 ^ 40) :
    SoundAt Try.prog n_spec_MakePuzzle [.agg [.v (.int .i64 W), .v (.int .i64 T), .sl 1 1 (bools cs)], .sl 1 1 (ints ls), .v (.int .i64 fr)] (.os 1 (ints (mkI W T cs ls fr))) [.bot, .bot, .bot] := by
  refine fn_ok (md := md0) (ms := [false, false, false]) k_spec_MakePuzzle (by simp) ?_
  simp [c_spec_MakePuzzle]
  refine call_on (s_spec_TilingOk W T cs ls hb hl) ?_
  cases hp : (regB W T cs && laysB W T cs ls && fullB cs ls) with
  | false => simp [mkI, hp]
  | true =>
  simp
  refine call_on (s_spec_l1In fr 0 27) ?_
  by_cases hx : 0 ≤ fr ∧ fr ≤ 27
  case neg =>
    have hx2 : (decide (0 ≤ fr) && decide (fr ≤ 27)) = false := by simp; omega
    simp [hx2, mkI, hx]
  obtain ⟨f, rfl⟩ : ∃ f : Nat, fr = f := ⟨fr.toNat, by omega⟩
  have hrl := hp
  simp only [Bool.and_eq_true] at hrl
  obtain ⟨⟨hr, hy⟩, hfull⟩ := hrl
  have hlen : ls.length = cs.length := by simp only [laysB, Bool.and_eq_true, decide_eq_true_eq] at hy; exact hy.1
  have h36 := regB_len hr
  have hmk : mkI W T cs ls f = mkTo W T ls f ls.length := by simp [mkI, hp, hx]
  rw [hmk]
  simp [hx]
  refine loop_by (fun m E H => ∃ i : Nat, m = ls.length - i ∧ i ≤ ls.length ∧ H = [some (.box [.v (.int .i64 W), .v (.int .i64 T), .sl 1 1 (bools cs)]), some (.arr 1 (ints (List.replicate i (-1))))] ∧
    E = [(1, .sl 1 1 (ints ls)), (2, .v (.int .i64 f)), (3, .lp 0 0 0 0), (7, .ls 1 1 0 i), (8, .v (.int .i64 i))]) ls.length ⟨0, by simp⟩ ?_
  rintro J hJ m E H ⟨i, rfl, hi, rfl, rfl⟩
  by_cases h : i < ls.length
  · simp [c_spec_MakePuzzle_L0, h]
    refine ⟨by omega, by omega, _, by omega, hJ _ _ _ ⟨i + 1, rfl, h, ?_, by simp⟩⟩
    rw [List.replicate_succ', ints_append]; rfl
  have : i = ls.length := by omega
  subst this
  simp [c_spec_MakePuzzle_L0]
  clear hJ J
  refine loop_by (fun m E H => ∃ i : Nat, m = ls.length - i ∧ i ≤ ls.length ∧ H = [some (.box [.v (.int .i64 W), .v (.int .i64 T), .sl 1 1 (bools cs)]), some (.arr 1 (ints (mkTo W T ls f i)))] ∧
    E = [(1, .sl 1 1 (ints ls)), (2, .v (.int .i64 ((f + domTo ls i : Nat) : Int))), (3, .lp 0 0 0 0), (7, .ls 1 1 0 ls.length), (9, .v (.int .i64 i))]) ls.length ⟨0, by simp [mkTo, domTo]⟩ ?_
  rintro J hJ m E H ⟨i, rfl, hi, rfl, rfl⟩
  have hml := mkTo_length W T ls f i
  by_cases h : i < ls.length
  case neg =>
    have : i = ls.length := by omega
    subst this
    simp [c_spec_MakePuzzle_L2, hml]
    exact List.take_of_length_le (by simp [hml])
  by_cases hd : domB ls i = true
  case neg =>
    have hw : ¬ (ati ls i = 1 ∨ ati ls i = 2) := by simpa [domB] using hd
    have hw1 : ¬ ati ls i = 1 := fun e => hw (.inl e)
    have hw2 : ¬ ati ls i = 2 := fun e => hw (.inr e)
    simp [c_spec_MakePuzzle_L2, h, hw1, hw2]
    refine ⟨by omega, _, by omega, hJ _ _ _ ⟨i + 1, rfl, h, ?_, ?_⟩⟩ <;> simp [mkTo, domTo, hd]
  have hw : ati ls i = 1 ∨ ati ls i = 2 := by simpa [domB] using hd
  have hdn := domTo_le ls i
  obtain ⟨o1, o2⟩ := lays_first hr hy h hw
  have one := s_spec_l2Step W T cs i (ati ls i) hr (by omega) (by omega)
  generalize hto : stepI W T i (ati ls i) = to at *
  generalize hout : mkTo W T ls f i = out at *
  generalize hN : (f + domTo ls i) % 28 = N at *
  have hN28 : N < 28 := by omega
  have next : again J (ls.length - i) [(1, .sl 1 1 (ints ls)), (2, .v (.int .i64 ((f : Int) + (domTo ls i : Nat) + 1))), (3, .lp 0 0 0 0), (7, .ls 1 1 0 ls.length), (9, .v (.int .i64 (i + 1)))]
      [some (.box [.v (.int .i64 W), .v (.int .i64 T), .sl 1 1 (bools cs)]), some (.arr 1 (ints (putP out i to.toNat (prAt N))))] := by
    refine ⟨_, by omega, hJ _ _ _ ⟨i + 1, rfl, h, ?_, ?_⟩⟩
    · simp [mkTo, hd, hto, hout, hN]
    · simp [domTo, hd, Int.add_assoc]
  have hNi : ((f : Int) + (domTo ls i : Nat)) % 28 = (N : Int) := by omega
  rcases hw with hw | hw <;> rw [hw] at one <;>
  · simp [c_spec_MakePuzzle_L2, h, hw, hNi]
    refine ⟨by omega, ?_⟩
    refine loop_by (fun b E H => ∃ a : Nat, a < 7 ∧ stN a + b = N ∧ H = [some (.box [.v (.int .i64 W), .v (.int .i64 T), .sl 1 1 (bools cs)]), some (.arr 1 (ints out))] ∧
      E = [(1, .sl 1 1 (ints ls)), (2, .v (.int .i64 ((f : Int) + (domTo ls i : Nat)))), (3, .lp 0 0 0 0), (7, .ls 1 1 0 ls.length), (9, .v (.int .i64 i)), (10, .v (.int .i64 b)), (11, .v (.int .i64 a))]) N ⟨0, by omega, by simp [stN], rfl, by simp⟩ ?_
    rintro J2 hJ2 b E H ⟨a, ha, hab, rfl, rfl⟩
    by_cases hb6 : a + b ≤ 6
    case neg =>
      have hb6' : (6 : Int) - a < b := by omega
      have hs := stN_succ ha
      have ha7 := stN_le (a := a + 1) hN28 (by omega) (by omega)
      have e1 : ((b : Int) - (6 - (a : Int) + 1)) = ((b - (7 - a) : Nat) : Int) := by omega
      simp [c_spec_MakePuzzle_L1, hb6', e1]
      refine ⟨by omega, by omega, by omega, by omega, b - (7 - a), by omega, hJ2 _ _ _ ⟨a + 1, ha7, by omega, rfl, ?_⟩⟩
      simp
    have hb6' : ¬ (6 : Int) - a < b := by omega
    have hpr : prAt N = ((a : Int), ((a + b : Nat) : Int)) := by simp only [prAt, List.getD_eq_getElem?_getD, ← hab, prL_at ha (by omega : b < 7 - a), Option.getD_some]
    rw [hpr] at next
    simp [putP] at next
    have hio : i < out.length := by omega
    have hto2 : to < out.length := by omega
    simp [c_spec_MakePuzzle_L1, hb6', hio, hml, h]
    refine ⟨by omega, ?_⟩
    simp [c_spec_MakePuzzle_D, h, hw, ints_set]
    (repeat' first | omega | apply And.intro) <;>
    · refine call_on one ?_
      simp [o1, hml, ints_set]
      exact ⟨by omega, by omega, by omega, next⟩

end Go.Proofs.Dev
