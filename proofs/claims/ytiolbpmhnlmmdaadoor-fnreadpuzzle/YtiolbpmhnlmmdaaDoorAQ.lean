/- Contracts of the functions of the program over slots and rows, each proved against the program itself; no condition beyond those that each theorem names. -/
import Derived.Test.YtiolbpmhnlmmdaaDoorAP
import Derived.Test.YtiolbpmhnlmmdaaDoorAN
import Derived.Shelf.Strings.Builder1
import Derived.Shelf.Strings.Builder2
import Derived.Shelf.Strings.OnBuilder
import Derived.Test.YtiolbpmhnlmmdaaDoorProg
import Derived.Test.YtiolbpmhnlmmdaaDoorAK
import Derived.Test.YtiolbpmhnlmmdaaDoorAL
import Derived.Test.YtiolbpmhnlmmdaaDoorAI
import Derived.Test.YtiolbpmhnlmmdaaDoorAM

set_option linter.unusedSimpArgs false
set_option linter.unusedVariables false

namespace Go.Proofs.Dev
open Go.RowKit
set_option linter.unusedSimpArgs false
set_option maxRecDepth 100000

theorem s_sign (c : UInt8) : SoundAt Tryd.prog 53 [.v (.int .u8 (c.toNat : Int))] (.v (.bool (okC c))) [.bot] := by
  have hc := c.toNat_lt
  refine fn_ok (md := mdT) (ms := [false]) k_impl_ReadPuzzle_1 (by simp) ?_
  by_cases h : c.toNat = 46
  · have h' : (c.toNat : Int) = 46 := by omega
    simp [c_impl_ReadPuzzle_1, okC, h, h']
  · have h' : ¬ (c.toNat : Int) = 46 := by omega
    by_cases h1 : 48 ≤ c.toNat
    · have h1' : (48 : Int) ≤ c.toNat := by omega
      by_cases h2 : c.toNat ≤ 54
      · have h2' : (c.toNat : Int) ≤ 54 := by omega
        simp [c_impl_ReadPuzzle_1, okC, h, h', h1, h1', h2, h2']
      · have h2' : ¬ (c.toNat : Int) ≤ 54 := by omega
        simp [c_impl_ReadPuzzle_1, okC, h, h', h1, h1', h2, h2']
    · have h1' : ¬ (48 : Int) ≤ c.toNat := by omega
      simp [c_impl_ReadPuzzle_1, okC, h, h', h1, h1']

/-- Rows of which some are filled in, from the north. -/
def full {α : Type} (d : α) (f : UInt8 → α) (W n : Nat) (rest : List UInt8) : List α := List.replicate (n * W) d ++ rest.map f
def part {α : Type} (d : α) (f : UInt8 → α) (W n x : Nat) (row rest : List UInt8) : List α := List.replicate (n * W) d ++ ((row.take x).map f ++ (List.replicate (W - x) d ++ rest.map f))
theorem part_zero {α : Type} (d : α) (f : UInt8 → α) (W n : Nat) (row rest : List UInt8) : part d f W n 0 row rest = full d f W (n + 1) rest := by
  unfold part full
  rw [Nat.succ_mul, ← List.replicate_append_replicate, List.append_assoc]
  rfl
theorem part_end {α : Type} (d : α) (f : UInt8 → α) (W n : Nat) (row rest : List UInt8) (h : row.length = W) : part d f W n W row rest = full d f W n (row ++ rest) := by
  unfold part full
  rw [List.take_of_length_le (by omega)]
  simp
theorem part_length {α : Type} (d : α) (f : UInt8 → α) (W n x : Nat) (row rest : List UInt8) (h : row.length = W) (hx : x ≤ W) : (part d f W n x row rest).length = n * W + W + rest.length := by
  unfold part
  simp
  omega
theorem part_set {α : Type} (d : α) (f : UInt8 → α) (W n x : Nat) (row rest : List UInt8) (h : row.length = W) (hx : x < row.length) : (part d f W n x row rest).set (n * W + x) (f row[x]) = part d f W n (x + 1) row rest := by
  unfold part
  rw [List.set_append_right _ _ (by simp), List.length_replicate, show n * W + x - n * W = x by omega, List.set_append_right _ _ (by simp; omega)]
  have e : x - ((row.take x).map f).length = 0 := by simp; omega
  rw [e, show W - x = (W - (x + 1)) + 1 by omega, List.replicate_succ, List.take_succ_eq_append_getElem hx, List.map_append, List.append_assoc]
  rfl

def toI (c : UInt8) : Int := (c.toNat : Int)
theorem u8s_set (xs : List Int) (i : Nat) (x : Int) : (u8s xs).set i (.v (.int .u8 x)) = u8s (xs.set i x) := by simp [u8s, List.map_set]

theorem u8s_rep (n : Nat) (x : Int) : List.replicate n (.v (.int .u8 x)) = u8s (List.replicate n x) := by simp [u8s]

abbrev rrE (W T N i : Nat) : ES := [(1, .fn 53 []), (4, .lp 0 0 0 0), (8, .v (.int .i64 W)), (9, .v (.int .i64 T)), (10, .lp 0 1 0 0), (11, .ls 1 2 0 N), (40, .ls 1 3 0 T), (41, .v (.int .i64 T)), (42, .v (.int .i64 i))]
abbrev rrE2 (W T N i : Nat) (row : List UInt8) (x : Int) : ES := [(1, .fn 53 []), (4, .lp 0 0 0 0), (8, .v (.int .i64 W)), (9, .v (.int .i64 T)), (10, .lp 0 1 0 0), (11, .ls 1 2 0 N), (12, .v (.int .i64 i)), (13, .v (tx row)), (40, .ls 1 3 0 T), (41, .v (.int .i64 T)), (42, .v (.int .i64 i)), (52, .v (.int .i64 W)), (53, .v (.int .i64 x))]
abbrev rrH (ps : List (List UInt8)) (W T N : Nat) (X : List Int) (B : List Bool) : Heap := [some (.box [.v (.int .i64 0), .v (.int .i64 0), .os 1 []]), some (.box [.v (.int .i64 W), .v (.int .i64 T), .ls 1 4 0 N]), some (.arr 1 (u8s X)), some (.arr 1 (txs ps)), some (.arr 1 (bools B))]

set_option maxHeartbeats 2000000 in
theorem rr_L0 (ps : List (List UInt8)) (W T N n i : Nat) (row rest : List UInt8) (hW : row.length = W) (hW6 : W ≤ 6) (hn : n + 1 + i = T) (hT : T ≤ 6) (hr : rest.length = i * W) (hN : N = T * W) (hps : ps.length = T) (Qc : AExit → ES → Heap → Prop)
    (hend : row.all okC = true → ∀ E, get E 1 = .fn 53 [] → get E 4 = .lp 0 0 0 0 → get E 8 = .v (.int .i64 W) → get E 9 = .v (.int .i64 T) → get E 10 = .lp 0 1 0 0 → get E 11 = .ls 1 2 0 N → get E 40 = .ls 1 3 0 T → get E 41 = .v (.int .i64 T) → get E 42 = .v (.int .i64 i) →
      Qc (.exit 2) E (rrH ps W T N (full 0 toI W n (row ++ rest)) (full false nd1 W n (row ++ rest))))
    (hbad : row.all okC = false → ∀ E X B, get E 4 = .lp 0 0 0 0 → get E 5 = .os 1 [] → get E 6 = .v (.bool false) → Qc .ret E (rrH ps W T N X B)) :
    loopNode [(11, 1), (40, 1)] [1, 4, 8, 9, 10, 11, 12, 13, 40, 41, 42, 52, 53] (awp Tryd.prog mdT c_impl_readRows_L0) Qc (rrE2 W T N i row 0) (rrH ps W T N (full 0 toI W (n + 1) rest) (full false nd1 W (n + 1) rest)) := by
  refine loop_by (fun m E H => ∃ x : Nat, m = W - x ∧ x ≤ W ∧ (row.take x).all okC = true ∧ E = rrE2 W T N i row x ∧ H = rrH ps W T N (part 0 toI W n x row rest) (part false nd1 W n x row rest)) W ⟨0, by simp [part_zero]⟩ ?_
  rintro J hJ m E H ⟨x, rfl, hx, ha, rfl, rfl⟩
  by_cases h : x < W
  · have h' : (x : Int) < (W : Int) := by omega
    have hxr : x < row.length := by omega
    have c1 : (T : Int) - 1 - (i : Int) = (n : Int) := by omega
    have c2 : (n : Int) * (W : Int) + (x : Int) = ((n * W + x : Nat) : Int) := by simp
    have n5 : n * W ≤ 5 * 6 := Nat.mul_le_mul (by omega) hW6
    have l1 := part_length (0 : Int) toI W n x row rest hW (by omega)
    have l2 := part_length false nd1 W n x row rest hW (by omega)
    have hNN : n * W + W + rest.length = N := by rw [hN, hr, ← hn, Nat.add_mul, Nat.add_mul]; omega
    have st1 := part_set (0 : Int) toI W n x row rest hW hxr
    have st2 := part_set false nd1 W n x row rest hW hxr
    have sg := s_sign row[x]
    have nx : okC row[x] = true → _ := fun hk => hJ (W - (x + 1)) (rrE2 W T N i row ((x : Int) + 1)) _ ⟨x + 1, rfl, h, by rw [List.take_succ_eq_append_getElem hxr, List.all_append, ha]; simp [hk], by simp, rfl⟩
    rw [← st1, ← st2] at nx
    have bd : okC row[x] = false → row.all okC = false := fun hk => by
      rw [List.all_eq_false]
      exact ⟨row[x], List.getElem_mem hxr, by simp [hk]⟩
    generalize part 0 toI W n x row rest = X at *
    generalize part false nd1 W n x row rest = B at *
    rw [hNN] at l1 l2
    have k0 : n * W + x < N := by omega
    have q0 : (0 : Int) ≤ (n : Int) * (W : Int) := by rw [← Int.natCast_mul]; omega
    have q1 : (n : Int) * (W : Int) ≤ 30 := by rw [← Int.natCast_mul]; omega
    have q2 : (n : Int) * (W : Int) + (x : Int) < (N : Int) := by rw [c2]; omega
    have q3 : ((n : Int) * (W : Int) + (x : Int)).toNat = n * W + x := by rw [c2]; exact Int.toNat_natCast _
    have q4 : n * W + x < X.length := by omega
    have q5 : n * W + x < B.length := by omega
    have qf : okFn Tryd.prog 53 = true := by kernel_rfl
    simp [c_impl_readRows_L0, h', hxr, c1, q0, q2, q3, q4, q5, qf]
    refine ⟨by omega, by omega, by omega, by omega, by omega, ?_⟩
    refine call_on sg ?_
    cases hk : okC row[x] with
    | true =>
      have nx := nx hk
      simp only [toI, nd1] at nx
      simp [u8s_set, bools_set]
      exact ⟨by omega, _, by omega, nx⟩
    | false =>
      have := hbad (bd hk)
      simp [u8s_set, bools_set]
      apply this <;> rfl
  · have : x = W := by omega
    subst this
    rw [List.take_of_length_le (by omega)] at ha
    rw [part_end _ _ _ _ _ _ hW, part_end _ _ _ _ _ _ hW]
    simp [c_impl_readRows_L0]
    apply hend ha <;> rfl

/-- What the rows of a text give. -/
def rrB (s : List UInt8) : Bool := decide (1 ≤ wT s ∧ wT s ≤ 6 ∧ 1 ≤ tT s ∧ tT s ≤ 6) && rowsB s
def rrA (s : List UInt8) : AV := if rrB s = true then .tup [.agg [.v (.int .i64 (wT s)), .v (.int .i64 (tT s)), .os 1 (bools (csT s))], .os 1 (u8s ((flT s).map toI)), .v (.bool (regB (wT s) (tT s) (csT s)))]
  else .tup [.agg [.v (.int .i64 0), .v (.int .i64 0), .os 1 []], .os 1 [], .v (.bool false)]

set_option maxHeartbeats 2000000 in
theorem s_impl_readRows (s : List UInt8) (hs : s.length < 2 ^ 30) : SoundAt Tryd.prog n_impl_readRows [.v (tx s), .fn 53 []] (rrA s) [.bot, .bot] := by
  have sp := s_strings_Split s 47 hs
  have hlen := cutL_le 47 s
  have hfl : (flT s).length ≤ s.length := flat_le 47 s
  have e5 : wT s = (nth (cutL 47 s) 0).length := rfl
  have e6 : tT s = (cutL 47 s).length := rfl
  have hea := cutL_each 47 s
  have i1 := s_impl_in (wT s) 1 6
  have i2 := s_impl_in (tT s) 1 6
  have hrr : rrB s = (decide (1 ≤ wT s ∧ wT s ≤ 6 ∧ 1 ≤ tT s ∧ tT s ≤ 6) && (cutL 47 s).all fun p => decide (p.length = wT s) && p.all okC) := rfl
  have e4 : flT s = (cutL 47 s).reverse.flatten := rfl
  refine fn_ok (md := mdT) (ms := [false, false]) k_impl_readRows (by simp) ?_
  obtain ⟨p, qs, hps⟩ := cutL_cons 47 s
  have h0 : 0 < (cutL 47 s).length := by rw [hps]; simp
  simp [c_impl_readRows]
  refine call_on sp ?_
  generalize cutL 47 s = ps at *
  have hg : ps[0] = nth ps 0 := by simp [nth, h0]
  have hw : (ps[0].length : Int) = (wT s : Int) := by rw [hg, e5]
  have ht : (ps.length : Int) = (tT s : Int) := by rw [e6]
  have h0t : 0 < tT s := by omega
  simp [h0, h0t, hw, ht]
  refine call_on i1 ?_
  by_cases hW : 1 ≤ wT s ∧ wT s ≤ 6
  · have hW1 : (1 : Int) ≤ (wT s : Int) := by omega
    have hW2 : (wT s : Int) ≤ 6 := by omega
    simp [hW1, hW2, hW.1, hW.2]
    refine call_on i2 ?_
    by_cases hT : 1 ≤ tT s ∧ tT s ≤ 6
    · have fi := s_impl_field (wT s) (tT s) ⟨by omega, by omega⟩ ⟨by omega, by omega⟩
      have hT1 : (1 : Int) ≤ (tT s : Int) := by omega
      have hT2 : (tT s : Int) ≤ 6 := by omega
      have rv := s_impl_RegionValid (wT s) (tT s) (csT s) (by simp [csT]; omega)
      have e2 : (flT s).map nd1 = csT s := by rw [nd1_eq]; rfl
      have hrB : rrB s = ps.all fun p => decide (p.length = wT s) && p.all okC := by rw [hrr]; simp [hW, hT]
      have rAt : rrB s = true → rrA s = .tup [.agg [.v (.int .i64 (wT s)), .v (.int .i64 (tT s)), .os 1 (bools (csT s))], .os 1 (u8s ((flT s).map toI)), .v (.bool (regB (wT s) (tT s) (csT s)))] := fun h => if_pos h
      have rAf : rrB s = false → rrA s = .tup [.agg [.v (.int .i64 0), .v (.int .i64 0), .os 1 []], .os 1 [], .v (.bool false)] := fun h => if_neg (by rw [h]; simp)
      have hN : ((wT s : Int) * (tT s : Int)).toNat = tT s * wT s := by rw [← Int.natCast_mul, Int.toNat_natCast, Nat.mul_comm]
      have hN2 : ((wT s : Int) * (tT s : Int)) = ((tT s * wT s : Nat) : Int) := by rw [Int.natCast_mul, Int.mul_comm]
      have hN3 : tT s * wT s ≤ 6 * 6 := Nat.mul_le_mul hT.2 hW.2
      have hlt : ps.length = tT s := by omega
      simp [hT1, hT2, hT.1, hT.2]
      rw [hN] at fi
      refine call_on fi ?_
      simp [hN]
      refine ⟨by omega, by omega, ?_⟩
      rw [u8s_rep, hlt]
      generalize rrB s = rb at *
      generalize rrA s = ra at *
      generalize csT s = cs at *
      generalize flT s = fl at *
      generalize regB (wT s) (tT s) cs = rg at *
      clear i1 i2 sp hs hfl e5 hg hw hps hrr
      generalize wT s = W at *
      generalize tT s = T at *
      refine loop_by (fun m E H => ∃ i : Nat, m = T - i ∧ i ≤ T ∧ ((ps.take i).all fun p => decide (p.length = W) && p.all okC) = true ∧ E = rrE W T (T * W) i ∧
        H = rrH ps W T (T * W) (full 0 toI W (T - i) (ps.take i).reverse.flatten) (full false nd1 W (T - i) (ps.take i).reverse.flatten)) T ⟨0, by simp [full]⟩ ?_
      rintro J hJ m E H ⟨i, rfl, hi, ha, rfl, rfl⟩
      by_cases h : i < T
      · have h' : (i : Int) < (T : Int) := by omega
        have hip : i < ps.length := by omega
        have hlr : ∀ p ∈ (ps.take i).reverse, p.length = W := fun p hp => by
          have := List.all_eq_true.1 ha p (List.mem_reverse.1 hp)
          simp only [Bool.and_eq_true, decide_eq_true_eq] at this
          exact this.1
        have hrl : (ps.take i).reverse.flatten.length = i * W := by rw [flat_len hlr, List.length_reverse, List.length_take, Nat.min_eq_left (by omega)]
        have hst : (ps.take (i + 1)).reverse.flatten = ps[i] ++ (ps.take i).reverse.flatten := by rw [List.take_succ_eq_append_getElem hip, List.reverse_append]; simp
        have hal : ((ps.take (i + 1)).all fun p => decide (p.length = W) && p.all okC) = (decide (ps[i].length = W) && ps[i].all okC) := by
          rw [List.take_succ_eq_append_getElem hip, List.all_append, ha]; simp
        have hbd : (decide (ps[i].length = W) && ps[i].all okC) = false → rb = false := fun hx => by
          rw [hrB, List.all_eq_false]
          exact ⟨ps[i], List.getElem_mem hip, by rw [hx]; simp⟩
        have eT : T - i = (T - (i + 1)) + 1 := by omega
        by_cases hl : ps[i].length = W
        · have nx : ps[i].all okC = true → _ := fun hx => hJ (T - (i + 1)) (rrE W T (T * W) (i + 1)) _ ⟨i + 1, rfl, h, by rw [hal, hl, hx]; simp, rfl, rfl⟩
          rw [hst] at nx
          rw [eT]
          have a1 : W ≤ 6 := hW.2
          have a2 : T - (i + 1) + 1 + i = T := by omega
          have a3 : T ≤ 6 := hT.2
          have body := rr_L0 ps W T (T * W) (T - (i + 1)) i ps[i] (ps.take i).reverse.flatten hl a1 a2 a3 hrl rfl hlt
          have hl' : (ps[i].length : Int) = (W : Int) := by omega
          generalize (ps.take i).reverse.flatten = rest at *
          simp [c_impl_readRows_L1, h', hip, hl']
          refine body _ ?_ ?_
          · intro hx E g1 g4 g8 g9 g10 g11 g40 g41 g42
            have nx := nx hx
            simp [g1, g4, g8, g9, g10, g11, g40, g41, g42]
            exact ⟨by omega, _, by omega, nx⟩
          · intro hx E X B g4 g5 g6
            rw [rAf (hbd (by rw [hx]; simp))]
            simp [g4, g5, g6]
        · have hl' : ¬ (ps[i].length : Int) = (W : Int) := by omega
          rw [rAf (hbd (by simp [hl]))]
          simp [c_impl_readRows_L1, h', hip, hl']
      · have : i = T := by omega
        subst this
        rw [List.take_of_length_le (by omega)] at ha ⊢
        rw [← e4, Nat.sub_self]
        have f1 : full (0 : Int) toI W 0 fl = fl.map toI := by simp [full]
        have f2 : full false nd1 W 0 fl = cs := by simp [full, e2]
        rw [f1, f2, rAt (by rw [hrB]; exact ha)]
        have hlr : ∀ p ∈ ps.reverse, p.length = W := fun p hp => by
          have := List.all_eq_true.1 ha p (List.mem_reverse.1 hp)
          simp only [Bool.and_eq_true, decide_eq_true_eq] at this
          exact this.1
        have hfl : fl.length = i * W := by rw [e4, flat_len hlr, List.length_reverse, hlt]
        have hcl : cs.length = i * W := by rw [← e2, List.length_map, hfl]
        have tk1 : List.take (i * W) (bools cs) = bools cs := List.take_of_length_le (by simp; omega)
        have tk2 : List.take (i * W) (u8s (fl.map toI)) = u8s (fl.map toI) := List.take_of_length_le (by simp; omega)
        simp [c_impl_readRows_L1]
        (repeat' first | omega | apply And.intro) <;>
        · refine call_on rv ?_
          simp [tk1, tk2, hfl, hcl]
    · have hrB : rrB s = false := by rw [hrr]; simp [hT]
      rw [rrA, if_neg (by rw [hrB]; simp)]
      by_cases hT1 : 1 ≤ tT s
      · have hT2 : ¬ (tT s : Int) ≤ 6 := by omega
        simp [hT1, hT2]
      · have hT2 : ¬ (1 : Int) ≤ (tT s : Int) := by omega
        simp [hT1, hT2]
  · have hrB : rrB s = false := by rw [hrr, decide_eq_false (fun h => hW ⟨h.1, h.2.1⟩)]; rfl
    rw [rrA, if_neg (by rw [hrB]; simp)]
    by_cases hW1 : 1 ≤ wT s
    · have hW2 : ¬ (wT s : Int) ≤ 6 := by omega
      simp [hW1, hW2]
    · have hW2 : ¬ (1 : Int) ≤ (wT s : Int) := by omega
      simp [hW1, hW2]

theorem u8s_getT (l : List UInt8) (i : Nat) (h : i < (u8s (l.map toI)).length) : (u8s (l.map toI))[i]'h = .v (.int .u8 ((l[i]'(by simpa using h)).toNat : Int)) := by simp [u8s, toI]

set_option maxHeartbeats 2000000 in
theorem s_impl_ReadPuzzle (s : List UInt8) (hs : s.length < 2 ^ 30) : SoundAt Tryd.prog n_impl_ReadPuzzle [.v (tx s)] (rpA s) [.bot] := by
  have rr := s_impl_readRows s hs
  have hfl : (flT s).length ≤ s.length := flat_le 47 s
  have hri : riB s = (rrB s && regB (wT s) (tT s) (csT s)) := rfl
  refine fn_ok (md := mdT) (ms := [false]) k_impl_ReadPuzzle (by simp) ?_
  by_cases hb : rrB s = true
  · rw [rrA, if_pos hb] at rr
    cases hg : regB (wT s) (tT s) (csT s) with
    | true =>
      have rA : rpA s = .tup [.agg [.v (.int .i64 (wT s)), .v (.int .i64 (tT s)), .os 1 (bools (csT s))], .os 1 (ints (dsI s)), .v (.bool true)] := if_pos (by rw [hri, hb, hg]; rfl)
      rw [rA]
      rw [hg] at rr
      have ok : ∀ c ∈ flT s, okC c = true := fun c hc => by
        simp only [rrB, Bool.and_eq_true] at hb
        obtain ⟨p, hp, hcp⟩ := List.mem_flatten.1 hc
        have := List.all_eq_true.1 hb.2 p (List.mem_reverse.1 hp)
        simp only [Bool.and_eq_true] at this
        exact List.all_eq_true.1 this.2 c hcp
      have hcs : (csT s).length = (flT s).length := by simp [csT]
      have hds : dsI s = (flT s).map dgC := rfl
      rw [hds]
      generalize flT s = fl at *
      generalize csT s = cs at *
      generalize wT s = W at *
      generalize tT s = T at *
      clear hg hb hri rA hds
      simp [c_impl_ReadPuzzle]
      refine call_on rr ?_
      simp
      refine ⟨by omega, ?_⟩
      rw [ints_rep]
      refine loop_by (fun m E H => ∃ i : Nat, m = fl.length - i ∧ i ≤ fl.length ∧ E = [(2, .lp 0 0 0 0), (5, .lp 0 1 0 0), (8, .ls 1 2 0 fl.length), (23, .ls 1 3 0 fl.length), (24, .v (.int .i64 fl.length)), (25, .v (.int .i64 i))] ∧
        H = [some (.box [.v (.int .i64 0), .v (.int .i64 0), .os 1 []]), some (.box [.v (.int .i64 W), .v (.int .i64 T), .ls 1 4 0 cs.length]), some (.arr 1 (ints (part 0 dgC fl.length 0 i fl []))), some (.arr 1 (u8s (fl.map toI))), some (.arr 1 (bools cs))]) fl.length ⟨0, by simp [part_zero, full]⟩ ?_
      rintro J hJ m E H ⟨i, rfl, hi, rfl, rfl⟩
      by_cases h : i < fl.length
      · have nx := hJ (fl.length - (i + 1)) [(2, .lp 0 0 0 0), (5, .lp 0 1 0 0), (8, .ls 1 2 0 fl.length), (23, .ls 1 3 0 fl.length), (24, .v (.int .i64 fl.length)), (25, .v (.int .i64 ((i : Int) + 1)))] _ ⟨i + 1, rfl, h, by simp, rfl⟩
        have l1 := part_length (0 : Int) dgC fl.length 0 i fl [] rfl hi
        have st := part_set (0 : Int) dgC fl.length 0 i fl [] rfl h
        simp only [Nat.zero_mul, Nat.zero_add, List.length_nil, Nat.add_zero] at st l1
        have hok := ok fl[i] (List.getElem_mem h)
        rw [← st] at nx
        generalize part 0 dgC fl.length 0 i fl [] = X at *
        have hx : i < X.length := by omega
        unfold okC at hok
        simp at hok
        by_cases h4 : fl[i].toNat = 46
        · have h4' : (fl[i].toNat : Int) = 46 := by omega
          rw [dgC, if_pos h4] at nx
          simp [c_impl_ReadPuzzle_L0, h, hx, u8s_getT, h4']
          rw [ints_set]
          exact ⟨by omega, _, by omega, nx⟩
        · have h4' : ¬ (fl[i].toNat : Int) = 46 := by omega
          rw [dgC, if_neg h4] at nx
          simp [c_impl_ReadPuzzle_L0, h, hx, u8s_getT, h4']
          have cb := fl[i].toNat_lt
          rw [ints_set]
          exact ⟨by omega, by omega, by omega, _, by omega, nx⟩
      · have : i = fl.length := by omega
        subst this
        rw [part_end _ _ _ _ _ _ rfl]
        have tk : List.take fl.length (ints (fl.map dgC)) = ints (fl.map dgC) := List.take_of_length_le (by simp)
        simp [c_impl_ReadPuzzle_L0, full, tk]
    | false =>
      have rA : rpA s = .tup [.agg [.v (.int .i64 0), .v (.int .i64 0), .os 1 []], .os 1 [], .v (.bool false)] := if_neg (by rw [hri, hb, hg]; simp)
      rw [rA]
      rw [hg] at rr
      simp [c_impl_ReadPuzzle]
      refine call_on rr ?_
      simp
  · have hb' : rrB s = false := by simpa using hb
    rw [rrA, if_neg hb] at rr
    have rA : rpA s = .tup [.agg [.v (.int .i64 0), .v (.int .i64 0), .os 1 []], .os 1 [], .v (.bool false)] := if_neg (by rw [hri, hb']; simp)
    rw [rA]
    simp [c_impl_ReadPuzzle]
    refine call_on rr ?_
    simp

end Go.Proofs.Dev

namespace Go.Proofs
open Go.Shelf
open Go.RowKit in
open Go.RowKit in
open Go.RowKit in
def Tryd.lays156_ren : Go.Shelf.Ren := ⟨fun | 156 => 87 | 165 => 112 | 166 => 48 | 169 => 49 | 240 => 75 | 241 => 132 | 276 => 91 | 277 => 141 | n => n, fun | 31 => 62 | 9 => 9 | 3 => 3 | 4 => 4 | 0 => 0 | 20 => 20 | 72 => 66 | 76 => 69 | 70 => 64 | 37 => 52 | 75 => 68 | 127 => 94 | 164 => 107 | 5 => 5 | 80 => 71 | n => n, fun | n => n⟩
theorem Tryd.lays156 : Go.Proofs.Lays.n156 Tryd.prog Tryd.lays156_ren := {
  mixed := by kernel_rfl
  f156 := Tryd.func87.trans (congrArg some (by kernel_rfl))
  f165 := Tryd.func112.trans (congrArg some (by kernel_rfl))
  f166 := Tryd.func48.trans (congrArg some (by kernel_rfl))
  f169 := Tryd.func49.trans (congrArg some (by kernel_rfl))
  f240 := Tryd.func75.trans (congrArg some (by kernel_rfl))
  f241 := Tryd.func132.trans (congrArg some (by kernel_rfl))
  f276 := Tryd.func91.trans (congrArg some (by kernel_rfl))
  f277 := Tryd.func141.trans (congrArg some (by kernel_rfl))
  t0 := Tryd.underlying0
  a0 := Tryd.isAgg0
  z0 := Tryd.sizeOf0
  v0 := Tryd.zeroValue0
  t3 := Tryd.underlying3
  a3 := Tryd.isAgg3
  z3 := Tryd.sizeOf3
  v3 := Tryd.zeroValue3
  t4 := Tryd.underlying4
  a4 := Tryd.isAgg4
  z4 := Tryd.sizeOf4
  v4 := Tryd.zeroValue4
  t9 := Tryd.underlying9
  a9 := Tryd.isAgg9
  z9 := Tryd.sizeOf9
  v9 := Tryd.zeroValue9
  t20 := Tryd.underlying20
  a20 := Tryd.isAgg20
  z20 := Tryd.sizeOf20
  v20 := Tryd.zeroValue20
  t31 := Tryd.underlying62
  a31 := Tryd.isAgg62
  z31 := Tryd.sizeOf62
  v31 := Tryd.zeroValue62
  t37 := Tryd.underlying52
  a37 := Tryd.isAgg52
  z37 := Tryd.sizeOf52
  v37 := Tryd.zeroValue52
  t70 := Tryd.underlying64
  a70 := Tryd.isAgg64
  z70 := Tryd.sizeOf64
  v70 := Tryd.zeroValue64
  t72 := Tryd.underlying66
  a72 := Tryd.isAgg66
  z72 := Tryd.sizeOf66
  v72 := Tryd.zeroValue66
  t75 := Tryd.underlying68
  a75 := Tryd.isAgg68
  z75 := Tryd.sizeOf68
  v75 := Tryd.zeroValue68
  t76 := Tryd.underlying69
  a76 := Tryd.isAgg69
  z76 := Tryd.sizeOf69
  v76 := Tryd.zeroValue69
  t127 := Tryd.underlying94
  a127 := Tryd.isAgg94
  z127 := Tryd.sizeOf94
  v127 := Tryd.zeroValue94
  t164 := Tryd.underlying107
  a164 := Tryd.isAgg107
  z164 := Tryd.sizeOf107
  v164 := Tryd.zeroValue107 }
theorem Tryd.Builder_Extra_156 : Builder.Extra Tryd.prog Tryd.lays156_ren := {
  sizeBuilder := by kernel_rfl
  liesBuilder := by kernel_rfl
  t5 := Tryd.underlying5
  a5 := Tryd.isAgg5
  z5 := Tryd.sizeOf5
  v5 := Tryd.zeroValue5
  infoByte := by kernel_rfl
  cellsByte := by kernel_rfl
  sizeByte := by kernel_rfl
  neB5 := by decide }
open Go.RowKit in
/-- No element: the empty string; the world is as it was. (Whatever the slice's address and capacity: a nil slice too.) (LAID: no walk: one application.) -/
theorem Tryd.strings_Join_none (a : Option Addr) (c : Nat) (sep : ByteArray) (w : World) :
    Calls Tryd.prog 87 #[.slice a 0 c, .string sep] w fun e w' => e = .returned (.string ⟨#[]⟩) ∧ w' = w := Any.strings_Join_none Tryd.lays156 Tryd.Builder_Extra_156 a c sep w
open Go.RowKit in
/-- strings.Join: "Join concatenates the elements of its first argument to create a single string. The separator string sep is placed between elements in the resulting string.": HOWEVER MANY ELEMENTS. Below the heap's end the world is as it was. (LAID: no walk: one application.) -/
theorem Tryd.strings_Join (bk o c : Nat) (xs : List ByteArray) (sep : ByteArray) (w : World) (hcells : ∀ (j : Nat) x, xs[j]? = some x → w.cell? ⟨bk, o + j, none⟩ = some (.string x)) (hbk : bk < w.heap.size) (hN : xs.length ≤ 140737488355328) (hcap : xs.length ≤ c) (hlen : (Lib.join (xs.map (·.data.toList)) sep.data.toList).length ≤ 140737488355328) :
    Calls Tryd.prog 87 #[.slice (some ⟨bk, o, none⟩) xs.length c, .string sep] w fun e w' => e = .returned (.string ⟨(Lib.join (xs.map (·.data.toList)) sep.data.toList).toArray⟩) ∧ Below w.heap.size w w' := Any.strings_Join Tryd.lays156 Tryd.Builder_Extra_156 bk o c xs sep w hcells hbk hN hcap hlen
end Go.Proofs

namespace Go.Proofs.Dev
open Go.RowKit
set_option linter.unusedSimpArgs false
set_option maxRecDepth 100000

theorem join_is (c : UInt8) : ∀ ls : List (List UInt8), Go.Lib.join ls [c] = joinL c ls
  | [] => rfl
  | [p] => by rw [Go.Lib.join_one]; rfl
  | p :: q :: ls => by
    have ih := join_is c (q :: ls)
    rw [Go.Lib.join_cons] at ih ⊢
    rw [joinL_cons c p (by simp), ← ih]
    simp [Go.Lib.joinTail]

theorem RL_two {C : Ctx} {a b : AV} {S : List Nat} {us : List Value} (h : RL C [a, b] S us) : ∃ S1 S2 u v, S = S1 ++ S2 ∧ us = [u, v] ∧ R C a S1 u ∧ R C b S2 v := by
  rw [RL] at h
  obtain ⟨S1, S2, u, us', rfl, rfl, h1, h2⟩ := h
  rw [RL] at h2
  obtain ⟨S3, S4, v, us2, rfl, rfl, h3, h4⟩ := h2
  rw [RL] at h4
  obtain ⟨rfl, rfl⟩ := h4
  exact ⟨S1, S3, u, v, by simp, rfl, h1, h3⟩

theorem RL_txs_us {C : Ctx} : ∀ {ls : List (List UInt8)} {S : List Nat} {us : List Value}, RL C (txs ls) S us → us = ls.map tx
  | [], S, us, h => by
    have h' : RL C [] S us := h
    rw [RL] at h'
    exact h'.2
  | x :: xs, S, us, h => by
    have h' : RL C (.v (tx x) :: txs xs) S us := h
    rw [RL] at h'
    obtain ⟨S1, S2, u, us', rfl, rfl, h1, h2⟩ := h'
    rw [R] at h1
    rw [RL_txs_us h2, h1.2]
    rfl

theorem s_strings_Join (ls : List (List UInt8)) (c : UInt8) (hn : ls.length ≤ 1000) (hl : (joinL c ls).length ≤ 1000) : SoundAt Tryd.prog 87 [.sl 1 1 (txs ls), .v (tx [c])] (.v (tx (joinL c ls))) [.bot, .bot] := by
  intro w forb us S hr hnd hlt hforb
  obtain ⟨S1, S2, u, v, rfl, rfl, h1, h2⟩ := RL_two hr
  rw [R] at h2
  obtain ⟨rfl, rfl⟩ := h2
  rw [R] at h1
  obtain ⟨rfl, a, cap, rfl, hcap, h3⟩ := h1
  have fin : ∀ w', Kept w.heap.size [] w w' → ∃ v S', Ending.returned (Value.string ⟨(joinL c ls).toArray⟩) = .returned v ∧ RL (cout w' S' forb) (.v (tx (joinL c ls)) :: [.bot, .bot]) S' (v :: [.slice a (txs ls).length cap, tx [c]]) ∧ S'.Nodup ∧ (∀ x ∈ S', x < w'.heap.size ∧ (w.heap.size ≤ x ∨ x ∈ ([] ++ [] : List Nat))) ∧ Kept w.heap.size ([] ++ []) w w' := by
    intro w' hk
    refine ⟨_, [], rfl, ?_, by simp, by simp, hk⟩
    rw [RL]; refine ⟨[], [], _, _, rfl, rfl, by rw [R]; exact ⟨rfl, rfl⟩, ?_⟩
    rw [RL]; refine ⟨[], [], _, _, rfl, rfl, by rw [R], ?_⟩
    rw [RL]; exact ⟨[], [], _, _, rfl, rfl, by rw [R], by rw [RL]; exact ⟨rfl, rfl⟩⟩
  by_cases h0 : ls = []
  · subst h0
    refine (Tryd.strings_Join_none a cap ⟨[c].toArray⟩ w).mono ?_
    rintro e w' ⟨rfl, rfl⟩
    exact fin _ (Kept.refl _ _ _)
  · rcases h3 with h3 | ⟨b, p, us, rfl, hb, _, hc, _, hrl⟩
    · exact absurd (by simpa using h3) h0
    rw [flatE_txs] at hrl
    have hus := RL_txs_us hrl
    subst hus
    have hx : (ls.map fun l => ByteArray.mk l.toArray).map (·.data.toList) = ls := by
      rw [List.map_map]
      conv => rhs; rw [← List.map_id ls]
      rfl
    have hjn : Go.Lib.join ((ls.map fun l => ByteArray.mk l.toArray).map (·.data.toList)) (ByteArray.mk [c].toArray).data.toList = joinL c ls := by rw [hx]; exact join_is c ls
    have := Tryd.strings_Join b p cap (ls.map fun l => ByteArray.mk l.toArray) ⟨[c].toArray⟩ w (fun j x hj => by
      simp only [List.getElem?_map, Option.map_eq_some_iff] at hj
      obtain ⟨l, hl, rfl⟩ := hj
      exact hc j (tx l) (by simp [hl])) hb (by simp; omega) (by simp at hcap ⊢; exact hcap) (by rw [hjn]; omega)
    rw [hjn, List.length_map] at this
    simp only [txs_length]
    refine this.mono ?_
    rintro e w' ⟨rfl, hbl⟩
    have := fin w' (kept_of_below _ hbl)
    simpa using this

theorem s_row_sign (ds : List Int) (k : Int) (h0 : 0 ≤ k) (h1 : k < ds.length) (h2 : -1 ≤ ati ds k) (h3 : ati ds k ≤ 6) :
    SoundAt Tryd.prog 66 [.v (.int .i64 k), .vp 1 [.sl 1 1 (ints ds)] 0] (.v (.int .u8 (if ati ds k < 0 then 46 else 48 + ati ds k))) [.bot, .bot] := by
  refine fn_ok (md := mdT) (ms := [false, false]) k_impl_PuzzleText_1 (by simp) ?_
  by_cases h : ati ds k < 0
  · simp [c_impl_PuzzleText_1, h0, h1, h]
  · simp [c_impl_PuzzleText_1, h0, h1, h]
    omega

abbrev rtE (ds : List Int) (k : Nat) (y : Int) : ES := [(1, .fn 66 [.vp 1 [.sl 1 1 (ints ds)] 0]), (2, .lp 0 0 0 0), (5, .ls 1 1 0 k), (6, .v (.int .i64 y))]

theorem str_of (l : List UInt8) : (l.map toI).map (fun n => UInt8.ofNat n.toNat) = l := by
  rw [List.map_map]
  conv => rhs; rw [← List.map_id l]
  apply List.map_congr_left
  intro c _
  show UInt8.ofNat (toI c).toNat = c
  apply UInt8.toNat_inj.1
  have := c.toNat_lt
  simp [toI]

abbrev rtE2 (W : Nat) (ds : List Int) (k : Nat) (y x : Int) : ES := [(1, .fn 66 [.vp 1 [.sl 1 1 (ints ds)] 0]), (2, .lp 0 0 0 0), (5, .ls 1 1 0 k), (6, .v (.int .i64 y)), (7, .ls 1 2 0 W), (20, .v (.int .i64 W)), (21, .v (.int .i64 x))]

set_option maxHeartbeats 2000000 in
theorem rt_L0 (W T : Nat) (cs : List Bool) (ds : List Int) (rs : List (List UInt8)) (y : Nat) (hW : W ≤ 6) (hT : T ≤ 6) (hy : y < T) (hl : cs.length = T * W) (hd : digsB cs ds = true) (Qc : AExit → ES → Heap → Prop)
    (hend : ∀ E, get E 1 = .fn 66 [.vp 1 [.sl 1 1 (ints ds)] 0] → get E 2 = .lp 0 0 0 0 → get E 5 = .ls 1 1 0 rs.length → get E 6 = .v (.int .i64 y) → get E 7 = .ls 1 2 0 W →
      Qc (.exit 2) E [some (.box [.v (.int .i64 W), .v (.int .i64 T), .sl 1 1 (bools cs)]), some (.arr 1 (txs rs)), some (.arr 1 (u8s ((rowC W cs ds y).map toI)))]) :
    loopNode [(5, 1), (7, 1)] [1, 2, 5, 6, 7, 20, 21] (awp Tryd.prog mdT c_impl_Region_rowsText_L0) Qc (rtE2 W ds rs.length y 0) [some (.box [.v (.int .i64 W), .v (.int .i64 T), .sl 1 1 (bools cs)]), some (.arr 1 (txs rs)), some (.arr 1 (List.replicate W (.v (.int .u8 0))))] := by
  rw [u8s_rep]
  refine loop_by (fun m E H => ∃ x : Nat, m = W - x ∧ x ≤ W ∧ E = rtE2 W ds rs.length y x ∧ H = [some (.box [.v (.int .i64 W), .v (.int .i64 T), .sl 1 1 (bools cs)]), some (.arr 1 (txs rs)), some (.arr 1 (u8s (part 0 toI W 0 x (rowC W cs ds y) [])))]) W ⟨0, by simp [part_zero, full]⟩ ?_
  rintro J hJ m E H ⟨x, rfl, hx, rfl, rfl⟩
  by_cases h : x < W
  · have h' : (x : Int) < (W : Int) := by omega
    have hxr : x < (rowC W cs ds y).length := by simp [h]
    have hc := cell_lt (T := T) hy h
    have hdd : ds.length = cs.length := by simp only [digsB, Bool.and_eq_true, decide_eq_true_eq] at hd; exact hd.1
    have hp : T * W ≤ 6 * 6 := Nat.mul_le_mul hT hW
    have e1 : (y : Int) * (W : Int) = ((y * W : Nat) : Int) := by simp
    have q0 : (0 : Int) ≤ (y : Int) * (W : Int) := by rw [e1]; omega
    have q1 : (y : Int) * (W : Int) ≤ 36 := by rw [e1]; omega
    have q2 : ((y : Int) * (W : Int) + (x : Int)) < (ds.length : Int) := by rw [e1]; omega
    have e2 : ((y : Int) * (W : Int) + (x : Int)) = ((y * W + x : Nat) : Int) := by rw [Int.natCast_add, e1]
    have hdg : digAt cs ds ((y : Int) * (W : Int) + (x : Int)) = true := by
      simp only [digsB, Bool.and_eq_true, decide_eq_true_eq, allB_iff] at hd
      rw [e2]
      exact hd.2 (y * W + x) (by omega)
    have es : (if ati ds ((y : Int) * (W : Int) + (x : Int)) < 0 then (46 : Int) else 48 + ati ds ((y : Int) * (W : Int) + (x : Int))) = toI (rowC W cs ds y)[x] := by
      have e3 : (rowC W cs ds y)[x] = if atb cs ((y : Int) * (W : Int) + (x : Int)) then b8 (48 + ati ds ((y : Int) * (W : Int) + (x : Int))) else 46 := by
        rw [e2]; simp only [rowC, List.getElem_map, List.getElem_range]; rfl
      rw [e3]
      unfold digAt at hdg
      cases hb : atb cs ((y : Int) * (W : Int) + (x : Int)) with
      | true =>
        rw [hb] at hdg
        simp at hdg
        rw [if_neg (by omega), if_pos rfl, toI, b8_toNat (by omega) (by omega)]
        omega
      | false =>
        rw [hb] at hdg
        simp at hdg
        rw [hdg]
        rfl
    have sg := s_row_sign ds ((y : Int) * (W : Int) + (x : Int)) (by omega) q2 (by
      unfold digAt at hdg
      split at hdg <;> simp at hdg <;> omega) (by
      unfold digAt at hdg
      split at hdg <;> simp at hdg <;> omega)
    rw [es] at sg
    have st := part_set (0 : Int) toI W 0 x (rowC W cs ds y) [] (by simp) hxr
    have l1 := part_length (0 : Int) toI W 0 x (rowC W cs ds y) [] (by simp) hx
    simp only [Nat.zero_mul, Nat.zero_add, List.length_nil, Nat.add_zero] at st l1
    have nx := hJ (W - (x + 1)) (rtE2 W ds rs.length y ((x : Int) + 1)) _ ⟨x + 1, rfl, h, by simp, rfl⟩
    rw [← st] at nx
    generalize part 0 toI W 0 x (rowC W cs ds y) [] = X at *
    generalize toI (rowC W cs ds y)[x] = z at *
    have hX : x < X.length := by omega
    have qf : okFn Tryd.prog 66 = true := by kernel_rfl
    simp [c_impl_Region_rowsText_L0, h', hX, qf, h]
    refine ⟨by omega, by omega, ?_⟩
    refine call_on sg ?_
    simp [u8s_set, hX, h]
    exact ⟨by omega, _, by omega, nx⟩
  · have : x = W := by omega
    subst this
    rw [part_end _ _ _ _ _ _ (by simp)]
    simp [c_impl_Region_rowsText_L0, full]
    apply hend <;> rfl

set_option maxHeartbeats 2000000 in
theorem s_impl_rowsText (W T : Nat) (cs : List Bool) (ds : List Int) (hr : regB W T cs = true) (hg : digsB cs ds = true) :
    SoundAt Tryd.prog n_impl_Region_rowsText [.agg [.v (.int .i64 W), .v (.int .i64 T), .sl 1 1 (bools cs)], .fn 66 [.vp 1 [.sl 1 1 (ints ds)] 0]] (.v (tx (joinL 47 (rowsC W cs ds T)))) [.bot, .bot] := by
  refine fn_ok (md := mdT) (ms := [false, false]) k_impl_Region_rowsText (by simp) ?_
  have hr' := hr
  simp only [regB, decide_eq_true_eq] at hr'
  obtain ⟨w1, w2, t1, t2, hl, _⟩ := hr'
  have hW6 : W ≤ 6 := by omega
  have hT6 : T ≤ 6 := by omega
  have hl' : cs.length = T * W := by
    have : (cs.length : Int) = ((T * W : Nat) : Int) := by rw [hl, Int.natCast_mul, Int.mul_comm]
    exact Int.ofNat.inj this
  have tot := join_len cs ds T (W := W)
  have hp : T * (W + 1) ≤ 6 * 7 := Nat.mul_le_mul hT6 (by omega)
  have jn := s_strings_Join (rowsC W cs ds T) 47 (by simp; omega) (by omega)
  simp [c_impl_Region_rowsText]
  refine ⟨by omega, ?_⟩
  refine loop_by (fun m E H => ∃ (n : Nat) (rs : List (List UInt8)), n = m ∧ n ≤ T ∧ rs ++ rowsC W cs ds n = rowsC W cs ds T ∧ E = rtE ds rs.length ((n : Int) - 1) ∧
    H = [some (.box [.v (.int .i64 W), .v (.int .i64 T), .sl 1 1 (bools cs)]), some (.arr 1 (txs rs))]) T ⟨T, [], by simp⟩ ?_
  rintro J hJ m E H ⟨n, rs, rfl, hn, ho, rfl, rfl⟩
  cases n with
  | zero =>
    have ho' : rs = rowsC W cs ds T := by simpa [rowsC] using ho
    subst ho'
    rw [rowsC_length]
    have tk : List.take T (txs (rowsC W cs ds T)) = txs (rowsC W cs ds T) := List.take_of_length_le (by simp)
    simp [c_impl_Region_rowsText_L1]
    refine call_on jn ?_
    simp [tk]
  | succ n =>
    have la : rs.length ≤ 6 := by have := congrArg List.length ho; rw [List.length_append, rowsC_length, rowsC_length] at this; omega
    have e1 : ((n + 1 : Nat) : Int) - 1 = (n : Int) := by omega
    have w0 : (0 : Int) ≤ (W : Int) := by omega
    rw [e1]
    have nx := hJ n (rtE ds (rs ++ [rowC W cs ds n]).length ((n : Int) - 1)) _ ⟨n, rs ++ [rowC W cs ds n], rfl, by omega, by rw [← ho, rowsC]; simp, rfl, rfl⟩
    rw [txs_append, txs_one, List.length_append, List.length_singleton] at nx
    have body := rt_L0 W T cs ds rs n hW6 hT6 (by omega) hl' hg
    simp [c_impl_Region_rowsText_L1, w0]
    refine ⟨by omega, ?_⟩
    refine body _ ?_
    intro E g1 g2 g5 g6 g7
    have tk : List.take W (u8s ((rowC W cs ds n).map toI)) = u8s ((rowC W cs ds n).map toI) := List.take_of_length_le (by simp)
    have hst := str_of (rowC W cs ds n)
    have hrw : W ≤ (rowC W cs ds n).length := by simp
    generalize rowC W cs ds n = row at *
    rw [List.map_map] at hst
    simp [g1, g2, g5, g6, g7, tk, hst, hrw, astr]
    exact ⟨by omega, by omega, _, by omega, nx⟩

theorem s_impl_PuzzleText (W T : Nat) (cs : List Bool) (ds : List Int) (hb : cs.length < 2 ^ 40) (hd : ds.length < 2 ^ 40) :
    SoundAt Tryd.prog n_impl_PuzzleText [.agg [.v (.int .i64 W), .v (.int .i64 T), .sl 1 1 (bools cs)], .sl 1 1 (ints ds)] (.v (tx (ptext W T cs ds))) [.bot, .bot] := by
  have pv := s_impl_PuzzleValid W T cs ds hb hd
  refine fn_ok (md := mdT) (ms := [false, false]) k_impl_PuzzleText (by simp) ?_
  by_cases hv : (regB W T cs && digsB cs ds) = true
  · rw [ptext, if_pos hv]
    rw [hv] at pv
    simp only [Bool.and_eq_true] at hv
    have rt := s_impl_rowsText W T cs ds hv.1 hv.2
    simp [c_impl_PuzzleText]
    refine call_on pv ?_
    simp
    refine call_on rt ?_
    simp
  · have hv' : (regB W T cs && digsB cs ds) = false := by simpa using hv
    rw [ptext, if_neg hv]
    rw [hv'] at pv
    simp [c_impl_PuzzleText]
    refine call_on pv ?_
    simp

end Go.Proofs.Dev

namespace Go.Proofs.Dev
open Go.RowKit
set_option linter.unusedSimpArgs false
set_option maxRecDepth 100000

def drawPT (r : AV) (ups : List AV) : Prop := ∃ (W T : Nat) (cs : List Bool) (ds : List Int), r = .tup [regA W T cs, .os 1 (ints ds)] ∧ cs.length ≤ 37 ∧ ds.length ≤ 37 ∧ W ≤ 6 ∧ T ≤ 24 ∧ ups = [.bot]
def drawRP (r : AV) (ups : List AV) : Prop := ∃ s : List UInt8, r = .v (tx s) ∧ s.length ≤ 201 ∧ ups = [.bot]

section
variable (bs : List Int) (hb : bs.length ≤ 2 ^ 60) (hB : Byt bs)
include hb hB

theorem s_spec_DrawPuzzleText : SoundSet Tryd.prog n_spec_DrawPuzzleText [.sl 0 1 (u8s bs)] drawPT := by
  refine fn_okS (md := md5) (ms := [false]) k_spec_DrawPuzzleText (by simp) ?_
  simp [c_spec_DrawPuzzleText]
  refine call_on (s_spec_l20Open bs hb) ?_
  simp
  refine call_onK (s_spec_l20Puzzle (bs.take 2000) 0 6 (by simp; omega) (byt_take hB 2000) (by omega) (by omega) (by omega)) [1] (by simp) (by simp) (by simp) ?_
  rintro _ _ ⟨W, T, cs, ds, q, rfl, hcs, hds, ⟨w0, w1, t0, t1⟩, hq, rfl⟩
  obtain ⟨W, rfl⟩ := Int.eq_ofNat_of_zero_le w0
  obtain ⟨T, rfl⟩ := Int.eq_ofNat_of_zero_le t0
  simp [regA]
  refine ⟨_, _, ⟨W, T, cs, ds, rfl, hcs, hds, by omega, by omega, rfl⟩, ?_⟩
  simp [regA]

set_option maxHeartbeats 1000000 in
theorem s_spec_DrawReadPuzzle : SoundSet Tryd.prog n_spec_DrawReadPuzzle [.sl 0 1 (u8s bs)] drawRP := by
  have hB' := byt_take hB 2000
  have hb' : (bs.take 2000).length ≤ 2000 := by rw [List.length_take]; exact Nat.min_le_left _ _
  refine fn_okS (md := md5) (ms := [false]) k_spec_DrawReadPuzzle (by simp) ?_
  simp [c_spec_DrawReadPuzzle]
  refine call_on (s_spec_l20Open bs hb) ?_
  generalize bs.take 2000 = bt at *
  simp
  refine call_onK (s_spec_l20Puzzle bt 0 0 hb' hB' (by omega) (by omega) (by omega)) [0] (by simp) (by simp) (by simp) ?_
  rintro _ _ ⟨W, T, cs, ds, q, rfl, hcs, hds, ⟨w0, w1, t0, t1⟩, hq, rfl⟩
  obtain ⟨W, rfl⟩ := Int.eq_ofNat_of_zero_le w0
  obtain ⟨T, rfl⟩ := Int.eq_ofNat_of_zero_le t0
  simp [regA]
  have pt := s_spec_PuzzleText W T cs ds (by omega) (by omega) (by omega)
  have hl : (ptext W T cs ds).length ≤ 100 := by
    unfold ptext
    split
    · rename_i hv
      simp only [Bool.and_eq_true, regB, decide_eq_true_eq] at hv
      have := join_len cs ds T (W := W)
      have hp : T * (W + 1) ≤ 6 * 7 := Nat.mul_le_mul (by omega) (by omega)
      simp only [Int.toNat_natCast]
      omega
    · simp
  refine call_on pt ?_
  generalize ptext W T cs ds = s at *
  simp
  refine call_onK (s_spec_l20Rd_pick bt q 3 hb' hB' (by omega)) [0] (by simp) (by simp) (by simp) ?_
  rintro _ _ ⟨x, x0, x1, rfl, rfl⟩
  by_cases hx : x = 0
  · by_cases h0 : 0 < s.length
    · simp [hx, h0]
      refine call_onK (s_spec_l20Rd_pick bt (q + 1) s.length hb' hB' (by omega)) [0] (by simp) (by simp) (by simp) ?_
      rintro _ _ ⟨k, k0, k1, rfl, rfl⟩
      obtain ⟨k, rfl⟩ := Int.eq_ofNat_of_zero_le k0
      have hk1 : (0 : Int) ≤ (k : Int) + 1 := by omega
      have hk2 : k + 1 ≤ s.length := by omega
      have hk3 : k ≤ s.length := by omega
      simp [hk1, hk2, hk3]
      refine ⟨by omega, ?_⟩
      have lt : (List.take k s).length ≤ 100 := by rw [List.length_take]; omega
      have ld : (List.take (s.length - (k + 1)) (List.drop (k + 1) s)).length ≤ 100 := by rw [List.length_take]; omega
      generalize List.take k s = a at *
      generalize List.take (s.length - (k + 1)) (List.drop (k + 1) s) = b at *
      have fin : ∀ o : List UInt8, o.length ≤ 201 → drawRP (.v (tx o)) [.bot] := fun o h => ⟨o, rfl, h, rfl⟩
      refine ⟨?_, ?_⟩ <;>
      · refine call_onK (s_spec_l20Rd_pick bt (q + 1 + 1) 5 hb' hB' (by omega)) [0] (by simp) (by simp) (by simp) ?_
        rintro _ _ ⟨y, y0, y1, rfl, rfl⟩
        obtain rfl | rfl | rfl | rfl | rfl : y = 0 ∨ y = 1 ∨ y = 2 ∨ y = 3 ∨ y = 4 := by omega
        all_goals
          simp
          refine ⟨by omega, by omega, ?_⟩
          first
          | (refine ⟨_, _, fin (a ++ b) (by simp; omega), ?_⟩; simp; done)
          | (refine ⟨_, _, fin (a ++ 48 :: b) (by simp; omega), ?_⟩; simp; done)
          | (refine ⟨_, _, fin (a ++ 46 :: b) (by simp; omega), ?_⟩; simp; done)
          | (refine ⟨_, _, fin (a ++ 47 :: b) (by simp; omega), ?_⟩; simp; done)
          | (refine ⟨_, _, fin (a ++ 55 :: b) (by simp; omega), ?_⟩; simp; done)
    · simp [hx, h0, c_spec_DrawReadPuzzle_T0]
      exact ⟨_, _, ⟨s, rfl, by omega, rfl⟩, by simp⟩
  · simp [hx, c_spec_DrawReadPuzzle_T0]
    exact ⟨_, _, ⟨s, rfl, by omega, rfl⟩, by simp⟩

end
end Go.Proofs.Dev

namespace Go.Proofs.Dev
end Go.Proofs.Dev

namespace Go.Proofs.Dev
set_option linter.unusedSimpArgs false
set_option maxRecDepth 100000

@[simp] def deedV (kind spot way : Int) : AV := .agg [.v (.int .i64 kind), .v (.int .i64 spot), .v (.int .i64 way)]
attribute [simp] anil
def rawL (us : List Value) : List AV := us.map AV.v
@[simp] theorem rawL_length (us : List Value) : (rawL us).length = us.length := by simp [rawL]
@[simp] def mdo (f : Nat) : List Bool := if f = 999999 then [true, false] else []
@[simp] def boxO (W T : Int) (cs : List Bool) (ds ls : List Int) (ps : List (List Int)) : AV := .op [.v (.int .i64 W), .v (.int .i64 T), .os 1 (bools cs), .os 1 (ints ds), .os 1 (ints ls), .os 1 (oss ps)]

end Go.Proofs.Dev

namespace Go.Proofs.Dev
set_option linter.unusedSimpArgs false
set_option maxRecDepth 100000

end Go.Proofs.Dev

namespace Go.Proofs.Dev
set_option linter.unusedSimpArgs false
set_option maxRecDepth 100000

end Go.Proofs.Dev

namespace Go.Proofs.Dev
set_option linter.unusedSimpArgs false
set_option maxRecDepth 100000

end Go.Proofs.Dev

namespace Go.Proofs.Dev

-- 2 parameters, results [.t 4], 34 slots, modes [true, false]
@[simp] abbrev n_laws_markDeedS : Nat := 31
-- 1 parameters, results [.t 2], 9 slots, modes [true]
@[simp] abbrev n_slices_Clip_impl_Deed_impl_Deed : Nat := 62

end Go.Proofs.Dev

namespace Go.Proofs.Dev
set_option linter.unusedSimpArgs false
set_option maxRecDepth 100000

@[simp] def md3 (f : Nat) : List Bool := if f = n_laws_markDeedS then [true, false] else if f = n_slices_Clip_impl_Deed_impl_Deed then [true] else md0 f

def deedA (d : Int × Int × Int) : AV := .agg [.v (.int .i64 d.1), .v (.int .i64 d.2.1), .v (.int .i64 d.2.2)]
def dsA (xs : List (Int × Int × Int)) : List AV := xs.map deedA
@[simp] theorem dsA_length (xs : List (Int × Int × Int)) : (dsA xs).length = xs.length := by simp [dsA]
@[simp] theorem dsA_nil : dsA [] = [] := rfl
@[simp] theorem dsA_getE {xs : List (Int × Int × Int)} {i : Nat} (h : i < (dsA xs).length) : (dsA xs)[i] = deedA (xs[i]'(by simpa using h)) := by simp [dsA]

def marks3 (n : Nat) (k : Int) : List (Int × Int × Int) := (List.range n).map fun j : Nat => (k + 3 * j, k + 3 * j + 1, k + 3 * j + 2)
@[simp] theorem marks3_length (n : Nat) (k : Int) : (marks3 n k).length = n := by simp [marks3]
end Go.Proofs.Dev

namespace Go.Proofs.Dev
set_option linter.unusedSimpArgs false
set_option maxRecDepth 100000

end Go.Proofs.Dev

namespace Go.Proofs.Dev
end Go.Proofs.Dev

namespace Go.Proofs.Dev
set_option linter.unusedSimpArgs false
set_option maxRecDepth 100000

end Go.Proofs.Dev

namespace Go.Proofs.Dev
end Go.Proofs.Dev

namespace Go.Proofs.Dev
set_option linter.unusedSimpArgs false
set_option maxRecDepth 100000

end Go.Proofs.Dev

namespace Go.Proofs.Dev
set_option linter.unusedSimpArgs false
set_option maxRecDepth 100000

end Go.Proofs.Dev

namespace Go.Proofs.Dev

end Go.Proofs.Dev

namespace Go.Proofs.Dev

end Go.Proofs.Dev

namespace Go.Proofs.Dev

end Go.Proofs.Dev

namespace Go.Proofs.Dev

end Go.Proofs.Dev

namespace Go.Proofs.Dev

-- 2 parameters, results [.t 4], 26 slots, modes [false, false]
@[simp] abbrev n_laws_sameBools : Nat := 72
def c_laws_sameBools_L0 : ACode := .seq (.seq (.reg [.m 11 5, .m 12 0, .n 13 12, .o 14 (.bin .lss 0) [.t 11, .t 13]]) <| .cond (.t 14) ( .skip) ( .exit 0)) <|
 .seq (.block 1 ( .seq (.draw ( .take (.m 17 0) <| .take (.m 18 5) <| .take (.o 19 (.iadr 1) [.t 17, .t 18]) <| .take (.m 21 1) <| .take (.m 22 5) <|
 .take (.o 23 (.iadr 1) [.t 21, .t 22]) <| .alt (.l 20 19) ( .al (.l 24 23) ( .take (.o 25 (.bin .neq 2) [.t 20, .t 24]) <| .done)) <|
 .al (.l 24 23) ( .al (.l 20 19) ( .take (.o 25 (.bin .neq 2) [.t 20, .t 24]) <| .done)))) <| .cond (.t 25) ( .seq (.reg [.o 4 .mv [.kb false]]) <|
 .ret) ( .skip))) <| .reg [.m 15 5, .o 16 (.bin .add 0) [.t 15, .k 1], .m 5 16]

def c_laws_sameBools : ACode := .seq (.reg [.o 4 .mv [.kb false]]) <| .seq (.seq (.reg [.m 6 0, .n 7 6, .m 8 1, .n 9 8, .o 10 (.bin .neq 0) [.t 7, .t 9]]) <|
 .cond (.t 10) ( .seq (.reg [.o 4 .mv [.kb false]]) <| .ret) ( .skip)) <| .seq (.seq (.reg [.o 5 .mv [.k 0]]) <| .block 0 ( .loop [(0, 1), (1, 1)] [0, 1,
 5] c_laws_sameBools_L0)) <| .seq (.reg [.o 4 .mv [.kb true]]) <| .ret

theorem k_laws_sameBools : cFn Tryd.prog n_laws_sameBools 26 [.t 4] c_laws_sameBools := ⟨Tryd.f72, _, Tryd.func72, rfl, by kernel_rfl, by kernel_rfl, by kernel_rfl, by kernel_rfl⟩

-- 2 parameters, results [.t 4], 24 slots, modes [false, false]
@[simp] abbrev n_laws_sameRegion : Nat := 38

def c_laws_sameRegion : ACode := .seq (.reg [.o 2 .box [.t 0], .o 3 .box [.t 1], .o 4 .mv [.kb false]]) <| .seq (.reg [.f 5 0 2, .l 6 5, .f 7 0 3, .l 8 7,
 .o 9 (.bin .eql 0) [.t 6, .t 8], .m 10 9, .fg 11 1 2 10 true, .lg 12 11 10 true, .fg 13 1 3 10 true, .lg 14 13 10 true, .g 15 (.bin .eql 0) [.t 12,
 .t 14] 10 true, .o 16 .pick [.t 10, .t 15, .kb false], .m 17 16, .fg 18 2 2 17 true, .lg 19 18 17 true, .fg 20 2 3 17 true, .lg 21 20 17 true,
 .g 22 (.call 72 []) [.t 19, .t 21] 17 true, .o 23 .pick [.t 17, .t 22, .kb false], .m 4 23]) <| .ret

theorem k_laws_sameRegion : cFn Tryd.prog n_laws_sameRegion 24 [.t 4] c_laws_sameRegion := ⟨Tryd.f38, _, Tryd.func38, rfl, by kernel_rfl, by kernel_rfl, by kernel_rfl, by kernel_rfl⟩

end Go.Proofs.Dev

namespace Go.Proofs.Dev
set_option linter.unusedSimpArgs false
set_option maxRecDepth 100000

theorem s_laws_sameBools (xs ys : List Bool) (ha : xs.length < 2 ^ 40) :
    SoundAt Tryd.prog n_laws_sameBools [.sl 1 1 (bools xs), .sl 1 1 (bools ys)] (.v (.bool (decide (xs = ys)))) [.bot, .bot] := by
  refine fn_ok (md := md0) (ms := [false, false]) k_laws_sameBools (by simp) ?_
  simp [c_laws_sameBools]
  refine ⟨fun h => ?_, fun hl => ?_⟩
  · intro e; subst e; exact h rfl
  refine loop_by (fun m E H => ∃ i : Nat, m = xs.length - i ∧ i ≤ xs.length ∧ xs.take i = ys.take i ∧ H = [] ∧ E = [(0, .sl 1 1 (bools xs)), (1, .sl 1 1 (bools ys)), (5, .v (.int .i64 i))]) xs.length ⟨0, by simp⟩ ?_
  rintro J hJ m E H ⟨i, rfl, hi, he, rfl, rfl⟩
  by_cases h : i < xs.length
  case neg =>
    have h1 : i = xs.length := by omega
    subst h1
    have e : xs = ys := by
      rw [List.take_length] at he
      rw [he]; exact List.take_of_length_le (by omega)
    simp [c_laws_sameBools_L0, e]
  have h2 : i < ys.length := by omega
  have key : (atb xs i = atb ys i) → xs.take (i + 1) = ys.take (i + 1) := by
    intro e
    rw [List.take_succ_eq_append_getElem h, List.take_succ_eq_append_getElem (by omega), he]
    simp [atb, h, h2] at e
    rw [e]
  have key2 : ¬ (atb xs i = atb ys i) → ¬ xs = ys := fun e e2 => e (by rw [e2])
  by_cases e : atb xs i = atb ys i
  · simp [c_laws_sameBools_L0, h, h2, e]
    exact ⟨by omega, _, by omega, hJ _ _ _ ⟨i + 1, rfl, h, key e, rfl, rfl⟩⟩
  · have e2 : (atb xs i == atb ys i) = false := by simpa using e
    simp [c_laws_sameBools_L0, h, h2, e, e2, key2 e]

def sameR (W T : Int) (cs : List Bool) (W2 T2 : Int) (cs2 : List Bool) : Bool := (decide (W = W2) && decide (T = T2)) && decide (cs = cs2)
theorem sameR_self (W T : Int) (cs : List Bool) : sameR W T cs W T cs = true := by simp [sameR]
theorem s_laws_sameRegion (W T : Int) (cs : List Bool) (W2 T2 : Int) (cs2 : List Bool) (ha : cs.length < 2 ^ 40) :
    SoundAt Tryd.prog n_laws_sameRegion [.agg [.v (.int .i64 W), .v (.int .i64 T), .sl 1 1 (bools cs)], .agg [.v (.int .i64 W2), .v (.int .i64 T2), .sl 1 1 (bools cs2)]] (.v (.bool (sameR W T cs W2 T2 cs2))) [.bot, .bot] := by
  refine fn_ok (md := md0) (ms := [false, false]) k_laws_sameRegion (by simp) ?_
  unfold sameR
  by_cases h1 : W = W2
  · by_cases h2 : T = T2
    · simp [c_laws_sameRegion, h1, h2]
      refine call_on (s_laws_sameBools cs cs2 ha) ?_
      simp
    · simp [c_laws_sameRegion, h1, h2]
  · simp [c_laws_sameRegion, h1]

end Go.Proofs.Dev

namespace Go.Proofs.Dev
set_option linter.unusedSimpArgs false
set_option maxRecDepth 100000

end Go.Proofs.Dev
