/- Contracts of the functions of the program over slots and rows, each proved against the program itself; no condition beyond those that each theorem names. -/
import Derived.Test.YtiolbpmhnlmmdaaDoorAL
import Derived.Test.YtiolbpmhnlmmdaaDoorAN
import Derived.Test.YtiolbpmhnlmmdaaDoorAM
import Derived.Test.YtiolbpmhnlmmdaaDoorProg
import Derived.Test.YtiolbpmhnlmmdaaDoorAJ

set_option linter.unusedSimpArgs false
set_option linter.unusedVariables false

namespace Go.Proofs.Dev
open Go.RowKit
set_option linter.unusedSimpArgs false
set_option maxRecDepth 100000

theorem s_sign (c : UInt8) : SoundAt Tryd.prog 53 [.v (.int .u8 (c.toNat : Int))] (.v (.bool (okC c))) [.bot] := by
  have hc := c.toNat_lt
  refine fn_ok (md := mdT) (ms := [false]) k_impl_ReadPuzzle_1 (by simp) ?_
  by_cases h : c.toNat = 46
  · have h' : (c.toNat : Int) = 46 := by omega
    simp [c_impl_ReadPuzzle_1, okC, h, h']
  · have h' : ¬ (c.toNat : Int) = 46 := by omega
    by_cases h1 : 48 ≤ c.toNat
    · have h1' : (48 : Int) ≤ c.toNat := by omega
      by_cases h2 : c.toNat ≤ 54
      · have h2' : (c.toNat : Int) ≤ 54 := by omega
        simp [c_impl_ReadPuzzle_1, okC, h, h', h1, h1', h2, h2']
      · have h2' : ¬ (c.toNat : Int) ≤ 54 := by omega
        simp [c_impl_ReadPuzzle_1, okC, h, h', h1, h1', h2, h2']
    · have h1' : ¬ (48 : Int) ≤ c.toNat := by omega
      simp [c_impl_ReadPuzzle_1, okC, h, h', h1, h1']

/-- Rows of which some are filled in, from the north. -/
def full {α : Type} (d : α) (f : UInt8 → α) (W n : Nat) (rest : List UInt8) : List α := List.replicate (n * W) d ++ rest.map f
def part {α : Type} (d : α) (f : UInt8 → α) (W n x : Nat) (row rest : List UInt8) : List α := List.replicate (n * W) d ++ ((row.take x).map f ++ (List.replicate (W - x) d ++ rest.map f))
theorem part_zero {α : Type} (d : α) (f : UInt8 → α) (W n : Nat) (row rest : List UInt8) : part d f W n 0 row rest = full d f W (n + 1) rest := by
  unfold part full
  rw [Nat.succ_mul, ← List.replicate_append_replicate, List.append_assoc]
  rfl
theorem part_end {α : Type} (d : α) (f : UInt8 → α) (W n : Nat) (row rest : List UInt8) (h : row.length = W) : part d f W n W row rest = full d f W n (row ++ rest) := by
  unfold part full
  rw [List.take_of_length_le (by omega)]
  simp
theorem part_length {α : Type} (d : α) (f : UInt8 → α) (W n x : Nat) (row rest : List UInt8) (h : row.length = W) (hx : x ≤ W) : (part d f W n x row rest).length = n * W + W + rest.length := by
  unfold part
  simp
  omega
theorem part_set {α : Type} (d : α) (f : UInt8 → α) (W n x : Nat) (row rest : List UInt8) (h : row.length = W) (hx : x < row.length) : (part d f W n x row rest).set (n * W + x) (f row[x]) = part d f W n (x + 1) row rest := by
  unfold part
  rw [List.set_append_right _ _ (by simp), List.length_replicate, show n * W + x - n * W = x by omega, List.set_append_right _ _ (by simp; omega)]
  have e : x - ((row.take x).map f).length = 0 := by simp; omega
  rw [e, show W - x = (W - (x + 1)) + 1 by omega, List.replicate_succ, List.take_succ_eq_append_getElem hx, List.map_append, List.append_assoc]
  rfl

def toI (c : UInt8) : Int := (c.toNat : Int)
theorem u8s_set (xs : List Int) (i : Nat) (x : Int) : (u8s xs).set i (.v (.int .u8 x)) = u8s (xs.set i x) := by simp [u8s, List.map_set]

theorem u8s_rep (n : Nat) (x : Int) : List.replicate n (.v (.int .u8 x)) = u8s (List.replicate n x) := by simp [u8s]

abbrev rrE (W T N i : Nat) : ES := [(1, .fn 53 []), (4, .lp 0 0 0 0), (8, .v (.int .i64 W)), (9, .v (.int .i64 T)), (10, .lp 0 1 0 0), (11, .ls 1 2 0 N), (40, .ls 1 3 0 T), (41, .v (.int .i64 T)), (42, .v (.int .i64 i))]
abbrev rrE2 (W T N i : Nat) (row : List UInt8) (x : Int) : ES := [(1, .fn 53 []), (4, .lp 0 0 0 0), (8, .v (.int .i64 W)), (9, .v (.int .i64 T)), (10, .lp 0 1 0 0), (11, .ls 1 2 0 N), (12, .v (.int .i64 i)), (13, .v (tx row)), (40, .ls 1 3 0 T), (41, .v (.int .i64 T)), (42, .v (.int .i64 i)), (52, .v (.int .i64 W)), (53, .v (.int .i64 x))]
abbrev rrH (ps : List (List UInt8)) (W T N : Nat) (X : List Int) (B : List Bool) : Heap := [some (.box [.v (.int .i64 0), .v (.int .i64 0), .os 1 []]), some (.box [.v (.int .i64 W), .v (.int .i64 T), .ls 1 4 0 N]), some (.arr 1 (u8s X)), some (.arr 1 (txs ps)), some (.arr 1 (bools B))]

set_option maxHeartbeats 2000000 in
theorem rr_L0 (ps : List (List UInt8)) (W T N n i : Nat) (row rest : List UInt8) (hW : row.length = W) (hW6 : W ≤ 6) (hn : n + 1 + i = T) (hT : T ≤ 6) (hr : rest.length = i * W) (hN : N = T * W) (hps : ps.length = T) (Qc : AExit → ES → Heap → Prop)
    (hend : row.all okC = true → ∀ E, get E 1 = .fn 53 [] → get E 4 = .lp 0 0 0 0 → get E 8 = .v (.int .i64 W) → get E 9 = .v (.int .i64 T) → get E 10 = .lp 0 1 0 0 → get E 11 = .ls 1 2 0 N → get E 40 = .ls 1 3 0 T → get E 41 = .v (.int .i64 T) → get E 42 = .v (.int .i64 i) →
      Qc (.exit 2) E (rrH ps W T N (full 0 toI W n (row ++ rest)) (full false nd1 W n (row ++ rest))))
    (hbad : row.all okC = false → ∀ E X B, get E 4 = .lp 0 0 0 0 → get E 5 = .os 1 [] → get E 6 = .v (.bool false) → Qc .ret E (rrH ps W T N X B)) :
    loopNode [(11, 1), (40, 1)] [1, 4, 8, 9, 10, 11, 12, 13, 40, 41, 42, 52, 53] (awp Tryd.prog mdT c_impl_readRows_L0) Qc (rrE2 W T N i row 0) (rrH ps W T N (full 0 toI W (n + 1) rest) (full false nd1 W (n + 1) rest)) := by
  refine loop_by (fun m E H => ∃ x : Nat, m = W - x ∧ x ≤ W ∧ (row.take x).all okC = true ∧ E = rrE2 W T N i row x ∧ H = rrH ps W T N (part 0 toI W n x row rest) (part false nd1 W n x row rest)) W ⟨0, by simp [part_zero]⟩ ?_
  rintro J hJ m E H ⟨x, rfl, hx, ha, rfl, rfl⟩
  by_cases h : x < W
  · have h' : (x : Int) < (W : Int) := by omega
    have hxr : x < row.length := by omega
    have c1 : (T : Int) - 1 - (i : Int) = (n : Int) := by omega
    have c2 : (n : Int) * (W : Int) + (x : Int) = ((n * W + x : Nat) : Int) := by simp
    have n5 : n * W ≤ 5 * 6 := Nat.mul_le_mul (by omega) hW6
    have l1 := part_length (0 : Int) toI W n x row rest hW (by omega)
    have l2 := part_length false nd1 W n x row rest hW (by omega)
    have hNN : n * W + W + rest.length = N := by rw [hN, hr, ← hn, Nat.add_mul, Nat.add_mul]; omega
    have st1 := part_set (0 : Int) toI W n x row rest hW hxr
    have st2 := part_set false nd1 W n x row rest hW hxr
    have sg := s_sign row[x]
    have nx : okC row[x] = true → _ := fun hk => hJ (W - (x + 1)) (rrE2 W T N i row ((x : Int) + 1)) _ ⟨x + 1, rfl, h, by rw [List.take_succ_eq_append_getElem hxr, List.all_append, ha]; simp [hk], by simp, rfl⟩
    rw [← st1, ← st2] at nx
    have bd : okC row[x] = false → row.all okC = false := fun hk => by
      rw [List.all_eq_false]
      exact ⟨row[x], List.getElem_mem hxr, by simp [hk]⟩
    generalize part 0 toI W n x row rest = X at *
    generalize part false nd1 W n x row rest = B at *
    rw [hNN] at l1 l2
    have k0 : n * W + x < N := by omega
    have q0 : (0 : Int) ≤ (n : Int) * (W : Int) := by rw [← Int.natCast_mul]; omega
    have q1 : (n : Int) * (W : Int) ≤ 30 := by rw [← Int.natCast_mul]; omega
    have q2 : (n : Int) * (W : Int) + (x : Int) < (N : Int) := by rw [c2]; omega
    have q3 : ((n : Int) * (W : Int) + (x : Int)).toNat = n * W + x := by rw [c2]; exact Int.toNat_natCast _
    have q4 : n * W + x < X.length := by omega
    have q5 : n * W + x < B.length := by omega
    have qf : okFn Tryd.prog 53 = true := by kernel_rfl
    simp [c_impl_readRows_L0, h', hxr, c1, q0, q2, q3, q4, q5, qf]
    refine ⟨by omega, by omega, by omega, by omega, by omega, ?_⟩
    refine call_on sg ?_
    cases hk : okC row[x] with
    | true =>
      have nx := nx hk
      simp only [toI, nd1] at nx
      simp [u8s_set, bools_set]
      exact ⟨by omega, _, by omega, nx⟩
    | false =>
      have := hbad (bd hk)
      simp [u8s_set, bools_set]
      apply this <;> rfl
  · have : x = W := by omega
    subst this
    rw [List.take_of_length_le (by omega)] at ha
    rw [part_end _ _ _ _ _ _ hW, part_end _ _ _ _ _ _ hW]
    simp [c_impl_readRows_L0]
    apply hend ha <;> rfl

/-- What the rows of a text give. -/
def rrB (s : List UInt8) : Bool := decide (1 ≤ wT s ∧ wT s ≤ 6 ∧ 1 ≤ tT s ∧ tT s ≤ 6) && rowsB s
def rrA (s : List UInt8) : AV := if rrB s = true then .tup [.agg [.v (.int .i64 (wT s)), .v (.int .i64 (tT s)), .os 1 (bools (csT s))], .os 1 (u8s ((flT s).map toI)), .v (.bool (regB (wT s) (tT s) (csT s)))]
  else .tup [.agg [.v (.int .i64 0), .v (.int .i64 0), .os 1 []], .os 1 [], .v (.bool false)]

set_option maxHeartbeats 2000000 in
theorem s_impl_readRows (s : List UInt8) (hs : s.length < 2 ^ 30) : SoundAt Tryd.prog n_impl_readRows [.v (tx s), .fn 53 []] (rrA s) [.bot, .bot] := by
  have sp := s_strings_Split s 47 hs
  have hlen := cutL_le 47 s
  have hfl : (flT s).length ≤ s.length := flat_le 47 s
  have e5 : wT s = (nth (cutL 47 s) 0).length := rfl
  have e6 : tT s = (cutL 47 s).length := rfl
  have hea := cutL_each 47 s
  have i1 := s_impl_in (wT s) 1 6
  have i2 := s_impl_in (tT s) 1 6
  have hrr : rrB s = (decide (1 ≤ wT s ∧ wT s ≤ 6 ∧ 1 ≤ tT s ∧ tT s ≤ 6) && (cutL 47 s).all fun p => decide (p.length = wT s) && p.all okC) := rfl
  have e4 : flT s = (cutL 47 s).reverse.flatten := rfl
  refine fn_ok (md := mdT) (ms := [false, false]) k_impl_readRows (by simp) ?_
  obtain ⟨p, qs, hps⟩ := cutL_cons 47 s
  have h0 : 0 < (cutL 47 s).length := by rw [hps]; simp
  simp [c_impl_readRows]
  refine call_on sp ?_
  generalize cutL 47 s = ps at *
  have hg : ps[0] = nth ps 0 := by simp [nth, h0]
  have hw : (ps[0].length : Int) = (wT s : Int) := by rw [hg, e5]
  have ht : (ps.length : Int) = (tT s : Int) := by rw [e6]
  have h0t : 0 < tT s := by omega
  simp [h0, h0t, hw, ht]
  refine call_on i1 ?_
  by_cases hW : 1 ≤ wT s ∧ wT s ≤ 6
  · have hW1 : (1 : Int) ≤ (wT s : Int) := by omega
    have hW2 : (wT s : Int) ≤ 6 := by omega
    simp [hW1, hW2, hW.1, hW.2]
    refine call_on i2 ?_
    by_cases hT : 1 ≤ tT s ∧ tT s ≤ 6
    · have fi := s_impl_field (wT s) (tT s) ⟨by omega, by omega⟩ ⟨by omega, by omega⟩
      have hT1 : (1 : Int) ≤ (tT s : Int) := by omega
      have hT2 : (tT s : Int) ≤ 6 := by omega
      have rv := s_impl_RegionValid (wT s) (tT s) (csT s) (by simp [csT]; omega)
      have e2 : (flT s).map nd1 = csT s := by rw [nd1_eq]; rfl
      have hrB : rrB s = ps.all fun p => decide (p.length = wT s) && p.all okC := by rw [hrr]; simp [hW, hT]
      have rAt : rrB s = true → rrA s = .tup [.agg [.v (.int .i64 (wT s)), .v (.int .i64 (tT s)), .os 1 (bools (csT s))], .os 1 (u8s ((flT s).map toI)), .v (.bool (regB (wT s) (tT s) (csT s)))] := fun h => if_pos h
      have rAf : rrB s = false → rrA s = .tup [.agg [.v (.int .i64 0), .v (.int .i64 0), .os 1 []], .os 1 [], .v (.bool false)] := fun h => if_neg (by rw [h]; simp)
      have hN : ((wT s : Int) * (tT s : Int)).toNat = tT s * wT s := by rw [← Int.natCast_mul, Int.toNat_natCast, Nat.mul_comm]
      have hN2 : ((wT s : Int) * (tT s : Int)) = ((tT s * wT s : Nat) : Int) := by rw [Int.natCast_mul, Int.mul_comm]
      have hN3 : tT s * wT s ≤ 6 * 6 := Nat.mul_le_mul hT.2 hW.2
      have hlt : ps.length = tT s := by omega
      simp [hT1, hT2, hT.1, hT.2]
      rw [hN] at fi
      refine call_on fi ?_
      simp [hN]
      refine ⟨by omega, by omega, ?_⟩
      rw [u8s_rep, hlt]
      generalize rrB s = rb at *
      generalize rrA s = ra at *
      generalize csT s = cs at *
      generalize flT s = fl at *
      generalize regB (wT s) (tT s) cs = rg at *
      clear i1 i2 sp hs hfl e5 hg hw hps hrr
      generalize wT s = W at *
      generalize tT s = T at *
      refine loop_by (fun m E H => ∃ i : Nat, m = T - i ∧ i ≤ T ∧ ((ps.take i).all fun p => decide (p.length = W) && p.all okC) = true ∧ E = rrE W T (T * W) i ∧
        H = rrH ps W T (T * W) (full 0 toI W (T - i) (ps.take i).reverse.flatten) (full false nd1 W (T - i) (ps.take i).reverse.flatten)) T ⟨0, by simp [full]⟩ ?_
      rintro J hJ m E H ⟨i, rfl, hi, ha, rfl, rfl⟩
      by_cases h : i < T
      · have h' : (i : Int) < (T : Int) := by omega
        have hip : i < ps.length := by omega
        have hlr : ∀ p ∈ (ps.take i).reverse, p.length = W := fun p hp => by
          have := List.all_eq_true.1 ha p (List.mem_reverse.1 hp)
          simp only [Bool.and_eq_true, decide_eq_true_eq] at this
          exact this.1
        have hrl : (ps.take i).reverse.flatten.length = i * W := by rw [flat_len hlr, List.length_reverse, List.length_take, Nat.min_eq_left (by omega)]
        have hst : (ps.take (i + 1)).reverse.flatten = ps[i] ++ (ps.take i).reverse.flatten := by rw [List.take_succ_eq_append_getElem hip, List.reverse_append]; simp
        have hal : ((ps.take (i + 1)).all fun p => decide (p.length = W) && p.all okC) = (decide (ps[i].length = W) && ps[i].all okC) := by
          rw [List.take_succ_eq_append_getElem hip, List.all_append, ha]; simp
        have hbd : (decide (ps[i].length = W) && ps[i].all okC) = false → rb = false := fun hx => by
          rw [hrB, List.all_eq_false]
          exact ⟨ps[i], List.getElem_mem hip, by rw [hx]; simp⟩
        have eT : T - i = (T - (i + 1)) + 1 := by omega
        by_cases hl : ps[i].length = W
        · have nx : ps[i].all okC = true → _ := fun hx => hJ (T - (i + 1)) (rrE W T (T * W) (i + 1)) _ ⟨i + 1, rfl, h, by rw [hal, hl, hx]; simp, rfl, rfl⟩
          rw [hst] at nx
          rw [eT]
          have a1 : W ≤ 6 := hW.2
          have a2 : T - (i + 1) + 1 + i = T := by omega
          have a3 : T ≤ 6 := hT.2
          have body := rr_L0 ps W T (T * W) (T - (i + 1)) i ps[i] (ps.take i).reverse.flatten hl a1 a2 a3 hrl rfl hlt
          have hl' : (ps[i].length : Int) = (W : Int) := by omega
          generalize (ps.take i).reverse.flatten = rest at *
          simp [c_impl_readRows_L1, h', hip, hl']
          refine body _ ?_ ?_
          · intro hx E g1 g4 g8 g9 g10 g11 g40 g41 g42
            have nx := nx hx
            simp [g1, g4, g8, g9, g10, g11, g40, g41, g42]
            exact ⟨by omega, _, by omega, nx⟩
          · intro hx E X B g4 g5 g6
            rw [rAf (hbd (by rw [hx]; simp))]
            simp [g4, g5, g6]
        · have hl' : ¬ (ps[i].length : Int) = (W : Int) := by omega
          rw [rAf (hbd (by simp [hl]))]
          simp [c_impl_readRows_L1, h', hip, hl']
      · have : i = T := by omega
        subst this
        rw [List.take_of_length_le (by omega)] at ha ⊢
        rw [← e4, Nat.sub_self]
        have f1 : full (0 : Int) toI W 0 fl = fl.map toI := by simp [full]
        have f2 : full false nd1 W 0 fl = cs := by simp [full, e2]
        rw [f1, f2, rAt (by rw [hrB]; exact ha)]
        have hlr : ∀ p ∈ ps.reverse, p.length = W := fun p hp => by
          have := List.all_eq_true.1 ha p (List.mem_reverse.1 hp)
          simp only [Bool.and_eq_true, decide_eq_true_eq] at this
          exact this.1
        have hfl : fl.length = i * W := by rw [e4, flat_len hlr, List.length_reverse, hlt]
        have hcl : cs.length = i * W := by rw [← e2, List.length_map, hfl]
        have tk1 : List.take (i * W) (bools cs) = bools cs := List.take_of_length_le (by simp; omega)
        have tk2 : List.take (i * W) (u8s (fl.map toI)) = u8s (fl.map toI) := List.take_of_length_le (by simp; omega)
        simp [c_impl_readRows_L1]
        (repeat' first | omega | apply And.intro) <;>
        · refine call_on rv ?_
          simp [tk1, tk2, hfl, hcl]
    · have hrB : rrB s = false := by rw [hrr]; simp [hT]
      rw [rrA, if_neg (by rw [hrB]; simp)]
      by_cases hT1 : 1 ≤ tT s
      · have hT2 : ¬ (tT s : Int) ≤ 6 := by omega
        simp [hT1, hT2]
      · have hT2 : ¬ (1 : Int) ≤ (tT s : Int) := by omega
        simp [hT1, hT2]
  · have hrB : rrB s = false := by rw [hrr, decide_eq_false (fun h => hW ⟨h.1, h.2.1⟩)]; rfl
    rw [rrA, if_neg (by rw [hrB]; simp)]
    by_cases hW1 : 1 ≤ wT s
    · have hW2 : ¬ (wT s : Int) ≤ 6 := by omega
      simp [hW1, hW2]
    · have hW2 : ¬ (1 : Int) ≤ (wT s : Int) := by omega
      simp [hW1, hW2]

theorem u8s_getT (l : List UInt8) (i : Nat) (h : i < (u8s (l.map toI)).length) : (u8s (l.map toI))[i]'h = .v (.int .u8 ((l[i]'(by simpa using h)).toNat : Int)) := by simp [u8s, toI]

set_option maxHeartbeats 2000000 in
theorem s_impl_ReadPuzzle (s : List UInt8) (hs : s.length < 2 ^ 30) : SoundAt Tryd.prog n_impl_ReadPuzzle [.v (tx s)] (rpA s) [.bot] := by
  have rr := s_impl_readRows s hs
  have hfl : (flT s).length ≤ s.length := flat_le 47 s
  have hri : riB s = (rrB s && regB (wT s) (tT s) (csT s)) := rfl
  refine fn_ok (md := mdT) (ms := [false]) k_impl_ReadPuzzle (by simp) ?_
  by_cases hb : rrB s = true
  · rw [rrA, if_pos hb] at rr
    cases hg : regB (wT s) (tT s) (csT s) with
    | true =>
      have rA : rpA s = .tup [.agg [.v (.int .i64 (wT s)), .v (.int .i64 (tT s)), .os 1 (bools (csT s))], .os 1 (ints (dsI s)), .v (.bool true)] := if_pos (by rw [hri, hb, hg]; rfl)
      rw [rA]
      rw [hg] at rr
      have ok : ∀ c ∈ flT s, okC c = true := fun c hc => by
        simp only [rrB, Bool.and_eq_true] at hb
        obtain ⟨p, hp, hcp⟩ := List.mem_flatten.1 hc
        have := List.all_eq_true.1 hb.2 p (List.mem_reverse.1 hp)
        simp only [Bool.and_eq_true] at this
        exact List.all_eq_true.1 this.2 c hcp
      have hcs : (csT s).length = (flT s).length := by simp [csT]
      have hds : dsI s = (flT s).map dgC := rfl
      rw [hds]
      generalize flT s = fl at *
      generalize csT s = cs at *
      generalize wT s = W at *
      generalize tT s = T at *
      clear hg hb hri rA hds
      simp [c_impl_ReadPuzzle]
      refine call_on rr ?_
      simp
      refine ⟨by omega, ?_⟩
      rw [ints_rep]
      refine loop_by (fun m E H => ∃ i : Nat, m = fl.length - i ∧ i ≤ fl.length ∧ E = [(2, .lp 0 0 0 0), (5, .lp 0 1 0 0), (8, .ls 1 2 0 fl.length), (23, .ls 1 3 0 fl.length), (24, .v (.int .i64 fl.length)), (25, .v (.int .i64 i))] ∧
        H = [some (.box [.v (.int .i64 0), .v (.int .i64 0), .os 1 []]), some (.box [.v (.int .i64 W), .v (.int .i64 T), .ls 1 4 0 cs.length]), some (.arr 1 (ints (part 0 dgC fl.length 0 i fl []))), some (.arr 1 (u8s (fl.map toI))), some (.arr 1 (bools cs))]) fl.length ⟨0, by simp [part_zero, full]⟩ ?_
      rintro J hJ m E H ⟨i, rfl, hi, rfl, rfl⟩
      by_cases h : i < fl.length
      · have nx := hJ (fl.length - (i + 1)) [(2, .lp 0 0 0 0), (5, .lp 0 1 0 0), (8, .ls 1 2 0 fl.length), (23, .ls 1 3 0 fl.length), (24, .v (.int .i64 fl.length)), (25, .v (.int .i64 ((i : Int) + 1)))] _ ⟨i + 1, rfl, h, by simp, rfl⟩
        have l1 := part_length (0 : Int) dgC fl.length 0 i fl [] rfl hi
        have st := part_set (0 : Int) dgC fl.length 0 i fl [] rfl h
        simp only [Nat.zero_mul, Nat.zero_add, List.length_nil, Nat.add_zero] at st l1
        have hok := ok fl[i] (List.getElem_mem h)
        rw [← st] at nx
        generalize part 0 dgC fl.length 0 i fl [] = X at *
        have hx : i < X.length := by omega
        unfold okC at hok
        simp at hok
        by_cases h4 : fl[i].toNat = 46
        · have h4' : (fl[i].toNat : Int) = 46 := by omega
          rw [dgC, if_pos h4] at nx
          simp [c_impl_ReadPuzzle_L0, h, hx, u8s_getT, h4']
          rw [ints_set]
          exact ⟨by omega, _, by omega, nx⟩
        · have h4' : ¬ (fl[i].toNat : Int) = 46 := by omega
          rw [dgC, if_neg h4] at nx
          simp [c_impl_ReadPuzzle_L0, h, hx, u8s_getT, h4']
          have cb := fl[i].toNat_lt
          rw [ints_set]
          exact ⟨by omega, by omega, by omega, _, by omega, nx⟩
      · have : i = fl.length := by omega
        subst this
        rw [part_end _ _ _ _ _ _ rfl]
        have tk : List.take fl.length (ints (fl.map dgC)) = ints (fl.map dgC) := List.take_of_length_le (by simp)
        simp [c_impl_ReadPuzzle_L0, full, tk]
    | false =>
      have rA : rpA s = .tup [.agg [.v (.int .i64 0), .v (.int .i64 0), .os 1 []], .os 1 [], .v (.bool false)] := if_neg (by rw [hri, hb, hg]; simp)
      rw [rA]
      rw [hg] at rr
      simp [c_impl_ReadPuzzle]
      refine call_on rr ?_
      simp
  · have hb' : rrB s = false := by simpa using hb
    rw [rrA, if_neg hb] at rr
    have rA : rpA s = .tup [.agg [.v (.int .i64 0), .v (.int .i64 0), .os 1 []], .os 1 [], .v (.bool false)] := if_neg (by rw [hri, hb']; simp)
    rw [rA]
    simp [c_impl_ReadPuzzle]
    refine call_on rr ?_
    simp

end Go.Proofs.Dev

namespace Go.Proofs.Dev
set_option linter.unusedSimpArgs false
set_option maxRecDepth 100000

end Go.Proofs.Dev

namespace Go.Proofs.Dev
set_option linter.unusedSimpArgs false
set_option maxRecDepth 100000

@[simp] theorem take_sls_all (c : Nat) (ps : List (List Int)) : (sls c ps).take ps.length = sls c ps := List.take_of_length_le (by simp)

/-- What the marks of lists of lists are. -/
def marksSS : Int → List (List Int) → List (List Int)
  | _, [] => []
  | k, p :: ps => marksI p.length k :: marksSS (k + p.length) ps
@[simp] theorem marksSS_length : ∀ (k : Int) (a : List (List Int)), (marksSS k a).length = a.length
  | k, [] => by simp [marksSS]
  | k, p :: a => by simp [marksSS, marksSS_length]
@[simp] theorem take_marksSS (k : Int) (ps : List (List Int)) : (oss (marksSS k ps)).take ps.length = oss (marksSS k ps) := List.take_of_length_le (by simp)
end Go.Proofs.Dev

namespace Go.Proofs.Dev

-- 2 parameters, results [.t 4], 23 slots, modes [false, false]
@[simp] abbrev n_laws_heldBoolS : Nat := 56
def c_laws_heldBoolS_L0 : ACode := .seq (.seq (.reg [.m 6 5, .m 7 0, .n 8 7, .o 9 (.bin .lss 0) [.t 6, .t 8]]) <| .cond (.t 9) ( .skip) ( .exit 0)) <|
 .seq (.block 1 ( .seq (.seq (.reg [.m 12 0, .m 13 5, .o 14 (.iadr 1) [.t 12, .t 13], .l 15 14, .m 16 1, .o 17 (.bin .rem 0) [.t 16, .k 3],
 .o 18 (.bin .eql 0) [.t 17, .k 0], .o 19 (.bin .neq 2) [.t 15, .t 18]]) <| .cond (.t 19) ( .seq (.reg [.o 4 .mv [.k (-1)]]) <| .ret) ( .skip)) <| .reg [.m 20 1,
 .o 21 (.bin .add 0) [.t 20, .k 1], .m 1 21])) <| .reg [.m 10 5, .o 11 (.bin .add 0) [.t 10, .k 1], .m 5 11]

def c_laws_heldBoolS : ACode := .seq (.reg [.o 4 .mv [.k 0]]) <| .seq (.seq (.reg [.o 5 .mv [.k 0]]) <| .block 0 ( .loop [(0, 1)] [0, 1,
 5] c_laws_heldBoolS_L0)) <| .seq (.reg [.m 22 1, .m 4 22]) <| .ret

theorem k_laws_heldBoolS : cFn Tryd.prog n_laws_heldBoolS 23 [.t 4] c_laws_heldBoolS := ⟨Tryd.f56, _, Tryd.func56, rfl, by kernel_rfl, by kernel_rfl, by kernel_rfl, by kernel_rfl⟩

-- 2 parameters, results [.t 4], 12 slots, modes [false, false]
@[simp] abbrev n_laws_heldRegion : Nat := 24

def c_laws_heldRegion : ACode := .seq (.reg [.o 2 .box [.t 0], .o 4 .mv [.k 0]]) <| .seq (.reg [.f 5 2 2, .l 6 5, .m 7 1, .o 8 (.call 56 []) [.t 6, .t 7],
 .m 1 8]) <| .seq (.seq (.reg [.m 9 1, .o 10 (.bin .lss 0) [.t 9, .k 0]]) <| .cond (.t 10) ( .seq (.reg [.o 4 .mv [.k (-1)]]) <| .ret) ( .skip)) <|
 .seq (.reg [.m 11 1, .m 4 11]) <| .ret

theorem k_laws_heldRegion : cFn Tryd.prog n_laws_heldRegion 12 [.t 4] c_laws_heldRegion := ⟨Tryd.f24, _, Tryd.func24, rfl, by kernel_rfl, by kernel_rfl, by kernel_rfl, by kernel_rfl⟩

end Go.Proofs.Dev

namespace Go.Proofs.Dev

-- printed by program: spec_BookNew
end Go.Proofs.Dev

namespace Go.Proofs.Dev
set_option linter.unusedSimpArgs false
set_option maxRecDepth 100000

end Go.Proofs.Dev

namespace Go.Proofs.Dev
set_option linter.unusedSimpArgs false
set_option maxRecDepth 100000

theorem s_laws_heldBoolS (n : Nat) (k : Int) (h0 : 0 ≤ k) (h1 : k < 2 ^ 40) (hb : n < 2 ^ 40) :
    SoundAt Tryd.prog n_laws_heldBoolS [.sl 1 1 (bools (marksB n k)), .v (.int .i64 k)] (.v (.int .i64 (k + n))) [.bot, .bot] := by
  refine fn_ok (md := md0) (ms := [false, false]) k_laws_heldBoolS (by simp) ?_
  simp [c_laws_heldBoolS]
  refine loop_by (fun m E H => ∃ i : Nat, m = n - i ∧ i ≤ n ∧ H = [] ∧ E = [(0, .sl 1 1 (bools (marksB n k))), (1, .v (.int .i64 (k + i))), (5, .v (.int .i64 i))]) n ⟨0, by simp⟩ ?_
  rintro J hJ m E H ⟨i, rfl, hi, rfl, rfl⟩
  simp [c_laws_heldBoolS_L0, marksB_length]
  refine ⟨fun h => ?_, fun h => ?_⟩
  · have e : atb (marksB n k) i = ((k + i) % 3 == 0) := by simp [atb, marksB, h]
    have hl := marksB_length n k
    simp [e, h]
    exact ⟨by omega, by omega, by omega, _, by omega, hJ _ _ _ ⟨i + 1, rfl, h, rfl, by simp; omega⟩⟩
  · have : i = n := by omega
    subst this
    simp


theorem s_laws_heldRegion (W T : Int) (n : Nat) (k : Int) (h0 : 0 ≤ k) (h1 : k < 2 ^ 40) (hb : n < 2 ^ 40) :
    SoundAt Tryd.prog n_laws_heldRegion [.agg [.v (.int .i64 W), .v (.int .i64 T), .sl 1 1 (bools (marksB n k))], .v (.int .i64 k)] (.v (.int .i64 (k + n))) [.bot, .bot] := by
  refine fn_ok (md := md0) (ms := [false, false]) k_laws_heldRegion (by simp) ?_
  simp [c_laws_heldRegion]
  refine call_on (s_laws_heldBoolS n k h0 h1 hb) ?_
  have hn : ¬ (k + (n : Int) < 0) := by omega
  simp [hn]

/-- A book whose lists are marked. -/
def mkC (k : Int) (cs : List Bool) : List Bool := marksB cs.length k
def mkD (k : Int) (cs : List Bool) (ds : List Int) : List Int := marksI ds.length (k + cs.length)
def mkL (k : Int) (cs : List Bool) (ds ls : List Int) : List Int := marksI ls.length (k + cs.length + ds.length)
def mkP (k : Int) (cs : List Bool) (ds ls : List Int) (ps : List (List Int)) : List (List Int) := marksSS (k + cs.length + ds.length + ls.length) ps
@[simp] theorem mkC_length (k : Int) (cs : List Bool) : (mkC k cs).length = cs.length := by simp [mkC]
@[simp] theorem mkD_length (k : Int) (cs : List Bool) (ds : List Int) : (mkD k cs ds).length = ds.length := by simp [mkD]
@[simp] theorem mkL_length (k : Int) (cs : List Bool) (ds ls : List Int) : (mkL k cs ds ls).length = ls.length := by simp [mkL]
@[simp] theorem mkP_length (k : Int) (cs : List Bool) (ds ls : List Int) (ps : List (List Int)) : (mkP k cs ds ls ps).length = ps.length := by simp [mkP]
@[simp] theorem take_mkC (k : Int) (cs : List Bool) : (bools (mkC k cs)).take cs.length = bools (mkC k cs) := List.take_of_length_le (by simp)
@[simp] theorem take_mkD (k : Int) (cs : List Bool) (ds : List Int) : (ints (mkD k cs ds)).take ds.length = ints (mkD k cs ds) := List.take_of_length_le (by simp)
@[simp] theorem take_mkL (k : Int) (cs : List Bool) (ds ls : List Int) : (ints (mkL k cs ds ls)).take ls.length = ints (mkL k cs ds ls) := List.take_of_length_le (by simp)
@[simp] theorem take_mkP (k : Int) (cs : List Bool) (ds ls : List Int) (ps : List (List Int)) : (oss (mkP k cs ds ls ps)).take ps.length = oss (mkP k cs ds ls ps) := List.take_of_length_le (by simp)

@[simp] theorem mkP_nil (k : Int) (cs : List Bool) (ds ls : List Int) : mkP k cs ds ls [] = [] := (rfl)

end Go.Proofs.Dev

namespace Go.Proofs.Dev
open Go.RowKit
set_option linter.unusedSimpArgs false
set_option maxRecDepth 100000

theorem rpA_is (s : List UInt8) : ∃ (W T : Int) (cs : List Bool) (ds : List Int) (b : Bool), rpA s = .tup [.agg [.v (.int .i64 W), .v (.int .i64 T), .os 1 (bools cs)], .os 1 (ints ds), .v (.bool b)] ∧ cs.length ≤ s.length ∧ ds.length ≤ s.length := by
  have hfl : (flT s).length ≤ s.length := flat_le 47 s
  by_cases h : riB s = true
  · exact ⟨_, _, _, _, _, if_pos h, by simp [csT]; omega, by simp [dsI]; omega⟩
  · exact ⟨0, 0, [], [], false, if_neg h, by simp, by simp⟩

set_option maxHeartbeats 4000000 in
theorem s_FnExactReadPuzzle (s : List UInt8) (hl : s.length ≤ 9223372036854775807) : SoundAt Tryd.prog n_laws_FnExactReadPuzzle [.v (tx s)] (.v (.bool true)) [.bot] := by
  refine fn_ok (md := md0) (ms := [false]) k_laws_FnExactReadPuzzle (by simp) ?_
  by_cases h : (1048576 : Int) < (s.length : Int)
  · simp [c_laws_FnExactReadPuzzle, h]
  have hs : s.length < 2 ^ 30 := by omega
  have sp := s_spec_ReadPuzzle s hs
  have im := s_impl_ReadPuzzle s hs
  obtain ⟨W, T, cs, ds, b, e, l1, l2⟩ := rpA_is s
  rw [e] at sp im
  have eqR := s_laws_eqRegion W T W T cs cs (by omega)
  have eqI := s_laws_eqIntS ds ds (by omega)
  have mkR := s_laws_markRegion W T cs 1 (by omega) (by omega) (by omega)
  have mkI := s_laws_markIntS ds (1 + cs.length) (by omega) (by omega) (by omega)
  have heR := s_laws_heldRegion W T cs.length 1 (by omega) (by omega) (by omega)
  have heI := s_laws_heldIntS ds.length (1 + cs.length) (by omega) (by omega) (by omega)
  simp at eqR eqI
  have h3 : ¬ (1 : Int) + (cs.length : Int) < 0 := by omega
  have h4 : ¬ (1 : Int) + (cs.length : Int) + (ds.length : Int) < 0 := by omega
  simp [c_laws_FnExactReadPuzzle, h]
  refine call_on sp ?_
  simp
  refine call_on im ?_
  simp
  refine call_on eqR ?_
  simp
  refine call_on eqI ?_
  simp
  refine call_on mkR ?_
  simp
  refine call_on mkI ?_
  simp
  refine call_on heR ?_
  simp [h3]
  refine call_on heI ?_
  simp [h4]
  refine call_on im ?_
  simp
  refine call_on eqR ?_
  simp
  refine call_on eqI ?_
  simp
  refine call_on heR ?_
  simp [h3]
  refine call_on heI ?_
  simp [h4]

end Go.Proofs.Dev
