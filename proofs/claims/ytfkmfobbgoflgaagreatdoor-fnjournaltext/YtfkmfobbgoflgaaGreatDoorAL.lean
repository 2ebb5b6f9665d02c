/- Contracts of the functions of the program over slots and rows, each proved against the program itself; no condition beyond those that each theorem names. -/
import Derived.Test.YtfkmfobbgoflgaaGreatDoorAK
import Derived.Test.YtfkmfobbgoflgaaGreatDoorProg
import Derived.Test.YtfkmfobbgoflgaaGreatDoorAH
import Derived.Shelf.Sort.Plain
import Derived.Shelf.Slices.CompactI
import Derived.Ground.Names2Prog

set_option linter.unusedSimpArgs false
set_option linter.unusedVariables false

namespace Go.Proofs.Dev

-- 1 parameters, results [.t 2], 9 slots, modes [true]
@[simp] abbrev n_slices_Clip_impl_Deed_impl_Deed : Nat := 53

def c_slices_Clip_impl_Deed_impl_Deed : ACode := .seq (.reg [.o 2 .mv [.c (.os 3 [])]]) <| .seq (.reg [.m 3 0, .m 4 0, .n 5 4, .m 6 0, .n 7 6,
 .o 8 (.slice 3 false false true true) [.t 3, .t 5, .t 7], .m 2 8]) <| .ret

theorem k_slices_Clip_impl_Deed_impl_Deed : cFn Tryz.prog n_slices_Clip_impl_Deed_impl_Deed 9 [.t 2] c_slices_Clip_impl_Deed_impl_Deed := ⟨Tryz.f53, _, Tryz.func53, rfl, by kernel_rfl, by kernel_rfl, by kernel_rfl, by kernel_rfl⟩

end Go.Proofs.Dev

namespace Go.Proofs.Dev

-- 1 parameters, results [.t 2], 24 slots, modes [false]
@[simp] abbrev n_impl_Deed_needs : Nat := 62

def c_impl_Deed_needs : ACode := .seq (.reg [.o 1 .box [.t 0], .o 2 .mv [.kb false]]) <| .seq (.seq (.reg [.f 3 0 1, .l 4 3]) <|
 .block 0 ( .seq (.reg [.o 6 (.bin .eql 0) [.t 4, .k 0], .m 5 6]) <| .cond (.t 5) ( .seq (.reg [.o 2 .mv [.kb true]]) <|
 .ret) ( .seq (.seq (.reg [.o 8 (.bin .eql 0) [.t 4, .k 1], .m 7 8]) <| .cond (.t 7) ( .skip) ( .reg [.o 9 (.bin .eql 0) [.t 4, .k 2], .m 7 9])) <|
 .cond (.t 7) ( .seq (.reg [.f 10 2 1, .l 11 10, .o 12 (.bin .eql 0) [.t 11, .k 0], .m 2 12]) <| .ret) ( .seq (.seq (.reg [.o 14 (.bin .eql 0) [.t 4, .k 3],
 .m 13 14]) <| .cond (.t 13) ( .skip) ( .reg [.o 15 (.bin .eql 0) [.t 4, .k 4], .m 13 15])) <| .cond (.t 13) ( .seq (.reg [.f 16 1 1, .l 17 16,
 .o 18 (.bin .eql 0) [.t 17, .k 0], .m 19 18, .fg 20 2 1 19 true, .lg 21 20 19 true, .g 22 (.bin .eql 0) [.t 21, .k 0] 19 true, .o 23 .pick [.t 19, .t 22,
 .kb false], .m 2 23]) <| .ret) ( .skip))))) <| .seq (.reg [.o 2 .mv [.kb false]]) <| .ret

theorem k_impl_Deed_needs : cFn Tryz.prog n_impl_Deed_needs 24 [.t 2] c_impl_Deed_needs := ⟨Tryz.f62, _, Tryz.func62, rfl, by kernel_rfl, by kernel_rfl, by kernel_rfl, by kernel_rfl⟩

end Go.Proofs.Dev

namespace Go.Proofs.Dev
set_option linter.unusedSimpArgs false
set_option maxRecDepth 100000

@[simp] def md0 (f : Nat) : List Bool := if f = 89 ∨ f = 90 ∨ f = 152 ∨ f = 27 ∨ f = 91 then [true, false] else if f = 175 ∨ f = 173 ∨ f = 188 ∨ f = 196 ∨ f = 197 then [true] else []

def marksB (n : Nat) (k : Int) : List Bool := (List.range n).map fun (j : Nat) => (k + j) % 3 == 0
def marksI (n : Nat) (k : Int) : List Int := (List.range n).map fun (j : Nat) => k + j

@[simp] theorem marksI_length (n : Nat) (k : Int) : (marksI n k).length = n := by simp [marksI]
@[simp] theorem marksB_length (n : Nat) (k : Int) : (marksB n k).length = n := by simp [marksB]

@[simp] theorem take_marksI (n : Nat) (k : Int) : (ints (marksI n k)).take n = ints (marksI n k) := by
  have := take_ints_all (marksI n k)
  rwa [marksI_length] at this
@[simp] theorem take_marksB (n : Nat) (k : Int) : (bools (marksB n k)).take n = bools (marksB n k) := by
  have := take_bools_all (marksB n k)
  rwa [marksB_length] at this

end Go.Proofs.Dev

namespace Go.Proofs.Dev
set_option linter.unusedSimpArgs false
set_option maxRecDepth 100000

theorem s_spec_l1In (x lo hi : Int) : SoundAt Tryz.prog n_spec_l1In [.v (.int .i64 x), .v (.int .i64 lo), .v (.int .i64 hi)] (.v (.bool (decide (lo ≤ x ∧ x ≤ hi)))) [.bot, .bot, .bot] := by
  refine fn_ok (md := md0) (ms := [false, false, false]) k_spec_l1In (by simp) ?_
  simp [c_spec_l1In]
  constructor
  · intro h; simp [h]
  · intro h; omega

theorem s_spec_l1Count (bs : List Bool) (hb : bs.length < 2 ^ 40) : SoundAt Tryz.prog n_spec_l1Count [.sl 1 1 (bools bs)] (.v (.int .i64 (manyOf bs))) [.bot] := by
  refine fn_ok (md := md0) (ms := [false]) k_spec_l1Count (by simp) ?_
  simp [c_spec_l1Count]
  refine loop_by (fun m E H => ∃ i : Nat, m = bs.length - i ∧ i ≤ bs.length ∧ H = [] ∧ E = [(0, .sl 1 1 (bools bs)), (3, .v (.int .i64 (manyOf (bs.take i)))), (4, .v (.int .i64 i))]) bs.length ⟨0, by simp [manyOf]⟩ ?_
  rintro J hJ m E H ⟨i, rfl, hi, rfl, rfl⟩
  simp [c_spec_l1Count_L0]
  refine ⟨fun h => ?_, fun h => ?_⟩
  · have e := manyOf_take bs i h
    have e3 := manyOf_le (bs.take i)
    rw [List.length_take] at e3
    simp [h]
    refine ⟨fun hb => ⟨by omega, by omega, _, by omega, hJ _ _ _ ⟨i + 1, rfl, h, rfl, ?_⟩⟩, fun hb => ⟨by omega, _, by omega, hJ _ _ _ ⟨i + 1, rfl, h, rfl, ?_⟩⟩⟩ <;> simp [e, hb]
  · have : i = bs.length := by omega
    subst this
    simp

theorem s_spec_RegionValid (W T : Int) (cs : List Bool) (hb : cs.length < 2 ^ 40) : SoundAt Tryz.prog n_spec_RegionValid [.agg [.v (.int .i64 W), .v (.int .i64 T), .sl 1 1 (bools cs)]] (.v (.bool (regB W T cs))) [.bot] := by
  refine fn_ok (md := md0) (ms := [false]) k_spec_RegionValid (by simp) ?_
  simp [c_spec_RegionValid]
  refine call_on (s_spec_l1In W 1 6) ?_
  simp
  refine ⟨fun h h' => ?_, fun h => ?_⟩
  · refine call_on (s_spec_l1In T 1 6) ?_
    have hx : T ≤ 6 → W * T ≤ 36 ∧ (1 ≤ T → 1 ≤ W * T) := fun ht => ⟨(by
      by_cases h0 : 0 ≤ T
      · exact Int.mul_le_mul h' ht h0 (by omega)
      · have : W * T ≤ 0 := Int.mul_nonpos_of_nonneg_of_nonpos (by omega) (by omega)
        omega), fun h1 => Int.mul_pos (by omega) (by omega)⟩
    simp
    refine ⟨fun h1 h2 => ⟨by have := hx h2; omega, fun h3 => ?_, fun h3 => ?_⟩, fun h1 => ?_⟩
    · refine call_on (s_spec_l1Count cs hb) ?_
      simp [regB, h, h', h1, h2, h3]
      omega
    · simp [regB]; omega
    · simp [regB]; omega
  · simp [regB]; omega

theorem s_spec_l2Back (n : Int) (h : 0 ≤ n) (h2 : n < 2 ^ 60) : SoundAt Tryz.prog n_spec_l2Back [.v (.int .i64 n)] (.v (.int .i64 (backI n))) [.bot] := by
  refine fn_ok (md := md0) (ms := [false]) k_spec_l2Back (by simp) ?_
  simp [c_spec_l2Back, backI]
  omega

theorem s_spec_PairOf (a b : Int) (h1 : 0 ≤ a ∧ a ≤ 6) (h2 : 0 ≤ b ∧ b ≤ 6) : SoundAt Tryz.prog n_spec_PairOf [.v (.int .i64 a), .v (.int .i64 b)] (.v (.int .i64 (pairI a b))) [.bot, .bot] := by
  refine fn_ok (md := md0) (ms := [false, false]) k_spec_PairOf (by simp) ?_
  simp [c_spec_PairOf]
  refine call_on (s_spec_l1In a 0 6) ?_
  simp [h1]
  refine call_on (s_spec_l1In b 0 6) ?_
  simp [h2, pairI]
  rw [Int.min_def, Int.max_def]
  (repeat' split) <;> omega

theorem s_spec_l2Step (W T : Int) (cs : List Bool) (k way : Int) (hr : regB W T cs = true) (h0 : 0 ≤ k) (h1 : k < cs.length) :
    SoundAt Tryz.prog n_spec_l2Step [.agg [.v (.int .i64 W), .v (.int .i64 T), .sl 1 1 (bools cs)], .v (.int .i64 k), .v (.int .i64 way)] (.v (.int .i64 (stepI W T k way))) [.bot, .bot, .bot] := by
  refine fn_ok (md := md0) (ms := [false, false, false]) k_spec_l2Step (by simp) ?_
  obtain ⟨w1, w2, t1, t2, l1, _⟩ := regB_W hr
  have hl := regB_len hr
  have hxy := cell_xy (T := T) (k := k) w1 h0 (by omega)
  have e1 : stepI W T k way = if way = 1 ∧ k % W < W - 1 then k + 1 else if way = 2 ∧ k / W < T - 1 then k + W else if way = 3 ∧ 0 < k % W then k - 1 else if way = 4 ∧ 0 < k / W then k - W else -1 := rfl
  rw [e1]
  clear e1 hr
  generalize hA : k % W = A at *
  generalize hB : k / W = B at *
  by_cases c1 : way = 1
  · subst c1; simp [c_spec_l2Step, hA, hB]; omega
  by_cases c2 : way = 2
  · subst c2; simp [c_spec_l2Step, hA, hB]; omega
  by_cases c3 : way = 3
  · subst c3; simp [c_spec_l2Step, hA, hB]; omega
  by_cases c4 : way = 4
  · subst c4; simp [c_spec_l2Step, hA, hB]; omega
  simp [c_spec_l2Step, c1, c2, c3, c4]

end Go.Proofs.Dev

namespace Go.Proofs.Dev
set_option linter.unusedSimpArgs false
set_option maxRecDepth 100000

theorem s_spec_PuzzleValid (W T : Int) (cs : List Bool) (ds : List Int) (hb : cs.length < 2 ^ 40) (hd : ds.length < 2 ^ 40) :
    SoundAt Tryz.prog n_spec_PuzzleValid [.agg [.v (.int .i64 W), .v (.int .i64 T), .sl 1 1 (bools cs)], .sl 1 1 (ints ds)] (.v (.bool (regB W T cs && digsB cs ds))) [.bot, .bot] := by
  refine fn_ok (md := md0) (ms := [false, false]) k_spec_PuzzleValid (by simp) ?_
  simp [c_spec_PuzzleValid]
  refine call_on (s_spec_RegionValid W T cs hb) ?_
  simp
  refine ⟨fun hr => ⟨fun hl => ?_, fun hl => ?_⟩, fun hr => ?_⟩
  · intro _
    simp [digsB]; omega
  · have hl' : ds.length = cs.length := by omega
    refine loop_by (fun m E H => ∃ i : Nat, m = ds.length - i ∧ i ≤ ds.length ∧ allB i (fun k => digAt cs ds k) = true ∧ H = [some (.box [.v (.int .i64 W), .v (.int .i64 T), .sl 1 1 (bools cs)])] ∧ E = [(1, .sl 1 1 (ints ds)), (2, .lp 0 0 0 0), (5, .v (.int .i64 i))]) ds.length ⟨0, by simp [allB_zero]⟩ ?_
    rintro J hJ m E H ⟨i, rfl, hi, ha, rfl, rfl⟩
    by_cases h : i < ds.length
    · have h2 : i < cs.length := by omega
      have next : digAt cs ds i = true → again J (ds.length - i) [(1, .sl 1 1 (ints ds)), (2, .lp 0 0 0 0), (5, .v (.int .i64 (i + 1)))] [some (.box [.v (.int .i64 W), .v (.int .i64 T), .sl 1 1 (bools cs)])] :=
        fun hd => ⟨_, by omega, hJ _ _ _ ⟨i + 1, rfl, h, by rw [allB_succ, ha, hd]; rfl, rfl, rfl⟩⟩
      have stop : digAt cs ds i = false → digsB cs ds = false := fun hd => by simp only [digsB, hl', decide_true, Bool.true_and]; exact allB_false h2 hd
      cases hc : atb cs i with
      | true =>
        simp [c_spec_PuzzleValid_L0, h, h2, hc]
        refine call_on (s_spec_l1In (ati ds i) 0 6) ?_
        simp [digAt, hc] at next stop ⊢
        (repeat' first | assumption | omega | apply And.intro | intro _) <;> first | omega | exact stop (by omega) | exact next (by omega) (by omega)
      | false =>
        simp [c_spec_PuzzleValid_L0, h, h2, hc]
        simp [digAt, hc] at next stop ⊢
        exact ⟨fun hx => fun _ => stop hx, fun hx => ⟨by omega, next hx⟩⟩
    · have : i = ds.length := by omega
      subst this
      simp [c_spec_PuzzleValid_L0]
      simp [digsB, hr, hl'] at ha ⊢
      exact ha
  · simp [hr]

end Go.Proofs.Dev

namespace Go.Proofs.Dev
set_option linter.unusedSimpArgs false
set_option maxRecDepth 100000

theorem s_spec_LaidOk (W T : Int) (cs : List Bool) (ls : List Int) (hb : cs.length < 2 ^ 40) (hd : ls.length < 2 ^ 40) :
    SoundAt Tryz.prog n_spec_LaidOk [.agg [.v (.int .i64 W), .v (.int .i64 T), .sl 1 1 (bools cs)], .sl 1 1 (ints ls)] (.v (.bool (regB W T cs && laysB W T cs ls))) [.bot, .bot] := by
  refine fn_ok (md := md0) (ms := [false, false]) k_spec_LaidOk (by simp) ?_
  simp [c_spec_LaidOk]
  refine call_on (s_spec_RegionValid W T cs hb) ?_
  simp
  refine ⟨fun hr => ⟨fun hl => ?_, fun hl => ?_⟩, fun hr => ?_⟩
  · intro _
    simp [laysB]; omega
  · have hl' : ls.length = cs.length := by omega
    obtain ⟨w1, w2, t1, t2, l1, _⟩ := regB_W hr
    refine loop_by (fun m E H => ∃ i : Nat, m = ls.length - i ∧ i ≤ ls.length ∧ allB i (fun k => layAt W T cs ls k) = true ∧ H = [some (.box [.v (.int .i64 W), .v (.int .i64 T), .sl 1 1 (bools cs)])] ∧ E = [(1, .sl 1 1 (ints ls)), (2, .lp 0 0 0 0), (5, .v (.int .i64 i))]) ls.length ⟨0, by simp [allB_zero]⟩ ?_
    rintro J hJ m E H ⟨i, rfl, hi, ha, rfl, rfl⟩
    by_cases h : i < ls.length
    · have h2 : i < cs.length := by omega
      have next : layAt W T cs ls i = true → again J (ls.length - i) [(1, .sl 1 1 (ints ls)), (2, .lp 0 0 0 0), (5, .v (.int .i64 (i + 1)))] [some (.box [.v (.int .i64 W), .v (.int .i64 T), .sl 1 1 (bools cs)])] :=
        fun hd => ⟨_, by omega, hJ _ _ _ ⟨i + 1, rfl, h, by rw [allB_succ, ha, hd]; rfl, rfl, rfl⟩⟩
      have stop : layAt W T cs ls i = false → (regB W T cs && laysB W T cs ls) = false := fun hd => by rw [hr, Bool.true_and]; simp only [laysB, hl', decide_true, Bool.true_and]; exact allB_false h2 hd
      by_cases z : ati ls i = 0
      · simp [c_spec_LaidOk_L0, h, h2, z]
        exact ⟨by omega, next (by simp [layAt, z])⟩
      by_cases rg : 1 ≤ ati ls i ∧ ati ls i ≤ 4
      case neg =>
        simp [c_spec_LaidOk_L0, h, h2, z]
        refine call_on (s_spec_l1In (ati ls i) 1 4) ?_
        have hs := stop (by simp [layAt, z]; omega)
        have hx : (decide (1 ≤ ati ls i) && decide (ati ls i ≤ 4)) = false := by simp; omega
        simp [hx, hs]
      cases hc : atb cs i with
      | false =>
        simp [c_spec_LaidOk_L0, h, h2, z]
        refine call_on (s_spec_l1In (ati ls i) 1 4) ?_
        have hs := stop (by simp [layAt, z, hc])
        simp [rg, hs, hc, h2]
      | true =>
        have hst := stepI_range (T := T) (k := i) (way := ati ls i) w1 (by omega) (by omega)
        have one : SoundAt Tryz.prog n_spec_l2Step [.agg [.v (.int .i64 W), .v (.int .i64 T), .sl 1 1 (bools cs)], .v (.int .i64 i), .v (.int .i64 (ati ls i))] (.v (.int .i64 (stepI W T i (ati ls i)))) [.bot, .bot, .bot] := s_spec_l2Step W T cs i (ati ls i) hr (by omega) (by omega)
        have two := s_spec_l2Back (ati ls i) (by omega) (by omega)
        simp [layAt, z, rg, hc] at next stop
        generalize hto : stepI W T i (ati ls i) = to at *
        simp [c_spec_LaidOk_L0, h, h2, z]
        refine call_on (s_spec_l1In (ati ls i) 1 4) ?_
        simp [rg, hc, h2]
        rcases hst with hst | ⟨hst, hst2, -, -⟩
        · subst hst
          have hs := stop (by omega) hr
          (repeat' first | assumption | omega | apply And.intro | intro _) <;> first
            | assumption
            | (refine call_on one ?_; simp [hs])
        · have e1 : ¬ to < 0 := by omega
          have e2 : to < cs.length := by omega
          have e3 : to < ls.length := by omega
          cases hct : atb cs to with
          | false =>
            have hs := stop (by simp [hct]) hr
            (repeat' first | assumption | omega | apply And.intro | intro _) <;> first
              | assumption
              | (refine call_on one ?_; simp [hs, e1, e2, e3, hst, hct])
          | true =>
            simp [hst, hct] at next stop
            (repeat' first | assumption | omega | apply And.intro | intro _) <;> first
              | assumption
              | (refine call_on one ?_
                 simp [e1, e2, e3, hst, hct, h]
                 (repeat' first | assumption | omega | apply And.intro | intro _) <;> first
                  | assumption
                  | (refine call_on two ?_
                     simp [e1, e2, e3, hst, hct, h]
                     (repeat' first | assumption | omega | apply And.intro | intro _) <;> first
                      | assumption
                      | omega
                      | exact next (by assumption)
                      | exact stop (by assumption) (by assumption)))
    · have : i = ls.length := by omega
      subst this
      simp [c_spec_LaidOk_L0]
      simp [laysB, hr, hl'] at ha ⊢
      exact ha
  · simp [hr]

end Go.Proofs.Dev

namespace Go.Proofs.Dev
set_option linter.unusedSimpArgs false
set_option maxRecDepth 100000

/-- A puzzle and its dominoes are in order. -/
def okB (W T : Int) (cs : List Bool) (ds ls : List Int) : Bool := regB W T cs && (digsB cs ds && laysB W T cs ls)

theorem okB_W {W T : Int} {cs : List Bool} {ds ls : List Int} (h : okB W T cs ds ls = true) : regB W T cs = true ∧ ds.length = cs.length ∧ ls.length = cs.length ∧
    ∀ k : Nat, k < cs.length → digAt cs ds k = true ∧ layAt W T cs ls k = true := by
  simp only [okB, digsB, laysB, Bool.and_eq_true, decide_eq_true_eq, allB_iff] at h
  obtain ⟨h1, ⟨h2, h3⟩, h4, h5⟩ := h
  exact ⟨h1, h2, h4, fun k hk => ⟨h3 k (by omega), h5 k (by omega)⟩⟩

/-- What a first cell of a domino knows. -/
theorem okB_first {W T : Int} {cs : List Bool} {ds ls : List Int} (h : okB W T cs ds ls = true) {k : Nat} (hk : k < cs.length) (hw : ati ls k = 1 ∨ ati ls k = 2) :
    0 ≤ stepI W T k (ati ls k) ∧ stepI W T k (ati ls k) < cs.length ∧ (0 ≤ ati ds k ∧ ati ds k ≤ 6) ∧ (0 ≤ ati ds (stepI W T k (ati ls k)) ∧ ati ds (stepI W T k (ati ls k)) ≤ 6) := by
  obtain ⟨hr, h1, h2, h3⟩ := okB_W h
  obtain ⟨w1, w2, t1, t2, l1, _⟩ := regB_W hr
  obtain ⟨d1, p1⟩ := h3 k hk
  have hst := stepI_range (T := T) (k := k) (way := ati ls k) w1 (by omega) (by omega)
  simp only [layAt, decide_eq_true_eq] at p1
  rcases p1 with p1 | ⟨_, _, pc, p0, pt, _⟩
  · omega
  generalize hto : stepI W T k (ati ls k) = to at *
  have d2 := (h3 to.toNat (by omega)).1
  rw [show ((to.toNat : Nat) : Int) = to by omega] at d2
  simp only [digAt, pc, pt, if_true, decide_eq_true_eq] at d1 d2
  exact ⟨p0, by omega, d1, d2⟩

theorem s_spec_PairsOf (W T : Int) (cs : List Bool) (ds ls : List Int) (hb : cs.length < 2 ^ 40) (hd : ds.length < 2 ^ 40) (hl : ls.length < 2 ^ 40) :
    SoundAt Tryz.prog n_spec_PairsOf [.agg [.v (.int .i64 W), .v (.int .i64 T), .sl 1 1 (bools cs)], .sl 1 1 (ints ds), .sl 1 1 (ints ls)] (.os 1 (ints (if okB W T cs ds ls then pairsI W T ds ls else []))) [.bot, .bot, .bot] := by
  refine fn_ok (md := md0) (ms := [false, false, false]) k_spec_PairsOf (by simp) ?_
  simp [c_spec_PairsOf]
  refine loop_by (fun m E H => ∃ i : Nat, m = ls.length - i ∧ i ≤ ls.length ∧ (i = 0 ∨ okB W T cs ds ls = true) ∧ H = [some (.box [.v (.int .i64 W), .v (.int .i64 T), .sl 1 1 (bools cs)]), some (.arr 1 (ints (pairsTo W T ds ls i)))] ∧
    E = [(1, .sl 1 1 (ints ds)), (2, .sl 1 1 (ints ls)), (3, .lp 0 0 0 0), (7, .ls 1 1 0 (pairsTo W T ds ls i).length), (8, .v (.int .i64 i))]) ls.length ⟨0, by simp [pairsTo]⟩ ?_
  rintro J hJ m E H ⟨i, rfl, hi, hz, rfl, rfl⟩
  by_cases h : i < ls.length
  case neg =>
    have : i = ls.length := by omega
    subst this
    simp [c_spec_PairsOf_L0]
    rcases hz with hz | hz
    · have : ls = [] := List.eq_nil_of_length_eq_zero hz
      subst this
      simp [pairsI, pairsTo]
    · simp [hz, pairsI]
  simp [c_spec_PairsOf_L0, h]
  refine call_on (s_spec_PuzzleValid W T cs ds hb hd) ?_
  have ok0 : okB W T cs ds ls = false → i = 0 := fun h => by rcases hz with hz | hz; exact hz; rw [h] at hz; cases hz
  cases hp : (regB W T cs && digsB cs ds) with
  | false =>
    have hn : okB W T cs ds ls = false := by simp only [okB, ← Bool.and_assoc, hp, Bool.false_and]
    have := ok0 hn; subst this
    simp [hn, pairsTo]
  | true =>
  simp
  refine call_on (s_spec_LaidOk W T cs ls hb hl) ?_
  cases hp2 : (regB W T cs && laysB W T cs ls) with
  | false =>
    have hn : okB W T cs ds ls = false := by
      simp only [Bool.and_eq_true] at hp
      rw [hp.1, Bool.true_and] at hp2
      simp [okB, hp2]
    have := ok0 hn; subst this
    simp [hn, pairsTo]
  | true =>
  have hok : okB W T cs ds ls = true := by
    simp only [Bool.and_eq_true] at hp hp2
    simp [okB, hp, hp2]
  obtain ⟨hr, e1, e2, _⟩ := okB_W hok
  have hlen := pairsTo_length W T ds ls i
  have hl36 := regB_len hr
  have hsuc := pairsTo_succ W T ds ls i
  have next : ∀ (x : List Int), pairsTo W T ds ls (i + 1) = pairsTo W T ds ls i ++ x → again J (ls.length - i) [(1, .sl 1 1 (ints ds)), (2, .sl 1 1 (ints ls)), (3, .lp 0 0 0 0), (7, .ls 1 1 0 ((pairsTo W T ds ls i).length + x.length)), (8, .v (.int .i64 (i + 1)))]
      [some (.box [.v (.int .i64 W), .v (.int .i64 T), .sl 1 1 (bools cs)]), some (.arr 1 (ints (pairsTo W T ds ls i) ++ ints x))] := by
    intro x hx
    refine ⟨_, by omega, hJ _ _ _ ⟨i + 1, rfl, h, .inr hok, ?_, ?_⟩⟩
    · rw [hx, ints_append]
    · rw [hx, List.length_append]; rfl
  have hds : i < ds.length := by omega
  by_cases hw : ati ls i = 1 ∨ ati ls i = 2
  · obtain ⟨o1, o2, o3, o4⟩ := okB_first hok (k := i) (by omega) hw
    have one : SoundAt Tryz.prog n_spec_l2Step [.agg [.v (.int .i64 W), .v (.int .i64 T), .sl 1 1 (bools cs)], .v (.int .i64 i), .v (.int .i64 (ati ls i))] (.v (.int .i64 (stepI W T i (ati ls i)))) [.bot, .bot, .bot] := s_spec_l2Step W T cs i (ati ls i) hr (by omega) (by omega)
    have two := s_spec_PairOf (ati ds i) (ati ds (stepI W T i (ati ls i))) o3 o4
    have next1 := next _ (by rw [hsuc, if_pos hw])
    clear hsuc next
    simp at next1
    generalize hto : stepI W T i (ati ls i) = to at *
    have o5 : to < ds.length := by omega
    have hb : (pairsTo W T ds ls i).length ≤ 36 := by omega
    rcases hw with hw | hw <;> rw [hw] at one <;>
    · simp [h, hw, hds]
      (repeat' first | assumption | apply And.intro) <;>
      · refine call_on one ?_
        simp [o1, o5, hds]
        (repeat' first | assumption | apply And.intro) <;>
        · refine call_on two ?_
          simp
          exact ⟨by omega, by omega, next1⟩
  · have hw1 : ¬ ati ls i = 1 := fun e => hw (.inl e)
    have hw2 : ¬ ati ls i = 2 := fun e => hw (.inr e)
    simp [h, hw1, hw2]
    rw [if_neg hw, List.append_nil] at hsuc
    refine ⟨by omega, _, by omega, hJ _ _ _ ⟨i + 1, rfl, h, .inr hok, ?_, ?_⟩⟩ <;> rw [hsuc]
    rfl

end Go.Proofs.Dev

namespace Go.Proofs.Dev
set_option linter.unusedSimpArgs false
set_option maxRecDepth 100000

theorem s_impl_in (x lo hi : Int) : SoundAt Tryz.prog n_impl_in [.v (.int .i64 x), .v (.int .i64 lo), .v (.int .i64 hi)] (.v (.bool (decide (lo ≤ x ∧ x ≤ hi)))) [.bot, .bot, .bot] := by
  refine fn_ok (md := md0) (ms := [false, false, false]) k_impl_in (by simp) ?_
  simp [c_impl_in]
  constructor
  · intro h; simp [h]
  · intro h; omega

theorem s_impl_in_t {x lo hi : Int} (h : lo ≤ x ∧ x ≤ hi) : SoundAt Tryz.prog n_impl_in [.v (.int .i64 x), .v (.int .i64 lo), .v (.int .i64 hi)] (.v (.bool true)) [.bot, .bot, .bot] := by
  have := s_impl_in x lo hi
  rwa [decide_eq_true h] at this
theorem s_impl_many (bs : List Bool) (hb : bs.length < 2 ^ 40) : SoundAt Tryz.prog n_impl_many [.sl 1 1 (bools bs)] (.v (.int .i64 (manyOf bs))) [.bot] := by
  refine fn_ok (md := md0) (ms := [false]) k_impl_many (by simp) ?_
  simp [c_impl_many]
  refine loop_by (fun m E H => ∃ i : Nat, m = bs.length - i ∧ i ≤ bs.length ∧ H = [] ∧ E = [(3, .v (.int .i64 (manyOf (bs.take i)))), (6, .sl 1 1 (bools bs)), (7, .v (.int .i64 bs.length)), (8, .v (.int .i64 i))]) bs.length ⟨0, by simp [manyOf]⟩ ?_
  rintro J hJ m E H ⟨i, rfl, hi, rfl, rfl⟩
  simp [c_impl_many_L0]
  refine ⟨fun h => ?_, fun h => ?_⟩
  · have e := manyOf_take bs i h
    have e3 := manyOf_le (bs.take i)
    rw [List.length_take] at e3
    simp [h]
    refine ⟨fun hb => ⟨by omega, by omega, _, by omega, hJ _ _ _ ⟨i + 1, rfl, h, rfl, ?_⟩⟩, fun hb => ⟨by omega, _, by omega, hJ _ _ _ ⟨i + 1, rfl, h, rfl, ?_⟩⟩⟩ <;> simp [e, hb]
  · have : i = bs.length := by omega
    subst this
    simp

theorem s_impl_RegionValid (W T : Int) (cs : List Bool) (hb : cs.length < 2 ^ 40) : SoundAt Tryz.prog n_impl_RegionValid [.agg [.v (.int .i64 W), .v (.int .i64 T), .sl 1 1 (bools cs)]] (.v (.bool (regB W T cs))) [.bot] := by
  refine fn_ok (md := md0) (ms := [false]) k_impl_RegionValid (by simp) ?_
  simp [c_impl_RegionValid]
  refine call_on (s_impl_in W 1 6) ?_
  simp
  refine ⟨fun h h' => ?_, fun h => ?_⟩
  · refine call_on (s_impl_in T 1 6) ?_
    have hx : T ≤ 6 → W * T ≤ 36 ∧ (1 ≤ T → 1 ≤ W * T) := fun ht => ⟨(by
      by_cases h0 : 0 ≤ T
      · exact Int.mul_le_mul h' ht h0 (by omega)
      · have : W * T ≤ 0 := Int.mul_nonpos_of_nonneg_of_nonpos (by omega) (by omega)
        omega), fun h1 => Int.mul_pos (by omega) (by omega)⟩
    simp
    refine ⟨fun h1 h2 => ⟨by have := hx h2; omega, fun h3 => ?_, fun h3 => ?_⟩, fun h1 => ?_⟩
    · refine call_on (s_impl_many cs hb) ?_
      simp [regB, h, h', h1, h2, h3]
      omega
    · simp [regB]; omega
    · simp [regB]; omega
  · simp [regB]; omega

end Go.Proofs.Dev

namespace Go.Proofs.Dev
set_option linter.unusedSimpArgs false
set_option maxRecDepth 100000

end Go.Proofs.Dev

namespace Go.Proofs.Dev
set_option linter.unusedSimpArgs false
set_option maxRecDepth 100000

theorem s_spec_l1Has (xs : List Int) (n : Int) (hx : xs.length < 2 ^ 40) : SoundAt Tryz.prog n_spec_l1Has [.sl 1 1 (ints xs), .v (.int .i64 n)] (.v (.bool (decide (n ∈ xs)))) [.bot, .bot] := by
  refine fn_ok (md := md0) (ms := [false, false]) k_spec_l1Has (by simp) ?_
  simp [c_spec_l1Has]
  refine loop_by (fun m E H => ∃ i : Nat, m = xs.length - i ∧ i ≤ xs.length ∧ ¬ n ∈ xs.take i ∧ H = [] ∧ E = [(0, .sl 1 1 (ints xs)), (1, .v (.int .i64 n)), (5, .v (.int .i64 i))]) xs.length ⟨0, by simp⟩ ?_
  rintro J hJ m E H ⟨i, rfl, hi, hn, rfl, rfl⟩
  by_cases h : i < xs.length
  · have e : ati xs i = xs[i] := by simp [ati, h]
    simp [c_spec_l1Has_L0, h]
    refine ⟨fun he => ?_, fun he => ⟨by omega, _, by omega, hJ _ _ _ ⟨i + 1, rfl, h, ?_, rfl, rfl⟩⟩⟩
    · rw [← he, e]; exact List.getElem_mem h
    · rw [List.take_succ_eq_append_getElem h, ← e]
      simp [hn, Ne.symm he]
  · have : i = xs.length := by omega
    subst this
    rw [List.take_length] at hn
    simp [c_spec_l1Has_L0, hn]

theorem s_spec_l9Once (xs : List Int) (hx : xs.length < 2 ^ 40) : SoundAt Tryz.prog n_spec_l9Once [.sl 1 1 (ints xs)] (.v (.bool (onceB xs))) [.bot] := by
  refine fn_ok (md := md0) (ms := [false]) k_spec_l9Once (by simp) ?_
  simp [c_spec_l9Once]
  refine loop_by (fun m E H => ∃ i : Nat, m = xs.length - i ∧ i ≤ xs.length ∧ (xs.take i).Nodup ∧ H = [] ∧ E = [(0, .sl 1 1 (ints xs)), (3, .v (.int .i64 i))]) xs.length ⟨0, by simp⟩ ?_
  rintro J hJ m E H ⟨i, rfl, hi, hn, rfl, rfl⟩
  by_cases h : i < xs.length
  · have e := once_take_succ xs i h
    have hle : i ≤ xs.length := hi
    simp [c_spec_l9Once_L0, h, hle, take_ints]
    refine call_on (s_spec_l1Has (xs.take i) (ati xs i) (by simp; omega)) ?_
    simp [take_ints]
    refine ⟨fun he => ?_, fun he => ⟨by omega, _, by omega, hJ _ _ _ ⟨i + 1, rfl, h, e.2 ⟨hn, he⟩, rfl, rfl⟩⟩⟩
    simp only [onceB, decide_eq_false_iff_not]
    intro hnd
    exact (e.1 ((List.take_sublist (i + 1) xs).nodup hnd)).2 he
  · have : i = xs.length := by omega
    subst this
    rw [List.take_length] at hn
    simp [c_spec_l9Once_L0, onceB, hn]

end Go.Proofs.Dev

namespace Go.Proofs
open Go.Shelf
set_option maxRecDepth 1000000
end Go.Proofs
