/- Contracts of the functions of the program over slots and rows, each proved against the program itself; no condition beyond those that each theorem names. -/
import Derived.Test.YtiolbpmhnlmmdaaDoorAK
import Derived.Test.YtiolbpmhnlmmdaaDoorProg
import Derived.Test.YtiolbpmhnlmmdaaDoorAH
import Derived.Test.YtiolbpmhnlmmdaaDoorAI

set_option linter.unusedSimpArgs false
set_option linter.unusedVariables false

namespace Go.Proofs.Dev
set_option linter.unusedSimpArgs false
set_option maxRecDepth 100000

theorem s_spec_LaidOk (W T : Int) (cs : List Bool) (ls : List Int) (hb : cs.length < 2 ^ 40) (hd : ls.length < 2 ^ 40) :
    SoundAt Tryd.prog n_spec_LaidOk [.agg [.v (.int .i64 W), .v (.int .i64 T), .sl 1 1 (bools cs)], .sl 1 1 (ints ls)] (.v (.bool (regB W T cs && laysB W T cs ls))) [.bot, .bot] := by
  refine fn_ok (md := md0) (ms := [false, false]) k_spec_LaidOk (by simp) ?_
  simp [c_spec_LaidOk]
  refine call_on (s_spec_RegionValid W T cs hb) ?_
  simp
  refine ⟨fun hr => ⟨fun hl => ?_, fun hl => ?_⟩, fun hr => ?_⟩
  · intro _
    simp [laysB]; omega
  · have hl' : ls.length = cs.length := by omega
    obtain ⟨w1, w2, t1, t2, l1, _⟩ := regB_W hr
    refine loop_by (fun m E H => ∃ i : Nat, m = ls.length - i ∧ i ≤ ls.length ∧ allB i (fun k => layAt W T cs ls k) = true ∧ H = [some (.box [.v (.int .i64 W), .v (.int .i64 T), .sl 1 1 (bools cs)])] ∧ E = [(1, .sl 1 1 (ints ls)), (2, .lp 0 0 0 0), (5, .v (.int .i64 i))]) ls.length ⟨0, by simp [allB_zero]⟩ ?_
    rintro J hJ m E H ⟨i, rfl, hi, ha, rfl, rfl⟩
    by_cases h : i < ls.length
    · have h2 : i < cs.length := by omega
      have next : layAt W T cs ls i = true → again J (ls.length - i) [(1, .sl 1 1 (ints ls)), (2, .lp 0 0 0 0), (5, .v (.int .i64 (i + 1)))] [some (.box [.v (.int .i64 W), .v (.int .i64 T), .sl 1 1 (bools cs)])] :=
        fun hd => ⟨_, by omega, hJ _ _ _ ⟨i + 1, rfl, h, by rw [allB_succ, ha, hd]; rfl, rfl, rfl⟩⟩
      have stop : layAt W T cs ls i = false → (regB W T cs && laysB W T cs ls) = false := fun hd => by rw [hr, Bool.true_and]; simp only [laysB, hl', decide_true, Bool.true_and]; exact allB_false h2 hd
      by_cases z : ati ls i = 0
      · simp [c_spec_LaidOk_L0, h, h2, z]
        exact ⟨by omega, next (by simp [layAt, z])⟩
      by_cases rg : 1 ≤ ati ls i ∧ ati ls i ≤ 4
      case neg =>
        simp [c_spec_LaidOk_L0, h, h2, z]
        refine call_on (s_spec_l1In (ati ls i) 1 4) ?_
        have hs := stop (by simp [layAt, z]; omega)
        have hx : (decide (1 ≤ ati ls i) && decide (ati ls i ≤ 4)) = false := by simp; omega
        simp [hx, hs]
      cases hc : atb cs i with
      | false =>
        simp [c_spec_LaidOk_L0, h, h2, z]
        refine call_on (s_spec_l1In (ati ls i) 1 4) ?_
        have hs := stop (by simp [layAt, z, hc])
        simp [rg, hs, hc, h2]
      | true =>
        have hst := stepI_range (T := T) (k := i) (way := ati ls i) w1 (by omega) (by omega)
        have one : SoundAt Tryd.prog n_spec_l2Step [.agg [.v (.int .i64 W), .v (.int .i64 T), .sl 1 1 (bools cs)], .v (.int .i64 i), .v (.int .i64 (ati ls i))] (.v (.int .i64 (stepI W T i (ati ls i)))) [.bot, .bot, .bot] := s_spec_l2Step W T cs i (ati ls i) hr (by omega) (by omega)
        have two := s_spec_l2Back (ati ls i) (by omega) (by omega)
        simp [layAt, z, rg, hc] at next stop
        generalize hto : stepI W T i (ati ls i) = to at *
        simp [c_spec_LaidOk_L0, h, h2, z]
        refine call_on (s_spec_l1In (ati ls i) 1 4) ?_
        simp [rg, hc, h2]
        rcases hst with hst | ⟨hst, hst2, -, -⟩
        · subst hst
          have hs := stop (by omega) hr
          (repeat' first | assumption | omega | apply And.intro | intro _) <;> first
            | assumption
            | (refine call_on one ?_; simp [hs])
        · have e1 : ¬ to < 0 := by omega
          have e2 : to < cs.length := by omega
          have e3 : to < ls.length := by omega
          cases hct : atb cs to with
          | false =>
            have hs := stop (by simp [hct]) hr
            (repeat' first | assumption | omega | apply And.intro | intro _) <;> first
              | assumption
              | (refine call_on one ?_; simp [hs, e1, e2, e3, hst, hct])
          | true =>
            simp [hst, hct] at next stop
            (repeat' first | assumption | omega | apply And.intro | intro _) <;> first
              | assumption
              | (refine call_on one ?_
                 simp [e1, e2, e3, hst, hct, h]
                 (repeat' first | assumption | omega | apply And.intro | intro _) <;> first
                  | assumption
                  | (refine call_on two ?_
                     simp [e1, e2, e3, hst, hct, h]
                     (repeat' first | assumption | omega | apply And.intro | intro _) <;> first
                      | assumption
                      | omega
                      | exact next (by assumption)
                      | exact stop (by assumption) (by assumption)))
    · have : i = ls.length := by omega
      subst this
      simp [c_spec_LaidOk_L0]
      simp [laysB, hr, hl'] at ha ⊢
      exact ha
  · simp [hr]

end Go.Proofs.Dev

namespace Go.Proofs.Dev
set_option linter.unusedSimpArgs false
set_option maxRecDepth 100000

end Go.Proofs.Dev

namespace Go.Proofs.Dev
set_option linter.unusedSimpArgs false
set_option maxRecDepth 100000

theorem s_impl_in (x lo hi : Int) : SoundAt Tryd.prog n_impl_in [.v (.int .i64 x), .v (.int .i64 lo), .v (.int .i64 hi)] (.v (.bool (decide (lo ≤ x ∧ x ≤ hi)))) [.bot, .bot, .bot] := by
  refine fn_ok (md := md0) (ms := [false, false, false]) k_impl_in (by simp) ?_
  simp [c_impl_in]
  constructor
  · intro h; simp [h]
  · intro h; omega

theorem s_impl_in_t {x lo hi : Int} (h : lo ≤ x ∧ x ≤ hi) : SoundAt Tryd.prog n_impl_in [.v (.int .i64 x), .v (.int .i64 lo), .v (.int .i64 hi)] (.v (.bool true)) [.bot, .bot, .bot] := by
  have := s_impl_in x lo hi
  rwa [decide_eq_true h] at this
theorem s_impl_in_f {x lo hi : Int} (h : ¬ (lo ≤ x ∧ x ≤ hi)) : SoundAt Tryd.prog n_impl_in [.v (.int .i64 x), .v (.int .i64 lo), .v (.int .i64 hi)] (.v (.bool false)) [.bot, .bot, .bot] := by
  have := s_impl_in x lo hi
  rwa [decide_eq_false h] at this

theorem s_impl_many (bs : List Bool) (hb : bs.length < 2 ^ 40) : SoundAt Tryd.prog n_impl_many [.sl 1 1 (bools bs)] (.v (.int .i64 (manyOf bs))) [.bot] := by
  refine fn_ok (md := md0) (ms := [false]) k_impl_many (by simp) ?_
  simp [c_impl_many]
  refine loop_by (fun m E H => ∃ i : Nat, m = bs.length - i ∧ i ≤ bs.length ∧ H = [] ∧ E = [(3, .v (.int .i64 (manyOf (bs.take i)))), (6, .sl 1 1 (bools bs)), (7, .v (.int .i64 bs.length)), (8, .v (.int .i64 i))]) bs.length ⟨0, by simp [manyOf]⟩ ?_
  rintro J hJ m E H ⟨i, rfl, hi, rfl, rfl⟩
  simp [c_impl_many_L0]
  refine ⟨fun h => ?_, fun h => ?_⟩
  · have e := manyOf_take bs i h
    have e3 := manyOf_le (bs.take i)
    rw [List.length_take] at e3
    simp [h]
    refine ⟨fun hb => ⟨by omega, by omega, _, by omega, hJ _ _ _ ⟨i + 1, rfl, h, rfl, ?_⟩⟩, fun hb => ⟨by omega, _, by omega, hJ _ _ _ ⟨i + 1, rfl, h, rfl, ?_⟩⟩⟩ <;> simp [e, hb]
  · have : i = bs.length := by omega
    subst this
    simp

theorem s_impl_RegionValid (W T : Int) (cs : List Bool) (hb : cs.length < 2 ^ 40) : SoundAt Tryd.prog n_impl_RegionValid [.agg [.v (.int .i64 W), .v (.int .i64 T), .sl 1 1 (bools cs)]] (.v (.bool (regB W T cs))) [.bot] := by
  refine fn_ok (md := md0) (ms := [false]) k_impl_RegionValid (by simp) ?_
  simp [c_impl_RegionValid]
  refine call_on (s_impl_in W 1 6) ?_
  simp
  refine ⟨fun h h' => ?_, fun h => ?_⟩
  · refine call_on (s_impl_in T 1 6) ?_
    have hx : T ≤ 6 → W * T ≤ 36 ∧ (1 ≤ T → 1 ≤ W * T) := fun ht => ⟨(by
      by_cases h0 : 0 ≤ T
      · exact Int.mul_le_mul h' ht h0 (by omega)
      · have : W * T ≤ 0 := Int.mul_nonpos_of_nonneg_of_nonpos (by omega) (by omega)
        omega), fun h1 => Int.mul_pos (by omega) (by omega)⟩
    simp
    refine ⟨fun h1 h2 => ⟨by have := hx h2; omega, fun h3 => ?_, fun h3 => ?_⟩, fun h1 => ?_⟩
    · refine call_on (s_impl_many cs hb) ?_
      simp [regB, h, h', h1, h2, h3]
      omega
    · simp [regB]; omega
    · simp [regB]; omega
  · simp [regB]; omega

theorem s_impl_puzzle (W T : Int) (cs : List Bool) (ds : List Int) (hb : cs.length < 2 ^ 40) (hd : ds.length < 2 ^ 40) :
    SoundAt Tryd.prog n_impl_puzzle [.agg [.v (.int .i64 W), .v (.int .i64 T), .sl 1 1 (bools cs)], .sl 1 1 (ints ds)] (.v (.bool (digsB cs ds))) [.bot, .bot] := by
  refine fn_ok (md := md0) (ms := [false, false]) k_impl_puzzle (by simp) ?_
  simp [c_impl_puzzle]
  refine ⟨fun hl => ?_, fun hl => ?_⟩
  · simp [digsB]; omega
  · have hl' : ds.length = cs.length := by omega
    refine loop_by (fun m E H => ∃ i : Nat, m = ds.length - i ∧ i ≤ ds.length ∧ allB i (fun k => digAt cs ds k) = true ∧ H = [some (.box [.v (.int .i64 W), .v (.int .i64 T), .sl 1 1 (bools cs)])] ∧ E = [(2, .lp 0 0 0 0), (13, .sl 1 1 (ints ds)), (14, .v (.int .i64 ds.length)), (15, .v (.int .i64 i))]) ds.length ⟨0, by simp [allB_zero]⟩ ?_
    rintro J hJ m E H ⟨i, rfl, hi, ha, rfl, rfl⟩
    by_cases h : i < ds.length
    · have h2 : i < cs.length := by omega
      have next : digAt cs ds i = true → again J (ds.length - i) [(2, .lp 0 0 0 0), (13, .sl 1 1 (ints ds)), (14, .v (.int .i64 ds.length)), (15, .v (.int .i64 (i + 1)))] [some (.box [.v (.int .i64 W), .v (.int .i64 T), .sl 1 1 (bools cs)])] :=
        fun hd => ⟨_, by omega, hJ _ _ _ ⟨i + 1, rfl, h, by rw [allB_succ, ha, hd]; rfl, rfl, rfl⟩⟩
      have stop : digAt cs ds i = false → digsB cs ds = false := fun hd => by simp only [digsB, hl', decide_true, Bool.true_and]; exact allB_false h2 hd
      cases hc : atb cs i with
      | true =>
        simp [c_impl_puzzle_L0, h, h2, hc]
        by_cases hx : 0 ≤ ati ds i ∧ ati ds i ≤ 6
        · refine call_on (s_impl_in_t hx) ?_
          simp [hc, h2]
          exact ⟨by omega, next (by simp [digAt, hc, hx])⟩
        · refine call_on (s_impl_in_f hx) ?_
          simp [hc, h2]
          exact stop (by simp [digAt, hc]; omega)
      | false =>
        simp [c_impl_puzzle_L0, h, h2, hc]
        simp [digAt, hc] at next stop ⊢
        exact ⟨fun hx => stop hx, fun hx => ⟨by omega, next hx⟩⟩
    · have : i = ds.length := by omega
      subst this
      simp [c_impl_puzzle_L0]
      simp [digsB, hl'] at ha ⊢
      exact ha

theorem s_impl_PuzzleValid (W T : Int) (cs : List Bool) (ds : List Int) (hb : cs.length < 2 ^ 40) (hd : ds.length < 2 ^ 40) :
    SoundAt Tryd.prog n_impl_PuzzleValid [.agg [.v (.int .i64 W), .v (.int .i64 T), .sl 1 1 (bools cs)], .sl 1 1 (ints ds)] (.v (.bool (regB W T cs && digsB cs ds))) [.bot, .bot] := by
  refine fn_ok (md := md0) (ms := [false, false]) k_impl_PuzzleValid (by simp) ?_
  simp [c_impl_PuzzleValid]
  refine call_on (s_impl_RegionValid W T cs hb) ?_
  cases hr : regB W T cs with
  | false => simp
  | true =>
    simp
    refine call_on (s_impl_puzzle W T cs ds hb hd) ?_
    simp

end Go.Proofs.Dev

namespace Go.Proofs.Dev
set_option linter.unusedSimpArgs false
set_option maxRecDepth 100000

end Go.Proofs.Dev

namespace Go.Proofs.Dev

end Go.Proofs.Dev

namespace Go.Proofs.Dev
set_option linter.unusedSimpArgs false
set_option maxRecDepth 100000

end Go.Proofs.Dev

namespace Go.Proofs
end Go.Proofs

namespace Go.Proofs.Dev
set_option linter.unusedSimpArgs false
set_option maxRecDepth 100000

end Go.Proofs.Dev

namespace Go.Proofs.Dev
set_option linter.unusedSimpArgs false
set_option maxRecDepth 100000

end Go.Proofs.Dev

namespace Go.Proofs.Dev

-- 2 parameters, results [.t 4], 28 slots, modes [false, false]
@[simp] abbrev n_spec_TilingOk : Nat := 111
def c_spec_TilingOk_L0 : ACode := .seq (.seq (.reg [.m 10 5, .m 11 1, .n 12 11, .o 13 (.bin .lss 0) [.t 10, .t 12]]) <| .cond (.t 13) ( .skip) ( .exit 0)) <|
 .seq (.block 1 ( .seq (.reg [.f 16 2 2, .l 17 16, .m 18 5, .o 19 (.iadr 1) [.t 17, .t 18], .l 20 19, .m 21 20, .mg 22 1 21 true, .mg 23 5 21 true,
 .g 24 (.iadr 1) [.t 22, .t 23] 21 true, .lg 25 24 21 true, .g 26 (.bin .eql 0) [.t 25, .k 0] 21 true, .o 27 .pick [.t 21, .t 26, .kb false]]) <|
 .cond (.t 27) ( .seq (.reg [.o 4 .mv [.kb false]]) <| .ret) ( .skip))) <| .reg [.m 14 5, .o 15 (.bin .add 0) [.t 14, .k 1], .m 5 15]

def c_spec_TilingOk : ACode := .seq (.reg [.o 2 .box [.t 0], .o 4 .mv [.kb false]]) <| .seq (.seq (.reg [.la 6 3 2, .m 7 1, .o 8 (.call 128 []) [.t 6, .t 7],
 .o 9 (.un .not) [.t 8]]) <| .cond (.t 9) ( .seq (.reg [.o 4 .mv [.kb false]]) <| .ret) ( .skip)) <| .seq (.seq (.reg [.o 5 .mv [.k 0]]) <| .block 0 ( .loop [(1,
 1)] [1, 2, 5] c_spec_TilingOk_L0)) <| .seq (.reg [.o 4 .mv [.kb true]]) <| .ret

theorem k_spec_TilingOk : cFn Tryd.prog n_spec_TilingOk 28 [.t 4] c_spec_TilingOk := ⟨Tryd.f111, _, Tryd.func111, rfl, by kernel_rfl, by kernel_rfl, by kernel_rfl, by kernel_rfl⟩

end Go.Proofs.Dev

namespace Go.Proofs.Dev
set_option linter.unusedSimpArgs false
set_option maxRecDepth 100000

def fullAt (cs : List Bool) (ls : List Int) (k : Int) : Bool := !(atb cs k && decide (ati ls k = 0))
/-- Every cell of the region has a domino. -/
def fullB (cs : List Bool) (ls : List Int) : Bool := allB cs.length (fun k => fullAt cs ls k)
theorem s_spec_TilingOk (W T : Int) (cs : List Bool) (ls : List Int) (hb : cs.length < 2 ^ 40) (hd : ls.length < 2 ^ 40) :
    SoundAt Tryd.prog n_spec_TilingOk [.agg [.v (.int .i64 W), .v (.int .i64 T), .sl 1 1 (bools cs)], .sl 1 1 (ints ls)] (.v (.bool (regB W T cs && laysB W T cs ls && fullB cs ls))) [.bot, .bot] := by
  refine fn_ok (md := md0) (ms := [false, false]) k_spec_TilingOk (by simp) ?_
  simp [c_spec_TilingOk]
  refine call_on (s_spec_LaidOk W T cs ls hb hd) ?_
  cases hp : (regB W T cs && laysB W T cs ls) with
  | false => simp
  | true =>
  have hl' : ls.length = cs.length := by
    simp only [laysB, Bool.and_eq_true, decide_eq_true_eq] at hp
    exact hp.2.1
  simp
  refine loop_by (fun m E H => ∃ i : Nat, m = ls.length - i ∧ i ≤ ls.length ∧ allB i (fun k => fullAt cs ls k) = true ∧ H = [some (.box [.v (.int .i64 W), .v (.int .i64 T), .sl 1 1 (bools cs)])] ∧ E = [(1, .sl 1 1 (ints ls)), (2, .lp 0 0 0 0), (5, .v (.int .i64 i))]) ls.length ⟨0, by simp [allB_zero]⟩ ?_
  rintro J hJ m E H ⟨i, rfl, hi, ha, rfl, rfl⟩
  by_cases h : i < ls.length
  · have h2 : i < cs.length := by omega
    have next : fullAt cs ls i = true → again J (ls.length - i) [(1, .sl 1 1 (ints ls)), (2, .lp 0 0 0 0), (5, .v (.int .i64 (i + 1)))] [some (.box [.v (.int .i64 W), .v (.int .i64 T), .sl 1 1 (bools cs)])] :=
      fun hd => ⟨_, by omega, hJ _ _ _ ⟨i + 1, rfl, h, by rw [allB_succ, ha, hd]; rfl, rfl, rfl⟩⟩
    have stop : fullAt cs ls i = false → fullB cs ls = false := fun hd => allB_false h2 hd
    cases hc : atb cs i with
    | false =>
      simp [c_spec_TilingOk_L0, h, h2, hc]
      exact ⟨by omega, next (by simp [fullAt, hc])⟩
    | true =>
      simp [c_spec_TilingOk_L0, h, h2, hc]
      exact ⟨fun e => stop (by simp [fullAt, hc, e]), fun e => ⟨by omega, next (by simp [fullAt, hc, e])⟩⟩
  · have : i = ls.length := by omega
    subst this
    simp [c_spec_TilingOk_L0]
    rw [hl'] at ha
    simpa [fullB] using ha

end Go.Proofs.Dev

namespace Go.Proofs.Dev
set_option linter.unusedSimpArgs false
set_option maxRecDepth 100000

end Go.Proofs.Dev

namespace Go.Proofs.Dev

-- 3 parameters, results [.t 6], 28 slots, modes [false, false, false]
@[simp] abbrev n_spec_StepTo : Nat := 129

def c_spec_StepTo : ACode := .seq (.reg [.o 3 .box [.t 0], .o 6 .mv [.k 0]]) <| .seq (.seq (.reg [.la 7 3 3, .o 8 (.call 88 []) [.t 7], .o 9 (.un .not) [.t 8],
 .m 10 9, .mg 11 1 10 false, .fg 12 2 3 10 false, .lg 13 12 10 false, .g 14 (.len false) [.t 13] 10 false, .g 15 (.bin .sub 0) [.t 14, .k 1] 10 false,
 .g 16 (.call 42 []) [.t 11, .k 0, .t 15] 10 false, .g 17 (.un .not) [.t 16] 10 false, .o 18 .pick [.t 10, .kb true, .t 17], .m 19 18, .mg 20 2 19 false,
 .g 21 (.call 42 []) [.t 20, .k 1, .k 4] 19 false, .g 22 (.un .not) [.t 21] 19 false, .o 23 .pick [.t 19, .kb true, .t 22]]) <|
 .cond (.t 23) ( .seq (.reg [.o 6 .mv [.k (-1)]]) <| .ret) ( .skip)) <| .seq (.reg [.la 24 3 3, .m 25 1, .m 26 2, .o 27 (.call 110 []) [.t 24, .t 25, .t 26],
 .m 6 27]) <| .ret

theorem k_spec_StepTo : cFn Tryd.prog n_spec_StepTo 28 [.t 6] c_spec_StepTo := ⟨Tryd.f129, _, Tryd.func129, rfl, by kernel_rfl, by kernel_rfl, by kernel_rfl, by kernel_rfl⟩

-- 4 parameters, results [.t 8, .t 9], 67 slots, modes [false, false, false, false]
@[simp] abbrev n_spec_LayOne : Nat := 108

def c_spec_LayOne : ACode := .seq (.reg [.o 4 .box [.t 0], .o 8 .mv [.c (.os 1 [])], .o 9 .mv [.kb false]]) <| .seq (.seq (.reg [.la 12 3 4, .m 13 1,
 .o 14 (.call 128 []) [.t 12, .t 13], .o 15 (.un .not) [.t 14]]) <| .cond (.t 15) ( .seq (.reg [.o 16 (.bsl 1) [], .m 8 16, .o 9 .mv [.kb false]]) <|
 .ret) ( .skip)) <| .seq (.reg [.o 17 (.bsl 1) [], .m 18 1, .o 19 (.app 1 8 true) [.t 17, .t 18], .m 10 19]) <| .seq (.reg [.la 20 3 4, .m 21 2, .m 22 3,
 .o 23 (.call 129 []) [.t 20, .t 21, .t 22], .m 11 23]) <| .seq (.seq (.reg [.m 24 11, .o 25 (.bin .lss 0) [.t 24, .k 0], .m 26 25, .fg 27 2 4 26 false,
 .lg 28 27 26 false, .mg 29 2 26 false, .g 30 (.iadr 1) [.t 28, .t 29] 26 false, .lg 31 30 26 false, .g 32 (.un .not) [.t 31] 26 false, .o 33 .pick [.t 26,
 .kb true, .t 32], .m 34 33, .fg 35 2 4 34 false, .lg 36 35 34 false, .mg 37 11 34 false, .g 38 (.iadr 1) [.t 36, .t 37] 34 false, .lg 39 38 34 false,
 .g 40 (.un .not) [.t 39] 34 false, .o 41 .pick [.t 34, .kb true, .t 40], .m 42 41, .mg 43 1 42 false, .mg 44 2 42 false, .g 45 (.iadr 1) [.t 43,
 .t 44] 42 false, .lg 46 45 42 false, .g 47 (.bin .neq 0) [.t 46, .k 0] 42 false, .o 48 .pick [.t 42, .kb true, .t 47], .m 49 48, .mg 50 1 49 false,
 .mg 51 11 49 false, .g 52 (.iadr 1) [.t 50, .t 51] 49 false, .lg 53 52 49 false, .g 54 (.bin .neq 0) [.t 53, .k 0] 49 false, .o 55 .pick [.t 49, .kb true,
 .t 54]]) <| .cond (.t 55) ( .seq (.reg [.m 56 10, .m 8 56, .o 9 .mv [.kb false]]) <| .ret) ( .skip)) <| .seq (.reg [.m 57 10, .m 58 2, .m 59 3,
 .o 60 (.iadr 1) [.t 57, .t 58], .s (.store 1) [.t 60, .t 59]]) <| .seq (.reg [.m 61 10, .m 62 11, .m 63 3, .o 64 (.call 130 []) [.t 63], .o 65 (.iadr 1) [.t 61,
 .t 62], .s (.store 1) [.t 65, .t 64]]) <| .seq (.reg [.m 66 10, .m 8 66, .o 9 .mv [.kb true]]) <| .ret

theorem k_spec_LayOne : cFn Tryd.prog n_spec_LayOne 67 [.t 8, .t 9] c_spec_LayOne := ⟨Tryd.f108, _, Tryd.func108, rfl, by kernel_rfl, by kernel_rfl, by kernel_rfl, by kernel_rfl⟩

end Go.Proofs.Dev

namespace Go.Proofs.Dev
set_option linter.unusedSimpArgs false
set_option maxRecDepth 100000

theorem s_spec_l1In_t {x lo hi : Int} (h : lo ≤ x ∧ x ≤ hi) : SoundAt Tryd.prog n_spec_l1In [.v (.int .i64 x), .v (.int .i64 lo), .v (.int .i64 hi)] (.v (.bool true)) [.bot, .bot, .bot] := by
  have := s_spec_l1In x lo hi
  rwa [decide_eq_true h] at this
theorem s_spec_l1In_f {x lo hi : Int} (h : ¬ (lo ≤ x ∧ x ≤ hi)) : SoundAt Tryd.prog n_spec_l1In [.v (.int .i64 x), .v (.int .i64 lo), .v (.int .i64 hi)] (.v (.bool false)) [.bot, .bot, .bot] := by
  have := s_spec_l1In x lo hi
  rwa [decide_eq_false h] at this

end Go.Proofs.Dev

namespace Go.Proofs.Dev
set_option linter.unusedSimpArgs false
set_option maxRecDepth 100000

theorem s_spec_StepTo (W T : Int) (cs : List Bool) (cell way : Int) (hr : regB W T cs = true) :
    SoundAt Tryd.prog n_spec_StepTo [.agg [.v (.int .i64 W), .v (.int .i64 T), .sl 1 1 (bools cs)], .v (.int .i64 cell), .v (.int .i64 way)] (.v (.int .i64 (if 0 ≤ cell ∧ cell < cs.length ∧ 1 ≤ way ∧ way ≤ 4 then stepI W T cell way else -1))) [.bot, .bot, .bot] := by
  refine fn_ok (md := md0) (ms := [false, false, false]) k_spec_StepTo (by simp) ?_
  have h36 := regB_len hr
  simp [c_spec_StepTo]
  refine call_on (s_spec_RegionValid W T cs (by omega)) ?_
  simp [hr]
  refine ⟨by omega, ?_⟩
  by_cases h : 0 ≤ cell ∧ cell < cs.length
  case neg =>
    refine call_on (s_spec_l1In_f (x := cell) (lo := 0) (hi := cs.length - 1) (by omega)) ?_
    rw [if_neg (fun x => h ⟨x.1, x.2.1⟩)]
    simp
  refine call_on (s_spec_l1In_t (x := cell) (lo := 0) (hi := cs.length - 1) (by omega)) ?_
  simp
  by_cases hw : 1 ≤ way ∧ way ≤ 4
  case neg =>
    refine call_on (s_spec_l1In_f hw) ?_
    rw [if_neg (fun x => hw x.2.2)]
    simp
  refine call_on (s_spec_l1In_t hw) ?_
  simp
  refine call_on (s_spec_l2Step W T cs cell way hr h.1 h.2) ?_
  simp [h, hw]

/-- What LayOne gives. -/
def layOneL (W T : Int) (cs : List Bool) (ls : List Int) (cell way : Int) : List Int := if freeB W T cs ls cell way then layI W T ls cell way else ls

theorem s_spec_LayOne (W T : Int) (cs : List Bool) (ls : List Int) (cell way : Int) (hr : regB W T cs = true) (hy : laysB W T cs ls = true) :
    SoundAt Tryd.prog n_spec_LayOne [.agg [.v (.int .i64 W), .v (.int .i64 T), .sl 1 1 (bools cs)], .sl 1 1 (ints ls), .v (.int .i64 cell), .v (.int .i64 way)]
      (.tup [.os 1 (ints (layOneL W T cs ls cell way)), .v (.bool (freeB W T cs ls cell way))]) [.bot, .bot, .bot, .bot] := by
  refine fn_ok (md := md0) (ms := [false, false, false, false]) k_spec_LayOne (by simp) ?_
  have h36 := regB_len hr
  obtain ⟨w1, w2, t1, t2, l1, _⟩ := regB_W hr
  have hl : ls.length = cs.length := by simp only [laysB, Bool.and_eq_true, decide_eq_true_eq] at hy; exact hy.1
  simp [c_spec_LayOne]
  refine call_on (s_spec_LaidOk W T cs ls (by omega) (by omega)) ?_
  simp [hr, hy]
  refine ⟨by omega, ?_⟩
  refine call_on (s_spec_StepTo W T cs cell way hr) ?_
  by_cases h : 0 ≤ cell ∧ cell < cs.length
  case neg =>
    have hf : freeB W T cs ls cell way = false := decide_eq_false (fun x => h ⟨x.1, x.2.1⟩)
    rw [if_neg (fun x => h ⟨x.1, x.2.1⟩)]
    simp [hf, layOneL]
  have hst := stepI_range (T := T) (way := way) w1 h.1 (by omega)
  have e0 : (if 0 ≤ cell ∧ cell < cs.length ∧ 1 ≤ way ∧ way ≤ 4 then stepI W T cell way else -1) = stepI W T cell way := by
    rcases hst with hst | hst
    · split
      · rfl
      · exact hst.symm
    · rw [if_pos ⟨h.1, h.2, hst.2.2.1, hst.2.2.2⟩]
  rw [e0]
  by_cases hneg : stepI W T cell way < 0
  · have hf : freeB W T cs ls cell way = false := decide_eq_false (fun x => by omega)
    simp [hneg, hf, layOneL]
  obtain ⟨h3, h4, h5, h6⟩ : 0 ≤ stepI W T cell way ∧ stepI W T cell way < W * T ∧ 1 ≤ way ∧ way ≤ 4 := by
    rcases hst with hst | hst
    · omega
    · exact hst
  have hfree : freeB W T cs ls cell way = decide (atb cs cell = true ∧ atb cs (stepI W T cell way) = true ∧ ati ls cell = 0 ∧ ati ls (stepI W T cell way) = 0) := by
    simp [freeB, h, h3]
  have e2 : ((ints ls).set cell.toNat (.v (.int .i64 way))).set (stepI W T cell way).toNat (.v (.int .i64 (backI way))) = ints (layI W T ls cell way) := by rw [ints_set, ints_set]; rfl
  have ht : (layI W T ls cell way).length = ls.length := layI_length W T ls cell way
  have hk : (ints (layI W T ls cell way)).take ls.length = ints (layI W T ls cell way) := List.take_of_length_le (by simp [ht])
  have hk0 : (ints ls).take cs.length = ints ls := List.take_of_length_le (by simp [hl])
  have two := s_spec_l2Back way (by omega) (by omega)
  unfold layOneL
  rw [hfree]
  clear hfree e0 hst
  generalize stepI W T cell way = to at *
  have h7 : to < cs.length := by omega
  have h8 : ¬ to < 0 := hneg
  cases hc : atb cs cell with
  | false => simp [h, h8, hc]
  | true =>
  cases ht' : atb cs to with
  | false => simp [h, h3, h7, h8, hc, ht']
  | true =>
  by_cases z : ati ls cell = 0
  case neg => simp [h, h3, h7, h8, hc, ht', hl, z, hk0]
  by_cases z2 : ati ls to = 0
  case neg => simp [h, h3, h7, h8, hc, ht', hl, z, z2, hk0]
  have g3 : cell.toNat < ls.length := by omega
  have g4 : to.toNat < ls.length := by omega
  have g1 : cell < ls.length := by omega
  have g2 : to < ls.length := by omega
  simp [h, h3, h7, h8, hc, ht', g1, g2, g3, g4, z, z2]
  refine call_on two ?_
  simp [h, h3, h7, h8, g1, g2, g3, g4, e2, ht, hk]

end Go.Proofs.Dev

namespace Go.Proofs.Dev
set_option linter.unusedSimpArgs false
set_option maxRecDepth 100000

end Go.Proofs.Dev

namespace Go.Proofs.Dev
set_option linter.unusedSimpArgs false
set_option maxRecDepth 100000

/-- The first place that fits, or -1. -/
def firstI (p : Nat → Bool) (n : Nat) : Int := match (List.range n).find? p with | some k => k | none => -1
theorem firstI_hit {p : Nat → Bool} {n k : Nat} (hk : k < n) (hp : p k = true) (h : ∀ j, j < k → p j = false) : firstI p n = k := by
  have : (List.range n).find? p = some k := by
    rw [List.find?_range_eq_some]
    exact ⟨hp, by simpa using hk, fun j hj => by simp [h j hj]⟩
  simp [firstI, this]
theorem firstI_none {p : Nat → Bool} {n : Nat} (h : ∀ j, j < n → p j = false) : firstI p n = -1 := by
  have : (List.range n).find? p = none := by
    rw [List.find?_eq_none]
    intro x hx
    simp [h x (by simpa using hx)]
  simp [firstI, this]
theorem firstI_cases (p : Nat → Bool) (n : Nat) : (firstI p n = -1) ∨ ∃ k : Nat, k < n ∧ p k = true ∧ firstI p n = k := by
  unfold firstI
  split
  · rename_i k hk
    right
    rw [List.find?_range_eq_some] at hk
    exact ⟨k, by simpa using hk.2.1, hk.1, rfl⟩
  · left; rfl

end Go.Proofs.Dev

namespace Go.Proofs.Dev
set_option linter.unusedSimpArgs false
set_option maxRecDepth 100000

end Go.Proofs.Dev

namespace Go.Proofs.Dev
set_option linter.unusedSimpArgs false
set_option maxRecDepth 100000

def zeros (ls : List Int) : Nat := ls.countP (fun x => decide (x = 0))

theorem zeros_set_le {ls : List Int} {i : Nat} {v : Int} (hv : v ≠ 0) : zeros (ls.set i v) ≤ zeros ls := by
  by_cases h : i < ls.length
  · unfold zeros
    rw [List.countP_set h]
    simp [hv]
  · rw [List.set_eq_of_length_le (by omega)]; exact Nat.le_refl _
theorem zeros_set_lt {ls : List Int} {i : Nat} {v : Int} (h : i < ls.length) (hz : ati ls i = 0) (hv : v ≠ 0) : zeros (ls.set i v) < zeros ls := by
  have he : ls[i] = 0 := by simpa [ati, h] using hz
  have hp : 0 < zeros ls := by
    unfold zeros
    rw [List.countP_pos_iff]
    exact ⟨ls[i], List.getElem_mem h, by simp [he]⟩
  unfold zeros at hp ⊢
  rw [List.countP_set h]
  simp [hv, he]
  omega

end Go.Proofs.Dev

namespace Go.Proofs.Dev

end Go.Proofs.Dev

namespace Go.Proofs.Dev
set_option linter.unusedSimpArgs false
set_option maxRecDepth 100000

/-- Lists of numbers, as elements of a row: read alone, and owned. -/
def sls (c : Nat) (ps : List (List Int)) : List AV := ps.map fun p => .sl c 1 (ints p)
def oss (ps : List (List Int)) : List AV := ps.map fun p => .os 1 (ints p)
def pti (ps : List (List Int)) (i : Int) : List Int := ps.getD i.toNat []

@[simp] theorem sls_length (c : Nat) (ps : List (List Int)) : (sls c ps).length = ps.length := by simp [sls]
@[simp] theorem oss_length (ps : List (List Int)) : (oss ps).length = ps.length := by simp [oss]
@[simp] theorem sls_nil (c : Nat) : sls c [] = [] := (rfl)
@[simp] theorem oss_nil : oss [] = [] := (rfl)
@[simp] theorem sls_eq_nil (c : Nat) (ps : List (List Int)) : (sls c ps = []) = (ps = []) := by cases ps <;> simp [sls]
@[simp] theorem oss_eq_nil (ps : List (List Int)) : (oss ps = []) = (ps = []) := by cases ps <;> simp [oss]
@[simp] theorem iadr_sls_ite {c d : Nat} {k : IntKind} {ps : List (List Int)} {i : Int} : aiadr 1 (.sl c 1 (sls d ps)) (.v (.int k i)) = if 0 ≤ i ∧ i < ps.length then some (.vp c [.sl d 1 (ints (pti ps i))] 0) else none := by
  by_cases h : 0 ≤ i ∧ i < ps.length
  · rw [if_pos h]
    have h1 : i.toNat < ps.length := by omega
    simp [aiadr, h.1, sls, pti, h1]
  · rw [if_neg h]
    by_cases h0 : 0 ≤ i
    · have : ¬ i.toNat < ps.length := by omega
      simp [aiadr, h0, sls, this]
    · simp [aiadr, h0]
@[simp] theorem vwL_sls (c d : Nat) : ∀ ps : List (List Int), vwL c (sls d ps) = sls c ps
  | [] => rfl
  | p :: ps => by
    show vw c (.sl d 1 (ints p)) :: vwL c (sls d ps) = .sl c 1 (ints p) :: sls c ps
    rw [vwL_sls c d ps]; simp
@[simp] theorem vwL_oss (c : Nat) : ∀ ps : List (List Int), vwL c (oss ps) = sls c ps
  | [] => rfl
  | p :: ps => by
    show vw c (.os 1 (ints p)) :: vwL c (oss ps) = .sl c 1 (ints p) :: sls c ps
    rw [vwL_oss c ps]; simp
@[simp] theorem okL_sls (c : Nat) : ∀ ps : List (List Int), okL (sls c ps) = true
  | [] => rfl
  | p :: ps => by show (okE (.sl c 1 (ints p)) && okL (sls c ps)) = true; rw [okL_sls c ps]; simp
@[simp] theorem okL_oss : ∀ ps : List (List Int), okL (oss ps) = true
  | [] => rfl
  | p :: ps => by show (okE (.os 1 (ints p)) && okL (oss ps)) = true; rw [okL_oss ps]; simp
theorem take_oss (n : Nat) (ps : List (List Int)) : (oss ps).take n = oss (ps.take n) := by simp [oss]
@[simp] theorem take_oss_all (ps : List (List Int)) : (oss ps).take ps.length = oss ps := by rw [take_oss, List.take_length]
/-- A book's argument, and a book that is owned. -/
@[simp] def bkA (W T : Int) (cs : List Bool) (ds ls : List Int) (ps : List (List Int)) : AV := .agg [.v (.int .i64 W), .v (.int .i64 T), .sl 1 1 (bools cs), .sl 1 1 (ints ds), .sl 1 1 (ints ls), .sl 1 1 (sls 1 ps)]
@[simp] def bkO (W T : Int) (cs : List Bool) (ds ls : List Int) (ps : List (List Int)) : AV := .agg [.v (.int .i64 W), .v (.int .i64 T), .os 1 (bools cs), .os 1 (ints ds), .os 1 (ints ls), .os 1 (oss ps)]

end Go.Proofs.Dev

namespace Go.Proofs.Dev
set_option linter.unusedSimpArgs false
set_option maxRecDepth 100000

/-- A book that a closure reads. -/
@[simp] def bkP (W T : Int) (cs : List Bool) (ds ls : List Int) (ps : List (List Int)) : AV := .vp 1 [.v (.int .i64 W), .v (.int .i64 T), .sl 1 1 (bools cs), .sl 1 1 (ints ds), .sl 1 1 (ints ls), .sl 1 1 (sls 1 ps)] 0
end Go.Proofs.Dev

namespace Go.Proofs.Dev
set_option linter.unusedSimpArgs false
set_option maxRecDepth 100000

end Go.Proofs.Dev

namespace Go.Proofs.Dev

-- 1 parameters, results [.t 2], 9 slots, modes [false]
@[simp] abbrev n_spec_CellsMany : Nat := 104

def c_spec_CellsMany : ACode := .seq (.reg [.o 1 .box [.t 0], .o 2 .mv [.k 0]]) <| .seq (.seq (.reg [.la 3 3 1, .o 4 (.call 88 []) [.t 3],
 .o 5 (.un .not) [.t 4]]) <| .cond (.t 5) ( .seq (.reg [.o 2 .mv [.k (-1)]]) <| .ret) ( .skip)) <| .seq (.reg [.f 6 2 1, .l 7 6, .o 8 (.call 113 []) [.t 7],
 .m 2 8]) <| .ret

theorem k_spec_CellsMany : cFn Tryd.prog n_spec_CellsMany 9 [.t 2] c_spec_CellsMany := ⟨Tryd.f104, _, Tryd.func104, rfl, by kernel_rfl, by kernel_rfl, by kernel_rfl, by kernel_rfl⟩

end Go.Proofs.Dev

namespace Go.Proofs.Dev
set_option linter.unusedSimpArgs false
set_option maxRecDepth 100000

theorem s_spec_CellsMany (W T : Int) (cs : List Bool) (hb : cs.length < 2 ^ 40) :
    SoundAt Tryd.prog n_spec_CellsMany [.agg [.v (.int .i64 W), .v (.int .i64 T), .sl 1 1 (bools cs)]] (.v (.int .i64 (if regB W T cs then manyOf cs else -1))) [.bot] := by
  refine fn_ok (md := md0) (ms := [false]) k_spec_CellsMany (by simp) ?_
  simp [c_spec_CellsMany]
  refine call_on (s_spec_RegionValid W T cs hb) ?_
  cases hr : regB W T cs with
  | false => simp
  | true =>
  simp
  refine call_on (s_spec_l1Count cs hb) ?_
  simp

end Go.Proofs.Dev

namespace Go.Proofs.Dev
set_option linter.unusedSimpArgs false
set_option maxRecDepth 100000

end Go.Proofs.Dev

namespace Go.Proofs.Dev

-- 2 parameters, results [.t 4], 25 slots, modes [false, false]
@[simp] abbrev n_spec_l2First : Nat := 107
def c_spec_l2First_L0 : ACode := .seq (.seq (.reg [.m 6 5, .m 7 1, .n 8 7, .o 9 (.bin .lss 0) [.t 6, .t 8]]) <| .cond (.t 9) ( .skip) ( .exit 0)) <|
 .seq (.block 1 ( .seq (.reg [.f 12 2 2, .l 13 12, .m 14 5, .o 15 (.iadr 1) [.t 13, .t 14], .l 16 15, .m 17 16, .mg 18 1 17 true, .mg 19 5 17 true,
 .g 20 (.iadr 1) [.t 18, .t 19] 17 true, .lg 21 20 17 true, .g 22 (.bin .eql 0) [.t 21, .k 0] 17 true, .o 23 .pick [.t 17, .t 22, .kb false]]) <|
 .cond (.t 23) ( .seq (.reg [.m 24 5, .m 4 24]) <| .ret) ( .skip))) <| .reg [.m 10 5, .o 11 (.bin .add 0) [.t 10, .k 1], .m 5 11]

def c_spec_l2First : ACode := .seq (.reg [.o 2 .box [.t 0], .o 4 .mv [.k 0]]) <| .seq (.seq (.reg [.o 5 .mv [.k 0]]) <| .block 0 ( .loop [(1, 1)] [1, 2,
 5] c_spec_l2First_L0)) <| .seq (.reg [.o 4 .mv [.k (-1)]]) <| .ret

theorem k_spec_l2First : cFn Tryd.prog n_spec_l2First 25 [.t 4] c_spec_l2First := ⟨Tryd.f107, _, Tryd.func107, rfl, by kernel_rfl, by kernel_rfl, by kernel_rfl, by kernel_rfl⟩

-- 1 parameters, results [.t 2], 11 slots, modes [false]
@[simp] abbrev n_spec_LaidBare : Nat := 106

def c_spec_LaidBare : ACode := .seq (.reg [.o 1 .box [.t 0], .o 2 .mv [.c (.os 1 [])]]) <| .seq (.seq (.reg [.la 3 3 1, .o 4 (.call 88 []) [.t 3],
 .o 5 (.un .not) [.t 4]]) <| .cond (.t 5) ( .seq (.reg [.o 6 (.bsl 1) [], .m 2 6]) <| .ret) ( .skip)) <| .seq (.reg [.f 7 2 1, .l 8 7, .n 9 8,
 .o 10 (.mksl 1 8 (.v (.int .i64 (0)))) [.t 9, .t 9], .m 2 10]) <| .ret

theorem k_spec_LaidBare : cFn Tryd.prog n_spec_LaidBare 11 [.t 2] c_spec_LaidBare := ⟨Tryd.f106, _, Tryd.func106, rfl, by kernel_rfl, by kernel_rfl, by kernel_rfl, by kernel_rfl⟩

end Go.Proofs.Dev

namespace Go.Proofs.Dev
set_option linter.unusedSimpArgs false
set_option maxRecDepth 100000

/-- Who takes ownership: 139 of its second argument. -/
@[simp] def md1 (f : Nat) : List Bool := if f = 999999 then [false, true] else md0 f

def bareB (cs : List Bool) (ls : List Int) (k : Nat) : Bool := atb cs k && decide (ati ls k = 0)
def bareI (cs : List Bool) (ls : List Int) : Int := firstI (bareB cs ls) ls.length
/-- All tilings that have the dominoes of a list. -/
def allT (W T : Int) (cs : List Bool) : Nat → List Int → List (List Int)
  | 0, ls => [ls]
  | n + 1, ls => if bareI cs ls < 0 then [ls] else
      (if freeB W T cs ls (bareI cs ls) 1 then allT W T cs n (layI W T ls (bareI cs ls) 1) else []) ++
      (if freeB W T cs ls (bareI cs ls) 2 then allT W T cs n (layI W T ls (bareI cs ls) 2) else [])

theorem bare_cases (cs : List Bool) (ls : List Int) : bareI cs ls = -1 ∨ ∃ k : Nat, k < ls.length ∧ bareI cs ls = k ∧ atb cs k = true ∧ ati ls k = 0 := by
  rcases firstI_cases (bareB cs ls) ls.length with h | ⟨k, hk, hp, he⟩
  · left; exact h
  · right
    simp only [bareB, Bool.and_eq_true, decide_eq_true_eq] at hp
    exact ⟨k, hk, he, hp.1, hp.2⟩

theorem lay_zeros {W T : Int} {ls : List Int} {k : Nat} {way : Int} (hk : k < ls.length) (hz : ati ls k = 0) (h1 : 1 ≤ way) (h4 : way ≤ 4) : zeros (layI W T ls k way) < zeros ls := by
  have hb : backI way ≠ 0 := by
    have := (backI_back h1 h4).2
    omega
  refine Nat.lt_of_le_of_lt (zeros_set_le hb) ?_
  exact zeros_set_lt (by simpa using hk) (by simpa using hz) (by omega)

theorem s_spec_l2First (W T : Int) (cs : List Bool) (ls : List Int) (hl : ls.length = cs.length) (hb : cs.length < 2 ^ 40) :
    SoundAt Tryd.prog n_spec_l2First [.agg [.v (.int .i64 W), .v (.int .i64 T), .sl 1 1 (bools cs)], .sl 1 1 (ints ls)] (.v (.int .i64 (bareI cs ls))) [.bot, .bot] := by
  refine fn_ok (md := md0) (ms := [false, false]) k_spec_l2First (by simp) ?_
  simp [c_spec_l2First]
  refine loop_by (fun m E H => ∃ i : Nat, m = ls.length - i ∧ i ≤ ls.length ∧ (∀ j : Nat, j < i → bareB cs ls j = false) ∧ H = [some (.box [.v (.int .i64 W), .v (.int .i64 T), .sl 1 1 (bools cs)])] ∧
    E = [(1, .sl 1 1 (ints ls)), (2, .lp 0 0 0 0), (5, .v (.int .i64 i))]) ls.length ⟨0, by simp⟩ ?_
  rintro J hJ m E H ⟨i, rfl, hi, ha, rfl, rfl⟩
  by_cases h : i < ls.length
  case neg =>
    have : i = ls.length := by omega
    subst this
    have e : bareI cs ls = -1 := firstI_none ha
    simp [c_spec_l2First_L0, e]
  have next : bareB cs ls i = false → again J (ls.length - i) [(1, .sl 1 1 (ints ls)), (2, .lp 0 0 0 0), (5, .v (.int .i64 (i + 1)))]
      [some (.box [.v (.int .i64 W), .v (.int .i64 T), .sl 1 1 (bools cs)])] := by
    intro hx
    refine ⟨_, by omega, hJ _ _ _ ⟨i + 1, rfl, h, ?_, rfl, rfl⟩⟩
    intro j hj
    rcases Nat.lt_or_ge j i with h1 | h1
    · exact ha j h1
    · have : j = i := by omega
      subst this; exact hx
  have h2 : i < cs.length := by omega
  cases hc : atb cs i with
  | false =>
    simp [c_spec_l2First_L0, h, h2, hc]
    exact ⟨by omega, next (by simp [bareB, hc])⟩
  | true =>
  by_cases z : ati ls i = 0
  · have e : bareI cs ls = i := firstI_hit h (by simp [bareB, hc, z]) ha
    simp [c_spec_l2First_L0, h, h2, hc, z, e]
  · simp [c_spec_l2First_L0, h, h2, hc, z]
    exact ⟨by omega, next (by simp [bareB, z])⟩

theorem zeros_pos {ls : List Int} {k : Nat} (h : k < ls.length) (hz : ati ls k = 0) : 0 < zeros ls := by
  have := zeros_set_lt (v := 1) h hz (by omega)
  omega

end Go.Proofs.Dev

namespace Go.Proofs.Dev
set_option linter.unusedSimpArgs false
set_option maxRecDepth 100000

def noneL (cs : List Bool) : List Int := List.replicate cs.length 0
theorem ati_none (cs : List Bool) (k : Int) : ati (noneL cs) k = 0 := by
  unfold ati noneL
  rw [List.getD_eq_getElem?_getD, List.getElem?_replicate]
  split <;> rfl
theorem lays_none (W T : Int) (cs : List Bool) : laysB W T cs (noneL cs) = true := by
  simp only [laysB, Bool.and_eq_true, decide_eq_true_eq, allB_iff]
  refine ⟨by simp [noneL], fun k _ => ?_⟩
  simp only [layAt, decide_eq_true_eq]
  exact .inl (ati_none cs k)

theorem s_spec_LaidBare (W T : Int) (cs : List Bool) (hb : cs.length < 2 ^ 40) :
    SoundAt Tryd.prog n_spec_LaidBare [.agg [.v (.int .i64 W), .v (.int .i64 T), .sl 1 1 (bools cs)]] (.os 1 (ints (if regB W T cs then noneL cs else []))) [.bot] := by
  refine fn_ok (md := md0) (ms := [false]) k_spec_LaidBare (by simp) ?_
  simp [c_spec_LaidBare]
  refine call_on (s_spec_RegionValid W T cs hb) ?_
  cases hr : regB W T cs with
  | false => simp
  | true =>
  simp [noneL, ints_rep]
  exact ⟨by omega, List.take_of_length_le (by simp)⟩

end Go.Proofs.Dev

namespace Go.Proofs.Dev
set_option linter.unusedSimpArgs false

theorem firstI_neg {p : Nat → Bool} {n : Nat} (h : firstI p n < 0) : ∀ j, j < n → p j = false := by
  intro j hj
  cases hx : p j with
  | false => rfl
  | true =>
    exfalso
    have hm : ∃ x ∈ List.range n, p x = true := ⟨j, by simpa using hj, hx⟩
    have hs := List.find?_isSome.2 hm
    unfold firstI at h
    split at h
    · omega
    · rename_i h9; rw [h9] at hs; cases hs

end Go.Proofs.Dev
