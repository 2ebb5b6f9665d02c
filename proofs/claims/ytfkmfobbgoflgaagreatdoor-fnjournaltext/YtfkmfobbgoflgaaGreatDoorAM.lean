/- Contracts of the functions of the program over slots and rows, each proved against the program itself; no condition beyond those that each theorem names. -/
import Derived.Test.YtfkmfobbgoflgaaGreatDoorAL
import Derived.Test.YtfkmfobbgoflgaaGreatDoorAH
import Derived.Test.YtfkmfobbgoflgaaGreatDoorAK
import Derived.Test.YtfkmfobbgoflgaaGreatDoorProg
import Derived.Test.YtfkmfobbgoflgaaGreatDoorAI

set_option linter.unusedSimpArgs false
set_option linter.unusedVariables false

namespace Go.Proofs.Dev
set_option linter.unusedSimpArgs false
set_option maxRecDepth 100000

end Go.Proofs.Dev

namespace Go.Proofs.Dev
set_option linter.unusedSimpArgs false
set_option maxRecDepth 100000

def fairB (W T : Int) (cs : List Bool) (ds ls : List Int) : Bool := okB W T cs ds ls && onceB (pairsI W T ds ls)

theorem s_spec_FairOk (W T : Int) (cs : List Bool) (ds ls : List Int) (hb : cs.length < 2 ^ 40) (hd : ds.length < 2 ^ 40) (hl : ls.length < 2 ^ 40) :
    SoundAt Tryz.prog n_spec_FairOk [.agg [.v (.int .i64 W), .v (.int .i64 T), .sl 1 1 (bools cs)], .sl 1 1 (ints ds), .sl 1 1 (ints ls)] (.v (.bool (fairB W T cs ds ls))) [.bot, .bot, .bot] := by
  refine fn_ok (md := md0) (ms := [false, false, false]) k_spec_FairOk (by simp) ?_
  simp [c_spec_FairOk]
  refine call_on (s_spec_PuzzleValid W T cs ds hb hd) ?_
  cases hp : (regB W T cs && digsB cs ds) with
  | false =>
    have hn : okB W T cs ds ls = false := by simp only [okB, ← Bool.and_assoc, hp, Bool.false_and]
    simp [fairB, hn]
  | true =>
  simp
  refine call_on (s_spec_LaidOk W T cs ls hb hl) ?_
  cases hp2 : (regB W T cs && laysB W T cs ls) with
  | false =>
    have hn : okB W T cs ds ls = false := by
      simp only [Bool.and_eq_true] at hp
      rw [hp.1, Bool.true_and] at hp2
      simp [okB, hp2]
    simp [fairB, hn]
  | true =>
  have hok : okB W T cs ds ls = true := by
    simp only [Bool.and_eq_true] at hp hp2
    simp [okB, hp, hp2]
  have hlen := pairsTo_length W T ds ls ls.length
  have hb' : (pairsI W T ds ls).length ≤ ls.length := by unfold pairsI; omega
  simp
  refine call_on (s_spec_PairsOf W T cs ds ls hb hd hl) ?_
  simp [hok]
  refine call_on (s_spec_l9Once (pairsI W T ds ls) (by omega)) ?_
  simp [fairB, hok]

end Go.Proofs.Dev

namespace Go.Proofs.Dev
set_option linter.unusedSimpArgs false
set_option maxRecDepth 100000

def fullAt (cs : List Bool) (ls : List Int) (k : Int) : Bool := !(atb cs k && decide (ati ls k = 0))
/-- Every cell of the region has a domino. -/
def fullB (cs : List Bool) (ls : List Int) : Bool := allB cs.length (fun k => fullAt cs ls k)
def solvedB (W T : Int) (cs : List Bool) (ds ls : List Int) : Bool := fairB W T cs ds ls && fullB cs ls

theorem s_spec_TilingOk (W T : Int) (cs : List Bool) (ls : List Int) (hb : cs.length < 2 ^ 40) (hd : ls.length < 2 ^ 40) :
    SoundAt Tryz.prog n_spec_TilingOk [.agg [.v (.int .i64 W), .v (.int .i64 T), .sl 1 1 (bools cs)], .sl 1 1 (ints ls)] (.v (.bool (regB W T cs && laysB W T cs ls && fullB cs ls))) [.bot, .bot] := by
  refine fn_ok (md := md0) (ms := [false, false]) k_spec_TilingOk (by simp) ?_
  simp [c_spec_TilingOk]
  refine call_on (s_spec_LaidOk W T cs ls hb hd) ?_
  cases hp : (regB W T cs && laysB W T cs ls) with
  | false => simp
  | true =>
  have hl' : ls.length = cs.length := by
    simp only [laysB, Bool.and_eq_true, decide_eq_true_eq] at hp
    exact hp.2.1
  simp
  refine loop_by (fun m E H => ∃ i : Nat, m = ls.length - i ∧ i ≤ ls.length ∧ allB i (fun k => fullAt cs ls k) = true ∧ H = [some (.box [.v (.int .i64 W), .v (.int .i64 T), .sl 1 1 (bools cs)])] ∧ E = [(1, .sl 1 1 (ints ls)), (2, .lp 0 0 0 0), (5, .v (.int .i64 i))]) ls.length ⟨0, by simp [allB_zero]⟩ ?_
  rintro J hJ m E H ⟨i, rfl, hi, ha, rfl, rfl⟩
  by_cases h : i < ls.length
  · have h2 : i < cs.length := by omega
    have next : fullAt cs ls i = true → again J (ls.length - i) [(1, .sl 1 1 (ints ls)), (2, .lp 0 0 0 0), (5, .v (.int .i64 (i + 1)))] [some (.box [.v (.int .i64 W), .v (.int .i64 T), .sl 1 1 (bools cs)])] :=
      fun hd => ⟨_, by omega, hJ _ _ _ ⟨i + 1, rfl, h, by rw [allB_succ, ha, hd]; rfl, rfl, rfl⟩⟩
    have stop : fullAt cs ls i = false → fullB cs ls = false := fun hd => allB_false h2 hd
    cases hc : atb cs i with
    | false =>
      simp [c_spec_TilingOk_L0, h, h2, hc]
      exact ⟨by omega, next (by simp [fullAt, hc])⟩
    | true =>
      simp [c_spec_TilingOk_L0, h, h2, hc]
      exact ⟨fun e => stop (by simp [fullAt, hc, e]), fun e => ⟨by omega, next (by simp [fullAt, hc, e])⟩⟩
  · have : i = ls.length := by omega
    subst this
    simp [c_spec_TilingOk_L0]
    rw [hl'] at ha
    simpa [fullB] using ha

theorem fairB_ok {W T : Int} {cs : List Bool} {ds ls : List Int} (h : fairB W T cs ds ls = true) : okB W T cs ds ls = true := by
  simp only [fairB, Bool.and_eq_true] at h; exact h.1
end Go.Proofs.Dev

namespace Go.Proofs.Dev
set_option linter.unusedSimpArgs false
set_option maxRecDepth 100000

end Go.Proofs.Dev

namespace Go.Proofs.Dev

-- 3 parameters, results [.t 6], 28 slots, modes [false, false, false]
@[simp] abbrev n_spec_StepTo : Nat := 198

def c_spec_StepTo : ACode := .seq (.reg [.o 3 .box [.t 0], .o 6 .mv [.k 0]]) <| .seq (.seq (.reg [.la 7 3 3, .o 8 (.call 168 []) [.t 7], .o 9 (.un .not) [.t 8],
 .m 10 9, .mg 11 1 10 false, .fg 12 2 3 10 false, .lg 13 12 10 false, .g 14 (.len false) [.t 13] 10 false, .g 15 (.bin .sub 0) [.t 14, .k 1] 10 false,
 .g 16 (.call 106 []) [.t 11, .k 0, .t 15] 10 false, .g 17 (.un .not) [.t 16] 10 false, .o 18 .pick [.t 10, .kb true, .t 17], .m 19 18, .mg 20 2 19 false,
 .g 21 (.call 106 []) [.t 20, .k 1, .k 4] 19 false, .g 22 (.un .not) [.t 21] 19 false, .o 23 .pick [.t 19, .kb true, .t 22]]) <|
 .cond (.t 23) ( .seq (.reg [.o 6 .mv [.k (-1)]]) <| .ret) ( .skip)) <| .seq (.reg [.la 24 3 3, .m 25 1, .m 26 2, .o 27 (.call 169 []) [.t 24, .t 25, .t 26],
 .m 6 27]) <| .ret

theorem k_spec_StepTo : cFn Tryz.prog n_spec_StepTo 28 [.t 6] c_spec_StepTo := ⟨Tryz.f198, _, Tryz.func198, rfl, by kernel_rfl, by kernel_rfl, by kernel_rfl, by kernel_rfl⟩

-- 4 parameters, results [.t 8, .t 9], 67 slots, modes [false, false, false, false]
@[simp] abbrev n_spec_LayOne : Nat := 140

def c_spec_LayOne : ACode := .seq (.reg [.o 4 .box [.t 0], .o 8 .mv [.c (.os 1 [])], .o 9 .mv [.kb false]]) <| .seq (.seq (.reg [.la 12 3 4, .m 13 1,
 .o 14 (.call 122 []) [.t 12, .t 13], .o 15 (.un .not) [.t 14]]) <| .cond (.t 15) ( .seq (.reg [.o 16 (.bsl 1) [], .m 8 16, .o 9 .mv [.kb false]]) <|
 .ret) ( .skip)) <| .seq (.reg [.o 17 (.bsl 1) [], .m 18 1, .o 19 (.app 1 8 true) [.t 17, .t 18], .m 10 19]) <| .seq (.reg [.la 20 3 4, .m 21 2, .m 22 3,
 .o 23 (.call 198 []) [.t 20, .t 21, .t 22], .m 11 23]) <| .seq (.seq (.reg [.m 24 11, .o 25 (.bin .lss 0) [.t 24, .k 0], .m 26 25, .fg 27 2 4 26 false,
 .lg 28 27 26 false, .mg 29 2 26 false, .g 30 (.iadr 1) [.t 28, .t 29] 26 false, .lg 31 30 26 false, .g 32 (.un .not) [.t 31] 26 false, .o 33 .pick [.t 26,
 .kb true, .t 32], .m 34 33, .fg 35 2 4 34 false, .lg 36 35 34 false, .mg 37 11 34 false, .g 38 (.iadr 1) [.t 36, .t 37] 34 false, .lg 39 38 34 false,
 .g 40 (.un .not) [.t 39] 34 false, .o 41 .pick [.t 34, .kb true, .t 40], .m 42 41, .mg 43 1 42 false, .mg 44 2 42 false, .g 45 (.iadr 1) [.t 43,
 .t 44] 42 false, .lg 46 45 42 false, .g 47 (.bin .neq 0) [.t 46, .k 0] 42 false, .o 48 .pick [.t 42, .kb true, .t 47], .m 49 48, .mg 50 1 49 false,
 .mg 51 11 49 false, .g 52 (.iadr 1) [.t 50, .t 51] 49 false, .lg 53 52 49 false, .g 54 (.bin .neq 0) [.t 53, .k 0] 49 false, .o 55 .pick [.t 49, .kb true,
 .t 54]]) <| .cond (.t 55) ( .seq (.reg [.m 56 10, .m 8 56, .o 9 .mv [.kb false]]) <| .ret) ( .skip)) <| .seq (.reg [.m 57 10, .m 58 2, .m 59 3,
 .o 60 (.iadr 1) [.t 57, .t 58], .s (.store 1) [.t 60, .t 59]]) <| .seq (.reg [.m 61 10, .m 62 11, .m 63 3, .o 64 (.call 170 []) [.t 63], .o 65 (.iadr 1) [.t 61,
 .t 62], .s (.store 1) [.t 65, .t 64]]) <| .seq (.reg [.m 66 10, .m 8 66, .o 9 .mv [.kb true]]) <| .ret

theorem k_spec_LayOne : cFn Tryz.prog n_spec_LayOne 67 [.t 8, .t 9] c_spec_LayOne := ⟨Tryz.f140, _, Tryz.func140, rfl, by kernel_rfl, by kernel_rfl, by kernel_rfl, by kernel_rfl⟩

-- 4 parameters, results [.t 8], 44 slots, modes [false, false, false, false]
@[simp] abbrev n_spec_OptionsOf : Nat := 149
def c_spec_OptionsOf_L0 : ACode := .seq (.seq (.reg [.m 14 10, .o 15 (.bin .leq 0) [.t 14, .k 4], .m 16 15, .g 17 (.load true 3) [.t 4] 16 true,
 .mg 18 1 16 true, .mg 19 2 16 true, .g 20 (.call 59 []) [.t 17, .t 18, .t 19] 16 true, .o 21 .pick [.t 16, .t 20, .kb false]]) <|
 .cond (.t 21) ( .skip) ( .exit 0)) <| .seq (.block 1 ( .seq (.reg [.la 25 3 4, .m 26 2, .m 27 3, .m 28 10, .o 29 (.call 140 []) [.t 25, .t 26, .t 27, .t 28],
 .m 24 29, .e 30 0 24, .e 31 1 24, .m 11 30, .m 12 31]) <| .seq (.reg [.m 32 12, .m 33 32, .g 34 (.load true 3) [.t 4] 33 true, .mg 35 1 33 true,
 .mg 36 11 33 true, .g 37 (.call 59 []) [.t 34, .t 35, .t 36] 33 true, .o 38 .pick [.t 33, .t 37, .kb false]]) <| .cond (.t 38) ( .reg [.m 39 9, .m 40 10,
 .o 41 (.bsl 1) [.t 40], .o 42 (.app 1 8 true) [.t 39, .t 41], .m 9 42]) ( .skip))) <| .reg [.m 22 10, .o 23 (.bin .add 0) [.t 22, .k 1], .m 10 23]

def c_spec_OptionsOf : ACode := .seq (.reg [.o 4 .box [.t 0], .o 8 .mv [.c (.os 1 [])]]) <| .seq (.reg [.o 13 (.bsl 1) [], .m 9 13]) <|
 .seq (.seq (.reg [.o 10 .mv [.k 1]]) <| .block 0 ( .loop [(1, 1), (2, 1), (9, 1)] [1, 2, 3, 4, 9, 10] c_spec_OptionsOf_L0)) <| .seq (.reg [.m 43 9, .m 8 43]) <|
 .ret

theorem k_spec_OptionsOf : cFn Tryz.prog n_spec_OptionsOf 44 [.t 8] c_spec_OptionsOf := ⟨Tryz.f149, _, Tryz.func149, rfl, by kernel_rfl, by kernel_rfl, by kernel_rfl, by kernel_rfl⟩

-- 3 parameters, results [.t 6, .t 7], 42 slots, modes [false, false, false]
@[simp] abbrev n_spec_ForceOne : Nat := 201
abbrev c_spec_ForceOne_L0_p0 : Plan := .al (.o 36 (.call 140 []) [.t 30, .t 31, .t 32, .t 35]) ( .take (.e 37 0 36) <| .take (.e 38 1 36) <| .take (.m 6 37) <| .take (.m 7 38) <| .done)
def c_spec_ForceOne_L0 : ACode := .seq (.seq (.reg [.m 16 8, .m 17 2, .n 18 17, .o 19 (.bin .lss 0) [.t 16, .t 18]]) <| .cond (.t 19) ( .skip) ( .exit 0)) <|
 .seq (.block 1 ( .seq (.reg [.la 22 3 3, .m 23 1, .m 24 2, .m 25 8, .o 26 (.call 149 []) [.t 22, .t 23, .t 24, .t 25], .m 9 26]) <| .seq (.reg [.m 27 9,
 .n 28 27, .o 29 (.bin .eql 0) [.t 28, .k 1]]) <| .cond (.t 29) ( .seq (.draw ( .take (.m 31 2) <| .take (.m 32 8) <| .take (.m 33 9) <|
 .take (.o 34 (.iadr 1) [.t 33, .k 0]) <| .alt (.la 30 3 3) ( .al (.l 35 34) c_spec_ForceOne_L0_p0) <| .al (.l 35 34) ( .al (.la 30 3 3) c_spec_ForceOne_L0_p0))) <| .ret) ( .skip))) <| .reg [.m 20 8,
 .o 21 (.bin .add 0) [.t 20, .k 1], .m 8 21]

def c_spec_ForceOne : ACode := .seq (.reg [.o 3 .box [.t 0], .o 6 .mv [.c (.os 1 [])], .o 7 .mv [.kb false]]) <| .seq (.seq (.reg [.la 10 3 3, .m 11 1, .m 12 2,
 .o 13 (.call 59 []) [.t 10, .t 11, .t 12], .o 14 (.un .not) [.t 13]]) <| .cond (.t 14) ( .seq (.reg [.o 15 (.bsl 1) [], .m 6 15, .o 7 .mv [.kb false]]) <|
 .ret) ( .skip)) <| .seq (.seq (.reg [.o 8 .mv [.k 0]]) <| .block 0 ( .loop [(1, 1), (2, 1)] [1, 2, 3, 8] c_spec_ForceOne_L0)) <| .seq (.reg [.o 39 (.bsl 1) [],
 .m 40 2, .o 41 (.app 1 8 true) [.t 39, .t 40], .m 6 41, .o 7 .mv [.kb false]]) <| .ret

theorem k_spec_ForceOne : cFn Tryz.prog n_spec_ForceOne 42 [.t 6, .t 7] c_spec_ForceOne := ⟨Tryz.f201, _, Tryz.func201, rfl, by kernel_rfl, by kernel_rfl, by kernel_rfl, by kernel_rfl⟩

-- 3 parameters, results [.t 6], 30 slots, modes [false, false, false]
@[simp] abbrev n_spec_ForceAll : Nat := 143
def c_spec_ForceAll_L0 : ACode := .block 1 ( .seq (.reg [.la 20 3 3, .m 21 1, .m 22 7, .o 23 (.call 201 []) [.t 20, .t 21, .t 22], .m 19 23, .e 24 0 19,
 .e 25 1 19, .m 8 24, .m 9 25]) <| .seq (.seq (.reg [.m 26 9, .o 27 (.un .not) [.t 26]]) <| .cond (.t 27) ( .seq (.reg [.m 28 7, .m 6 28]) <| .ret) ( .skip)) <|
 .reg [.m 29 8, .m 7 29])

def c_spec_ForceAll : ACode := .seq (.reg [.o 3 .box [.t 0], .o 6 .mv [.c (.os 1 [])]]) <| .seq (.seq (.reg [.la 10 3 3, .m 11 1, .m 12 2,
 .o 13 (.call 59 []) [.t 10, .t 11, .t 12], .o 14 (.un .not) [.t 13]]) <| .cond (.t 14) ( .seq (.reg [.o 15 (.bsl 1) [], .m 6 15]) <| .ret) ( .skip)) <|
 .seq (.reg [.o 16 (.bsl 1) [], .m 17 2, .o 18 (.app 1 8 true) [.t 16, .t 17], .m 7 18]) <| .block 0 ( .loop [(1, 1), (7, 1)] [1, 3, 7] c_spec_ForceAll_L0)

theorem k_spec_ForceAll : cFn Tryz.prog n_spec_ForceAll 30 [.t 6] c_spec_ForceAll := ⟨Tryz.f143, _, Tryz.func143, rfl, by kernel_rfl, by kernel_rfl, by kernel_rfl, by kernel_rfl⟩

end Go.Proofs.Dev

namespace Go.Proofs.Dev
set_option linter.unusedSimpArgs false
set_option maxRecDepth 100000

theorem s_spec_l1In_t {x lo hi : Int} (h : lo ≤ x ∧ x ≤ hi) : SoundAt Tryz.prog n_spec_l1In [.v (.int .i64 x), .v (.int .i64 lo), .v (.int .i64 hi)] (.v (.bool true)) [.bot, .bot, .bot] := by
  have := s_spec_l1In x lo hi
  rwa [decide_eq_true h] at this
theorem s_spec_l1In_f {x lo hi : Int} (h : ¬ (lo ≤ x ∧ x ≤ hi)) : SoundAt Tryz.prog n_spec_l1In [.v (.int .i64 x), .v (.int .i64 lo), .v (.int .i64 hi)] (.v (.bool false)) [.bot, .bot, .bot] := by
  have := s_spec_l1In x lo hi
  rwa [decide_eq_false h] at this

end Go.Proofs.Dev

namespace Go.Proofs.Dev
set_option linter.unusedSimpArgs false
set_option maxRecDepth 100000

/-- A domino may be laid, and what is laid then is fair. -/
def optB (W T : Int) (cs : List Bool) (ds ls : List Int) (cell way : Int) : Bool := freeB W T cs ls cell way && onceB (pairsI W T ds (layI W T ls cell way))
def optTo (W T : Int) (cs : List Bool) (ds ls : List Int) (cell : Int) (n : Nat) : List Int := (List.range n).flatMap fun k : Nat => if optB W T cs ds ls cell (k + 1) then [(k : Int) + 1] else []
def optsI (W T : Int) (cs : List Bool) (ds ls : List Int) (cell : Int) : List Int := optTo W T cs ds ls cell 4

theorem optTo_succ (W T : Int) (cs : List Bool) (ds ls : List Int) (cell : Int) (n : Nat) : optTo W T cs ds ls cell (n + 1) = optTo W T cs ds ls cell n ++ if optB W T cs ds ls cell (n + 1) then [(n : Int) + 1] else [] := by
  simp [optTo, List.range_succ]
theorem optTo_length (W T : Int) (cs : List Bool) (ds ls : List Int) (cell : Int) : ∀ n, (optTo W T cs ds ls cell n).length ≤ n
  | 0 => by simp [optTo]
  | n + 1 => by
    have := optTo_length W T cs ds ls cell n
    rw [optTo_succ]; split <;> simp <;> omega

theorem okB_lay {W T : Int} {cs : List Bool} {ds ls : List Int} {cell way : Int} (h : okB W T cs ds ls = true) (hf : freeB W T cs ls cell way = true) : okB W T cs ds (layI W T ls cell way) = true := by
  have h' := h
  simp only [okB, Bool.and_eq_true] at h' ⊢
  exact ⟨h'.1, h'.2.1, lay_ok h'.1 h'.2.2 hf⟩

theorem s_spec_StepTo (W T : Int) (cs : List Bool) (cell way : Int) (hr : regB W T cs = true) :
    SoundAt Tryz.prog n_spec_StepTo [.agg [.v (.int .i64 W), .v (.int .i64 T), .sl 1 1 (bools cs)], .v (.int .i64 cell), .v (.int .i64 way)] (.v (.int .i64 (if 0 ≤ cell ∧ cell < cs.length ∧ 1 ≤ way ∧ way ≤ 4 then stepI W T cell way else -1))) [.bot, .bot, .bot] := by
  refine fn_ok (md := md0) (ms := [false, false, false]) k_spec_StepTo (by simp) ?_
  have h36 := regB_len hr
  simp [c_spec_StepTo]
  refine call_on (s_spec_RegionValid W T cs (by omega)) ?_
  simp [hr]
  refine ⟨by omega, ?_⟩
  by_cases h : 0 ≤ cell ∧ cell < cs.length
  case neg =>
    refine call_on (s_spec_l1In_f (x := cell) (lo := 0) (hi := cs.length - 1) (by omega)) ?_
    rw [if_neg (fun x => h ⟨x.1, x.2.1⟩)]
    simp
  refine call_on (s_spec_l1In_t (x := cell) (lo := 0) (hi := cs.length - 1) (by omega)) ?_
  simp
  by_cases hw : 1 ≤ way ∧ way ≤ 4
  case neg =>
    refine call_on (s_spec_l1In_f hw) ?_
    rw [if_neg (fun x => hw x.2.2)]
    simp
  refine call_on (s_spec_l1In_t hw) ?_
  simp
  refine call_on (s_spec_l2Step W T cs cell way hr h.1 h.2) ?_
  simp [h, hw]

/-- What LayOne gives. -/
def layOneL (W T : Int) (cs : List Bool) (ls : List Int) (cell way : Int) : List Int := if freeB W T cs ls cell way then layI W T ls cell way else ls

theorem s_spec_LayOne (W T : Int) (cs : List Bool) (ls : List Int) (cell way : Int) (hr : regB W T cs = true) (hy : laysB W T cs ls = true) :
    SoundAt Tryz.prog n_spec_LayOne [.agg [.v (.int .i64 W), .v (.int .i64 T), .sl 1 1 (bools cs)], .sl 1 1 (ints ls), .v (.int .i64 cell), .v (.int .i64 way)]
      (.tup [.os 1 (ints (layOneL W T cs ls cell way)), .v (.bool (freeB W T cs ls cell way))]) [.bot, .bot, .bot, .bot] := by
  refine fn_ok (md := md0) (ms := [false, false, false, false]) k_spec_LayOne (by simp) ?_
  have h36 := regB_len hr
  obtain ⟨w1, w2, t1, t2, l1, _⟩ := regB_W hr
  have hl : ls.length = cs.length := by simp only [laysB, Bool.and_eq_true, decide_eq_true_eq] at hy; exact hy.1
  simp [c_spec_LayOne]
  refine call_on (s_spec_LaidOk W T cs ls (by omega) (by omega)) ?_
  simp [hr, hy]
  refine ⟨by omega, ?_⟩
  refine call_on (s_spec_StepTo W T cs cell way hr) ?_
  by_cases h : 0 ≤ cell ∧ cell < cs.length
  case neg =>
    have hf : freeB W T cs ls cell way = false := decide_eq_false (fun x => h ⟨x.1, x.2.1⟩)
    rw [if_neg (fun x => h ⟨x.1, x.2.1⟩)]
    simp [hf, layOneL]
  have hst := stepI_range (T := T) (way := way) w1 h.1 (by omega)
  have e0 : (if 0 ≤ cell ∧ cell < cs.length ∧ 1 ≤ way ∧ way ≤ 4 then stepI W T cell way else -1) = stepI W T cell way := by
    rcases hst with hst | hst
    · split
      · rfl
      · exact hst.symm
    · rw [if_pos ⟨h.1, h.2, hst.2.2.1, hst.2.2.2⟩]
  rw [e0]
  by_cases hneg : stepI W T cell way < 0
  · have hf : freeB W T cs ls cell way = false := decide_eq_false (fun x => by omega)
    simp [hneg, hf, layOneL]
  obtain ⟨h3, h4, h5, h6⟩ : 0 ≤ stepI W T cell way ∧ stepI W T cell way < W * T ∧ 1 ≤ way ∧ way ≤ 4 := by
    rcases hst with hst | hst
    · omega
    · exact hst
  have hfree : freeB W T cs ls cell way = decide (atb cs cell = true ∧ atb cs (stepI W T cell way) = true ∧ ati ls cell = 0 ∧ ati ls (stepI W T cell way) = 0) := by
    simp [freeB, h, h3]
  have e2 : ((ints ls).set cell.toNat (.v (.int .i64 way))).set (stepI W T cell way).toNat (.v (.int .i64 (backI way))) = ints (layI W T ls cell way) := by rw [ints_set, ints_set]; rfl
  have ht : (layI W T ls cell way).length = ls.length := layI_length W T ls cell way
  have hk : (ints (layI W T ls cell way)).take ls.length = ints (layI W T ls cell way) := List.take_of_length_le (by simp [ht])
  have hk0 : (ints ls).take cs.length = ints ls := List.take_of_length_le (by simp [hl])
  have two := s_spec_l2Back way (by omega) (by omega)
  unfold layOneL
  rw [hfree]
  clear hfree e0 hst
  generalize stepI W T cell way = to at *
  have h7 : to < cs.length := by omega
  have h8 : ¬ to < 0 := hneg
  cases hc : atb cs cell with
  | false => simp [h, h8, hc]
  | true =>
  cases ht' : atb cs to with
  | false => simp [h, h3, h7, h8, hc, ht']
  | true =>
  by_cases z : ati ls cell = 0
  case neg => simp [h, h3, h7, h8, hc, ht', hl, z, hk0]
  by_cases z2 : ati ls to = 0
  case neg => simp [h, h3, h7, h8, hc, ht', hl, z, z2, hk0]
  have g3 : cell.toNat < ls.length := by omega
  have g4 : to.toNat < ls.length := by omega
  have g1 : cell < ls.length := by omega
  have g2 : to < ls.length := by omega
  simp [h, h3, h7, h8, hc, ht', g1, g2, g3, g4, z, z2]
  refine call_on two ?_
  simp [h, h3, h7, h8, g1, g2, g3, g4, e2, ht, hk]

end Go.Proofs.Dev

namespace Go.Proofs.Dev
set_option linter.unusedSimpArgs false
set_option maxRecDepth 100000

def optsOf (W T : Int) (cs : List Bool) (ds ls : List Int) (cell : Int) : List Int := if fairB W T cs ds ls then optsI W T cs ds ls cell else []

theorem layOne_length (W T : Int) (cs : List Bool) (ls : List Int) (cell way : Int) : (layOneL W T cs ls cell way).length = ls.length := by
  unfold layOneL; split
  · exact layI_length ..
  · rfl

theorem s_spec_OptionsOf (W T : Int) (cs : List Bool) (ds ls : List Int) (cell : Int) (hb : cs.length < 2 ^ 40) (hd : ds.length < 2 ^ 40) (hl : ls.length < 2 ^ 40) :
    SoundAt Tryz.prog n_spec_OptionsOf [.agg [.v (.int .i64 W), .v (.int .i64 T), .sl 1 1 (bools cs)], .sl 1 1 (ints ds), .sl 1 1 (ints ls), .v (.int .i64 cell)] (.os 1 (ints (optsOf W T cs ds ls cell))) [.bot, .bot, .bot, .bot] := by
  refine fn_ok (md := md0) (ms := [false, false, false, false]) k_spec_OptionsOf (by simp) ?_
  simp [c_spec_OptionsOf]
  have one := s_spec_FairOk W T cs ds ls hb hd hl
  refine loop_by (fun m E H => ∃ i : Nat, m = 4 - i ∧ i ≤ 4 ∧ (i = 0 ∨ fairB W T cs ds ls = true) ∧ H = [some (.box [.v (.int .i64 W), .v (.int .i64 T), .sl 1 1 (bools cs)]), some (.arr 1 (ints (optTo W T cs ds ls cell i)))] ∧
    E = [(1, .sl 1 1 (ints ds)), (2, .sl 1 1 (ints ls)), (3, .v (.int .i64 cell)), (4, .lp 0 0 0 0), (9, .ls 1 1 0 (optTo W T cs ds ls cell i).length), (10, .v (.int .i64 (i + 1)))]) 4 ⟨0, by simp [optTo]⟩ ?_
  rintro J hJ m E H ⟨i, rfl, hi, hf0, rfl, rfl⟩
  have hlen := optTo_length W T cs ds ls cell i
  have hsuc := optTo_succ W T cs ds ls cell i
  by_cases h : i < 4
  case neg =>
    have : i = 4 := by omega
    subst this
    have hf : fairB W T cs ds ls = true := by rcases hf0 with h0 | h0; omega; exact h0
    simp [c_spec_OptionsOf_L0, optsOf, hf, optsI]
  have h' : (i : Int) + 1 ≤ 4 := by omega
  simp [c_spec_OptionsOf_L0, h']
  refine call_on one ?_
  cases hf : fairB W T cs ds ls with
  | false =>
    have : i = 0 := by rcases hf0 with h0 | h0; exact h0; rw [hf] at h0; cases h0
    subst this
    simp [optsOf, hf, optTo]
  | true =>
  have hok := fairB_ok hf
  obtain ⟨hr, e1, e2, hy⟩ := okB_W hok
  have h36 := regB_len hr
  have next : ∀ (x : List Int), optTo W T cs ds ls cell (i + 1) = optTo W T cs ds ls cell i ++ x → again J (4 - i) [(1, .sl 1 1 (ints ds)), (2, .sl 1 1 (ints ls)), (3, .v (.int .i64 cell)), (4, .lp 0 0 0 0), (9, .ls 1 1 0 ((optTo W T cs ds ls cell i).length + x.length)), (10, .v (.int .i64 (i + 1 + 1)))]
      [some (.box [.v (.int .i64 W), .v (.int .i64 T), .sl 1 1 (bools cs)]), some (.arr 1 (ints (optTo W T cs ds ls cell i) ++ ints x))] := by
    intro x hx
    refine ⟨_, by omega, hJ _ _ _ ⟨i + 1, rfl, h, .inr hf, ?_, ?_⟩⟩
    · rw [hx, ints_append]
    · rw [hx, List.length_append]; rfl
  have hll := layOne_length W T cs ls cell (i + 1)
  have hly : laysB W T cs ls = true := by
    simp only [okB, Bool.and_eq_true] at hok; exact hok.2.2
  have two := s_spec_LayOne W T cs ls cell (i + 1) hr hly
  have three := s_spec_FairOk W T cs ds (layOneL W T cs ls cell (i + 1)) hb hd (by omega)
  have ht : (layOneL W T cs ls cell (i + 1)).take ls.length = layOneL W T cs ls cell (i + 1) := List.take_of_length_le (by omega)
  simp
  refine call_on two ?_
  simp [hll, take_ints, ht]
  cases hfr : freeB W T cs ls cell (i + 1) with
  | false =>
    have ho : optB W T cs ds ls cell (i + 1) = false := by simp [optB, hfr]
    rw [if_neg (by simp [ho])] at hsuc
    have n := next [] hsuc
    simp at n
    simp
    exact ⟨by omega, n⟩
  | true =>
  simp
  have e3 : fairB W T cs ds (layOneL W T cs ls cell (i + 1)) = optB W T cs ds ls cell (i + 1) := by
    simp [layOneL, hfr, fairB, optB, okB_lay hok hfr]
  refine call_on three ?_
  rw [e3]
  cases ho : optB W T cs ds ls cell (i + 1) with
  | false =>
    rw [if_neg (by simp [ho])] at hsuc
    have n := next [] hsuc
    simp at n
    simp [hll, take_ints, ht]
    exact ⟨by omega, n⟩
  | true =>
    rw [if_pos ho] at hsuc
    have n := next _ hsuc
    simp at n
    simp [hll, take_ints, ht]
    exact ⟨by omega, by omega, n⟩

theorem optsI_bare (W T : Int) (cs : List Bool) (ds ls : List Int) (cell : Int) (h : ¬ (0 ≤ cell ∧ cell < cs.length ∧ atb cs cell = true ∧ ati ls cell = 0)) : optsI W T cs ds ls cell = [] := by
  have hf : ∀ way, optB W T cs ds ls cell way = false := by
    intro way
    have : freeB W T cs ls cell way = false := decide_eq_false (fun x => h ⟨x.1, x.2.1, x.2.2.2.1, x.2.2.2.2.2.1⟩)
    simp [optB, this]
  simp [optsI, optTo, hf]

end Go.Proofs.Dev

namespace Go.Proofs.Dev
set_option linter.unusedSimpArgs false
set_option maxRecDepth 100000

/-- The first place that fits, or -1. -/
def firstI (p : Nat → Bool) (n : Nat) : Int := match (List.range n).find? p with | some k => k | none => -1
theorem firstI_hit {p : Nat → Bool} {n k : Nat} (hk : k < n) (hp : p k = true) (h : ∀ j, j < k → p j = false) : firstI p n = k := by
  have : (List.range n).find? p = some k := by
    rw [List.find?_range_eq_some]
    exact ⟨hp, by simpa using hk, fun j hj => by simp [h j hj]⟩
  simp [firstI, this]
theorem firstI_none {p : Nat → Bool} {n : Nat} (h : ∀ j, j < n → p j = false) : firstI p n = -1 := by
  have : (List.range n).find? p = none := by
    rw [List.find?_eq_none]
    intro x hx
    simp [h x (by simpa using hx)]
  simp [firstI, this]
theorem firstI_cases (p : Nat → Bool) (n : Nat) : (firstI p n = -1) ∨ ∃ k : Nat, k < n ∧ p k = true ∧ firstI p n = k := by
  unfold firstI
  split
  · rename_i k hk
    right
    rw [List.find?_range_eq_some] at hk
    exact ⟨k, by simpa using hk.2.1, hk.1, rfl⟩
  · left; rfl

def hitB (W T : Int) (cs : List Bool) (ds ls : List Int) (n : Int) (k : Nat) : Bool := (atb cs k && decide (ati ls k = 0)) && decide (((optsI W T cs ds ls k).length : Int) = n)

end Go.Proofs.Dev

namespace Go.Proofs.Dev
set_option linter.unusedSimpArgs false
set_option maxRecDepth 100000

theorem optTo_mem (W T : Int) (cs : List Bool) (ds ls : List Int) (cell : Int) {n : Nat} {x : Int} (h : x ∈ optTo W T cs ds ls cell n) : optB W T cs ds ls cell x = true ∧ 1 ≤ x ∧ x ≤ n := by
  simp only [optTo, List.mem_flatMap, List.mem_range] at h
  obtain ⟨k, hk, hx⟩ := h
  split at hx
  · rename_i ho
    simp at hx
    subst hx
    exact ⟨ho, by omega, by omega⟩
  · simp at hx

theorem optB_free {W T : Int} {cs : List Bool} {ds ls : List Int} {cell x : Int} (h : optB W T cs ds ls cell x = true) : freeB W T cs ls cell x = true := by
  simp only [optB, Bool.and_eq_true] at h; exact h.1
theorem optB_fair {W T : Int} {cs : List Bool} {ds ls : List Int} {cell x : Int} (hok : okB W T cs ds ls = true) (h : optB W T cs ds ls cell x = true) : fairB W T cs ds (layI W T ls cell x) = true := by
  have h' := h
  simp only [optB, Bool.and_eq_true] at h'
  simp only [fairB, Bool.and_eq_true]
  exact ⟨okB_lay hok h'.1, h'.2⟩

/-- The cell of the first forced domino, its way, and what is laid then. -/
def oneI (W T : Int) (cs : List Bool) (ds ls : List Int) : Int := firstI (hitB W T cs ds ls 1) ls.length
def wayI (W T : Int) (cs : List Bool) (ds ls : List Int) : Int := ati (optsI W T cs ds ls (oneI W T cs ds ls)) 0
def force1 (W T : Int) (cs : List Bool) (ds ls : List Int) : List Int := if oneI W T cs ds ls < 0 then ls else layI W T ls (oneI W T cs ds ls) (wayI W T cs ds ls)
def force1B (W T : Int) (cs : List Bool) (ds ls : List Int) : Bool := decide (¬ oneI W T cs ds ls < 0)
theorem force1_length (W T : Int) (cs : List Bool) (ds ls : List Int) : (force1 W T cs ds ls).length = ls.length := by
  unfold force1; split
  · rfl
  · exact layI_length ..

theorem one_cases (W T : Int) (cs : List Bool) (ds ls : List Int) : oneI W T cs ds ls = -1 ∨ ∃ k : Nat, k < ls.length ∧ oneI W T cs ds ls = k ∧ atb cs k = true ∧ ati ls k = 0 ∧ optsI W T cs ds ls k = [wayI W T cs ds ls] ∧ optB W T cs ds ls k (wayI W T cs ds ls) = true ∧ 1 ≤ wayI W T cs ds ls ∧ wayI W T cs ds ls ≤ 4 := by
  rcases firstI_cases (hitB W T cs ds ls 1) ls.length with h | ⟨k, hk, hp, he⟩
  · left; exact h
  · right
    have he' : oneI W T cs ds ls = k := he
    simp only [hitB, Bool.and_eq_true, decide_eq_true_eq] at hp
    have h1 : (optsI W T cs ds ls k).length = 1 := by omega
    obtain ⟨x, hx⟩ := List.length_eq_one_iff.1 h1
    have hw : wayI W T cs ds ls = x := by simp [wayI, he', hx, ati]
    have hin : x ∈ optsI W T cs ds ls k := by rw [hx]; simp
    have hm := optTo_mem W T cs ds ls k (n := 4) (x := x) hin
    rw [hw]
    exact ⟨k, hk, he', hp.1.1, hp.1.2, hx, hm.1, hm.2.1, hm.2.2⟩

/-- What ForceOne gives. -/
def forceL (W T : Int) (cs : List Bool) (ds ls : List Int) : List Int := if fairB W T cs ds ls then force1 W T cs ds ls else []
def forceB (W T : Int) (cs : List Bool) (ds ls : List Int) : Bool := fairB W T cs ds ls && force1B W T cs ds ls

theorem s_spec_ForceOne (W T : Int) (cs : List Bool) (ds ls : List Int) (hb : cs.length < 2 ^ 40) (hd : ds.length < 2 ^ 40) (hl : ls.length < 2 ^ 40) :
    SoundAt Tryz.prog n_spec_ForceOne [.agg [.v (.int .i64 W), .v (.int .i64 T), .sl 1 1 (bools cs)], .sl 1 1 (ints ds), .sl 1 1 (ints ls)] (.tup [.os 1 (ints (forceL W T cs ds ls)), .v (.bool (forceB W T cs ds ls))]) [.bot, .bot, .bot] := by
  refine fn_ok (md := md0) (ms := [false, false, false]) k_spec_ForceOne (by simp) ?_
  simp [c_spec_ForceOne]
  refine call_on (s_spec_FairOk W T cs ds ls hb hd hl) ?_
  cases hf : fairB W T cs ds ls with
  | false => simp [forceL, forceB, hf]
  | true =>
  have hok := fairB_ok hf
  obtain ⟨hr, e1, e2, _⟩ := okB_W hok
  have hly : laysB W T cs ls = true := by
    simp only [okB, Bool.and_eq_true] at hok; exact hok.2.2
  have eL : forceL W T cs ds ls = force1 W T cs ds ls := by simp [forceL, hf]
  have eB : forceB W T cs ds ls = force1B W T cs ds ls := by simp [forceB, hf]
  rw [eL, eB]
  simp
  refine loop_by (fun m E H => ∃ i : Nat, m = ls.length - i ∧ i ≤ ls.length ∧ (∀ j : Nat, j < i → hitB W T cs ds ls 1 j = false) ∧ H = [some (.box [.v (.int .i64 W), .v (.int .i64 T), .sl 1 1 (bools cs)])] ∧
    E = [(1, .sl 1 1 (ints ds)), (2, .sl 1 1 (ints ls)), (3, .lp 0 0 0 0), (8, .v (.int .i64 i))]) ls.length ⟨0, by simp⟩ ?_
  rintro J hJ m E H ⟨i, rfl, hi, ha, rfl, rfl⟩
  by_cases h : i < ls.length
  case neg =>
    have : i = ls.length := by omega
    subst this
    have he : oneI W T cs ds ls = -1 := firstI_none ha
    simp [c_spec_ForceOne_L0, force1, force1B, he]
    constructor <;> omega
  have next : hitB W T cs ds ls 1 i = false → again J (ls.length - i) [(1, .sl 1 1 (ints ds)), (2, .sl 1 1 (ints ls)), (3, .lp 0 0 0 0), (8, .v (.int .i64 (i + 1)))]
      [some (.box [.v (.int .i64 W), .v (.int .i64 T), .sl 1 1 (bools cs)])] := by
    intro hx
    refine ⟨_, by omega, hJ _ _ _ ⟨i + 1, rfl, h, ?_, rfl, rfl⟩⟩
    intro j hj
    rcases Nat.lt_or_ge j i with h1 | h1
    · exact ha j h1
    · have : j = i := by omega
      subst this; exact hx
  have hit : hitB W T cs ds ls 1 i = true → oneI W T cs ds ls = i := fun hx => firstI_hit h hx ha
  have two := s_spec_OptionsOf W T cs ds ls i hb hd hl
  have ho : optsOf W T cs ds ls i = optsI W T cs ds ls i := by simp [optsOf, hf]
  rw [ho] at two
  have hop : (optsI W T cs ds ls i).length ≤ 4 := optTo_length ..
  simp [c_spec_ForceOne_L0, h]
  refine call_on two ?_
  by_cases hn : (optsI W T cs ds ls i).length = 1
  case neg =>
    have hn' : ¬ ((optsI W T cs ds ls i).length : Int) = 1 := by omega
    have hx : hitB W T cs ds ls 1 i = false := by simp [hitB, hn']
    simp [hn']
    exact ⟨by omega, next hx⟩
  have hbare : 0 ≤ (i : Int) ∧ (i : Int) < cs.length ∧ atb cs i = true ∧ ati ls i = 0 := by
    apply Decidable.byContradiction
    intro hx
    rw [optsI_bare W T cs ds ls i hx] at hn
    simp at hn
  have hx : hitB W T cs ds ls 1 i = true := by simp [hitB, hbare.2.2.1, hbare.2.2.2, hn]
  have he := hit hx
  rcases one_cases W T cs ds ls with h1 | ⟨k, hk, he2, hc, hz, hol, hob, hw⟩
  · omega
  have hki : k = i := by omega
  subst hki
  have three := s_spec_LayOne W T cs ls k (wayI W T cs ds ls) hr hly
  have ef : force1 W T cs ds ls = layI W T ls k (wayI W T cs ds ls) := by rw [force1, he, if_neg (by omega)]
  have eb : force1B W T cs ds ls = true := by rw [force1B, he]; exact decide_eq_true (by omega)
  have hfr := optB_free hob
  have elay : layOneL W T cs ls k (wayI W T cs ds ls) = layI W T ls k (wayI W T cs ds ls) := by simp [layOneL, hfr]
  rw [elay, hfr] at three
  rw [ef, eb]
  have hin : ints [wayI W T cs ds ls] = [.v (.int .i64 (wayI W T cs ds ls))] := rfl
  have hlay := layI_length W T ls k (wayI W T cs ds ls)
  have htk : (ints (layI W T ls k (wayI W T cs ds ls))).take ls.length = ints (layI W T ls k (wayI W T cs ds ls)) := List.take_of_length_le (by simp [hlay])
  simp [hol, hin]
  (repeat' first | assumption | apply And.intro) <;>
  · refine call_on three ?_
    simp [hlay, htk]

end Go.Proofs.Dev
