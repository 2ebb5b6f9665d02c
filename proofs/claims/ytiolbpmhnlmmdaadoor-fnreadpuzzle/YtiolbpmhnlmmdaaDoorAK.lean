/- Contracts of the functions of the program over slots and rows, each proved against the program itself; no condition beyond those that each theorem names. -/
import Derived.Test.YtiolbpmhnlmmdaaDoorRows
import Derived.ProofKit
import Derived.Test.YtiolbpmhnlmmdaaDoorAH
import Derived.Test.YtiolbpmhnlmmdaaDoorTie
import Derived.Test.YtiolbpmhnlmmdaaDoorCards
import Derived.SevenTiedAt
import Derived.ChangeMaps5
import Derived.Test.YtiolbpmhnlmmdaaDoorProg

set_option linter.unusedSimpArgs false
set_option linter.unusedVariables false

namespace Go.Proofs.YtiolbpmhnlmmdaaDoor
theorem fact_mayEnter : Tryd.prog.mayEnter = true := by kernel_rfl
theorem fact_make : Tryd.prog.make = some .cut := by kernel_rfl
theorem fact_liftsFinal : Tryd.prog.liftsFinal = false := by kernel_rfl
end Go.Proofs.YtiolbpmhnlmmdaaDoor

namespace Go.Proofs.YtiolbpmhnlmmdaaDoor
open Go.ChangeShapes Go.WideShapes Go.ChangeAt Go.RowKit Go.Proofs.Dev

theorem own : ownKnob Tryd.prog.godebug = none := by kernel_rfl
theorem laidOut : laidOutB Tryd.prog = true := by kernel_rfl
theorem rBytes : Tryd.prog.readableRec 52 = true := by kernel_rfl
theorem cells5 : Tryd.prog.cellsOf 5 = 1 := by kernel_rfl

theorem RL_one {C : Ctx} {a : AV} {v : Value} (h : R C a [] v) : RL C [a] [] [v] := by
  rw [RL]
  exact ⟨[], [], _, _, rfl, rfl, h, by rw [RL]; exact ⟨rfl, rfl⟩⟩

theorem gb_of {W : World} (hsh : W.ShapedOpen Tryd.prog) : GB W [] fun _ => False := by
  refine ⟨?_, ?_⟩
  · show RL (gCtx W [] fun _ => False) [] [] []
    rw [RL]
    exact ⟨rfl, rfl⟩
  · intro p hpm
    simp only [gps, List.mem_cons, List.not_mem_nil, or_false] at hpm
    subst hpm
    refine ⟨⟨by simp, by simp⟩, ?_⟩
    obtain ⟨m, hm⟩ := cell_of_shapedOpen_int (g := 1) (zero := #[.int .i64 0]) (t := 3) hsh (of_decide_eq_true (by kernel_rfl)) (by kernel_rfl) rfl (by kernel_rfl) (by kernel_rfl) Tryd.underlying3
    exact ⟨_, hm, m, rfl⟩

theorem byte_law {P : Program} {f : Nat} {bs : List Int} (h : SoundAt P f [.sl 0 1 (u8s bs)] (.v (.bool true)) [.bot]) : SoundAt P f [.sl 1 1 (u8s bs)] (.v (.bool true)) [.bot] := by
  refine SoundAt.lift (n := 1) (fun C S us hr => noOL_ok _ S us (noOL_u8s 1 bs) hr) rfl ?_
  have e : vwL 0 [AV.sl 1 1 (u8s bs)] = [AV.sl 0 1 (u8s bs)] := by simp [vwL, vw]
  rw [e]
  exact h

end Go.Proofs.YtiolbpmhnlmmdaaDoor

namespace Go.Proofs.Dev

-- 3 parameters, results [.t 6], 15 slots, modes [false, false, false]
@[simp] abbrev n_spec_l1In : Nat := 42

def c_spec_l1In : ACode := .seq (.reg [.o 6 .mv [.kb false]]) <| .seq (.reg [.m 7 0, .m 8 1, .o 9 (.bin .geq 0) [.t 7, .t 8], .m 10 9, .mg 11 0 10 true,
 .mg 12 2 10 true, .g 13 (.bin .leq 0) [.t 11, .t 12] 10 true, .o 14 .pick [.t 10, .t 13, .kb false], .m 6 14]) <| .ret

theorem k_spec_l1In : cFn Tryd.prog n_spec_l1In 15 [.t 6] c_spec_l1In := ⟨Tryd.f42, _, Tryd.func42, rfl, by kernel_rfl, by kernel_rfl, by kernel_rfl, by kernel_rfl⟩

-- 1 parameters, results [.t 2], 18 slots, modes [false]
@[simp] abbrev n_spec_l1Count : Nat := 113
def c_spec_l1Count_L0 : ACode := .seq (.seq (.reg [.m 5 4, .m 6 0, .n 7 6, .o 8 (.bin .lss 0) [.t 5, .t 7]]) <| .cond (.t 8) ( .skip) ( .exit 0)) <|
 .seq (.block 1 ( .seq (.reg [.m 11 0, .m 12 4, .o 13 (.iadr 1) [.t 11, .t 12], .l 14 13]) <| .cond (.t 14) ( .reg [.m 15 3, .o 16 (.bin .add 0) [.t 15, .k 1],
 .m 3 16]) ( .skip))) <| .reg [.m 9 4, .o 10 (.bin .add 0) [.t 9, .k 1], .m 4 10]

def c_spec_l1Count : ACode := .seq (.reg [.o 2 .mv [.k 0]]) <| .seq (.reg [.o 3 .mv [.k 0]]) <| .seq (.seq (.reg [.o 4 .mv [.k 0]]) <| .block 0 ( .loop [(0,
 1)] [0, 3, 4] c_spec_l1Count_L0)) <| .seq (.reg [.m 17 3, .m 2 17]) <| .ret

theorem k_spec_l1Count : cFn Tryd.prog n_spec_l1Count 18 [.t 2] c_spec_l1Count := ⟨Tryd.f113, _, Tryd.func113, rfl, by kernel_rfl, by kernel_rfl, by kernel_rfl, by kernel_rfl⟩

-- 1 parameters, results [.t 2], 28 slots, modes [false]
@[simp] abbrev n_spec_RegionValid : Nat := 88

def c_spec_RegionValid : ACode := .seq (.reg [.o 1 .box [.t 0], .o 2 .mv [.kb false]]) <| .seq (.reg [.f 3 0 1, .l 4 3, .o 5 (.call 42 []) [.t 4, .k 1, .k 6],
 .m 6 5, .fg 7 1 1 6 true, .lg 8 7 6 true, .g 9 (.call 42 []) [.t 8, .k 1, .k 6] 6 true, .o 10 .pick [.t 6, .t 9, .kb false], .m 11 10, .fg 12 2 1 11 true,
 .lg 13 12 11 true, .g 14 (.len false) [.t 13] 11 true, .fg 15 0 1 11 true, .lg 16 15 11 true, .fg 17 1 1 11 true, .lg 18 17 11 true, .g 19 (.bin .mul 0) [.t 16,
 .t 18] 11 true, .g 20 (.bin .eql 0) [.t 14, .t 19] 11 true, .o 21 .pick [.t 11, .t 20, .kb false], .m 22 21, .fg 23 2 1 22 true, .lg 24 23 22 true,
 .g 25 (.call 113 []) [.t 24] 22 true, .g 26 (.bin .leq 0) [.t 25, .k 24] 22 true, .o 27 .pick [.t 22, .t 26, .kb false], .m 2 27]) <| .ret

theorem k_spec_RegionValid : cFn Tryd.prog n_spec_RegionValid 28 [.t 2] c_spec_RegionValid := ⟨Tryd.f88, _, Tryd.func88, rfl, by kernel_rfl, by kernel_rfl, by kernel_rfl, by kernel_rfl⟩

-- 2 parameters, results [.t 4], 51 slots, modes [false, false]
@[simp] abbrev n_spec_PuzzleValid : Nat := 67
def c_spec_PuzzleValid_L0 : ACode := .seq (.seq (.reg [.m 17 5, .m 18 1, .n 19 18, .o 20 (.bin .lss 0) [.t 17, .t 19]]) <| .cond (.t 20) ( .skip) ( .exit 0)) <|
 .seq (.block 1 ( .seq (.reg [.f 23 2 2, .l 24 23, .m 25 5, .o 26 (.iadr 1) [.t 24, .t 25], .l 27 26, .m 28 27, .mg 29 1 28 true, .mg 30 5 28 true,
 .g 31 (.iadr 1) [.t 29, .t 30] 28 true, .lg 32 31 28 true, .g 33 (.call 42 []) [.t 32, .k 0, .k 6] 28 true, .g 34 (.un .not) [.t 33] 28 true,
 .o 35 .pick [.t 28, .t 34, .kb false], .m 36 35, .fg 37 2 2 36 false, .lg 38 37 36 false, .mg 39 5 36 false, .g 40 (.iadr 1) [.t 38, .t 39] 36 false,
 .lg 41 40 36 false, .g 42 (.un .not) [.t 41] 36 false, .mg 43 42 36 false, .mg 44 1 43 true, .mg 45 5 43 true, .g 46 (.iadr 1) [.t 44, .t 45] 43 true,
 .lg 47 46 43 true, .g 48 (.bin .neq 0) [.t 47, .k (-1)] 43 true, .g 49 .pick [.t 43, .t 48, .kb false] 36 false, .o 50 .pick [.t 36, .kb true, .t 49]]) <|
 .cond (.t 50) ( .seq (.reg [.o 4 .mv [.kb false]]) <| .ret) ( .skip))) <| .reg [.m 21 5, .o 22 (.bin .add 0) [.t 21, .k 1], .m 5 22]

def c_spec_PuzzleValid : ACode := .seq (.reg [.o 2 .box [.t 0], .o 4 .mv [.kb false]]) <| .seq (.seq (.reg [.la 6 3 2, .o 7 (.call 88 []) [.t 6],
 .o 8 (.un .not) [.t 7], .m 9 8, .mg 10 1 9 false, .g 11 (.len false) [.t 10] 9 false, .fg 12 2 2 9 false, .lg 13 12 9 false, .g 14 (.len false) [.t 13] 9 false,
 .g 15 (.bin .neq 0) [.t 11, .t 14] 9 false, .o 16 .pick [.t 9, .kb true, .t 15]]) <| .cond (.t 16) ( .seq (.reg [.o 4 .mv [.kb false]]) <| .ret) ( .skip)) <|
 .seq (.seq (.reg [.o 5 .mv [.k 0]]) <| .block 0 ( .loop [(1, 1)] [1, 2, 5] c_spec_PuzzleValid_L0)) <| .seq (.reg [.o 4 .mv [.kb true]]) <| .ret

theorem k_spec_PuzzleValid : cFn Tryd.prog n_spec_PuzzleValid 51 [.t 4] c_spec_PuzzleValid := ⟨Tryd.f67, _, Tryd.func67, rfl, by kernel_rfl, by kernel_rfl, by kernel_rfl, by kernel_rfl⟩

-- 3 parameters, results [.t 6], 65 slots, modes [false, false, false]
@[simp] abbrev n_spec_l2Step : Nat := 110

def c_spec_l2Step : ACode := .seq (.reg [.o 3 .box [.t 0], .o 6 .mv [.k 0]]) <| .seq (.block 0 ( .seq (.draw ( .take (.m 8 2) <|
 .take (.o 9 (.bin .eql 0) [.t 8, .k 1]) <| .take (.m 10 9) <| .take (.mg 11 1 10 true) <| .take (.fg 12 0 3 10 true) <| .take (.fg 15 0 3 10 true) <|
 .alt (.lg 13 12 10 true) ( .take (.g 14 (.bin .rem 0) [.t 11, .t 13] 10 true) <| .al (.lg 16 15 10 true) ( .take (.g 17 (.bin .sub 0) [.t 16, .k 1] 10 true) <|
 .take (.g 18 (.bin .lss 0) [.t 14, .t 17] 10 true) <| .take (.o 19 .pick [.t 10, .t 18, .kb false]) <| .take (.m 7 19) <| .done)) <|
 .al (.lg 16 15 10 true) ( .take (.g 17 (.bin .sub 0) [.t 16, .k 1] 10 true) <| .al (.lg 13 12 10 true) ( .take (.g 14 (.bin .rem 0) [.t 11, .t 13] 10 true) <|
 .take (.g 18 (.bin .lss 0) [.t 14, .t 17] 10 true) <| .take (.o 19 .pick [.t 10, .t 18, .kb false]) <| .take (.m 7 19) <| .done)))) <|
 .cond (.t 7) ( .seq (.reg [.m 20 1, .o 21 (.bin .add 0) [.t 20, .k 1], .m 6 21]) <| .ret) ( .seq (.draw ( .take (.m 23 2) <| .take (.o 24 (.bin .eql 0) [.t 23,
 .k 2]) <| .take (.m 25 24) <| .take (.mg 26 1 25 true) <| .take (.fg 27 0 3 25 true) <| .take (.fg 30 1 3 25 true) <|
 .alt (.lg 28 27 25 true) ( .take (.g 29 (.bin .quo 0) [.t 26, .t 28] 25 true) <| .al (.lg 31 30 25 true) ( .take (.g 32 (.bin .sub 0) [.t 31, .k 1] 25 true) <|
 .take (.g 33 (.bin .lss 0) [.t 29, .t 32] 25 true) <| .take (.o 34 .pick [.t 25, .t 33, .kb false]) <| .take (.m 22 34) <| .done)) <|
 .al (.lg 31 30 25 true) ( .take (.g 32 (.bin .sub 0) [.t 31, .k 1] 25 true) <| .al (.lg 28 27 25 true) ( .take (.g 29 (.bin .quo 0) [.t 26, .t 28] 25 true) <|
 .take (.g 33 (.bin .lss 0) [.t 29, .t 32] 25 true) <| .take (.o 34 .pick [.t 25, .t 33, .kb false]) <| .take (.m 22 34) <| .done)))) <|
 .cond (.t 22) ( .seq (.reg [.m 35 1, .f 36 0 3, .l 37 36, .o 38 (.bin .add 0) [.t 35, .t 37], .m 6 38]) <| .ret) ( .seq (.reg [.m 40 2,
 .o 41 (.bin .eql 0) [.t 40, .k 3], .m 42 41, .mg 43 1 42 true, .fg 44 0 3 42 true, .lg 45 44 42 true, .g 46 (.bin .rem 0) [.t 43, .t 45] 42 true,
 .g 47 (.bin .gtr 0) [.t 46, .k 0] 42 true, .o 48 .pick [.t 42, .t 47, .kb false], .m 39 48]) <| .cond (.t 39) ( .seq (.reg [.m 49 1, .o 50 (.bin .sub 0) [.t 49,
 .k 1], .m 6 50]) <| .ret) ( .seq (.reg [.m 52 2, .o 53 (.bin .eql 0) [.t 52, .k 4], .m 54 53, .mg 55 1 54 true, .fg 56 0 3 54 true, .lg 57 56 54 true,
 .g 58 (.bin .quo 0) [.t 55, .t 57] 54 true, .g 59 (.bin .gtr 0) [.t 58, .k 0] 54 true, .o 60 .pick [.t 54, .t 59, .kb false], .m 51 60]) <|
 .cond (.t 51) ( .seq (.reg [.m 61 1, .f 62 0 3, .l 63 62, .o 64 (.bin .sub 0) [.t 61, .t 63], .m 6 64]) <| .ret) ( .skip)))))) <|
 .seq (.reg [.o 6 .mv [.k (-1)]]) <| .ret

theorem k_spec_l2Step : cFn Tryd.prog n_spec_l2Step 65 [.t 6] c_spec_l2Step := ⟨Tryd.f110, _, Tryd.func110, rfl, by kernel_rfl, by kernel_rfl, by kernel_rfl, by kernel_rfl⟩

-- 1 parameters, results [.t 2], 7 slots, modes [false]
@[simp] abbrev n_spec_l2Back : Nat := 130

def c_spec_l2Back : ACode := .seq (.reg [.o 2 .mv [.k 0]]) <| .seq (.reg [.m 3 0, .o 4 (.bin .add 0) [.t 3, .k 1], .o 5 (.bin .rem 0) [.t 4, .k 4],
 .o 6 (.bin .add 0) [.t 5, .k 1], .m 2 6]) <| .ret

theorem k_spec_l2Back : cFn Tryd.prog n_spec_l2Back 7 [.t 2] c_spec_l2Back := ⟨Tryd.f130, _, Tryd.func130, rfl, by kernel_rfl, by kernel_rfl, by kernel_rfl, by kernel_rfl⟩

-- 2 parameters, results [.t 4], 72 slots, modes [false, false]
@[simp] abbrev n_spec_LaidOk : Nat := 128
abbrev c_spec_LaidOk_L0_p0 : Plan := .take (.g 70 (.bin .neq 0) [.t 64, .t 69] 60 false) <| .take (.o 71 .pick [.t 60, .kb true, .t 70]) <| .done
abbrev c_spec_LaidOk_L0_p1 : Plan := .al (.o 49 (.call 110 []) [.t 43, .t 44, .t 48]) ( .take (.m 6 49) <| .done)
abbrev c_spec_LaidOk_L0_p2 : Plan := .al (.g 69 (.call 130 []) [.t 68] 60 false) c_spec_LaidOk_L0_p0
def c_spec_LaidOk_L0 : ACode := .seq (.seq (.reg [.m 18 5, .m 19 1, .n 20 19, .o 21 (.bin .lss 0) [.t 18, .t 20]]) <| .cond (.t 21) ( .skip) ( .exit 0)) <|
 .seq (.block 1 ( .seq (.seq (.reg [.m 24 1, .m 25 5, .o 26 (.iadr 1) [.t 24, .t 25], .l 27 26, .o 28 (.bin .eql 0) [.t 27, .k 0]]) <|
 .cond (.t 28) ( .exit 1) ( .skip)) <| .seq (.seq (.reg [.m 29 1, .m 30 5, .o 31 (.iadr 1) [.t 29, .t 30], .l 32 31, .o 33 (.call 42 []) [.t 32, .k 1, .k 4],
 .o 34 (.un .not) [.t 33], .m 35 34, .fg 36 2 2 35 false, .lg 37 36 35 false, .mg 38 5 35 false, .g 39 (.iadr 1) [.t 37, .t 38] 35 false, .lg 40 39 35 false,
 .g 41 (.un .not) [.t 40] 35 false, .o 42 .pick [.t 35, .kb true, .t 41]]) <| .cond (.t 42) ( .seq (.reg [.o 4 .mv [.kb false]]) <| .ret) ( .skip)) <|
 .seq (.draw ( .take (.m 44 5) <| .take (.m 45 1) <| .take (.m 46 5) <| .take (.o 47 (.iadr 1) [.t 45, .t 46]) <|
 .alt (.la 43 3 2) ( .al (.l 48 47) c_spec_LaidOk_L0_p1) <|
 .al (.l 48 47) ( .al (.la 43 3 2) c_spec_LaidOk_L0_p1))) <| .seq (.draw ( .take (.m 50 6) <|
 .take (.o 51 (.bin .lss 0) [.t 50, .k 0]) <| .take (.m 52 51) <| .take (.fg 53 2 2 52 false) <| .take (.mg 55 6 52 false) <|
 .al (.lg 54 53 52 false) ( .take (.g 56 (.iadr 1) [.t 54, .t 55] 52 false) <| .al (.lg 57 56 52 false) ( .take (.g 58 (.un .not) [.t 57] 52 false) <|
 .take (.o 59 .pick [.t 52, .kb true, .t 58]) <| .take (.m 60 59) <| .take (.mg 61 1 60 false) <| .take (.mg 62 6 60 false) <| .take (.g 63 (.iadr 1) [.t 61,
 .t 62] 60 false) <| .take (.mg 65 1 60 false) <| .take (.mg 66 5 60 false) <| .take (.g 67 (.iadr 1) [.t 65, .t 66] 60 false) <|
 .alt (.lg 64 63 60 false) ( .al (.lg 68 67 60 false) c_spec_LaidOk_L0_p2) <|
 .al (.lg 68 67 60 false) ( .alt (.lg 64 63 60 false) c_spec_LaidOk_L0_p2 <|
 .al (.g 69 (.call 130 []) [.t 68] 60 false) ( .al (.lg 64 63 60 false) c_spec_LaidOk_L0_p0)))))) <| .cond (.t 71) ( .seq (.reg [.o 4 .mv [.kb false]]) <| .ret) ( .skip))) <| .reg [.m 22 5, .o 23 (.bin .add 0) [.t 22, .k 1],
 .m 5 23]

def c_spec_LaidOk : ACode := .seq (.reg [.o 2 .box [.t 0], .o 4 .mv [.kb false]]) <| .seq (.seq (.reg [.la 7 3 2, .o 8 (.call 88 []) [.t 7],
 .o 9 (.un .not) [.t 8], .m 10 9, .mg 11 1 10 false, .g 12 (.len false) [.t 11] 10 false, .fg 13 2 2 10 false, .lg 14 13 10 false,
 .g 15 (.len false) [.t 14] 10 false, .g 16 (.bin .neq 0) [.t 12, .t 15] 10 false, .o 17 .pick [.t 10, .kb true, .t 16]]) <|
 .cond (.t 17) ( .seq (.reg [.o 4 .mv [.kb false]]) <| .ret) ( .skip)) <| .seq (.seq (.reg [.o 5 .mv [.k 0]]) <| .block 0 ( .loop [(1, 1)] [1, 2,
 5] c_spec_LaidOk_L0)) <| .seq (.reg [.o 4 .mv [.kb true]]) <| .ret

theorem k_spec_LaidOk : cFn Tryd.prog n_spec_LaidOk 72 [.t 4] c_spec_LaidOk := ⟨Tryd.f128, _, Tryd.func128, rfl, by kernel_rfl, by kernel_rfl, by kernel_rfl, by kernel_rfl⟩

-- 3 parameters, results [.t 6], 15 slots, modes [false, false, false]
@[simp] abbrev n_impl_in : Nat := 46

def c_impl_in : ACode := .seq (.reg [.o 6 .mv [.kb false]]) <| .seq (.reg [.m 7 0, .m 8 1, .o 9 (.bin .geq 0) [.t 7, .t 8], .m 10 9, .mg 11 0 10 true,
 .mg 12 2 10 true, .g 13 (.bin .leq 0) [.t 11, .t 12] 10 true, .o 14 .pick [.t 10, .t 13, .kb false], .m 6 14]) <| .ret

theorem k_impl_in : cFn Tryd.prog n_impl_in 15 [.t 6] c_impl_in := ⟨Tryd.f46, _, Tryd.func46, rfl, by kernel_rfl, by kernel_rfl, by kernel_rfl, by kernel_rfl⟩

-- 1 parameters, results [.t 2], 17 slots, modes [false]
@[simp] abbrev n_impl_many : Nat := 89
def c_impl_many_L0 : ACode := .seq (.reg [.o 9 (.bin .lss 0) [.t 8, .t 7]]) <| .seq (.cond (.t 9) ( .skip) ( .exit 0)) <|
 .seq (.block 1 ( .seq (.reg [.o 10 (.iadr 1) [.t 6, .t 8], .l 11 10, .m 5 11]) <| .seq (.reg [.m 12 5]) <| .cond (.t 12) ( .reg [.m 13 3,
 .o 14 (.bin .add 0) [.t 13, .k 1], .m 3 14]) ( .skip))) <| .reg [.o 15 (.bin .add 0) [.t 8, .k 1], .m 8 15]

def c_impl_many : ACode := .seq (.reg [.o 2 .mv [.k 0]]) <| .seq (.reg [.o 3 .mv [.k 0]]) <| .seq (.seq (.reg [.m 6 0, .n 7 6, .o 8 .mv [.k 0]]) <|
 .block 0 ( .loop [(6, 1)] [3, 6, 7, 8] c_impl_many_L0)) <| .seq (.reg [.m 16 3, .m 2 16]) <| .ret

theorem k_impl_many : cFn Tryd.prog n_impl_many 17 [.t 2] c_impl_many := ⟨Tryd.f89, _, Tryd.func89, rfl, by kernel_rfl, by kernel_rfl, by kernel_rfl, by kernel_rfl⟩

-- 1 parameters, results [.t 2], 28 slots, modes [false]
@[simp] abbrev n_impl_RegionValid : Nat := 68

def c_impl_RegionValid : ACode := .seq (.reg [.o 1 .box [.t 0], .o 2 .mv [.kb false]]) <| .seq (.reg [.f 3 0 1, .l 4 3, .o 5 (.call 46 []) [.t 4, .k 1, .k 6],
 .m 6 5, .fg 7 1 1 6 true, .lg 8 7 6 true, .g 9 (.call 46 []) [.t 8, .k 1, .k 6] 6 true, .o 10 .pick [.t 6, .t 9, .kb false], .m 11 10, .fg 12 2 1 11 true,
 .lg 13 12 11 true, .g 14 (.len false) [.t 13] 11 true, .fg 15 0 1 11 true, .lg 16 15 11 true, .fg 17 1 1 11 true, .lg 18 17 11 true, .g 19 (.bin .mul 0) [.t 16,
 .t 18] 11 true, .g 20 (.bin .eql 0) [.t 14, .t 19] 11 true, .o 21 .pick [.t 11, .t 20, .kb false], .m 22 21, .fg 23 2 1 22 true, .lg 24 23 22 true,
 .g 25 (.call 89 []) [.t 24] 22 true, .g 26 (.bin .leq 0) [.t 25, .k 24] 22 true, .o 27 .pick [.t 22, .t 26, .kb false], .m 2 27]) <| .ret

theorem k_impl_RegionValid : cFn Tryd.prog n_impl_RegionValid 28 [.t 2] c_impl_RegionValid := ⟨Tryd.f68, _, Tryd.func68, rfl, by kernel_rfl, by kernel_rfl, by kernel_rfl, by kernel_rfl⟩

-- 2 parameters, results [.t 4], 43 slots, modes [false, false]
@[simp] abbrev n_impl_puzzle : Nat := 69
def c_impl_puzzle_L0 : ACode := .seq (.reg [.o 16 (.bin .lss 0) [.t 15, .t 14]]) <| .seq (.cond (.t 16) ( .skip) ( .exit 0)) <|
 .seq (.block 1 ( .seq (.reg [.m 17 15, .o 18 (.iadr 1) [.t 13, .t 15], .l 19 18, .m 5 17, .m 6 19]) <| .seq (.reg [.f 20 2 2, .l 21 20, .m 22 5,
 .o 23 (.iadr 1) [.t 21, .t 22], .l 24 23, .m 25 24, .mg 26 6 25 true, .g 27 (.call 46 []) [.t 26, .k 0, .k 6] 25 true, .g 28 (.un .not) [.t 27] 25 true,
 .o 29 .pick [.t 25, .t 28, .kb false], .m 30 29, .fg 31 2 2 30 false, .lg 32 31 30 false, .mg 33 5 30 false, .g 34 (.iadr 1) [.t 32, .t 33] 30 false,
 .lg 35 34 30 false, .g 36 (.un .not) [.t 35] 30 false, .mg 37 36 30 false, .mg 38 6 37 true, .g 39 (.bin .neq 0) [.t 38, .k (-1)] 37 true, .g 40 .pick [.t 37,
 .t 39, .kb false] 30 false, .o 41 .pick [.t 30, .kb true, .t 40]]) <| .cond (.t 41) ( .seq (.reg [.o 4 .mv [.kb false]]) <| .ret) ( .skip))) <|
 .reg [.o 42 (.bin .add 0) [.t 15, .k 1], .m 15 42]

def c_impl_puzzle : ACode := .seq (.reg [.o 2 .box [.t 0], .o 4 .mv [.kb false]]) <| .seq (.seq (.reg [.m 7 1, .n 8 7, .f 9 2 2, .l 10 9, .n 11 10,
 .o 12 (.bin .neq 0) [.t 8, .t 11]]) <| .cond (.t 12) ( .seq (.reg [.o 4 .mv [.kb false]]) <| .ret) ( .skip)) <| .seq (.seq (.reg [.m 13 1, .n 14 13,
 .o 15 .mv [.k 0]]) <| .block 0 ( .loop [(13, 1)] [2, 13, 14, 15] c_impl_puzzle_L0)) <| .seq (.reg [.o 4 .mv [.kb true]]) <| .ret

theorem k_impl_puzzle : cFn Tryd.prog n_impl_puzzle 43 [.t 4] c_impl_puzzle := ⟨Tryd.f69, _, Tryd.func69, rfl, by kernel_rfl, by kernel_rfl, by kernel_rfl, by kernel_rfl⟩

-- 2 parameters, results [.t 4], 12 slots, modes [false, false]
@[simp] abbrev n_impl_PuzzleValid : Nat := 36

def c_impl_PuzzleValid : ACode := .seq (.reg [.o 2 .box [.t 0], .o 4 .mv [.kb false]]) <| .seq (.reg [.la 5 3 2, .o 6 (.call 68 []) [.t 5], .m 7 6,
 .g 8 (.load true 3) [.t 2] 7 true, .mg 9 1 7 true, .g 10 (.call 69 []) [.t 8, .t 9] 7 true, .o 11 .pick [.t 7, .t 10, .kb false], .m 4 11]) <| .ret

theorem k_impl_PuzzleValid : cFn Tryd.prog n_impl_PuzzleValid 12 [.t 4] c_impl_PuzzleValid := ⟨Tryd.f36, _, Tryd.func36, rfl, by kernel_rfl, by kernel_rfl, by kernel_rfl, by kernel_rfl⟩

end Go.Proofs.Dev

namespace Go.Proofs.Dev

-- 1 parameters, results [.t 2], 34 slots, modes [false]
@[simp] abbrev n_spec_l1Number : Nat := 43

abbrev c_spec_l1Number_p0 : Plan := .take (.o 33 (.bin .add 1) [.t 26, .t 32]) <| .take (.m 2 33) <| .done
def c_spec_l1Number : ACode := .seq (.reg [.o 2 .mv [.c (.v (.string ⟨#[]⟩))]]) <| .seq (.seq (.reg [.m 3 0, .o 4 (.bin .lss 0) [.t 3, .k 0], .m 5 4,
 .mg 6 0 5 true, .mg 7 0 5 true, .g 8 (.un .neg) [.t 7] 5 true, .g 9 (.bin .eql 0) [.t 6, .t 8] 5 true, .o 10 .pick [.t 5, .t 9, .kb false]]) <|
 .cond (.t 10) ( .seq (.reg [.o 2 .mv [.c (.v (.string ⟨#[45, 57, 50, 50, 51, 51, 55, 50, 48, 51, 54, 56, 53, 52, 55, 55, 53, 56, 48, 56]⟩))]]) <|
 .ret) ( .skip)) <| .seq (.seq (.reg [.m 11 0, .o 12 (.bin .lss 0) [.t 11, .k 0]]) <| .cond (.t 12) ( .seq (.reg [.m 13 0, .o 14 (.un .neg) [.t 13],
 .o 15 (.call 43 []) [.t 14], .o 16 (.bin .add 1) [.c (.v (.string ⟨#[45]⟩)), .t 15], .m 2 16]) <| .ret) ( .skip)) <| .seq (.seq (.reg [.m 17 0,
 .o 18 (.bin .lss 0) [.t 17, .k 10]]) <| .cond (.t 18) ( .seq (.reg [.m 19 0, .o 20 (.bin .add 0) [.k 48, .t 19], .o 21 (.conv .u8) [.t 20],
 .o 22 (.bsl 1) [.t 21], .o 23 .str [.t 22], .m 2 23]) <| .ret) ( .skip)) <| .seq (.draw ( .take (.m 24 0) <| .take (.o 25 (.bin .quo 0) [.t 24, .k 10]) <|
 .take (.m 27 0) <| .take (.o 28 (.bin .rem 0) [.t 27, .k 10]) <| .take (.o 29 (.bin .add 0) [.k 48, .t 28]) <| .take (.o 30 (.conv .u8) [.t 29]) <|
 .alt (.o 26 (.call 43 []) [.t 25]) ( .al (.o 31 (.bsl 1) [.t 30]) ( .al (.o 32 .str [.t 31]) c_spec_l1Number_p0)) <| .al (.o 31 (.bsl 1) [.t 30]) ( .alt (.o 26 (.call 43 []) [.t 25]) ( .al (.o 32 .str [.t 31]) c_spec_l1Number_p0) <| .al (.o 32 .str [.t 31]) ( .al (.o 26 (.call 43 []) [.t 25]) c_spec_l1Number_p0)))) <| .ret

theorem k_spec_l1Number : cFn Tryd.prog n_spec_l1Number 34 [.t 2] c_spec_l1Number := ⟨Tryd.f43, _, Tryd.func43, rfl, by kernel_rfl, by kernel_rfl, by kernel_rfl, by kernel_rfl⟩

-- 2 parameters, results [.t 4], 35 slots, modes [false, false]
@[simp] abbrev n_spec_l1Cut : Nat := 50
def c_spec_l1Cut_L0 : ACode := .seq (.seq (.reg [.m 9 7, .m 10 0, .o 11 (.len true) [.t 10], .o 12 (.bin .lss 0) [.t 9, .t 11]]) <|
 .cond (.t 12) ( .skip) ( .exit 0)) <| .seq (.block 1 ( .seq (.reg [.m 15 0, .m 16 7, .o 17 .sidx [.t 15, .t 16], .m 18 1, .o 19 (.bin .eql 0) [.t 17,
 .t 18]]) <| .cond (.t 19) ( .seq (.reg [.m 20 5, .m 21 0, .m 22 6, .m 23 7, .o 24 (.sslice true true) [.t 21, .t 22, .t 23], .o 25 (.bsl 1) [.t 24],
 .o 26 (.app 1 16 true) [.t 20, .t 25], .m 5 26]) <| .reg [.m 27 7, .o 28 (.bin .add 0) [.t 27, .k 1], .m 6 28]) ( .skip))) <| .reg [.m 13 7,
 .o 14 (.bin .add 0) [.t 13, .k 1], .m 7 14]

def c_spec_l1Cut : ACode := .seq (.reg [.o 4 .mv [.c (.os 1 [])]]) <| .seq (.reg [.o 8 (.bsl 1) [], .m 5 8]) <| .seq (.reg [.o 6 .mv [.k 0]]) <|
 .seq (.seq (.reg [.o 7 .mv [.k 0]]) <| .block 0 ( .loop [(5, 1)] [0, 1, 5, 6, 7] c_spec_l1Cut_L0)) <| .seq (.reg [.m 29 5, .m 30 0, .m 31 6,
 .o 32 (.sslice true false) [.t 30, .t 31], .o 33 (.bsl 1) [.t 32], .o 34 (.app 1 16 true) [.t 29, .t 33], .m 4 34]) <| .ret

theorem k_spec_l1Cut : cFn Tryd.prog n_spec_l1Cut 35 [.t 4] c_spec_l1Cut := ⟨Tryd.f50, _, Tryd.func50, rfl, by kernel_rfl, by kernel_rfl, by kernel_rfl, by kernel_rfl⟩

-- 1 parameters, results [.t 2], 44 slots, modes [false]
@[simp] abbrev n_spec_l1Digits : Nat := 51
def c_spec_l1Digits_L0 : ACode := .seq (.seq (.reg [.m 19 4, .m 20 0, .o 21 (.len true) [.t 20], .o 22 (.bin .lss 0) [.t 19, .t 21]]) <|
 .cond (.t 22) ( .skip) ( .exit 0)) <| .seq (.block 1 ( .seq (.seq (.reg [.m 25 0, .m 26 4, .o 27 .sidx [.t 25, .t 26], .o 28 (.bin .lss 0) [.t 27,
 .c (.v (.int .u8 (48)))], .m 29 28, .mg 30 0 29 false, .mg 31 4 29 false, .g 32 .sidx [.t 30, .t 31] 29 false, .g 33 (.bin .gtr 0) [.t 32,
 .c (.v (.int .u8 (57)))] 29 false, .o 34 .pick [.t 29, .kb true, .t 33]]) <| .cond (.t 34) ( .seq (.reg [.o 2 .mv [.k (-1)]]) <| .ret) ( .skip)) <|
 .reg [.m 35 3, .o 36 (.bin .mul 0) [.k 10, .t 35], .m 37 0, .m 38 4, .o 39 .sidx [.t 37, .t 38], .o 40 (.bin .sub 0) [.t 39, .c (.v (.int .u8 (48)))],
 .o 41 (.conv .i64) [.t 40], .o 42 (.bin .add 0) [.t 36, .t 41], .m 3 42])) <| .reg [.m 23 4, .o 24 (.bin .add 0) [.t 23, .k 1], .m 4 24]

def c_spec_l1Digits : ACode := .seq (.reg [.o 2 .mv [.k 0]]) <| .seq (.seq (.reg [.m 5 0, .o 6 (.len true) [.t 5], .o 7 (.call 42 []) [.t 6, .k 1, .k 4],
 .o 8 (.un .not) [.t 7], .m 9 8, .mg 10 0 9 false, .g 11 (.len true) [.t 10] 9 false, .g 12 (.bin .gtr 0) [.t 11, .k 1] 9 false, .mg 13 12 9 false,
 .mg 14 0 13 true, .g 15 .sidx [.t 14, .k 0] 13 true, .g 16 (.bin .eql 0) [.t 15, .c (.v (.int .u8 (48)))] 13 true, .g 17 .pick [.t 13, .t 16,
 .kb false] 9 false, .o 18 .pick [.t 9, .kb true, .t 17]]) <| .cond (.t 18) ( .seq (.reg [.o 2 .mv [.k (-1)]]) <| .ret) ( .skip)) <|
 .seq (.reg [.o 3 .mv [.k 0]]) <| .seq (.seq (.reg [.o 4 .mv [.k 0]]) <| .block 0 ( .loop [] [0, 3, 4] c_spec_l1Digits_L0)) <| .seq (.reg [.m 43 3, .m 2 43]) <|
 .ret

theorem k_spec_l1Digits : cFn Tryd.prog n_spec_l1Digits 44 [.t 2] c_spec_l1Digits := ⟨Tryd.f51, _, Tryd.func51, rfl, by kernel_rfl, by kernel_rfl, by kernel_rfl, by kernel_rfl⟩

end Go.Proofs.Dev

namespace Go.Proofs.Dev

-- 2 parameters, results [.t 4], 52 slots, modes [false, false]
@[simp] abbrev n_spec_PuzzleText : Nat := 35
def c_spec_PuzzleText_L0 : ACode := .seq (.seq (.reg [.m 21 7, .f 22 0 2, .l 23 22, .o 24 (.bin .lss 0) [.t 21, .t 23]]) <|
 .cond (.t 24) ( .skip) ( .exit 2)) <| .seq (.block 3 ( .seq (.reg [.m 27 6, .f 28 0 2, .l 29 28, .o 30 (.bin .mul 0) [.t 27, .t 29], .m 31 7,
 .o 32 (.bin .add 0) [.t 30, .t 31], .m 8 32]) <| .seq (.reg [.f 33 2 2, .l 34 33, .m 35 8, .o 36 (.iadr 1) [.t 34, .t 35], .l 37 36]) <|
 .cond (.t 37) ( .reg [.m 38 5, .m 39 1, .m 40 8, .o 41 (.iadr 1) [.t 39, .t 40], .l 42 41, .o 43 (.call 43 []) [.t 42], .o 44 (.bin .add 1) [.t 38, .t 43],
 .m 5 44]) ( .reg [.m 45 5, .o 46 (.bin .add 1) [.t 45, .c (.v (.string ⟨#[46]⟩))], .m 5 46]))) <| .reg [.m 25 7, .o 26 (.bin .add 0) [.t 25, .k 1], .m 7 26]

def c_spec_PuzzleText_L1 : ACode := .seq (.seq (.reg [.m 12 6, .o 13 (.bin .geq 0) [.t 12, .k 0], .m 14 13, .g 15 (.load true 3) [.t 2] 14 true,
 .mg 16 1 14 true, .g 17 (.call 67 []) [.t 15, .t 16] 14 true, .o 18 .pick [.t 14, .t 17, .kb false]]) <| .cond (.t 18) ( .skip) ( .exit 0)) <|
 .seq (.block 1 ( .seq (.seq (.reg [.o 7 .mv [.k 0]]) <| .block 2 ( .loop [(1, 1)] [1, 2, 5, 6, 7] c_spec_PuzzleText_L0)) <| .seq (.reg [.m 47 6,
 .o 48 (.bin .gtr 0) [.t 47, .k 0]]) <| .cond (.t 48) ( .reg [.m 49 5, .o 50 (.bin .add 1) [.t 49, .c (.v (.string ⟨#[47]⟩))], .m 5 50]) ( .skip))) <|
 .reg [.m 19 6, .o 20 (.bin .sub 0) [.t 19, .k 1], .m 6 20]

def c_spec_PuzzleText : ACode := .seq (.reg [.o 2 .box [.t 0], .o 4 .mv [.c (.v (.string ⟨#[]⟩))]]) <| .seq (.reg [.o 5 .mv [.c (.v (.string ⟨#[]⟩))]]) <|
 .seq (.seq (.reg [.f 9 1 2, .l 10 9, .o 11 (.bin .sub 0) [.t 10, .k 1], .m 6 11]) <| .block 0 ( .loop [(1, 1)] [1, 2, 5, 6] c_spec_PuzzleText_L1)) <|
 .seq (.reg [.m 51 5, .m 4 51]) <| .ret

theorem k_spec_PuzzleText : cFn Tryd.prog n_spec_PuzzleText 52 [.t 4] c_spec_PuzzleText := ⟨Tryd.f35, _, Tryd.func35, rfl, by kernel_rfl, by kernel_rfl, by kernel_rfl, by kernel_rfl⟩

-- 1 parameters, results [.c 2 true 3, .t 3, .t 4], 73 slots, modes [false]
@[simp] abbrev n_spec_ReadPuzzle : Nat := 18
abbrev c_spec_ReadPuzzle_L0_p0 : Plan := .al (.o 46 (.app 1 1 true) [.t 37, .t 45]) ( .take (.f 47 2 6) <| .al (.s (.store 1) [.t 47, .t 46]) ( .done))
def c_spec_ReadPuzzle_L0 : ACode := .seq (.seq (.reg [.m 27 9, .m 28 5, .m 29 8, .o 30 (.iadr 1) [.t 28, .t 29], .l 31 30, .o 32 (.len true) [.t 31],
 .o 33 (.bin .lss 0) [.t 27, .t 32]]) <| .cond (.t 33) ( .skip) ( .exit 2)) <| .seq (.block 3 ( .seq (.draw ( .take (.f 36 2 6) <| .take (.m 38 5) <|
 .take (.m 39 8) <| .take (.o 40 (.iadr 1) [.t 38, .t 39]) <| .take (.m 42 9) <| .alt (.l 37 36) ( .al (.l 41 40) ( .take (.o 43 .sidx [.t 41, .t 42]) <|
 .take (.o 44 (.bin .neq 0) [.t 43, .c (.v (.int .u8 (46)))]) <| .al (.o 45 (.bsl 1) [.t 44]) c_spec_ReadPuzzle_L0_p0)) <| .al (.l 41 40) ( .take (.o 43 .sidx [.t 41, .t 42]) <| .take (.o 44 (.bin .neq 0) [.t 43,
 .c (.v (.int .u8 (46)))]) <| .alt (.l 37 36) ( .al (.o 45 (.bsl 1) [.t 44]) c_spec_ReadPuzzle_L0_p0) <| .al (.o 45 (.bsl 1) [.t 44]) ( .al (.l 37 36) c_spec_ReadPuzzle_L0_p0)))) <| .reg [.m 48 7, .m 49 5, .m 50 8, .o 51 (.iadr 1) [.t 49, .t 50], .l 52 51,
 .m 53 9, .m 54 9, .o 55 (.bin .add 0) [.t 54, .k 1], .o 56 (.sslice true true) [.t 52, .t 53, .t 55], .o 57 (.call 51 []) [.t 56], .o 58 (.bsl 1) [.t 57],
 .o 59 (.app 1 8 true) [.t 48, .t 58], .m 7 59])) <| .reg [.m 34 9, .o 35 (.bin .add 0) [.t 34, .k 1], .m 9 35]

def c_spec_ReadPuzzle_L1 : ACode := .seq (.seq (.reg [.m 23 8, .o 24 (.bin .geq 0) [.t 23, .k 0]]) <| .cond (.t 24) ( .skip) ( .exit 0)) <|
 .seq (.block 1 ( .seq (.reg [.o 9 .mv [.k 0]]) <| .block 2 ( .loop [(5, 1), (7, 1)] [0, 2, 5, 6, 7, 8, 9] c_spec_ReadPuzzle_L0))) <| .reg [.m 25 8,
 .o 26 (.bin .sub 0) [.t 25, .k 1], .m 8 26]

def c_spec_ReadPuzzle : ACode := .seq (.reg [.o 2 (.alloc rz) [], .o 3 .mv [.c (.os 1 [])], .o 4 .mv [.kb false]]) <| .seq (.reg [.m 10 0,
 .o 11 (.call 50 []) [.t 10, .c (.v (.int .u8 (47)))], .m 5 11]) <| .seq (.reg [.m 12 5, .o 13 (.iadr 1) [.t 12, .k 0], .l 14 13, .o 15 (.len true) [.t 14],
 .m 16 5, .n 17 16, .o 18 (.build rz [(0, 1), (1, 1)]) [.t 15, .t 17], .o 6 (.alloc rz) [], .s (.store 3) [.t 6, .t 18]]) <| .seq (.reg [.o 19 (.bsl 1) [],
 .m 7 19]) <| .seq (.seq (.reg [.m 20 5, .n 21 20, .o 22 (.bin .sub 0) [.t 21, .k 1], .m 8 22]) <| .block 0 ( .loop [(5, 1), (7, 1)] [0, 2, 5, 6, 7,
 8] c_spec_ReadPuzzle_L1)) <| .seq (.seq (.reg [.m 60 0, .o 61 (.bin .eql 1) [.t 60, .c (.v (.string ⟨#[]⟩))], .m 62 61, .g 63 (.load true 3) [.t 6] 62 false,
 .mg 64 7 62 false, .g 65 (.call 35 []) [.t 63, .t 64] 62 false, .mg 66 0 62 false, .g 67 (.bin .neq 1) [.t 65, .t 66] 62 false, .o 68 .pick [.t 62, .kb true,
 .t 67]]) <| .cond (.t 68) ( .seq (.reg [.o 69 (.build rz []) [], .o 70 (.bsl 1) [], .s (.store 3) [.t 2, .t 69], .m 3 70, .o 4 .mv [.kb false]]) <|
 .ret) ( .skip)) <| .seq (.reg [.la 71 3 6, .m 72 7, .s (.store 3) [.t 2, .t 71], .m 3 72, .o 4 .mv [.kb true]]) <| .ret

theorem k_spec_ReadPuzzle : cFn Tryd.prog n_spec_ReadPuzzle 73 [.c 2 true 3, .t 3, .t 4] c_spec_ReadPuzzle := ⟨Tryd.f18, _, Tryd.func18, rfl, by kernel_rfl, by kernel_rfl, by kernel_rfl, by kernel_rfl⟩

-- 2 parameters, results [.c 4 true 3, .t 5, .t 6], 91 slots, modes [false, false]
@[simp] abbrev n_impl_readRows : Nat := 52
def c_impl_readRows_L0 : ACode := .seq (.reg [.o 54 (.bin .lss 0) [.t 53, .t 52]]) <| .seq (.cond (.t 54) ( .skip) ( .exit 2)) <|
 .seq (.block 3 ( .seq (.reg [.m 55 53, .m 14 55]) <| .seq (.reg [.m 56 9, .o 57 (.bin .sub 0) [.t 56, .k 1], .m 58 12, .o 59 (.bin .sub 0) [.t 57, .t 58],
 .m 60 8, .o 61 (.bin .mul 0) [.t 59, .t 60], .m 62 14, .o 63 (.bin .add 0) [.t 61, .t 62], .m 15 63]) <| .seq (.reg [.m 64 11, .m 65 15, .m 66 13, .m 67 14,
 .o 68 .sidx [.t 66, .t 67], .o 69 (.iadr 1) [.t 64, .t 65], .s (.store 1) [.t 69, .t 68]]) <| .seq (.draw ( .take (.f 70 2 10) <| .take (.m 72 15) <|
 .take (.m 73 13) <| .take (.m 74 14) <| .take (.o 75 .sidx [.t 73, .t 74]) <| .take (.o 76 (.bin .neq 0) [.t 75, .c (.v (.int .u8 (46)))]) <|
 .al (.l 71 70) ( .take (.o 77 (.iadr 1) [.t 71, .t 72]) <| .al (.s (.store 1) [.t 77, .t 76]) ( .done)))) <| .seq (.reg [.m 78 1, .m 79 13, .m 80 14,
 .o 81 .sidx [.t 79, .t 80], .o 82 (.callv []) [.t 78, .t 81], .o 83 (.un .not) [.t 82]]) <| .cond (.t 83) ( .seq (.reg [.o 84 (.build rz []) [],
 .s (.store 3) [.t 4, .t 84], .o 5 .mv [.c (.os 1 [])], .o 6 .mv [.kb false]]) <| .ret) ( .skip))) <| .reg [.o 85 (.bin .add 0) [.t 53, .k 1], .m 53 85]

def c_impl_readRows_L1 : ACode := .seq (.reg [.o 43 (.bin .lss 0) [.t 42, .t 41]]) <| .seq (.cond (.t 43) ( .skip) ( .exit 0)) <|
 .seq (.block 1 ( .seq (.reg [.m 44 42, .o 45 (.iadr 1) [.t 40, .t 42], .l 46 45, .m 12 44, .m 13 46]) <| .seq (.seq (.reg [.m 47 13, .o 48 (.len true) [.t 47],
 .m 49 8, .o 50 (.bin .neq 0) [.t 48, .t 49]]) <| .cond (.t 50) ( .seq (.reg [.o 51 (.build rz []) [], .s (.store 3) [.t 4, .t 51], .o 5 .mv [.c (.os 1 [])],
 .o 6 .mv [.kb false]]) <| .ret) ( .skip)) <| .seq (.reg [.m 52 8, .o 53 .mv [.k 0]]) <| .block 2 ( .loop [(11, 1), (40, 1)] [1, 4, 8, 9, 10, 11, 12, 13, 40, 41,
 42, 52, 53] c_impl_readRows_L0))) <| .reg [.o 86 (.bin .add 0) [.t 42, .k 1], .m 42 86]

abbrev c_impl_readRows_p0 : Plan := .al (.s (.store 3) [.t 4, .t 87]) ( .take (.m 5 88) <| .take (.m 6 90) <| .done)
def c_impl_readRows : ACode := .seq (.reg [.o 4 (.alloc rz) [], .o 5 .mv [.c (.os 1 [])], .o 6 .mv [.kb false]]) <| .seq (.reg [.m 16 0,
 .o 17 (.call 57 []) [.t 16, .c (.v (.string ⟨#[47]⟩))], .m 7 17]) <| .seq (.reg [.m 18 7, .o 19 (.iadr 1) [.t 18, .k 0], .l 20 19, .o 21 (.len true) [.t 20],
 .m 22 7, .n 23 22, .m 8 21, .m 9 23]) <| .seq (.seq (.reg [.m 24 8, .o 25 (.call 46 []) [.t 24, .k 1, .k 6], .o 26 (.un .not) [.t 25], .m 27 26,
 .mg 28 9 27 false, .g 29 (.call 46 []) [.t 28, .k 1, .k 6] 27 false, .g 30 (.un .not) [.t 29] 27 false, .o 31 .pick [.t 27, .kb true, .t 30]]) <|
 .cond (.t 31) ( .seq (.reg [.o 32 (.build rz []) [], .s (.store 3) [.t 4, .t 32], .o 5 .mv [.c (.os 1 [])], .o 6 .mv [.kb false]]) <| .ret) ( .skip)) <|
 .seq (.reg [.m 33 8, .m 34 9, .o 35 (.call 76 []) [.t 33, .t 34], .o 10 (.alloc rz) [], .s (.store 3) [.t 10, .t 35]]) <| .seq (.reg [.m 36 8, .m 37 9,
 .o 38 (.bin .mul 0) [.t 36, .t 37], .o 39 (.mksl 1 1 (.v (.int .u8 (0)))) [.t 38, .t 38], .m 11 39]) <| .seq (.seq (.reg [.m 40 7, .n 41 40,
 .o 42 .mv [.k 0]]) <| .block 0 ( .loop [(11, 1), (40, 1)] [1, 4, 8, 9, 10, 11, 40, 41, 42] c_impl_readRows_L1)) <| .seq (.draw ( .take (.m 88 11) <|
 .alt (.la 87 3 10) ( .al (.la 89 3 10) ( .al (.o 90 (.call 68 []) [.t 89]) c_impl_readRows_p0)) <| .al (.la 89 3 10) ( .alt (.la 87 3 10) ( .al (.o 90 (.call 68 []) [.t 89]) c_impl_readRows_p0) <| .al (.o 90 (.call 68 []) [.t 89]) ( .al (.la 87 3 10) c_impl_readRows_p0)))) <| .ret

theorem k_impl_readRows : cFn Tryd.prog n_impl_readRows 91 [.c 4 true 3, .t 5, .t 6] c_impl_readRows := ⟨Tryd.f52, _, Tryd.func52, rfl, by kernel_rfl, by kernel_rfl, by kernel_rfl, by kernel_rfl⟩

-- 1 parameters, results [.t 2], 13 slots, modes [false]
@[simp] abbrev n_impl_ReadPuzzle_1 : Nat := 53

def c_impl_ReadPuzzle_1 : ACode := .seq (.reg [.o 2 .mv [.kb false]]) <| .seq (.reg [.m 3 0, .o 4 (.bin .eql 0) [.t 3, .c (.v (.int .u8 (46)))], .m 5 4,
 .mg 6 0 5 false, .g 7 (.bin .geq 0) [.t 6, .c (.v (.int .u8 (48)))] 5 false, .mg 8 7 5 false, .mg 9 0 8 true, .g 10 (.bin .leq 0) [.t 9,
 .c (.v (.int .u8 (54)))] 8 true, .g 11 .pick [.t 8, .t 10, .kb false] 5 false, .o 12 .pick [.t 5, .kb true, .t 11], .m 2 12]) <| .ret

theorem k_impl_ReadPuzzle_1 : cFn Tryd.prog n_impl_ReadPuzzle_1 13 [.t 2] c_impl_ReadPuzzle_1 := ⟨Tryd.f53, _, Tryd.func53, rfl, by kernel_rfl, by kernel_rfl, by kernel_rfl, by kernel_rfl⟩

-- 1 parameters, results [.c 2 true 3, .t 3, .t 4], 44 slots, modes [false]
@[simp] abbrev n_impl_ReadPuzzle : Nat := 19
def c_impl_ReadPuzzle_L0 : ACode := .seq (.reg [.o 26 (.bin .lss 0) [.t 25, .t 24]]) <| .seq (.cond (.t 26) ( .skip) ( .exit 0)) <|
 .seq (.block 1 ( .seq (.reg [.m 27 25, .o 28 (.iadr 1) [.t 23, .t 25], .l 29 28, .m 9 27, .m 10 29]) <| .seq (.reg [.m 30 8, .m 31 9, .o 32 (.iadr 1) [.t 30,
 .t 31], .s (.store 1) [.t 32, .k (-1)]]) <| .seq (.reg [.m 33 10, .o 34 (.bin .neq 0) [.t 33, .c (.v (.int .u8 (46)))]]) <| .cond (.t 34) ( .reg [.m 35 8,
 .m 36 9, .m 37 10, .o 38 (.bin .sub 0) [.t 37, .c (.v (.int .u8 (48)))], .o 39 (.conv .i64) [.t 38], .o 40 (.iadr 1) [.t 35, .t 36], .s (.store 1) [.t 40,
 .t 39]]) ( .skip))) <| .reg [.o 41 (.bin .add 0) [.t 25, .k 1], .m 25 41]

def c_impl_ReadPuzzle : ACode := .seq (.reg [.o 2 (.alloc rz) [], .o 3 .mv [.c (.os 1 [])], .o 4 .mv [.kb false]]) <| .seq (.reg [.m 12 0,
 .o 13 (.call 52 []) [.t 12, .f 53], .m 11 13, .e 14 0 11, .e 15 1 11, .e 16 2 11, .o 5 (.alloc rz) [], .s (.store 3) [.t 5, .t 14], .m 6 15, .m 7 16]) <|
 .seq (.seq (.reg [.m 17 7, .o 18 (.un .not) [.t 17]]) <| .cond (.t 18) ( .seq (.reg [.o 19 (.build rz []) [], .s (.store 3) [.t 2, .t 19],
 .o 3 .mv [.c (.os 1 [])], .o 4 .mv [.kb false]]) <| .ret) ( .skip)) <| .seq (.reg [.m 20 6, .n 21 20, .o 22 (.mksl 1 8 (.v (.int .i64 (0)))) [.t 21, .t 21],
 .m 8 22]) <| .seq (.seq (.reg [.m 23 6, .n 24 23, .o 25 .mv [.k 0]]) <| .block 0 ( .loop [(8, 1), (23, 1)] [2, 5, 8, 23, 24, 25] c_impl_ReadPuzzle_L0)) <|
 .seq (.reg [.la 42 3 5, .m 43 8, .s (.store 3) [.t 2, .t 42], .m 3 43, .o 4 .mv [.kb true]]) <| .ret

theorem k_impl_ReadPuzzle : cFn Tryd.prog n_impl_ReadPuzzle 44 [.c 2 true 3, .t 3, .t 4] c_impl_ReadPuzzle := ⟨Tryd.f19, _, Tryd.func19, rfl, by kernel_rfl, by kernel_rfl, by kernel_rfl, by kernel_rfl⟩

-- 2 parameters, results [.t 4], 12 slots, modes [false, false]
@[simp] abbrev n_impl_PuzzleText : Nat := 34

def c_impl_PuzzleText : ACode := .seq (.reg [.o 2 .box [.t 0], .o 3 .box [.t 1], .o 4 .mv [.c (.v (.string ⟨#[]⟩))]]) <| .seq (.seq (.reg [.la 5 3 2, .l 6 3,
 .o 7 (.call 36 []) [.t 5, .t 6], .o 8 (.un .not) [.t 7]]) <| .cond (.t 8) ( .seq (.reg [.o 4 .mv [.c (.v (.string ⟨#[]⟩))]]) <| .ret) ( .skip)) <|
 .seq (.reg [.la 9 3 2, .o 10 (.mkfn 66) [.t 3], .o 11 (.call 65 []) [.t 9, .t 10], .m 4 11]) <| .ret

theorem k_impl_PuzzleText : cFn Tryd.prog n_impl_PuzzleText 12 [.t 4] c_impl_PuzzleText := ⟨Tryd.f34, _, Tryd.func34, rfl, by kernel_rfl, by kernel_rfl, by kernel_rfl, by kernel_rfl⟩

-- 1 parameters, results [.t 3], 15 slots, modes [false]
@[simp] abbrev n_impl_PuzzleText_1 : Nat := 66

def c_impl_PuzzleText_1 : ACode := .seq (.reg [.o 3 .mv [.c (.v (.int .u8 (0)))]]) <| .seq (.seq (.reg [.l 4 1, .m 5 0, .o 6 (.iadr 1) [.t 4, .t 5], .l 7 6,
 .o 8 (.bin .lss 0) [.t 7, .k 0]]) <| .cond (.t 8) ( .seq (.reg [.o 3 .mv [.c (.v (.int .u8 (46)))]]) <| .ret) ( .skip)) <| .seq (.reg [.l 9 1, .m 10 0,
 .o 11 (.iadr 1) [.t 9, .t 10], .l 12 11, .o 13 (.conv .u8) [.t 12], .o 14 (.bin .add 0) [.c (.v (.int .u8 (48))), .t 13], .m 3 14]) <| .ret

theorem k_impl_PuzzleText_1 : cFn Tryd.prog n_impl_PuzzleText_1 15 [.t 3] c_impl_PuzzleText_1 := ⟨Tryd.f66, _, Tryd.func66, rfl, by kernel_rfl, by kernel_rfl, by kernel_rfl, by kernel_rfl⟩

-- 2 parameters, results [.t 4], 43 slots, modes [false, false]
@[simp] abbrev n_impl_Region_rowsText : Nat := 65
def c_impl_Region_rowsText_L0 : ACode := .seq (.reg [.o 22 (.bin .lss 0) [.t 21, .t 20]]) <| .seq (.cond (.t 22) ( .skip) ( .exit 2)) <|
 .seq (.block 3 ( .seq (.reg [.m 23 21, .m 8 23]) <| .reg [.m 24 7, .m 25 8, .m 26 1, .m 27 6, .f 28 0 2, .l 29 28, .o 30 (.bin .mul 0) [.t 27, .t 29], .m 31 8,
 .o 32 (.bin .add 0) [.t 30, .t 31], .o 33 (.callv []) [.t 26, .t 32], .o 34 (.iadr 1) [.t 24, .t 25], .s (.store 1) [.t 34, .t 33]])) <|
 .reg [.o 35 (.bin .add 0) [.t 21, .k 1], .m 21 35]

def c_impl_Region_rowsText_L1 : ACode := .seq (.seq (.reg [.m 12 6, .o 13 (.bin .geq 0) [.t 12, .k 0]]) <| .cond (.t 13) ( .skip) ( .exit 0)) <|
 .seq (.block 1 ( .seq (.reg [.f 16 0 2, .l 17 16, .o 18 (.mksl 1 1 (.v (.int .u8 (0)))) [.t 17, .t 17], .m 7 18]) <| .seq (.seq (.reg [.m 19 7, .n 20 19,
 .o 21 .mv [.k 0]]) <| .block 2 ( .loop [(5, 1), (7, 1)] [1, 2, 5, 6, 7, 20, 21] c_impl_Region_rowsText_L0)) <| .reg [.m 36 5, .m 37 7, .o 38 .str [.t 37],
 .o 39 (.bsl 1) [.t 38], .o 40 (.app 1 16 true) [.t 36, .t 39], .m 5 40])) <| .reg [.m 14 6, .o 15 (.bin .sub 0) [.t 14, .k 1], .m 6 15]

def c_impl_Region_rowsText : ACode := .seq (.reg [.o 2 .box [.t 0], .o 4 .mv [.c (.v (.string ⟨#[]⟩))]]) <| .seq (.reg [.o 5 .mv [.c (.os 1 [])]]) <|
 .seq (.seq (.reg [.f 9 1 2, .l 10 9, .o 11 (.bin .sub 0) [.t 10, .k 1], .m 6 11]) <| .block 0 ( .loop [(5, 1)] [1, 2, 5, 6] c_impl_Region_rowsText_L1)) <|
 .seq (.reg [.m 41 5, .o 42 (.call 87 []) [.t 41, .c (.v (.string ⟨#[47]⟩))], .m 4 42]) <| .ret

theorem k_impl_Region_rowsText : cFn Tryd.prog n_impl_Region_rowsText 43 [.t 4] c_impl_Region_rowsText := ⟨Tryd.f65, _, Tryd.func65, rfl, by kernel_rfl, by kernel_rfl, by kernel_rfl, by kernel_rfl⟩

-- 1 parameters, results [.t 2], 51 slots, modes [false]
@[simp] abbrev n_laws_FnPuzzleText : Nat := 8

def c_laws_FnPuzzleText : ACode := .seq (.reg [.o 2 .mv [.kb false]]) <| .seq (.seq (.reg [.m 9 0, .n 10 9, .o 11 (.bin .gtr 0) [.t 10, .k 1048576]]) <|
 .cond (.t 11) ( .seq (.reg [.o 2 .mv [.kb true]]) <| .ret) ( .skip)) <| .seq (.reg [.m 13 0, .o 14 (.call 33 []) [.t 13], .m 12 14, .e 15 0 12, .e 16 1 12,
 .o 3 (.alloc rz) [], .s (.store 3) [.t 3, .t 15], .m 4 16]) <| .seq (.reg [.la 17 3 3, .m 18 4, .o 19 (.call 34 []) [.t 17, .t 18], .m 5 19]) <|
 .seq (.seq (.reg [.m 20 5, .la 21 3 3, .m 22 4, .o 23 (.call 35 []) [.t 21, .t 22], .o 24 (.bin .neq 1) [.t 20, .t 23]]) <|
 .cond (.t 24) ( .seq (.reg [.o 2 .mv [.kb false]]) <| .ret) ( .skip)) <| .seq (.seq (.reg [.m 25 5, .o 26 (.bin .eql 1) [.t 25, .c (.v (.string ⟨#[]⟩))]]) <|
 .cond (.t 26) ( .seq (.reg [.la 27 3 3, .m 28 4, .o 29 (.call 36 []) [.t 27, .t 28], .o 30 (.un .not) [.t 29], .m 31 30, .g 32 (.call 37 []) [] 31 true,
 .o 33 .pick [.t 31, .t 32, .kb false], .m 2 33]) <| .ret) ( .skip)) <| .seq (.reg [.m 35 5, .o 36 (.call 19 []) [.t 35], .m 34 36, .e 37 0 34, .e 38 1 34,
 .e 39 2 34, .o 6 (.alloc rz) [], .s (.store 3) [.t 6, .t 37], .m 7 38, .m 8 39]) <| .seq (.reg [.m 40 8, .m 41 40, .g 42 (.load true 3) [.t 6] 41 true,
 .g 43 (.load true 3) [.t 3] 41 true, .g 44 (.call 38 []) [.t 42, .t 43] 41 true, .o 45 .pick [.t 41, .t 44, .kb false], .m 46 45, .mg 47 7 46 true,
 .mg 48 4 46 true, .g 49 (.call 39 []) [.t 47, .t 48] 46 true, .o 50 .pick [.t 46, .t 49, .kb false], .m 2 50]) <| .ret

theorem k_laws_FnPuzzleText : cFn Tryd.prog n_laws_FnPuzzleText 51 [.t 2] c_laws_FnPuzzleText := ⟨Tryd.f8, _, Tryd.func8, rfl, by kernel_rfl, by kernel_rfl, by kernel_rfl, by kernel_rfl⟩

-- 1 parameters, results [.t 2], 74 slots, modes [false]
@[simp] abbrev n_laws_FnReadPuzzle : Nat := 9

def c_laws_FnReadPuzzle : ACode := .seq (.reg [.o 2 .mv [.kb false]]) <| .seq (.seq (.reg [.m 13 0, .n 14 13, .o 15 (.bin .gtr 0) [.t 14, .k 1048576]]) <|
 .cond (.t 15) ( .seq (.reg [.o 2 .mv [.kb true]]) <| .ret) ( .skip)) <| .seq (.reg [.m 16 0, .o 17 (.call 40 []) [.t 16], .m 3 17]) <| .seq (.reg [.m 19 3,
 .o 20 (.call 19 []) [.t 19], .m 18 20, .e 21 0 18, .e 22 1 18, .e 23 2 18, .o 4 (.alloc rz) [], .s (.store 3) [.t 4, .t 21], .m 5 22, .m 6 23]) <|
 .seq (.reg [.m 25 3, .o 26 (.call 18 []) [.t 25], .m 24 26, .e 27 0 24, .e 28 1 24, .e 29 2 24, .o 7 (.alloc rz) [], .s (.store 3) [.t 7, .t 27], .m 8 28,
 .m 9 29]) <| .seq (.seq (.reg [.la 30 3 4, .la 31 3 7, .o 32 (.call 38 []) [.t 30, .t 31], .o 33 (.un .not) [.t 32], .m 34 33, .mg 35 5 34 false,
 .mg 36 8 34 false, .g 37 (.call 39 []) [.t 35, .t 36] 34 false, .g 38 (.un .not) [.t 37] 34 false, .o 39 .pick [.t 34, .kb true, .t 38], .m 40 39,
 .mg 41 6 40 false, .mg 42 9 40 false, .g 43 (.bin .neq 2) [.t 41, .t 42] 40 false, .o 44 .pick [.t 40, .kb true, .t 43]]) <|
 .cond (.t 44) ( .seq (.reg [.o 2 .mv [.kb false]]) <| .ret) ( .skip)) <| .seq (.seq (.reg [.m 45 6, .o 46 (.un .not) [.t 45]]) <|
 .cond (.t 46) ( .seq (.reg [.f 47 0 4, .l 48 47, .o 49 (.bin .eql 0) [.t 48, .k 0], .m 50 49, .mg 51 5 50 true, .g 52 (.len false) [.t 51] 50 true,
 .g 53 (.bin .eql 0) [.t 52, .k 0] 50 true, .o 54 .pick [.t 50, .t 53, .kb false], .m 55 54, .g 56 (.call 37 []) [] 55 true, .o 57 .pick [.t 55, .t 56,
 .kb false], .m 2 57]) <| .ret) ( .skip)) <| .seq (.reg [.m 59 3, .o 60 (.bin .add 1) [.t 59, .c (.v (.string ⟨#[47]⟩))], .o 61 (.call 19 []) [.t 60], .m 58 61,
 .e 62 0 58, .e 63 1 58, .e 64 2 58, .o 10 (.alloc rz) [], .s (.store 3) [.t 10, .t 62], .m 11 63, .m 12 64]) <| .seq (.reg [.la 65 3 4, .m 66 5,
 .o 67 (.call 34 []) [.t 65, .t 66], .m 68 3, .o 69 (.bin .eql 1) [.t 67, .t 68], .m 70 69, .mg 71 12 70 true, .g 72 (.un .not) [.t 71] 70 true,
 .o 73 .pick [.t 70, .t 72, .kb false], .m 2 73]) <| .ret

theorem k_laws_FnReadPuzzle : cFn Tryd.prog n_laws_FnReadPuzzle 74 [.t 2] c_laws_FnReadPuzzle := ⟨Tryd.f9, _, Tryd.func9, rfl, by kernel_rfl, by kernel_rfl, by kernel_rfl, by kernel_rfl⟩

end Go.Proofs.Dev

namespace Go.Proofs.Dev

-- 1 parameters, results [.c 2 true 3, .t 3], 9 slots, modes [false]
@[simp] abbrev n_spec_DrawPuzzleText : Nat := 33

def c_spec_DrawPuzzleText : ACode := .seq (.reg [.o 2 (.alloc rz) [], .o 3 .mv [.c (.os 1 [])]]) <| .seq (.reg [.m 4 0, .o 5 (.call 64 []) [.t 4],
 .o 6 (.call 63 []) [.t 5, .k 6], .e 7 0 6, .e 8 1 6, .s (.store 3) [.t 2, .t 7], .m 3 8]) <| .ret

theorem k_spec_DrawPuzzleText : cFn Tryd.prog n_spec_DrawPuzzleText 9 [.c 2 true 3, .t 3] c_spec_DrawPuzzleText := ⟨Tryd.f33, _, Tryd.func33, rfl, by kernel_rfl, by kernel_rfl, by kernel_rfl, by kernel_rfl⟩

-- 1 parameters, results [.t 2], 45 slots, modes [false]
@[simp] abbrev n_spec_DrawReadPuzzle : Nat := 40
def c_spec_DrawReadPuzzle_T0 : ACode := .seq (.reg [.m 44 6, .m 2 44]) <| .ret

abbrev c_spec_DrawReadPuzzle_p0 : Plan := .take (.o 36 (.iadr 1) [.t 33, .t 35]) <| .al (.l 37 36) ( .take (.o 38 (.bin .add 1) [.t 32, .t 37]) <| .take (.o 43 (.bin .add 1) [.t 38, .t 42]) <| .take (.m 2 43) <| .done)
def c_spec_DrawReadPuzzle : ACode := .seq (.reg [.o 2 .mv [.c (.v (.string ⟨#[]⟩))]]) <| .seq (.reg [.m 8 0, .o 9 (.call 64 []) [.t 8], .m 3 9]) <|
 .seq (.reg [.m 11 3, .o 12 (.call 63 []) [.t 11, .k 0], .m 10 12, .e 13 0 10, .e 14 1 10, .o 4 (.alloc rz) [], .s (.store 3) [.t 4, .t 13], .m 5 14]) <|
 .seq (.reg [.la 15 3 4, .m 16 5, .o 17 (.call 35 []) [.t 15, .t 16], .m 6 17]) <| .seq (.seq (.reg [.m 18 3, .o 19 (.call 73 []) [.t 18, .k 3],
 .o 20 (.bin .eql 0) [.t 19, .k 0], .m 21 20, .mg 22 6 21 true, .g 23 (.len true) [.t 22] 21 true, .g 24 (.bin .gtr 0) [.t 23, .k 0] 21 true, .o 25 .pick [.t 21,
 .t 24, .kb false]]) <| .cond (.t 25) ( .seq (.reg [.m 26 3, .m 27 6, .o 28 (.len true) [.t 27], .o 29 (.call 73 []) [.t 26, .t 28], .m 7 29]) <|
 .seq (.draw ( .take (.m 30 6) <| .take (.m 31 7) <| .take (.o 32 (.sslice false true) [.t 30, .t 31]) <| .take (.m 34 3) <| .take (.m 39 6) <|
 .take (.m 40 7) <| .take (.o 41 (.bin .add 0) [.t 40, .k 1]) <| .take (.o 42 (.sslice true false) [.t 39, .t 41]) <|
 .alt (.o 33 (.bsl 1) [.c (.v (.string ⟨#[]⟩)), .c (.v (.string ⟨#[48]⟩)), .c (.v (.string ⟨#[46]⟩)), .c (.v (.string ⟨#[47]⟩)),
 .c (.v (.string ⟨#[55]⟩))]) ( .al (.o 35 (.call 73 []) [.t 34, .k 5]) c_spec_DrawReadPuzzle_p0) <|
 .al (.o 35 (.call 73 []) [.t 34, .k 5]) ( .al (.o 33 (.bsl 1) [.c (.v (.string ⟨#[]⟩)), .c (.v (.string ⟨#[48]⟩)), .c (.v (.string ⟨#[46]⟩)),
 .c (.v (.string ⟨#[47]⟩)), .c (.v (.string ⟨#[55]⟩))]) c_spec_DrawReadPuzzle_p0))) <| .ret) ( .skip)) <| .gc [] [6] c_spec_DrawReadPuzzle_T0

theorem k_spec_DrawReadPuzzle : cFn Tryd.prog n_spec_DrawReadPuzzle 45 [.t 2] c_spec_DrawReadPuzzle := ⟨Tryd.f40, _, Tryd.func40, rfl, by kernel_rfl, by kernel_rfl, by kernel_rfl, by kernel_rfl⟩

end Go.Proofs.Dev

namespace Go.Proofs.Dev
set_option linter.unusedSimpArgs false
set_option maxRecDepth 100000

@[simp] def md0 (f : Nat) : List Bool := if f = 22 ∨ f = 23 ∨ f = 55 ∨ f = 999999 ∨ f = 999999 then [true, false] else if f = 999999 ∨ f = 999999 ∨ f = 999999 ∨ f = 999999 ∨ f = 999999 then [true] else []

def marksB (n : Nat) (k : Int) : List Bool := (List.range n).map fun (j : Nat) => (k + j) % 3 == 0
def marksI (n : Nat) (k : Int) : List Int := (List.range n).map fun (j : Nat) => k + j

@[simp] theorem marksI_length (n : Nat) (k : Int) : (marksI n k).length = n := by simp [marksI]
@[simp] theorem marksB_length (n : Nat) (k : Int) : (marksB n k).length = n := by simp [marksB]

@[simp] theorem take_marksI (n : Nat) (k : Int) : (ints (marksI n k)).take n = ints (marksI n k) := by
  have := take_ints_all (marksI n k)
  rwa [marksI_length] at this
@[simp] theorem take_marksB (n : Nat) (k : Int) : (bools (marksB n k)).take n = bools (marksB n k) := by
  have := take_bools_all (marksB n k)
  rwa [marksB_length] at this

end Go.Proofs.Dev

namespace Go.Proofs.Dev
set_option linter.unusedSimpArgs false
set_option maxRecDepth 100000

theorem s_spec_l1In (x lo hi : Int) : SoundAt Tryd.prog n_spec_l1In [.v (.int .i64 x), .v (.int .i64 lo), .v (.int .i64 hi)] (.v (.bool (decide (lo ≤ x ∧ x ≤ hi)))) [.bot, .bot, .bot] := by
  refine fn_ok (md := md0) (ms := [false, false, false]) k_spec_l1In (by simp) ?_
  simp [c_spec_l1In]
  constructor
  · intro h; simp [h]
  · intro h; omega

theorem s_spec_l1Count (bs : List Bool) (hb : bs.length < 2 ^ 40) : SoundAt Tryd.prog n_spec_l1Count [.sl 1 1 (bools bs)] (.v (.int .i64 (manyOf bs))) [.bot] := by
  refine fn_ok (md := md0) (ms := [false]) k_spec_l1Count (by simp) ?_
  simp [c_spec_l1Count]
  refine loop_by (fun m E H => ∃ i : Nat, m = bs.length - i ∧ i ≤ bs.length ∧ H = [] ∧ E = [(0, .sl 1 1 (bools bs)), (3, .v (.int .i64 (manyOf (bs.take i)))), (4, .v (.int .i64 i))]) bs.length ⟨0, by simp [manyOf]⟩ ?_
  rintro J hJ m E H ⟨i, rfl, hi, rfl, rfl⟩
  simp [c_spec_l1Count_L0]
  refine ⟨fun h => ?_, fun h => ?_⟩
  · have e := manyOf_take bs i h
    have e3 := manyOf_le (bs.take i)
    rw [List.length_take] at e3
    simp [h]
    refine ⟨fun hb => ⟨by omega, by omega, _, by omega, hJ _ _ _ ⟨i + 1, rfl, h, rfl, ?_⟩⟩, fun hb => ⟨by omega, _, by omega, hJ _ _ _ ⟨i + 1, rfl, h, rfl, ?_⟩⟩⟩ <;> simp [e, hb]
  · have : i = bs.length := by omega
    subst this
    simp

theorem s_spec_RegionValid (W T : Int) (cs : List Bool) (hb : cs.length < 2 ^ 40) : SoundAt Tryd.prog n_spec_RegionValid [.agg [.v (.int .i64 W), .v (.int .i64 T), .sl 1 1 (bools cs)]] (.v (.bool (regB W T cs))) [.bot] := by
  refine fn_ok (md := md0) (ms := [false]) k_spec_RegionValid (by simp) ?_
  simp [c_spec_RegionValid]
  refine call_on (s_spec_l1In W 1 6) ?_
  simp
  refine ⟨fun h h' => ?_, fun h => ?_⟩
  · refine call_on (s_spec_l1In T 1 6) ?_
    have hx : T ≤ 6 → W * T ≤ 36 ∧ (1 ≤ T → 1 ≤ W * T) := fun ht => ⟨(by
      by_cases h0 : 0 ≤ T
      · exact Int.mul_le_mul h' ht h0 (by omega)
      · have : W * T ≤ 0 := Int.mul_nonpos_of_nonneg_of_nonpos (by omega) (by omega)
        omega), fun h1 => Int.mul_pos (by omega) (by omega)⟩
    simp
    refine ⟨fun h1 h2 => ⟨by have := hx h2; omega, fun h3 => ?_, fun h3 => ?_⟩, fun h1 => ?_⟩
    · refine call_on (s_spec_l1Count cs hb) ?_
      simp [regB, h, h', h1, h2, h3]
      omega
    · simp [regB]; omega
    · simp [regB]; omega
  · simp [regB]; omega

theorem s_spec_l2Back (n : Int) (h : 0 ≤ n) (h2 : n < 2 ^ 60) : SoundAt Tryd.prog n_spec_l2Back [.v (.int .i64 n)] (.v (.int .i64 (backI n))) [.bot] := by
  refine fn_ok (md := md0) (ms := [false]) k_spec_l2Back (by simp) ?_
  simp [c_spec_l2Back, backI]
  omega

theorem s_spec_l2Step (W T : Int) (cs : List Bool) (k way : Int) (hr : regB W T cs = true) (h0 : 0 ≤ k) (h1 : k < cs.length) :
    SoundAt Tryd.prog n_spec_l2Step [.agg [.v (.int .i64 W), .v (.int .i64 T), .sl 1 1 (bools cs)], .v (.int .i64 k), .v (.int .i64 way)] (.v (.int .i64 (stepI W T k way))) [.bot, .bot, .bot] := by
  refine fn_ok (md := md0) (ms := [false, false, false]) k_spec_l2Step (by simp) ?_
  obtain ⟨w1, w2, t1, t2, l1, _⟩ := regB_W hr
  have hl := regB_len hr
  have hxy := cell_xy (T := T) (k := k) w1 h0 (by omega)
  have e1 : stepI W T k way = if way = 1 ∧ k % W < W - 1 then k + 1 else if way = 2 ∧ k / W < T - 1 then k + W else if way = 3 ∧ 0 < k % W then k - 1 else if way = 4 ∧ 0 < k / W then k - W else -1 := rfl
  rw [e1]
  clear e1 hr
  generalize hA : k % W = A at *
  generalize hB : k / W = B at *
  by_cases c1 : way = 1
  · subst c1; simp [c_spec_l2Step, hA, hB]; omega
  by_cases c2 : way = 2
  · subst c2; simp [c_spec_l2Step, hA, hB]; omega
  by_cases c3 : way = 3
  · subst c3; simp [c_spec_l2Step, hA, hB]; omega
  by_cases c4 : way = 4
  · subst c4; simp [c_spec_l2Step, hA, hB]; omega
  simp [c_spec_l2Step, c1, c2, c3, c4]

end Go.Proofs.Dev

namespace Go.Proofs.Dev
set_option linter.unusedSimpArgs false
set_option maxRecDepth 100000

theorem s_spec_PuzzleValid (W T : Int) (cs : List Bool) (ds : List Int) (hb : cs.length < 2 ^ 40) (hd : ds.length < 2 ^ 40) :
    SoundAt Tryd.prog n_spec_PuzzleValid [.agg [.v (.int .i64 W), .v (.int .i64 T), .sl 1 1 (bools cs)], .sl 1 1 (ints ds)] (.v (.bool (regB W T cs && digsB cs ds))) [.bot, .bot] := by
  refine fn_ok (md := md0) (ms := [false, false]) k_spec_PuzzleValid (by simp) ?_
  simp [c_spec_PuzzleValid]
  refine call_on (s_spec_RegionValid W T cs hb) ?_
  simp
  refine ⟨fun hr => ⟨fun hl => ?_, fun hl => ?_⟩, fun hr => ?_⟩
  · intro _
    simp [digsB]; omega
  · have hl' : ds.length = cs.length := by omega
    refine loop_by (fun m E H => ∃ i : Nat, m = ds.length - i ∧ i ≤ ds.length ∧ allB i (fun k => digAt cs ds k) = true ∧ H = [some (.box [.v (.int .i64 W), .v (.int .i64 T), .sl 1 1 (bools cs)])] ∧ E = [(1, .sl 1 1 (ints ds)), (2, .lp 0 0 0 0), (5, .v (.int .i64 i))]) ds.length ⟨0, by simp [allB_zero]⟩ ?_
    rintro J hJ m E H ⟨i, rfl, hi, ha, rfl, rfl⟩
    by_cases h : i < ds.length
    · have h2 : i < cs.length := by omega
      have next : digAt cs ds i = true → again J (ds.length - i) [(1, .sl 1 1 (ints ds)), (2, .lp 0 0 0 0), (5, .v (.int .i64 (i + 1)))] [some (.box [.v (.int .i64 W), .v (.int .i64 T), .sl 1 1 (bools cs)])] :=
        fun hd => ⟨_, by omega, hJ _ _ _ ⟨i + 1, rfl, h, by rw [allB_succ, ha, hd]; rfl, rfl, rfl⟩⟩
      have stop : digAt cs ds i = false → digsB cs ds = false := fun hd => by simp only [digsB, hl', decide_true, Bool.true_and]; exact allB_false h2 hd
      cases hc : atb cs i with
      | true =>
        simp [c_spec_PuzzleValid_L0, h, h2, hc]
        refine call_on (s_spec_l1In (ati ds i) 0 6) ?_
        simp [digAt, hc] at next stop ⊢
        (repeat' first | assumption | omega | apply And.intro | intro _) <;> first | omega | exact stop (by omega) | exact next (by omega) (by omega)
      | false =>
        simp [c_spec_PuzzleValid_L0, h, h2, hc]
        simp [digAt, hc] at next stop ⊢
        exact ⟨fun hx => fun _ => stop hx, fun hx => ⟨by omega, next hx⟩⟩
    · have : i = ds.length := by omega
      subst this
      simp [c_spec_PuzzleValid_L0]
      simp [digsB, hr, hl'] at ha ⊢
      exact ha
  · simp [hr]

end Go.Proofs.Dev
