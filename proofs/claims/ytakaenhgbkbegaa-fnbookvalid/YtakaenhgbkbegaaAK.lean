/- Contracts of the functions of the program over slots and rows, each proved against the program itself; no condition beyond those that each theorem names. -/
import Derived.Test.YtakaenhgbkbegaaRows
import Derived.ProofKit
import Derived.Test.YtakaenhgbkbegaaAH
import Derived.Test.YtakaenhgbkbegaaProg

set_option linter.unusedSimpArgs false
set_option linter.unusedVariables false

namespace Go.Proofs.Ytakaenhgbkbegaa
theorem fact_mayEnter : Try.prog.mayEnter = true := by kernel_rfl
theorem fact_make : Try.prog.make = some .cut := by kernel_rfl
theorem fact_liftsFinal : Try.prog.liftsFinal = false := by kernel_rfl
end Go.Proofs.Ytakaenhgbkbegaa

namespace Go.Proofs.Ytakaenhgbkbegaa
open Go.ChangeShapes Go.WideShapes Go.ChangeAt Go.RowKit Go.Proofs.Dev

theorem own : ownKnob Try.prog.godebug = none := by kernel_rfl
theorem laidOut : laidOutB Try.prog = true := by kernel_rfl
theorem cells5 : Try.prog.cellsOf 5 = 1 := by kernel_rfl
theorem readable22 : Try.prog.readableRec 22 = true := by kernel_rfl

theorem RL.cons0 {C : Ctx} {a : AV} {bs : List AV} {u : Value} {us : List Value} (h : R C a [] u) (h' : RL C bs [] us) : RL C (a :: bs) [] (u :: us) := by
  rw [RL]; exact ⟨[], [], u, us, rfl, rfl, h, h'⟩
theorem RL.nil0 {C : Ctx} : RL C [] [] [] := by rw [RL]; exact ⟨rfl, rfl⟩

/-- What holds of bytes that may be kept holds of bytes that are read alone. -/
theorem byte_law {P : Program} {f : Nat} {bs : List Int} (h : SoundAt P f [.sl 0 1 (u8s bs)] (.v (.bool true)) [.bot]) : SoundAt P f [.sl 1 1 (u8s bs)] (.v (.bool true)) [.bot] := by
  refine SoundAt.lift (n := 1) (fun C S us hr => noOL_ok _ S us (noOL_u8s 1 bs) hr) rfl ?_
  have e : vwL 0 [AV.sl 1 1 (u8s bs)] = [AV.sl 0 1 (u8s bs)] := by simp [vwL, vw]
  rw [e]
  exact h
end Go.Proofs.Ytakaenhgbkbegaa

namespace Go.Proofs.Dev

-- 3 parameters, results [.t 6], 15 slots, modes [false, false, false]
@[simp] abbrev n_spec_l1In : Nat := 55

def c_spec_l1In : ACode := .seq (.reg [.o 6 .mv [.kb false]]) <| .seq (.reg [.m 7 0, .m 8 1, .o 9 (.bin .geq 0) [.t 7, .t 8], .m 10 9, .mg 11 0 10 true,
 .mg 12 2 10 true, .g 13 (.bin .leq 0) [.t 11, .t 12] 10 true, .o 14 .pick [.t 10, .t 13, .kb false], .m 6 14]) <| .ret

theorem k_spec_l1In : cFn Try.prog n_spec_l1In 15 [.t 6] c_spec_l1In := ⟨Try.f55, _, Try.func55, rfl, by kernel_rfl, by kernel_rfl, by kernel_rfl, by kernel_rfl⟩

-- 1 parameters, results [.t 2], 18 slots, modes [false]
@[simp] abbrev n_spec_l1Count : Nat := 77
def c_spec_l1Count_L0 : ACode := .seq (.seq (.reg [.m 5 4, .m 6 0, .n 7 6, .o 8 (.bin .lss 0) [.t 5, .t 7]]) <| .cond (.t 8) ( .skip) ( .exit 0)) <|
 .seq (.block 1 ( .seq (.reg [.m 11 0, .m 12 4, .o 13 (.iadr 1) [.t 11, .t 12], .l 14 13]) <| .cond (.t 14) ( .reg [.m 15 3, .o 16 (.bin .add 0) [.t 15, .k 1],
 .m 3 16]) ( .skip))) <| .reg [.m 9 4, .o 10 (.bin .add 0) [.t 9, .k 1], .m 4 10]

def c_spec_l1Count : ACode := .seq (.reg [.o 2 .mv [.k 0]]) <| .seq (.reg [.o 3 .mv [.k 0]]) <| .seq (.seq (.reg [.o 4 .mv [.k 0]]) <| .block 0 ( .loop [(0,
 1)] [0, 3, 4] c_spec_l1Count_L0)) <| .seq (.reg [.m 17 3, .m 2 17]) <| .ret

theorem k_spec_l1Count : cFn Try.prog n_spec_l1Count 18 [.t 2] c_spec_l1Count := ⟨Try.f77, _, Try.func77, rfl, by kernel_rfl, by kernel_rfl, by kernel_rfl, by kernel_rfl⟩

-- 1 parameters, results [.t 2], 28 slots, modes [false]
@[simp] abbrev n_spec_RegionValid : Nat := 54

def c_spec_RegionValid : ACode := .seq (.reg [.o 1 .box [.t 0], .o 2 .mv [.kb false]]) <| .seq (.reg [.f 3 0 1, .l 4 3, .o 5 (.call 55 []) [.t 4, .k 1, .k 6],
 .m 6 5, .fg 7 1 1 6 true, .lg 8 7 6 true, .g 9 (.call 55 []) [.t 8, .k 1, .k 6] 6 true, .o 10 .pick [.t 6, .t 9, .kb false], .m 11 10, .fg 12 2 1 11 true,
 .lg 13 12 11 true, .g 14 (.len false) [.t 13] 11 true, .fg 15 0 1 11 true, .lg 16 15 11 true, .fg 17 1 1 11 true, .lg 18 17 11 true, .g 19 (.bin .mul 0) [.t 16,
 .t 18] 11 true, .g 20 (.bin .eql 0) [.t 14, .t 19] 11 true, .o 21 .pick [.t 11, .t 20, .kb false], .m 22 21, .fg 23 2 1 22 true, .lg 24 23 22 true,
 .g 25 (.call 77 []) [.t 24] 22 true, .g 26 (.bin .leq 0) [.t 25, .k 24] 22 true, .o 27 .pick [.t 22, .t 26, .kb false], .m 2 27]) <| .ret

theorem k_spec_RegionValid : cFn Try.prog n_spec_RegionValid 28 [.t 2] c_spec_RegionValid := ⟨Try.f54, _, Try.func54, rfl, by kernel_rfl, by kernel_rfl, by kernel_rfl, by kernel_rfl⟩

-- 2 parameters, results [.t 4], 51 slots, modes [false, false]
@[simp] abbrev n_spec_PuzzleValid : Nat := 26
def c_spec_PuzzleValid_L0 : ACode := .seq (.seq (.reg [.m 17 5, .m 18 1, .n 19 18, .o 20 (.bin .lss 0) [.t 17, .t 19]]) <| .cond (.t 20) ( .skip) ( .exit 0)) <|
 .seq (.block 1 ( .seq (.reg [.f 23 2 2, .l 24 23, .m 25 5, .o 26 (.iadr 1) [.t 24, .t 25], .l 27 26, .m 28 27, .mg 29 1 28 true, .mg 30 5 28 true,
 .g 31 (.iadr 1) [.t 29, .t 30] 28 true, .lg 32 31 28 true, .g 33 (.call 55 []) [.t 32, .k 0, .k 6] 28 true, .g 34 (.un .not) [.t 33] 28 true,
 .o 35 .pick [.t 28, .t 34, .kb false], .m 36 35, .fg 37 2 2 36 false, .lg 38 37 36 false, .mg 39 5 36 false, .g 40 (.iadr 1) [.t 38, .t 39] 36 false,
 .lg 41 40 36 false, .g 42 (.un .not) [.t 41] 36 false, .mg 43 42 36 false, .mg 44 1 43 true, .mg 45 5 43 true, .g 46 (.iadr 1) [.t 44, .t 45] 43 true,
 .lg 47 46 43 true, .g 48 (.bin .neq 0) [.t 47, .k (-1)] 43 true, .g 49 .pick [.t 43, .t 48, .kb false] 36 false, .o 50 .pick [.t 36, .kb true, .t 49]]) <|
 .cond (.t 50) ( .seq (.reg [.o 4 .mv [.kb false]]) <| .ret) ( .skip))) <| .reg [.m 21 5, .o 22 (.bin .add 0) [.t 21, .k 1], .m 5 22]

def c_spec_PuzzleValid : ACode := .seq (.reg [.o 2 .box [.t 0], .o 4 .mv [.kb false]]) <| .seq (.seq (.reg [.la 6 3 2, .o 7 (.call 54 []) [.t 6],
 .o 8 (.un .not) [.t 7], .m 9 8, .mg 10 1 9 false, .g 11 (.len false) [.t 10] 9 false, .fg 12 2 2 9 false, .lg 13 12 9 false, .g 14 (.len false) [.t 13] 9 false,
 .g 15 (.bin .neq 0) [.t 11, .t 14] 9 false, .o 16 .pick [.t 9, .kb true, .t 15]]) <| .cond (.t 16) ( .seq (.reg [.o 4 .mv [.kb false]]) <| .ret) ( .skip)) <|
 .seq (.seq (.reg [.o 5 .mv [.k 0]]) <| .block 0 ( .loop [(1, 1)] [1, 2, 5] c_spec_PuzzleValid_L0)) <| .seq (.reg [.o 4 .mv [.kb true]]) <| .ret

theorem k_spec_PuzzleValid : cFn Try.prog n_spec_PuzzleValid 51 [.t 4] c_spec_PuzzleValid := ⟨Try.f26, _, Try.func26, rfl, by kernel_rfl, by kernel_rfl, by kernel_rfl, by kernel_rfl⟩

-- 3 parameters, results [.t 6], 65 slots, modes [false, false, false]
@[simp] abbrev n_spec_l2Step : Nat := 56

def c_spec_l2Step : ACode := .seq (.reg [.o 3 .box [.t 0], .o 6 .mv [.k 0]]) <| .seq (.block 0 ( .seq (.draw ( .take (.m 8 2) <|
 .take (.o 9 (.bin .eql 0) [.t 8, .k 1]) <| .take (.m 10 9) <| .take (.mg 11 1 10 true) <| .take (.fg 12 0 3 10 true) <| .take (.fg 15 0 3 10 true) <|
 .alt (.lg 13 12 10 true) ( .take (.g 14 (.bin .rem 0) [.t 11, .t 13] 10 true) <| .al (.lg 16 15 10 true) ( .take (.g 17 (.bin .sub 0) [.t 16, .k 1] 10 true) <|
 .take (.g 18 (.bin .lss 0) [.t 14, .t 17] 10 true) <| .take (.o 19 .pick [.t 10, .t 18, .kb false]) <| .take (.m 7 19) <| .done)) <|
 .al (.lg 16 15 10 true) ( .take (.g 17 (.bin .sub 0) [.t 16, .k 1] 10 true) <| .al (.lg 13 12 10 true) ( .take (.g 14 (.bin .rem 0) [.t 11, .t 13] 10 true) <|
 .take (.g 18 (.bin .lss 0) [.t 14, .t 17] 10 true) <| .take (.o 19 .pick [.t 10, .t 18, .kb false]) <| .take (.m 7 19) <| .done)))) <|
 .cond (.t 7) ( .seq (.reg [.m 20 1, .o 21 (.bin .add 0) [.t 20, .k 1], .m 6 21]) <| .ret) ( .seq (.draw ( .take (.m 23 2) <| .take (.o 24 (.bin .eql 0) [.t 23,
 .k 2]) <| .take (.m 25 24) <| .take (.mg 26 1 25 true) <| .take (.fg 27 0 3 25 true) <| .take (.fg 30 1 3 25 true) <|
 .alt (.lg 28 27 25 true) ( .take (.g 29 (.bin .quo 0) [.t 26, .t 28] 25 true) <| .al (.lg 31 30 25 true) ( .take (.g 32 (.bin .sub 0) [.t 31, .k 1] 25 true) <|
 .take (.g 33 (.bin .lss 0) [.t 29, .t 32] 25 true) <| .take (.o 34 .pick [.t 25, .t 33, .kb false]) <| .take (.m 22 34) <| .done)) <|
 .al (.lg 31 30 25 true) ( .take (.g 32 (.bin .sub 0) [.t 31, .k 1] 25 true) <| .al (.lg 28 27 25 true) ( .take (.g 29 (.bin .quo 0) [.t 26, .t 28] 25 true) <|
 .take (.g 33 (.bin .lss 0) [.t 29, .t 32] 25 true) <| .take (.o 34 .pick [.t 25, .t 33, .kb false]) <| .take (.m 22 34) <| .done)))) <|
 .cond (.t 22) ( .seq (.reg [.m 35 1, .f 36 0 3, .l 37 36, .o 38 (.bin .add 0) [.t 35, .t 37], .m 6 38]) <| .ret) ( .seq (.reg [.m 40 2,
 .o 41 (.bin .eql 0) [.t 40, .k 3], .m 42 41, .mg 43 1 42 true, .fg 44 0 3 42 true, .lg 45 44 42 true, .g 46 (.bin .rem 0) [.t 43, .t 45] 42 true,
 .g 47 (.bin .gtr 0) [.t 46, .k 0] 42 true, .o 48 .pick [.t 42, .t 47, .kb false], .m 39 48]) <| .cond (.t 39) ( .seq (.reg [.m 49 1, .o 50 (.bin .sub 0) [.t 49,
 .k 1], .m 6 50]) <| .ret) ( .seq (.reg [.m 52 2, .o 53 (.bin .eql 0) [.t 52, .k 4], .m 54 53, .mg 55 1 54 true, .fg 56 0 3 54 true, .lg 57 56 54 true,
 .g 58 (.bin .quo 0) [.t 55, .t 57] 54 true, .g 59 (.bin .gtr 0) [.t 58, .k 0] 54 true, .o 60 .pick [.t 54, .t 59, .kb false], .m 51 60]) <|
 .cond (.t 51) ( .seq (.reg [.m 61 1, .f 62 0 3, .l 63 62, .o 64 (.bin .sub 0) [.t 61, .t 63], .m 6 64]) <| .ret) ( .skip)))))) <|
 .seq (.reg [.o 6 .mv [.k (-1)]]) <| .ret

theorem k_spec_l2Step : cFn Try.prog n_spec_l2Step 65 [.t 6] c_spec_l2Step := ⟨Try.f56, _, Try.func56, rfl, by kernel_rfl, by kernel_rfl, by kernel_rfl, by kernel_rfl⟩

-- 1 parameters, results [.t 2], 7 slots, modes [false]
@[simp] abbrev n_spec_l2Back : Nat := 57

def c_spec_l2Back : ACode := .seq (.reg [.o 2 .mv [.k 0]]) <| .seq (.reg [.m 3 0, .o 4 (.bin .add 0) [.t 3, .k 1], .o 5 (.bin .rem 0) [.t 4, .k 4],
 .o 6 (.bin .add 0) [.t 5, .k 1], .m 2 6]) <| .ret

theorem k_spec_l2Back : cFn Try.prog n_spec_l2Back 7 [.t 2] c_spec_l2Back := ⟨Try.f57, _, Try.func57, rfl, by kernel_rfl, by kernel_rfl, by kernel_rfl, by kernel_rfl⟩

-- 2 parameters, results [.t 4], 72 slots, modes [false, false]
@[simp] abbrev n_spec_LaidOk : Nat := 27
abbrev c_spec_LaidOk_L0_p0 : Plan := .take (.g 70 (.bin .neq 0) [.t 64, .t 69] 60 false) <| .take (.o 71 .pick [.t 60, .kb true, .t 70]) <| .done
abbrev c_spec_LaidOk_L0_p1 : Plan := .al (.o 49 (.call 56 []) [.t 43, .t 44, .t 48]) ( .take (.m 6 49) <| .done)
abbrev c_spec_LaidOk_L0_p2 : Plan := .al (.g 69 (.call 57 []) [.t 68] 60 false) c_spec_LaidOk_L0_p0
def c_spec_LaidOk_L0 : ACode := .seq (.seq (.reg [.m 18 5, .m 19 1, .n 20 19, .o 21 (.bin .lss 0) [.t 18, .t 20]]) <| .cond (.t 21) ( .skip) ( .exit 0)) <|
 .seq (.block 1 ( .seq (.seq (.reg [.m 24 1, .m 25 5, .o 26 (.iadr 1) [.t 24, .t 25], .l 27 26, .o 28 (.bin .eql 0) [.t 27, .k 0]]) <|
 .cond (.t 28) ( .exit 1) ( .skip)) <| .seq (.seq (.reg [.m 29 1, .m 30 5, .o 31 (.iadr 1) [.t 29, .t 30], .l 32 31, .o 33 (.call 55 []) [.t 32, .k 1, .k 4],
 .o 34 (.un .not) [.t 33], .m 35 34, .fg 36 2 2 35 false, .lg 37 36 35 false, .mg 38 5 35 false, .g 39 (.iadr 1) [.t 37, .t 38] 35 false, .lg 40 39 35 false,
 .g 41 (.un .not) [.t 40] 35 false, .o 42 .pick [.t 35, .kb true, .t 41]]) <| .cond (.t 42) ( .seq (.reg [.o 4 .mv [.kb false]]) <| .ret) ( .skip)) <|
 .seq (.draw ( .take (.m 44 5) <| .take (.m 45 1) <| .take (.m 46 5) <| .take (.o 47 (.iadr 1) [.t 45, .t 46]) <|
 .alt (.la 43 3 2) ( .al (.l 48 47) c_spec_LaidOk_L0_p1) <|
 .al (.l 48 47) ( .al (.la 43 3 2) c_spec_LaidOk_L0_p1))) <| .seq (.draw ( .take (.m 50 6) <|
 .take (.o 51 (.bin .lss 0) [.t 50, .k 0]) <| .take (.m 52 51) <| .take (.fg 53 2 2 52 false) <| .take (.mg 55 6 52 false) <|
 .al (.lg 54 53 52 false) ( .take (.g 56 (.iadr 1) [.t 54, .t 55] 52 false) <| .al (.lg 57 56 52 false) ( .take (.g 58 (.un .not) [.t 57] 52 false) <|
 .take (.o 59 .pick [.t 52, .kb true, .t 58]) <| .take (.m 60 59) <| .take (.mg 61 1 60 false) <| .take (.mg 62 6 60 false) <| .take (.g 63 (.iadr 1) [.t 61,
 .t 62] 60 false) <| .take (.mg 65 1 60 false) <| .take (.mg 66 5 60 false) <| .take (.g 67 (.iadr 1) [.t 65, .t 66] 60 false) <|
 .alt (.lg 64 63 60 false) ( .al (.lg 68 67 60 false) c_spec_LaidOk_L0_p2) <|
 .al (.lg 68 67 60 false) ( .alt (.lg 64 63 60 false) c_spec_LaidOk_L0_p2 <|
 .al (.g 69 (.call 57 []) [.t 68] 60 false) ( .al (.lg 64 63 60 false) c_spec_LaidOk_L0_p0)))))) <| .cond (.t 71) ( .seq (.reg [.o 4 .mv [.kb false]]) <| .ret) ( .skip))) <| .reg [.m 22 5, .o 23 (.bin .add 0) [.t 22, .k 1],
 .m 5 23]

def c_spec_LaidOk : ACode := .seq (.reg [.o 2 .box [.t 0], .o 4 .mv [.kb false]]) <| .seq (.seq (.reg [.la 7 3 2, .o 8 (.call 54 []) [.t 7],
 .o 9 (.un .not) [.t 8], .m 10 9, .mg 11 1 10 false, .g 12 (.len false) [.t 11] 10 false, .fg 13 2 2 10 false, .lg 14 13 10 false,
 .g 15 (.len false) [.t 14] 10 false, .g 16 (.bin .neq 0) [.t 12, .t 15] 10 false, .o 17 .pick [.t 10, .kb true, .t 16]]) <|
 .cond (.t 17) ( .seq (.reg [.o 4 .mv [.kb false]]) <| .ret) ( .skip)) <| .seq (.seq (.reg [.o 5 .mv [.k 0]]) <| .block 0 ( .loop [(1, 1)] [1, 2,
 5] c_spec_LaidOk_L0)) <| .seq (.reg [.o 4 .mv [.kb true]]) <| .ret

theorem k_spec_LaidOk : cFn Try.prog n_spec_LaidOk 72 [.t 4] c_spec_LaidOk := ⟨Try.f27, _, Try.func27, rfl, by kernel_rfl, by kernel_rfl, by kernel_rfl, by kernel_rfl⟩

-- 2 parameters, results [.t 4], 21 slots, modes [false, false]
@[simp] abbrev n_spec_PairOf : Nat := 59

def c_spec_PairOf : ACode := .seq (.reg [.o 4 .mv [.k 0]]) <| .seq (.seq (.reg [.m 5 0, .o 6 (.call 55 []) [.t 5, .k 0, .k 6], .o 7 (.un .not) [.t 6], .m 8 7,
 .mg 9 1 8 false, .g 10 (.call 55 []) [.t 9, .k 0, .k 6] 8 false, .g 11 (.un .not) [.t 10] 8 false, .o 12 .pick [.t 8, .kb true, .t 11]]) <|
 .cond (.t 12) ( .seq (.reg [.o 4 .mv [.k (-1)]]) <| .ret) ( .skip)) <| .seq (.reg [.m 13 0, .m 14 1, .o 15 (.mnx true) [.t 13, .t 14],
 .o 16 (.bin .mul 0) [.k 7, .t 15], .m 17 0, .m 18 1, .o 19 (.mnx false) [.t 17, .t 18], .o 20 (.bin .add 0) [.t 16, .t 19], .m 4 20]) <| .ret

theorem k_spec_PairOf : cFn Try.prog n_spec_PairOf 21 [.t 4] c_spec_PairOf := ⟨Try.f59, _, Try.func59, rfl, by kernel_rfl, by kernel_rfl, by kernel_rfl, by kernel_rfl⟩

-- 3 parameters, results [.t 6], 57 slots, modes [false, false, false]
@[simp] abbrev n_spec_PairsOf : Nat := 29
abbrev c_spec_PairsOf_L0_p0 : Plan := .al (.o 53 (.call 59 []) [.t 42, .t 52]) ( .al (.o 54 (.bsl 1) [.t 53]) ( .al (.o 55 (.app 1 8 true) [.t 38, .t 54]) ( .take (.m 7 55) <| .done)))
abbrev c_spec_PairsOf_L0_p1 : Plan := .al (.o 50 (.call 56 []) [.t 44, .t 45, .t 49]) ( .take (.o 51 (.iadr 1) [.t 43, .t 50]) <| .al (.l 52 51) c_spec_PairsOf_L0_p0)
abbrev c_spec_PairsOf_L0_p2 : Plan := .alt (.l 42 41) c_spec_PairsOf_L0_p1 <| .al (.o 50 (.call 56 []) [.t 44, .t 45, .t 49]) ( .take (.o 51 (.iadr 1) [.t 43, .t 50]) <| .alt (.l 42 41) ( .al (.l 52 51) c_spec_PairsOf_L0_p0) <| .al (.l 52 51) ( .al (.l 42 41) c_spec_PairsOf_L0_p0))
def c_spec_PairsOf_L0 : ACode := .seq (.seq (.reg [.m 10 8, .m 11 2, .n 12 11, .o 13 (.bin .lss 0) [.t 10, .t 12], .m 14 13,
 .g 15 (.load true 3) [.t 3] 14 true, .mg 16 1 14 true, .g 17 (.call 26 []) [.t 15, .t 16] 14 true, .o 18 .pick [.t 14, .t 17, .kb false], .m 19 18,
 .g 20 (.load true 3) [.t 3] 19 true, .mg 21 2 19 true, .g 22 (.call 27 []) [.t 20, .t 21] 19 true, .o 23 .pick [.t 19, .t 22, .kb false]]) <|
 .cond (.t 23) ( .skip) ( .exit 0)) <| .seq (.block 1 ( .seq (.reg [.m 26 2, .m 27 8, .o 28 (.iadr 1) [.t 26, .t 27], .l 29 28, .o 30 (.bin .eql 0) [.t 29,
 .k 1], .m 31 30, .mg 32 2 31 false, .mg 33 8 31 false, .g 34 (.iadr 1) [.t 32, .t 33] 31 false, .lg 35 34 31 false, .g 36 (.bin .eql 0) [.t 35, .k 2] 31 false,
 .o 37 .pick [.t 31, .kb true, .t 36]]) <| .cond (.t 37) ( .draw ( .take (.m 38 7) <| .take (.m 39 1) <| .take (.m 40 8) <| .take (.o 41 (.iadr 1) [.t 39,
 .t 40]) <| .take (.m 43 1) <| .take (.m 45 8) <| .take (.m 46 2) <| .take (.m 47 8) <| .take (.o 48 (.iadr 1) [.t 46, .t 47]) <|
 .alt (.l 42 41) ( .alt (.la 44 3 3) ( .al (.l 49 48) c_spec_PairsOf_L0_p1) <| .al (.l 49 48) ( .al (.la 44 3 3) c_spec_PairsOf_L0_p1)) <| .alt (.la 44 3 3) ( .alt (.l 42 41) ( .al (.l 49 48) c_spec_PairsOf_L0_p1) <| .al (.l 49 48) c_spec_PairsOf_L0_p2) <|
 .al (.l 49 48) ( .alt (.l 42 41) ( .al (.la 44 3 3) c_spec_PairsOf_L0_p1) <| .al (.la 44 3 3) c_spec_PairsOf_L0_p2))) ( .skip))) <| .reg [.m 24 8,
 .o 25 (.bin .add 0) [.t 24, .k 1], .m 8 25]

def c_spec_PairsOf : ACode := .seq (.reg [.o 3 .box [.t 0], .o 6 .mv [.c (.os 1 [])]]) <| .seq (.reg [.o 9 (.bsl 1) [], .m 7 9]) <|
 .seq (.seq (.reg [.o 8 .mv [.k 0]]) <| .block 0 ( .loop [(1, 1), (2, 1), (7, 1)] [1, 2, 3, 7, 8] c_spec_PairsOf_L0)) <| .seq (.reg [.m 56 7, .m 6 56]) <| .ret

theorem k_spec_PairsOf : cFn Try.prog n_spec_PairsOf 57 [.t 6] c_spec_PairsOf := ⟨Try.f29, _, Try.func29, rfl, by kernel_rfl, by kernel_rfl, by kernel_rfl, by kernel_rfl⟩

-- 3 parameters, results [.t 6], 15 slots, modes [false, false, false]
@[simp] abbrev n_impl_in : Nat := 32

def c_impl_in : ACode := .seq (.reg [.o 6 .mv [.kb false]]) <| .seq (.reg [.m 7 0, .m 8 1, .o 9 (.bin .geq 0) [.t 7, .t 8], .m 10 9, .mg 11 0 10 true,
 .mg 12 2 10 true, .g 13 (.bin .leq 0) [.t 11, .t 12] 10 true, .o 14 .pick [.t 10, .t 13, .kb false], .m 6 14]) <| .ret

theorem k_impl_in : cFn Try.prog n_impl_in 15 [.t 6] c_impl_in := ⟨Try.f32, _, Try.func32, rfl, by kernel_rfl, by kernel_rfl, by kernel_rfl, by kernel_rfl⟩

-- 1 parameters, results [.t 2], 17 slots, modes [false]
@[simp] abbrev n_impl_many : Nat := 31
def c_impl_many_L0 : ACode := .seq (.reg [.o 9 (.bin .lss 0) [.t 8, .t 7]]) <| .seq (.cond (.t 9) ( .skip) ( .exit 0)) <|
 .seq (.block 1 ( .seq (.reg [.o 10 (.iadr 1) [.t 6, .t 8], .l 11 10, .m 5 11]) <| .seq (.reg [.m 12 5]) <| .cond (.t 12) ( .reg [.m 13 3,
 .o 14 (.bin .add 0) [.t 13, .k 1], .m 3 14]) ( .skip))) <| .reg [.o 15 (.bin .add 0) [.t 8, .k 1], .m 8 15]

def c_impl_many : ACode := .seq (.reg [.o 2 .mv [.k 0]]) <| .seq (.reg [.o 3 .mv [.k 0]]) <| .seq (.seq (.reg [.m 6 0, .n 7 6, .o 8 .mv [.k 0]]) <|
 .block 0 ( .loop [(6, 1)] [3, 6, 7, 8] c_impl_many_L0)) <| .seq (.reg [.m 16 3, .m 2 16]) <| .ret

theorem k_impl_many : cFn Try.prog n_impl_many 17 [.t 2] c_impl_many := ⟨Try.f31, _, Try.func31, rfl, by kernel_rfl, by kernel_rfl, by kernel_rfl, by kernel_rfl⟩

-- 1 parameters, results [.t 2], 28 slots, modes [false]
@[simp] abbrev n_impl_RegionValid : Nat := 30

def c_impl_RegionValid : ACode := .seq (.reg [.o 1 .box [.t 0], .o 2 .mv [.kb false]]) <| .seq (.reg [.f 3 0 1, .l 4 3, .o 5 (.call 32 []) [.t 4, .k 1, .k 6],
 .m 6 5, .fg 7 1 1 6 true, .lg 8 7 6 true, .g 9 (.call 32 []) [.t 8, .k 1, .k 6] 6 true, .o 10 .pick [.t 6, .t 9, .kb false], .m 11 10, .fg 12 2 1 11 true,
 .lg 13 12 11 true, .g 14 (.len false) [.t 13] 11 true, .fg 15 0 1 11 true, .lg 16 15 11 true, .fg 17 1 1 11 true, .lg 18 17 11 true, .g 19 (.bin .mul 0) [.t 16,
 .t 18] 11 true, .g 20 (.bin .eql 0) [.t 14, .t 19] 11 true, .o 21 .pick [.t 11, .t 20, .kb false], .m 22 21, .fg 23 2 1 22 true, .lg 24 23 22 true,
 .g 25 (.call 31 []) [.t 24] 22 true, .g 26 (.bin .leq 0) [.t 25, .k 24] 22 true, .o 27 .pick [.t 22, .t 26, .kb false], .m 2 27]) <| .ret

theorem k_impl_RegionValid : cFn Try.prog n_impl_RegionValid 28 [.t 2] c_impl_RegionValid := ⟨Try.f30, _, Try.func30, rfl, by kernel_rfl, by kernel_rfl, by kernel_rfl, by kernel_rfl⟩

-- 2 parameters, results [.t 4], 43 slots, modes [false, false]
@[simp] abbrev n_impl_puzzle : Nat := 47
def c_impl_puzzle_L0 : ACode := .seq (.reg [.o 16 (.bin .lss 0) [.t 15, .t 14]]) <| .seq (.cond (.t 16) ( .skip) ( .exit 0)) <|
 .seq (.block 1 ( .seq (.reg [.m 17 15, .o 18 (.iadr 1) [.t 13, .t 15], .l 19 18, .m 5 17, .m 6 19]) <| .seq (.reg [.f 20 2 2, .l 21 20, .m 22 5,
 .o 23 (.iadr 1) [.t 21, .t 22], .l 24 23, .m 25 24, .mg 26 6 25 true, .g 27 (.call 32 []) [.t 26, .k 0, .k 6] 25 true, .g 28 (.un .not) [.t 27] 25 true,
 .o 29 .pick [.t 25, .t 28, .kb false], .m 30 29, .fg 31 2 2 30 false, .lg 32 31 30 false, .mg 33 5 30 false, .g 34 (.iadr 1) [.t 32, .t 33] 30 false,
 .lg 35 34 30 false, .g 36 (.un .not) [.t 35] 30 false, .mg 37 36 30 false, .mg 38 6 37 true, .g 39 (.bin .neq 0) [.t 38, .k (-1)] 37 true, .g 40 .pick [.t 37,
 .t 39, .kb false] 30 false, .o 41 .pick [.t 30, .kb true, .t 40]]) <| .cond (.t 41) ( .seq (.reg [.o 4 .mv [.kb false]]) <| .ret) ( .skip))) <|
 .reg [.o 42 (.bin .add 0) [.t 15, .k 1], .m 15 42]

def c_impl_puzzle : ACode := .seq (.reg [.o 2 .box [.t 0], .o 4 .mv [.kb false]]) <| .seq (.seq (.reg [.m 7 1, .n 8 7, .f 9 2 2, .l 10 9, .n 11 10,
 .o 12 (.bin .neq 0) [.t 8, .t 11]]) <| .cond (.t 12) ( .seq (.reg [.o 4 .mv [.kb false]]) <| .ret) ( .skip)) <| .seq (.seq (.reg [.m 13 1, .n 14 13,
 .o 15 .mv [.k 0]]) <| .block 0 ( .loop [(13, 1)] [2, 13, 14, 15] c_impl_puzzle_L0)) <| .seq (.reg [.o 4 .mv [.kb true]]) <| .ret

theorem k_impl_puzzle : cFn Try.prog n_impl_puzzle 43 [.t 4] c_impl_puzzle := ⟨Try.f47, _, Try.func47, rfl, by kernel_rfl, by kernel_rfl, by kernel_rfl, by kernel_rfl⟩

-- 2 parameters, results [.t 4], 12 slots, modes [false, false]
@[simp] abbrev n_impl_PuzzleValid : Nat := 22

def c_impl_PuzzleValid : ACode := .seq (.reg [.o 2 .box [.t 0], .o 4 .mv [.kb false]]) <| .seq (.reg [.la 5 3 2, .o 6 (.call 30 []) [.t 5], .m 7 6,
 .g 8 (.load true 3) [.t 2] 7 true, .mg 9 1 7 true, .g 10 (.call 47 []) [.t 8, .t 9] 7 true, .o 11 .pick [.t 7, .t 10, .kb false], .m 4 11]) <| .ret

theorem k_impl_PuzzleValid : cFn Try.prog n_impl_PuzzleValid 12 [.t 4] c_impl_PuzzleValid := ⟨Try.f22, _, Try.func22, rfl, by kernel_rfl, by kernel_rfl, by kernel_rfl, by kernel_rfl⟩

-- 2 parameters, results [.t 4, .t 5], 14 slots, modes [false, false]
@[simp] abbrev n_impl_Region_xy : Nat := 72

def c_impl_Region_xy : ACode := .seq (.reg [.o 2 .box [.t 0], .o 4 .mv [.k 0], .o 5 .mv [.k 0]]) <| .seq (.draw ( .take (.m 6 1) <| .take (.f 7 0 2) <|
 .take (.m 10 1) <| .take (.f 11 0 2) <| .alt (.l 8 7) ( .take (.o 9 (.bin .rem 0) [.t 6, .t 8]) <| .take (.m 4 9) <|
 .al (.l 12 11) ( .take (.o 13 (.bin .quo 0) [.t 10, .t 12]) <| .take (.m 5 13) <| .done)) <| .al (.l 12 11) ( .take (.o 13 (.bin .quo 0) [.t 10, .t 12]) <|
 .al (.l 8 7) ( .take (.o 9 (.bin .rem 0) [.t 6, .t 8]) <| .take (.m 4 9) <| .take (.m 5 13) <| .done)))) <| .ret

theorem k_impl_Region_xy : cFn Try.prog n_impl_Region_xy 14 [.t 4, .t 5] c_impl_Region_xy := ⟨Try.f72, _, Try.func72, rfl, by kernel_rfl, by kernel_rfl, by kernel_rfl, by kernel_rfl⟩

-- 3 parameters, results [.t 6], 52 slots, modes [false, false, false]
@[simp] abbrev n_impl_Region_step : Nat := 48

def c_impl_Region_step : ACode := .seq (.reg [.o 3 .box [.t 0], .o 6 .mv [.k 0]]) <| .seq (.reg [.la 10 3 3, .m 11 1, .o 12 (.call 72 []) [.t 10, .t 11],
 .m 9 12, .e 13 0 9, .e 14 1 9, .m 7 13, .m 8 14]) <| .seq (.seq (.reg [.m 15 2]) <| .block 0 ( .seq (.reg [.o 17 (.bin .eql 0) [.t 15, .k 1], .m 16 17]) <|
 .cond (.t 16) ( .reg [.m 18 7, .o 19 (.bin .add 0) [.t 18, .k 1], .m 7 19]) ( .seq (.reg [.o 21 (.bin .eql 0) [.t 15, .k 2], .m 20 21]) <|
 .cond (.t 20) ( .reg [.m 22 8, .o 23 (.bin .add 0) [.t 22, .k 1], .m 8 23]) ( .seq (.reg [.o 25 (.bin .eql 0) [.t 15, .k 3], .m 24 25]) <|
 .cond (.t 24) ( .reg [.m 26 7, .o 27 (.bin .sub 0) [.t 26, .k 1], .m 7 27]) ( .seq (.reg [.o 29 (.bin .eql 0) [.t 15, .k 4], .m 28 29]) <|
 .cond (.t 28) ( .reg [.m 30 8, .o 31 (.bin .sub 0) [.t 30, .k 1], .m 8 31]) ( .seq (.reg [.o 6 .mv [.k (-1)]]) <| .ret)))))) <| .seq (.seq (.reg [.m 32 7,
 .f 33 0 3, .l 34 33, .o 35 (.bin .sub 0) [.t 34, .k 1], .o 36 (.call 32 []) [.t 32, .k 0, .t 35], .o 37 (.un .not) [.t 36], .m 38 37, .mg 39 8 38 false,
 .fg 40 1 3 38 false, .lg 41 40 38 false, .g 42 (.bin .sub 0) [.t 41, .k 1] 38 false, .g 43 (.call 32 []) [.t 39, .k 0, .t 42] 38 false,
 .g 44 (.un .not) [.t 43] 38 false, .o 45 .pick [.t 38, .kb true, .t 44]]) <| .cond (.t 45) ( .seq (.reg [.o 6 .mv [.k (-1)]]) <| .ret) ( .skip)) <|
 .seq (.reg [.m 46 8, .f 47 0 3, .l 48 47, .o 49 (.bin .mul 0) [.t 46, .t 48], .m 50 7, .o 51 (.bin .add 0) [.t 49, .t 50], .m 6 51]) <| .ret

theorem k_impl_Region_step : cFn Try.prog n_impl_Region_step 52 [.t 6] c_impl_Region_step := ⟨Try.f48, _, Try.func48, rfl, by kernel_rfl, by kernel_rfl, by kernel_rfl, by kernel_rfl⟩

-- 1 parameters, results [.t 2], 7 slots, modes [false]
@[simp] abbrev n_impl_back : Nat := 49

def c_impl_back : ACode := .seq (.reg [.o 2 .mv [.k 0]]) <| .seq (.reg [.m 3 0, .o 4 (.bin .add 0) [.t 3, .k 1], .o 5 (.bin .rem 0) [.t 4, .k 4],
 .o 6 (.bin .add 0) [.t 5, .k 1], .m 2 6]) <| .ret

theorem k_impl_back : cFn Try.prog n_impl_back 7 [.t 2] c_impl_back := ⟨Try.f49, _, Try.func49, rfl, by kernel_rfl, by kernel_rfl, by kernel_rfl, by kernel_rfl⟩

-- 2 parameters, results [.t 4], 55 slots, modes [false, false]
@[simp] abbrev n_impl_Region_lays : Nat := 23
abbrev c_impl_Region_lays_L0_p0 : Plan := .take (.g 52 (.bin .neq 0) [.t 49, .t 51] 45 false) <| .take (.o 53 .pick [.t 45, .kb true, .t 52]) <| .done
def c_impl_Region_lays_L0 : ACode := .seq (.reg [.o 17 (.bin .lss 0) [.t 16, .t 15]]) <| .seq (.cond (.t 17) ( .skip) ( .exit 0)) <|
 .seq (.block 1 ( .seq (.reg [.m 18 16, .o 19 (.iadr 1) [.t 14, .t 16], .l 20 19, .m 5 18, .m 6 20]) <| .seq (.seq (.reg [.m 21 6, .o 22 (.bin .eql 0) [.t 21,
 .k 0]]) <| .cond (.t 22) ( .exit 1) ( .skip)) <| .seq (.reg [.la 23 3 2, .m 24 5, .m 25 6, .o 26 (.call 48 []) [.t 23, .t 24, .t 25], .m 7 26]) <|
 .seq (.draw ( .take (.m 27 7) <| .take (.o 28 (.bin .lss 0) [.t 27, .k 0]) <| .take (.m 29 28) <| .take (.fg 30 2 2 29 false) <| .take (.mg 32 5 29 false) <|
 .al (.lg 31 30 29 false) ( .take (.g 33 (.iadr 1) [.t 31, .t 32] 29 false) <| .al (.lg 34 33 29 false) ( .take (.g 35 (.un .not) [.t 34] 29 false) <|
 .take (.o 36 .pick [.t 29, .kb true, .t 35]) <| .take (.m 37 36) <| .take (.fg 38 2 2 37 false) <| .take (.mg 40 7 37 false) <|
 .al (.lg 39 38 37 false) ( .take (.g 41 (.iadr 1) [.t 39, .t 40] 37 false) <| .al (.lg 42 41 37 false) ( .take (.g 43 (.un .not) [.t 42] 37 false) <|
 .take (.o 44 .pick [.t 37, .kb true, .t 43]) <| .take (.m 45 44) <| .take (.mg 46 1 45 false) <| .take (.mg 47 7 45 false) <| .take (.g 48 (.iadr 1) [.t 46,
 .t 47] 45 false) <| .take (.mg 50 6 45 false) <| .alt (.lg 49 48 45 false) ( .al (.g 51 (.call 49 []) [.t 50] 45 false) c_impl_Region_lays_L0_p0) <|
 .al (.g 51 (.call 49 []) [.t 50] 45 false) ( .al (.lg 49 48 45 false) c_impl_Region_lays_L0_p0))))))) <| .cond (.t 53) ( .seq (.reg [.o 4 .mv [.kb false]]) <| .ret) ( .skip))) <| .reg [.o 54 (.bin .add 0) [.t 16, .k 1],
 .m 16 54]

def c_impl_Region_lays : ACode := .seq (.reg [.o 2 .box [.t 0], .o 4 .mv [.kb false]]) <| .seq (.seq (.reg [.m 8 1, .n 9 8, .f 10 2 2, .l 11 10, .n 12 11,
 .o 13 (.bin .neq 0) [.t 9, .t 12]]) <| .cond (.t 13) ( .seq (.reg [.o 4 .mv [.kb false]]) <| .ret) ( .skip)) <| .seq (.seq (.reg [.m 14 1, .n 15 14,
 .o 16 .mv [.k 0]]) <| .block 0 ( .loop [(1, 1), (14, 1)] [1, 2, 14, 15, 16] c_impl_Region_lays_L0)) <| .seq (.reg [.o 4 .mv [.kb true]]) <| .ret

theorem k_impl_Region_lays : cFn Try.prog n_impl_Region_lays 55 [.t 4] c_impl_Region_lays := ⟨Try.f23, _, Try.func23, rfl, by kernel_rfl, by kernel_rfl, by kernel_rfl, by kernel_rfl⟩

-- 2 parameters, results [.t 4], 13 slots, modes [false, false]
@[simp] abbrev n_impl_pair : Nat := 73

def c_impl_pair : ACode := .seq (.reg [.o 4 .mv [.k 0]]) <| .seq (.reg [.m 5 0, .m 6 1, .o 7 (.mnx true) [.t 5, .t 6], .o 8 (.bin .mul 0) [.k 7, .t 7], .m 9 0,
 .m 10 1, .o 11 (.mnx false) [.t 9, .t 10], .o 12 (.bin .add 0) [.t 8, .t 11], .m 4 12]) <| .ret

theorem k_impl_pair : cFn Try.prog n_impl_pair 13 [.t 4] c_impl_pair := ⟨Try.f73, _, Try.func73, rfl, by kernel_rfl, by kernel_rfl, by kernel_rfl, by kernel_rfl⟩

-- 1 parameters, results [.t 2], 9 slots, modes [true]
@[simp] abbrev n_slices_Clip_int_int : Nat := 74

def c_slices_Clip_int_int : ACode := .seq (.reg [.o 2 .mv [.c (.os 1 [])]]) <| .seq (.reg [.m 3 0, .m 4 0, .n 5 4, .m 6 0, .n 7 6,
 .o 8 (.slice 1 false false true true) [.t 3, .t 5, .t 7], .m 2 8]) <| .ret

theorem k_slices_Clip_int_int : cFn Try.prog n_slices_Clip_int_int 9 [.t 2] c_slices_Clip_int_int := ⟨Try.f74, _, Try.func74, rfl, by kernel_rfl, by kernel_rfl, by kernel_rfl, by kernel_rfl⟩

-- 3 parameters, results [.t 6], 41 slots, modes [false, false, false]
@[simp] abbrev n_impl_Region_pairs : Nat := 50
abbrev c_impl_Region_pairs_L0_p0 : Plan := .al (.o 35 (.call 73 []) [.t 27, .t 34]) ( .al (.o 36 (.bsl 1) [.t 35]) ( .al (.o 37 (.app 1 8 true) [.t 23, .t 36]) ( .take (.m 7 37) <| .done)))
abbrev c_impl_Region_pairs_L0_p1 : Plan := .al (.o 32 (.call 48 []) [.t 29, .t 30, .t 31]) ( .take (.o 33 (.iadr 1) [.t 28, .t 32]) <| .al (.l 34 33) c_impl_Region_pairs_L0_p0)
def c_impl_Region_pairs_L0 : ACode := .seq (.reg [.o 13 (.bin .lss 0) [.t 12, .t 11]]) <| .seq (.cond (.t 13) ( .skip) ( .exit 0)) <|
 .seq (.block 1 ( .seq (.reg [.m 14 12, .o 15 (.iadr 1) [.t 10, .t 12], .l 16 15, .m 8 14, .m 9 16]) <| .seq (.reg [.m 17 9, .o 18 (.bin .eql 0) [.t 17, .k 1],
 .m 19 18, .mg 20 9 19 false, .g 21 (.bin .eql 0) [.t 20, .k 2] 19 false, .o 22 .pick [.t 19, .kb true, .t 21]]) <| .cond (.t 22) ( .draw ( .take (.m 23 7) <|
 .take (.m 24 1) <| .take (.m 25 8) <| .take (.o 26 (.iadr 1) [.t 24, .t 25]) <| .take (.m 28 1) <| .take (.m 30 8) <| .take (.m 31 9) <|
 .alt (.l 27 26) ( .al (.la 29 3 3) c_impl_Region_pairs_L0_p1) <| .al (.la 29 3 3) ( .alt (.l 27 26) c_impl_Region_pairs_L0_p1 <| .al (.o 32 (.call 48 []) [.t 29, .t 30, .t 31]) ( .take (.o 33 (.iadr 1) [.t 28, .t 32]) <|
 .alt (.l 27 26) ( .al (.l 34 33) c_impl_Region_pairs_L0_p0) <| .al (.l 34 33) ( .al (.l 27 26) c_impl_Region_pairs_L0_p0))))) ( .skip))) <|
 .reg [.o 38 (.bin .add 0) [.t 12, .k 1], .m 12 38]

def c_impl_Region_pairs : ACode := .seq (.reg [.o 3 .box [.t 0], .o 6 .mv [.c (.os 1 [])]]) <| .seq (.reg [.o 7 .mv [.c (.os 1 [])]]) <|
 .seq (.seq (.reg [.m 10 2, .n 11 10, .o 12 .mv [.k 0]]) <| .block 0 ( .loop [(1, 1), (7, 1), (10, 1)] [1, 3, 7, 10, 11, 12] c_impl_Region_pairs_L0)) <|
 .seq (.reg [.m 39 7, .o 40 (.call 74 []) [.t 39], .m 6 40]) <| .ret

theorem k_impl_Region_pairs : cFn Try.prog n_impl_Region_pairs 41 [.t 6] c_impl_Region_pairs := ⟨Try.f50, _, Try.func50, rfl, by kernel_rfl, by kernel_rfl, by kernel_rfl, by kernel_rfl⟩

end Go.Proofs.Dev

namespace Go.Proofs.Dev

-- 1 parameters, results [.t 2], 8 slots, modes [false]
@[simp] abbrev n_slices_Clone_int_int : Nat := 53

def c_slices_Clone_int_int : ACode := .seq (.reg [.o 2 .mv [.c (.os 1 [])]]) <| .seq (.seq (.reg [.m 3 0, .o 4 (.nilq false) [.t 3]]) <|
 .cond (.t 4) ( .seq (.reg [.o 2 .mv [.c (.os 1 [])]]) <| .ret) ( .skip)) <| .seq (.reg [.o 5 (.bsl 1) [], .m 6 0, .o 7 (.app 1 8 true) [.t 5, .t 6], .m 2 7]) <|
 .ret

theorem k_slices_Clone_int_int : cFn Try.prog n_slices_Clone_int_int 8 [.t 2] c_slices_Clone_int_int := ⟨Try.f53, _, Try.func53, rfl, by kernel_rfl, by kernel_rfl, by kernel_rfl, by kernel_rfl⟩

-- 2 parameters, results [.t 4], 18 slots, modes [false, false]
@[simp] abbrev n_spec_l1Has : Nat := 58
def c_spec_l1Has_L0 : ACode := .seq (.seq (.reg [.m 6 5, .m 7 0, .n 8 7, .o 9 (.bin .lss 0) [.t 6, .t 8]]) <| .cond (.t 9) ( .skip) ( .exit 0)) <|
 .seq (.block 1 ( .seq (.reg [.m 12 0, .m 13 5, .o 14 (.iadr 1) [.t 12, .t 13], .l 15 14, .m 16 1, .o 17 (.bin .eql 0) [.t 15, .t 16]]) <|
 .cond (.t 17) ( .seq (.reg [.o 4 .mv [.kb true]]) <| .ret) ( .skip))) <| .reg [.m 10 5, .o 11 (.bin .add 0) [.t 10, .k 1], .m 5 11]

def c_spec_l1Has : ACode := .seq (.reg [.o 4 .mv [.kb false]]) <| .seq (.seq (.reg [.o 5 .mv [.k 0]]) <| .block 0 ( .loop [(0, 1)] [0, 1,
 5] c_spec_l1Has_L0)) <| .seq (.reg [.o 4 .mv [.kb false]]) <| .ret

theorem k_spec_l1Has : cFn Try.prog n_spec_l1Has 18 [.t 4] c_spec_l1Has := ⟨Try.f58, _, Try.func58, rfl, by kernel_rfl, by kernel_rfl, by kernel_rfl, by kernel_rfl⟩

-- 1 parameters, results [.t 2], 18 slots, modes [false]
@[simp] abbrev n_spec_l9Once : Nat := 28
def c_spec_l9Once_L0 : ACode := .seq (.seq (.reg [.m 4 3, .m 5 0, .n 6 5, .o 7 (.bin .lss 0) [.t 4, .t 6]]) <| .cond (.t 7) ( .skip) ( .exit 0)) <|
 .seq (.block 1 ( .seq (.draw ( .take (.m 10 0) <| .take (.m 11 3) <| .take (.o 12 (.slice 1 false false true false) [.t 10, .t 11]) <| .take (.m 13 0) <|
 .take (.m 14 3) <| .take (.o 15 (.iadr 1) [.t 13, .t 14]) <| .al (.l 16 15) ( .al (.o 17 (.call 58 []) [.t 12, .t 16]) ( .done)))) <|
 .cond (.t 17) ( .seq (.reg [.o 2 .mv [.kb false]]) <| .ret) ( .skip))) <| .reg [.m 8 3, .o 9 (.bin .add 0) [.t 8, .k 1], .m 3 9]

def c_spec_l9Once : ACode := .seq (.reg [.o 2 .mv [.kb false]]) <| .seq (.seq (.reg [.o 3 .mv [.k 0]]) <| .block 0 ( .loop [(0, 1)] [0, 3] c_spec_l9Once_L0)) <|
 .seq (.reg [.o 2 .mv [.kb true]]) <| .ret

theorem k_spec_l9Once : cFn Try.prog n_spec_l9Once 18 [.t 2] c_spec_l9Once := ⟨Try.f28, _, Try.func28, rfl, by kernel_rfl, by kernel_rfl, by kernel_rfl, by kernel_rfl⟩

-- 3 parameters, results [.t 6], 21 slots, modes [false, false, false]
@[simp] abbrev n_impl_Region_fair : Nat := 24

def c_impl_Region_fair : ACode := .seq (.reg [.o 3 .box [.t 0], .o 6 .mv [.kb false]]) <| .seq (.reg [.la 8 3 3, .m 9 1, .m 10 2, .o 11 (.call 50 []) [.t 8,
 .t 9, .t 10], .m 7 11]) <| .seq (.reg [.m 12 7, .o 13 (.call 51 []) [.t 12]]) <| .seq (.reg [.m 14 7, .o 15 (.call 53 []) [.t 14], .o 16 (.call 52 []) [.t 15],
 .n 17 16, .m 18 7, .n 19 18, .o 20 (.bin .eql 0) [.t 17, .t 19], .m 6 20]) <| .ret

theorem k_impl_Region_fair : cFn Try.prog n_impl_Region_fair 21 [.t 6] c_impl_Region_fair := ⟨Try.f24, _, Try.func24, rfl, by kernel_rfl, by kernel_rfl, by kernel_rfl, by kernel_rfl⟩

-- 3 parameters, results [.t 6], 22 slots, modes [false, false, false]
@[simp] abbrev n_spec_FairOk : Nat := 13

def c_spec_FairOk : ACode := .seq (.reg [.o 3 .box [.t 0], .o 6 .mv [.kb false]]) <| .seq (.reg [.la 7 3 3, .m 8 1, .o 9 (.call 26 []) [.t 7, .t 8], .m 10 9,
 .g 11 (.load true 3) [.t 3] 10 true, .mg 12 2 10 true, .g 13 (.call 27 []) [.t 11, .t 12] 10 true, .o 14 .pick [.t 10, .t 13, .kb false], .m 15 14,
 .g 16 (.load true 3) [.t 3] 15 true, .mg 17 1 15 true, .mg 18 2 15 true, .g 19 (.call 29 []) [.t 16, .t 17, .t 18] 15 true, .g 20 (.call 28 []) [.t 19] 15 true,
 .o 21 .pick [.t 15, .t 20, .kb false], .m 6 21]) <| .ret

theorem k_spec_FairOk : cFn Try.prog n_spec_FairOk 22 [.t 6] c_spec_FairOk := ⟨Try.f13, _, Try.func13, rfl, by kernel_rfl, by kernel_rfl, by kernel_rfl, by kernel_rfl⟩

-- 3 parameters, results [.t 6], 21 slots, modes [false, false, false]
@[simp] abbrev n_impl_FairOk : Nat := 10

def c_impl_FairOk : ACode := .seq (.reg [.o 3 .box [.t 0], .o 6 .mv [.kb false]]) <| .seq (.reg [.la 7 3 3, .m 8 1, .o 9 (.call 22 []) [.t 7, .t 8], .m 10 9,
 .g 11 (.load true 3) [.t 3] 10 true, .mg 12 2 10 true, .g 13 (.call 23 []) [.t 11, .t 12] 10 true, .o 14 .pick [.t 10, .t 13, .kb false], .m 15 14,
 .g 16 (.load true 3) [.t 3] 15 true, .mg 17 1 15 true, .mg 18 2 15 true, .g 19 (.call 24 []) [.t 16, .t 17, .t 18] 15 true, .o 20 .pick [.t 15, .t 19,
 .kb false], .m 6 20]) <| .ret

theorem k_impl_FairOk : cFn Try.prog n_impl_FairOk 21 [.t 6] c_impl_FairOk := ⟨Try.f10, _, Try.func10, rfl, by kernel_rfl, by kernel_rfl, by kernel_rfl, by kernel_rfl⟩

-- 1 parameters, results [], 11 slots, modes [true]
@[simp] abbrev n_slices_Sort_int_int : Nat := 51

def c_slices_Sort_int_int : ACode := .seq (.reg [.m 3 0, .n 4 3, .m 2 4]) <| .reg [.m 5 0, .m 6 2, .m 7 2, .o 8 (.conv .u64) [.t 7], .o 9 (.call 76 []) [.t 8],
 .o 10 (.call 75 []) [.t 5, .k 0, .t 6, .t 9]]

theorem k_slices_Sort_int_int : cFn Try.prog n_slices_Sort_int_int 11 [] c_slices_Sort_int_int := ⟨Try.f51, _, Try.func51, rfl, by kernel_rfl, by kernel_rfl, by kernel_rfl, by kernel_rfl⟩

-- 1 parameters, results [.t 2], 8 slots, modes [false]
@[simp] abbrev n_mathbits_Len : Nat := 76

def c_mathbits_Len : ACode := .seq (.reg [.o 2 .mv [.k 0]]) <| .seq (.cond (.kb false) ( .seq (.reg [.m 3 0, .o 4 (.conv .u32) [.t 3],
 .o 5 (.call 92 []) [.t 4], .m 2 5]) <| .ret) ( .skip)) <| .seq (.reg [.m 6 0, .o 7 (.call 93 []) [.t 6], .m 2 7]) <| .ret

theorem k_mathbits_Len : cFn Try.prog n_mathbits_Len 8 [.t 2] c_mathbits_Len := ⟨Try.f76, _, Try.func76, rfl, by kernel_rfl, by kernel_rfl, by kernel_rfl, by kernel_rfl⟩

-- 1 parameters, results [.t 2], 25 slots, modes [false]
@[simp] abbrev n_mathbits_Len64 : Nat := 93

def c_mathbits_Len64 : ACode := .seq (.reg [.o 2 .mv [.k 0]]) <| .seq (.seq (.reg [.m 3 0, .o 4 (.bin .geq 0) [.t 3, .c (.v (.int .u64 (4294967296)))]]) <|
 .cond (.t 4) ( .seq (.reg [.m 5 0, .o 6 (.bin .shr 0) [.t 5, .c (.v (.int .u64 (32)))], .m 0 6]) <| .reg [.o 2 .mv [.k 32]]) ( .skip)) <|
 .seq (.seq (.reg [.m 7 0, .o 8 (.bin .geq 0) [.t 7, .c (.v (.int .u64 (65536)))]]) <| .cond (.t 8) ( .seq (.reg [.m 9 0, .o 10 (.bin .shr 0) [.t 9,
 .c (.v (.int .u64 (16)))], .m 0 10]) <| .reg [.m 11 2, .o 12 (.bin .add 0) [.t 11, .k 16], .m 2 12]) ( .skip)) <| .seq (.seq (.reg [.m 13 0,
 .o 14 (.bin .geq 0) [.t 13, .c (.v (.int .u64 (256)))]]) <| .cond (.t 14) ( .seq (.reg [.m 15 0, .o 16 (.bin .shr 0) [.t 15, .c (.v (.int .u64 (8)))],
 .m 0 16]) <| .reg [.m 17 2, .o 18 (.bin .add 0) [.t 17, .k 8], .m 2 18]) ( .skip)) <| .seq (.reg [.m 19 2, .m 20 0, .o 21 (.conv .u8) [.t 20],
 .o 22 .sidx [.c (.v (.string ⟨#[0, 1, 2, 2, 3, 3, 3, 3, 4, 4, 4, 4, 4, 4, 4, 4, 5, 5, 5, 5, 5, 5, 5, 5, 5, 5, 5, 5, 5, 5, 5, 5, 6, 6, 6, 6, 6, 6, 6, 6, 6, 6, 6,
 6, 6, 6, 6, 6, 6, 6, 6, 6, 6, 6, 6, 6, 6, 6, 6, 6, 6, 6, 6, 6, 7, 7, 7, 7, 7, 7, 7, 7, 7, 7, 7, 7, 7, 7, 7, 7, 7, 7, 7, 7, 7, 7, 7, 7, 7, 7, 7, 7, 7, 7, 7, 7,
 7, 7, 7, 7, 7, 7, 7, 7, 7, 7, 7, 7, 7, 7, 7, 7, 7, 7, 7, 7, 7, 7, 7, 7, 7, 7, 7, 7, 7, 7, 7, 7, 8, 8, 8, 8, 8, 8, 8, 8, 8, 8, 8, 8, 8, 8, 8, 8, 8, 8, 8, 8, 8,
 8, 8, 8, 8, 8, 8, 8, 8, 8, 8, 8, 8, 8, 8, 8, 8, 8, 8, 8, 8, 8, 8, 8, 8, 8, 8, 8, 8, 8, 8, 8, 8, 8, 8, 8, 8, 8, 8, 8, 8, 8, 8, 8, 8, 8, 8, 8, 8, 8, 8, 8, 8, 8,
 8, 8, 8, 8, 8, 8, 8, 8, 8, 8, 8, 8, 8, 8, 8, 8, 8, 8, 8, 8, 8, 8, 8, 8, 8, 8, 8, 8, 8, 8, 8, 8, 8, 8, 8, 8, 8, 8, 8, 8, 8, 8, 8, 8, 8, 8, 8, 8, 8, 8, 8, 8, 8,
 8]⟩)), .t 21], .o 23 (.conv .i64) [.t 22], .o 24 (.bin .add 0) [.t 19, .t 23], .m 2 24]) <| .ret

theorem k_mathbits_Len64 : cFn Try.prog n_mathbits_Len64 25 [.t 2] c_mathbits_Len64 := ⟨Try.f93, _, Try.func93, rfl, by kernel_rfl, by kernel_rfl, by kernel_rfl, by kernel_rfl⟩

-- 4 parameters, results [], 134 slots, modes [false, false, false, false]
@[simp] abbrev n_slices_pdqsortOrdered_int : Nat := 75
abbrev c_slices_pdqsortOrdered_int_L0_p0 : Plan := .al (.g 85 (.call 89 []) [.t 80, .t 84] 75 true) ( .take (.g 86 (.un .not) [.t 85] 75 true) <| .take (.o 87 .pick [.t 75, .t 86, .kb false]) <| .done)
def c_slices_pdqsortOrdered_int_L0 : ACode := .block 1 ( .seq (.reg [.m 19 2, .m 20 1, .o 21 (.bin .sub 0) [.t 19, .t 20], .m 10 21]) <|
 .seq (.seq (.reg [.m 22 10, .o 23 (.bin .leq 0) [.t 22, .k 12]]) <| .cond (.t 23) ( .seq (.reg [.m 24 0, .m 25 1, .m 26 2, .o 27 (.call 83 []) [.t 24, .t 25,
 .t 26]]) <| .ret) ( .skip)) <| .seq (.seq (.reg [.m 28 3, .o 29 (.bin .eql 0) [.t 28, .k 0]]) <| .cond (.t 29) ( .seq (.reg [.m 30 0, .m 31 1, .m 32 2,
 .o 33 (.call 84 []) [.t 30, .t 31, .t 32]]) <| .ret) ( .skip)) <| .seq (.seq (.reg [.m 34 8, .o 35 (.un .not) [.t 34]]) <| .cond (.t 35) ( .seq (.reg [.m 36 0,
 .m 37 1, .m 38 2, .o 39 (.call 85 []) [.t 36, .t 37, .t 38]]) <| .reg [.m 40 3, .o 41 (.bin .sub 0) [.t 40, .k 1], .m 3 41]) ( .skip)) <| .seq (.reg [.m 43 0,
 .m 44 1, .m 45 2, .o 46 (.call 86 []) [.t 43, .t 44, .t 45], .m 42 46, .e 47 0 42, .e 48 1 42, .m 11 47, .m 12 48]) <| .seq (.seq (.reg [.m 49 12,
 .o 50 (.bin .eql 0) [.t 49, .k 2]]) <| .cond (.t 50) ( .seq (.reg [.m 51 0, .m 52 1, .m 53 2, .o 54 (.call 87 []) [.t 51, .t 52, .t 53]]) <|
 .seq (.reg [.m 55 2, .o 56 (.bin .sub 0) [.t 55, .k 1], .m 57 11, .m 58 1, .o 59 (.bin .sub 0) [.t 57, .t 58], .o 60 (.bin .sub 0) [.t 56, .t 59], .m 11 60]) <|
 .reg [.o 12 .mv [.k 1]]) ( .skip)) <| .seq (.seq (.reg [.m 61 8, .m 62 61, .mg 63 9 62 true, .o 64 .pick [.t 62, .t 63, .kb false], .m 65 64, .mg 66 12 65 true,
 .g 67 (.bin .eql 0) [.t 66, .k 1] 65 true, .o 68 .pick [.t 65, .t 67, .kb false]]) <| .cond (.t 68) ( .seq (.reg [.m 69 0, .m 70 1, .m 71 2,
 .o 72 (.call 88 []) [.t 69, .t 70, .t 71]]) <| .cond (.t 72) ( .ret) ( .skip)) ( .skip)) <| .seq (.seq (.draw ( .take (.m 73 1) <|
 .take (.o 74 (.bin .gtr 0) [.t 73, .k 0]) <| .take (.m 75 74) <| .take (.mg 76 0 75 true) <| .take (.mg 77 1 75 true) <| .take (.g 78 (.bin .sub 0) [.t 77,
 .k 1] 75 true) <| .take (.g 79 (.iadr 1) [.t 76, .t 78] 75 true) <| .take (.mg 81 0 75 true) <| .take (.mg 82 11 75 true) <| .take (.g 83 (.iadr 1) [.t 81,
 .t 82] 75 true) <| .alt (.lg 80 79 75 true) ( .al (.lg 84 83 75 true) c_slices_pdqsortOrdered_int_L0_p0) <|
 .al (.lg 84 83 75 true) ( .al (.lg 80 79 75 true) c_slices_pdqsortOrdered_int_L0_p0))) <| .cond (.t 87) ( .seq (.reg [.m 88 0, .m 89 1, .m 90 2, .m 91 11, .o 92 (.call 90 []) [.t 88,
 .t 89, .t 90, .t 91], .m 13 92]) <| .seq (.reg [.m 93 13, .m 1 93]) <| .exit 1) ( .skip)) <| .seq (.reg [.m 95 0, .m 96 1, .m 97 2, .m 98 11,
 .o 99 (.call 91 []) [.t 95, .t 96, .t 97, .t 98], .m 94 99, .e 100 0 94, .e 101 1 94, .m 14 100, .m 15 101]) <| .seq (.reg [.m 102 15, .m 9 102]) <|
 .seq (.reg [.m 103 14, .m 104 1, .o 105 (.bin .sub 0) [.t 103, .t 104], .m 106 2, .m 107 14, .o 108 (.bin .sub 0) [.t 106, .t 107], .m 16 105, .m 17 108]) <|
 .seq (.reg [.m 109 10, .o 110 (.bin .quo 0) [.t 109, .k 8], .m 18 110]) <| .seq (.reg [.m 111 16, .m 112 17, .o 113 (.bin .lss 0) [.t 111, .t 112]]) <|
 .cond (.t 113) ( .seq (.reg [.m 114 16, .m 115 18, .o 116 (.bin .geq 0) [.t 114, .t 115], .m 8 116]) <| .seq (.reg [.m 117 0, .m 118 1, .m 119 14, .m 120 3,
 .o 121 (.call 75 []) [.t 117, .t 118, .t 119, .t 120]]) <| .reg [.m 122 14, .o 123 (.bin .add 0) [.t 122, .k 1], .m 1 123]) ( .seq (.reg [.m 124 17, .m 125 18,
 .o 126 (.bin .geq 0) [.t 124, .t 125], .m 8 126]) <| .seq (.reg [.m 127 0, .m 128 14, .o 129 (.bin .add 0) [.t 128, .k 1], .m 130 2, .m 131 3,
 .o 132 (.call 75 []) [.t 127, .t 129, .t 130, .t 131]]) <| .reg [.m 133 14, .m 2 133]))

def c_slices_pdqsortOrdered_int : ACode := .seq (.reg [.o 8 .mv [.kb true]]) <| .seq (.reg [.o 9 .mv [.kb true]]) <| .block 0 ( .loop [(0, 1)] [0, 1, 2, 3, 8,
 9] c_slices_pdqsortOrdered_int_L0)

theorem k_slices_pdqsortOrdered_int : cFn Try.prog n_slices_pdqsortOrdered_int 134 [] c_slices_pdqsortOrdered_int := ⟨Try.f75, _, Try.func75, rfl, by kernel_rfl, by kernel_rfl, by kernel_rfl, by kernel_rfl⟩

-- 3 parameters, results [], 49 slots, modes [false, false, false]
@[simp] abbrev n_slices_insertionSortOrdered_int : Nat := 83
abbrev c_slices_insertionSortOrdered_int_L0_p0 : Plan := .take (.o 47 (.iadr 1) [.t 33, .t 34]) <| .al (.s (.store 1) [.t 47, .t 42]) ( .take (.o 48 (.iadr 1) [.t 35, .t 37]) <| .al (.s (.store 1) [.t 48, .t 46]) ( .done))
abbrev c_slices_insertionSortOrdered_int_L0_p1 : Plan := .al (.g 29 (.call 89 []) [.t 23, .t 28] 19 true) ( .take (.o 30 .pick [.t 19, .t 29, .kb false]) <| .done)
def c_slices_insertionSortOrdered_int_L0 : ACode := .seq (.seq (.draw ( .take (.m 16 7) <| .take (.m 17 1) <| .take (.o 18 (.bin .gtr 0) [.t 16, .t 17]) <|
 .take (.m 19 18) <| .take (.mg 20 0 19 true) <| .take (.mg 21 7 19 true) <| .take (.g 22 (.iadr 1) [.t 20, .t 21] 19 true) <| .take (.mg 24 0 19 true) <|
 .take (.mg 25 7 19 true) <| .take (.g 26 (.bin .sub 0) [.t 25, .k 1] 19 true) <| .take (.g 27 (.iadr 1) [.t 24, .t 26] 19 true) <|
 .alt (.lg 23 22 19 true) ( .al (.lg 28 27 19 true) c_slices_insertionSortOrdered_int_L0_p1) <| .al (.lg 28 27 19 true) ( .al (.lg 23 22 19 true) c_slices_insertionSortOrdered_int_L0_p1))) <| .cond (.t 30) ( .skip) ( .exit 2)) <| .seq (.block 3 ( .draw ( .take (.m 33 0) <| .take (.m 34 7) <| .take (.m 35 0) <|
 .take (.m 36 7) <| .take (.o 37 (.bin .sub 0) [.t 36, .k 1]) <| .take (.m 38 0) <| .take (.m 39 7) <| .take (.o 40 (.bin .sub 0) [.t 39, .k 1]) <|
 .take (.o 41 (.iadr 1) [.t 38, .t 40]) <| .take (.m 43 0) <| .take (.m 44 7) <| .take (.o 45 (.iadr 1) [.t 43, .t 44]) <|
 .alt (.l 42 41) ( .al (.l 46 45) c_slices_insertionSortOrdered_int_L0_p0) <| .al (.l 46 45) ( .al (.l 42 41) c_slices_insertionSortOrdered_int_L0_p0)))) <| .reg [.m 31 7, .o 32 (.bin .sub 0) [.t 31, .k 1],
 .m 7 32]

def c_slices_insertionSortOrdered_int_L1 : ACode := .seq (.seq (.reg [.m 10 6, .m 11 2, .o 12 (.bin .lss 0) [.t 10, .t 11]]) <|
 .cond (.t 12) ( .skip) ( .exit 0)) <| .seq (.block 1 ( .seq (.reg [.m 15 6, .m 7 15]) <| .block 2 ( .loop [(0, 1)] [0, 1, 2, 6,
 7] c_slices_insertionSortOrdered_int_L0))) <| .reg [.m 13 6, .o 14 (.bin .add 0) [.t 13, .k 1], .m 6 14]

def c_slices_insertionSortOrdered_int : ACode := .seq (.reg [.m 8 1, .o 9 (.bin .add 0) [.t 8, .k 1], .m 6 9]) <| .block 0 ( .loop [(0, 1)] [0, 1, 2,
 6] c_slices_insertionSortOrdered_int_L1)

theorem k_slices_insertionSortOrdered_int : cFn Try.prog n_slices_insertionSortOrdered_int 49 [] c_slices_insertionSortOrdered_int := ⟨Try.f83, _, Try.func83, rfl, by kernel_rfl, by kernel_rfl, by kernel_rfl, by kernel_rfl⟩

end Go.Proofs.Dev

namespace Go.Proofs.Dev

-- 2 parameters, results [.t 4], 28 slots, modes [false, false]
@[simp] abbrev n_spec_TilingOk : Nat := 65
def c_spec_TilingOk_L0 : ACode := .seq (.seq (.reg [.m 10 5, .m 11 1, .n 12 11, .o 13 (.bin .lss 0) [.t 10, .t 12]]) <| .cond (.t 13) ( .skip) ( .exit 0)) <|
 .seq (.block 1 ( .seq (.reg [.f 16 2 2, .l 17 16, .m 18 5, .o 19 (.iadr 1) [.t 17, .t 18], .l 20 19, .m 21 20, .mg 22 1 21 true, .mg 23 5 21 true,
 .g 24 (.iadr 1) [.t 22, .t 23] 21 true, .lg 25 24 21 true, .g 26 (.bin .eql 0) [.t 25, .k 0] 21 true, .o 27 .pick [.t 21, .t 26, .kb false]]) <|
 .cond (.t 27) ( .seq (.reg [.o 4 .mv [.kb false]]) <| .ret) ( .skip))) <| .reg [.m 14 5, .o 15 (.bin .add 0) [.t 14, .k 1], .m 5 15]

def c_spec_TilingOk : ACode := .seq (.reg [.o 2 .box [.t 0], .o 4 .mv [.kb false]]) <| .seq (.seq (.reg [.la 6 3 2, .m 7 1, .o 8 (.call 27 []) [.t 6, .t 7],
 .o 9 (.un .not) [.t 8]]) <| .cond (.t 9) ( .seq (.reg [.o 4 .mv [.kb false]]) <| .ret) ( .skip)) <| .seq (.seq (.reg [.o 5 .mv [.k 0]]) <| .block 0 ( .loop [(1,
 1)] [1, 2, 5] c_spec_TilingOk_L0)) <| .seq (.reg [.o 4 .mv [.kb true]]) <| .ret

theorem k_spec_TilingOk : cFn Try.prog n_spec_TilingOk 28 [.t 4] c_spec_TilingOk := ⟨Try.f65, _, Try.func65, rfl, by kernel_rfl, by kernel_rfl, by kernel_rfl, by kernel_rfl⟩

end Go.Proofs.Dev

namespace Go.Proofs.Dev

-- 3 parameters, results [.t 6], 82 slots, modes [false, false, false]
@[simp] abbrev n_spec_MakePuzzle : Nat := 37
def c_spec_MakePuzzle_L0 : ACode := .seq (.seq (.reg [.m 23 8, .m 24 1, .n 25 24, .o 26 (.bin .lss 0) [.t 23, .t 25]]) <| .cond (.t 26) ( .skip) ( .exit 0)) <|
 .seq (.block 1 ( .reg [.m 29 7, .o 30 (.bsl 1) [.k (-1)], .o 31 (.app 1 8 true) [.t 29, .t 30], .m 7 31])) <| .reg [.m 27 8, .o 28 (.bin .add 0) [.t 27, .k 1],
 .m 8 28]

def c_spec_MakePuzzle_L1 : ACode := .seq (.seq (.reg [.m 52 10, .m 53 11, .o 54 (.bin .sub 0) [.k 6, .t 53], .o 55 (.bin .gtr 0) [.t 52, .t 54]]) <|
 .cond (.t 55) ( .skip) ( .exit 4)) <| .block 5 ( .seq (.reg [.m 56 10, .m 57 11, .o 58 (.bin .sub 0) [.k 6, .t 57], .o 59 (.bin .add 0) [.t 58, .k 1],
 .o 60 (.bin .sub 0) [.t 56, .t 59], .m 10 60]) <| .reg [.m 61 11, .o 62 (.bin .add 0) [.t 61, .k 1], .m 11 62])

abbrev c_spec_MakePuzzle_D_p0 : Plan := .al (.o 74 (.call 56 []) [.t 68, .t 69, .t 73]) ( .take (.o 78 (.iadr 1) [.t 67, .t 74]) <| .al (.s (.store 1) [.t 78, .t 77]) ( .done))
def c_spec_MakePuzzle_D : ACode := .draw ( .take (.m 67 7) <| .take (.m 69 9) <| .take (.m 70 1) <| .take (.m 71 9) <| .take (.o 72 (.iadr 1) [.t 70, .t 71]) <|
 .take (.m 75 11) <| .take (.m 76 10) <| .take (.o 77 (.bin .add 0) [.t 75, .t 76]) <| .alt (.la 68 3 3) ( .al (.l 73 72) c_spec_MakePuzzle_D_p0) <|
 .al (.l 73 72) ( .al (.la 68 3 3) c_spec_MakePuzzle_D_p0))

def c_spec_MakePuzzle_L2 : ACode := .seq (.seq (.reg [.m 32 9, .m 33 1, .n 34 33, .o 35 (.bin .lss 0) [.t 32, .t 34]]) <| .cond (.t 35) ( .skip) ( .exit 2)) <|
 .seq (.block 3 ( .seq (.reg [.m 38 1, .m 39 9, .o 40 (.iadr 1) [.t 38, .t 39], .l 41 40, .o 42 (.bin .eql 0) [.t 41, .k 1], .m 43 42, .mg 44 1 43 false,
 .mg 45 9 43 false, .g 46 (.iadr 1) [.t 44, .t 45] 43 false, .lg 47 46 43 false, .g 48 (.bin .eql 0) [.t 47, .k 2] 43 false, .o 49 .pick [.t 43, .kb true,
 .t 48]]) <| .cond (.t 49) ( .seq (.reg [.m 50 2, .o 51 (.bin .rem 0) [.t 50, .k 28], .m 10 51]) <| .seq (.reg [.o 11 .mv [.k 0]]) <| .seq (.block 4 ( .loop [(1,
 1), (7, 1)] [1, 2, 3, 7, 9, 10, 11] c_spec_MakePuzzle_L1)) <| .seq (.reg [.m 63 7, .m 64 9, .m 65 11, .o 66 (.iadr 1) [.t 63, .t 64], .s (.store 1) [.t 66,
 .t 65]]) <| .seq c_spec_MakePuzzle_D <| .reg [.m 79 2, .o 80 (.bin .add 0) [.t 79, .k 1], .m 2 80]) ( .skip))) <| .reg [.m 36 9, .o 37 (.bin .add 0) [.t 36,
 .k 1], .m 9 37]

def c_spec_MakePuzzle : ACode := .seq (.reg [.o 3 .box [.t 0], .o 6 .mv [.c (.os 1 [])]]) <| .seq (.seq (.reg [.la 12 3 3, .m 13 1, .o 14 (.call 65 []) [.t 12,
 .t 13], .o 15 (.un .not) [.t 14], .m 16 15, .mg 17 2 16 false, .g 18 (.call 55 []) [.t 17, .k 0, .k 27] 16 false, .g 19 (.un .not) [.t 18] 16 false,
 .o 20 .pick [.t 16, .kb true, .t 19]]) <| .cond (.t 20) ( .seq (.reg [.o 21 (.bsl 1) [], .m 6 21]) <| .ret) ( .skip)) <| .seq (.reg [.o 22 (.bsl 1) [],
 .m 7 22]) <| .seq (.seq (.reg [.o 8 .mv [.k 0]]) <| .block 0 ( .loop [(1, 1), (7, 1)] [1, 2, 3, 7, 8] c_spec_MakePuzzle_L0)) <|
 .seq (.seq (.reg [.o 9 .mv [.k 0]]) <| .block 2 ( .loop [(1, 1), (7, 1)] [1, 2, 3, 7, 9] c_spec_MakePuzzle_L2)) <| .seq (.reg [.m 81 7, .m 6 81]) <| .ret

theorem k_spec_MakePuzzle : cFn Try.prog n_spec_MakePuzzle 82 [.t 6] c_spec_MakePuzzle := ⟨Try.f37, _, Try.func37, rfl, by kernel_rfl, by kernel_rfl, by kernel_rfl, by kernel_rfl⟩

end Go.Proofs.Dev
