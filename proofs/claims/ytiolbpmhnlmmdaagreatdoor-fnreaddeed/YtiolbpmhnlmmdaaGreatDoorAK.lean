/- Contracts of the functions of the program over slots and rows, each proved against the program itself; no condition beyond those that each theorem names. -/
import Derived.Test.YtiolbpmhnlmmdaaGreatDoorRows
import Derived.ProofKit
import Derived.Test.YtiolbpmhnlmmdaaGreatDoorAH
import Derived.Test.YtiolbpmhnlmmdaaGreatDoorTie
import Derived.Test.YtiolbpmhnlmmdaaGreatDoorCards
import Derived.SevenTiedAt
import Derived.ChangeMaps5
import Derived.Test.YtiolbpmhnlmmdaaGreatDoorProg

set_option linter.unusedSimpArgs false
set_option linter.unusedVariables false

namespace Go.Proofs.YtiolbpmhnlmmdaaGreatDoor
theorem fact_mayEnter : Tryz.prog.mayEnter = true := by kernel_rfl
theorem fact_make : Tryz.prog.make = some .cut := by kernel_rfl
theorem fact_liftsFinal : Tryz.prog.liftsFinal = false := by kernel_rfl
end Go.Proofs.YtiolbpmhnlmmdaaGreatDoor

namespace Go.Proofs.YtiolbpmhnlmmdaaGreatDoor
open Go.ChangeShapes Go.WideShapes Go.ChangeAt Go.RowKit Go.Proofs.Dev

theorem own : ownKnob Tryz.prog.godebug = none := by kernel_rfl
theorem laidOut : laidOutB Tryz.prog = true := by kernel_rfl
theorem kStr : Tryz.prog.cellsOf 9 = 1 := by kernel_rfl
theorem cells5 : Tryz.prog.cellsOf 5 = 1 := by kernel_rfl
theorem rBytes : Tryz.prog.readableRec 22 = true := by kernel_rfl
theorem gWords : Tryz.prog.globalNamed "loop.example/dominotilings/impl.deedWords" = some 0 := by kernel_rfl
theorem tWords : (Tryz.prog.globals[0]?).map (·.type) = some 52 := by kernel_rfl
theorem rWords : Tryz.prog.readableRec 52 = true ∧ 52 < Tryz.prog.types.size := ⟨by kernel_rfl, of_decide_eq_true (by kernel_rfl)⟩

theorem RL_one {C : Ctx} {a : AV} {v : Value} (h : R C a [] v) : RL C [a] [] [v] := by
  rw [RL]
  exact ⟨[], [], _, _, rfl, rfl, h, by rw [RL]; exact ⟨rfl, rfl⟩⟩

abbrev wordsL : List (List UInt8) := [[108, 97, 121], [108, 105, 102, 116], [102, 108, 105, 112], [102, 111, 114, 99, 101], [98, 97, 99, 107]]

/-- What the words of deeds are. -/
theorem words_of {l : List (String × DataW Unit)} {W : World} (hp : (l.all fun x => x.2.handleName?.isNone) = true) (hm : ("loop.example/dominotilings/impl.deedWords", (Rows.laid_loop_example_dominotilings_impl_deedWords : DataW Unit)) ∈ l) (h : laidMetH Tryz.prog l W) :
    R (gCtx W [] fun _ => False) (.vp 0 [.sl 0 1 (txs wordsL)] 0) [] (.pointer (some ⟨0, 0, none⟩)) := by
  rw [MakeChecks.laidMetH_plain _ _ _ hp] at h
  obtain ⟨ps, h1, _, _⟩ := h
  obtain ⟨g, t, cs, fuel, p, e1, e2, e3, e4⟩ := laid_at h1 hm
  rw [gWords] at e1; cases e1
  rw [tWords] at e2; cases e2
  exact words_view gWords Tryz.underlying52 Tryz.underlying9 kStr e3 e4

theorem gb_of {l : List (String × DataW Unit)} {W : World} (hp : (l.all fun x => x.2.handleName?.isNone) = true) (hm : ("loop.example/dominotilings/impl.deedWords", (Rows.laid_loop_example_dominotilings_impl_deedWords : DataW Unit)) ∈ l) (h : laidMetH Tryz.prog l W) (hg : GP W [] fun _ => False) : GB W [] fun _ => False := by
  refine ⟨?_, hg⟩
  show RL (gCtx W [] fun _ => False) [_] [] [_]
  rw [RL]
  exact ⟨[], [], _, _, rfl, rfl, words_of hp hm h, by rw [RL]; exact ⟨rfl, rfl⟩⟩

theorem gSyn : Tryz.prog.globalNamed "strconv.ErrSyntax" = some 2 := by kernel_rfl
theorem gRng : Tryz.prog.globalNamed "strconv.ErrRange" = some 3 := by kernel_rfl
theorem tSyn : (Tryz.prog.globals[2]?).map (·.type) = some 60 := by kernel_rfl
theorem tRng : (Tryz.prog.globals[3]?).map (·.type) = some 60 := by kernel_rfl

theorem gp_of {l : List (String × DataW Unit)} {W : World} (hp : (l.all fun x => x.2.handleName?.isNone) = true) (hm2 : ("strconv.ErrSyntax", (Rows.laid_strconv_ErrSyntax : DataW Unit)) ∈ l) (hm3 : ("strconv.ErrRange", (Rows.laid_strconv_ErrRange : DataW Unit)) ∈ l)
    (hsh : W.ShapedOpen Tryz.prog) (h : laidMetH Tryz.prog l W) : GP W [] fun _ => False := by
  rw [MakeChecks.laidMetH_plain _ _ _ hp] at h
  obtain ⟨ps, h1, _, _⟩ := h
  intro p hpm
  simp only [gps, List.mem_cons, List.not_mem_nil, or_false] at hpm
  refine ⟨⟨by simp, by simp⟩, ?_⟩
  rcases hpm with rfl | rfl | rfl
  · obtain ⟨m, hm⟩ := cell_of_shapedOpen_int (g := 1) (zero := #[.int .i64 0]) (t := 3) hsh (of_decide_eq_true (by kernel_rfl)) (by kernel_rfl) rfl (by kernel_rfl) (by kernel_rfl) Tryz.underlying3
    exact ⟨_, hm, m, rfl⟩
  · exact err_cell h1 hm2 gSyn tSyn Tryz.underlying60
  · exact err_cell h1 hm3 gRng tRng Tryz.underlying60

theorem byte_law {P : Program} {f : Nat} {bs : List Int} (h : SoundAt P f [.sl 0 1 (u8s bs)] (.v (.bool true)) [.bot]) : SoundAt P f [.sl 1 1 (u8s bs)] (.v (.bool true)) [.bot] := by
  refine SoundAt.lift (n := 1) (fun C S us hr => noOL_ok _ S us (noOL_u8s 1 bs) hr) rfl ?_
  have e : vwL 0 [AV.sl 1 1 (u8s bs)] = [AV.sl 0 1 (u8s bs)] := by simp [vwL, vw]
  rw [e]
  exact h

end Go.Proofs.YtiolbpmhnlmmdaaGreatDoor

namespace Go.Proofs.Dev

-- 3 parameters, results [.t 6], 15 slots, modes [false, false, false]
@[simp] abbrev n_spec_l1In : Nat := 27

def c_spec_l1In : ACode := .seq (.reg [.o 6 .mv [.kb false]]) <| .seq (.reg [.m 7 0, .m 8 1, .o 9 (.bin .geq 0) [.t 7, .t 8], .m 10 9, .mg 11 0 10 true,
 .mg 12 2 10 true, .g 13 (.bin .leq 0) [.t 11, .t 12] 10 true, .o 14 .pick [.t 10, .t 13, .kb false], .m 6 14]) <| .ret

theorem k_spec_l1In : cFn Tryz.prog n_spec_l1In 15 [.t 6] c_spec_l1In := ⟨Tryz.f27, _, Tryz.func27, rfl, by kernel_rfl, by kernel_rfl, by kernel_rfl, by kernel_rfl⟩

-- 1 parameters, results [.t 2], 18 slots, modes [false]
@[simp] abbrev n_spec_l1Count : Nat := 116
def c_spec_l1Count_L0 : ACode := .seq (.seq (.reg [.m 5 4, .m 6 0, .n 7 6, .o 8 (.bin .lss 0) [.t 5, .t 7]]) <| .cond (.t 8) ( .skip) ( .exit 0)) <|
 .seq (.block 1 ( .seq (.reg [.m 11 0, .m 12 4, .o 13 (.iadr 1) [.t 11, .t 12], .l 14 13]) <| .cond (.t 14) ( .reg [.m 15 3, .o 16 (.bin .add 0) [.t 15, .k 1],
 .m 3 16]) ( .skip))) <| .reg [.m 9 4, .o 10 (.bin .add 0) [.t 9, .k 1], .m 4 10]

def c_spec_l1Count : ACode := .seq (.reg [.o 2 .mv [.k 0]]) <| .seq (.reg [.o 3 .mv [.k 0]]) <| .seq (.seq (.reg [.o 4 .mv [.k 0]]) <| .block 0 ( .loop [(0,
 1)] [0, 3, 4] c_spec_l1Count_L0)) <| .seq (.reg [.m 17 3, .m 2 17]) <| .ret

theorem k_spec_l1Count : cFn Tryz.prog n_spec_l1Count 18 [.t 2] c_spec_l1Count := ⟨Tryz.f116, _, Tryz.func116, rfl, by kernel_rfl, by kernel_rfl, by kernel_rfl, by kernel_rfl⟩

-- 1 parameters, results [.t 2], 28 slots, modes [false]
@[simp] abbrev n_spec_RegionValid : Nat := 89

def c_spec_RegionValid : ACode := .seq (.reg [.o 1 .box [.t 0], .o 2 .mv [.kb false]]) <| .seq (.reg [.f 3 0 1, .l 4 3, .o 5 (.call 27 []) [.t 4, .k 1, .k 6],
 .m 6 5, .fg 7 1 1 6 true, .lg 8 7 6 true, .g 9 (.call 27 []) [.t 8, .k 1, .k 6] 6 true, .o 10 .pick [.t 6, .t 9, .kb false], .m 11 10, .fg 12 2 1 11 true,
 .lg 13 12 11 true, .g 14 (.len false) [.t 13] 11 true, .fg 15 0 1 11 true, .lg 16 15 11 true, .fg 17 1 1 11 true, .lg 18 17 11 true, .g 19 (.bin .mul 0) [.t 16,
 .t 18] 11 true, .g 20 (.bin .eql 0) [.t 14, .t 19] 11 true, .o 21 .pick [.t 11, .t 20, .kb false], .m 22 21, .fg 23 2 1 22 true, .lg 24 23 22 true,
 .g 25 (.call 116 []) [.t 24] 22 true, .g 26 (.bin .leq 0) [.t 25, .k 24] 22 true, .o 27 .pick [.t 22, .t 26, .kb false], .m 2 27]) <| .ret

theorem k_spec_RegionValid : cFn Tryz.prog n_spec_RegionValid 28 [.t 2] c_spec_RegionValid := ⟨Tryz.f89, _, Tryz.func89, rfl, by kernel_rfl, by kernel_rfl, by kernel_rfl, by kernel_rfl⟩

-- 2 parameters, results [.t 4], 51 slots, modes [false, false]
@[simp] abbrev n_spec_PuzzleValid : Nat := 65
def c_spec_PuzzleValid_L0 : ACode := .seq (.seq (.reg [.m 17 5, .m 18 1, .n 19 18, .o 20 (.bin .lss 0) [.t 17, .t 19]]) <| .cond (.t 20) ( .skip) ( .exit 0)) <|
 .seq (.block 1 ( .seq (.reg [.f 23 2 2, .l 24 23, .m 25 5, .o 26 (.iadr 1) [.t 24, .t 25], .l 27 26, .m 28 27, .mg 29 1 28 true, .mg 30 5 28 true,
 .g 31 (.iadr 1) [.t 29, .t 30] 28 true, .lg 32 31 28 true, .g 33 (.call 27 []) [.t 32, .k 0, .k 6] 28 true, .g 34 (.un .not) [.t 33] 28 true,
 .o 35 .pick [.t 28, .t 34, .kb false], .m 36 35, .fg 37 2 2 36 false, .lg 38 37 36 false, .mg 39 5 36 false, .g 40 (.iadr 1) [.t 38, .t 39] 36 false,
 .lg 41 40 36 false, .g 42 (.un .not) [.t 41] 36 false, .mg 43 42 36 false, .mg 44 1 43 true, .mg 45 5 43 true, .g 46 (.iadr 1) [.t 44, .t 45] 43 true,
 .lg 47 46 43 true, .g 48 (.bin .neq 0) [.t 47, .k (-1)] 43 true, .g 49 .pick [.t 43, .t 48, .kb false] 36 false, .o 50 .pick [.t 36, .kb true, .t 49]]) <|
 .cond (.t 50) ( .seq (.reg [.o 4 .mv [.kb false]]) <| .ret) ( .skip))) <| .reg [.m 21 5, .o 22 (.bin .add 0) [.t 21, .k 1], .m 5 22]

def c_spec_PuzzleValid : ACode := .seq (.reg [.o 2 .box [.t 0], .o 4 .mv [.kb false]]) <| .seq (.seq (.reg [.la 6 3 2, .o 7 (.call 89 []) [.t 6],
 .o 8 (.un .not) [.t 7], .m 9 8, .mg 10 1 9 false, .g 11 (.len false) [.t 10] 9 false, .fg 12 2 2 9 false, .lg 13 12 9 false, .g 14 (.len false) [.t 13] 9 false,
 .g 15 (.bin .neq 0) [.t 11, .t 14] 9 false, .o 16 .pick [.t 9, .kb true, .t 15]]) <| .cond (.t 16) ( .seq (.reg [.o 4 .mv [.kb false]]) <| .ret) ( .skip)) <|
 .seq (.seq (.reg [.o 5 .mv [.k 0]]) <| .block 0 ( .loop [(1, 1)] [1, 2, 5] c_spec_PuzzleValid_L0)) <| .seq (.reg [.o 4 .mv [.kb true]]) <| .ret

theorem k_spec_PuzzleValid : cFn Tryz.prog n_spec_PuzzleValid 51 [.t 4] c_spec_PuzzleValid := ⟨Tryz.f65, _, Tryz.func65, rfl, by kernel_rfl, by kernel_rfl, by kernel_rfl, by kernel_rfl⟩

-- 3 parameters, results [.t 6], 65 slots, modes [false, false, false]
@[simp] abbrev n_spec_l2Step : Nat := 95

def c_spec_l2Step : ACode := .seq (.reg [.o 3 .box [.t 0], .o 6 .mv [.k 0]]) <| .seq (.block 0 ( .seq (.draw ( .take (.m 8 2) <|
 .take (.o 9 (.bin .eql 0) [.t 8, .k 1]) <| .take (.m 10 9) <| .take (.mg 11 1 10 true) <| .take (.fg 12 0 3 10 true) <| .take (.fg 15 0 3 10 true) <|
 .alt (.lg 13 12 10 true) ( .take (.g 14 (.bin .rem 0) [.t 11, .t 13] 10 true) <| .al (.lg 16 15 10 true) ( .take (.g 17 (.bin .sub 0) [.t 16, .k 1] 10 true) <|
 .take (.g 18 (.bin .lss 0) [.t 14, .t 17] 10 true) <| .take (.o 19 .pick [.t 10, .t 18, .kb false]) <| .take (.m 7 19) <| .done)) <|
 .al (.lg 16 15 10 true) ( .take (.g 17 (.bin .sub 0) [.t 16, .k 1] 10 true) <| .al (.lg 13 12 10 true) ( .take (.g 14 (.bin .rem 0) [.t 11, .t 13] 10 true) <|
 .take (.g 18 (.bin .lss 0) [.t 14, .t 17] 10 true) <| .take (.o 19 .pick [.t 10, .t 18, .kb false]) <| .take (.m 7 19) <| .done)))) <|
 .cond (.t 7) ( .seq (.reg [.m 20 1, .o 21 (.bin .add 0) [.t 20, .k 1], .m 6 21]) <| .ret) ( .seq (.draw ( .take (.m 23 2) <| .take (.o 24 (.bin .eql 0) [.t 23,
 .k 2]) <| .take (.m 25 24) <| .take (.mg 26 1 25 true) <| .take (.fg 27 0 3 25 true) <| .take (.fg 30 1 3 25 true) <|
 .alt (.lg 28 27 25 true) ( .take (.g 29 (.bin .quo 0) [.t 26, .t 28] 25 true) <| .al (.lg 31 30 25 true) ( .take (.g 32 (.bin .sub 0) [.t 31, .k 1] 25 true) <|
 .take (.g 33 (.bin .lss 0) [.t 29, .t 32] 25 true) <| .take (.o 34 .pick [.t 25, .t 33, .kb false]) <| .take (.m 22 34) <| .done)) <|
 .al (.lg 31 30 25 true) ( .take (.g 32 (.bin .sub 0) [.t 31, .k 1] 25 true) <| .al (.lg 28 27 25 true) ( .take (.g 29 (.bin .quo 0) [.t 26, .t 28] 25 true) <|
 .take (.g 33 (.bin .lss 0) [.t 29, .t 32] 25 true) <| .take (.o 34 .pick [.t 25, .t 33, .kb false]) <| .take (.m 22 34) <| .done)))) <|
 .cond (.t 22) ( .seq (.reg [.m 35 1, .f 36 0 3, .l 37 36, .o 38 (.bin .add 0) [.t 35, .t 37], .m 6 38]) <| .ret) ( .seq (.reg [.m 40 2,
 .o 41 (.bin .eql 0) [.t 40, .k 3], .m 42 41, .mg 43 1 42 true, .fg 44 0 3 42 true, .lg 45 44 42 true, .g 46 (.bin .rem 0) [.t 43, .t 45] 42 true,
 .g 47 (.bin .gtr 0) [.t 46, .k 0] 42 true, .o 48 .pick [.t 42, .t 47, .kb false], .m 39 48]) <| .cond (.t 39) ( .seq (.reg [.m 49 1, .o 50 (.bin .sub 0) [.t 49,
 .k 1], .m 6 50]) <| .ret) ( .seq (.reg [.m 52 2, .o 53 (.bin .eql 0) [.t 52, .k 4], .m 54 53, .mg 55 1 54 true, .fg 56 0 3 54 true, .lg 57 56 54 true,
 .g 58 (.bin .quo 0) [.t 55, .t 57] 54 true, .g 59 (.bin .gtr 0) [.t 58, .k 0] 54 true, .o 60 .pick [.t 54, .t 59, .kb false], .m 51 60]) <|
 .cond (.t 51) ( .seq (.reg [.m 61 1, .f 62 0 3, .l 63 62, .o 64 (.bin .sub 0) [.t 61, .t 63], .m 6 64]) <| .ret) ( .skip)))))) <|
 .seq (.reg [.o 6 .mv [.k (-1)]]) <| .ret

theorem k_spec_l2Step : cFn Tryz.prog n_spec_l2Step 65 [.t 6] c_spec_l2Step := ⟨Tryz.f95, _, Tryz.func95, rfl, by kernel_rfl, by kernel_rfl, by kernel_rfl, by kernel_rfl⟩

-- 1 parameters, results [.t 2], 7 slots, modes [false]
@[simp] abbrev n_spec_l2Back : Nat := 99

def c_spec_l2Back : ACode := .seq (.reg [.o 2 .mv [.k 0]]) <| .seq (.reg [.m 3 0, .o 4 (.bin .add 0) [.t 3, .k 1], .o 5 (.bin .rem 0) [.t 4, .k 4],
 .o 6 (.bin .add 0) [.t 5, .k 1], .m 2 6]) <| .ret

theorem k_spec_l2Back : cFn Tryz.prog n_spec_l2Back 7 [.t 2] c_spec_l2Back := ⟨Tryz.f99, _, Tryz.func99, rfl, by kernel_rfl, by kernel_rfl, by kernel_rfl, by kernel_rfl⟩

-- 2 parameters, results [.t 4], 72 slots, modes [false, false]
@[simp] abbrev n_spec_LaidOk : Nat := 97
abbrev c_spec_LaidOk_L0_p0 : Plan := .take (.g 70 (.bin .neq 0) [.t 64, .t 69] 60 false) <| .take (.o 71 .pick [.t 60, .kb true, .t 70]) <| .done
abbrev c_spec_LaidOk_L0_p1 : Plan := .al (.o 49 (.call 95 []) [.t 43, .t 44, .t 48]) ( .take (.m 6 49) <| .done)
abbrev c_spec_LaidOk_L0_p2 : Plan := .al (.g 69 (.call 99 []) [.t 68] 60 false) c_spec_LaidOk_L0_p0
def c_spec_LaidOk_L0 : ACode := .seq (.seq (.reg [.m 18 5, .m 19 1, .n 20 19, .o 21 (.bin .lss 0) [.t 18, .t 20]]) <| .cond (.t 21) ( .skip) ( .exit 0)) <|
 .seq (.block 1 ( .seq (.seq (.reg [.m 24 1, .m 25 5, .o 26 (.iadr 1) [.t 24, .t 25], .l 27 26, .o 28 (.bin .eql 0) [.t 27, .k 0]]) <|
 .cond (.t 28) ( .exit 1) ( .skip)) <| .seq (.seq (.reg [.m 29 1, .m 30 5, .o 31 (.iadr 1) [.t 29, .t 30], .l 32 31, .o 33 (.call 27 []) [.t 32, .k 1, .k 4],
 .o 34 (.un .not) [.t 33], .m 35 34, .fg 36 2 2 35 false, .lg 37 36 35 false, .mg 38 5 35 false, .g 39 (.iadr 1) [.t 37, .t 38] 35 false, .lg 40 39 35 false,
 .g 41 (.un .not) [.t 40] 35 false, .o 42 .pick [.t 35, .kb true, .t 41]]) <| .cond (.t 42) ( .seq (.reg [.o 4 .mv [.kb false]]) <| .ret) ( .skip)) <|
 .seq (.draw ( .take (.m 44 5) <| .take (.m 45 1) <| .take (.m 46 5) <| .take (.o 47 (.iadr 1) [.t 45, .t 46]) <|
 .alt (.la 43 3 2) ( .al (.l 48 47) c_spec_LaidOk_L0_p1) <|
 .al (.l 48 47) ( .al (.la 43 3 2) c_spec_LaidOk_L0_p1))) <| .seq (.draw ( .take (.m 50 6) <|
 .take (.o 51 (.bin .lss 0) [.t 50, .k 0]) <| .take (.m 52 51) <| .take (.fg 53 2 2 52 false) <| .take (.mg 55 6 52 false) <|
 .al (.lg 54 53 52 false) ( .take (.g 56 (.iadr 1) [.t 54, .t 55] 52 false) <| .al (.lg 57 56 52 false) ( .take (.g 58 (.un .not) [.t 57] 52 false) <|
 .take (.o 59 .pick [.t 52, .kb true, .t 58]) <| .take (.m 60 59) <| .take (.mg 61 1 60 false) <| .take (.mg 62 6 60 false) <| .take (.g 63 (.iadr 1) [.t 61,
 .t 62] 60 false) <| .take (.mg 65 1 60 false) <| .take (.mg 66 5 60 false) <| .take (.g 67 (.iadr 1) [.t 65, .t 66] 60 false) <|
 .alt (.lg 64 63 60 false) ( .al (.lg 68 67 60 false) c_spec_LaidOk_L0_p2) <|
 .al (.lg 68 67 60 false) ( .alt (.lg 64 63 60 false) c_spec_LaidOk_L0_p2 <|
 .al (.g 69 (.call 99 []) [.t 68] 60 false) ( .al (.lg 64 63 60 false) c_spec_LaidOk_L0_p0)))))) <| .cond (.t 71) ( .seq (.reg [.o 4 .mv [.kb false]]) <| .ret) ( .skip))) <| .reg [.m 22 5, .o 23 (.bin .add 0) [.t 22, .k 1],
 .m 5 23]

def c_spec_LaidOk : ACode := .seq (.reg [.o 2 .box [.t 0], .o 4 .mv [.kb false]]) <| .seq (.seq (.reg [.la 7 3 2, .o 8 (.call 89 []) [.t 7],
 .o 9 (.un .not) [.t 8], .m 10 9, .mg 11 1 10 false, .g 12 (.len false) [.t 11] 10 false, .fg 13 2 2 10 false, .lg 14 13 10 false,
 .g 15 (.len false) [.t 14] 10 false, .g 16 (.bin .neq 0) [.t 12, .t 15] 10 false, .o 17 .pick [.t 10, .kb true, .t 16]]) <|
 .cond (.t 17) ( .seq (.reg [.o 4 .mv [.kb false]]) <| .ret) ( .skip)) <| .seq (.seq (.reg [.o 5 .mv [.k 0]]) <| .block 0 ( .loop [(1, 1)] [1, 2,
 5] c_spec_LaidOk_L0)) <| .seq (.reg [.o 4 .mv [.kb true]]) <| .ret

theorem k_spec_LaidOk : cFn Tryz.prog n_spec_LaidOk 72 [.t 4] c_spec_LaidOk := ⟨Tryz.f97, _, Tryz.func97, rfl, by kernel_rfl, by kernel_rfl, by kernel_rfl, by kernel_rfl⟩

-- 2 parameters, results [.t 4], 21 slots, modes [false, false]
@[simp] abbrev n_spec_PairOf : Nat := 123

def c_spec_PairOf : ACode := .seq (.reg [.o 4 .mv [.k 0]]) <| .seq (.seq (.reg [.m 5 0, .o 6 (.call 27 []) [.t 5, .k 0, .k 6], .o 7 (.un .not) [.t 6], .m 8 7,
 .mg 9 1 8 false, .g 10 (.call 27 []) [.t 9, .k 0, .k 6] 8 false, .g 11 (.un .not) [.t 10] 8 false, .o 12 .pick [.t 8, .kb true, .t 11]]) <|
 .cond (.t 12) ( .seq (.reg [.o 4 .mv [.k (-1)]]) <| .ret) ( .skip)) <| .seq (.reg [.m 13 0, .m 14 1, .o 15 (.mnx true) [.t 13, .t 14],
 .o 16 (.bin .mul 0) [.k 7, .t 15], .m 17 0, .m 18 1, .o 19 (.mnx false) [.t 17, .t 18], .o 20 (.bin .add 0) [.t 16, .t 19], .m 4 20]) <| .ret

theorem k_spec_PairOf : cFn Tryz.prog n_spec_PairOf 21 [.t 4] c_spec_PairOf := ⟨Tryz.f123, _, Tryz.func123, rfl, by kernel_rfl, by kernel_rfl, by kernel_rfl, by kernel_rfl⟩

-- 3 parameters, results [.t 6], 57 slots, modes [false, false, false]
@[simp] abbrev n_spec_PairsOf : Nat := 103
abbrev c_spec_PairsOf_L0_p0 : Plan := .al (.o 53 (.call 123 []) [.t 42, .t 52]) ( .al (.o 54 (.bsl 1) [.t 53]) ( .al (.o 55 (.app 1 8 true) [.t 38, .t 54]) ( .take (.m 7 55) <| .done)))
abbrev c_spec_PairsOf_L0_p1 : Plan := .al (.o 50 (.call 95 []) [.t 44, .t 45, .t 49]) ( .take (.o 51 (.iadr 1) [.t 43, .t 50]) <| .al (.l 52 51) c_spec_PairsOf_L0_p0)
abbrev c_spec_PairsOf_L0_p2 : Plan := .alt (.l 42 41) c_spec_PairsOf_L0_p1 <| .al (.o 50 (.call 95 []) [.t 44, .t 45, .t 49]) ( .take (.o 51 (.iadr 1) [.t 43, .t 50]) <| .alt (.l 42 41) ( .al (.l 52 51) c_spec_PairsOf_L0_p0) <| .al (.l 52 51) ( .al (.l 42 41) c_spec_PairsOf_L0_p0))
def c_spec_PairsOf_L0 : ACode := .seq (.seq (.reg [.m 10 8, .m 11 2, .n 12 11, .o 13 (.bin .lss 0) [.t 10, .t 12], .m 14 13,
 .g 15 (.load true 3) [.t 3] 14 true, .mg 16 1 14 true, .g 17 (.call 65 []) [.t 15, .t 16] 14 true, .o 18 .pick [.t 14, .t 17, .kb false], .m 19 18,
 .g 20 (.load true 3) [.t 3] 19 true, .mg 21 2 19 true, .g 22 (.call 97 []) [.t 20, .t 21] 19 true, .o 23 .pick [.t 19, .t 22, .kb false]]) <|
 .cond (.t 23) ( .skip) ( .exit 0)) <| .seq (.block 1 ( .seq (.reg [.m 26 2, .m 27 8, .o 28 (.iadr 1) [.t 26, .t 27], .l 29 28, .o 30 (.bin .eql 0) [.t 29,
 .k 1], .m 31 30, .mg 32 2 31 false, .mg 33 8 31 false, .g 34 (.iadr 1) [.t 32, .t 33] 31 false, .lg 35 34 31 false, .g 36 (.bin .eql 0) [.t 35, .k 2] 31 false,
 .o 37 .pick [.t 31, .kb true, .t 36]]) <| .cond (.t 37) ( .draw ( .take (.m 38 7) <| .take (.m 39 1) <| .take (.m 40 8) <| .take (.o 41 (.iadr 1) [.t 39,
 .t 40]) <| .take (.m 43 1) <| .take (.m 45 8) <| .take (.m 46 2) <| .take (.m 47 8) <| .take (.o 48 (.iadr 1) [.t 46, .t 47]) <|
 .alt (.l 42 41) ( .alt (.la 44 3 3) ( .al (.l 49 48) c_spec_PairsOf_L0_p1) <| .al (.l 49 48) ( .al (.la 44 3 3) c_spec_PairsOf_L0_p1)) <| .alt (.la 44 3 3) ( .alt (.l 42 41) ( .al (.l 49 48) c_spec_PairsOf_L0_p1) <| .al (.l 49 48) c_spec_PairsOf_L0_p2) <|
 .al (.l 49 48) ( .alt (.l 42 41) ( .al (.la 44 3 3) c_spec_PairsOf_L0_p1) <| .al (.la 44 3 3) c_spec_PairsOf_L0_p2))) ( .skip))) <| .reg [.m 24 8,
 .o 25 (.bin .add 0) [.t 24, .k 1], .m 8 25]

def c_spec_PairsOf : ACode := .seq (.reg [.o 3 .box [.t 0], .o 6 .mv [.c (.os 1 [])]]) <| .seq (.reg [.o 9 (.bsl 1) [], .m 7 9]) <|
 .seq (.seq (.reg [.o 8 .mv [.k 0]]) <| .block 0 ( .loop [(1, 1), (2, 1), (7, 1)] [1, 2, 3, 7, 8] c_spec_PairsOf_L0)) <| .seq (.reg [.m 56 7, .m 6 56]) <| .ret

theorem k_spec_PairsOf : cFn Tryz.prog n_spec_PairsOf 57 [.t 6] c_spec_PairsOf := ⟨Tryz.f103, _, Tryz.func103, rfl, by kernel_rfl, by kernel_rfl, by kernel_rfl, by kernel_rfl⟩

-- 3 parameters, results [.t 6], 15 slots, modes [false, false, false]
@[simp] abbrev n_impl_in : Nat := 24

def c_impl_in : ACode := .seq (.reg [.o 6 .mv [.kb false]]) <| .seq (.reg [.m 7 0, .m 8 1, .o 9 (.bin .geq 0) [.t 7, .t 8], .m 10 9, .mg 11 0 10 true,
 .mg 12 2 10 true, .g 13 (.bin .leq 0) [.t 11, .t 12] 10 true, .o 14 .pick [.t 10, .t 13, .kb false], .m 6 14]) <| .ret

theorem k_impl_in : cFn Tryz.prog n_impl_in 15 [.t 6] c_impl_in := ⟨Tryz.f24, _, Tryz.func24, rfl, by kernel_rfl, by kernel_rfl, by kernel_rfl, by kernel_rfl⟩

-- 1 parameters, results [.t 2], 17 slots, modes [false]
@[simp] abbrev n_impl_many : Nat := 50
def c_impl_many_L0 : ACode := .seq (.reg [.o 9 (.bin .lss 0) [.t 8, .t 7]]) <| .seq (.cond (.t 9) ( .skip) ( .exit 0)) <|
 .seq (.block 1 ( .seq (.reg [.o 10 (.iadr 1) [.t 6, .t 8], .l 11 10, .m 5 11]) <| .seq (.reg [.m 12 5]) <| .cond (.t 12) ( .reg [.m 13 3,
 .o 14 (.bin .add 0) [.t 13, .k 1], .m 3 14]) ( .skip))) <| .reg [.o 15 (.bin .add 0) [.t 8, .k 1], .m 8 15]

def c_impl_many : ACode := .seq (.reg [.o 2 .mv [.k 0]]) <| .seq (.reg [.o 3 .mv [.k 0]]) <| .seq (.seq (.reg [.m 6 0, .n 7 6, .o 8 .mv [.k 0]]) <|
 .block 0 ( .loop [(6, 1)] [3, 6, 7, 8] c_impl_many_L0)) <| .seq (.reg [.m 16 3, .m 2 16]) <| .ret

theorem k_impl_many : cFn Tryz.prog n_impl_many 17 [.t 2] c_impl_many := ⟨Tryz.f50, _, Tryz.func50, rfl, by kernel_rfl, by kernel_rfl, by kernel_rfl, by kernel_rfl⟩

-- 1 parameters, results [.t 2], 28 slots, modes [false]
@[simp] abbrev n_impl_RegionValid : Nat := 49

def c_impl_RegionValid : ACode := .seq (.reg [.o 1 .box [.t 0], .o 2 .mv [.kb false]]) <| .seq (.reg [.f 3 0 1, .l 4 3, .o 5 (.call 24 []) [.t 4, .k 1, .k 6],
 .m 6 5, .fg 7 1 1 6 true, .lg 8 7 6 true, .g 9 (.call 24 []) [.t 8, .k 1, .k 6] 6 true, .o 10 .pick [.t 6, .t 9, .kb false], .m 11 10, .fg 12 2 1 11 true,
 .lg 13 12 11 true, .g 14 (.len false) [.t 13] 11 true, .fg 15 0 1 11 true, .lg 16 15 11 true, .fg 17 1 1 11 true, .lg 18 17 11 true, .g 19 (.bin .mul 0) [.t 16,
 .t 18] 11 true, .g 20 (.bin .eql 0) [.t 14, .t 19] 11 true, .o 21 .pick [.t 11, .t 20, .kb false], .m 22 21, .fg 23 2 1 22 true, .lg 24 23 22 true,
 .g 25 (.call 50 []) [.t 24] 22 true, .g 26 (.bin .leq 0) [.t 25, .k 24] 22 true, .o 27 .pick [.t 22, .t 26, .kb false], .m 2 27]) <| .ret

theorem k_impl_RegionValid : cFn Tryz.prog n_impl_RegionValid 28 [.t 2] c_impl_RegionValid := ⟨Tryz.f49, _, Tryz.func49, rfl, by kernel_rfl, by kernel_rfl, by kernel_rfl, by kernel_rfl⟩

end Go.Proofs.Dev

namespace Go.Proofs.Dev

-- 1 parameters, results [.t 2], 34 slots, modes [false]
@[simp] abbrev n_spec_l1Number : Nat := 28

abbrev c_spec_l1Number_p0 : Plan := .take (.o 33 (.bin .add 1) [.t 26, .t 32]) <| .take (.m 2 33) <| .done
def c_spec_l1Number : ACode := .seq (.reg [.o 2 .mv [.c (.v (.string ⟨#[]⟩))]]) <| .seq (.seq (.reg [.m 3 0, .o 4 (.bin .lss 0) [.t 3, .k 0], .m 5 4,
 .mg 6 0 5 true, .mg 7 0 5 true, .g 8 (.un .neg) [.t 7] 5 true, .g 9 (.bin .eql 0) [.t 6, .t 8] 5 true, .o 10 .pick [.t 5, .t 9, .kb false]]) <|
 .cond (.t 10) ( .seq (.reg [.o 2 .mv [.c (.v (.string ⟨#[45, 57, 50, 50, 51, 51, 55, 50, 48, 51, 54, 56, 53, 52, 55, 55, 53, 56, 48, 56]⟩))]]) <|
 .ret) ( .skip)) <| .seq (.seq (.reg [.m 11 0, .o 12 (.bin .lss 0) [.t 11, .k 0]]) <| .cond (.t 12) ( .seq (.reg [.m 13 0, .o 14 (.un .neg) [.t 13],
 .o 15 (.call 28 []) [.t 14], .o 16 (.bin .add 1) [.c (.v (.string ⟨#[45]⟩)), .t 15], .m 2 16]) <| .ret) ( .skip)) <| .seq (.seq (.reg [.m 17 0,
 .o 18 (.bin .lss 0) [.t 17, .k 10]]) <| .cond (.t 18) ( .seq (.reg [.m 19 0, .o 20 (.bin .add 0) [.k 48, .t 19], .o 21 (.conv .u8) [.t 20],
 .o 22 (.bsl 1) [.t 21], .o 23 .str [.t 22], .m 2 23]) <| .ret) ( .skip)) <| .seq (.draw ( .take (.m 24 0) <| .take (.o 25 (.bin .quo 0) [.t 24, .k 10]) <|
 .take (.m 27 0) <| .take (.o 28 (.bin .rem 0) [.t 27, .k 10]) <| .take (.o 29 (.bin .add 0) [.k 48, .t 28]) <| .take (.o 30 (.conv .u8) [.t 29]) <|
 .alt (.o 26 (.call 28 []) [.t 25]) ( .al (.o 31 (.bsl 1) [.t 30]) ( .al (.o 32 .str [.t 31]) c_spec_l1Number_p0)) <| .al (.o 31 (.bsl 1) [.t 30]) ( .alt (.o 26 (.call 28 []) [.t 25]) ( .al (.o 32 .str [.t 31]) c_spec_l1Number_p0) <| .al (.o 32 .str [.t 31]) ( .al (.o 26 (.call 28 []) [.t 25]) c_spec_l1Number_p0)))) <| .ret

theorem k_spec_l1Number : cFn Tryz.prog n_spec_l1Number 34 [.t 2] c_spec_l1Number := ⟨Tryz.f28, _, Tryz.func28, rfl, by kernel_rfl, by kernel_rfl, by kernel_rfl, by kernel_rfl⟩

-- 2 parameters, results [.t 4], 35 slots, modes [false, false]
@[simp] abbrev n_spec_l1Cut : Nat := 37
def c_spec_l1Cut_L0 : ACode := .seq (.seq (.reg [.m 9 7, .m 10 0, .o 11 (.len true) [.t 10], .o 12 (.bin .lss 0) [.t 9, .t 11]]) <|
 .cond (.t 12) ( .skip) ( .exit 0)) <| .seq (.block 1 ( .seq (.reg [.m 15 0, .m 16 7, .o 17 .sidx [.t 15, .t 16], .m 18 1, .o 19 (.bin .eql 0) [.t 17,
 .t 18]]) <| .cond (.t 19) ( .seq (.reg [.m 20 5, .m 21 0, .m 22 6, .m 23 7, .o 24 (.sslice true true) [.t 21, .t 22, .t 23], .o 25 (.bsl 1) [.t 24],
 .o 26 (.app 1 16 true) [.t 20, .t 25], .m 5 26]) <| .reg [.m 27 7, .o 28 (.bin .add 0) [.t 27, .k 1], .m 6 28]) ( .skip))) <| .reg [.m 13 7,
 .o 14 (.bin .add 0) [.t 13, .k 1], .m 7 14]

def c_spec_l1Cut : ACode := .seq (.reg [.o 4 .mv [.c (.os 1 [])]]) <| .seq (.reg [.o 8 (.bsl 1) [], .m 5 8]) <| .seq (.reg [.o 6 .mv [.k 0]]) <|
 .seq (.seq (.reg [.o 7 .mv [.k 0]]) <| .block 0 ( .loop [(5, 1)] [0, 1, 5, 6, 7] c_spec_l1Cut_L0)) <| .seq (.reg [.m 29 5, .m 30 0, .m 31 6,
 .o 32 (.sslice true false) [.t 30, .t 31], .o 33 (.bsl 1) [.t 32], .o 34 (.app 1 16 true) [.t 29, .t 33], .m 4 34]) <| .ret

theorem k_spec_l1Cut : cFn Tryz.prog n_spec_l1Cut 35 [.t 4] c_spec_l1Cut := ⟨Tryz.f37, _, Tryz.func37, rfl, by kernel_rfl, by kernel_rfl, by kernel_rfl, by kernel_rfl⟩

-- 1 parameters, results [.t 2], 44 slots, modes [false]
@[simp] abbrev n_spec_l1Digits : Nat := 38
def c_spec_l1Digits_L0 : ACode := .seq (.seq (.reg [.m 19 4, .m 20 0, .o 21 (.len true) [.t 20], .o 22 (.bin .lss 0) [.t 19, .t 21]]) <|
 .cond (.t 22) ( .skip) ( .exit 0)) <| .seq (.block 1 ( .seq (.seq (.reg [.m 25 0, .m 26 4, .o 27 .sidx [.t 25, .t 26], .o 28 (.bin .lss 0) [.t 27,
 .c (.v (.int .u8 (48)))], .m 29 28, .mg 30 0 29 false, .mg 31 4 29 false, .g 32 .sidx [.t 30, .t 31] 29 false, .g 33 (.bin .gtr 0) [.t 32,
 .c (.v (.int .u8 (57)))] 29 false, .o 34 .pick [.t 29, .kb true, .t 33]]) <| .cond (.t 34) ( .seq (.reg [.o 2 .mv [.k (-1)]]) <| .ret) ( .skip)) <|
 .reg [.m 35 3, .o 36 (.bin .mul 0) [.k 10, .t 35], .m 37 0, .m 38 4, .o 39 .sidx [.t 37, .t 38], .o 40 (.bin .sub 0) [.t 39, .c (.v (.int .u8 (48)))],
 .o 41 (.conv .i64) [.t 40], .o 42 (.bin .add 0) [.t 36, .t 41], .m 3 42])) <| .reg [.m 23 4, .o 24 (.bin .add 0) [.t 23, .k 1], .m 4 24]

def c_spec_l1Digits : ACode := .seq (.reg [.o 2 .mv [.k 0]]) <| .seq (.seq (.reg [.m 5 0, .o 6 (.len true) [.t 5], .o 7 (.call 27 []) [.t 6, .k 1, .k 4],
 .o 8 (.un .not) [.t 7], .m 9 8, .mg 10 0 9 false, .g 11 (.len true) [.t 10] 9 false, .g 12 (.bin .gtr 0) [.t 11, .k 1] 9 false, .mg 13 12 9 false,
 .mg 14 0 13 true, .g 15 .sidx [.t 14, .k 0] 13 true, .g 16 (.bin .eql 0) [.t 15, .c (.v (.int .u8 (48)))] 13 true, .g 17 .pick [.t 13, .t 16,
 .kb false] 9 false, .o 18 .pick [.t 9, .kb true, .t 17]]) <| .cond (.t 18) ( .seq (.reg [.o 2 .mv [.k (-1)]]) <| .ret) ( .skip)) <|
 .seq (.reg [.o 3 .mv [.k 0]]) <| .seq (.seq (.reg [.o 4 .mv [.k 0]]) <| .block 0 ( .loop [] [0, 3, 4] c_spec_l1Digits_L0)) <| .seq (.reg [.m 43 3, .m 2 43]) <|
 .ret

theorem k_spec_l1Digits : cFn Tryz.prog n_spec_l1Digits 44 [.t 2] c_spec_l1Digits := ⟨Tryz.f38, _, Tryz.func38, rfl, by kernel_rfl, by kernel_rfl, by kernel_rfl, by kernel_rfl⟩

end Go.Proofs.Dev

namespace Go.Proofs.Dev

-- 1 parameters, results [.t 2], 24 slots, modes [false]
@[simp] abbrev n_spec_l10NamedY : Nat := 26

def c_spec_l10NamedY : ACode := .seq (.reg [.o 1 .box [.t 0], .o 2 .mv [.kb false]]) <| .seq (.seq (.reg [.f 3 0 1, .l 4 3]) <|
 .block 0 ( .seq (.reg [.o 6 (.bin .eql 0) [.t 4, .k 0], .m 5 6]) <| .cond (.t 5) ( .seq (.reg [.o 2 .mv [.kb true]]) <|
 .ret) ( .seq (.seq (.reg [.o 8 (.bin .eql 0) [.t 4, .k 1], .m 7 8]) <| .cond (.t 7) ( .skip) ( .reg [.o 9 (.bin .eql 0) [.t 4, .k 2], .m 7 9])) <|
 .cond (.t 7) ( .seq (.reg [.f 10 2 1, .l 11 10, .o 12 (.bin .eql 0) [.t 11, .k 0], .m 2 12]) <| .ret) ( .seq (.seq (.reg [.o 14 (.bin .eql 0) [.t 4, .k 3],
 .m 13 14]) <| .cond (.t 13) ( .skip) ( .reg [.o 15 (.bin .eql 0) [.t 4, .k 4], .m 13 15])) <| .cond (.t 13) ( .seq (.reg [.f 16 2 1, .l 17 16,
 .o 18 (.bin .eql 0) [.t 17, .k 0], .m 19 18, .fg 20 1 1 19 true, .lg 21 20 19 true, .g 22 (.bin .eql 0) [.t 21, .k 0] 19 true, .o 23 .pick [.t 19, .t 22,
 .kb false], .m 2 23]) <| .ret) ( .skip))))) <| .seq (.reg [.o 2 .mv [.kb false]]) <| .ret

theorem k_spec_l10NamedY : cFn Tryz.prog n_spec_l10NamedY 24 [.t 2] c_spec_l10NamedY := ⟨Tryz.f26, _, Tryz.func26, rfl, by kernel_rfl, by kernel_rfl, by kernel_rfl, by kernel_rfl⟩

-- 1 parameters, results [.t 2], 24 slots, modes [false]
@[simp] abbrev n_impl_Deed_needsY : Nat := 23

def c_impl_Deed_needsY : ACode := .seq (.reg [.o 1 .box [.t 0], .o 2 .mv [.kb false]]) <| .seq (.seq (.reg [.f 3 0 1, .l 4 3]) <|
 .block 0 ( .seq (.reg [.o 6 (.bin .eql 0) [.t 4, .k 0], .m 5 6]) <| .cond (.t 5) ( .seq (.reg [.o 2 .mv [.kb true]]) <|
 .ret) ( .seq (.seq (.reg [.o 8 (.bin .eql 0) [.t 4, .k 1], .m 7 8]) <| .cond (.t 7) ( .skip) ( .reg [.o 9 (.bin .eql 0) [.t 4, .k 2], .m 7 9])) <|
 .cond (.t 7) ( .seq (.reg [.f 10 2 1, .l 11 10, .o 12 (.bin .eql 0) [.t 11, .k 0], .m 2 12]) <| .ret) ( .seq (.seq (.reg [.o 14 (.bin .eql 0) [.t 4, .k 3],
 .m 13 14]) <| .cond (.t 13) ( .skip) ( .reg [.o 15 (.bin .eql 0) [.t 4, .k 4], .m 13 15])) <| .cond (.t 13) ( .seq (.reg [.f 16 1 1, .l 17 16,
 .o 18 (.bin .eql 0) [.t 17, .k 0], .m 19 18, .fg 20 2 1 19 true, .lg 21 20 19 true, .g 22 (.bin .eql 0) [.t 21, .k 0] 19 true, .o 23 .pick [.t 19, .t 22,
 .kb false], .m 2 23]) <| .ret) ( .skip))))) <| .seq (.reg [.o 2 .mv [.kb false]]) <| .ret

theorem k_impl_Deed_needsY : cFn Tryz.prog n_impl_Deed_needsY 24 [.t 2] c_impl_Deed_needsY := ⟨Tryz.f23, _, Tryz.func23, rfl, by kernel_rfl, by kernel_rfl, by kernel_rfl, by kernel_rfl⟩

-- 1 parameters, results [.t 2], 10 slots, modes [false]
@[simp] abbrev n_spec_l10Letter : Nat := 29

def c_spec_l10Letter : ACode := .seq (.reg [.o 2 .mv [.c (.v (.string ⟨#[]⟩))]]) <| .seq (.seq (.reg [.m 3 0, .o 4 (.call 27 []) [.t 3, .k 1, .k 4],
 .o 5 (.un .not) [.t 4]]) <| .cond (.t 5) ( .seq (.reg [.o 2 .mv [.c (.v (.string ⟨#[]⟩))]]) <| .ret) ( .skip)) <|
 .seq (.reg [.o 6 (.bsl 1) [.c (.v (.string ⟨#[]⟩)), .c (.v (.string ⟨#[101]⟩)), .c (.v (.string ⟨#[110]⟩)), .c (.v (.string ⟨#[119]⟩)),
 .c (.v (.string ⟨#[115]⟩))], .m 7 0, .o 8 (.iadr 1) [.t 6, .t 7], .l 9 8, .m 2 9]) <| .ret

theorem k_spec_l10Letter : cFn Tryz.prog n_spec_l10Letter 10 [.t 2] c_spec_l10Letter := ⟨Tryz.f29, _, Tryz.func29, rfl, by kernel_rfl, by kernel_rfl, by kernel_rfl, by kernel_rfl⟩

-- 1 parameters, results [.t 2], 15 slots, modes [false]
@[simp] abbrev n_internalstrconv_small : Nat := 104

def c_internalstrconv_small : ACode := .seq (.reg [.o 2 .mv [.c (.v (.string ⟨#[]⟩))]]) <| .seq (.seq (.reg [.m 3 0, .o 4 (.bin .lss 0) [.t 3, .k 10]]) <|
 .cond (.t 4) ( .seq (.reg [.m 5 0, .m 6 0, .o 7 (.bin .add 0) [.t 6, .k 1], .o 8 (.sslice true true) [.c (.v (.string ⟨#[48, 49, 50, 51, 52, 53, 54, 55, 56, 57,
 97, 98, 99, 100, 101, 102, 103, 104, 105, 106, 107, 108, 109, 110, 111, 112, 113, 114, 115, 116, 117, 118, 119, 120, 121, 122]⟩)), .t 5, .t 7], .m 2 8]) <|
 .ret) ( .skip)) <| .seq (.reg [.m 9 0, .o 10 (.bin .mul 0) [.t 9, .k 2], .m 11 0, .o 12 (.bin .mul 0) [.t 11, .k 2], .o 13 (.bin .add 0) [.t 12, .k 2],
 .o 14 (.sslice true true) [.c (.v (.string ⟨#[48, 48, 48, 49, 48, 50, 48, 51, 48, 52, 48, 53, 48, 54, 48, 55, 48, 56, 48, 57, 49, 48, 49, 49, 49, 50, 49, 51,
 49, 52, 49, 53, 49, 54, 49, 55, 49, 56, 49, 57, 50, 48, 50, 49, 50, 50, 50, 51, 50, 52, 50, 53, 50, 54, 50, 55, 50, 56, 50, 57, 51, 48, 51, 49, 51, 50, 51, 51,
 51, 52, 51, 53, 51, 54, 51, 55, 51, 56, 51, 57, 52, 48, 52, 49, 52, 50, 52, 51, 52, 52, 52, 53, 52, 54, 52, 55, 52, 56, 52, 57, 53, 48, 53, 49, 53, 50, 53, 51,
 53, 52, 53, 53, 53, 54, 53, 55, 53, 56, 53, 57, 54, 48, 54, 49, 54, 50, 54, 51, 54, 52, 54, 53, 54, 54, 54, 55, 54, 56, 54, 57, 55, 48, 55, 49, 55, 50, 55, 51,
 55, 52, 55, 53, 55, 54, 55, 55, 55, 56, 55, 57, 56, 48, 56, 49, 56, 50, 56, 51, 56, 52, 56, 53, 56, 54, 56, 55, 56, 56, 56, 57, 57, 48, 57, 49, 57, 50, 57, 51,
 57, 52, 57, 53, 57, 54, 57, 55, 57, 56, 57, 57]⟩)), .t 10, .t 13], .m 2 14]) <| .ret

theorem k_internalstrconv_small : cFn Tryz.prog n_internalstrconv_small 15 [.t 2] c_internalstrconv_small := ⟨Tryz.f104, _, Tryz.func104, rfl, by kernel_rfl, by kernel_rfl, by kernel_rfl, by kernel_rfl⟩

-- 2 parameters, results [.t 4], 54 slots, modes [false, false]
@[simp] abbrev n_internalstrconv_FormatInt : Nat := 75

def c_internalstrconv_FormatInt : ACode := .seq (.reg [.o 4 .mv [.c (.v (.string ⟨#[]⟩))]]) <| .seq (.seq (.reg [.m 10 1, .o 11 (.bin .eql 0) [.t 10,
 .k 10]]) <| .cond (.t 11) ( .seq (.seq (.reg [.m 12 0, .o 13 (.bin .leq 0) [.k 0, .t 12], .m 14 13, .mg 15 0 14 true, .g 16 (.bin .lss 0) [.t 15,
 .k 100] 14 true, .o 17 .pick [.t 14, .t 16, .kb false]]) <| .cond (.t 17) ( .seq (.reg [.m 18 0, .o 19 (.call 104 []) [.t 18], .m 4 19]) <| .ret) ( .skip)) <|
 .seq (.reg [.o 5 (.alloc [.v (.int .u8 (0)), .v (.int .u8 (0)), .v (.int .u8 (0)), .v (.int .u8 (0)), .v (.int .u8 (0)), .v (.int .u8 (0)), .v (.int .u8 (0)),
 .v (.int .u8 (0)), .v (.int .u8 (0)), .v (.int .u8 (0)), .v (.int .u8 (0)), .v (.int .u8 (0)), .v (.int .u8 (0)), .v (.int .u8 (0)), .v (.int .u8 (0)),
 .v (.int .u8 (0)), .v (.int .u8 (0)), .v (.int .u8 (0)), .v (.int .u8 (0)), .v (.int .u8 (0)), .v (.int .u8 (0)), .v (.int .u8 (0)), .v (.int .u8 (0)),
 .v (.int .u8 (0))]) []]) <| .seq (.reg [.m 20 0, .o 21 (.conv .u64) [.t 20], .m 6 21]) <| .seq (.seq (.reg [.m 22 0, .o 23 (.bin .lss 0) [.t 22, .k 0]]) <|
 .cond (.t 23) ( .reg [.m 24 6, .o 25 (.un .neg) [.t 24], .m 6 25]) ( .skip)) <| .seq (.reg [.m 26 6, .o 27 (.call 105 []) [.t 26], .m 7 27]) <| .seq (.fail) <|
 .seq (.seq (.reg [.m 33 0, .o 34 (.bin .lss 0) [.t 33, .k 0]]) <| .cond (.t 34) ( .seq (.reg [.f 35 0 5, .s (.store 1) [.t 35, .c (.v (.int .u8 (45)))]]) <|
 .seq (.fail) <| .ret) ( .skip)) <| .seq (.fail) <| .ret) ( .skip)) <| .seq (.reg [.m 45 0, .o 46 (.conv .u64) [.t 45], .m 47 1, .m 48 0,
 .o 49 (.bin .lss 0) [.t 48, .k 0], .o 50 (.call 107 []) [.c (.os 1 []), .t 46, .t 47, .t 49, .kb false], .m 44 50, .e 51 0 44, .e 52 1 44, .m 8 51, .m 9 52]) <|
 .seq (.reg [.m 53 9, .m 4 53]) <| .ret

theorem k_internalstrconv_FormatInt : cFn Tryz.prog n_internalstrconv_FormatInt 54 [.t 4] c_internalstrconv_FormatInt := ⟨Tryz.f75, _, Tryz.func75, rfl, by kernel_rfl, by kernel_rfl, by kernel_rfl, by kernel_rfl⟩

-- 1 parameters, results [.t 2], 5 slots, modes [false]
@[simp] abbrev n_internalstrconv_Itoa : Nat := 48

def c_internalstrconv_Itoa : ACode := .seq (.reg [.o 2 .mv [.c (.v (.string ⟨#[]⟩))]]) <| .seq (.reg [.m 3 0, .o 4 (.call 75 []) [.t 3, .k 10], .m 2 4]) <|
 .ret

theorem k_internalstrconv_Itoa : cFn Tryz.prog n_internalstrconv_Itoa 5 [.t 2] c_internalstrconv_Itoa := ⟨Tryz.f48, _, Tryz.func48, rfl, by kernel_rfl, by kernel_rfl, by kernel_rfl, by kernel_rfl⟩

-- 1 parameters, results [.t 2], 5 slots, modes [false]
@[simp] abbrev n_strconv_Itoa : Nat := 25

def c_strconv_Itoa : ACode := .seq (.reg [.o 2 .mv [.c (.v (.string ⟨#[]⟩))]]) <| .seq (.reg [.m 3 0, .o 4 (.call 48 []) [.t 3], .m 2 4]) <| .ret

theorem k_strconv_Itoa : cFn Tryz.prog n_strconv_Itoa 5 [.t 2] c_strconv_Itoa := ⟨Tryz.f25, _, Tryz.func25, rfl, by kernel_rfl, by kernel_rfl, by kernel_rfl, by kernel_rfl⟩

-- 1 parameters, results [.t 2], 46 slots, modes [false]
@[simp] abbrev n_spec_DeedText : Nat := 8

def c_spec_DeedText : ACode := .seq (.reg [.o 1 .box [.t 0], .o 2 .mv [.c (.v (.string ⟨#[]⟩))]]) <| .seq (.seq (.reg [.la 4 3 1, .o 5 (.call 26 []) [.t 4],
 .o 6 (.un .not) [.t 5], .m 7 6, .fg 8 1 1 7 false, .lg 9 8 7 false, .g 10 (.call 27 []) [.t 9, .k 0, .k 99] 7 false, .g 11 (.un .not) [.t 10] 7 false,
 .o 12 .pick [.t 7, .kb true, .t 11]]) <| .cond (.t 12) ( .seq (.reg [.o 2 .mv [.c (.v (.string ⟨#[]⟩))]]) <| .ret) ( .skip)) <|
 .seq (.reg [.o 13 (.bsl 1) [.c (.v (.string ⟨#[108, 97, 121]⟩)), .c (.v (.string ⟨#[108, 105, 102, 116]⟩)), .c (.v (.string ⟨#[102, 108, 105, 112]⟩)),
 .c (.v (.string ⟨#[102, 111, 114, 99, 101]⟩)), .c (.v (.string ⟨#[98, 97, 99, 107]⟩))], .f 14 0 1, .l 15 14, .o 16 (.iadr 1) [.t 13, .t 15], .l 17 16,
 .m 3 17]) <| .seq (.seq (.reg [.f 18 0 1, .l 19 18, .o 20 (.bin .leq 0) [.t 19, .k 2]]) <| .cond (.t 20) ( .reg [.m 21 3, .o 22 (.bin .add 1) [.t 21,
 .c (.v (.string ⟨#[32]⟩))], .f 23 1 1, .l 24 23, .o 25 (.call 28 []) [.t 24], .o 26 (.bin .add 1) [.t 22, .t 25], .m 3 26]) ( .skip)) <|
 .seq (.seq (.reg [.f 27 0 1, .l 28 27, .o 29 (.bin .eql 0) [.t 28, .k 0], .m 30 29, .fg 31 2 1 30 true, .lg 32 31 30 true, .g 33 (.call 29 []) [.t 32] 30 true,
 .g 34 (.bin .eql 1) [.t 33, .c (.v (.string ⟨#[]⟩))] 30 true, .o 35 .pick [.t 30, .t 34, .kb false]]) <|
 .cond (.t 35) ( .seq (.reg [.o 2 .mv [.c (.v (.string ⟨#[]⟩))]]) <| .ret) ( .skip)) <| .seq (.seq (.reg [.f 36 0 1, .l 37 36, .o 38 (.bin .eql 0) [.t 37,
 .k 0]]) <| .cond (.t 38) ( .reg [.m 39 3, .o 40 (.bin .add 1) [.t 39, .c (.v (.string ⟨#[32]⟩))], .f 41 2 1, .l 42 41, .o 43 (.call 29 []) [.t 42],
 .o 44 (.bin .add 1) [.t 40, .t 43], .m 3 44]) ( .skip)) <| .seq (.reg [.m 45 3, .m 2 45]) <| .ret

theorem k_spec_DeedText : cFn Tryz.prog n_spec_DeedText 46 [.t 2] c_spec_DeedText := ⟨Tryz.f8, _, Tryz.func8, rfl, by kernel_rfl, by kernel_rfl, by kernel_rfl, by kernel_rfl⟩

-- 1 parameters, results [.t 2], 51 slots, modes [false]
@[simp] abbrev n_impl_DeedText : Nat := 7

def c_impl_DeedText : ACode := .seq (.reg [.o 1 .box [.t 0], .o 2 .mv [.c (.v (.string ⟨#[]⟩))]]) <| .seq (.seq (.reg [.la 4 3 1, .o 5 (.call 23 []) [.t 4],
 .o 6 (.un .not) [.t 5], .m 7 6, .fg 8 1 1 7 false, .lg 9 8 7 false, .g 10 (.call 24 []) [.t 9, .k 0, .k 99] 7 false, .g 11 (.un .not) [.t 10] 7 false,
 .o 12 .pick [.t 7, .kb true, .t 11], .m 13 12, .fg 14 0 1 13 false, .lg 15 14 13 false, .g 16 (.bin .eql 0) [.t 15, .k 0] 13 false, .mg 17 16 13 false,
 .fg 18 2 1 17 true, .lg 19 18 17 true, .g 20 (.call 24 []) [.t 19, .k 1, .k 4] 17 true, .g 21 (.un .not) [.t 20] 17 true, .g 22 .pick [.t 17, .t 21,
 .kb false] 13 false, .o 23 .pick [.t 13, .kb true, .t 22]]) <| .cond (.t 23) ( .seq (.reg [.o 2 .mv [.c (.v (.string ⟨#[]⟩))]]) <| .ret) ( .skip)) <|
 .seq (.reg [.o 24 (.load false 1) [.c (.vp 0 [.sl 0 1 [.v (.string ⟨#[108, 97, 121]⟩), .v (.string ⟨#[108, 105, 102, 116]⟩), .v (.string ⟨#[102, 108, 105,
 112]⟩), .v (.string ⟨#[102, 111, 114, 99, 101]⟩), .v (.string ⟨#[98, 97, 99, 107]⟩)]] 0)], .f 25 0 1, .l 26 25, .o 27 (.iadr 1) [.t 24, .t 26], .l 28 27,
 .m 3 28]) <| .seq (.seq (.reg [.f 29 0 1, .l 30 29, .o 31 (.bin .leq 0) [.t 30, .k 2]]) <| .cond (.t 31) ( .reg [.m 32 3, .f 33 1 1, .l 34 33,
 .o 35 (.call 25 []) [.t 34], .o 36 (.bin .add 1) [.c (.v (.string ⟨#[32]⟩)), .t 35], .o 37 (.bin .add 1) [.t 32, .t 36], .m 3 37]) ( .skip)) <|
 .seq (.seq (.reg [.f 38 0 1, .l 39 38, .o 40 (.bin .eql 0) [.t 39, .k 0]]) <| .cond (.t 40) ( .reg [.m 41 3, .f 42 2 1, .l 43 42, .f 44 2 1, .l 45 44,
 .o 46 (.bin .add 0) [.t 45, .k 1], .o 47 (.sslice true true) [.c (.v (.string ⟨#[35, 101, 110, 119, 115]⟩)), .t 43, .t 46],
 .o 48 (.bin .add 1) [.c (.v (.string ⟨#[32]⟩)), .t 47], .o 49 (.bin .add 1) [.t 41, .t 48], .m 3 49]) ( .skip)) <| .seq (.reg [.m 50 3, .m 2 50]) <| .ret

theorem k_impl_DeedText : cFn Tryz.prog n_impl_DeedText 51 [.t 2] c_impl_DeedText := ⟨Tryz.f7, _, Tryz.func7, rfl, by kernel_rfl, by kernel_rfl, by kernel_rfl, by kernel_rfl⟩

end Go.Proofs.Dev

namespace Go.Proofs.Dev

-- 2 parameters, results [.t 4], 19 slots, modes [false, false]
@[simp] abbrev n_slices_Index_string_string : Nat := 33
def c_slices_Index_string_string_L0 : ACode := .seq (.reg [.o 9 (.bin .lss 0) [.t 8, .t 7]]) <| .seq (.cond (.t 9) ( .skip) ( .exit 0)) <|
 .seq (.block 1 ( .seq (.reg [.m 10 8, .m 5 10]) <| .seq (.reg [.m 11 1, .m 12 0, .m 13 5, .o 14 (.iadr 1) [.t 12, .t 13], .l 15 14, .o 16 (.bin .eql 1) [.t 11,
 .t 15]]) <| .cond (.t 16) ( .seq (.reg [.m 17 5, .m 4 17]) <| .ret) ( .skip))) <| .reg [.o 18 (.bin .add 0) [.t 8, .k 1], .m 8 18]

def c_slices_Index_string_string : ACode := .seq (.reg [.o 4 .mv [.k 0]]) <| .seq (.seq (.reg [.m 6 0, .n 7 6, .o 8 .mv [.k 0]]) <| .block 0 ( .loop [(0,
 1)] [0, 1, 7, 8] c_slices_Index_string_string_L0)) <| .seq (.reg [.o 4 .mv [.k (-1)]]) <| .ret

theorem k_slices_Index_string_string : cFn Tryz.prog n_slices_Index_string_string 19 [.t 4] c_slices_Index_string_string := ⟨Tryz.f33, _, Tryz.func33, rfl, by kernel_rfl, by kernel_rfl, by kernel_rfl, by kernel_rfl⟩

-- 1 parameters, results [.c 2 true 3, .t 3], 44 slots, modes [false]
@[simp] abbrev n_impl_ReadDeed : Nat := 10
def c_impl_ReadDeed_T0 : ACode := .seq (.seq (.reg [.f 14 0 5, .l 15 14, .o 16 (.bin .lss 0) [.t 15, .k 0]]) <|
 .cond (.t 16) ( .seq (.reg [.o 17 (.build dz []) [], .s (.store 3) [.t 2, .t 17], .o 3 .mv [.kb false]]) <| .ret) ( .skip)) <| .seq (.seq (.reg [.m 18 4,
 .n 19 18, .o 20 (.bin .gtr 0) [.t 19, .k 1]]) <| .cond (.t 20) ( .reg [.m 22 4, .o 23 (.iadr 1) [.t 22, .k 1], .l 24 23, .o 25 (.call 34 []) [.t 24], .m 21 25,
 .e 26 0 21, .e 27 1 21, .f 28 1 5, .s (.store 1) [.t 28, .t 26]]) ( .skip)) <| .seq (.seq (.reg [.m 29 4, .n 30 29, .o 31 (.bin .gtr 0) [.t 30, .k 2]]) <|
 .cond (.t 31) ( .reg [.m 32 4, .o 33 (.iadr 1) [.t 32, .k 2], .l 34 33, .o 35 (.call 35 []) [.c (.v (.string ⟨#[35, 101, 110, 119, 115]⟩)), .t 34],
 .o 36 (.mnx false) [.k 0, .t 35], .f 37 2 5, .s (.store 1) [.t 37, .t 36]]) ( .skip)) <| .seq (.seq (.reg [.la 38 3 5, .o 39 (.call 7 []) [.t 38], .m 40 0,
 .o 41 (.bin .neq 1) [.t 39, .t 40]]) <| .cond (.t 41) ( .seq (.reg [.o 42 (.build dz []) [], .s (.store 3) [.t 2, .t 42], .o 3 .mv [.kb false]]) <|
 .ret) ( .skip)) <| .seq (.reg [.la 43 3 5, .s (.store 3) [.t 2, .t 43], .o 3 .mv [.kb true]]) <| .ret

abbrev c_impl_ReadDeed_p0 : Plan := .al (.o 12 (.call 33 []) [.t 8, .t 11]) ( .take (.o 13 (.build dz [(0, 1)]) [.t 12]) <| .al (.s (.store 3) [.t 5, .t 13]) ( .done))
abbrev c_impl_ReadDeed_p1 : Plan := .al (.o 8 (.load false 1) [.c (.vp 0 [.sl 0 1 [.v (.string ⟨#[108, 97, 121]⟩), .v (.string ⟨#[108, 105, 102, 116]⟩), .v (.string ⟨#[102, 108, 105, 112]⟩), .v (.string ⟨#[102, 111, 114, 99, 101]⟩), .v (.string ⟨#[98, 97, 99, 107]⟩)]] 0)]) c_impl_ReadDeed_p0
abbrev c_impl_ReadDeed_p2 : Plan := .alt (.o 12 (.call 33 []) [.t 8, .t 11]) ( .take (.o 13 (.build dz [(0, 1)]) [.t 12]) <| .al (.o 5 (.alloc dz) []) ( .al (.s (.store 3) [.t 5, .t 13]) ( .done))) <| .al (.o 5 (.alloc dz) []) c_impl_ReadDeed_p0
def c_impl_ReadDeed : ACode := .seq (.reg [.o 2 (.alloc dz) [], .o 3 .mv [.kb false]]) <| .seq (.reg [.m 6 0, .o 7 (.call 32 []) [.t 6,
 .c (.v (.string ⟨#[32]⟩))], .m 4 7]) <| .seq (.draw ( .take (.m 9 4) <| .take (.o 10 (.iadr 1) [.t 9, .k 0]) <|
 .alt (.o 8 (.load false 1) [.c (.vp 0 [.sl 0 1 [.v (.string ⟨#[108, 97, 121]⟩), .v (.string ⟨#[108, 105, 102, 116]⟩), .v (.string ⟨#[102, 108, 105, 112]⟩),
 .v (.string ⟨#[102, 111, 114, 99, 101]⟩), .v (.string ⟨#[98, 97, 99, 107]⟩)]] 0)]) ( .alt (.l 11 10) c_impl_ReadDeed_p2 <| .al (.o 5 (.alloc dz) []) ( .al (.l 11 10) c_impl_ReadDeed_p0)) <| .alt (.l 11 10) ( .alt (.o 8 (.load false 1) [.c (.vp 0 [.sl 0 1 [.v (.string ⟨#[108, 97, 121]⟩),
 .v (.string ⟨#[108, 105, 102, 116]⟩), .v (.string ⟨#[102, 108, 105, 112]⟩), .v (.string ⟨#[102, 111, 114, 99, 101]⟩), .v (.string ⟨#[98, 97, 99,
 107]⟩)]] 0)]) c_impl_ReadDeed_p2 <| .al (.o 5 (.alloc dz) []) c_impl_ReadDeed_p1) <|
 .al (.o 5 (.alloc dz) []) ( .alt (.o 8 (.load false 1) [.c (.vp 0 [.sl 0 1 [.v (.string ⟨#[108, 97, 121]⟩), .v (.string ⟨#[108, 105, 102, 116]⟩),
 .v (.string ⟨#[102, 108, 105, 112]⟩), .v (.string ⟨#[102, 111, 114, 99, 101]⟩), .v (.string ⟨#[98, 97, 99,
 107]⟩)]] 0)]) ( .al (.l 11 10) c_impl_ReadDeed_p0) <| .al (.l 11 10) c_impl_ReadDeed_p1))) <| .gc [] [0, 2, 4, 5] c_impl_ReadDeed_T0

theorem k_impl_ReadDeed : cFn Tryz.prog n_impl_ReadDeed 44 [.c 2 true 3, .t 3] c_impl_ReadDeed := ⟨Tryz.f10, _, Tryz.func10, rfl, by kernel_rfl, by kernel_rfl, by kernel_rfl, by kernel_rfl⟩

-- 1 parameters, results [.c 2 true 3, .t 3], 60 slots, modes [false]
@[simp] abbrev n_spec_ReadDeed : Nat := 12
abbrev c_spec_ReadDeed_L0_p0 : Plan := .take (.o 22 (.bin .eql 1) [.t 17, .t 21]) <| .done
def c_spec_ReadDeed_L0 : ACode := .seq (.seq (.reg [.m 11 6, .o 12 (.bin .leq 0) [.t 11, .k 4]]) <| .cond (.t 12) ( .skip) ( .exit 0)) <|
 .seq (.block 1 ( .seq (.draw ( .take (.m 15 4) <| .take (.o 16 (.iadr 1) [.t 15, .k 0]) <| .take (.m 19 6) <|
 .alt (.l 17 16) ( .al (.o 18 (.bsl 1) [.c (.v (.string ⟨#[108, 97, 121]⟩)), .c (.v (.string ⟨#[108, 105, 102, 116]⟩)), .c (.v (.string ⟨#[102, 108, 105,
 112]⟩)), .c (.v (.string ⟨#[102, 111, 114, 99, 101]⟩)), .c (.v (.string ⟨#[98, 97, 99, 107]⟩))]) ( .take (.o 20 (.iadr 1) [.t 18, .t 19]) <|
 .al (.l 21 20) c_spec_ReadDeed_L0_p0)) <| .al (.o 18 (.bsl 1) [.c (.v (.string ⟨#[108, 97, 121]⟩)), .c (.v (.string ⟨#[108,
 105, 102, 116]⟩)), .c (.v (.string ⟨#[102, 108, 105, 112]⟩)), .c (.v (.string ⟨#[102, 111, 114, 99, 101]⟩)), .c (.v (.string ⟨#[98, 97, 99,
 107]⟩))]) ( .take (.o 20 (.iadr 1) [.t 18, .t 19]) <| .alt (.l 17 16) ( .al (.l 21 20) c_spec_ReadDeed_L0_p0) <|
 .al (.l 21 20) ( .al (.l 17 16) c_spec_ReadDeed_L0_p0)))) <| .cond (.t 22) ( .reg [.m 23 6, .f 24 0 5, .s (.store 1) [.t 24,
 .t 23]]) ( .skip))) <| .reg [.m 13 6, .o 14 (.bin .add 0) [.t 13, .k 1], .m 6 14]

def c_spec_ReadDeed_L1 : ACode := .seq (.seq (.reg [.m 33 7, .o 34 (.bin .leq 0) [.t 33, .k 4], .m 35 34, .mg 36 4 35 true, .g 37 (.len false) [.t 36] 35 true,
 .g 38 (.bin .gtr 0) [.t 37, .k 2] 35 true, .o 39 .pick [.t 35, .t 38, .kb false]]) <| .cond (.t 39) ( .skip) ( .exit 2)) <|
 .seq (.block 3 ( .seq (.draw ( .take (.m 42 4) <| .take (.o 43 (.iadr 1) [.t 42, .k 2]) <| .take (.m 45 7) <|
 .alt (.l 44 43) ( .al (.o 46 (.call 29 []) [.t 45]) ( .take (.o 47 (.bin .eql 1) [.t 44, .t 46]) <| .done)) <|
 .al (.o 46 (.call 29 []) [.t 45]) ( .al (.l 44 43) ( .take (.o 47 (.bin .eql 1) [.t 44, .t 46]) <| .done)))) <| .cond (.t 47) ( .reg [.m 48 7, .f 49 2 5,
 .s (.store 1) [.t 49, .t 48]]) ( .skip))) <| .reg [.m 40 7, .o 41 (.bin .add 0) [.t 40, .k 1], .m 7 41]

def c_spec_ReadDeed : ACode := .seq (.reg [.o 2 (.alloc dz) [], .o 3 .mv [.kb false]]) <| .seq (.reg [.m 8 0, .o 9 (.call 37 []) [.t 8,
 .c (.v (.int .u8 (32)))], .m 4 9]) <| .seq (.reg [.o 10 (.build dz [(0, 1)]) [.k (-1)], .o 5 (.alloc dz) [], .s (.store 3) [.t 5, .t 10]]) <|
 .seq (.seq (.reg [.o 6 .mv [.k 0]]) <| .block 0 ( .loop [(4, 1)] [0, 2, 4, 5, 6] c_spec_ReadDeed_L0)) <| .seq (.seq (.reg [.m 25 4, .n 26 25,
 .o 27 (.bin .gtr 0) [.t 26, .k 1]]) <| .cond (.t 27) ( .reg [.m 28 4, .o 29 (.iadr 1) [.t 28, .k 1], .l 30 29, .o 31 (.call 38 []) [.t 30], .f 32 1 5,
 .s (.store 1) [.t 32, .t 31]]) ( .skip)) <| .seq (.seq (.reg [.o 7 .mv [.k 1]]) <| .block 2 ( .loop [(4, 1)] [0, 2, 4, 5, 7] c_spec_ReadDeed_L1)) <|
 .seq (.seq (.reg [.m 50 0, .o 51 (.bin .eql 1) [.t 50, .c (.v (.string ⟨#[]⟩))], .m 52 51, .g 53 (.load true 3) [.t 5] 52 false,
 .g 54 (.call 8 []) [.t 53] 52 false, .mg 55 0 52 false, .g 56 (.bin .neq 1) [.t 54, .t 55] 52 false, .o 57 .pick [.t 52, .kb true, .t 56]]) <|
 .cond (.t 57) ( .seq (.reg [.o 58 (.build dz []) [], .s (.store 3) [.t 2, .t 58], .o 3 .mv [.kb false]]) <| .ret) ( .skip)) <| .seq (.reg [.la 59 3 5,
 .s (.store 3) [.t 2, .t 59], .o 3 .mv [.kb true]]) <| .ret

theorem k_spec_ReadDeed : cFn Tryz.prog n_spec_ReadDeed 60 [.c 2 true 3, .t 3] c_spec_ReadDeed := ⟨Tryz.f12, _, Tryz.func12, rfl, by kernel_rfl, by kernel_rfl, by kernel_rfl, by kernel_rfl⟩

end Go.Proofs.Dev

namespace Go.Proofs.Dev

-- 1 parameters, results [.c 2 true 3], 18 slots, modes [false]
@[simp] abbrev n_spec_DrawDeedText : Nat := 6

def c_spec_DrawDeedText : ACode := .seq (.reg [.o 2 (.alloc dz) []]) <| .seq (.reg [.m 5 0, .o 6 (.call 18 []) [.t 5], .m 3 6]) <| .seq (.reg [.m 7 3, .m 8 3,
 .o 9 (.call 20 []) [.t 8, .k 0], .o 10 (.call 19 []) [.t 7, .t 9], .o 4 (.alloc dz) [], .s (.store 3) [.t 4, .t 10]]) <| .seq (.seq (.reg [.m 11 3,
 .o 12 (.call 21 []) [.t 11, .k 9]]) <| .cond (.t 12) ( .reg [.m 13 3, .o 14 (.call 22 []) [.t 13, .k 7], .o 15 (.bin .sub 0) [.t 14, .k 1], .f 16 2 4,
 .s (.store 1) [.t 16, .t 15]]) ( .skip)) <| .seq (.reg [.la 17 3 4, .s (.store 3) [.t 2, .t 17]]) <| .ret

theorem k_spec_DrawDeedText : cFn Tryz.prog n_spec_DrawDeedText 18 [.c 2 true 3] c_spec_DrawDeedText := ⟨Tryz.f6, _, Tryz.func6, rfl, by kernel_rfl, by kernel_rfl, by kernel_rfl, by kernel_rfl⟩

-- 2 parameters, results [.t 4], 27 slots, modes [true, false]
@[simp] abbrev n_spec_l20Spoil : Nat := 36

abbrev c_spec_l20Spoil_p0 : Plan := .take (.o 19 (.iadr 1) [.t 16, .t 18]) <| .al (.l 20 19) ( .take (.o 21 (.bin .add 1) [.t 15, .t 20]) <| .take (.o 26 (.bin .add 1) [.t 21, .t 25]) <| .take (.m 4 26) <| .done)
def c_spec_l20Spoil : ACode := .seq (.reg [.o 4 .mv [.c (.v (.string ⟨#[]⟩))]]) <| .seq (.seq (.reg [.m 6 1, .o 7 (.len true) [.t 6], .o 8 (.bin .eql 0) [.t 7,
 .k 0]]) <| .cond (.t 8) ( .seq (.reg [.o 4 .mv [.c (.v (.string ⟨#[10]⟩))]]) <| .ret) ( .skip)) <| .seq (.reg [.m 9 0, .m 10 1, .o 11 (.len true) [.t 10],
 .o 12 (.call 22 []) [.t 9, .t 11], .m 5 12]) <| .seq (.draw ( .take (.m 13 1) <| .take (.m 14 5) <| .take (.o 15 (.sslice false true) [.t 13, .t 14]) <|
 .take (.m 17 0) <| .take (.m 22 1) <| .take (.m 23 5) <| .take (.o 24 (.bin .add 0) [.t 23, .k 1]) <| .take (.o 25 (.sslice true false) [.t 22, .t 24]) <|
 .alt (.o 16 (.bsl 1) [.c (.v (.string ⟨#[]⟩)), .c (.v (.string ⟨#[48]⟩)), .c (.v (.string ⟨#[32]⟩)), .c (.v (.string ⟨#[10]⟩)), .c (.v (.string ⟨#[101]⟩)),
 .c (.v (.string ⟨#[98, 97, 99, 107]⟩))]) ( .al (.o 18 (.call 22 []) [.t 17, .k 6]) c_spec_l20Spoil_p0) <|
 .al (.o 18 (.call 22 []) [.t 17, .k 6]) ( .al (.o 16 (.bsl 1) [.c (.v (.string ⟨#[]⟩)), .c (.v (.string ⟨#[48]⟩)), .c (.v (.string ⟨#[32]⟩)),
 .c (.v (.string ⟨#[10]⟩)), .c (.v (.string ⟨#[101]⟩)), .c (.v (.string ⟨#[98, 97, 99, 107]⟩))]) c_spec_l20Spoil_p0))) <| .ret

theorem k_spec_l20Spoil : cFn Tryz.prog n_spec_l20Spoil 27 [.t 4] c_spec_l20Spoil := ⟨Tryz.f36, _, Tryz.func36, rfl, by kernel_rfl, by kernel_rfl, by kernel_rfl, by kernel_rfl⟩

-- 1 parameters, results [.t 2], 19 slots, modes [false]
@[simp] abbrev n_spec_DrawReadDeed : Nat := 11

def c_spec_DrawReadDeed : ACode := .seq (.reg [.o 2 .mv [.c (.v (.string ⟨#[]⟩))]]) <| .seq (.reg [.m 5 0, .o 6 (.call 18 []) [.t 5], .m 3 6]) <|
 .seq (.reg [.m 7 3, .m 8 3, .o 9 (.call 20 []) [.t 8, .k 0], .o 10 (.call 19 []) [.t 7, .t 9], .o 11 (.call 8 []) [.t 10], .m 4 11]) <|
 .seq (.seq (.reg [.m 12 3, .o 13 (.call 22 []) [.t 12, .k 3], .o 14 (.bin .eql 0) [.t 13, .k 0]]) <| .cond (.t 14) ( .seq (.reg [.m 15 3, .m 16 4,
 .o 17 (.call 36 []) [.t 15, .t 16], .m 2 17]) <| .ret) ( .skip)) <| .seq (.reg [.m 18 4, .m 2 18]) <| .ret

theorem k_spec_DrawReadDeed : cFn Tryz.prog n_spec_DrawReadDeed 19 [.t 2] c_spec_DrawReadDeed := ⟨Tryz.f11, _, Tryz.func11, rfl, by kernel_rfl, by kernel_rfl, by kernel_rfl, by kernel_rfl⟩

-- 1 parameters, results [.t 2], 32 slots, modes [false]
@[simp] abbrev n_laws_FnDeedText : Nat := 3

def c_laws_FnDeedText : ACode := .seq (.reg [.o 2 .mv [.kb false]]) <| .seq (.seq (.reg [.m 7 0, .n 8 7, .o 9 (.bin .gtr 0) [.t 8, .k 1048576]]) <|
 .cond (.t 9) ( .seq (.reg [.o 2 .mv [.kb true]]) <| .ret) ( .skip)) <| .seq (.reg [.m 10 0, .o 11 (.call 6 []) [.t 10], .o 3 (.alloc dz) [],
 .s (.store 3) [.t 3, .t 11]]) <| .seq (.reg [.la 12 3 3, .o 13 (.call 7 []) [.t 12], .m 4 13]) <| .seq (.seq (.reg [.m 14 4, .la 15 3 3,
 .o 16 (.call 8 []) [.t 15], .o 17 (.bin .neq 1) [.t 14, .t 16]]) <| .cond (.t 17) ( .seq (.reg [.o 2 .mv [.kb false]]) <| .ret) ( .skip)) <|
 .seq (.seq (.reg [.m 18 4, .o 19 (.bin .eql 1) [.t 18, .c (.v (.string ⟨#[]⟩))]]) <| .cond (.t 19) ( .seq (.reg [.o 20 (.call 9 []) [], .m 2 20]) <|
 .ret) ( .skip)) <| .seq (.reg [.m 22 4, .o 23 (.call 10 []) [.t 22], .m 21 23, .e 24 0 21, .e 25 1 21, .o 5 (.alloc dz) [], .s (.store 3) [.t 5, .t 24],
 .m 6 25]) <| .seq (.reg [.m 26 6, .m 27 26, .g 28 (.load true 3) [.t 5] 27 true, .g 29 (.load true 3) [.t 3] 27 true, .g 30 (.bin .eql 6) [.t 28,
 .t 29] 27 true, .o 31 .pick [.t 27, .t 30, .kb false], .m 2 31]) <| .ret

theorem k_laws_FnDeedText : cFn Tryz.prog n_laws_FnDeedText 32 [.t 2] c_laws_FnDeedText := ⟨Tryz.f3, _, Tryz.func3, rfl, by kernel_rfl, by kernel_rfl, by kernel_rfl, by kernel_rfl⟩

-- 1 parameters, results [.t 2], 55 slots, modes [false]
@[simp] abbrev n_laws_FnReadDeed : Nat := 4

def c_laws_FnReadDeed : ACode := .seq (.reg [.o 2 .mv [.kb false]]) <| .seq (.seq (.reg [.m 10 0, .n 11 10, .o 12 (.bin .gtr 0) [.t 11, .k 1048576]]) <|
 .cond (.t 12) ( .seq (.reg [.o 2 .mv [.kb true]]) <| .ret) ( .skip)) <| .seq (.reg [.m 13 0, .o 14 (.call 11 []) [.t 13], .m 3 14]) <| .seq (.reg [.m 16 3,
 .o 17 (.call 10 []) [.t 16], .m 15 17, .e 18 0 15, .e 19 1 15, .o 4 (.alloc dz) [], .s (.store 3) [.t 4, .t 18], .m 5 19]) <| .seq (.reg [.m 21 3,
 .o 22 (.call 12 []) [.t 21], .m 20 22, .e 23 0 20, .e 24 1 20, .o 6 (.alloc dz) [], .s (.store 3) [.t 6, .t 23], .m 7 24]) <| .seq (.seq (.reg [.la 25 3 4,
 .la 26 3 6, .o 27 (.bin .neq 6) [.t 25, .t 26], .m 28 27, .mg 29 5 28 false, .mg 30 7 28 false, .g 31 (.bin .neq 2) [.t 29, .t 30] 28 false, .o 32 .pick [.t 28,
 .kb true, .t 31]]) <| .cond (.t 32) ( .seq (.reg [.o 2 .mv [.kb false]]) <| .ret) ( .skip)) <| .seq (.seq (.reg [.m 33 5, .o 34 (.un .not) [.t 33]]) <|
 .cond (.t 34) ( .seq (.reg [.la 35 3 4, .o 36 (.build dz []) [], .o 37 (.bin .eql 6) [.t 35, .t 36], .m 38 37, .g 39 (.call 9 []) [] 38 true,
 .o 40 .pick [.t 38, .t 39, .kb false], .m 2 40]) <| .ret) ( .skip)) <| .seq (.reg [.m 42 3, .o 43 (.bin .add 1) [.t 42, .c (.v (.string ⟨#[32]⟩))],
 .o 44 (.call 10 []) [.t 43], .m 41 44, .e 45 0 41, .e 46 1 41, .o 8 (.alloc dz) [], .s (.store 3) [.t 8, .t 45], .m 9 46]) <| .seq (.reg [.la 47 3 4,
 .o 48 (.call 7 []) [.t 47], .m 49 3, .o 50 (.bin .eql 1) [.t 48, .t 49], .m 51 50, .mg 52 9 51 true, .g 53 (.un .not) [.t 52] 51 true, .o 54 .pick [.t 51,
 .t 53, .kb false], .m 2 54]) <| .ret

theorem k_laws_FnReadDeed : cFn Tryz.prog n_laws_FnReadDeed 55 [.t 2] c_laws_FnReadDeed := ⟨Tryz.f4, _, Tryz.func4, rfl, by kernel_rfl, by kernel_rfl, by kernel_rfl, by kernel_rfl⟩

end Go.Proofs.Dev

namespace Go.Proofs.Dev
set_option linter.unusedSimpArgs false
set_option maxRecDepth 100000

@[simp] def md0 (f : Nat) : List Bool := if f = 999999 ∨ f = 999999 ∨ f = 999999 ∨ f = 999999 ∨ f = 999999 then [true, false] else if f = 999999 ∨ f = 999999 ∨ f = 999999 ∨ f = 999999 ∨ f = 999999 then [true] else []

def marksB (n : Nat) (k : Int) : List Bool := (List.range n).map fun (j : Nat) => (k + j) % 3 == 0
def marksI (n : Nat) (k : Int) : List Int := (List.range n).map fun (j : Nat) => k + j

@[simp] theorem marksI_length (n : Nat) (k : Int) : (marksI n k).length = n := by simp [marksI]
@[simp] theorem marksB_length (n : Nat) (k : Int) : (marksB n k).length = n := by simp [marksB]

@[simp] theorem take_marksI (n : Nat) (k : Int) : (ints (marksI n k)).take n = ints (marksI n k) := by
  have := take_ints_all (marksI n k)
  rwa [marksI_length] at this
@[simp] theorem take_marksB (n : Nat) (k : Int) : (bools (marksB n k)).take n = bools (marksB n k) := by
  have := take_bools_all (marksB n k)
  rwa [marksB_length] at this

end Go.Proofs.Dev

namespace Go.Proofs.Dev
set_option linter.unusedSimpArgs false
set_option maxRecDepth 100000

theorem s_spec_l1In (x lo hi : Int) : SoundAt Tryz.prog n_spec_l1In [.v (.int .i64 x), .v (.int .i64 lo), .v (.int .i64 hi)] (.v (.bool (decide (lo ≤ x ∧ x ≤ hi)))) [.bot, .bot, .bot] := by
  refine fn_ok (md := md0) (ms := [false, false, false]) k_spec_l1In (by simp) ?_
  simp [c_spec_l1In]
  constructor
  · intro h; simp [h]
  · intro h; omega

theorem s_spec_l1Count (bs : List Bool) (hb : bs.length < 2 ^ 40) : SoundAt Tryz.prog n_spec_l1Count [.sl 1 1 (bools bs)] (.v (.int .i64 (manyOf bs))) [.bot] := by
  refine fn_ok (md := md0) (ms := [false]) k_spec_l1Count (by simp) ?_
  simp [c_spec_l1Count]
  refine loop_by (fun m E H => ∃ i : Nat, m = bs.length - i ∧ i ≤ bs.length ∧ H = [] ∧ E = [(0, .sl 1 1 (bools bs)), (3, .v (.int .i64 (manyOf (bs.take i)))), (4, .v (.int .i64 i))]) bs.length ⟨0, by simp [manyOf]⟩ ?_
  rintro J hJ m E H ⟨i, rfl, hi, rfl, rfl⟩
  simp [c_spec_l1Count_L0]
  refine ⟨fun h => ?_, fun h => ?_⟩
  · have e := manyOf_take bs i h
    have e3 := manyOf_le (bs.take i)
    rw [List.length_take] at e3
    simp [h]
    refine ⟨fun hb => ⟨by omega, by omega, _, by omega, hJ _ _ _ ⟨i + 1, rfl, h, rfl, ?_⟩⟩, fun hb => ⟨by omega, _, by omega, hJ _ _ _ ⟨i + 1, rfl, h, rfl, ?_⟩⟩⟩ <;> simp [e, hb]
  · have : i = bs.length := by omega
    subst this
    simp

theorem s_spec_RegionValid (W T : Int) (cs : List Bool) (hb : cs.length < 2 ^ 40) : SoundAt Tryz.prog n_spec_RegionValid [.agg [.v (.int .i64 W), .v (.int .i64 T), .sl 1 1 (bools cs)]] (.v (.bool (regB W T cs))) [.bot] := by
  refine fn_ok (md := md0) (ms := [false]) k_spec_RegionValid (by simp) ?_
  simp [c_spec_RegionValid]
  refine call_on (s_spec_l1In W 1 6) ?_
  simp
  refine ⟨fun h h' => ?_, fun h => ?_⟩
  · refine call_on (s_spec_l1In T 1 6) ?_
    have hx : T ≤ 6 → W * T ≤ 36 ∧ (1 ≤ T → 1 ≤ W * T) := fun ht => ⟨(by
      by_cases h0 : 0 ≤ T
      · exact Int.mul_le_mul h' ht h0 (by omega)
      · have : W * T ≤ 0 := Int.mul_nonpos_of_nonneg_of_nonpos (by omega) (by omega)
        omega), fun h1 => Int.mul_pos (by omega) (by omega)⟩
    simp
    refine ⟨fun h1 h2 => ⟨by have := hx h2; omega, fun h3 => ?_, fun h3 => ?_⟩, fun h1 => ?_⟩
    · refine call_on (s_spec_l1Count cs hb) ?_
      simp [regB, h, h', h1, h2, h3]
      omega
    · simp [regB]; omega
    · simp [regB]; omega
  · simp [regB]; omega

theorem s_spec_l2Back (n : Int) (h : 0 ≤ n) (h2 : n < 2 ^ 60) : SoundAt Tryz.prog n_spec_l2Back [.v (.int .i64 n)] (.v (.int .i64 (backI n))) [.bot] := by
  refine fn_ok (md := md0) (ms := [false]) k_spec_l2Back (by simp) ?_
  simp [c_spec_l2Back, backI]
  omega

theorem s_spec_PairOf (a b : Int) (h1 : 0 ≤ a ∧ a ≤ 6) (h2 : 0 ≤ b ∧ b ≤ 6) : SoundAt Tryz.prog n_spec_PairOf [.v (.int .i64 a), .v (.int .i64 b)] (.v (.int .i64 (pairI a b))) [.bot, .bot] := by
  refine fn_ok (md := md0) (ms := [false, false]) k_spec_PairOf (by simp) ?_
  simp [c_spec_PairOf]
  refine call_on (s_spec_l1In a 0 6) ?_
  simp [h1]
  refine call_on (s_spec_l1In b 0 6) ?_
  simp [h2, pairI]
  rw [Int.min_def, Int.max_def]
  (repeat' split) <;> omega

theorem s_spec_l2Step (W T : Int) (cs : List Bool) (k way : Int) (hr : regB W T cs = true) (h0 : 0 ≤ k) (h1 : k < cs.length) :
    SoundAt Tryz.prog n_spec_l2Step [.agg [.v (.int .i64 W), .v (.int .i64 T), .sl 1 1 (bools cs)], .v (.int .i64 k), .v (.int .i64 way)] (.v (.int .i64 (stepI W T k way))) [.bot, .bot, .bot] := by
  refine fn_ok (md := md0) (ms := [false, false, false]) k_spec_l2Step (by simp) ?_
  obtain ⟨w1, w2, t1, t2, l1, _⟩ := regB_W hr
  have hl := regB_len hr
  have hxy := cell_xy (T := T) (k := k) w1 h0 (by omega)
  have e1 : stepI W T k way = if way = 1 ∧ k % W < W - 1 then k + 1 else if way = 2 ∧ k / W < T - 1 then k + W else if way = 3 ∧ 0 < k % W then k - 1 else if way = 4 ∧ 0 < k / W then k - W else -1 := rfl
  rw [e1]
  clear e1 hr
  generalize hA : k % W = A at *
  generalize hB : k / W = B at *
  by_cases c1 : way = 1
  · subst c1; simp [c_spec_l2Step, hA, hB]; omega
  by_cases c2 : way = 2
  · subst c2; simp [c_spec_l2Step, hA, hB]; omega
  by_cases c3 : way = 3
  · subst c3; simp [c_spec_l2Step, hA, hB]; omega
  by_cases c4 : way = 4
  · subst c4; simp [c_spec_l2Step, hA, hB]; omega
  simp [c_spec_l2Step, c1, c2, c3, c4]

end Go.Proofs.Dev

namespace Go.Proofs.Dev
set_option linter.unusedSimpArgs false
set_option maxRecDepth 100000

theorem s_spec_PuzzleValid (W T : Int) (cs : List Bool) (ds : List Int) (hb : cs.length < 2 ^ 40) (hd : ds.length < 2 ^ 40) :
    SoundAt Tryz.prog n_spec_PuzzleValid [.agg [.v (.int .i64 W), .v (.int .i64 T), .sl 1 1 (bools cs)], .sl 1 1 (ints ds)] (.v (.bool (regB W T cs && digsB cs ds))) [.bot, .bot] := by
  refine fn_ok (md := md0) (ms := [false, false]) k_spec_PuzzleValid (by simp) ?_
  simp [c_spec_PuzzleValid]
  refine call_on (s_spec_RegionValid W T cs hb) ?_
  simp
  refine ⟨fun hr => ⟨fun hl => ?_, fun hl => ?_⟩, fun hr => ?_⟩
  · intro _
    simp [digsB]; omega
  · have hl' : ds.length = cs.length := by omega
    refine loop_by (fun m E H => ∃ i : Nat, m = ds.length - i ∧ i ≤ ds.length ∧ allB i (fun k => digAt cs ds k) = true ∧ H = [some (.box [.v (.int .i64 W), .v (.int .i64 T), .sl 1 1 (bools cs)])] ∧ E = [(1, .sl 1 1 (ints ds)), (2, .lp 0 0 0 0), (5, .v (.int .i64 i))]) ds.length ⟨0, by simp [allB_zero]⟩ ?_
    rintro J hJ m E H ⟨i, rfl, hi, ha, rfl, rfl⟩
    by_cases h : i < ds.length
    · have h2 : i < cs.length := by omega
      have next : digAt cs ds i = true → again J (ds.length - i) [(1, .sl 1 1 (ints ds)), (2, .lp 0 0 0 0), (5, .v (.int .i64 (i + 1)))] [some (.box [.v (.int .i64 W), .v (.int .i64 T), .sl 1 1 (bools cs)])] :=
        fun hd => ⟨_, by omega, hJ _ _ _ ⟨i + 1, rfl, h, by rw [allB_succ, ha, hd]; rfl, rfl, rfl⟩⟩
      have stop : digAt cs ds i = false → digsB cs ds = false := fun hd => by simp only [digsB, hl', decide_true, Bool.true_and]; exact allB_false h2 hd
      cases hc : atb cs i with
      | true =>
        simp [c_spec_PuzzleValid_L0, h, h2, hc]
        refine call_on (s_spec_l1In (ati ds i) 0 6) ?_
        simp [digAt, hc] at next stop ⊢
        (repeat' first | assumption | omega | apply And.intro | intro _) <;> first | omega | exact stop (by omega) | exact next (by omega) (by omega)
      | false =>
        simp [c_spec_PuzzleValid_L0, h, h2, hc]
        simp [digAt, hc] at next stop ⊢
        exact ⟨fun hx => fun _ => stop hx, fun hx => ⟨by omega, next hx⟩⟩
    · have : i = ds.length := by omega
      subst this
      simp [c_spec_PuzzleValid_L0]
      simp [digsB, hr, hl'] at ha ⊢
      exact ha
  · simp [hr]

end Go.Proofs.Dev

namespace Go.Proofs.Dev
set_option linter.unusedSimpArgs false
set_option maxRecDepth 100000

theorem s_spec_LaidOk (W T : Int) (cs : List Bool) (ls : List Int) (hb : cs.length < 2 ^ 40) (hd : ls.length < 2 ^ 40) :
    SoundAt Tryz.prog n_spec_LaidOk [.agg [.v (.int .i64 W), .v (.int .i64 T), .sl 1 1 (bools cs)], .sl 1 1 (ints ls)] (.v (.bool (regB W T cs && laysB W T cs ls))) [.bot, .bot] := by
  refine fn_ok (md := md0) (ms := [false, false]) k_spec_LaidOk (by simp) ?_
  simp [c_spec_LaidOk]
  refine call_on (s_spec_RegionValid W T cs hb) ?_
  simp
  refine ⟨fun hr => ⟨fun hl => ?_, fun hl => ?_⟩, fun hr => ?_⟩
  · intro _
    simp [laysB]; omega
  · have hl' : ls.length = cs.length := by omega
    obtain ⟨w1, w2, t1, t2, l1, _⟩ := regB_W hr
    refine loop_by (fun m E H => ∃ i : Nat, m = ls.length - i ∧ i ≤ ls.length ∧ allB i (fun k => layAt W T cs ls k) = true ∧ H = [some (.box [.v (.int .i64 W), .v (.int .i64 T), .sl 1 1 (bools cs)])] ∧ E = [(1, .sl 1 1 (ints ls)), (2, .lp 0 0 0 0), (5, .v (.int .i64 i))]) ls.length ⟨0, by simp [allB_zero]⟩ ?_
    rintro J hJ m E H ⟨i, rfl, hi, ha, rfl, rfl⟩
    by_cases h : i < ls.length
    · have h2 : i < cs.length := by omega
      have next : layAt W T cs ls i = true → again J (ls.length - i) [(1, .sl 1 1 (ints ls)), (2, .lp 0 0 0 0), (5, .v (.int .i64 (i + 1)))] [some (.box [.v (.int .i64 W), .v (.int .i64 T), .sl 1 1 (bools cs)])] :=
        fun hd => ⟨_, by omega, hJ _ _ _ ⟨i + 1, rfl, h, by rw [allB_succ, ha, hd]; rfl, rfl, rfl⟩⟩
      have stop : layAt W T cs ls i = false → (regB W T cs && laysB W T cs ls) = false := fun hd => by rw [hr, Bool.true_and]; simp only [laysB, hl', decide_true, Bool.true_and]; exact allB_false h2 hd
      by_cases z : ati ls i = 0
      · simp [c_spec_LaidOk_L0, h, h2, z]
        exact ⟨by omega, next (by simp [layAt, z])⟩
      by_cases rg : 1 ≤ ati ls i ∧ ati ls i ≤ 4
      case neg =>
        simp [c_spec_LaidOk_L0, h, h2, z]
        refine call_on (s_spec_l1In (ati ls i) 1 4) ?_
        have hs := stop (by simp [layAt, z]; omega)
        have hx : (decide (1 ≤ ati ls i) && decide (ati ls i ≤ 4)) = false := by simp; omega
        simp [hx, hs]
      cases hc : atb cs i with
      | false =>
        simp [c_spec_LaidOk_L0, h, h2, z]
        refine call_on (s_spec_l1In (ati ls i) 1 4) ?_
        have hs := stop (by simp [layAt, z, hc])
        simp [rg, hs, hc, h2]
      | true =>
        have hst := stepI_range (T := T) (k := i) (way := ati ls i) w1 (by omega) (by omega)
        have one : SoundAt Tryz.prog n_spec_l2Step [.agg [.v (.int .i64 W), .v (.int .i64 T), .sl 1 1 (bools cs)], .v (.int .i64 i), .v (.int .i64 (ati ls i))] (.v (.int .i64 (stepI W T i (ati ls i)))) [.bot, .bot, .bot] := s_spec_l2Step W T cs i (ati ls i) hr (by omega) (by omega)
        have two := s_spec_l2Back (ati ls i) (by omega) (by omega)
        simp [layAt, z, rg, hc] at next stop
        generalize hto : stepI W T i (ati ls i) = to at *
        simp [c_spec_LaidOk_L0, h, h2, z]
        refine call_on (s_spec_l1In (ati ls i) 1 4) ?_
        simp [rg, hc, h2]
        rcases hst with hst | ⟨hst, hst2, -, -⟩
        · subst hst
          have hs := stop (by omega) hr
          (repeat' first | assumption | omega | apply And.intro | intro _) <;> first
            | assumption
            | (refine call_on one ?_; simp [hs])
        · have e1 : ¬ to < 0 := by omega
          have e2 : to < cs.length := by omega
          have e3 : to < ls.length := by omega
          cases hct : atb cs to with
          | false =>
            have hs := stop (by simp [hct]) hr
            (repeat' first | assumption | omega | apply And.intro | intro _) <;> first
              | assumption
              | (refine call_on one ?_; simp [hs, e1, e2, e3, hst, hct])
          | true =>
            simp [hst, hct] at next stop
            (repeat' first | assumption | omega | apply And.intro | intro _) <;> first
              | assumption
              | (refine call_on one ?_
                 simp [e1, e2, e3, hst, hct, h]
                 (repeat' first | assumption | omega | apply And.intro | intro _) <;> first
                  | assumption
                  | (refine call_on two ?_
                     simp [e1, e2, e3, hst, hct, h]
                     (repeat' first | assumption | omega | apply And.intro | intro _) <;> first
                      | assumption
                      | omega
                      | exact next (by assumption)
                      | exact stop (by assumption) (by assumption)))
    · have : i = ls.length := by omega
      subst this
      simp [c_spec_LaidOk_L0]
      simp [laysB, hr, hl'] at ha ⊢
      exact ha
  · simp [hr]

end Go.Proofs.Dev

namespace Go.Proofs.Dev
set_option linter.unusedSimpArgs false
set_option maxRecDepth 100000

/-- A puzzle and its dominoes are in order. -/
def okB (W T : Int) (cs : List Bool) (ds ls : List Int) : Bool := regB W T cs && (digsB cs ds && laysB W T cs ls)

theorem okB_W {W T : Int} {cs : List Bool} {ds ls : List Int} (h : okB W T cs ds ls = true) : regB W T cs = true ∧ ds.length = cs.length ∧ ls.length = cs.length ∧
    ∀ k : Nat, k < cs.length → digAt cs ds k = true ∧ layAt W T cs ls k = true := by
  simp only [okB, digsB, laysB, Bool.and_eq_true, decide_eq_true_eq, allB_iff] at h
  obtain ⟨h1, ⟨h2, h3⟩, h4, h5⟩ := h
  exact ⟨h1, h2, h4, fun k hk => ⟨h3 k (by omega), h5 k (by omega)⟩⟩

/-- What a first cell of a domino knows. -/
theorem okB_first {W T : Int} {cs : List Bool} {ds ls : List Int} (h : okB W T cs ds ls = true) {k : Nat} (hk : k < cs.length) (hw : ati ls k = 1 ∨ ati ls k = 2) :
    0 ≤ stepI W T k (ati ls k) ∧ stepI W T k (ati ls k) < cs.length ∧ (0 ≤ ati ds k ∧ ati ds k ≤ 6) ∧ (0 ≤ ati ds (stepI W T k (ati ls k)) ∧ ati ds (stepI W T k (ati ls k)) ≤ 6) := by
  obtain ⟨hr, h1, h2, h3⟩ := okB_W h
  obtain ⟨w1, w2, t1, t2, l1, _⟩ := regB_W hr
  obtain ⟨d1, p1⟩ := h3 k hk
  have hst := stepI_range (T := T) (k := k) (way := ati ls k) w1 (by omega) (by omega)
  simp only [layAt, decide_eq_true_eq] at p1
  rcases p1 with p1 | ⟨_, _, pc, p0, pt, _⟩
  · omega
  generalize hto : stepI W T k (ati ls k) = to at *
  have d2 := (h3 to.toNat (by omega)).1
  rw [show ((to.toNat : Nat) : Int) = to by omega] at d2
  simp only [digAt, pc, pt, if_true, decide_eq_true_eq] at d1 d2
  exact ⟨p0, by omega, d1, d2⟩

theorem s_spec_PairsOf (W T : Int) (cs : List Bool) (ds ls : List Int) (hb : cs.length < 2 ^ 40) (hd : ds.length < 2 ^ 40) (hl : ls.length < 2 ^ 40) :
    SoundAt Tryz.prog n_spec_PairsOf [.agg [.v (.int .i64 W), .v (.int .i64 T), .sl 1 1 (bools cs)], .sl 1 1 (ints ds), .sl 1 1 (ints ls)] (.os 1 (ints (if okB W T cs ds ls then pairsI W T ds ls else []))) [.bot, .bot, .bot] := by
  refine fn_ok (md := md0) (ms := [false, false, false]) k_spec_PairsOf (by simp) ?_
  simp [c_spec_PairsOf]
  refine loop_by (fun m E H => ∃ i : Nat, m = ls.length - i ∧ i ≤ ls.length ∧ (i = 0 ∨ okB W T cs ds ls = true) ∧ H = [some (.box [.v (.int .i64 W), .v (.int .i64 T), .sl 1 1 (bools cs)]), some (.arr 1 (ints (pairsTo W T ds ls i)))] ∧
    E = [(1, .sl 1 1 (ints ds)), (2, .sl 1 1 (ints ls)), (3, .lp 0 0 0 0), (7, .ls 1 1 0 (pairsTo W T ds ls i).length), (8, .v (.int .i64 i))]) ls.length ⟨0, by simp [pairsTo]⟩ ?_
  rintro J hJ m E H ⟨i, rfl, hi, hz, rfl, rfl⟩
  by_cases h : i < ls.length
  case neg =>
    have : i = ls.length := by omega
    subst this
    simp [c_spec_PairsOf_L0]
    rcases hz with hz | hz
    · have : ls = [] := List.eq_nil_of_length_eq_zero hz
      subst this
      simp [pairsI, pairsTo]
    · simp [hz, pairsI]
  simp [c_spec_PairsOf_L0, h]
  refine call_on (s_spec_PuzzleValid W T cs ds hb hd) ?_
  have ok0 : okB W T cs ds ls = false → i = 0 := fun h => by rcases hz with hz | hz; exact hz; rw [h] at hz; cases hz
  cases hp : (regB W T cs && digsB cs ds) with
  | false =>
    have hn : okB W T cs ds ls = false := by simp only [okB, ← Bool.and_assoc, hp, Bool.false_and]
    have := ok0 hn; subst this
    simp [hn, pairsTo]
  | true =>
  simp
  refine call_on (s_spec_LaidOk W T cs ls hb hl) ?_
  cases hp2 : (regB W T cs && laysB W T cs ls) with
  | false =>
    have hn : okB W T cs ds ls = false := by
      simp only [Bool.and_eq_true] at hp
      rw [hp.1, Bool.true_and] at hp2
      simp [okB, hp2]
    have := ok0 hn; subst this
    simp [hn, pairsTo]
  | true =>
  have hok : okB W T cs ds ls = true := by
    simp only [Bool.and_eq_true] at hp hp2
    simp [okB, hp, hp2]
  obtain ⟨hr, e1, e2, _⟩ := okB_W hok
  have hlen := pairsTo_length W T ds ls i
  have hl36 := regB_len hr
  have hsuc := pairsTo_succ W T ds ls i
  have next : ∀ (x : List Int), pairsTo W T ds ls (i + 1) = pairsTo W T ds ls i ++ x → again J (ls.length - i) [(1, .sl 1 1 (ints ds)), (2, .sl 1 1 (ints ls)), (3, .lp 0 0 0 0), (7, .ls 1 1 0 ((pairsTo W T ds ls i).length + x.length)), (8, .v (.int .i64 (i + 1)))]
      [some (.box [.v (.int .i64 W), .v (.int .i64 T), .sl 1 1 (bools cs)]), some (.arr 1 (ints (pairsTo W T ds ls i) ++ ints x))] := by
    intro x hx
    refine ⟨_, by omega, hJ _ _ _ ⟨i + 1, rfl, h, .inr hok, ?_, ?_⟩⟩
    · rw [hx, ints_append]
    · rw [hx, List.length_append]; rfl
  have hds : i < ds.length := by omega
  by_cases hw : ati ls i = 1 ∨ ati ls i = 2
  · obtain ⟨o1, o2, o3, o4⟩ := okB_first hok (k := i) (by omega) hw
    have one : SoundAt Tryz.prog n_spec_l2Step [.agg [.v (.int .i64 W), .v (.int .i64 T), .sl 1 1 (bools cs)], .v (.int .i64 i), .v (.int .i64 (ati ls i))] (.v (.int .i64 (stepI W T i (ati ls i)))) [.bot, .bot, .bot] := s_spec_l2Step W T cs i (ati ls i) hr (by omega) (by omega)
    have two := s_spec_PairOf (ati ds i) (ati ds (stepI W T i (ati ls i))) o3 o4
    have next1 := next _ (by rw [hsuc, if_pos hw])
    clear hsuc next
    simp at next1
    generalize hto : stepI W T i (ati ls i) = to at *
    have o5 : to < ds.length := by omega
    have hb : (pairsTo W T ds ls i).length ≤ 36 := by omega
    rcases hw with hw | hw <;> rw [hw] at one <;>
    · simp [h, hw, hds]
      (repeat' first | assumption | apply And.intro) <;>
      · refine call_on one ?_
        simp [o1, o5, hds]
        (repeat' first | assumption | apply And.intro) <;>
        · refine call_on two ?_
          simp
          exact ⟨by omega, by omega, next1⟩
  · have hw1 : ¬ ati ls i = 1 := fun e => hw (.inl e)
    have hw2 : ¬ ati ls i = 2 := fun e => hw (.inr e)
    simp [h, hw1, hw2]
    rw [if_neg hw, List.append_nil] at hsuc
    refine ⟨by omega, _, by omega, hJ _ _ _ ⟨i + 1, rfl, h, .inr hok, ?_, ?_⟩⟩ <;> rw [hsuc]
    rfl

end Go.Proofs.Dev
