/- Contracts of the functions of the program over slots and rows, each proved against the program itself; no condition beyond those that each theorem names. -/
import Derived.Test.YtfkmfobbgoflgaaGreatDoorRows
import Derived.ProofKit
import Derived.Test.YtfkmfobbgoflgaaGreatDoorAH
import Derived.Test.YtfkmfobbgoflgaaGreatDoorTie
import Derived.Test.YtfkmfobbgoflgaaGreatDoorCards
import Derived.SevenTiedAt
import Derived.ChangeMaps5
import Derived.Test.YtfkmfobbgoflgaaGreatDoorProg

set_option linter.unusedSimpArgs false
set_option linter.unusedVariables false

namespace Go.Proofs.YtfkmfobbgoflgaaGreatDoor
theorem fact_mayEnter : Tryz.prog.mayEnter = true := by kernel_rfl
theorem fact_make : Tryz.prog.make = some .cut := by kernel_rfl
theorem fact_liftsFinal : Tryz.prog.liftsFinal = false := by kernel_rfl
end Go.Proofs.YtfkmfobbgoflgaaGreatDoor

namespace Go.Proofs.YtfkmfobbgoflgaaGreatDoor
open Go.ChangeShapes Go.WideShapes Go.ChangeAt Go.RowKit Go.Proofs.Dev

theorem own : ownKnob Tryz.prog.godebug = none := by kernel_rfl
theorem laidOut : laidOutB Tryz.prog = true := by kernel_rfl
theorem kStr : Tryz.prog.cellsOf 9 = 1 := by kernel_rfl
theorem cells5 : Tryz.prog.cellsOf 5 = 1 := by kernel_rfl
theorem rBytes : Tryz.prog.readableRec 22 = true := by kernel_rfl
theorem gWords : Tryz.prog.globalNamed "loop.example/dominotilings/impl.deedWords" = some 0 := by kernel_rfl
theorem tWords : (Tryz.prog.globals[0]?).map (·.type) = some 58 := by kernel_rfl
theorem rWords : Tryz.prog.readableRec 58 = true ∧ 58 < Tryz.prog.types.size := ⟨by kernel_rfl, of_decide_eq_true (by kernel_rfl)⟩

theorem RL_one {C : Ctx} {a : AV} {v : Value} (h : R C a [] v) : RL C [a] [] [v] := by
  rw [RL]
  exact ⟨[], [], _, _, rfl, rfl, h, by rw [RL]; exact ⟨rfl, rfl⟩⟩

abbrev wordsL : List (List UInt8) := [[108, 97, 121], [108, 105, 102, 116], [102, 108, 105, 112], [102, 111, 114, 99, 101], [98, 97, 99, 107]]

/-- What the words of deeds are. -/
theorem words_of {l : List (String × DataW Unit)} {W : World} (hp : (l.all fun x => x.2.handleName?.isNone) = true) (hm : ("loop.example/dominotilings/impl.deedWords", (Rows.laid_loop_example_dominotilings_impl_deedWords : DataW Unit)) ∈ l) (h : laidMetH Tryz.prog l W) :
    R (gCtx W [] fun _ => False) (.vp 0 [.sl 0 1 (txs wordsL)] 0) [] (.pointer (some ⟨0, 0, none⟩)) := by
  rw [MakeChecks.laidMetH_plain _ _ _ hp] at h
  obtain ⟨ps, h1, _, _⟩ := h
  obtain ⟨g, t, cs, fuel, p, e1, e2, e3, e4⟩ := laid_at h1 hm
  rw [gWords] at e1; cases e1
  rw [tWords] at e2; cases e2
  exact words_view gWords Tryz.underlying58 Tryz.underlying9 kStr e3 e4

theorem gb_of {l : List (String × DataW Unit)} {W : World} (hp : (l.all fun x => x.2.handleName?.isNone) = true) (hm : ("loop.example/dominotilings/impl.deedWords", (Rows.laid_loop_example_dominotilings_impl_deedWords : DataW Unit)) ∈ l) (h : laidMetH Tryz.prog l W) (hg : GP W [] fun _ => False) : GB W [] fun _ => False := by
  refine ⟨?_, hg⟩
  show RL (gCtx W [] fun _ => False) [_] [] [_]
  rw [RL]
  exact ⟨[], [], _, _, rfl, rfl, words_of hp hm h, by rw [RL]; exact ⟨rfl, rfl⟩⟩

theorem gSyn : Tryz.prog.globalNamed "strconv.ErrSyntax" = some 2 := by kernel_rfl
theorem gRng : Tryz.prog.globalNamed "strconv.ErrRange" = some 3 := by kernel_rfl
theorem tSyn : (Tryz.prog.globals[2]?).map (·.type) = some 76 := by kernel_rfl
theorem tRng : (Tryz.prog.globals[3]?).map (·.type) = some 76 := by kernel_rfl

theorem gp_of {l : List (String × DataW Unit)} {W : World} (hp : (l.all fun x => x.2.handleName?.isNone) = true) (hm2 : ("strconv.ErrSyntax", (Rows.laid_strconv_ErrSyntax : DataW Unit)) ∈ l) (hm3 : ("strconv.ErrRange", (Rows.laid_strconv_ErrRange : DataW Unit)) ∈ l)
    (hsh : W.ShapedOpen Tryz.prog) (h : laidMetH Tryz.prog l W) : GP W [] fun _ => False := by
  rw [MakeChecks.laidMetH_plain _ _ _ hp] at h
  obtain ⟨ps, h1, _, _⟩ := h
  intro p hpm
  simp only [gps, List.mem_cons, List.not_mem_nil, or_false] at hpm
  refine ⟨⟨by simp, by simp⟩, ?_⟩
  rcases hpm with rfl | rfl | rfl
  · obtain ⟨m, hm⟩ := cell_of_shapedOpen_int (g := 1) (zero := #[.int .i64 0]) (t := 3) hsh (of_decide_eq_true (by kernel_rfl)) (by kernel_rfl) rfl (by kernel_rfl) (by kernel_rfl) Tryz.underlying3
    exact ⟨_, hm, m, rfl⟩
  · exact err_cell h1 hm2 gSyn tSyn Tryz.underlying76
  · exact err_cell h1 hm3 gRng tRng Tryz.underlying76

theorem byte_law {P : Program} {f : Nat} {bs : List Int} (h : SoundAt P f [.sl 0 1 (u8s bs)] (.v (.bool true)) [.bot]) : SoundAt P f [.sl 1 1 (u8s bs)] (.v (.bool true)) [.bot] := by
  refine SoundAt.lift (n := 1) (fun C S us hr => noOL_ok _ S us (noOL_u8s 1 bs) hr) rfl ?_
  have e : vwL 0 [AV.sl 1 1 (u8s bs)] = [AV.sl 0 1 (u8s bs)] := by simp [vwL, vw]
  rw [e]
  exact h

end Go.Proofs.YtfkmfobbgoflgaaGreatDoor

namespace Go.Proofs.Dev

-- 3 parameters, results [.t 6], 15 slots, modes [false, false, false]
@[simp] abbrev n_spec_l1In : Nat := 106

def c_spec_l1In : ACode := .seq (.reg [.o 6 .mv [.kb false]]) <| .seq (.reg [.m 7 0, .m 8 1, .o 9 (.bin .geq 0) [.t 7, .t 8], .m 10 9, .mg 11 0 10 true,
 .mg 12 2 10 true, .g 13 (.bin .leq 0) [.t 11, .t 12] 10 true, .o 14 .pick [.t 10, .t 13, .kb false], .m 6 14]) <| .ret

theorem k_spec_l1In : cFn Tryz.prog n_spec_l1In 15 [.t 6] c_spec_l1In := ⟨Tryz.f106, _, Tryz.func106, rfl, by kernel_rfl, by kernel_rfl, by kernel_rfl, by kernel_rfl⟩

-- 1 parameters, results [.t 2], 18 slots, modes [false]
@[simp] abbrev n_spec_l1Count : Nat := 203
def c_spec_l1Count_L0 : ACode := .seq (.seq (.reg [.m 5 4, .m 6 0, .n 7 6, .o 8 (.bin .lss 0) [.t 5, .t 7]]) <| .cond (.t 8) ( .skip) ( .exit 0)) <|
 .seq (.block 1 ( .seq (.reg [.m 11 0, .m 12 4, .o 13 (.iadr 1) [.t 11, .t 12], .l 14 13]) <| .cond (.t 14) ( .reg [.m 15 3, .o 16 (.bin .add 0) [.t 15, .k 1],
 .m 3 16]) ( .skip))) <| .reg [.m 9 4, .o 10 (.bin .add 0) [.t 9, .k 1], .m 4 10]

def c_spec_l1Count : ACode := .seq (.reg [.o 2 .mv [.k 0]]) <| .seq (.reg [.o 3 .mv [.k 0]]) <| .seq (.seq (.reg [.o 4 .mv [.k 0]]) <| .block 0 ( .loop [(0,
 1)] [0, 3, 4] c_spec_l1Count_L0)) <| .seq (.reg [.m 17 3, .m 2 17]) <| .ret

theorem k_spec_l1Count : cFn Tryz.prog n_spec_l1Count 18 [.t 2] c_spec_l1Count := ⟨Tryz.f203, _, Tryz.func203, rfl, by kernel_rfl, by kernel_rfl, by kernel_rfl, by kernel_rfl⟩

-- 1 parameters, results [.t 2], 28 slots, modes [false]
@[simp] abbrev n_spec_RegionValid : Nat := 168

def c_spec_RegionValid : ACode := .seq (.reg [.o 1 .box [.t 0], .o 2 .mv [.kb false]]) <| .seq (.reg [.f 3 0 1, .l 4 3, .o 5 (.call 106 []) [.t 4, .k 1, .k 6],
 .m 6 5, .fg 7 1 1 6 true, .lg 8 7 6 true, .g 9 (.call 106 []) [.t 8, .k 1, .k 6] 6 true, .o 10 .pick [.t 6, .t 9, .kb false], .m 11 10, .fg 12 2 1 11 true,
 .lg 13 12 11 true, .g 14 (.len false) [.t 13] 11 true, .fg 15 0 1 11 true, .lg 16 15 11 true, .fg 17 1 1 11 true, .lg 18 17 11 true, .g 19 (.bin .mul 0) [.t 16,
 .t 18] 11 true, .g 20 (.bin .eql 0) [.t 14, .t 19] 11 true, .o 21 .pick [.t 11, .t 20, .kb false], .m 22 21, .fg 23 2 1 22 true, .lg 24 23 22 true,
 .g 25 (.call 203 []) [.t 24] 22 true, .g 26 (.bin .leq 0) [.t 25, .k 24] 22 true, .o 27 .pick [.t 22, .t 26, .kb false], .m 2 27]) <| .ret

theorem k_spec_RegionValid : cFn Tryz.prog n_spec_RegionValid 28 [.t 2] c_spec_RegionValid := ⟨Tryz.f168, _, Tryz.func168, rfl, by kernel_rfl, by kernel_rfl, by kernel_rfl, by kernel_rfl⟩

-- 2 parameters, results [.t 4], 51 slots, modes [false, false]
@[simp] abbrev n_spec_PuzzleValid : Nat := 121
def c_spec_PuzzleValid_L0 : ACode := .seq (.seq (.reg [.m 17 5, .m 18 1, .n 19 18, .o 20 (.bin .lss 0) [.t 17, .t 19]]) <| .cond (.t 20) ( .skip) ( .exit 0)) <|
 .seq (.block 1 ( .seq (.reg [.f 23 2 2, .l 24 23, .m 25 5, .o 26 (.iadr 1) [.t 24, .t 25], .l 27 26, .m 28 27, .mg 29 1 28 true, .mg 30 5 28 true,
 .g 31 (.iadr 1) [.t 29, .t 30] 28 true, .lg 32 31 28 true, .g 33 (.call 106 []) [.t 32, .k 0, .k 6] 28 true, .g 34 (.un .not) [.t 33] 28 true,
 .o 35 .pick [.t 28, .t 34, .kb false], .m 36 35, .fg 37 2 2 36 false, .lg 38 37 36 false, .mg 39 5 36 false, .g 40 (.iadr 1) [.t 38, .t 39] 36 false,
 .lg 41 40 36 false, .g 42 (.un .not) [.t 41] 36 false, .mg 43 42 36 false, .mg 44 1 43 true, .mg 45 5 43 true, .g 46 (.iadr 1) [.t 44, .t 45] 43 true,
 .lg 47 46 43 true, .g 48 (.bin .neq 0) [.t 47, .k (-1)] 43 true, .g 49 .pick [.t 43, .t 48, .kb false] 36 false, .o 50 .pick [.t 36, .kb true, .t 49]]) <|
 .cond (.t 50) ( .seq (.reg [.o 4 .mv [.kb false]]) <| .ret) ( .skip))) <| .reg [.m 21 5, .o 22 (.bin .add 0) [.t 21, .k 1], .m 5 22]

def c_spec_PuzzleValid : ACode := .seq (.reg [.o 2 .box [.t 0], .o 4 .mv [.kb false]]) <| .seq (.seq (.reg [.la 6 3 2, .o 7 (.call 168 []) [.t 6],
 .o 8 (.un .not) [.t 7], .m 9 8, .mg 10 1 9 false, .g 11 (.len false) [.t 10] 9 false, .fg 12 2 2 9 false, .lg 13 12 9 false, .g 14 (.len false) [.t 13] 9 false,
 .g 15 (.bin .neq 0) [.t 11, .t 14] 9 false, .o 16 .pick [.t 9, .kb true, .t 15]]) <| .cond (.t 16) ( .seq (.reg [.o 4 .mv [.kb false]]) <| .ret) ( .skip)) <|
 .seq (.seq (.reg [.o 5 .mv [.k 0]]) <| .block 0 ( .loop [(1, 1)] [1, 2, 5] c_spec_PuzzleValid_L0)) <| .seq (.reg [.o 4 .mv [.kb true]]) <| .ret

theorem k_spec_PuzzleValid : cFn Tryz.prog n_spec_PuzzleValid 51 [.t 4] c_spec_PuzzleValid := ⟨Tryz.f121, _, Tryz.func121, rfl, by kernel_rfl, by kernel_rfl, by kernel_rfl, by kernel_rfl⟩

-- 3 parameters, results [.t 6], 65 slots, modes [false, false, false]
@[simp] abbrev n_spec_l2Step : Nat := 169

def c_spec_l2Step : ACode := .seq (.reg [.o 3 .box [.t 0], .o 6 .mv [.k 0]]) <| .seq (.block 0 ( .seq (.draw ( .take (.m 8 2) <|
 .take (.o 9 (.bin .eql 0) [.t 8, .k 1]) <| .take (.m 10 9) <| .take (.mg 11 1 10 true) <| .take (.fg 12 0 3 10 true) <| .take (.fg 15 0 3 10 true) <|
 .alt (.lg 13 12 10 true) ( .take (.g 14 (.bin .rem 0) [.t 11, .t 13] 10 true) <| .al (.lg 16 15 10 true) ( .take (.g 17 (.bin .sub 0) [.t 16, .k 1] 10 true) <|
 .take (.g 18 (.bin .lss 0) [.t 14, .t 17] 10 true) <| .take (.o 19 .pick [.t 10, .t 18, .kb false]) <| .take (.m 7 19) <| .done)) <|
 .al (.lg 16 15 10 true) ( .take (.g 17 (.bin .sub 0) [.t 16, .k 1] 10 true) <| .al (.lg 13 12 10 true) ( .take (.g 14 (.bin .rem 0) [.t 11, .t 13] 10 true) <|
 .take (.g 18 (.bin .lss 0) [.t 14, .t 17] 10 true) <| .take (.o 19 .pick [.t 10, .t 18, .kb false]) <| .take (.m 7 19) <| .done)))) <|
 .cond (.t 7) ( .seq (.reg [.m 20 1, .o 21 (.bin .add 0) [.t 20, .k 1], .m 6 21]) <| .ret) ( .seq (.draw ( .take (.m 23 2) <| .take (.o 24 (.bin .eql 0) [.t 23,
 .k 2]) <| .take (.m 25 24) <| .take (.mg 26 1 25 true) <| .take (.fg 27 0 3 25 true) <| .take (.fg 30 1 3 25 true) <|
 .alt (.lg 28 27 25 true) ( .take (.g 29 (.bin .quo 0) [.t 26, .t 28] 25 true) <| .al (.lg 31 30 25 true) ( .take (.g 32 (.bin .sub 0) [.t 31, .k 1] 25 true) <|
 .take (.g 33 (.bin .lss 0) [.t 29, .t 32] 25 true) <| .take (.o 34 .pick [.t 25, .t 33, .kb false]) <| .take (.m 22 34) <| .done)) <|
 .al (.lg 31 30 25 true) ( .take (.g 32 (.bin .sub 0) [.t 31, .k 1] 25 true) <| .al (.lg 28 27 25 true) ( .take (.g 29 (.bin .quo 0) [.t 26, .t 28] 25 true) <|
 .take (.g 33 (.bin .lss 0) [.t 29, .t 32] 25 true) <| .take (.o 34 .pick [.t 25, .t 33, .kb false]) <| .take (.m 22 34) <| .done)))) <|
 .cond (.t 22) ( .seq (.reg [.m 35 1, .f 36 0 3, .l 37 36, .o 38 (.bin .add 0) [.t 35, .t 37], .m 6 38]) <| .ret) ( .seq (.reg [.m 40 2,
 .o 41 (.bin .eql 0) [.t 40, .k 3], .m 42 41, .mg 43 1 42 true, .fg 44 0 3 42 true, .lg 45 44 42 true, .g 46 (.bin .rem 0) [.t 43, .t 45] 42 true,
 .g 47 (.bin .gtr 0) [.t 46, .k 0] 42 true, .o 48 .pick [.t 42, .t 47, .kb false], .m 39 48]) <| .cond (.t 39) ( .seq (.reg [.m 49 1, .o 50 (.bin .sub 0) [.t 49,
 .k 1], .m 6 50]) <| .ret) ( .seq (.reg [.m 52 2, .o 53 (.bin .eql 0) [.t 52, .k 4], .m 54 53, .mg 55 1 54 true, .fg 56 0 3 54 true, .lg 57 56 54 true,
 .g 58 (.bin .quo 0) [.t 55, .t 57] 54 true, .g 59 (.bin .gtr 0) [.t 58, .k 0] 54 true, .o 60 .pick [.t 54, .t 59, .kb false], .m 51 60]) <|
 .cond (.t 51) ( .seq (.reg [.m 61 1, .f 62 0 3, .l 63 62, .o 64 (.bin .sub 0) [.t 61, .t 63], .m 6 64]) <| .ret) ( .skip)))))) <|
 .seq (.reg [.o 6 .mv [.k (-1)]]) <| .ret

theorem k_spec_l2Step : cFn Tryz.prog n_spec_l2Step 65 [.t 6] c_spec_l2Step := ⟨Tryz.f169, _, Tryz.func169, rfl, by kernel_rfl, by kernel_rfl, by kernel_rfl, by kernel_rfl⟩

-- 1 parameters, results [.t 2], 7 slots, modes [false]
@[simp] abbrev n_spec_l2Back : Nat := 170

def c_spec_l2Back : ACode := .seq (.reg [.o 2 .mv [.k 0]]) <| .seq (.reg [.m 3 0, .o 4 (.bin .add 0) [.t 3, .k 1], .o 5 (.bin .rem 0) [.t 4, .k 4],
 .o 6 (.bin .add 0) [.t 5, .k 1], .m 2 6]) <| .ret

theorem k_spec_l2Back : cFn Tryz.prog n_spec_l2Back 7 [.t 2] c_spec_l2Back := ⟨Tryz.f170, _, Tryz.func170, rfl, by kernel_rfl, by kernel_rfl, by kernel_rfl, by kernel_rfl⟩

-- 2 parameters, results [.t 4], 72 slots, modes [false, false]
@[simp] abbrev n_spec_LaidOk : Nat := 122
abbrev c_spec_LaidOk_L0_p0 : Plan := .take (.g 70 (.bin .neq 0) [.t 64, .t 69] 60 false) <| .take (.o 71 .pick [.t 60, .kb true, .t 70]) <| .done
abbrev c_spec_LaidOk_L0_p1 : Plan := .al (.o 49 (.call 169 []) [.t 43, .t 44, .t 48]) ( .take (.m 6 49) <| .done)
abbrev c_spec_LaidOk_L0_p2 : Plan := .al (.g 69 (.call 170 []) [.t 68] 60 false) c_spec_LaidOk_L0_p0
def c_spec_LaidOk_L0 : ACode := .seq (.seq (.reg [.m 18 5, .m 19 1, .n 20 19, .o 21 (.bin .lss 0) [.t 18, .t 20]]) <| .cond (.t 21) ( .skip) ( .exit 0)) <|
 .seq (.block 1 ( .seq (.seq (.reg [.m 24 1, .m 25 5, .o 26 (.iadr 1) [.t 24, .t 25], .l 27 26, .o 28 (.bin .eql 0) [.t 27, .k 0]]) <|
 .cond (.t 28) ( .exit 1) ( .skip)) <| .seq (.seq (.reg [.m 29 1, .m 30 5, .o 31 (.iadr 1) [.t 29, .t 30], .l 32 31, .o 33 (.call 106 []) [.t 32, .k 1, .k 4],
 .o 34 (.un .not) [.t 33], .m 35 34, .fg 36 2 2 35 false, .lg 37 36 35 false, .mg 38 5 35 false, .g 39 (.iadr 1) [.t 37, .t 38] 35 false, .lg 40 39 35 false,
 .g 41 (.un .not) [.t 40] 35 false, .o 42 .pick [.t 35, .kb true, .t 41]]) <| .cond (.t 42) ( .seq (.reg [.o 4 .mv [.kb false]]) <| .ret) ( .skip)) <|
 .seq (.draw ( .take (.m 44 5) <| .take (.m 45 1) <| .take (.m 46 5) <| .take (.o 47 (.iadr 1) [.t 45, .t 46]) <|
 .alt (.la 43 3 2) ( .al (.l 48 47) c_spec_LaidOk_L0_p1) <|
 .al (.l 48 47) ( .al (.la 43 3 2) c_spec_LaidOk_L0_p1))) <| .seq (.draw ( .take (.m 50 6) <|
 .take (.o 51 (.bin .lss 0) [.t 50, .k 0]) <| .take (.m 52 51) <| .take (.fg 53 2 2 52 false) <| .take (.mg 55 6 52 false) <|
 .al (.lg 54 53 52 false) ( .take (.g 56 (.iadr 1) [.t 54, .t 55] 52 false) <| .al (.lg 57 56 52 false) ( .take (.g 58 (.un .not) [.t 57] 52 false) <|
 .take (.o 59 .pick [.t 52, .kb true, .t 58]) <| .take (.m 60 59) <| .take (.mg 61 1 60 false) <| .take (.mg 62 6 60 false) <| .take (.g 63 (.iadr 1) [.t 61,
 .t 62] 60 false) <| .take (.mg 65 1 60 false) <| .take (.mg 66 5 60 false) <| .take (.g 67 (.iadr 1) [.t 65, .t 66] 60 false) <|
 .alt (.lg 64 63 60 false) ( .al (.lg 68 67 60 false) c_spec_LaidOk_L0_p2) <|
 .al (.lg 68 67 60 false) ( .alt (.lg 64 63 60 false) c_spec_LaidOk_L0_p2 <|
 .al (.g 69 (.call 170 []) [.t 68] 60 false) ( .al (.lg 64 63 60 false) c_spec_LaidOk_L0_p0)))))) <| .cond (.t 71) ( .seq (.reg [.o 4 .mv [.kb false]]) <| .ret) ( .skip))) <| .reg [.m 22 5, .o 23 (.bin .add 0) [.t 22, .k 1],
 .m 5 23]

def c_spec_LaidOk : ACode := .seq (.reg [.o 2 .box [.t 0], .o 4 .mv [.kb false]]) <| .seq (.seq (.reg [.la 7 3 2, .o 8 (.call 168 []) [.t 7],
 .o 9 (.un .not) [.t 8], .m 10 9, .mg 11 1 10 false, .g 12 (.len false) [.t 11] 10 false, .fg 13 2 2 10 false, .lg 14 13 10 false,
 .g 15 (.len false) [.t 14] 10 false, .g 16 (.bin .neq 0) [.t 12, .t 15] 10 false, .o 17 .pick [.t 10, .kb true, .t 16]]) <|
 .cond (.t 17) ( .seq (.reg [.o 4 .mv [.kb false]]) <| .ret) ( .skip)) <| .seq (.seq (.reg [.o 5 .mv [.k 0]]) <| .block 0 ( .loop [(1, 1)] [1, 2,
 5] c_spec_LaidOk_L0)) <| .seq (.reg [.o 4 .mv [.kb true]]) <| .ret

theorem k_spec_LaidOk : cFn Tryz.prog n_spec_LaidOk 72 [.t 4] c_spec_LaidOk := ⟨Tryz.f122, _, Tryz.func122, rfl, by kernel_rfl, by kernel_rfl, by kernel_rfl, by kernel_rfl⟩

-- 2 parameters, results [.t 4], 21 slots, modes [false, false]
@[simp] abbrev n_spec_PairOf : Nat := 172

def c_spec_PairOf : ACode := .seq (.reg [.o 4 .mv [.k 0]]) <| .seq (.seq (.reg [.m 5 0, .o 6 (.call 106 []) [.t 5, .k 0, .k 6], .o 7 (.un .not) [.t 6], .m 8 7,
 .mg 9 1 8 false, .g 10 (.call 106 []) [.t 9, .k 0, .k 6] 8 false, .g 11 (.un .not) [.t 10] 8 false, .o 12 .pick [.t 8, .kb true, .t 11]]) <|
 .cond (.t 12) ( .seq (.reg [.o 4 .mv [.k (-1)]]) <| .ret) ( .skip)) <| .seq (.reg [.m 13 0, .m 14 1, .o 15 (.mnx true) [.t 13, .t 14],
 .o 16 (.bin .mul 0) [.k 7, .t 15], .m 17 0, .m 18 1, .o 19 (.mnx false) [.t 17, .t 18], .o 20 (.bin .add 0) [.t 16, .t 19], .m 4 20]) <| .ret

theorem k_spec_PairOf : cFn Tryz.prog n_spec_PairOf 21 [.t 4] c_spec_PairOf := ⟨Tryz.f172, _, Tryz.func172, rfl, by kernel_rfl, by kernel_rfl, by kernel_rfl, by kernel_rfl⟩

-- 3 parameters, results [.t 6], 57 slots, modes [false, false, false]
@[simp] abbrev n_spec_PairsOf : Nat := 124
abbrev c_spec_PairsOf_L0_p0 : Plan := .al (.o 53 (.call 172 []) [.t 42, .t 52]) ( .al (.o 54 (.bsl 1) [.t 53]) ( .al (.o 55 (.app 1 8 true) [.t 38, .t 54]) ( .take (.m 7 55) <| .done)))
abbrev c_spec_PairsOf_L0_p1 : Plan := .al (.o 50 (.call 169 []) [.t 44, .t 45, .t 49]) ( .take (.o 51 (.iadr 1) [.t 43, .t 50]) <| .al (.l 52 51) c_spec_PairsOf_L0_p0)
abbrev c_spec_PairsOf_L0_p2 : Plan := .alt (.l 42 41) c_spec_PairsOf_L0_p1 <| .al (.o 50 (.call 169 []) [.t 44, .t 45, .t 49]) ( .take (.o 51 (.iadr 1) [.t 43, .t 50]) <| .alt (.l 42 41) ( .al (.l 52 51) c_spec_PairsOf_L0_p0) <| .al (.l 52 51) ( .al (.l 42 41) c_spec_PairsOf_L0_p0))
def c_spec_PairsOf_L0 : ACode := .seq (.seq (.reg [.m 10 8, .m 11 2, .n 12 11, .o 13 (.bin .lss 0) [.t 10, .t 12], .m 14 13,
 .g 15 (.load true 3) [.t 3] 14 true, .mg 16 1 14 true, .g 17 (.call 121 []) [.t 15, .t 16] 14 true, .o 18 .pick [.t 14, .t 17, .kb false], .m 19 18,
 .g 20 (.load true 3) [.t 3] 19 true, .mg 21 2 19 true, .g 22 (.call 122 []) [.t 20, .t 21] 19 true, .o 23 .pick [.t 19, .t 22, .kb false]]) <|
 .cond (.t 23) ( .skip) ( .exit 0)) <| .seq (.block 1 ( .seq (.reg [.m 26 2, .m 27 8, .o 28 (.iadr 1) [.t 26, .t 27], .l 29 28, .o 30 (.bin .eql 0) [.t 29,
 .k 1], .m 31 30, .mg 32 2 31 false, .mg 33 8 31 false, .g 34 (.iadr 1) [.t 32, .t 33] 31 false, .lg 35 34 31 false, .g 36 (.bin .eql 0) [.t 35, .k 2] 31 false,
 .o 37 .pick [.t 31, .kb true, .t 36]]) <| .cond (.t 37) ( .draw ( .take (.m 38 7) <| .take (.m 39 1) <| .take (.m 40 8) <| .take (.o 41 (.iadr 1) [.t 39,
 .t 40]) <| .take (.m 43 1) <| .take (.m 45 8) <| .take (.m 46 2) <| .take (.m 47 8) <| .take (.o 48 (.iadr 1) [.t 46, .t 47]) <|
 .alt (.l 42 41) ( .alt (.la 44 3 3) ( .al (.l 49 48) c_spec_PairsOf_L0_p1) <| .al (.l 49 48) ( .al (.la 44 3 3) c_spec_PairsOf_L0_p1)) <| .alt (.la 44 3 3) ( .alt (.l 42 41) ( .al (.l 49 48) c_spec_PairsOf_L0_p1) <| .al (.l 49 48) c_spec_PairsOf_L0_p2) <| .al (.l 49 48) ( .alt (.l 42 41) ( .al (.la 44 3 3) c_spec_PairsOf_L0_p1) <|
 .al (.la 44 3 3) c_spec_PairsOf_L0_p2))) ( .skip))) <| .reg [.m 24 8,
 .o 25 (.bin .add 0) [.t 24, .k 1], .m 8 25]

def c_spec_PairsOf : ACode := .seq (.reg [.o 3 .box [.t 0], .o 6 .mv [.c (.os 1 [])]]) <| .seq (.reg [.o 9 (.bsl 1) [], .m 7 9]) <|
 .seq (.seq (.reg [.o 8 .mv [.k 0]]) <| .block 0 ( .loop [(1, 1), (2, 1), (7, 1)] [1, 2, 3, 7, 8] c_spec_PairsOf_L0)) <| .seq (.reg [.m 56 7, .m 6 56]) <| .ret

theorem k_spec_PairsOf : cFn Tryz.prog n_spec_PairsOf 57 [.t 6] c_spec_PairsOf := ⟨Tryz.f124, _, Tryz.func124, rfl, by kernel_rfl, by kernel_rfl, by kernel_rfl, by kernel_rfl⟩

-- 3 parameters, results [.t 6], 15 slots, modes [false, false, false]
@[simp] abbrev n_impl_in : Nat := 63

def c_impl_in : ACode := .seq (.reg [.o 6 .mv [.kb false]]) <| .seq (.reg [.m 7 0, .m 8 1, .o 9 (.bin .geq 0) [.t 7, .t 8], .m 10 9, .mg 11 0 10 true,
 .mg 12 2 10 true, .g 13 (.bin .leq 0) [.t 11, .t 12] 10 true, .o 14 .pick [.t 10, .t 13, .kb false], .m 6 14]) <| .ret

theorem k_impl_in : cFn Tryz.prog n_impl_in 15 [.t 6] c_impl_in := ⟨Tryz.f63, _, Tryz.func63, rfl, by kernel_rfl, by kernel_rfl, by kernel_rfl, by kernel_rfl⟩

-- 1 parameters, results [.t 2], 17 slots, modes [false]
@[simp] abbrev n_impl_many : Nat := 109
def c_impl_many_L0 : ACode := .seq (.reg [.o 9 (.bin .lss 0) [.t 8, .t 7]]) <| .seq (.cond (.t 9) ( .skip) ( .exit 0)) <|
 .seq (.block 1 ( .seq (.reg [.o 10 (.iadr 1) [.t 6, .t 8], .l 11 10, .m 5 11]) <| .seq (.reg [.m 12 5]) <| .cond (.t 12) ( .reg [.m 13 3,
 .o 14 (.bin .add 0) [.t 13, .k 1], .m 3 14]) ( .skip))) <| .reg [.o 15 (.bin .add 0) [.t 8, .k 1], .m 8 15]

def c_impl_many : ACode := .seq (.reg [.o 2 .mv [.k 0]]) <| .seq (.reg [.o 3 .mv [.k 0]]) <| .seq (.seq (.reg [.m 6 0, .n 7 6, .o 8 .mv [.k 0]]) <|
 .block 0 ( .loop [(6, 1)] [3, 6, 7, 8] c_impl_many_L0)) <| .seq (.reg [.m 16 3, .m 2 16]) <| .ret

theorem k_impl_many : cFn Tryz.prog n_impl_many 17 [.t 2] c_impl_many := ⟨Tryz.f109, _, Tryz.func109, rfl, by kernel_rfl, by kernel_rfl, by kernel_rfl, by kernel_rfl⟩

-- 1 parameters, results [.t 2], 28 slots, modes [false]
@[simp] abbrev n_impl_RegionValid : Nat := 108

def c_impl_RegionValid : ACode := .seq (.reg [.o 1 .box [.t 0], .o 2 .mv [.kb false]]) <| .seq (.reg [.f 3 0 1, .l 4 3, .o 5 (.call 63 []) [.t 4, .k 1, .k 6],
 .m 6 5, .fg 7 1 1 6 true, .lg 8 7 6 true, .g 9 (.call 63 []) [.t 8, .k 1, .k 6] 6 true, .o 10 .pick [.t 6, .t 9, .kb false], .m 11 10, .fg 12 2 1 11 true,
 .lg 13 12 11 true, .g 14 (.len false) [.t 13] 11 true, .fg 15 0 1 11 true, .lg 16 15 11 true, .fg 17 1 1 11 true, .lg 18 17 11 true, .g 19 (.bin .mul 0) [.t 16,
 .t 18] 11 true, .g 20 (.bin .eql 0) [.t 14, .t 19] 11 true, .o 21 .pick [.t 11, .t 20, .kb false], .m 22 21, .fg 23 2 1 22 true, .lg 24 23 22 true,
 .g 25 (.call 109 []) [.t 24] 22 true, .g 26 (.bin .leq 0) [.t 25, .k 24] 22 true, .o 27 .pick [.t 22, .t 26, .kb false], .m 2 27]) <| .ret

theorem k_impl_RegionValid : cFn Tryz.prog n_impl_RegionValid 28 [.t 2] c_impl_RegionValid := ⟨Tryz.f108, _, Tryz.func108, rfl, by kernel_rfl, by kernel_rfl, by kernel_rfl, by kernel_rfl⟩

end Go.Proofs.Dev

namespace Go.Proofs.Dev

-- 2 parameters, results [.t 4], 18 slots, modes [false, false]
@[simp] abbrev n_spec_l1Has : Nat := 171
def c_spec_l1Has_L0 : ACode := .seq (.seq (.reg [.m 6 5, .m 7 0, .n 8 7, .o 9 (.bin .lss 0) [.t 6, .t 8]]) <| .cond (.t 9) ( .skip) ( .exit 0)) <|
 .seq (.block 1 ( .seq (.reg [.m 12 0, .m 13 5, .o 14 (.iadr 1) [.t 12, .t 13], .l 15 14, .m 16 1, .o 17 (.bin .eql 0) [.t 15, .t 16]]) <|
 .cond (.t 17) ( .seq (.reg [.o 4 .mv [.kb true]]) <| .ret) ( .skip))) <| .reg [.m 10 5, .o 11 (.bin .add 0) [.t 10, .k 1], .m 5 11]

def c_spec_l1Has : ACode := .seq (.reg [.o 4 .mv [.kb false]]) <| .seq (.seq (.reg [.o 5 .mv [.k 0]]) <| .block 0 ( .loop [(0, 1)] [0, 1,
 5] c_spec_l1Has_L0)) <| .seq (.reg [.o 4 .mv [.kb false]]) <| .ret

theorem k_spec_l1Has : cFn Tryz.prog n_spec_l1Has 18 [.t 4] c_spec_l1Has := ⟨Tryz.f171, _, Tryz.func171, rfl, by kernel_rfl, by kernel_rfl, by kernel_rfl, by kernel_rfl⟩

-- 1 parameters, results [.t 2], 18 slots, modes [false]
@[simp] abbrev n_spec_l9Once : Nat := 123
def c_spec_l9Once_L0 : ACode := .seq (.seq (.reg [.m 4 3, .m 5 0, .n 6 5, .o 7 (.bin .lss 0) [.t 4, .t 6]]) <| .cond (.t 7) ( .skip) ( .exit 0)) <|
 .seq (.block 1 ( .seq (.draw ( .take (.m 10 0) <| .take (.m 11 3) <| .take (.o 12 (.slice 1 false false true false) [.t 10, .t 11]) <| .take (.m 13 0) <|
 .take (.m 14 3) <| .take (.o 15 (.iadr 1) [.t 13, .t 14]) <| .al (.l 16 15) ( .al (.o 17 (.call 171 []) [.t 12, .t 16]) ( .done)))) <|
 .cond (.t 17) ( .seq (.reg [.o 2 .mv [.kb false]]) <| .ret) ( .skip))) <| .reg [.m 8 3, .o 9 (.bin .add 0) [.t 8, .k 1], .m 3 9]

def c_spec_l9Once : ACode := .seq (.reg [.o 2 .mv [.kb false]]) <| .seq (.seq (.reg [.o 3 .mv [.k 0]]) <| .block 0 ( .loop [(0, 1)] [0, 3] c_spec_l9Once_L0)) <|
 .seq (.reg [.o 2 .mv [.kb true]]) <| .ret

theorem k_spec_l9Once : cFn Tryz.prog n_spec_l9Once 18 [.t 2] c_spec_l9Once := ⟨Tryz.f123, _, Tryz.func123, rfl, by kernel_rfl, by kernel_rfl, by kernel_rfl, by kernel_rfl⟩

-- 3 parameters, results [.t 6], 22 slots, modes [false, false, false]
@[simp] abbrev n_spec_FairOk : Nat := 59

def c_spec_FairOk : ACode := .seq (.reg [.o 3 .box [.t 0], .o 6 .mv [.kb false]]) <| .seq (.reg [.la 7 3 3, .m 8 1, .o 9 (.call 121 []) [.t 7, .t 8], .m 10 9,
 .g 11 (.load true 3) [.t 3] 10 true, .mg 12 2 10 true, .g 13 (.call 122 []) [.t 11, .t 12] 10 true, .o 14 .pick [.t 10, .t 13, .kb false], .m 15 14,
 .g 16 (.load true 3) [.t 3] 15 true, .mg 17 1 15 true, .mg 18 2 15 true, .g 19 (.call 124 []) [.t 16, .t 17, .t 18] 15 true,
 .g 20 (.call 123 []) [.t 19] 15 true, .o 21 .pick [.t 15, .t 20, .kb false], .m 6 21]) <| .ret

theorem k_spec_FairOk : cFn Tryz.prog n_spec_FairOk 22 [.t 6] c_spec_FairOk := ⟨Tryz.f59, _, Tryz.func59, rfl, by kernel_rfl, by kernel_rfl, by kernel_rfl, by kernel_rfl⟩

end Go.Proofs.Dev

namespace Go.Proofs.Dev

-- 2 parameters, results [.t 4], 28 slots, modes [false, false]
@[simp] abbrev n_spec_TilingOk : Nat := 204
def c_spec_TilingOk_L0 : ACode := .seq (.seq (.reg [.m 10 5, .m 11 1, .n 12 11, .o 13 (.bin .lss 0) [.t 10, .t 12]]) <| .cond (.t 13) ( .skip) ( .exit 0)) <|
 .seq (.block 1 ( .seq (.reg [.f 16 2 2, .l 17 16, .m 18 5, .o 19 (.iadr 1) [.t 17, .t 18], .l 20 19, .m 21 20, .mg 22 1 21 true, .mg 23 5 21 true,
 .g 24 (.iadr 1) [.t 22, .t 23] 21 true, .lg 25 24 21 true, .g 26 (.bin .eql 0) [.t 25, .k 0] 21 true, .o 27 .pick [.t 21, .t 26, .kb false]]) <|
 .cond (.t 27) ( .seq (.reg [.o 4 .mv [.kb false]]) <| .ret) ( .skip))) <| .reg [.m 14 5, .o 15 (.bin .add 0) [.t 14, .k 1], .m 5 15]

def c_spec_TilingOk : ACode := .seq (.reg [.o 2 .box [.t 0], .o 4 .mv [.kb false]]) <| .seq (.seq (.reg [.la 6 3 2, .m 7 1, .o 8 (.call 122 []) [.t 6, .t 7],
 .o 9 (.un .not) [.t 8]]) <| .cond (.t 9) ( .seq (.reg [.o 4 .mv [.kb false]]) <| .ret) ( .skip)) <| .seq (.seq (.reg [.o 5 .mv [.k 0]]) <| .block 0 ( .loop [(1,
 1)] [1, 2, 5] c_spec_TilingOk_L0)) <| .seq (.reg [.o 4 .mv [.kb true]]) <| .ret

theorem k_spec_TilingOk : cFn Tryz.prog n_spec_TilingOk 28 [.t 4] c_spec_TilingOk := ⟨Tryz.f204, _, Tryz.func204, rfl, by kernel_rfl, by kernel_rfl, by kernel_rfl, by kernel_rfl⟩

end Go.Proofs.Dev

namespace Go.Proofs.Dev

-- 3 parameters, results [.t 6], 82 slots, modes [false, false, false]
@[simp] abbrev n_spec_MakePuzzle : Nat := 166
def c_spec_MakePuzzle_L0 : ACode := .seq (.seq (.reg [.m 23 8, .m 24 1, .n 25 24, .o 26 (.bin .lss 0) [.t 23, .t 25]]) <| .cond (.t 26) ( .skip) ( .exit 0)) <|
 .seq (.block 1 ( .reg [.m 29 7, .o 30 (.bsl 1) [.k (-1)], .o 31 (.app 1 8 true) [.t 29, .t 30], .m 7 31])) <| .reg [.m 27 8, .o 28 (.bin .add 0) [.t 27, .k 1],
 .m 8 28]

def c_spec_MakePuzzle_L1 : ACode := .seq (.seq (.reg [.m 52 10, .m 53 11, .o 54 (.bin .sub 0) [.k 6, .t 53], .o 55 (.bin .gtr 0) [.t 52, .t 54]]) <|
 .cond (.t 55) ( .skip) ( .exit 4)) <| .block 5 ( .seq (.reg [.m 56 10, .m 57 11, .o 58 (.bin .sub 0) [.k 6, .t 57], .o 59 (.bin .add 0) [.t 58, .k 1],
 .o 60 (.bin .sub 0) [.t 56, .t 59], .m 10 60]) <| .reg [.m 61 11, .o 62 (.bin .add 0) [.t 61, .k 1], .m 11 62])

abbrev c_spec_MakePuzzle_D_p0 : Plan := .al (.o 74 (.call 169 []) [.t 68, .t 69, .t 73]) ( .take (.o 78 (.iadr 1) [.t 67, .t 74]) <| .al (.s (.store 1) [.t 78, .t 77]) ( .done))
def c_spec_MakePuzzle_D : ACode := .draw ( .take (.m 67 7) <| .take (.m 69 9) <| .take (.m 70 1) <| .take (.m 71 9) <| .take (.o 72 (.iadr 1) [.t 70, .t 71]) <|
 .take (.m 75 11) <| .take (.m 76 10) <| .take (.o 77 (.bin .add 0) [.t 75, .t 76]) <| .alt (.la 68 3 3) ( .al (.l 73 72) c_spec_MakePuzzle_D_p0) <|
 .al (.l 73 72) ( .al (.la 68 3 3) c_spec_MakePuzzle_D_p0))

def c_spec_MakePuzzle_L2 : ACode := .seq (.seq (.reg [.m 32 9, .m 33 1, .n 34 33, .o 35 (.bin .lss 0) [.t 32, .t 34]]) <| .cond (.t 35) ( .skip) ( .exit 2)) <|
 .seq (.block 3 ( .seq (.reg [.m 38 1, .m 39 9, .o 40 (.iadr 1) [.t 38, .t 39], .l 41 40, .o 42 (.bin .eql 0) [.t 41, .k 1], .m 43 42, .mg 44 1 43 false,
 .mg 45 9 43 false, .g 46 (.iadr 1) [.t 44, .t 45] 43 false, .lg 47 46 43 false, .g 48 (.bin .eql 0) [.t 47, .k 2] 43 false, .o 49 .pick [.t 43, .kb true,
 .t 48]]) <| .cond (.t 49) ( .seq (.reg [.m 50 2, .o 51 (.bin .rem 0) [.t 50, .k 28], .m 10 51]) <| .seq (.reg [.o 11 .mv [.k 0]]) <| .seq (.block 4 ( .loop [(1,
 1), (7, 1)] [1, 2, 3, 7, 9, 10, 11] c_spec_MakePuzzle_L1)) <| .seq (.reg [.m 63 7, .m 64 9, .m 65 11, .o 66 (.iadr 1) [.t 63, .t 64], .s (.store 1) [.t 66,
 .t 65]]) <| .seq c_spec_MakePuzzle_D <| .reg [.m 79 2, .o 80 (.bin .add 0) [.t 79, .k 1], .m 2 80]) ( .skip))) <| .reg [.m 36 9, .o 37 (.bin .add 0) [.t 36,
 .k 1], .m 9 37]

def c_spec_MakePuzzle : ACode := .seq (.reg [.o 3 .box [.t 0], .o 6 .mv [.c (.os 1 [])]]) <| .seq (.seq (.reg [.la 12 3 3, .m 13 1, .o 14 (.call 204 []) [.t 12,
 .t 13], .o 15 (.un .not) [.t 14], .m 16 15, .mg 17 2 16 false, .g 18 (.call 106 []) [.t 17, .k 0, .k 27] 16 false, .g 19 (.un .not) [.t 18] 16 false,
 .o 20 .pick [.t 16, .kb true, .t 19]]) <| .cond (.t 20) ( .seq (.reg [.o 21 (.bsl 1) [], .m 6 21]) <| .ret) ( .skip)) <| .seq (.reg [.o 22 (.bsl 1) [],
 .m 7 22]) <| .seq (.seq (.reg [.o 8 .mv [.k 0]]) <| .block 0 ( .loop [(1, 1), (7, 1)] [1, 2, 3, 7, 8] c_spec_MakePuzzle_L0)) <|
 .seq (.seq (.reg [.o 9 .mv [.k 0]]) <| .block 2 ( .loop [(1, 1), (7, 1)] [1, 2, 3, 7, 9] c_spec_MakePuzzle_L2)) <| .seq (.reg [.m 81 7, .m 6 81]) <| .ret

theorem k_spec_MakePuzzle : cFn Tryz.prog n_spec_MakePuzzle 82 [.t 6] c_spec_MakePuzzle := ⟨Tryz.f166, _, Tryz.func166, rfl, by kernel_rfl, by kernel_rfl, by kernel_rfl, by kernel_rfl⟩

end Go.Proofs.Dev
