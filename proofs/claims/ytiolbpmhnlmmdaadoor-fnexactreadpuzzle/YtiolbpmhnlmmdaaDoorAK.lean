/- Contracts of the functions of the program over slots and rows, each proved against the program itself; no condition beyond those that each theorem names. -/
import Derived.Test.YtiolbpmhnlmmdaaDoorRows
import Derived.ProofKit
import Derived.Test.YtiolbpmhnlmmdaaDoorAH
import Derived.Test.YtiolbpmhnlmmdaaDoorTie
import Derived.Test.YtiolbpmhnlmmdaaDoorCards
import Derived.SevenTiedAt
import Derived.ChangeMaps5
import Derived.Test.YtiolbpmhnlmmdaaDoorProg
import Derived.Shelf.Strings.Search3
import Derived.Shelf.Strings.Cut
import Derived.Shelf.Strings.Split
import Derived.Shelf.Strconv.AtoiAll

set_option linter.unusedSimpArgs false
set_option linter.unusedVariables false

namespace Go.Proofs.YtiolbpmhnlmmdaaDoor
theorem fact_mayEnter : Tryd.prog.mayEnter = true := by kernel_rfl
theorem fact_make : Tryd.prog.make = some .cut := by kernel_rfl
theorem fact_liftsFinal : Tryd.prog.liftsFinal = false := by kernel_rfl
end Go.Proofs.YtiolbpmhnlmmdaaDoor

namespace Go.Proofs.YtiolbpmhnlmmdaaDoor
open Go.ChangeShapes Go.WideShapes Go.ChangeAt Go.RowKit Go.Proofs.Dev

theorem own : ownKnob Tryd.prog.godebug = none := by kernel_rfl
theorem laidOut : laidOutB Tryd.prog = true := by kernel_rfl
theorem rStr : Tryd.prog.readableRec 9 = true := by kernel_rfl

theorem RL_one {C : Ctx} {a : AV} {v : Value} (h : R C a [] v) : RL C [a] [] [v] := by
  rw [RL]
  exact ⟨[], [], _, _, rfl, rfl, h, by rw [RL]; exact ⟨rfl, rfl⟩⟩

theorem gb_of {W : World} (hsh : W.ShapedOpen Tryd.prog) : GB W [] fun _ => False := by
  refine ⟨?_, ?_⟩
  · show RL (gCtx W [] fun _ => False) [] [] []
    rw [RL]
    exact ⟨rfl, rfl⟩
  · intro p hpm
    simp only [gps, List.mem_cons, List.not_mem_nil, or_false] at hpm
    subst hpm
    refine ⟨⟨by simp, by simp⟩, ?_⟩
    obtain ⟨m, hm⟩ := cell_of_shapedOpen_int (g := 1) (zero := #[.int .i64 0]) (t := 3) hsh (of_decide_eq_true (by kernel_rfl)) (by kernel_rfl) rfl (by kernel_rfl) (by kernel_rfl) Tryd.underlying3
    exact ⟨_, hm, m, rfl⟩

theorem read_text {P : Program} {W : World} {H : Type} {enc : TypeId × Value → H} {t : TypeId} {v : Value} {d : DataW H} {p : List MemPlace} {base : Nat} (ht : P.underlying t = some .string)
    (hv : Value.okWide P W .any base t v) (h : DataW.Trod enc P W 0 (fun _ => true) true t v d p) :
    ∃ s : List UInt8, s.length ≤ 9223372036854775807 ∧ R (cin W [] fun _ => False) (.v (tx s)) [] v := by
  obtain ⟨s, rfl, _, _, hs⟩ := Go.ChangeMaps.open_string ht hv h
  refine ⟨s.data.toList, ?_, ?_⟩
  · have : s.size = s.data.toList.length := Go.Lib.size_eq s
    have hm : maxLen ≤ 9223372036854775807 := by decide
    omega
  · rw [R]
    refine ⟨rfl, ?_⟩
    show Value.string s = Value.string ⟨s.data.toList.toArray⟩
    rw [Go.Lib.mk_data]

end Go.Proofs.YtiolbpmhnlmmdaaDoor

namespace Go.Proofs.Dev

-- 2 parameters, results [.t 4], 26 slots, modes [false, false]
@[simp] abbrev n_laws_eqBoolS : Nat := 54
def c_laws_eqBoolS_L0 : ACode := .seq (.seq (.reg [.m 11 5, .m 12 0, .n 13 12, .o 14 (.bin .lss 0) [.t 11, .t 13]]) <| .cond (.t 14) ( .skip) ( .exit 0)) <|
 .seq (.block 1 ( .seq (.draw ( .take (.m 17 0) <| .take (.m 18 5) <| .take (.o 19 (.iadr 1) [.t 17, .t 18]) <| .take (.m 21 1) <| .take (.m 22 5) <|
 .take (.o 23 (.iadr 1) [.t 21, .t 22]) <| .alt (.l 20 19) ( .al (.l 24 23) ( .take (.o 25 (.bin .neq 2) [.t 20, .t 24]) <| .done)) <|
 .al (.l 24 23) ( .al (.l 20 19) ( .take (.o 25 (.bin .neq 2) [.t 20, .t 24]) <| .done)))) <| .cond (.t 25) ( .seq (.reg [.o 4 .mv [.kb false]]) <|
 .ret) ( .skip))) <| .reg [.m 15 5, .o 16 (.bin .add 0) [.t 15, .k 1], .m 5 16]

def c_laws_eqBoolS : ACode := .seq (.reg [.o 4 .mv [.kb false]]) <| .seq (.seq (.reg [.m 6 0, .n 7 6, .m 8 1, .n 9 8, .o 10 (.bin .neq 0) [.t 7, .t 9]]) <|
 .cond (.t 10) ( .seq (.reg [.o 4 .mv [.kb false]]) <| .ret) ( .skip)) <| .seq (.seq (.reg [.o 5 .mv [.k 0]]) <| .block 0 ( .loop [(0, 1), (1, 1)] [0, 1,
 5] c_laws_eqBoolS_L0)) <| .seq (.reg [.o 4 .mv [.kb true]]) <| .ret

theorem k_laws_eqBoolS : cFn Tryd.prog n_laws_eqBoolS 26 [.t 4] c_laws_eqBoolS := ⟨Tryd.f54, _, Tryd.func54, rfl, by kernel_rfl, by kernel_rfl, by kernel_rfl, by kernel_rfl⟩

-- 2 parameters, results [.t 4], 26 slots, modes [false, false]
@[simp] abbrev n_laws_eqIntS : Nat := 21
def c_laws_eqIntS_L0 : ACode := .seq (.seq (.reg [.m 11 5, .m 12 0, .n 13 12, .o 14 (.bin .lss 0) [.t 11, .t 13]]) <| .cond (.t 14) ( .skip) ( .exit 0)) <|
 .seq (.block 1 ( .seq (.draw ( .take (.m 17 0) <| .take (.m 18 5) <| .take (.o 19 (.iadr 1) [.t 17, .t 18]) <| .take (.m 21 1) <| .take (.m 22 5) <|
 .take (.o 23 (.iadr 1) [.t 21, .t 22]) <| .alt (.l 20 19) ( .al (.l 24 23) ( .take (.o 25 (.bin .neq 0) [.t 20, .t 24]) <| .done)) <|
 .al (.l 24 23) ( .al (.l 20 19) ( .take (.o 25 (.bin .neq 0) [.t 20, .t 24]) <| .done)))) <| .cond (.t 25) ( .seq (.reg [.o 4 .mv [.kb false]]) <|
 .ret) ( .skip))) <| .reg [.m 15 5, .o 16 (.bin .add 0) [.t 15, .k 1], .m 5 16]

def c_laws_eqIntS : ACode := .seq (.reg [.o 4 .mv [.kb false]]) <| .seq (.seq (.reg [.m 6 0, .n 7 6, .m 8 1, .n 9 8, .o 10 (.bin .neq 0) [.t 7, .t 9]]) <|
 .cond (.t 10) ( .seq (.reg [.o 4 .mv [.kb false]]) <| .ret) ( .skip)) <| .seq (.seq (.reg [.o 5 .mv [.k 0]]) <| .block 0 ( .loop [(0, 1), (1, 1)] [0, 1,
 5] c_laws_eqIntS_L0)) <| .seq (.reg [.o 4 .mv [.kb true]]) <| .ret

theorem k_laws_eqIntS : cFn Tryd.prog n_laws_eqIntS 26 [.t 4] c_laws_eqIntS := ⟨Tryd.f21, _, Tryd.func21, rfl, by kernel_rfl, by kernel_rfl, by kernel_rfl, by kernel_rfl⟩

-- 2 parameters, results [.t 4], 21 slots, modes [false, false]
@[simp] abbrev n_laws_eqRegion : Nat := 20

def c_laws_eqRegion : ACode := .seq (.reg [.o 2 .box [.t 0], .o 3 .box [.t 1], .o 4 .mv [.kb false]]) <| .seq (.seq (.reg [.f 5 0 2, .l 6 5, .f 7 0 3, .l 8 7,
 .o 9 (.bin .neq 0) [.t 6, .t 8]]) <| .cond (.t 9) ( .seq (.reg [.o 4 .mv [.kb false]]) <| .ret) ( .skip)) <| .seq (.seq (.reg [.f 10 1 2, .l 11 10, .f 12 1 3,
 .l 13 12, .o 14 (.bin .neq 0) [.t 11, .t 13]]) <| .cond (.t 14) ( .seq (.reg [.o 4 .mv [.kb false]]) <| .ret) ( .skip)) <| .seq (.seq (.reg [.f 15 2 2,
 .l 16 15, .f 17 2 3, .l 18 17, .o 19 (.call 54 []) [.t 16, .t 18], .o 20 (.un .not) [.t 19]]) <| .cond (.t 20) ( .seq (.reg [.o 4 .mv [.kb false]]) <|
 .ret) ( .skip)) <| .seq (.reg [.o 4 .mv [.kb true]]) <| .ret

theorem k_laws_eqRegion : cFn Tryd.prog n_laws_eqRegion 21 [.t 4] c_laws_eqRegion := ⟨Tryd.f20, _, Tryd.func20, rfl, by kernel_rfl, by kernel_rfl, by kernel_rfl, by kernel_rfl⟩

-- 2 parameters, results [.t 4], 21 slots, modes [true, false]
@[simp] abbrev n_laws_markBoolS : Nat := 55
def c_laws_markBoolS_L0 : ACode := .seq (.seq (.reg [.m 6 5, .m 7 0, .n 8 7, .o 9 (.bin .lss 0) [.t 6, .t 8]]) <| .cond (.t 9) ( .skip) ( .exit 0)) <|
 .seq (.block 1 ( .seq (.reg [.m 12 0, .m 13 5, .m 14 1, .o 15 (.bin .rem 0) [.t 14, .k 3], .o 16 (.bin .eql 0) [.t 15, .k 0], .o 17 (.iadr 1) [.t 12, .t 13],
 .s (.store 1) [.t 17, .t 16]]) <| .reg [.m 18 1, .o 19 (.bin .add 0) [.t 18, .k 1], .m 1 19])) <| .reg [.m 10 5, .o 11 (.bin .add 0) [.t 10, .k 1], .m 5 11]

def c_laws_markBoolS : ACode := .seq (.reg [.o 4 .mv [.k 0]]) <| .seq (.seq (.reg [.o 5 .mv [.k 0]]) <| .block 0 ( .loop [(0, 1)] [0, 1, 5,
 21] c_laws_markBoolS_L0)) <| .seq (.reg [.m 20 1, .m 4 20]) <| .ret

theorem k_laws_markBoolS : cFn Tryd.prog n_laws_markBoolS 21 [.t 4] c_laws_markBoolS := ⟨Tryd.f55, _, Tryd.func55, rfl, by kernel_rfl, by kernel_rfl, by kernel_rfl, by kernel_rfl⟩

-- 2 parameters, results [.t 4], 19 slots, modes [true, false]
@[simp] abbrev n_laws_markIntS : Nat := 23
def c_laws_markIntS_L0 : ACode := .seq (.seq (.reg [.m 6 5, .m 7 0, .n 8 7, .o 9 (.bin .lss 0) [.t 6, .t 8]]) <| .cond (.t 9) ( .skip) ( .exit 0)) <|
 .seq (.block 1 ( .seq (.reg [.m 12 0, .m 13 5, .m 14 1, .o 15 (.iadr 1) [.t 12, .t 13], .s (.store 1) [.t 15, .t 14]]) <| .reg [.m 16 1,
 .o 17 (.bin .add 0) [.t 16, .k 1], .m 1 17])) <| .reg [.m 10 5, .o 11 (.bin .add 0) [.t 10, .k 1], .m 5 11]

def c_laws_markIntS : ACode := .seq (.reg [.o 4 .mv [.k 0]]) <| .seq (.seq (.reg [.o 5 .mv [.k 0]]) <| .block 0 ( .loop [(0, 1)] [0, 1, 5,
 19] c_laws_markIntS_L0)) <| .seq (.reg [.m 18 1, .m 4 18]) <| .ret

theorem k_laws_markIntS : cFn Tryd.prog n_laws_markIntS 19 [.t 4] c_laws_markIntS := ⟨Tryd.f23, _, Tryd.func23, rfl, by kernel_rfl, by kernel_rfl, by kernel_rfl, by kernel_rfl⟩

-- 2 parameters, results [.t 4], 10 slots, modes [true, false]
@[simp] abbrev n_laws_markRegion : Nat := 22

def c_laws_markRegion : ACode := .seq (.reg [.o 2 .box [.t 0], .o 4 .mv [.k 0]]) <| .seq (.reg [.f 5 2 2, .l 6 5, .m 7 1, .o 8 (.call 55 []) [.t 6, .t 7],
 .m 1 8]) <| .seq (.reg [.m 9 1, .m 4 9]) <| .ret

theorem k_laws_markRegion : cFn Tryd.prog n_laws_markRegion 10 [.t 4] c_laws_markRegion := ⟨Tryd.f22, _, Tryd.func22, rfl, by kernel_rfl, by kernel_rfl, by kernel_rfl, by kernel_rfl⟩

-- 2 parameters, results [.t 4], 21 slots, modes [false, false]
@[simp] abbrev n_laws_heldIntS : Nat := 25
def c_laws_heldIntS_L0 : ACode := .seq (.seq (.reg [.m 6 5, .m 7 0, .n 8 7, .o 9 (.bin .lss 0) [.t 6, .t 8]]) <| .cond (.t 9) ( .skip) ( .exit 0)) <|
 .seq (.block 1 ( .seq (.seq (.reg [.m 12 0, .m 13 5, .o 14 (.iadr 1) [.t 12, .t 13], .l 15 14, .m 16 1, .o 17 (.bin .neq 0) [.t 15, .t 16]]) <|
 .cond (.t 17) ( .seq (.reg [.o 4 .mv [.k (-1)]]) <| .ret) ( .skip)) <| .reg [.m 18 1, .o 19 (.bin .add 0) [.t 18, .k 1], .m 1 19])) <| .reg [.m 10 5,
 .o 11 (.bin .add 0) [.t 10, .k 1], .m 5 11]

def c_laws_heldIntS : ACode := .seq (.reg [.o 4 .mv [.k 0]]) <| .seq (.seq (.reg [.o 5 .mv [.k 0]]) <| .block 0 ( .loop [(0, 1)] [0, 1,
 5] c_laws_heldIntS_L0)) <| .seq (.reg [.m 20 1, .m 4 20]) <| .ret

theorem k_laws_heldIntS : cFn Tryd.prog n_laws_heldIntS 21 [.t 4] c_laws_heldIntS := ⟨Tryd.f25, _, Tryd.func25, rfl, by kernel_rfl, by kernel_rfl, by kernel_rfl, by kernel_rfl⟩

-- 3 parameters, results [.t 6], 15 slots, modes [false, false, false]
@[simp] abbrev n_spec_l1In : Nat := 42

def c_spec_l1In : ACode := .seq (.reg [.o 6 .mv [.kb false]]) <| .seq (.reg [.m 7 0, .m 8 1, .o 9 (.bin .geq 0) [.t 7, .t 8], .m 10 9, .mg 11 0 10 true,
 .mg 12 2 10 true, .g 13 (.bin .leq 0) [.t 11, .t 12] 10 true, .o 14 .pick [.t 10, .t 13, .kb false], .m 6 14]) <| .ret

theorem k_spec_l1In : cFn Tryd.prog n_spec_l1In 15 [.t 6] c_spec_l1In := ⟨Tryd.f42, _, Tryd.func42, rfl, by kernel_rfl, by kernel_rfl, by kernel_rfl, by kernel_rfl⟩

-- 1 parameters, results [.t 2], 18 slots, modes [false]
@[simp] abbrev n_spec_l1Count : Nat := 113
def c_spec_l1Count_L0 : ACode := .seq (.seq (.reg [.m 5 4, .m 6 0, .n 7 6, .o 8 (.bin .lss 0) [.t 5, .t 7]]) <| .cond (.t 8) ( .skip) ( .exit 0)) <|
 .seq (.block 1 ( .seq (.reg [.m 11 0, .m 12 4, .o 13 (.iadr 1) [.t 11, .t 12], .l 14 13]) <| .cond (.t 14) ( .reg [.m 15 3, .o 16 (.bin .add 0) [.t 15, .k 1],
 .m 3 16]) ( .skip))) <| .reg [.m 9 4, .o 10 (.bin .add 0) [.t 9, .k 1], .m 4 10]

def c_spec_l1Count : ACode := .seq (.reg [.o 2 .mv [.k 0]]) <| .seq (.reg [.o 3 .mv [.k 0]]) <| .seq (.seq (.reg [.o 4 .mv [.k 0]]) <| .block 0 ( .loop [(0,
 1)] [0, 3, 4] c_spec_l1Count_L0)) <| .seq (.reg [.m 17 3, .m 2 17]) <| .ret

theorem k_spec_l1Count : cFn Tryd.prog n_spec_l1Count 18 [.t 2] c_spec_l1Count := ⟨Tryd.f113, _, Tryd.func113, rfl, by kernel_rfl, by kernel_rfl, by kernel_rfl, by kernel_rfl⟩

-- 1 parameters, results [.t 2], 28 slots, modes [false]
@[simp] abbrev n_spec_RegionValid : Nat := 88

def c_spec_RegionValid : ACode := .seq (.reg [.o 1 .box [.t 0], .o 2 .mv [.kb false]]) <| .seq (.reg [.f 3 0 1, .l 4 3, .o 5 (.call 42 []) [.t 4, .k 1, .k 6],
 .m 6 5, .fg 7 1 1 6 true, .lg 8 7 6 true, .g 9 (.call 42 []) [.t 8, .k 1, .k 6] 6 true, .o 10 .pick [.t 6, .t 9, .kb false], .m 11 10, .fg 12 2 1 11 true,
 .lg 13 12 11 true, .g 14 (.len false) [.t 13] 11 true, .fg 15 0 1 11 true, .lg 16 15 11 true, .fg 17 1 1 11 true, .lg 18 17 11 true, .g 19 (.bin .mul 0) [.t 16,
 .t 18] 11 true, .g 20 (.bin .eql 0) [.t 14, .t 19] 11 true, .o 21 .pick [.t 11, .t 20, .kb false], .m 22 21, .fg 23 2 1 22 true, .lg 24 23 22 true,
 .g 25 (.call 113 []) [.t 24] 22 true, .g 26 (.bin .leq 0) [.t 25, .k 24] 22 true, .o 27 .pick [.t 22, .t 26, .kb false], .m 2 27]) <| .ret

theorem k_spec_RegionValid : cFn Tryd.prog n_spec_RegionValid 28 [.t 2] c_spec_RegionValid := ⟨Tryd.f88, _, Tryd.func88, rfl, by kernel_rfl, by kernel_rfl, by kernel_rfl, by kernel_rfl⟩

-- 2 parameters, results [.t 4], 51 slots, modes [false, false]
@[simp] abbrev n_spec_PuzzleValid : Nat := 67
def c_spec_PuzzleValid_L0 : ACode := .seq (.seq (.reg [.m 17 5, .m 18 1, .n 19 18, .o 20 (.bin .lss 0) [.t 17, .t 19]]) <| .cond (.t 20) ( .skip) ( .exit 0)) <|
 .seq (.block 1 ( .seq (.reg [.f 23 2 2, .l 24 23, .m 25 5, .o 26 (.iadr 1) [.t 24, .t 25], .l 27 26, .m 28 27, .mg 29 1 28 true, .mg 30 5 28 true,
 .g 31 (.iadr 1) [.t 29, .t 30] 28 true, .lg 32 31 28 true, .g 33 (.call 42 []) [.t 32, .k 0, .k 6] 28 true, .g 34 (.un .not) [.t 33] 28 true,
 .o 35 .pick [.t 28, .t 34, .kb false], .m 36 35, .fg 37 2 2 36 false, .lg 38 37 36 false, .mg 39 5 36 false, .g 40 (.iadr 1) [.t 38, .t 39] 36 false,
 .lg 41 40 36 false, .g 42 (.un .not) [.t 41] 36 false, .mg 43 42 36 false, .mg 44 1 43 true, .mg 45 5 43 true, .g 46 (.iadr 1) [.t 44, .t 45] 43 true,
 .lg 47 46 43 true, .g 48 (.bin .neq 0) [.t 47, .k (-1)] 43 true, .g 49 .pick [.t 43, .t 48, .kb false] 36 false, .o 50 .pick [.t 36, .kb true, .t 49]]) <|
 .cond (.t 50) ( .seq (.reg [.o 4 .mv [.kb false]]) <| .ret) ( .skip))) <| .reg [.m 21 5, .o 22 (.bin .add 0) [.t 21, .k 1], .m 5 22]

def c_spec_PuzzleValid : ACode := .seq (.reg [.o 2 .box [.t 0], .o 4 .mv [.kb false]]) <| .seq (.seq (.reg [.la 6 3 2, .o 7 (.call 88 []) [.t 6],
 .o 8 (.un .not) [.t 7], .m 9 8, .mg 10 1 9 false, .g 11 (.len false) [.t 10] 9 false, .fg 12 2 2 9 false, .lg 13 12 9 false, .g 14 (.len false) [.t 13] 9 false,
 .g 15 (.bin .neq 0) [.t 11, .t 14] 9 false, .o 16 .pick [.t 9, .kb true, .t 15]]) <| .cond (.t 16) ( .seq (.reg [.o 4 .mv [.kb false]]) <| .ret) ( .skip)) <|
 .seq (.seq (.reg [.o 5 .mv [.k 0]]) <| .block 0 ( .loop [(1, 1)] [1, 2, 5] c_spec_PuzzleValid_L0)) <| .seq (.reg [.o 4 .mv [.kb true]]) <| .ret

theorem k_spec_PuzzleValid : cFn Tryd.prog n_spec_PuzzleValid 51 [.t 4] c_spec_PuzzleValid := ⟨Tryd.f67, _, Tryd.func67, rfl, by kernel_rfl, by kernel_rfl, by kernel_rfl, by kernel_rfl⟩

-- 3 parameters, results [.t 6], 15 slots, modes [false, false, false]
@[simp] abbrev n_impl_in : Nat := 46

def c_impl_in : ACode := .seq (.reg [.o 6 .mv [.kb false]]) <| .seq (.reg [.m 7 0, .m 8 1, .o 9 (.bin .geq 0) [.t 7, .t 8], .m 10 9, .mg 11 0 10 true,
 .mg 12 2 10 true, .g 13 (.bin .leq 0) [.t 11, .t 12] 10 true, .o 14 .pick [.t 10, .t 13, .kb false], .m 6 14]) <| .ret

theorem k_impl_in : cFn Tryd.prog n_impl_in 15 [.t 6] c_impl_in := ⟨Tryd.f46, _, Tryd.func46, rfl, by kernel_rfl, by kernel_rfl, by kernel_rfl, by kernel_rfl⟩

-- 1 parameters, results [.t 2], 17 slots, modes [false]
@[simp] abbrev n_impl_many : Nat := 89
def c_impl_many_L0 : ACode := .seq (.reg [.o 9 (.bin .lss 0) [.t 8, .t 7]]) <| .seq (.cond (.t 9) ( .skip) ( .exit 0)) <|
 .seq (.block 1 ( .seq (.reg [.o 10 (.iadr 1) [.t 6, .t 8], .l 11 10, .m 5 11]) <| .seq (.reg [.m 12 5]) <| .cond (.t 12) ( .reg [.m 13 3,
 .o 14 (.bin .add 0) [.t 13, .k 1], .m 3 14]) ( .skip))) <| .reg [.o 15 (.bin .add 0) [.t 8, .k 1], .m 8 15]

def c_impl_many : ACode := .seq (.reg [.o 2 .mv [.k 0]]) <| .seq (.reg [.o 3 .mv [.k 0]]) <| .seq (.seq (.reg [.m 6 0, .n 7 6, .o 8 .mv [.k 0]]) <|
 .block 0 ( .loop [(6, 1)] [3, 6, 7, 8] c_impl_many_L0)) <| .seq (.reg [.m 16 3, .m 2 16]) <| .ret

theorem k_impl_many : cFn Tryd.prog n_impl_many 17 [.t 2] c_impl_many := ⟨Tryd.f89, _, Tryd.func89, rfl, by kernel_rfl, by kernel_rfl, by kernel_rfl, by kernel_rfl⟩

-- 1 parameters, results [.t 2], 28 slots, modes [false]
@[simp] abbrev n_impl_RegionValid : Nat := 68

def c_impl_RegionValid : ACode := .seq (.reg [.o 1 .box [.t 0], .o 2 .mv [.kb false]]) <| .seq (.reg [.f 3 0 1, .l 4 3, .o 5 (.call 46 []) [.t 4, .k 1, .k 6],
 .m 6 5, .fg 7 1 1 6 true, .lg 8 7 6 true, .g 9 (.call 46 []) [.t 8, .k 1, .k 6] 6 true, .o 10 .pick [.t 6, .t 9, .kb false], .m 11 10, .fg 12 2 1 11 true,
 .lg 13 12 11 true, .g 14 (.len false) [.t 13] 11 true, .fg 15 0 1 11 true, .lg 16 15 11 true, .fg 17 1 1 11 true, .lg 18 17 11 true, .g 19 (.bin .mul 0) [.t 16,
 .t 18] 11 true, .g 20 (.bin .eql 0) [.t 14, .t 19] 11 true, .o 21 .pick [.t 11, .t 20, .kb false], .m 22 21, .fg 23 2 1 22 true, .lg 24 23 22 true,
 .g 25 (.call 89 []) [.t 24] 22 true, .g 26 (.bin .leq 0) [.t 25, .k 24] 22 true, .o 27 .pick [.t 22, .t 26, .kb false], .m 2 27]) <| .ret

theorem k_impl_RegionValid : cFn Tryd.prog n_impl_RegionValid 28 [.t 2] c_impl_RegionValid := ⟨Tryd.f68, _, Tryd.func68, rfl, by kernel_rfl, by kernel_rfl, by kernel_rfl, by kernel_rfl⟩

end Go.Proofs.Dev

namespace Go.Proofs.Dev

-- 1 parameters, results [.t 2], 34 slots, modes [false]
@[simp] abbrev n_spec_l1Number : Nat := 43

abbrev c_spec_l1Number_p0 : Plan := .take (.o 33 (.bin .add 1) [.t 26, .t 32]) <| .take (.m 2 33) <| .done
def c_spec_l1Number : ACode := .seq (.reg [.o 2 .mv [.c (.v (.string ⟨#[]⟩))]]) <| .seq (.seq (.reg [.m 3 0, .o 4 (.bin .lss 0) [.t 3, .k 0], .m 5 4,
 .mg 6 0 5 true, .mg 7 0 5 true, .g 8 (.un .neg) [.t 7] 5 true, .g 9 (.bin .eql 0) [.t 6, .t 8] 5 true, .o 10 .pick [.t 5, .t 9, .kb false]]) <|
 .cond (.t 10) ( .seq (.reg [.o 2 .mv [.c (.v (.string ⟨#[45, 57, 50, 50, 51, 51, 55, 50, 48, 51, 54, 56, 53, 52, 55, 55, 53, 56, 48, 56]⟩))]]) <|
 .ret) ( .skip)) <| .seq (.seq (.reg [.m 11 0, .o 12 (.bin .lss 0) [.t 11, .k 0]]) <| .cond (.t 12) ( .seq (.reg [.m 13 0, .o 14 (.un .neg) [.t 13],
 .o 15 (.call 43 []) [.t 14], .o 16 (.bin .add 1) [.c (.v (.string ⟨#[45]⟩)), .t 15], .m 2 16]) <| .ret) ( .skip)) <| .seq (.seq (.reg [.m 17 0,
 .o 18 (.bin .lss 0) [.t 17, .k 10]]) <| .cond (.t 18) ( .seq (.reg [.m 19 0, .o 20 (.bin .add 0) [.k 48, .t 19], .o 21 (.conv .u8) [.t 20],
 .o 22 (.bsl 1) [.t 21], .o 23 .str [.t 22], .m 2 23]) <| .ret) ( .skip)) <| .seq (.draw ( .take (.m 24 0) <| .take (.o 25 (.bin .quo 0) [.t 24, .k 10]) <|
 .take (.m 27 0) <| .take (.o 28 (.bin .rem 0) [.t 27, .k 10]) <| .take (.o 29 (.bin .add 0) [.k 48, .t 28]) <| .take (.o 30 (.conv .u8) [.t 29]) <|
 .alt (.o 26 (.call 43 []) [.t 25]) ( .al (.o 31 (.bsl 1) [.t 30]) ( .al (.o 32 .str [.t 31]) c_spec_l1Number_p0)) <| .al (.o 31 (.bsl 1) [.t 30]) ( .alt (.o 26 (.call 43 []) [.t 25]) ( .al (.o 32 .str [.t 31]) c_spec_l1Number_p0) <| .al (.o 32 .str [.t 31]) ( .al (.o 26 (.call 43 []) [.t 25]) c_spec_l1Number_p0)))) <| .ret

theorem k_spec_l1Number : cFn Tryd.prog n_spec_l1Number 34 [.t 2] c_spec_l1Number := ⟨Tryd.f43, _, Tryd.func43, rfl, by kernel_rfl, by kernel_rfl, by kernel_rfl, by kernel_rfl⟩

-- 2 parameters, results [.t 4], 35 slots, modes [false, false]
@[simp] abbrev n_spec_l1Cut : Nat := 50
def c_spec_l1Cut_L0 : ACode := .seq (.seq (.reg [.m 9 7, .m 10 0, .o 11 (.len true) [.t 10], .o 12 (.bin .lss 0) [.t 9, .t 11]]) <|
 .cond (.t 12) ( .skip) ( .exit 0)) <| .seq (.block 1 ( .seq (.reg [.m 15 0, .m 16 7, .o 17 .sidx [.t 15, .t 16], .m 18 1, .o 19 (.bin .eql 0) [.t 17,
 .t 18]]) <| .cond (.t 19) ( .seq (.reg [.m 20 5, .m 21 0, .m 22 6, .m 23 7, .o 24 (.sslice true true) [.t 21, .t 22, .t 23], .o 25 (.bsl 1) [.t 24],
 .o 26 (.app 1 16 true) [.t 20, .t 25], .m 5 26]) <| .reg [.m 27 7, .o 28 (.bin .add 0) [.t 27, .k 1], .m 6 28]) ( .skip))) <| .reg [.m 13 7,
 .o 14 (.bin .add 0) [.t 13, .k 1], .m 7 14]

def c_spec_l1Cut : ACode := .seq (.reg [.o 4 .mv [.c (.os 1 [])]]) <| .seq (.reg [.o 8 (.bsl 1) [], .m 5 8]) <| .seq (.reg [.o 6 .mv [.k 0]]) <|
 .seq (.seq (.reg [.o 7 .mv [.k 0]]) <| .block 0 ( .loop [(5, 1)] [0, 1, 5, 6, 7] c_spec_l1Cut_L0)) <| .seq (.reg [.m 29 5, .m 30 0, .m 31 6,
 .o 32 (.sslice true false) [.t 30, .t 31], .o 33 (.bsl 1) [.t 32], .o 34 (.app 1 16 true) [.t 29, .t 33], .m 4 34]) <| .ret

theorem k_spec_l1Cut : cFn Tryd.prog n_spec_l1Cut 35 [.t 4] c_spec_l1Cut := ⟨Tryd.f50, _, Tryd.func50, rfl, by kernel_rfl, by kernel_rfl, by kernel_rfl, by kernel_rfl⟩

-- 1 parameters, results [.t 2], 44 slots, modes [false]
@[simp] abbrev n_spec_l1Digits : Nat := 51
def c_spec_l1Digits_L0 : ACode := .seq (.seq (.reg [.m 19 4, .m 20 0, .o 21 (.len true) [.t 20], .o 22 (.bin .lss 0) [.t 19, .t 21]]) <|
 .cond (.t 22) ( .skip) ( .exit 0)) <| .seq (.block 1 ( .seq (.seq (.reg [.m 25 0, .m 26 4, .o 27 .sidx [.t 25, .t 26], .o 28 (.bin .lss 0) [.t 27,
 .c (.v (.int .u8 (48)))], .m 29 28, .mg 30 0 29 false, .mg 31 4 29 false, .g 32 .sidx [.t 30, .t 31] 29 false, .g 33 (.bin .gtr 0) [.t 32,
 .c (.v (.int .u8 (57)))] 29 false, .o 34 .pick [.t 29, .kb true, .t 33]]) <| .cond (.t 34) ( .seq (.reg [.o 2 .mv [.k (-1)]]) <| .ret) ( .skip)) <|
 .reg [.m 35 3, .o 36 (.bin .mul 0) [.k 10, .t 35], .m 37 0, .m 38 4, .o 39 .sidx [.t 37, .t 38], .o 40 (.bin .sub 0) [.t 39, .c (.v (.int .u8 (48)))],
 .o 41 (.conv .i64) [.t 40], .o 42 (.bin .add 0) [.t 36, .t 41], .m 3 42])) <| .reg [.m 23 4, .o 24 (.bin .add 0) [.t 23, .k 1], .m 4 24]

def c_spec_l1Digits : ACode := .seq (.reg [.o 2 .mv [.k 0]]) <| .seq (.seq (.reg [.m 5 0, .o 6 (.len true) [.t 5], .o 7 (.call 42 []) [.t 6, .k 1, .k 4],
 .o 8 (.un .not) [.t 7], .m 9 8, .mg 10 0 9 false, .g 11 (.len true) [.t 10] 9 false, .g 12 (.bin .gtr 0) [.t 11, .k 1] 9 false, .mg 13 12 9 false,
 .mg 14 0 13 true, .g 15 .sidx [.t 14, .k 0] 13 true, .g 16 (.bin .eql 0) [.t 15, .c (.v (.int .u8 (48)))] 13 true, .g 17 .pick [.t 13, .t 16,
 .kb false] 9 false, .o 18 .pick [.t 9, .kb true, .t 17]]) <| .cond (.t 18) ( .seq (.reg [.o 2 .mv [.k (-1)]]) <| .ret) ( .skip)) <|
 .seq (.reg [.o 3 .mv [.k 0]]) <| .seq (.seq (.reg [.o 4 .mv [.k 0]]) <| .block 0 ( .loop [] [0, 3, 4] c_spec_l1Digits_L0)) <| .seq (.reg [.m 43 3, .m 2 43]) <|
 .ret

theorem k_spec_l1Digits : cFn Tryd.prog n_spec_l1Digits 44 [.t 2] c_spec_l1Digits := ⟨Tryd.f51, _, Tryd.func51, rfl, by kernel_rfl, by kernel_rfl, by kernel_rfl, by kernel_rfl⟩

end Go.Proofs.Dev

namespace Go.Proofs.Dev

-- 2 parameters, results [.t 4], 52 slots, modes [false, false]
@[simp] abbrev n_spec_PuzzleText : Nat := 35
def c_spec_PuzzleText_L0 : ACode := .seq (.seq (.reg [.m 21 7, .f 22 0 2, .l 23 22, .o 24 (.bin .lss 0) [.t 21, .t 23]]) <|
 .cond (.t 24) ( .skip) ( .exit 2)) <| .seq (.block 3 ( .seq (.reg [.m 27 6, .f 28 0 2, .l 29 28, .o 30 (.bin .mul 0) [.t 27, .t 29], .m 31 7,
 .o 32 (.bin .add 0) [.t 30, .t 31], .m 8 32]) <| .seq (.reg [.f 33 2 2, .l 34 33, .m 35 8, .o 36 (.iadr 1) [.t 34, .t 35], .l 37 36]) <|
 .cond (.t 37) ( .reg [.m 38 5, .m 39 1, .m 40 8, .o 41 (.iadr 1) [.t 39, .t 40], .l 42 41, .o 43 (.call 43 []) [.t 42], .o 44 (.bin .add 1) [.t 38, .t 43],
 .m 5 44]) ( .reg [.m 45 5, .o 46 (.bin .add 1) [.t 45, .c (.v (.string ⟨#[46]⟩))], .m 5 46]))) <| .reg [.m 25 7, .o 26 (.bin .add 0) [.t 25, .k 1], .m 7 26]

def c_spec_PuzzleText_L1 : ACode := .seq (.seq (.reg [.m 12 6, .o 13 (.bin .geq 0) [.t 12, .k 0], .m 14 13, .g 15 (.load true 3) [.t 2] 14 true,
 .mg 16 1 14 true, .g 17 (.call 67 []) [.t 15, .t 16] 14 true, .o 18 .pick [.t 14, .t 17, .kb false]]) <| .cond (.t 18) ( .skip) ( .exit 0)) <|
 .seq (.block 1 ( .seq (.seq (.reg [.o 7 .mv [.k 0]]) <| .block 2 ( .loop [(1, 1)] [1, 2, 5, 6, 7] c_spec_PuzzleText_L0)) <| .seq (.reg [.m 47 6,
 .o 48 (.bin .gtr 0) [.t 47, .k 0]]) <| .cond (.t 48) ( .reg [.m 49 5, .o 50 (.bin .add 1) [.t 49, .c (.v (.string ⟨#[47]⟩))], .m 5 50]) ( .skip))) <|
 .reg [.m 19 6, .o 20 (.bin .sub 0) [.t 19, .k 1], .m 6 20]

def c_spec_PuzzleText : ACode := .seq (.reg [.o 2 .box [.t 0], .o 4 .mv [.c (.v (.string ⟨#[]⟩))]]) <| .seq (.reg [.o 5 .mv [.c (.v (.string ⟨#[]⟩))]]) <|
 .seq (.seq (.reg [.f 9 1 2, .l 10 9, .o 11 (.bin .sub 0) [.t 10, .k 1], .m 6 11]) <| .block 0 ( .loop [(1, 1)] [1, 2, 5, 6] c_spec_PuzzleText_L1)) <|
 .seq (.reg [.m 51 5, .m 4 51]) <| .ret

theorem k_spec_PuzzleText : cFn Tryd.prog n_spec_PuzzleText 52 [.t 4] c_spec_PuzzleText := ⟨Tryd.f35, _, Tryd.func35, rfl, by kernel_rfl, by kernel_rfl, by kernel_rfl, by kernel_rfl⟩

-- 1 parameters, results [.c 2 true 3, .t 3, .t 4], 73 slots, modes [false]
@[simp] abbrev n_spec_ReadPuzzle : Nat := 18
abbrev c_spec_ReadPuzzle_L0_p0 : Plan := .al (.o 46 (.app 1 1 true) [.t 37, .t 45]) ( .take (.f 47 2 6) <| .al (.s (.store 1) [.t 47, .t 46]) ( .done))
def c_spec_ReadPuzzle_L0 : ACode := .seq (.seq (.reg [.m 27 9, .m 28 5, .m 29 8, .o 30 (.iadr 1) [.t 28, .t 29], .l 31 30, .o 32 (.len true) [.t 31],
 .o 33 (.bin .lss 0) [.t 27, .t 32]]) <| .cond (.t 33) ( .skip) ( .exit 2)) <| .seq (.block 3 ( .seq (.draw ( .take (.f 36 2 6) <| .take (.m 38 5) <|
 .take (.m 39 8) <| .take (.o 40 (.iadr 1) [.t 38, .t 39]) <| .take (.m 42 9) <| .alt (.l 37 36) ( .al (.l 41 40) ( .take (.o 43 .sidx [.t 41, .t 42]) <|
 .take (.o 44 (.bin .neq 0) [.t 43, .c (.v (.int .u8 (46)))]) <| .al (.o 45 (.bsl 1) [.t 44]) c_spec_ReadPuzzle_L0_p0)) <| .al (.l 41 40) ( .take (.o 43 .sidx [.t 41, .t 42]) <| .take (.o 44 (.bin .neq 0) [.t 43,
 .c (.v (.int .u8 (46)))]) <| .alt (.l 37 36) ( .al (.o 45 (.bsl 1) [.t 44]) c_spec_ReadPuzzle_L0_p0) <| .al (.o 45 (.bsl 1) [.t 44]) ( .al (.l 37 36) c_spec_ReadPuzzle_L0_p0)))) <| .reg [.m 48 7, .m 49 5, .m 50 8, .o 51 (.iadr 1) [.t 49, .t 50], .l 52 51,
 .m 53 9, .m 54 9, .o 55 (.bin .add 0) [.t 54, .k 1], .o 56 (.sslice true true) [.t 52, .t 53, .t 55], .o 57 (.call 51 []) [.t 56], .o 58 (.bsl 1) [.t 57],
 .o 59 (.app 1 8 true) [.t 48, .t 58], .m 7 59])) <| .reg [.m 34 9, .o 35 (.bin .add 0) [.t 34, .k 1], .m 9 35]

def c_spec_ReadPuzzle_L1 : ACode := .seq (.seq (.reg [.m 23 8, .o 24 (.bin .geq 0) [.t 23, .k 0]]) <| .cond (.t 24) ( .skip) ( .exit 0)) <|
 .seq (.block 1 ( .seq (.reg [.o 9 .mv [.k 0]]) <| .block 2 ( .loop [(5, 1), (7, 1)] [0, 2, 5, 6, 7, 8, 9] c_spec_ReadPuzzle_L0))) <| .reg [.m 25 8,
 .o 26 (.bin .sub 0) [.t 25, .k 1], .m 8 26]

def c_spec_ReadPuzzle : ACode := .seq (.reg [.o 2 (.alloc rz) [], .o 3 .mv [.c (.os 1 [])], .o 4 .mv [.kb false]]) <| .seq (.reg [.m 10 0,
 .o 11 (.call 50 []) [.t 10, .c (.v (.int .u8 (47)))], .m 5 11]) <| .seq (.reg [.m 12 5, .o 13 (.iadr 1) [.t 12, .k 0], .l 14 13, .o 15 (.len true) [.t 14],
 .m 16 5, .n 17 16, .o 18 (.build rz [(0, 1), (1, 1)]) [.t 15, .t 17], .o 6 (.alloc rz) [], .s (.store 3) [.t 6, .t 18]]) <| .seq (.reg [.o 19 (.bsl 1) [],
 .m 7 19]) <| .seq (.seq (.reg [.m 20 5, .n 21 20, .o 22 (.bin .sub 0) [.t 21, .k 1], .m 8 22]) <| .block 0 ( .loop [(5, 1), (7, 1)] [0, 2, 5, 6, 7,
 8] c_spec_ReadPuzzle_L1)) <| .seq (.seq (.reg [.m 60 0, .o 61 (.bin .eql 1) [.t 60, .c (.v (.string ⟨#[]⟩))], .m 62 61, .g 63 (.load true 3) [.t 6] 62 false,
 .mg 64 7 62 false, .g 65 (.call 35 []) [.t 63, .t 64] 62 false, .mg 66 0 62 false, .g 67 (.bin .neq 1) [.t 65, .t 66] 62 false, .o 68 .pick [.t 62, .kb true,
 .t 67]]) <| .cond (.t 68) ( .seq (.reg [.o 69 (.build rz []) [], .o 70 (.bsl 1) [], .s (.store 3) [.t 2, .t 69], .m 3 70, .o 4 .mv [.kb false]]) <|
 .ret) ( .skip)) <| .seq (.reg [.la 71 3 6, .m 72 7, .s (.store 3) [.t 2, .t 71], .m 3 72, .o 4 .mv [.kb true]]) <| .ret

theorem k_spec_ReadPuzzle : cFn Tryd.prog n_spec_ReadPuzzle 73 [.c 2 true 3, .t 3, .t 4] c_spec_ReadPuzzle := ⟨Tryd.f18, _, Tryd.func18, rfl, by kernel_rfl, by kernel_rfl, by kernel_rfl, by kernel_rfl⟩

-- 2 parameters, results [.c 4 true 3, .t 5, .t 6], 91 slots, modes [false, false]
@[simp] abbrev n_impl_readRows : Nat := 52
def c_impl_readRows_L0 : ACode := .seq (.reg [.o 54 (.bin .lss 0) [.t 53, .t 52]]) <| .seq (.cond (.t 54) ( .skip) ( .exit 2)) <|
 .seq (.block 3 ( .seq (.reg [.m 55 53, .m 14 55]) <| .seq (.reg [.m 56 9, .o 57 (.bin .sub 0) [.t 56, .k 1], .m 58 12, .o 59 (.bin .sub 0) [.t 57, .t 58],
 .m 60 8, .o 61 (.bin .mul 0) [.t 59, .t 60], .m 62 14, .o 63 (.bin .add 0) [.t 61, .t 62], .m 15 63]) <| .seq (.reg [.m 64 11, .m 65 15, .m 66 13, .m 67 14,
 .o 68 .sidx [.t 66, .t 67], .o 69 (.iadr 1) [.t 64, .t 65], .s (.store 1) [.t 69, .t 68]]) <| .seq (.draw ( .take (.f 70 2 10) <| .take (.m 72 15) <|
 .take (.m 73 13) <| .take (.m 74 14) <| .take (.o 75 .sidx [.t 73, .t 74]) <| .take (.o 76 (.bin .neq 0) [.t 75, .c (.v (.int .u8 (46)))]) <|
 .al (.l 71 70) ( .take (.o 77 (.iadr 1) [.t 71, .t 72]) <| .al (.s (.store 1) [.t 77, .t 76]) ( .done)))) <| .seq (.reg [.m 78 1, .m 79 13, .m 80 14,
 .o 81 .sidx [.t 79, .t 80], .o 82 (.callv []) [.t 78, .t 81], .o 83 (.un .not) [.t 82]]) <| .cond (.t 83) ( .seq (.reg [.o 84 (.build rz []) [],
 .s (.store 3) [.t 4, .t 84], .o 5 .mv [.c (.os 1 [])], .o 6 .mv [.kb false]]) <| .ret) ( .skip))) <| .reg [.o 85 (.bin .add 0) [.t 53, .k 1], .m 53 85]

def c_impl_readRows_L1 : ACode := .seq (.reg [.o 43 (.bin .lss 0) [.t 42, .t 41]]) <| .seq (.cond (.t 43) ( .skip) ( .exit 0)) <|
 .seq (.block 1 ( .seq (.reg [.m 44 42, .o 45 (.iadr 1) [.t 40, .t 42], .l 46 45, .m 12 44, .m 13 46]) <| .seq (.seq (.reg [.m 47 13, .o 48 (.len true) [.t 47],
 .m 49 8, .o 50 (.bin .neq 0) [.t 48, .t 49]]) <| .cond (.t 50) ( .seq (.reg [.o 51 (.build rz []) [], .s (.store 3) [.t 4, .t 51], .o 5 .mv [.c (.os 1 [])],
 .o 6 .mv [.kb false]]) <| .ret) ( .skip)) <| .seq (.reg [.m 52 8, .o 53 .mv [.k 0]]) <| .block 2 ( .loop [(11, 1), (40, 1)] [1, 4, 8, 9, 10, 11, 12, 13, 40, 41,
 42, 52, 53] c_impl_readRows_L0))) <| .reg [.o 86 (.bin .add 0) [.t 42, .k 1], .m 42 86]

abbrev c_impl_readRows_p0 : Plan := .al (.s (.store 3) [.t 4, .t 87]) ( .take (.m 5 88) <| .take (.m 6 90) <| .done)
def c_impl_readRows : ACode := .seq (.reg [.o 4 (.alloc rz) [], .o 5 .mv [.c (.os 1 [])], .o 6 .mv [.kb false]]) <| .seq (.reg [.m 16 0,
 .o 17 (.call 57 []) [.t 16, .c (.v (.string ⟨#[47]⟩))], .m 7 17]) <| .seq (.reg [.m 18 7, .o 19 (.iadr 1) [.t 18, .k 0], .l 20 19, .o 21 (.len true) [.t 20],
 .m 22 7, .n 23 22, .m 8 21, .m 9 23]) <| .seq (.seq (.reg [.m 24 8, .o 25 (.call 46 []) [.t 24, .k 1, .k 6], .o 26 (.un .not) [.t 25], .m 27 26,
 .mg 28 9 27 false, .g 29 (.call 46 []) [.t 28, .k 1, .k 6] 27 false, .g 30 (.un .not) [.t 29] 27 false, .o 31 .pick [.t 27, .kb true, .t 30]]) <|
 .cond (.t 31) ( .seq (.reg [.o 32 (.build rz []) [], .s (.store 3) [.t 4, .t 32], .o 5 .mv [.c (.os 1 [])], .o 6 .mv [.kb false]]) <| .ret) ( .skip)) <|
 .seq (.reg [.m 33 8, .m 34 9, .o 35 (.call 76 []) [.t 33, .t 34], .o 10 (.alloc rz) [], .s (.store 3) [.t 10, .t 35]]) <| .seq (.reg [.m 36 8, .m 37 9,
 .o 38 (.bin .mul 0) [.t 36, .t 37], .o 39 (.mksl 1 1 (.v (.int .u8 (0)))) [.t 38, .t 38], .m 11 39]) <| .seq (.seq (.reg [.m 40 7, .n 41 40,
 .o 42 .mv [.k 0]]) <| .block 0 ( .loop [(11, 1), (40, 1)] [1, 4, 8, 9, 10, 11, 40, 41, 42] c_impl_readRows_L1)) <| .seq (.draw ( .take (.m 88 11) <|
 .alt (.la 87 3 10) ( .al (.la 89 3 10) ( .al (.o 90 (.call 68 []) [.t 89]) c_impl_readRows_p0)) <| .al (.la 89 3 10) ( .alt (.la 87 3 10) ( .al (.o 90 (.call 68 []) [.t 89]) c_impl_readRows_p0) <| .al (.o 90 (.call 68 []) [.t 89]) ( .al (.la 87 3 10) c_impl_readRows_p0)))) <| .ret

theorem k_impl_readRows : cFn Tryd.prog n_impl_readRows 91 [.c 4 true 3, .t 5, .t 6] c_impl_readRows := ⟨Tryd.f52, _, Tryd.func52, rfl, by kernel_rfl, by kernel_rfl, by kernel_rfl, by kernel_rfl⟩

-- 1 parameters, results [.t 2], 13 slots, modes [false]
@[simp] abbrev n_impl_ReadPuzzle_1 : Nat := 53

def c_impl_ReadPuzzle_1 : ACode := .seq (.reg [.o 2 .mv [.kb false]]) <| .seq (.reg [.m 3 0, .o 4 (.bin .eql 0) [.t 3, .c (.v (.int .u8 (46)))], .m 5 4,
 .mg 6 0 5 false, .g 7 (.bin .geq 0) [.t 6, .c (.v (.int .u8 (48)))] 5 false, .mg 8 7 5 false, .mg 9 0 8 true, .g 10 (.bin .leq 0) [.t 9,
 .c (.v (.int .u8 (54)))] 8 true, .g 11 .pick [.t 8, .t 10, .kb false] 5 false, .o 12 .pick [.t 5, .kb true, .t 11], .m 2 12]) <| .ret

theorem k_impl_ReadPuzzle_1 : cFn Tryd.prog n_impl_ReadPuzzle_1 13 [.t 2] c_impl_ReadPuzzle_1 := ⟨Tryd.f53, _, Tryd.func53, rfl, by kernel_rfl, by kernel_rfl, by kernel_rfl, by kernel_rfl⟩

-- 1 parameters, results [.c 2 true 3, .t 3, .t 4], 44 slots, modes [false]
@[simp] abbrev n_impl_ReadPuzzle : Nat := 19
def c_impl_ReadPuzzle_L0 : ACode := .seq (.reg [.o 26 (.bin .lss 0) [.t 25, .t 24]]) <| .seq (.cond (.t 26) ( .skip) ( .exit 0)) <|
 .seq (.block 1 ( .seq (.reg [.m 27 25, .o 28 (.iadr 1) [.t 23, .t 25], .l 29 28, .m 9 27, .m 10 29]) <| .seq (.reg [.m 30 8, .m 31 9, .o 32 (.iadr 1) [.t 30,
 .t 31], .s (.store 1) [.t 32, .k (-1)]]) <| .seq (.reg [.m 33 10, .o 34 (.bin .neq 0) [.t 33, .c (.v (.int .u8 (46)))]]) <| .cond (.t 34) ( .reg [.m 35 8,
 .m 36 9, .m 37 10, .o 38 (.bin .sub 0) [.t 37, .c (.v (.int .u8 (48)))], .o 39 (.conv .i64) [.t 38], .o 40 (.iadr 1) [.t 35, .t 36], .s (.store 1) [.t 40,
 .t 39]]) ( .skip))) <| .reg [.o 41 (.bin .add 0) [.t 25, .k 1], .m 25 41]

def c_impl_ReadPuzzle : ACode := .seq (.reg [.o 2 (.alloc rz) [], .o 3 .mv [.c (.os 1 [])], .o 4 .mv [.kb false]]) <| .seq (.reg [.m 12 0,
 .o 13 (.call 52 []) [.t 12, .f 53], .m 11 13, .e 14 0 11, .e 15 1 11, .e 16 2 11, .o 5 (.alloc rz) [], .s (.store 3) [.t 5, .t 14], .m 6 15, .m 7 16]) <|
 .seq (.seq (.reg [.m 17 7, .o 18 (.un .not) [.t 17]]) <| .cond (.t 18) ( .seq (.reg [.o 19 (.build rz []) [], .s (.store 3) [.t 2, .t 19],
 .o 3 .mv [.c (.os 1 [])], .o 4 .mv [.kb false]]) <| .ret) ( .skip)) <| .seq (.reg [.m 20 6, .n 21 20, .o 22 (.mksl 1 8 (.v (.int .i64 (0)))) [.t 21, .t 21],
 .m 8 22]) <| .seq (.seq (.reg [.m 23 6, .n 24 23, .o 25 .mv [.k 0]]) <| .block 0 ( .loop [(8, 1), (23, 1)] [2, 5, 8, 23, 24, 25] c_impl_ReadPuzzle_L0)) <|
 .seq (.reg [.la 42 3 5, .m 43 8, .s (.store 3) [.t 2, .t 42], .m 3 43, .o 4 .mv [.kb true]]) <| .ret

theorem k_impl_ReadPuzzle : cFn Tryd.prog n_impl_ReadPuzzle 44 [.c 2 true 3, .t 3, .t 4] c_impl_ReadPuzzle := ⟨Tryd.f19, _, Tryd.func19, rfl, by kernel_rfl, by kernel_rfl, by kernel_rfl, by kernel_rfl⟩

-- 1 parameters, results [.t 2], 97 slots, modes [false]
@[simp] abbrev n_laws_FnExactReadPuzzle : Nat := 5

def c_laws_FnExactReadPuzzle : ACode := .seq (.reg [.o 2 .mv [.kb false]]) <| .seq (.seq (.reg [.m 14 0, .o 15 (.len true) [.t 14], .o 16 (.bin .gtr 0) [.t 15,
 .k 1048576]]) <| .cond (.t 16) ( .seq (.reg [.o 2 .mv [.kb true]]) <| .ret) ( .skip)) <| .seq (.reg [.m 18 0, .o 19 (.call 18 []) [.t 18], .m 17 19, .e 20 0 17,
 .e 21 1 17, .e 22 2 17, .o 3 (.alloc rz) [], .s (.store 3) [.t 3, .t 20], .m 4 21, .m 5 22]) <| .seq (.reg [.m 24 0, .o 25 (.call 19 []) [.t 24], .m 23 25,
 .e 26 0 23, .e 27 1 23, .e 28 2 23, .o 6 (.alloc rz) [], .s (.store 3) [.t 6, .t 26], .m 7 27, .m 8 28]) <| .seq (.seq (.reg [.la 29 3 6, .la 30 3 3,
 .o 31 (.call 20 []) [.t 29, .t 30], .o 32 (.un .not) [.t 31], .m 33 32, .mg 34 7 33 false, .mg 35 4 33 false, .g 36 (.call 21 []) [.t 34, .t 35] 33 false,
 .g 37 (.un .not) [.t 36] 33 false, .o 38 .pick [.t 33, .kb true, .t 37], .m 39 38, .mg 40 8 39 false, .mg 41 5 39 false, .g 42 (.bin .neq 2) [.t 40,
 .t 41] 39 false, .o 43 .pick [.t 39, .kb true, .t 42]]) <| .cond (.t 43) ( .seq (.reg [.o 2 .mv [.kb false]]) <| .ret) ( .skip)) <|
 .seq (.reg [.o 9 .mv [.k 1]]) <| .seq (.reg [.la 44 3 6, .m 45 9, .o 46 (.call 22 []) [.t 44, .t 45], .m 9 46]) <| .seq (.reg [.m 47 7, .m 48 9,
 .o 49 (.call 23 []) [.t 47, .t 48], .m 9 49]) <| .seq (.reg [.o 10 .mv [.k 1]]) <| .seq (.reg [.la 50 3 6, .m 51 10, .o 52 (.call 24 []) [.t 50, .t 51],
 .m 10 52]) <| .seq (.seq (.reg [.m 53 10, .o 54 (.bin .lss 0) [.t 53, .k 0]]) <| .cond (.t 54) ( .seq (.reg [.o 2 .mv [.kb false]]) <| .ret) ( .skip)) <|
 .seq (.reg [.m 55 7, .m 56 10, .o 57 (.call 25 []) [.t 55, .t 56], .m 10 57]) <| .seq (.seq (.reg [.m 58 10, .o 59 (.bin .lss 0) [.t 58, .k 0]]) <|
 .cond (.t 59) ( .seq (.reg [.o 2 .mv [.kb false]]) <| .ret) ( .skip)) <| .seq (.seq (.reg [.m 60 10, .m 61 9, .o 62 (.bin .neq 0) [.t 60, .t 61]]) <|
 .cond (.t 62) ( .seq (.reg [.o 2 .mv [.kb false]]) <| .ret) ( .skip)) <| .seq (.reg [.m 64 0, .o 65 (.call 19 []) [.t 64], .m 63 65, .e 66 0 63, .e 67 1 63,
 .e 68 2 63, .o 11 (.alloc rz) [], .s (.store 3) [.t 11, .t 66], .m 12 67, .m 13 68]) <| .seq (.seq (.reg [.la 69 3 11, .la 70 3 3, .o 71 (.call 20 []) [.t 69,
 .t 70], .o 72 (.un .not) [.t 71], .m 73 72, .mg 74 12 73 false, .mg 75 4 73 false, .g 76 (.call 21 []) [.t 74, .t 75] 73 false,
 .g 77 (.un .not) [.t 76] 73 false, .o 78 .pick [.t 73, .kb true, .t 77], .m 79 78, .mg 80 13 79 false, .mg 81 5 79 false, .g 82 (.bin .neq 2) [.t 80,
 .t 81] 79 false, .o 83 .pick [.t 79, .kb true, .t 82]]) <| .cond (.t 83) ( .seq (.reg [.o 2 .mv [.kb false]]) <| .ret) ( .skip)) <|
 .seq (.reg [.o 10 .mv [.k 1]]) <| .seq (.reg [.la 84 3 6, .m 85 10, .o 86 (.call 24 []) [.t 84, .t 85], .m 10 86]) <| .seq (.seq (.reg [.m 87 10,
 .o 88 (.bin .lss 0) [.t 87, .k 0]]) <| .cond (.t 88) ( .seq (.reg [.o 2 .mv [.kb false]]) <| .ret) ( .skip)) <| .seq (.reg [.m 89 7, .m 90 10,
 .o 91 (.call 25 []) [.t 89, .t 90], .m 10 91]) <| .seq (.seq (.reg [.m 92 10, .o 93 (.bin .lss 0) [.t 92, .k 0]]) <|
 .cond (.t 93) ( .seq (.reg [.o 2 .mv [.kb false]]) <| .ret) ( .skip)) <| .seq (.seq (.reg [.m 94 10, .m 95 9, .o 96 (.bin .neq 0) [.t 94, .t 95]]) <|
 .cond (.t 96) ( .seq (.reg [.o 2 .mv [.kb false]]) <| .ret) ( .skip)) <| .seq (.reg [.o 2 .mv [.kb true]]) <| .ret

theorem k_laws_FnExactReadPuzzle : cFn Tryd.prog n_laws_FnExactReadPuzzle 97 [.t 2] c_laws_FnExactReadPuzzle := ⟨Tryd.f5, _, Tryd.func5, rfl, by kernel_rfl, by kernel_rfl, by kernel_rfl, by kernel_rfl⟩

end Go.Proofs.Dev

namespace Go.Proofs
open Go.Shelf
open Go.RowKit in
open Go.RowKit in
open Go.RowKit Go.Lib in
open Go.RowKit Go.Lib in
open Go.RowKit Go.Lib in
def Tryd.lays146_ren : Go.Shelf.Ren := ⟨fun | 146 => 57 | 221 => 77 | 268 => 92 | 138 => 93 | 143 => 60 | 195 => 118 | 197 => 119 | 218 => 120 | 219 => 80 | 260 => 138 | 217 => 99 | 225 => 100 | 224 => 101 | 267 => 102 | 266 => 124 | 314 => 125 | n => n, fun | 9 => 9 | 31 => 62 | 3 => 3 | 4 => 4 | 0 => 0 | 105 => 129 | 21 => 21 | 5 => 5 | 46 => 117 | 119 => 151 | 139 => 154 | 138 => 153 | 146 => 138 | 51 => 137 | n => n, fun | 1 => 1 | 3 => 5 | 4 => 6 | n => n⟩
theorem Tryd.lays146 : Go.Proofs.Lays.n146 Tryd.prog Tryd.lays146_ren := {
  mixed := by kernel_rfl
  f138 := Tryd.func93.trans (congrArg some (by kernel_rfl))
  f143 := Tryd.func60.trans (congrArg some (by kernel_rfl))
  f146 := Tryd.func57.trans (congrArg some (by kernel_rfl))
  f195 := Tryd.func118.trans (congrArg some (by kernel_rfl))
  f197 := Tryd.func119.trans (congrArg some (by kernel_rfl))
  f217 := Tryd.func99.trans (congrArg some (by kernel_rfl))
  f218 := Tryd.func120.trans (congrArg some (by kernel_rfl))
  f219 := Tryd.func80.trans (congrArg some (by kernel_rfl))
  f221 := Tryd.func77.trans (congrArg some (by kernel_rfl))
  f224 := Tryd.func101.trans (congrArg some (by kernel_rfl))
  f225 := Tryd.func100.trans (congrArg some (by kernel_rfl))
  f260 := Tryd.func138.trans (congrArg some (by kernel_rfl))
  f266 := Tryd.func124.trans (congrArg some (by kernel_rfl))
  f267 := Tryd.func102.trans (congrArg some (by kernel_rfl))
  f268 := Tryd.func92.trans (congrArg some (by kernel_rfl))
  f314 := Tryd.func125.trans (congrArg some (by kernel_rfl))
  t0 := Tryd.underlying0
  a0 := Tryd.isAgg0
  z0 := Tryd.sizeOf0
  v0 := Tryd.zeroValue0
  t3 := Tryd.underlying3
  a3 := Tryd.isAgg3
  z3 := Tryd.sizeOf3
  v3 := Tryd.zeroValue3
  t4 := Tryd.underlying4
  a4 := Tryd.isAgg4
  z4 := Tryd.sizeOf4
  v4 := Tryd.zeroValue4
  t5 := Tryd.underlying5
  a5 := Tryd.isAgg5
  z5 := Tryd.sizeOf5
  v5 := Tryd.zeroValue5
  t9 := Tryd.underlying9
  a9 := Tryd.isAgg9
  z9 := Tryd.sizeOf9
  v9 := Tryd.zeroValue9
  t21 := Tryd.underlying21
  a21 := Tryd.isAgg21
  z21 := Tryd.sizeOf21
  v21 := Tryd.zeroValue21
  t31 := Tryd.underlying62
  a31 := Tryd.isAgg62
  z31 := Tryd.sizeOf62
  v31 := Tryd.zeroValue62
  t46 := Tryd.underlying117
  a46 := Tryd.isAgg117
  z46 := Tryd.sizeOf117
  v46 := Tryd.zeroValue117
  t51 := Tryd.underlying137
  a51 := Tryd.isAgg137
  z51 := Tryd.sizeOf137
  v51 := Tryd.zeroValue137
  t105 := Tryd.underlying129
  a105 := Tryd.isAgg129
  z105 := Tryd.sizeOf129
  v105 := Tryd.zeroValue129
  t119 := Tryd.underlying151
  a119 := Tryd.isAgg151
  z119 := Tryd.sizeOf151
  t138 := Tryd.underlying153
  a138 := Tryd.isAgg153
  z138 := Tryd.sizeOf153
  v138 := Tryd.zeroValue153
  t139 := Tryd.underlying154
  a139 := Tryd.isAgg154
  z139 := Tryd.sizeOf154
  v139 := Tryd.zeroValue154
  t146 := Tryd.underlying138
  a146 := Tryd.isAgg138
  z146 := Tryd.sizeOf138
  v146 := Tryd.zeroValue138
  g1 := by kernel_rfl
  g3 := by kernel_rfl
  g4 := by kernel_rfl }
open Go.RowKit Go.Lib in
/-- strings.Split. (LAID: no walk: one application.) -/
theorem Tryd.strings_Split (s sep : ByteArray) (m : Int) (w : World) (hs : s.size < 4294967281) (hm : w.cell? ⟨1, 0, none⟩ = some (.int .i64 m)) (h1 : 1 ≤ sep.size) :
    Calls Tryd.prog 57 #[.string s, .string sep] w fun e w' =>
      e = .returned (.slice (some ⟨w.heap.size, 0, none⟩) (Lib.countB s sep + 1) (Lib.countB s sep + 1)) ∧ w' = w.alloc (.cells ((Lib.splitB sep 0 (Lib.countB s sep) s).map Value.string).toArray 9) := Any.strings_Split Tryd.lays146 (by kernel_rfl) s sep m w hs hm h1
end Go.Proofs
